/-
  
-/
import Derived.Test.YtfobhkibkdmglaaGreatFlashBetweenP5
import Derived.Test.YtfobhkibkdmglaaGreatFlashBetweenP2
import Derived.Below
import Derived.ChangeSame
import Derived.Carry
import Derived.ChangeArms
import Derived.OpenShut
import Derived.RowKit3
namespace Go.Proofs.YtfobhkibkdmglaaGreat
open Go.Sx
set_option maxRecDepth 100000
set_option linter.unusedVariables false
set_option linter.unusedSimpArgs false
def stepE (get:ByteArray->Option ItemM) (o:Option ItemM):ByteArray->Option ItemM:=match o with
 | none=>fun _=>none
 | some x=>updK get x.key (if x.gone then none else some x)
def gE (es:List (Option ItemM)):ByteArray->Option ItemM:=es.foldl stepE fun _=>none
theorem gE_push (es:List (Option ItemM)) (o:Option ItemM):gE (es++[o])=stepE (gE es) o:=by simp [gE]
structure FlNow (m:FlM) (n:Nat) (rs:List RecM) (es:List (Option ItemM)):Prop where
 one:FlOne m n rs (gE es)
 len:es.length=rs.length
 body:∀ i,i<es.length->(gl rs i).body=bodyOf (gl es i)/\∀ x,gl es i=some x->mayB x=true
theorem body_push {rs:List RecM} {es:List (Option ItemM)} {p:Int} {x:ItemM} (hl:es.length=rs.length) (h:∀ i,i<es.length->(gl rs i).body=bodyOf (gl es i)/\∀ x,gl es i=some x->mayB x=true) (hx:mayB x=true) :
 (es++[some x]).length=(rs++[(⟨p,bodyOf (some x)⟩:RecM)]).length/\∀ i,i<(es++[some x]).length->(gl (rs++[(⟨p,bodyOf (some x)⟩:RecM)]) i).body=bodyOf (gl (es++[some x]) i)/\∀ z,gl (es++[some x]) i=some z->mayB z=true:=by
 refine ⟨by simp [hl],fun i hi=>?_⟩;rw [List.length_append,List.length_singleton] at hi;rw [gl_app hi,gl_app (by rw [<- hl];exact hi),hl];by_cases hin:i<rs.length
 ·rw [if_pos hin,if_pos hin];exact h i (by omega)
 ·rw [if_neg hin,if_neg hin];exact ⟨rfl,fun z e=>by cases e;exact hx⟩
theorem FlNow.put {m:FlM} {n:Nat} {rs:List RecM} {es:List (Option ItemM)} (h:FlNow m n rs es) {x:ItemM} (hx:putOk x=true) (hn:m.L.next<9999999999) (hfit:(bufOf rs).length+8+(bodyOf (some x)).length<=378) :
 FlNow (putF m x) (n+20) (rs++[⟨m.L.next,bodyOf (some x)⟩]) (es++[some x])/\(putF m x).L.next=m.L.next+1/\(putF m x).L.segs=m.L.segs/\(putF m x).L.from_=m.L.from_:=by
 have hx2:mayB x=true/\x.gone=false:=by unfold putOk at hx;simpa using hx
 obtain ⟨h1,h2⟩:=h.one.put hx hn hfit;obtain ⟨b1,b2⟩:=body_push (p:=m.L.next) h.len h.body hx2.1;refine ⟨⟨?_,b1,b2⟩,h2⟩;rw [gE_push];simp only [stepE,hx2.2];exact h1
theorem FlNow.drop {m:FlM} {n:Nat} {rs:List RecM} {es:List (Option ItemM)} (h:FlNow m n rs es) {k:ByteArray} (hk:keyB k=true) (hn:m.L.next<9999999999) (hfit:(bufOf rs).length+8+(bodyOf (some (itemD k))).length<=378) :
 FlNow (dropF m k) (n+20) (rs++[⟨m.L.next,bodyOf (some (itemD k))⟩]) (es++[some (itemD k)])/\(dropF m k).L.next=m.L.next+1/\(dropF m k).L.segs=m.L.segs/\(dropF m k).L.from_=m.L.from_:=by
 obtain ⟨h1,h2⟩:=h.one.drop hk hn hfit;obtain ⟨b1,b2⟩:=body_push (p:=m.L.next) h.len h.body (itemD_may hk);refine ⟨⟨?_,b1,b2⟩,h2⟩;rw [gE_push];exact h1
theorem FlNow.flush {m:FlM} {n:Nat} {rs:List RecM} {es:List (Option ItemM)} (h:FlNow m n rs es):FlNow (flushF m) (n+1) rs es:=⟨h.one.flush,h.len,h.body⟩
theorem FlNow.new {fr sg:Nat} {d:DevM} {n:Nat} {run:Int} (h3:3<=sg/\sg<=200) (hr:fr+sg*8<=d.n) (hn:d.n<100000) (hc:d.calls<=n) (hd:DevIs fr sg none run d):FlNow (newF fr sg d) n [] []:=⟨FlOne.new h3 hr hn hc hd,rfl,fun i hi=>absurd hi (Nat.not_lt_zero i)⟩
theorem idx_get {rs:List RecM} {es:List (Option ItemM)} (hl:es.length=rs.length) (h:∀ i,i<es.length->(gl rs i).body=bodyOf (gl es i)/\∀ x,gl es i=some x->mayB x=true):∀ i,i<=es.length ->
 (∀ e∈idxTo es rs i,∃ x,gE (es.take i) e.1=some x/\x.key=e.1/\mayB x=true/\(⟨e.2,bodyOf (some x)⟩:RecM)∈rs)/\∀ k,gE (es.take i) k≠none->k∈(idxTo es rs i).map Prod.fst
 | 0,_=>⟨fun e he=>(by cases he),fun k hk=>absurd rfl hk⟩
 | i+1,hi=>by
  obtain ⟨h1,h2⟩:=idx_get hl h i (by omega);obtain ⟨hb,hm⟩:=h i (by omega);have hst:idxTo es rs (i+1)=idxStep (idxTo es rs i) (gl es i) (gl rs i).pos:=rfl;rw [hst,take_push (show i<es.length by omega),gE_push];cases ho:gl es i with
  | none=>exact ⟨fun e he=>(by cases he),fun k hk=>absurd rfl hk⟩
  | some x =>
   rw [ho] at hb hm;have hx:=hm x rfl;have hmem:(⟨(gl rs i).pos,bodyOf (some x)⟩:RecM)∈rs:=by
    rw [<- hb,gl_eq (show i<rs.length by omega)];exact List.getElem_mem _
   simp only [idxStep,stepE];cases hg:x.gone with
   | true =>
    simp only [if_true];refine ⟨fun e he=>?_,fun k hk=>?_⟩
    ·obtain ⟨he,hne⟩:=mem_dropK.1 he;obtain ⟨x',g1,g2⟩:=h1 e he;exact ⟨x',by unfold updK;rw [if_neg hne];exact g1,g2⟩
    ·by_cases e:k=x.key
     ·subst e;exact absurd (if_pos rfl) hk
     ·have hk:gE (es.take i) k≠none:=by unfold updK at hk;rwa [if_neg e] at hk
      obtain ⟨q,hq,rfl⟩:=List.mem_map.1 (h2 k hk);exact List.mem_map.2 ⟨q,mem_dropK.2 ⟨hq,e⟩,rfl⟩
   | false =>
    refine ⟨fun e he=>?_,fun k hk=>?_⟩
    ·rcases List.mem_cons.1 he with rfl|he
     ·exact ⟨x,if_pos rfl,rfl,hx,hmem⟩
     ·obtain ⟨he,hne⟩:=mem_dropK.1 he;obtain ⟨x',g1,g2⟩:=h1 e he;exact ⟨x',by unfold updK;rw [if_neg hne];exact g1,g2⟩
    ·by_cases e:k=x.key
     ·subst e;exact List.mem_map.2 ⟨(x.key,(gl rs i).pos),List.mem_cons_self,rfl⟩
     ·have hk:gE (es.take i) k≠none:=by unfold updK at hk;rwa [if_neg e] at hk
      obtain ⟨q,hq,rfl⟩:=List.mem_map.1 (h2 k hk);exact List.mem_map.2 ⟨q,List.mem_cons_of_mem _ (mem_dropK.2 ⟨hq,e⟩),rfl⟩
theorem reopen {m:FlM} {n:Nat} {rs:List RecM} {es:List (Option ItemM)} (h:FlNow m n rs es) {d':DevM} (hd:∀ r j,d'.now r j=m.d.now r j) (hn:d'.n=m.d.n) (H:PH) :
 cFOpen.pre ⟨H,d',m.L.from_,m.L.segs,es⟩/\FlGet (opnF ⟨H,d',m.L.from_,m.L.segs,es⟩) rs (gE es)/\(opnF ⟨H,d',m.L.from_,m.L.segs,es⟩).l.length<=es.length:=by
 have hl:=h.one.log;obtain ⟨base,b1,b2,hlst⟩:=hl.lst;have hlen:=hl.len;have hdev:DevIs m.L.from_ m.L.segs m.L.l.head? m.L.run d':=⟨fun i hi j hj=>by rw [hd];exact hl.dev.sec i hi j hj,fun r h1 h2 j hj=>by rw [hd];exact hl.dev.rest r h1 h2 j hj⟩
 have key:OpenOk m.L.from_ m.L.segs d'/\LogRd (openM m.L.from_ m.L.segs d') rs:=by
  by_cases he:rs=[]
  ·subst he;rw [hlst] at hdev;obtain ⟨k1,k2⟩:=open_none (run:=m.L.run) hdev hl.segs (by rw [hn];exact hl.room) (by rw [hn];exact hl.size);rw [k2];exact ⟨k1,rfl,by show (0:Nat)<1000;omega,hl.sort,fun r hr=>(by cases hr),fun i hi=>absurd hi (Nat.not_lt_zero i)⟩
  ·rw [hlst,oneL_ne he] at hdev;obtain ⟨k1,_,_,k4,_⟩:=open_one (hdev:DevIs _ _ (some _) _ _) hl.segs (by rw [hn];exact hl.room) (by rw [hn];exact hl.size) (fun r hr=>⟨(hl.good r hr).1,by have:=(hl.good r hr).2;have:=hl.next;omega⟩) he hl.fits ⟨b1,b2⟩ hl.run;refine ⟨k1,by rw [k4];simp [allR],by rw [k4];show (1:Nat)<1000;omega,hl.sort,fun r hr=>(hl.good r hr).1.len,fun i hi=>?_⟩;rw [k4] at hi ⊢;have:i=0:=by simpa using hi
   subst this;show rs.length<=400;omega
 obtain ⟨k1,k2⟩:=key;have hall:=k2.all;obtain ⟨g1,g2⟩:=idx_get h.len h.body es.length (Nat.le_refl _);rw [List.take_length] at g1 g2;refine ⟨⟨k1,⟨by rw [hall];exact h.len,by show es.length<9000;have:=h.len;omega,by rw [hall];exact h.body⟩,k2.seg⟩,⟨k2,?_,?_⟩,?_⟩
 ·show ∀ e∈idxTo es (allR (openM m.L.from_ m.L.segs d').l) es.length,_;rw [hall];exact g1
 ·show ∀ k,gE es k≠none->k∈(idxTo es (allR (openM m.L.from_ m.L.segs d').l) es.length).map Prod.fst;rw [hall];exact g2
 ·exact idxTo_len _ _ _
theorem new_is (fr sg:Nat) (n:Int) (run:Int):DevIs fr sg none run (devNew n):=⟨fun _ _ _ _=>rfl,fun _ _ _ _ _=>rfl⟩
theorem open_new {fr sg:Nat} {n:Int} (h3:3<=sg/\sg<=200) (hr:fr+sg*8<=(devNew n).n) (H:PH):cFOpen.pre ⟨H,devNew n,fr,sg,[]⟩/\opnF ⟨H,devNew n,fr,sg,[]⟩=newF fr sg (devNew n):=by
 have hn:(devNew n).n<100000:=by simp only [devNew];omega
 obtain ⟨k1,k2⟩:=open_none (new_is fr sg n 1) h3 hr hn;refine ⟨⟨k1,⟨by rw [k2];rfl,by show (0:Nat)<9000;omega,fun i hi=>absurd hi (Nat.not_lt_zero i)⟩,by rw [k2];exact fun i hi=>absurd hi (Nat.not_lt_zero i)⟩,?_⟩;unfold opnF newF;rw [k2];rfl
theorem keys_len {x:Ix.IdxR} {l:List (ByteArray × Int)} (h:Ix.Has x l):(Ix.keysOf x.t).length=l.length:=by
 unfold Ix.keysOf;rw [List.length_map,h.perm.length_eq]
def itK:ItemM:=⟨⟨#[107]⟩,⟨#[118]⟩,9,false⟩
theorem appD_n (L:LogM) (d:DevM) (body:List Int):(appD L d body).n=d.n:=by
 have h1:(appD1 L d body.length).n=d.n:=by unfold appD1;split<;>rfl
 have h2:=(writesTo_n (appL1 L body.length) (segW (lastG (appL1 L body.length)) (appL1 L body.length).next body) (lastG (appL1 L body.length)).buf.length (appD1 L d body.length) 8).1;unfold appD appD2;split
 ·exact h2.trans h1
 ·exact h2.trans h1
noncomputable def tabFl:List (Nat × Con):=[(9,cDevNew),(8,cFOpen),(12,cFPut),(26,cFGet),(21,cDevCrash),(64,cDevFlush),(15,cFDrop),(40,Ix.cKeys)]
theorem tabFl_ok:TabOk (Y Tryz.prog).G.X tabFl:=⟨callDevNew,callFOpen,callFPut,callFGet,callDevCrash,callDevFlush,callFDrop,Ix.callKeys,trivial⟩
noncomputable def cBegunF:Con where
 α:=Unit
 β:=Unit
 m:=0
 m':=0
 pre:=fun _=>True
 args:=fun _=>[]
 hp:=fun _=>[]
 ro:=fun _=>[]
 post:=fun _ _=>True
 res:=fun _ _=>.a .tt
 hp':=fun _ _=>[]
set_option maxHeartbeats 4000000 in
theorem bodyBegunF:fnBody (Y Tryz.prog) tabFl 7 cBegunF fun _=>[(7,[],[An.newPool 1 (.mk 1000 [] [])])]:=fnBody.of (p :=
 ∀ a:Unit,True->∃ a:Int,(100:Int)=a/\True/\∀ b:Unit,True->∃ a_2:FOpenA,0=0/\2=(↑a_2.from_:Int)/\10=(↑a_2.segs:Int)/\(fun (x:Nat)=>none)=a_2.H/\devQ (devNew a) a_2.d ((OpenOk a_2.from_ a_2.segs a_2.d/\EsOk a_2.es (allR (openM a_2.from_ a_2.segs a_2.d).l)/\∀ i:Nat,i<(openM a_2.from_ a_2.segs a_2.d).l.length->(gl (openM a_2.from_ a_2.segs a_2.d).l i).recs.length<=400)/\∀ b:FlP,(FlAt (opnF a_2) b/\∀ z:Nat,a_2.H z≠none->b.H z=a_2.H z/\¬z∈fpLog b.y)->(false=true->∃ b:Unit,false=true/\True/\True)/\(false=false->∃ a_5:FPutA,0=0/\{ data:=#[(107:UInt8)] }=a_5.x.key/\{ data:=#[(118:UInt8)] }=a_5.x.val/\(9:Int)=a_5.x.e/\false=a_5.x.gone/\0=0/\0=0/\0=0/\logQ (opnF a_2).L a_5.m.L b.y.lv a_5.p.y.lv (devQ (devNew a) a_5.m.d (idxQ b.x a_5.p.x b.cap a_5.p.cap (b.H=a_5.p.H/\(FlAt a_5.m a_5.p/\(putOk a_5.x=true->FlOk a_5.m (bodyOf (some a_5.x)).length))/\∀ b:FlP,FlAt (putF a_5.m a_5.x) b/\FlFr a_5.p b->∃ a:FGetA,0=0/\{ data:=#[(107:UInt8)] }=a.key/\(5:Int)=a.now/\0=0/\0=0/\0=0/\logQ (putF a_5.m a_5.x).L a.m.L b.y.lv a.p.y.lv (devQ (putF a_5.m a_5.x).d a.m.d (idxQ b.x a.p.x b.cap a.p.cap (b.H=a.p.H/\(FlAt a.m a.p/\FlRd a.m/\EntIs a.m a.key a.r/\a.key.size<=lenMax)/\∀ b_1:Unit,True->∃ a_7:FGetA,0=0/\{ data:=#[(107:UInt8)] }=a_7.key/\(9:Int)=a_7.now/\0=0/\0=0/\0=0/\logQ (putF a_5.m a_5.x).L a_7.m.L b.y.lv a_7.p.y.lv (devQ (putF a_5.m a_5.x).d a_7.m.d (idxQ b.x a_7.p.x b.cap a_7.p.cap (b.H=a_7.p.H /\
 (FlAt a_7.m a_7.p/\FlRd a_7.m/\EntIs a_7.m a_7.key a_7.r/\a_7.key.size<=lenMax)/\∀ b_2:Unit,True->∃ a_9:DevM,0=0/\devQ (putF a_5.m a_5.x).d a_9 ((a_9.n<100000/\a_9.calls<1000000000000)/\∀ b_3:Unit,True->∃ a_11:CrashA,0=0/\(0=a_11.klen/\0=a_11.kcap)/\devQ (devFl a_9) a_11.d (a_11.kn=0/\(1<=a_11.d.n/\a_11.d.n<=2048/\a_11.kr+a_11.klen<=a_11.kn/\a_11.klen<100000)/\∀ b_4:Unit,True->∃ a_13:FOpenA,0=0/\2=(↑a_13.from_:Int)/\10=(↑a_13.segs:Int)/\b.H=a_13.H/\devQ (devCrash a_11.d a_11.klen fun (i:Nat)=>a_11.keep (a_11.kr+i)) a_13.d ((OpenOk a_13.from_ a_13.segs a_13.d/\EsOk a_13.es (allR (openM a_13.from_ a_13.segs a_13.d).l)/\∀ i:Nat,i<(openM a_13.from_ a_13.segs a_13.d).l.length->(gl (openM a_13.from_ a_13.segs a_13.d).l i).recs.length<=400)/\∀ b_5:FlP,(FlAt (opnF a_13) b_5/\∀ z:Nat,a_13.H z≠none->b_5.H z=a_13.H z/\¬z∈fpLog b_5.y)->∃ a_15:FGetA,0=0/\{ data:=#[(107:UInt8)] }=a_15.key/\(0:Int)=a_15.now/\0=0/\0=0/\0=0/\logQ (opnF a_13).L a_15.m.L b_5.y.lv a_15.p.y.lv (devQ (devCrash a_11.d a_11.klen fun (i:Nat)=>a_11.keep (a_11.kr+i)) a_15.m.d (idxQ b_5.x a_15.p.x b_5.cap a_15.p.cap (b_5.H=a_15.p.H/\(FlAt a_15.m a_15.p/\FlRd a_15.m/\EntIs a_15.m a_15.key a_15.r/\a_15.key.size<=lenMax)/\∀ b_6:Unit,True->(((if putOk a_5.x=true then (0:Int) else (1:Int)) == (0:Int))=true->((getR a.r a.now).isSome=true->(decide (((getR a.r a.now).getD zeroItem).val={ data:=#[(118:UInt8)] })=true ->
 ((!(getR a_7.r a_7.now).isSome)=true->(true=true->(true=true->((getR a_15.r a_15.now).isSome=true->InR .i64 ((getR a_15.r a_15.now).getD zeroItem).e->((((getR a_15.r a_15.now).getD zeroItem).e == (9:Int))=true->∃ a:FDropA,0=0/\(0=0/\1=a.ks.length/\1=a.cap)/\0=0/\0=0/\0=0/\logQ (putF a_5.m a_5.x).L a.m.L b.y.lv a.p.y.lv (devQ (devFl a_9) a.m.d (idxQ b.x a.p.x b.cap a.p.cap (b_5.H=a.p.H/\(a.ks.length<=1/\RowsEq a.ks.length 1 (flatRows 1 [Value.string { data:=#[(107:UInt8)] }]) (encRows encT a.ks))/\(FlAt a.m a.p/\a.ks.length<1000/\(allK a.ks=true->(∀ i:Nat,i<a.ks.length->FlOk (dropTo a.m a.ks i) (bodyOf (some (itemD (gl a.ks i)))).length)/\(dropTo a.m a.ks a.ks.length).d.n<100000/\(dropTo a.m a.ks a.ks.length).d.calls<1000000000000))/\∀ b:FlP,FlAt (dropsF a.m a.ks) b/\FlFr a.p b->(((if allK a.ks=true then (0:Int) else (1:Int)) == (0:Int))=true->∃ a:Ix.KeyA,0=0/\idxQ b.x a.x b.cap a.cap (a.x.t.length<100000/\∀ b:Nat,True->∃ b:Unit,((↑(Ix.keysOf a.x.t).length:Int) == 0)=true/\True/\True))/\(((if allK a.ks=true then (0:Int) else (1:Int)) == (0:Int))=false->∃ b:Unit,false=true/\True/\True)))))/\((((getR a_15.r a_15.now).getD zeroItem).e == (9:Int))=false->∃ b:Unit,false=true/\True/\True))/\((getR a_15.r a_15.now).isSome=false->∃ b:Unit,false=true/\True/\True))/\(true=false->∃ b:Unit,false=true/\True/\True))/\(true=false ->
 ∃ b:Unit,false=true/\True/\True))/\((!(getR a_7.r a_7.now).isSome)=false->∃ b:Unit,false=true/\True/\True))/\(decide (((getR a.r a.now).getD zeroItem).val={ data:=#[(118:UInt8)] })=false->∃ b:Unit,false=true/\True/\True))/\((getR a.r a.now).isSome=false->∃ b:Unit,false=true/\True/\True))/\(((if putOk a_5.x=true then (0:Int) else (1:Int)) == (0:Int))=false->∃ b:Unit,false=true/\True/\True))))))))))))))))))) (by kernel_rfl) (by
 intro _ _;obtain ⟨o1,o2⟩:=open_new (fr:=2) (sg:=10) (n:=100) (by omega) (by decide) (fun _=>none);refine ⟨100,rfl,trivial,fun _ _=>⟨⟨fun _=>none,devNew 100,2,10,[]⟩,?_⟩⟩;rw [o2]
 (repeat' apply And.intro)<;>first|with_reducible (first|rfl|trivial|assumption)|omega|with_reducible (first|exact RowsEq.refl _ _ _|exact Nat.le_refl _)|(dsimp only [List.length_cons,List.length_nil]<;>omega)|rfl|exact RowsEq.refl _ _ _|exact Nat.le_refl _|exact o1.1|exact o1.2.1|exact o1.2.2|skip
 rintro ⟨H1,y1,x1,c1⟩ ⟨hat1,hf1⟩;refine ⟨fun c=>absurd c (by decide),fun _=>?_⟩;obtain ⟨it,hit⟩:∃ it,it=itK:=⟨_,rfl⟩
 have hpo:putOk it=true:=by rw [hit];decide
 have hkey:it.key=⟨#[107]⟩:=by rw [hit];rfl
 have hbl:(bodyOf (some it)).length=7:=by rw [hit];decide +kernel
 have n0:FlNow (newF 2 10 (devNew 100)) 0 [] []:=FlNow.new (run:=1) (by omega) (by decide) (by decide) (Nat.le_refl _) (new_is _ _ _ _);obtain ⟨n1,x1n,x1s,x1f⟩:=n0.put hpo (by show (1:Int)<9999999999;omega) (by rw [hbl];decide);have hok0:=n0.one.ok (k:=(bodyOf (some it)).length) (by omega) (by rw [hbl];decide);obtain ⟨m0,hm0⟩:∃ m0,m0=newF 2 10 (devNew 100):=⟨_,rfl⟩
 have hm0d:(devNew 100)=m0.d:=by rw [hm0];rfl
 rw [<- hm0,hm0d];rw [<- hm0] at hat1 n1 x1n x1s x1f hok0;have hm0n:m0.L.next=1/\m0.d.n=100/\m0.L.segs=10/\m0.L.from_=2:=by rw [hm0];exact ⟨rfl,rfl,rfl,rfl⟩
 refine ⟨FPutA.mk m0 ⟨H1,y1,x1,c1⟩ it,?_⟩
 (repeat' apply And.intro)<;>first|with_reducible (first|rfl|trivial|assumption)|omega|with_reducible (first|exact RowsEq.refl _ _ _|exact Nat.le_refl _)|(dsimp only [List.length_cons,List.length_nil]<;>omega)|rfl|exact RowsEq.refl _ _ _|exact Nat.le_refl _|exact hat1|(rw [hit];rfl)|exact fun _=>hok0|skip
 rintro ⟨H2,y2,x2,c2⟩ ⟨hat2,hf2⟩;dsimp only at hat2 hf2 ⊢;obtain ⟨m1,hm1⟩:∃ m1,m1=putF m0 it:=⟨_,rfl⟩
 rw [<- hm1] at hat2 n1 x1n x1s x1f ⊢;rw [List.nil_append,List.nil_append] at n1;have hget:gE [some it] ⟨#[107]⟩=some it:=by rw [hit];simp [gE,stepE,updK,itK]
 have hent:=n1.one.has.ent ⟨#[107]⟩;rw [hget] at hent;have hrd:=n1.one.has.flRd;have hks:(⟨#[107]⟩:ByteArray).size<=lenMax:=by decide
 have g5:getR (some it) 5=some it:=by rw [hit];simp [getR,show liveB itK 5=true by decide]
 have g9:getR (some it) 9=none:=by rw [hit];simp [getR,show liveB itK 9=false by decide]
 have g0:getR (some it) 0=some it:=by rw [hit];simp [getR,show liveB itK 0=true by decide]
 refine ⟨FGetA.mk m1 ⟨H2,y2,x2,c2⟩ ⟨#[107]⟩ 5 (some it),?_⟩
 (repeat' apply And.intro)<;>first|with_reducible (first|rfl|trivial|assumption)|omega|with_reducible (first|exact RowsEq.refl _ _ _|exact Nat.le_refl _)|(dsimp only [List.length_cons,List.length_nil]<;>omega)|rfl|exact RowsEq.refl _ _ _|exact Nat.le_refl _|exact hat2|exact hrd|exact hent|exact hks|skip
 intro _ _;refine ⟨FGetA.mk m1 ⟨H2,y2,x2,c2⟩ ⟨#[107]⟩ 9 (some it),?_⟩
 (repeat' apply And.intro)<;>first|with_reducible (first|rfl|trivial|assumption)|omega|with_reducible (first|exact RowsEq.refl _ _ _|exact Nat.le_refl _)|(dsimp only [List.length_cons,List.length_nil]<;>omega)|rfl|exact RowsEq.refl _ _ _|exact Nat.le_refl _|exact hat2|exact hrd|exact hent|exact hks|skip
 intro _ _;have hd1:=n1.one.log.size;have hc1:=n1.one.log.calls;have hdn1:m1.d.n=100:=by
  have:=n1.one.log.room;have e:m1.d.n=m0.d.n:=by
   rw [hm1];unfold putF;rw [if_pos hpo];exact appD_n _ _ _
  rw [e,hm0n.2.1]
 refine ⟨m1.d,?_⟩
 (repeat' apply And.intro)<;>first|with_reducible (first|rfl|trivial|assumption)|omega|with_reducible (first|exact RowsEq.refl _ _ _|exact Nat.le_refl _)|(dsimp only [List.length_cons,List.length_nil]<;>omega)|rfl|exact RowsEq.refl _ _ _|exact Nat.le_refl _|exact hd1|(dsimp only;omega)|skip
 intro _ _;refine ⟨CrashA.mk (devFl m1.d) 0 0 0 0 (fun _=>false),?_⟩
 (repeat' apply And.intro)<;>first|with_reducible (first|rfl|trivial|assumption)|omega|with_reducible (first|exact RowsEq.refl _ _ _|exact Nat.le_refl _)|(dsimp only [List.length_cons,List.length_nil]<;>omega)|rfl|exact RowsEq.refl _ _ _|exact Nat.le_refl _|(show 1<=m1.d.n;omega)|(show m1.d.n<=2048;omega)|(dsimp only;omega)|skip
 intro _ _;dsimp only;have n2:=n1.flush;have hfs:(flushF m1).L.from_=2/\(flushF m1).L.segs=10:=⟨x1f.trans hm0n.2.2.2,x1s.trans hm0n.2.2.1⟩
 obtain ⟨p1,p2,p3⟩:=reopen n2 (d':=devCrash (devFl m1.d) 0 fun i=>(fun _=>false) (0+i)) (fun r j=>crash_now (fun _=>rfl) r j) rfl H2;rw [hfs.1,hfs.2] at p1 p2 p3;obtain ⟨dc,hdc⟩:∃ dc,dc=devCrash (devFl m1.d) 0 fun i=>(fun _=>false) (0+i):=⟨_,rfl⟩
 rw [<- hdc] at p1 p2 p3;rw [show (devCrash (devFl m1.d) 0 fun i=>false)=dc from hdc.symm];refine ⟨FOpenA.mk H2 dc 2 10 [some it],?_⟩
 (repeat' apply And.intro)<;>first|with_reducible (first|rfl|trivial|assumption)|omega|with_reducible (first|exact RowsEq.refl _ _ _|exact Nat.le_refl _)|(dsimp only [List.length_cons,List.length_nil]<;>omega)|rfl|exact RowsEq.refl _ _ _|exact Nat.le_refl _|exact p1.1|exact p1.2.1|exact p1.2.2|skip
 rintro ⟨H3,y3,x3,c3⟩ ⟨hat3,hf3⟩;dsimp only at hat3 hf3 ⊢;have hent3:=p2.ent ⟨#[107]⟩;rw [hget] at hent3;have hrd3:=p2.flRd;have hdo:(opnF ⟨H2,dc,2,10,[some it]⟩).d=dc:=rfl;obtain ⟨mo,hmo⟩:∃ mo,mo=opnF ⟨H2,dc,2,10,[some it]⟩:=⟨_,rfl⟩
 rw [<- hmo] at hat3 hent3 hrd3 hdo ⊢;refine ⟨FGetA.mk mo ⟨H3,y3,x3,c3⟩ ⟨#[107]⟩ 0 (some it),?_⟩;rw [<- hdo]
 (repeat' apply And.intro)<;>first|with_reducible (first|rfl|trivial|assumption)|omega|with_reducible (first|exact RowsEq.refl _ _ _|exact Nat.le_refl _)|(dsimp only [List.length_cons,List.length_nil]<;>omega)|rfl|exact RowsEq.refl _ _ _|exact Nat.le_refl _|exact hat3|exact hrd3|exact hent3|exact hks|skip
 intro _ _;dsimp only;rw [hpo,g5,g9,g0];have hval:it.val=⟨#[118]⟩/\it.e=9:=by rw [hit];exact ⟨rfl,rfl⟩
 simp only [Option.getD_some,hval.1,hval.2];refine ⟨fun _=>⟨fun _=>⟨fun _=>⟨fun _=>⟨fun _=>⟨fun _=>⟨fun _=>fun _=>⟨fun _=>?_,fun c=>absurd c (by first|decide|exact (show ¬ (true=false) by decide))⟩,fun c=>absurd c (by first|decide|exact (show ¬ (true=false) by decide))⟩,fun c=>absurd c (by first|decide|exact (show ¬ (true=false) by decide))⟩,fun c=>absurd c (by first|decide|exact (show ¬ (true=false) by decide))⟩,fun c=>absurd c (by first|decide|exact (show ¬ (true=false) by decide))⟩,fun c=>absurd c (by first|decide|exact (show ¬ (true=false) by decide))⟩,fun c=>absurd c (by first|decide|exact (show ¬ (true=false) by decide))⟩,fun c=>absurd c (by first|decide|exact (show ¬ (true=false) by decide))⟩;have hat4:FlAt (flushF m1) ⟨H3,y2,x2,c2⟩:=⟨hat2.log.frame fun z hz=>(hf3 z (hat2.log.dom z hz)).1,hat2.idx⟩
 have hkb:keyB ⟨#[107]⟩=true:=by decide
 have hdl:(bodyOf (some (itemD ⟨#[107]⟩))).length=6:=by decide +kernel
 have hbf:(bufOf [(⟨m0.L.next,bodyOf (some it)⟩:RecM)]).length=15:=by simp [bufOf,rec_len,hbl]
 have hn2:(flushF m1).L.next=2:=by show m1.L.next=2;rw [x1n,hm0n.1];rfl
 obtain ⟨n3,x3n,x3s,x3f⟩:=n2.drop hkb (by rw [hn2];omega) (by rw [hbf,hdl];omega);have hok2:=n2.one.ok (k:=(bodyOf (some (itemD ⟨#[107]⟩))).length) (by omega) (by rw [hbf,hdl];omega);have hd0:dropTo (flushF m1) [⟨#[107]⟩] 0=flushF m1:=rfl;have hd1':dropTo (flushF m1) [⟨#[107]⟩] 1=dropF (flushF m1) ⟨#[107]⟩:=rfl;refine ⟨FDropA.mk (flushF m1) ⟨H3,y2,x2,c2⟩ [⟨#[107]⟩] 1,?_⟩;have hpre:allK [⟨#[107]⟩]=true->(∀ i,i < [(⟨#[107]⟩:ByteArray)].length->FlOk (dropTo (flushF m1) [⟨#[107]⟩] i) (bodyOf (some (itemD (gl [⟨#[107]⟩] i)))).length)/\(dropTo (flushF m1) [⟨#[107]⟩] [(⟨#[107]⟩:ByteArray)].length).d.n<100000/\(dropTo (flushF m1) [⟨#[107]⟩] [(⟨#[107]⟩:ByteArray)].length).d.calls<1000000000000:=fun _=>⟨fun i hi=>by
  have:i=0:=by simpa using hi
  subst this;exact hok2,n3.one.log.size,Nat.lt_of_le_of_lt n3.one.log.calls (by omega)⟩
 have hrk:RowsEq 1 1 (flatRows 1 [Value.string ⟨#[107]⟩]) (encRows encT [⟨#[107]⟩]):=.of_cells fun i hi=>by
  have:i=0:=by omega
  subst this;rfl
 (repeat' apply And.intro)<;>first|with_reducible (first|rfl|trivial|assumption)|omega|with_reducible (first|exact RowsEq.refl _ _ _|exact Nat.le_refl _)|(dsimp only [List.length_cons,List.length_nil]<;>omega)|rfl|exact RowsEq.refl _ _ _|exact Nat.le_refl _|exact hat4|exact hpre|exact hrk|skip
 rintro ⟨H5,y5,x5,c5⟩ ⟨hat5,hf5⟩;dsimp only at hat5 hf5 ⊢;have hak:allK [⟨#[107]⟩]=true:=by decide
 have hdf:dropsF (flushF m1) [⟨#[107]⟩]=flushF (dropF (flushF m1) ⟨#[107]⟩):=if_pos hak;rw [hdf] at hat5;rw [hak];have n4:=n3.flush;have hnone:(flushF (dropF (flushF m1) ⟨#[107]⟩)).l=[]:=by
  refine List.eq_nil_iff_forall_not_mem.2 fun e he=>?_;obtain ⟨z,hz,_⟩:=n4.one.has.pos e he;have hk:it.key=(itemD ⟨#[107]⟩).key:=hkey;have:gE ([some it]++[some (itemD ⟨#[107]⟩)]) e.1=none:=by
   rw [gE_push,show gE [some it]=stepE (fun _=>none) (some it) from rfl];simp only [stepE,updK,hk];split
   ·rfl
   ·rfl
  rw [this] at hz;cases hz
 have hkl:=keys_len hat5.idx;rw [hnone] at hkl;have hxl:=hat5.idx.inv.hi;refine ⟨fun _=>⟨Ix.KeyA.mk x5 c5 ⟨#[107]⟩,?_⟩,fun c=>absurd c (by decide)⟩
 (repeat' apply And.intro)<;>first|with_reducible (first|rfl|trivial|assumption)|omega|with_reducible (first|exact RowsEq.refl _ _ _|exact Nat.le_refl _)|(dsimp only [List.length_cons,List.length_nil]<;>omega)|rfl|exact RowsEq.refl _ _ _|exact Nat.le_refl _|(dsimp only at *;omega)|skip
 intro _ _;refine ⟨(),?_,trivial,trivial⟩;rw [hkl];rfl)
theorem callBegunF:CallsBy (Y Tryz.prog).G.X 7 cBegunF:=fn_ok okY (tab:=tabFl) tabFl_ok bodyBegunF
end Go.Proofs.YtfobhkibkdmglaaGreat

namespace Go.Proofs.YtfobhkibkdmglaaGreat
open Go.Sx
set_option maxRecDepth 100000
set_option linter.unusedVariables false
set_option linter.unusedSimpArgs false
def wR:List RecM->Nat
 | []=>0
 | r::rs=>r.body.length+69+wR rs
theorem wR_app:∀ (a b:List RecM),wR (a++b)=wR a+wR b
 | [],b=>by simp [wR]
 | r::a,b=>by
  have:=wR_app a b;simp only [List.cons_append,wR];omega
theorem wR_buf:∀ rs,wR rs=(bufOf rs).length+61*rs.length
 | []=>rfl
 | r::rs=>by
  have:=wR_buf rs;have e:(bufOf (r::rs)).length=8+r.body.length+(bufOf rs).length:=by
   show (recBytes r++bufOf rs).length=_;rw [List.length_append,rec_len]
  simp only [wR,List.length_cons];omega
structure SegOk (g:SegM):Prop where
 buf:g.buf=bufOf g.recs
 ne:1<=g.recs.length
 body:∀ r∈g.recs,1<=r.body.length/\r.body.length<=251
 fits:g.buf.length<=378
structure RunM (sg c:Nat) (L:LogM) (d:DevM):Prop where
 segs:L.segs=sg/\L.from_=0
 dn:d.n=8*sg
 calls:d.calls<=20*c
 next:1<=L.next/\L.next<=1+(c:Int)
 len:L.l.length<=sg
 gen:∃ g0:Int,1<=g0/\g0+L.l.length<=(c:Int)+1/\∀ k,k<L.l.length->(gl L.l k).gen=g0+k
 seg:∀ g∈L.l,SegOk g
 full:∀ k,k+1<L.l.length->120<=(gl L.l k).buf.length
 pos:∀ k,k<(allR L.l).length->(gl (allR L.l) k).pos=L.next - (allR L.l).length+k
 cnt:((allR L.l).length:Int)+1<=L.next
structure Pre1 (sg c n:Nat) (rs:List RecM) (A:List SegM) (g:SegM) (q:Nat):Prop where
 len:A.length+1<=sg
 gen:∃ g0:Int,1<=g0/\g0+A.length+1<=(c:Int)+2/\(∀ k,k<A.length->(gl A k).gen=g0+k)/\g.gen=g0+A.length
 seg:∀ x∈A,SegOk x
 full:∀ k,k<A.length->120<=(gl A k).buf.length
 buf:g.buf=bufOf g.recs
 body:∀ r∈g.recs,1<=r.body.length/\r.body.length<=251
 fits:g.buf.length+n<=370
 all:allR A++g.recs=rs.drop q
 went:q=0\/(q<=rs.length/\A.length+1=sg)
theorem allR_push (A:List SegM) (g:SegM):allR (A++[g])=allR A++g.recs:=by simp [allR]
theorem gl_mem {α:Type} [Inhabited α] {l:List α} {k:Nat} (h:k<l.length):gl l k∈l:=by rw [gl_eq h];exact List.getElem_mem _
theorem mem_gl {α:Type} [Inhabited α] {l:List α} {x:α} (h:x∈l):∃ k,k<l.length/\gl l k=x:=by
 obtain ⟨k,hk,e⟩:=List.getElem_of_mem h;exact ⟨k,hk,by rw [gl_eq hk];exact e⟩
theorem wR_full:∀ {A:List SegM},(∀ x∈A,SegOk x)->(∀ x∈A,120<=x.buf.length)->181*A.length<=wR (allR A)
 | [],_,_=>Nat.zero_le _
 | a::A,h1,h2=>by
  have ih:=wR_full (fun x hx=>h1 x (List.mem_cons_of_mem _ hx)) (fun x hx=>h2 x (List.mem_cons_of_mem _ hx));have h:=h1 a List.mem_cons_self;have hb:=h2 a List.mem_cons_self;have hn:=h.ne;have e:allR (a::A)=a.recs++allR A:=rfl;have hw:=wR_buf a.recs;rw [<- h.buf] at hw;rw [e,wR_app,List.length_cons];omega
theorem drop_pos {rs:List RecM} {next:Int} {q:Nat} {body:List Int} (h:∀ k,k<rs.length->(gl rs k).pos=next - rs.length+k) (hq:q<=rs.length) :
 ∀ k,k<(rs.drop q++[(⟨next,body⟩:RecM)]).length->(gl (rs.drop q++[(⟨next,body⟩:RecM)]) k).pos=next+1 - (rs.drop q++[(⟨next,body⟩:RecM)]).length+k:=fun k hk=>by
 have hl:(rs.drop q).length=rs.length - q:=List.length_drop;have hl2:(rs.drop q++[(⟨next,body⟩:RecM)]).length=rs.length - q+1:=by rw [List.length_append,hl];rfl
 rw [hl2] at hk ⊢;rw [gl_app (by rw [hl];exact hk),hl];by_cases hin:k<rs.length - q
 ·rw [if_pos hin];have e:gl (rs.drop q) k=gl rs (q+k):=by
   rw [gl_eq (by rw [hl];exact hin),gl_eq (show q+k<rs.length by omega),List.getElem_drop]
  rw [e,h (q+k) (by omega)];omega
 ·rw [if_neg hin];show next=_;omega
theorem appL2_seg {L1:LogM} {A:List SegM} {g:SegM} {body:List Int} (hl:L1.l=A++[g]):(appL2 L1 body).l=A++[segApp g L1.next body]:=by
 have hlast:lastG L1=g:=by
  unfold lastG;rw [hl,List.length_append,List.length_singleton,Nat.add_sub_cancel,show A.length=A.length+0 from rfl,gl_append_right];rfl
 show L1.l.set (L1.l.length - 1) (segApp (lastG L1) L1.next body)=_;rw [hlast,hl,List.length_append,List.length_singleton,Nat.add_sub_cancel,List.set_append_right _ _ (Nat.le_refl _),Nat.sub_self];rfl
theorem appD_calls (L:LogM) (d:DevM) (body:List Int):(appD L d body).calls<=d.calls+11:=by
 have h1:(appD1 L d body.length).calls<=d.calls+2:=by
  unfold appD1;split
  ·exact Nat.le_refl _
  ·omega
 have h2:=(writesTo_n (appL1 L body.length) (segW (lastG (appL1 L body.length)) (appL1 L body.length).next body) (lastG (appL1 L body.length)).buf.length (appD1 L d body.length) 8).2;unfold appD appD2;split
 ·simp only [devFl];omega
 ·omega
theorem RunM.newGen {sg c:Nat} {L:LogM} {d:DevM} (h:RunM sg c L d) (hs:4<=sg):∃ g0:Int,1<=g0/\g0+L.l.length<=(c:Int)+1/\(∀ k,k<L.l.length->(gl L.l k).gen=g0+k)/\(newSeg L).gen=g0+L.l.length/\keepN L=L.l.drop (if L.l.length=sg then 1 else 0):=by
 obtain ⟨g0,h1,h2,h3⟩:=h.gen;have hsg:=h.segs.1;have hlen:=h.len;by_cases hl:L.l=[]
 ·refine ⟨1,by omega,by rw [hl,List.length_nil];omega,fun k hk=>by rw [hl] at hk;exact absurd hk (Nat.not_lt_zero k),?_,?_⟩
  ·simp only [newSeg,hl];rfl
  ·unfold keepN;rw [hl];simp
 ·have hk:L.l.length - 1<L.l.length:=by have:=List.length_pos_iff.2 hl;omega
  have e:L.l.getLast? = some (gl L.l (L.l.length - 1)):=by rw [gl_eq hk,List.getLast?_eq_getElem?,List.getElem?_eq_getElem hk]
  have hg:(newSeg L).gen=g0+L.l.length:=by
   have:=h3 _ hk;simp only [newSeg,e];omega
  refine ⟨g0,h1,h2,h3,hg,?_⟩;have hkeep:∀ k,k<L.l.length->keepG (newSeg L).gen L.segs (gl L.l k)=decide (L.l.length<sg+k):=fun k hk=>by
   have:=h3 k hk;unfold keepG;rw [hg,hsg,this,Bool.eq_iff_iff,decide_eq_true_eq,decide_eq_true_eq];omega
  unfold keepN;by_cases hf:L.l.length=sg
  ·rw [if_pos hf];obtain ⟨a,A,hA⟩:∃ a A,L.l=a::A:=by
    cases hL:L.l with
    | nil=>exact absurd hL hl
    | cons a A=>exact ⟨a,A,rfl⟩
   have hlA:L.l.length=A.length+1:=by rw [hA];rfl
   have ha:keepG (newSeg L).gen L.segs a=false:=by
    have:=hkeep 0 (by omega);rw [show gl L.l 0=a by rw [hA];rfl] at this;rw [this];exact decide_eq_false (by omega)
   have hAf:A.filter (keepG (newSeg L).gen L.segs)=A:=by
    rw [List.filter_eq_self];intro x hx;obtain ⟨k,hk,rfl⟩:=mem_gl hx;have:=hkeep (k+1) (by omega);rw [show gl L.l (k+1)=gl A k by rw [hA];rfl] at this;rw [this];exact decide_eq_true (by omega)
   generalize (newSeg L).gen=ng at ha hAf ⊢;rw [hA,List.filter_cons,ha];simpa using hAf
  ·rw [if_neg hf,List.drop_zero,List.filter_eq_self];intro x hx;obtain ⟨k,hk,rfl⟩:=mem_gl hx;rw [hkeep k hk];exact decide_eq_true (by omega)
theorem RunM.pre {sg c:Nat} {L:LogM} {d:DevM} (h:RunM sg c L d) (hs:4<=sg) {n:Nat} (hn:n<=251) :
 ∃ A g q,(appL1 L n).l=A++[g]/\Pre1 sg c n (allR L.l) A g q:=by
 obtain ⟨g0,h1,h2,h3,hg,hk⟩:=h.newGen hs;have hlen:=h.len;cases hB:needB L n with
 | false =>
  rw [show appL1 L n=L from if_neg (by rw [hB];decide)];simp only [needB,Bool.or_eq_false_iff,decide_eq_false_iff_not] at hB;have hne:L.l≠[]:=fun e=>hB.1 (by rw [e];rfl);obtain ⟨A,g,hA⟩:∃ A g,L.l=A++[g]:=⟨_,_,(List.dropLast_concat_getLast hne).symm⟩
  have hlA:L.l.length=A.length+1:=by rw [hA];simp
  have hglA:∀ k,k<A.length->gl L.l k=gl A k:=fun k hk=>by rw [hA,gl_append_left hk]
  have hgl:gl L.l A.length=g:=by rw [hA,show A.length=A.length+0 from rfl,gl_append_right];rfl
  have hlast:lastG L=g:=by unfold lastG;rw [hlA,Nat.add_sub_cancel,hgl]
  have hgo:=h.seg g (by rw [hA];simp);refine ⟨A,g,0,hA,⟨by omega,⟨g0,h1,by omega,fun k hk=>by rw [<- hglA k hk];exact h3 k (by omega),by rw [<- hgl];exact h3 _ (by omega)⟩,fun x hx=>h.seg x (by rw [hA];exact List.mem_append_left _ hx),fun k hk=>by rw [<- hglA k hk];exact h.full k (by omega),hgo.buf,hgo.body,by rw [<- hlast];omega,by rw [hA,allR_push];rfl,.inl rfl⟩⟩
 | true =>
  rw [show appL1 L n=beginL L from if_pos hB];have hnew:newSeg L=⟨(newSeg L).gen,L.next,0,[],[]⟩:=rfl;have hl2:∀ k,k<L.l.length->120<=(gl L.l k).buf.length:=fun k hk=>by
   by_cases hkl:k+1<L.l.length
   ·exact h.full k hkl
   ·have:lastG L=gl L.l k:=by unfold lastG;rw [show L.l.length - 1=k by omega]
    rw [needB,this,Bool.or_eq_true,decide_eq_true_eq,decide_eq_true_eq] at hB;omega
  obtain ⟨o,ho⟩:∃ o,o=if L.l.length=sg then 1 else 0:=⟨_,rfl⟩
  rw [<- ho] at hk;have ho2:(o=0/\L.l.length<sg)\/(o=1/\L.l.length=sg):=by
   rw [ho];split<;>omega
  have hdl:(L.l.drop o).length=L.l.length - o:=List.length_drop;have hdg:∀ k,k<L.l.length - o->gl (L.l.drop o) k=gl L.l (o+k):=fun k hk=>by
   rw [gl_eq (by rw [hdl];exact hk),gl_eq (show o+k<L.l.length by omega),List.getElem_drop]
  refine ⟨L.l.drop o,newSeg L,(allR (L.l.take o)).length,by show keepN L++[newSeg L]=_;rw [hk],⟨by rw [hdl];omega,⟨g0+o,by omega,by rw [hdl];omega,fun k hk=>?_,by rw [hg,hdl];omega⟩,fun x hx=>h.seg x (List.mem_of_mem_drop hx),fun k hk=>?_,by rw [hnew];rfl,fun r hr=>(by rw [hnew] at hr;cases hr),by rw [hnew];show 0+n<=370;omega,?_,?_⟩⟩
  ·rw [hdl] at hk;rw [hdg k hk,h3 _ (by omega)];omega
  ·rw [hdl] at hk;rw [hdg k hk];exact hl2 _ (by omega)
  ·have e:allR L.l=allR (L.l.take o)++allR (L.l.drop o):=by
    unfold allR;rw [<- List.flatMap_append,List.take_append_drop]
   rw [hnew];show allR (L.l.drop o)++[]=_;rw [List.append_nil,e,List.drop_left]
  ·rcases ho2 with ⟨h0,hlt⟩ | ⟨h0,hlt⟩
   ·left;rw [h0];rfl
   ·right;have e:allR L.l=allR (L.l.take o)++allR (L.l.drop o):=by
     unfold allR;rw [<- List.flatMap_append,List.take_append_drop]
    exact ⟨by rw [e,List.length_append];omega,by rw [hdl];omega⟩
theorem RunM.append {sg c:Nat} {L:LogM} {d:DevM} (h:RunM sg c L d) (hs:4<=sg) {body:List Int} (hb:1<=body.length/\body.length<=251) :
 RunM sg (c+1) (appL L body) (appD L d body)/\(appL L body).next=L.next+1/\∃ q,q<=(allR L.l).length/\allR (appL L body).l=(allR L.l).drop q++[⟨L.next,body⟩]/\(q=0\/(sg<=c+1/\181*(sg - 1)+70<=wR (allR (appL L body).l))):=by
 obtain ⟨A,g,q,hl,hp⟩:=h.pre hs (n:=body.length) hb.2;have hn1:(appL1 L body.length).next=L.next/\(appL1 L body.length).segs=L.segs/\(appL1 L body.length).from_=L.from_:=by
  unfold appL1;split<;>exact ⟨rfl,rfl,rfl⟩
 have hl2:(appL L body).l=A++[segApp g L.next body]:=by
  have:=appL2_seg (body:=body) hl;rw [hn1.1] at this;exact this
 have hrec:(segApp g L.next body).recs=g.recs++[⟨L.next,body⟩]:=rfl;have hbuf:(segApp g L.next body).buf=bufOf (g.recs++[⟨L.next,body⟩]):=by
  rw [bufOf_push];show bufApp g L.next body=_
  unfold bufApp recBytes;rw [hp.buf,List.append_assoc]
 have hlen:(segApp g L.next body).buf.length=g.buf.length+(8+body.length):=by
  rw [hbuf,bufOf_push,List.length_append,rec_len,hp.buf]
 have hgo:SegOk (segApp g L.next body):=⟨hbuf,by rw [hrec,List.length_append,List.length_singleton];omega,fun r hr=>by
  rw [hrec] at hr;rcases List.mem_append.1 hr with hr|hr
  ·exact hp.body r hr
  ·have:r=⟨L.next,body⟩:=by simpa using hr
   rw [this];exact hb,by rw [hlen];have:=hp.fits;omega⟩
 have hq:q<=(allR L.l).length:=by rcases hp.went with h|h<;>omega
 have hall:allR (appL L body).l=(allR L.l).drop q++[⟨L.next,body⟩]:=by
  rw [hl2,allR_push,hrec,<- List.append_assoc,hp.all]
 obtain ⟨g0,k1,k2,k3,k4⟩:=hp.gen;have hnext:(appL L body).next=L.next+1:=by show (appL1 L body.length).next+1=_;rw [hn1.1]
 have hcl:=appD_calls L d body;have hc:=h.calls;have hnx:=h.next
 have hl3:(appL L body).l.length=A.length+1:=by rw [hl2];simp
 have hglA:∀ k,k<A.length->gl (appL L body).l k=gl A k:=fun k hk=>by rw [hl2,gl_append_left hk]
 have hgl:gl (appL L body).l A.length=segApp g L.next body:=by rw [hl2,show A.length=A.length+0 from rfl,gl_append_right];rfl
 refine ⟨⟨⟨hn1.2.1.trans h.segs.1,hn1.2.2.trans h.segs.2⟩,(appD_n _ _ _).trans h.dn,by omega,by rw [hnext];omega,by rw [hl3];exact hp.len,⟨g0,k1,by rw [hl3];omega,fun k hk=>?_⟩,fun x hx=>?_,fun k hk=>?_,?_,?_⟩,hnext,q,hq,hall,?_⟩
 ·rw [hl3] at hk;by_cases e:k<A.length
  ·rw [hglA k e];exact k3 k e
  ·obtain rfl:k=A.length:=by omega
   rw [hgl];exact k4
 ·rw [hl2] at hx;rcases List.mem_append.1 hx with hx|hx
  ·exact hp.seg x hx
  ·have:x=segApp g L.next body:=by simpa using hx
   rw [this];exact hgo
 ·rw [hl3] at hk;rw [hglA k (by omega)];exact hp.full k (by omega)
 ·rw [hall,hnext];exact drop_pos h.pos hq
 ·rw [hall,hnext,List.length_append,List.length_drop,List.length_singleton];have:=h.cnt;omega
 ·rcases hp.went with h0 | ⟨_,h1⟩
  ·exact .inl h0
  ·right;refine ⟨by omega,?_⟩;have hf:=wR_full hp.seg fun x hx=>by
    obtain ⟨k,hk,rfl⟩:=mem_gl hx;exact hp.full k hk
   have hw:=wR_buf (segApp g L.next body).recs;rw [<- hgo.buf] at hw;have hne:=hgo.ne;rw [hl2,allR_push,wR_app];have:A.length=sg - 1:=by omega
   rw [this] at hf;omega
end Go.Proofs.YtfobhkibkdmglaaGreat

namespace Go.Proofs.YtfobhkibkdmglaaGreat
open Go.Sx
set_option maxRecDepth 100000
set_option linter.unusedVariables false
set_option linter.unusedSimpArgs false
def costI (x:ItemM):Nat:=x.key.size+x.val.size+80
def costs:List ItemM->Nat
 | []=>0
 | x::r=>costI x+costs r
def afterI (xs:List ItemM) (i:Nat):Nat:=costs (xs.drop i)
theorem costs_app:∀ (a b:List ItemM),costs (a++b)=costs a+costs b
 | [],b=>by simp [costs]
 | x::a,b=>by
  have:=costs_app a b;simp only [List.cons_append,costs];omega
theorem costs_drop:∀ (xs:List ItemM) (i k:Nat),i<=k->costs (xs.drop k)<=costs (xs.drop i)
 | xs,0,k,_=>by
  rw [List.drop_zero];have:=costs_app (xs.take k) (xs.drop k);rw [List.take_append_drop] at this;omega
 | [],i+1,k,_=>by simp
 | x::xs,i+1,0,h=>absurd h (by omega)
 | x::xs,i+1,k+1,h=>costs_drop xs i k (by omega)
theorem after_step {xs:List ItemM} {i:Nat} (h:i<xs.length):afterI xs i=costI (gl xs i)+afterI xs (i+1):=by
 unfold afterI;rw [List.drop_eq_getElem_cons h,gl_eq h];rfl
theorem w_body {x:ItemM} (h:mayB x=true):(bodyOf (some x)).length+69<=costI x:=by
 have:=(itemB_250 h).1;simp only [bodyOf,List.length_cons,costI];omega
theorem wR_le:∀ {rs:List RecM} {ys:List ItemM},rs.length=ys.length->(∀ y∈ys,mayB y=true)->(∀ k,k<rs.length->(gl rs k).body=bodyOf (some (gl ys k)))->wR rs<=costs ys
 | [],_,_,_,_=>Nat.zero_le _
 | r::rs,[],h,_,_=>by cases h
 | r::rs,y::ys,h,hm,hb=>by
  have ih:=wR_le (rs:=rs) (ys:=ys) (by simpa using h) (fun z hz=>hm z (List.mem_cons_of_mem _ hz)) (fun k hk=>hb (k+1) (by simpa using hk));have h0:r.body=bodyOf (some y):=hb 0 (by simp);have:=w_body (hm y List.mem_cons_self);simp only [wR,costs,h0];omega
structure AllM (sg c:Nat) (xs:List ItemM) (m:FlM):Prop where
 run:RunM sg c m.L m.d
 may:∀ x∈xs,mayB x=true
 body:∀ i,i<xs.length->xs.length - i<=(allR m.L.l).length->(gl (allR m.L.l) ((allR m.L.l).length - (xs.length - i))).body=bodyOf (some (gl xs i))
 gone:∀ i,i<xs.length->(allR m.L.l).length<xs.length - i->200*(sg - 2)<afterI xs i
 ents:∀ e,e∈m.l↔∃ i,i<xs.length/\xs.length - i<=(allR m.L.l).length/\(gl xs i).gone=false/\(∀ j,i<j->j<xs.length->(gl xs j).key≠(gl xs i).key)/\e=((gl xs i).key,m.L.next - ((xs.length - i:Nat):Int))
 few:m.l.length<=c
theorem AllM.new {sg:Nat} {d:DevM} (h:d.n=8*sg) (hc:d.calls=0):AllM sg 0 [] (newF 0 sg d):=by
 refine ⟨⟨⟨rfl,rfl⟩,h,by show d.calls<=0;omega,by show (1:Int)<=1/\(1:Int)<=1+(0:Nat);omega,Nat.zero_le _,⟨1,by omega,by show (1:Int)+(0:Nat)<=(0:Nat)+1;omega,fun k hk=>absurd hk (Nat.not_lt_zero k)⟩,fun g hg=>(by cases hg),fun k hk=>absurd hk (Nat.not_lt_zero _),fun k hk=>absurd hk (Nat.not_lt_zero k),by show ((0:Nat):Int)+1<=1;omega⟩,fun x hx=>(by cases hx),fun i hi=>absurd hi (Nat.not_lt_zero i),fun i hi=>absurd hi (Nat.not_lt_zero i),fun e=>⟨fun he=>(by cases he),?_⟩,Nat.le_refl _⟩;rintro ⟨i,hi,_⟩;exact absurd hi (Nat.not_lt_zero i)
theorem RunM.ok {sg c:Nat} {L:LogM} {d:DevM} (h:RunM sg c L d) (hs:4<=sg/\sg<=40) (hc:c<1000):LogOk L d:=by
 obtain ⟨g0,h1,h2,h3⟩:=h.gen;obtain ⟨s1,s2⟩:=h.segs;have hdn:=h.dn;have hcl:=h.calls;have hnx:=h.next
 have hlen:=h.len;refine ⟨by omega,by omega,by omega,by omega,by omega,by omega,fun j hj=>by have:=h3 j hj;omega,fun j hj=>(h.seg _ (gl_mem hj)).fits,fun j hj=>?_⟩;have hg:=h.seg _ (gl_mem hj);have hw:=wR_buf (gl L.l j).recs;rw [<- hg.buf] at hw;have:∀ rs:List RecM,(∀ r∈rs,1<=r.body.length)->rs.length*9<=(bufOf rs).length:=fun rs=>by
  induction rs with
  | nil=>exact fun _=>Nat.zero_le _
  | cons r rs ih =>
   intro hr;have h1:=ih fun x hx=>hr x (List.mem_cons_of_mem _ hx);have h2:=hr r List.mem_cons_self;have e:(bufOf (r::rs)).length=8+r.body.length+(bufOf rs).length:=by
    show (recBytes r++bufOf rs).length=_;rw [List.length_append,rec_len]
   rw [List.length_cons];omega
 have:=this (gl L.l j).recs fun r hr=>(hg.body r hr).1;rw [hg.buf];exact this
theorem RunM.rd {sg c:Nat} {L:LogM} {d:DevM} (h:RunM sg c L d) (hs:4<=sg/\sg<=40) (hc:c<1000):LogRd L (allR L.l):=by
 have hlen:=h.len;have hnx:=h.next
 have hok:=h.ok hs hc;have hcnt:=h.cnt;refine ⟨rfl,by omega,⟨fun i j hij hj=>?_,fun i hi=>?_⟩,fun r hr=>?_,fun j hj=>?_⟩
 ·rw [h.pos i (by omega),h.pos j hj];omega
 ·rw [h.pos i hi];omega
 ·obtain ⟨g,hg,hr⟩:=List.mem_flatMap.1 hr;have:=(h.seg g hg).body r hr;omega
 ·have:=hok.recs j hj;have:=hok.buf j hj;omega
theorem gl_drop {α:Type} [Inhabited α] {l:List α} {q k:Nat} (h:k<l.length - q):gl (l.drop q) k=gl l (q+k):=by
 rw [gl_eq (by rw [List.length_drop];exact h),gl_eq (show q+k<l.length by omega),List.getElem_drop]
def stepF (m:FlM) (x:ItemM):FlM:={ addF m (bodyOf (some x)) with l:=if x.gone then dropK (addF m (bodyOf (some x))).l x.key else putK (addF m (bodyOf (some x))).l x.key m.L.next }
theorem AllM.add {sg c:Nat} {xs:List ItemM} {m:FlM} (h:AllM sg c xs m) (hs:4<=sg/\sg<=40) (hg:sg<=15\/c+1<sg) {x:ItemM} (hx:mayB x=true):AllM sg (c+1) (xs++[x]) (stepF m x):=by
 obtain ⟨body,hbody⟩:∃ b,b=bodyOf (some x):=⟨_,rfl⟩
 have hb:1<=body.length/\body.length<=251:=by rw [hbody];exact bodyOf_len fun z e=>by cases e;exact hx
 obtain ⟨r1,r2,q,hq,r3,r4⟩:=h.run.append hs.1 hb;obtain ⟨rs,hrs⟩:∃ rs,rs=allR m.L.l:=⟨_,rfl⟩
 obtain ⟨rs',hrs'⟩:∃ rs,rs=allR (appL m.L body).l:=⟨_,rfl⟩
 rw [<- hrs] at hq;rw [<- hrs,<- hrs'] at r3;rw [<- hrs'] at r4;have hcnt:=h.run.cnt;rw [<- hrs] at hcnt;have hN:rs'.length=rs.length - q+1:=by rw [r3,List.length_append,List.length_drop];rfl
 have hlen:(xs++[x]).length=xs.length+1:=by simp
 have hglx:∀ i,i<xs.length->gl (xs++[x]) i=gl xs i:=fun i hi=>gl_append_left hi;have hgln:gl (xs++[x]) xs.length=x:=by rw [show xs.length=xs.length+0 from rfl,gl_append_right];rfl
 have hbd:=h.body;rw [<- hrs] at hbd;have hgn:=h.gone;rw [<- hrs] at hgn;have hen:=h.ents;rw [<- hrs] at hen;have hmay:∀ z∈xs++[x],mayB z=true:=fun z hz=>by
  rcases List.mem_append.1 hz with hz|hz
  ·exact h.may z hz
  ·have:z=x:=by simpa using hz
   rw [this];exact hx
 have hfirst:firstF (appL m.L body)=m.L.next+1 - rs'.length:=by
  have hp:=r1.pos 0 (by rw [<- hrs',hN];omega);rw [<- hrs',r2] at hp;unfold firstF;rw [first_pos,<- hrs'];cases hr:rs' with
  | nil=>rw [hr] at hN;simp at hN
  | cons a l =>
   rw [hr] at hp;have:(gl (a::l) 0).pos=a.pos:=rfl;show a.pos=_;omega
 have hB:∀ i,i<xs.length+1->xs.length+1 - i<=rs'.length->(gl rs' (rs'.length - (xs.length+1 - i))).body=bodyOf (some (gl (xs++[x]) i)):=fun i hi hr=>by
  have hdl:(rs.drop q).length=rs.length - q:=List.length_drop;by_cases e:i=xs.length
  ·subst e;rw [hgln,show rs'.length - (xs.length+1 - xs.length)=(rs.drop q).length+0 by rw [hdl];omega,r3,gl_append_right];exact hbody
  ·rw [hglx i (by omega),<- hbd i (by omega) (by omega),r3,gl_append_left (by rw [hdl,<- r3];omega),<- r3,gl_drop (by omega)];congr 2;omega
 have hF:(stepF m x).L=appL m.L body/\(stepF m x).d=appD m.L m.d body/\(stepF m x).l=(if x.gone then dropK (m.l.filter fun e=>decide (firstF (appL m.L body)<=e.2)) x.key else putK (m.l.filter fun e=>decide (firstF (appL m.L body)<=e.2)) x.key m.L.next):=by
  rw [hbody];exact ⟨rfl,rfl,rfl⟩
 obtain ⟨f1,f2,f3⟩:=hF;have hfilt:=List.length_filter_le (fun e:ByteArray × Int=>decide (firstF (appL m.L body)<=e.2)) m.l;have hfew:=h.few;refine ⟨by rw [f1,f2];exact r1,hmay,?_,?_,fun e=>?_,?_⟩
 ·rw [f1,<- hrs',hlen];exact hB
 ·rw [f1,<- hrs',hlen];intro i hi hr;have hi2:i<xs.length:=by omega
  have hold:afterI xs i<=afterI (xs++[x]) i:=by
   unfold afterI;rw [List.drop_append_of_le_length (by omega),costs_app];omega
  by_cases hg:rs.length<xs.length - i
  ·exact Nat.lt_of_lt_of_le (hgn i hi2 hg) hold
  ·obtain ⟨hw0,hw⟩:=r4.resolve_left (by omega);have hg15:sg<=15:=by omega
   have hle:wR rs'<=costs ((xs++[x]).drop (xs.length+1 - rs'.length)):=by
    refine wR_le (by rw [List.length_drop,hlen];omega) (fun y hy=>hmay y (List.mem_of_mem_drop hy)) fun k hk=>?_;have:=hB (xs.length+1 - rs'.length+k) (by omega) (by omega);rw [gl_drop (by rw [hlen];omega),<- this];congr 2;omega
   have h1:=after_step (xs:=xs++[x]) (i:=i) (by rw [hlen];omega);have h2:=costs_drop (xs++[x]) (i+1) (xs.length+1 - rs'.length) (by omega);have h3:80<=costI (gl (xs++[x]) i):=by unfold costI;omega
   show _<afterI (xs++[x]) i;rw [h1];show _<_+costs ((xs++[x]).drop (i+1));omega
 ·rw [f1,f3,<- hrs',hlen,r2];have key:∀ e,(e∈m.l.filter fun e=>decide (firstF (appL m.L body)<=e.2))/\e.1≠x.key↔∃ i,i<xs.length/\xs.length+1 - i<=rs'.length/\(gl (xs++[x]) i).gone=false/\(∀ j,i<j->j<xs.length+1->(gl (xs++[x]) j).key≠(gl (xs++[x]) i).key)/\e=((gl (xs++[x]) i).key,m.L.next+1 - ((xs.length+1 - i:Nat):Int)):=fun e=>by
   rw [List.mem_filter,decide_eq_true_eq,hen,hfirst];constructor
   ·rintro ⟨⟨⟨i,h1,h2,h3,h4,rfl⟩,h5⟩,h6⟩;dsimp only at h5 h6;refine ⟨i,h1,by omega,by rw [hglx i h1];exact h3,fun j hj hj2=>?_,by rw [hglx i h1,Prod.mk.injEq];exact ⟨rfl,by omega⟩⟩;rw [hglx i h1];by_cases e:j=xs.length
    ·rw [e,hgln];exact fun e=>h6 e.symm
    ·rw [hglx j (by omega)];exact h4 j hj (by omega)
   ·rintro ⟨i,h1,h2,h3,h4,rfl⟩;rw [hglx i h1] at h3 h4 ⊢;refine ⟨⟨⟨i,h1,by omega,h3,fun j hj hj2=>?_,by rw [Prod.mk.injEq];exact ⟨rfl,by omega⟩⟩,by dsimp only;omega⟩,fun e=>?_⟩
    ·have:=h4 j hj (by omega);rwa [hglx j hj2] at this
    ·have:=h4 xs.length h1 (by omega);rw [hgln] at this;exact this e.symm
  cases hg:x.gone with
  | true =>
   simp only [if_true];rw [mem_dropK,key];constructor
   ·rintro ⟨i,h1,h2⟩;exact ⟨i,by omega,h2⟩
   ·rintro ⟨i,h1,h2,h3,h4⟩;by_cases e:i=xs.length
    ·rw [e,hgln,hg] at h3;cases h3
    ·exact ⟨i,by omega,h2,h3,h4⟩
  | false =>
   show e∈(x.key,m.L.next)::dropK _ _↔_;rw [List.mem_cons,mem_dropK,key];constructor
   ·rintro (rfl | ⟨i,h1,h2⟩)
    ·exact ⟨xs.length,by omega,by omega,by rw [hgln];exact hg,fun j hj hj2=>absurd hj2 (by omega),by rw [hgln,Prod.mk.injEq];exact ⟨rfl,by omega⟩⟩
    ·exact ⟨i,by omega,h2⟩
   ·rintro ⟨i,h1,h2,h3,h4,rfl⟩;by_cases e:i=xs.length
    ·left;rw [e,hgln,Prod.mk.injEq];exact ⟨rfl,by omega⟩
    ·exact .inr ⟨i,by omega,h2,h3,h4,rfl⟩
 ·rw [f3];split
  ·have:=dropK_len (m.l.filter fun e=>decide (firstF (appL m.L body)<=e.2)) x.key;omega
  ·have:=putK_len (m.l.filter fun e=>decide (firstF (appL m.L body)<=e.2)) x.key m.L.next;omega
end Go.Proofs.YtfobhkibkdmglaaGreat

namespace Go.Proofs.YtfobhkibkdmglaaGreat
open Go.Sx
set_option maxRecDepth 100000
set_option linter.unusedVariables false
set_option linter.unusedSimpArgs false
theorem RunM.mono {sg c c':Nat} {L:LogM} {d:DevM} (h:RunM sg c L d) (hc:c<=c'):RunM sg c' L d:=by
 obtain ⟨g0,h1,h2,h3⟩:=h.gen;exact ⟨h.segs,h.dn,by have:=h.calls;omega,by have:=h.next;omega,h.len,⟨g0,h1,by omega,h3⟩,h.seg,h.full,h.pos,h.cnt⟩
theorem AllM.mono {sg c c':Nat} {xs:List ItemM} {m:FlM} (h:AllM sg c xs m) (hc:c<=c'):AllM sg c' xs m:=⟨h.run.mono hc,h.may,h.body,h.gone,h.ents,by have:=h.few;omega⟩
theorem AllM.ok {sg c k:Nat} {xs:List ItemM} {m:FlM} (h:AllM sg c xs m) (hs:4<=sg/\sg<=40) (hc:c<1000):FlOk m k:=⟨h.run.ok hs hc,by have:=h.few;omega⟩
theorem putF_step {m:FlM} {x:ItemM} (h:putOk x=true):putF m x=stepF m x:=by
 have h2:mayB x=true/\x.gone=false:=by unfold putOk at h;simpa using h
 unfold putF stepF;rw [if_pos h,h2.2];rfl
def lastTo (xs:List ItemM) (key:ByteArray):Nat->Option Nat
 | 0=>none
 | k+1=>if decide ((gl xs k).key=key)&&!decide (key=ByteArray.mk #[]) then some k else lastTo xs key k
theorem lastTo_some {xs:List ItemM} {key:ByteArray} {i:Nat}:∀ n,lastTo xs key n=some i->(∀ j,j<n->(gl xs j).key≠ByteArray.mk #[])->i<n/\(gl xs i).key=key/\∀ j,i<j->j<n->(gl xs j).key≠key
 | 0,h,_=>by cases h
 | n+1,h,hk=>by
  unfold lastTo at h;by_cases hc:(decide ((gl xs n).key=key)&&!decide (key=ByteArray.mk #[]))=true
  ·rw [if_pos hc] at h;cases h;simp only [Bool.and_eq_true,decide_eq_true_eq] at hc;exact ⟨by omega,hc.1,fun j h1 h2=>absurd h2 (by omega)⟩
  ·rw [if_neg hc] at h;obtain ⟨h1,h2,h3⟩:=lastTo_some n h fun j hj=>hk j (by omega);refine ⟨by omega,h2,fun j hj hj2=>?_⟩;by_cases e:j=n
   ·subst e;intro e;apply hc;rw [Bool.and_eq_true,decide_eq_true_eq];refine ⟨e,?_⟩;rw [<- e];simpa using hk j (by omega)
   ·exact h3 j hj (by omega)
theorem lastTo_none {xs:List ItemM} {key:ByteArray}:∀ n,lastTo xs key n=none->(∀ j,j<n->(gl xs j).key≠ByteArray.mk #[])->∀ j,j<n->(gl xs j).key≠key
 | 0,_,_=>fun j hj=>absurd hj (Nat.not_lt_zero j)
 | n+1,h,hk=>fun j hj e=>by
  unfold lastTo at h;by_cases hc:(decide ((gl xs n).key=key)&&!decide (key=ByteArray.mk #[]))=true
  ·rw [if_pos hc] at h;cases h
  ·rw [if_neg hc] at h;by_cases e2:j=n
   ·subst e2;apply hc;rw [Bool.and_eq_true,decide_eq_true_eq];refine ⟨e,?_⟩;rw [<- e];simpa using hk j (by omega)
   ·exact lastTo_none n h (fun j hj=>hk j (by omega)) j (by omega) e
def entR (xs:List ItemM) (N:Nat) (key:ByteArray):Option ItemM:=match lastTo xs key xs.length with
 | none=>none
 | some i=>if (gl xs i).gone||decide (N<xs.length - i) then none else some (gl xs i)
theorem AllM.key {sg c:Nat} {xs:List ItemM} {m:FlM} (h:AllM sg c xs m):∀ j,j<xs.length->(gl xs j).key≠ByteArray.mk #[]:=fun j hj e=>by
 have:=(may_out (h.may _ (gl_mem hj))).1;have hm:=h.may _ (gl_mem hj);unfold mayB keyB at hm;rw [e] at hm;simp at hm
theorem AllM.ent {sg c:Nat} {xs:List ItemM} {m:FlM} (h:AllM sg c xs m) (hs:4<=sg/\sg<=40) (hc:c<1000) (key:ByteArray):EntIs m key (entR xs (allR m.L.l).length key):=by
 have hrd:=h.run.rd hs hc;have no:(∀ i,i<xs.length->xs.length - i<=(allR m.L.l).length->(gl xs i).gone=false->(∀ j,i<j->j<xs.length->(gl xs j).key≠(gl xs i).key)->(gl xs i).key≠key)->EntIs m key none:=fun hn=>by
  left;intro hm;obtain ⟨e,he,rfl⟩:=List.mem_map.1 hm;obtain ⟨i,h1,h2,h3,h4,rfl⟩:=(h.ents e).1 he;exact hn i h1 h2 h3 h4 rfl
 unfold entR;cases hl:lastTo xs key xs.length with
 | none=>exact no fun i h1 _ _ _=>lastTo_none _ hl h.key i h1
 | some i =>
  obtain ⟨h1,h2,h3⟩:=lastTo_some _ hl h.key;have uniq:∀ i',i'<xs.length->(∀ j,i'<j->j<xs.length->(gl xs j).key≠(gl xs i').key)->(gl xs i').key=key->i'=i:=fun i' g1 g2 g3=>by
   have a1:¬ i<i':=fun hlt=>h3 i' hlt g1 g3;have a2:¬ i'<i:=fun hlt=>g2 i hlt h1 (by rw [h2,g3]);omega
  show EntIs m key (if (gl xs i).gone||decide ((allR m.L.l).length<xs.length - i) then none else some (gl xs i));by_cases hg:((gl xs i).gone||decide ((allR m.L.l).length<xs.length - i))=true
  ·rw [if_pos hg];rw [Bool.or_eq_true,decide_eq_true_eq] at hg;refine no fun i' g1 g2 g3 g4 e=>?_;have:=uniq i' g1 g4 e;subst this;rcases hg with hg|hg
   ·rw [hg] at g3;cases g3
   ·omega
  ·rw [if_neg hg];rw [Bool.not_eq_true,Bool.or_eq_false_iff,decide_eq_false_iff_not] at hg;have hr:xs.length - i<=(allR m.L.l).length:=by omega
   have hb:=h.body i h1 hr;have hp:=h.run.pos ((allR m.L.l).length - (xs.length - i)) (by omega);refine ⟨m.L.next - ((xs.length - i:Nat):Int),(h.ents _).2 ⟨i,h1,hr,hg.1,fun j hj hj2=>by rw [h2];exact h3 j hj hj2,by rw [h2]⟩,?_,h.may _ (gl_mem h1)⟩;have hm:gl (allR m.L.l) ((allR m.L.l).length - (xs.length - i))∈allR m.L.l:=gl_mem (by omega);have:=read_pos (sortedR_iff.1 hrd.sort).1 hm;rw [hb,hp] at this;rw [<- this];congr 1;omega
theorem AllM.flRd {sg c:Nat} {xs:List ItemM} {m:FlM} (h:AllM sg c xs m) (hs:4<=sg/\sg<=40) (hc:c<1000):FlRd m:=by
 have hrd:=h.run.rd hs hc;have hnx:=h.run.next
 have hcnt:=h.run.cnt;refine ⟨hrd.few,hrd.segs,fun e he=>?_⟩;obtain ⟨i,h1,h2,_,_,rfl⟩:=(h.ents e).1 he;dsimp only;omega
def eqI (a b:ItemM):Bool:=decide (a.key=b.key)&&decide (a.val=b.val)&&decide (a.e=b.e)&&(a.gone == b.gone)
end Go.Proofs.YtfobhkibkdmglaaGreat

namespace Go.Proofs.YtfobhkibkdmglaaGreat
open Go.Sx
set_option maxRecDepth 100000
set_option linter.unusedVariables false
set_option linter.unusedSimpArgs false
def cutB (s:ByteArray) (n:Int):ByteArray:=if n<s.size then s.extract 0 n.toNat else s
noncomputable def cCut:Con where
 α:=ByteArray × Int
 β:=Unit
 m:=0
 m':=0
 pre:=fun a=>0<=a.2
 args:=fun a=>[.a (.str a.1),.a (.int .i64 a.2)]
 hp:=fun _=>[]
 ro:=fun _=>[]
 post:=fun _ _=>True
 res:=fun a _=>.a (.str (cutB a.1 a.2))
 hp':=fun _ _=>[]
set_option maxHeartbeats 4000000 in
theorem bodyCut:fnBody (Y Tryz.prog) [] 27 cCut fun _=>[]:=fnBody.of (p :=
 ∀ a:ByteArray × Int,(0:Int)<=a.snd->(decide (a.snd<(↑a.fst.size:Int))=true->((0:Int)<=a.snd/\a.snd<=(↑a.fst.size:Int))/\∃ b:Unit,a.fst.extract 0 a.snd.toNat=cutB a.fst a.snd/\True/\True)/\(decide (a.snd<(↑a.fst.size:Int))=false->∃ b:Unit,a.fst=cutB a.fst a.snd/\True/\True)) (by kernel_rfl) (by
 intro a h;refine ⟨fun h1=>?_,fun h1=>⟨(),?_,trivial,trivial⟩⟩
 ·have h2:a.2<a.1.size:=by simpa using h1
  exact ⟨by omega,(),by simp [cutB,h2],trivial,trivial⟩
 ·have h2:¬ a.2<a.1.size:=by simpa using h1
  simp [cutB,h2])
theorem callCut:CallsBy (Y Tryz.prog).G.X 27 cCut:=fn_ok okY (tab:=[]) trivial bodyCut
def cutI (x:ItemM):ItemM:=⟨cutB x.key 50,cutB x.val 210,x.e,x.gone⟩
noncomputable def cCutI:Con where
 α:=ItemM
 β:=Unit
 m:=0
 m':=0
 pre:=fun _=>True
 args:=fun x=>[.agg (itemA x)]
 hp:=fun _=>[]
 ro:=fun _=>[]
 post:=fun _ _=>True
 res:=fun x _=>.agg (itemA (cutI x))
 hp':=fun _ _=>[]
set_option maxHeartbeats 4000000 in
theorem bodyCutI:fnBody (Y Tryz.prog) [(27,cCut)] 10 cCutI fun _=>[]:=fnBody.of (p :=
 ∀ a:ItemM,True->∃ a_2:ByteArray × Int,a.key=a_2.fst/\(50:Int)=a_2.snd/\(0:Int)<=a_2.snd/\∀ b:Unit,True->∃ a_4:ByteArray × Int,a.val=a_4.fst/\(210:Int)=a_4.snd/\(0:Int)<=a_4.snd/\∀ b:Unit,True->∃ b:Unit,cutB a_2.fst a_2.snd=(cutI a).key/\cutB a_4.fst a_4.snd=(cutI a).val/\a.e=(cutI a).e/\a.gone=(cutI a).gone/\True/\True) (by kernel_rfl) (by
 intro x _;exact ⟨(x.key,50),rfl,rfl,by show (0:Int)<=50;omega,fun _ _=>⟨(x.val,210),rfl,rfl,by show (0:Int)<=210;omega,fun _ _=>⟨(),rfl,rfl,rfl,rfl,trivial,trivial⟩⟩⟩)
theorem callCutI:CallsBy (Y Tryz.prog).G.X 10 cCutI:=fn_ok okY (tab:=[(27,cCut)]) ⟨callCut,trivial⟩ bodyCutI
noncomputable def cREq:Con where
 α:=ItemM × ItemM
 β:=Unit
 m:=0
 m':=0
 pre:=fun _=>True
 args:=fun a=>[.agg (itemA a.1),.agg (itemA a.2)]
 hp:=fun _=>[]
 ro:=fun _=>[]
 post:=fun _ _=>True
 res:=fun a _=>.a (.bool (eqI a.1 a.2))
 hp':=fun _ _=>[]
set_option maxHeartbeats 4000000 in
theorem bodyREq:fnBody (Y Tryz.prog) [] 44 cREq fun _=>[]:=fnBody.of (p :=
 ∀ a:ItemM × ItemM,True->(decide (a.fst.key=a.snd.key)=true->(decide (a.fst.val=a.snd.val)=true->InR .i64 a.fst.e->InR .i64 a.snd.e->((a.fst.e == a.snd.e)=true->∃ b:Unit,(a.fst.gone == a.snd.gone)=eqI a.fst a.snd/\True/\True)/\((a.fst.e == a.snd.e)=false->∃ b:Unit,false=eqI a.fst a.snd/\True/\True))/\(decide (a.fst.val=a.snd.val)=false->∃ b:Unit,false=eqI a.fst a.snd/\True/\True))/\(decide (a.fst.key=a.snd.key)=false->∃ b:Unit,false=eqI a.fst a.snd/\True/\True)) (by kernel_rfl) (by
 intro a _;refine ⟨fun h1=>⟨fun h2 _ _=>⟨fun h3=>⟨(),?_,trivial,trivial⟩,fun h3=>⟨(),?_,trivial,trivial⟩⟩,fun h2=>⟨(),?_,trivial,trivial⟩⟩,fun h1=>⟨(),?_,trivial,trivial⟩⟩
 all_goals (first|rw [show (a.1.e == a.2.e)=decide (a.1.e=a.2.e) from rfl] at h3|skip)
 all_goals (unfold eqI)
 all_goals (simp only [*,Bool.true_and,Bool.and_true,Bool.false_and,Bool.and_false]))
theorem callREq:CallsBy (Y Tryz.prog).G.X 44 cREq:=fn_ok okY (tab:=[]) trivial bodyREq
end Go.Proofs.YtfobhkibkdmglaaGreat

namespace Go.Proofs.YtfobhkibkdmglaaGreat.Ix
open Go.Sx
set_option maxRecDepth 100000
set_option linter.unusedVariables false
set_option linter.unusedSimpArgs false
set_option maxHeartbeats 4000000 in
theorem bodyRStir:fnBody (Y Tryz.prog) [] 45 cStir fun _=>[]:=fnBody.of (p :=
 ∀ a:Int,True->(1073741824:Int)≠(0:Int)/\(134217728:Int)≠(0:Int)/\(2147483648:Int)≠(0:Int)/\∃ b:Unit,ibits Go.BinOp.xor IntKind.u64 (uw .u64 (ibits Go.BinOp.xor IntKind.u64 (uw .u64 (ibits Go.BinOp.xor IntKind.u64 a (a / (1073741824:Int))*(13787848793156543929:Int))) (uw .u64 (ibits Go.BinOp.xor IntKind.u64 a (a / (1073741824:Int))*(13787848793156543929:Int)) / (134217728:Int))*(10723151780598845931:Int))) (uw .u64 (ibits Go.BinOp.xor IntKind.u64 (uw .u64 (ibits Go.BinOp.xor IntKind.u64 a (a / (1073741824:Int))*(13787848793156543929:Int))) (uw .u64 (ibits Go.BinOp.xor IntKind.u64 a (a / (1073741824:Int))*(13787848793156543929:Int)) / (134217728:Int))*(10723151780598845931:Int)) / (2147483648:Int))=Ix.stirI a/\True/\True) (by kernel_rfl) (by
 intro a _;exact ⟨by decide,by decide,by decide,(),rfl,trivial,trivial⟩)
theorem callRStir:CallsBy (Y Tryz.prog).G.X 45 cStir:=fn_ok okY (tab:=[]) trivial bodyRStir
def iROf2 (a:OfA) (i:Nat):An:=.flat 6 Nat (fun s j=>(s.int 5 j).set 3 (.a (.int .u64 (hashTo (hashG a.g i) (a.g i) j)))) (fun _ j=>j<=(a.g i).size) (fun _ j=>(a.g i).size - j)
def iROf1 (a:OfA):An:=.mk 3 Nat (fun s i=>(s.int 4 i).set 3 (.a (.int .u64 (hashG a.g i)))) (fun _ i=>i<=a.n) (fun _ i=>a.n - i) (fun i=>.mk 60 [iROf2 a i] [])
set_option maxHeartbeats 4000000 in
theorem bodyROf:fnBody (Y Tryz.prog) [(45,cStir)] 23 cMixOf fun a=>[(23,[iROf1 a],[])]:=fnBody.of (p :=
 ∀ a:Ix.OfA,(a.n<100000/\∀ i:Nat,i<a.n->(a.g i).size<=lenMax)->(∃ a_2:Nat,(11400714819323198485:Int)=Ix.hashG a.g a_2/\0=(↑a_2:Int)/\(0:Int)=0/\(0=0/\a.n=a.n/\a.cap=a.cap)/\(a.n<=a.n/\RowsEq a.n 1 (fun (i x:Nat)=>Value.string (a.g i)) fun (i x:Nat)=>Value.string (a.g i))/\a_2<=a.n/\True)/\∀ a_2:Nat,a_2<=a.n->(decide ((↑a_2:Int)<(↑a.n:Int))=true->(∃ a_5:Nat,Ix.hashG a.g a_2=Ix.hashTo (Ix.hashG a.g a_2) (a.g a_2) a_5/\0=(↑a_5:Int)/\decide ((↑a_2:Int)<(↑a.n:Int))=decide ((↑a_2:Int)<(↑a.n:Int))/\(↑a_2:Int)=(↑a_2:Int)/\(0:Int)=0/\(0=0/\a.n=a.n/\a.cap=a.cap)/\(a.n<=a.n/\RowsEq a.n 1 (fun (i x:Nat)=>Value.string (a.g i)) fun (i x:Nat)=>Value.string (a.g i))/\a_5<=(a.g a_2).size/\True)/\∀ a_5:Nat,a_5<=(a.g a_2).size->(0<=(↑a_2:Int)/\(↑a_2:Int)<(↑a.n:Int))/\0+(↑a_2:Int).toNat<a.n/\(decide ((↑a_5:Int)<(↑(a.g (0+(↑a_2:Int).toNat)).size:Int))=true->(0<=(↑a_2:Int)/\(↑a_2:Int)<(↑a.n:Int))/\0+(↑a_2:Int).toNat<a.n/\(0<=(↑a_5:Int)/\(↑a_5:Int)<(↑(a.g (0+(↑a_2:Int).toNat)).size:Int))/\∃ a_8:Int,ibits Go.BinOp.xor IntKind.u64 (Ix.hashTo (Ix.hashG a.g a_2) (a.g a_2) a_5) (↑((a.g (0+(↑a_2:Int).toNat)).data.getD (↑a_5:Int).toNat (0:UInt8)).toNat:Int)=a_8/\True/\∀ b:Unit,True->InR .i64 ((↑a_5:Int)+1)/\∃ (a':Nat),uw .u64 (Ix.stirI a_8+(1:Int))=Ix.hashTo (Ix.hashG a.g a_2) (a.g a_2) a' /\
 (↑a_5:Int)+1=(↑a':Int)/\decide ((↑a_2:Int)<(↑a.n:Int))=decide ((↑a_2:Int)<(↑a.n:Int))/\(↑a_2:Int)=(↑a_2:Int)/\(0:Int)=0/\(0=0/\a.n=a.n/\a.cap=a.cap)/\(a.n<=a.n/\RowsEq a.n 1 (fun (i x:Nat)=>Value.string (a.g i)) fun (i x:Nat)=>Value.string (a.g i))/\a'<=(a.g a_2).size/\(a.g a_2).size - a'<(a.g a_2).size - a_5)/\(decide ((↑a_5:Int)<(↑(a.g (0+(↑a_2:Int).toNat)).size:Int))=false->(0<=(↑a_2:Int)/\(↑a_2:Int)<(↑a.n:Int))/\0+(↑a_2:Int).toNat<a.n/\∃ a_8:Int,ibits Go.BinOp.xor IntKind.u64 (Ix.hashTo (Ix.hashG a.g a_2) (a.g a_2) a_5) (uw .u64 ((256:Int)+uw .u64 (↑(a.g (0+(↑a_2:Int).toNat)).size:Int)))=a_8/\True/\∀ b:Unit,True->InR .i64 ((↑a_2:Int)+1)/\∃ (a':Nat),Ix.stirI a_8=Ix.hashG a.g a'/\(↑a_2:Int)+1=(↑a':Int)/\(0:Int)=0/\(0=0/\a.n=a.n/\a.cap=a.cap)/\(a.n<=a.n/\RowsEq a.n 1 (fun (i x:Nat)=>Value.string (a.g i)) fun (i x:Nat)=>Value.string (a.g i))/\a'<=a.n/\a.n - a'<a.n - a_2))/\(decide ((↑a_2:Int)<(↑a.n:Int))=false->∃ b:Unit,Ix.hashG a.g a_2=Ix.hashG a.g a.n/\True/\True)) (by kernel_rfl) (by
 rintro ⟨g,n,cap⟩ ⟨hn,hs⟩;dsimp only at hn hs ⊢;simp only [Nat.zero_add,Int.toNat_natCast];refine ⟨⟨0,?_⟩,fun i hi=>⟨fun h1=>⟨⟨0,?_⟩,fun j hj=>?_⟩,fun h1=>?_⟩⟩
 ·((repeat' apply And.intro)<;>first|with_reducible rfl|omega|(dsimp only;omega)|exact RowsEq.refl _ _ _|assumption|rfl|trivial|exact Nat.le_refl _|skip)
 ·((repeat' apply And.intro)<;>first|with_reducible rfl|omega|(dsimp only;omega)|exact RowsEq.refl _ _ _|assumption|rfl|trivial|exact Nat.le_refl _|skip)
 ·simp only [decide_eq_true_eq] at h1;have hi':i<n:=by omega
  have hsz:=hs i hi';refine ⟨by omega,hi',fun h2=>?_,fun h2=>?_⟩
  ·simp only [decide_eq_true_eq] at h2;have hj':j<(g i).size:=by omega
   unfold lenMax at hsz;simp only [InR]
   ((repeat' apply And.intro)<;>first|with_reducible rfl|omega|(dsimp only;omega)|exact RowsEq.refl _ _ _|assumption|rfl|trivial|exact Nat.le_refl _|skip)
   refine ⟨_,rfl,trivial,fun _ _=>⟨by omega,j+1,?_⟩⟩
   ((repeat' apply And.intro)<;>first|with_reducible rfl|omega|(dsimp only;omega)|exact RowsEq.refl _ _ _|assumption|rfl|trivial|exact Nat.le_refl _|skip)
  ·simp only [decide_eq_false_iff_not] at h2;have hj':j=(g i).size:=by omega
   subst hj';simp only [InR]
   ((repeat' apply And.intro)<;>first|with_reducible rfl|omega|(dsimp only;omega)|exact RowsEq.refl _ _ _|assumption|rfl|trivial|exact Nat.le_refl _|skip)
   refine ⟨_,rfl,trivial,fun _ _=>⟨by omega,i+1,?_⟩⟩
   ((repeat' apply And.intro)<;>first|with_reducible rfl|omega|(dsimp only;omega)|exact RowsEq.refl _ _ _|assumption|rfl|trivial|exact Nat.le_refl _|skip)
 ·simp only [decide_eq_false_iff_not] at h1;have hi':i=n:=by omega
  subst hi';exact ⟨(),rfl,trivial,trivial⟩)
theorem callROf:CallsBy (Y Tryz.prog).G.X 23 cMixOf:=fn_ok okY (tab:=[(45,cStir)]) ⟨callRStir,trivial⟩ bodyROf
end Go.Proofs.YtfobhkibkdmglaaGreat.Ix
namespace Go.Proofs.YtfobhkibkdmglaaGreat
open Go.Sx
structure EqsA where
 xs:List ItemM
 c1:Nat
 c2:Nat
noncomputable def cEqs:Con where
 α:=EqsA
 β:=Unit
 m:=2
 m':=2
 pre:=fun a=>a.xs.length<1000
 args:=fun a=>[.a (.slc 0 0 4 a.xs.length a.c1),.a (.slc 1 0 4 a.xs.length a.c2)]
 hp:=fun _=>[]
 ro:=fun a=>[(0,.arr 35 ksItem a.xs.length (encRows encItem a.xs)),(1,.arr 35 ksItem a.xs.length (encRows encItem a.xs))]
 post:=fun _ _=>True
 res:=fun _ _=>.a .tt
 hp':=fun _ _=>[]
def iEqs (a:EqsA):An:=.flat 4 Nat (fun s i=>s.int 5 i) (fun _ i=>i<=a.xs.length) (fun _ i=>a.xs.length - i)
set_option maxHeartbeats 4000000 in
theorem bodyEqs:fnBody (Y Tryz.prog) [(44,cREq)] 25 cEqs fun a=>[(25,[iEqs a],[])]:=fnBody.of (p :=
 ∀ a:EqsA,a.xs.length<1000->(((↑a.xs.length:Int) != (↑a.xs.length:Int))=true->∃ b:Unit,false=true/\True/\True)/\(((↑a.xs.length:Int) != (↑a.xs.length:Int))=false->(∃ a_3:Nat,0=(↑a_3:Int)/\((↑a.xs.length:Int) != (↑a.xs.length:Int))=((↑a.xs.length:Int) != (↑a.xs.length:Int))/\false=false/\(0=0/\a.xs.length=a.xs.length/\a.c1=a.c1)/\(0=0/\a.xs.length=a.xs.length/\a.c2=a.c2)/\(a.xs.length<=a.xs.length/\RowsEq a.xs.length 4 (encRows encItem a.xs) (encRows encItem a.xs))/\(a.xs.length<=a.xs.length/\RowsEq a.xs.length 4 (encRows encItem a.xs) (encRows encItem a.xs))/\a_3<=a.xs.length/\True)/\∀ a_3:Nat,a_3<=a.xs.length->(decide ((↑a_3:Int)<(↑a.xs.length:Int))=true->(0<=(↑a_3:Int)/\(↑a_3:Int)<(↑a.xs.length:Int))/\0+(↑a_3:Int).toNat<a.xs.length/\(0<=(↑a_3:Int)/\(↑a_3:Int)<(↑a.xs.length:Int))/\0+(↑a_3:Int).toNat<a.xs.length/\∃ a_6:ItemM × ItemM,(gl a.xs (0+(↑a_3:Int).toNat)).key=a_6.fst.key/\(gl a.xs (0+(↑a_3:Int).toNat)).val=a_6.fst.val/\(gl a.xs (0+(↑a_3:Int).toNat)).e=a_6.fst.e/\(gl a.xs (0+(↑a_3:Int).toNat)).gone=a_6.fst.gone/\(gl a.xs (0+(↑a_3:Int).toNat)).key=a_6.snd.key/\(gl a.xs (0+(↑a_3:Int).toNat)).val=a_6.snd.val/\(gl a.xs (0+(↑a_3:Int).toNat)).e=a_6.snd.e/\(gl a.xs (0+(↑a_3:Int).toNat)).gone=a_6.snd.gone/\True/\∀ b:Unit,True->((!eqI a_6.fst a_6.snd)=true->∃ b:Unit,false=true/\True /\
 True)/\((!eqI a_6.fst a_6.snd)=false->InR .i64 ((↑a_3:Int)+1)/\∃ (a':Nat),(↑a_3:Int)+1=(↑a':Int)/\((↑a.xs.length:Int) != (↑a.xs.length:Int))=((↑a.xs.length:Int) != (↑a.xs.length:Int))/\false=false/\(0=0/\a.xs.length=a.xs.length/\a.c1=a.c1)/\(0=0/\a.xs.length=a.xs.length/\a.c2=a.c2)/\(a.xs.length<=a.xs.length/\RowsEq a.xs.length 4 (encRows encItem a.xs) (encRows encItem a.xs))/\(a.xs.length<=a.xs.length/\RowsEq a.xs.length 4 (encRows encItem a.xs) (encRows encItem a.xs))/\a'<=a.xs.length/\a.xs.length - a'<a.xs.length - a_3))/\(decide ((↑a_3:Int)<(↑a.xs.length:Int))=false->∃ b:Unit,true=true/\True/\True))) (by kernel_rfl) (by
 rintro ⟨xs,c1,c2⟩ h;have h:xs.length<1000:=h;have e:∀ x,eqI x x=true:=fun x=>by simp [eqI]
 refine ⟨fun c=>absurd c (by simp),fun _=>⟨⟨0,?_⟩,fun i hi=>⟨fun c=>?_,fun _=>⟨(),rfl,trivial,trivial⟩⟩⟩⟩
 ·(repeat' apply And.intro)<;>first|with_reducible (first|rfl|trivial|assumption)|exact Nat.zero_le _|(intro h_;revert h_)|omega|with_reducible exact RowsEq.refl _ _ _|rfl|exact RowsEq.refl _ _ _|exact Nat.le_refl _|(dsimp only;omega)|skip
 ·have hi':i<xs.length:=by have:=of_decide_eq_true c;dsimp only at this;omega
  rw [show 0+(i:Int).toNat=i by omega];refine ⟨⟨by omega,by dsimp only;omega⟩,hi',⟨by omega,by dsimp only;omega⟩,hi',(gl xs i,gl xs i),rfl,rfl,rfl,rfl,rfl,rfl,rfl,rfl,trivial,fun _ _=>?_⟩;rw [show eqI (gl xs i,gl xs i).1 (gl xs i,gl xs i).2=true from e _];refine ⟨fun c=>absurd c (by decide),fun _=>⟨by simp only [InR];omega,i+1,?_⟩⟩
  (repeat' apply And.intro)<;>first|with_reducible (first|rfl|trivial|assumption)|exact hi'|(intro h_;revert h_)|omega|with_reducible exact RowsEq.refl _ _ _|rfl|exact RowsEq.refl _ _ _|exact Nat.le_refl _|(dsimp only;omega)|skip)
theorem callEqs:CallsBy (Y Tryz.prog).G.X 25 cEqs:=fn_ok okY (tab:=[(44,cREq)]) ⟨callREq,trivial⟩ bodyEqs
structure ItsA where
 xs:List ItemM
 cap:Nat
noncomputable def cIts:Con where
 α:=ItsA
 β:=Nat
 m:=1
 m':=2
 pre:=fun a=>a.xs.length<=a.cap/\a.cap<=lenMax
 args:=fun a=>[.a (.slc 0 0 4 a.xs.length a.cap),.a (.int .i64 8)]
 hp:=fun _=>[]
 ro:=fun a=>[(0,.arr 35 ksItem a.xs.length (encRows encItem a.xs))]
 post:=fun _ _=>True
 res:=fun a c=>.a (.slc 1 0 4 ((a.xs.take 8).map cutI).length c)
 hp':=fun a _=>[(1,.arr 35 ksItem ((a.xs.take 8).map cutI).length (encRows encItem ((a.xs.take 8).map cutI)))]
def iIts (a:ItsA):An:=.flat 3 (Nat × Nat) (fun s x=>((s.new (.arr 35 ksItem ((a.xs.take x.1).map cutI).length (encRows encItem ((a.xs.take x.1).map cutI)))).set 5 (.a (.slc s.nx 0 4 ((a.xs.take x.1).map cutI).length x.2))).int 6 x.1) (fun _ x=>x.1<=min a.xs.length 8) (fun _ x=>min a.xs.length 8 - x.1)
set_option maxHeartbeats 4000000 in
theorem bodyIts:fnBody (Y Tryz.prog) [(10,cCutI)] 22 cIts fun a=>[(22,[iIts a],[])]:=fnBody.of (p :=
 ∀ a:ItsA,a.xs.length<=a.cap/\a.cap<=lenMax->(∃ a_2:Nat × Nat,0=(↑a_2.fst:Int)/\(0=(List.map cutI (List.take a_2.fst a.xs)).length/\0=a_2.snd)/\(0=0/\a.xs.length=a.xs.length/\a.cap=a.cap)/\(8:Int)=8/\(List.map cutI (List.take a_2.fst a.xs)).length=0/\(a.xs.length<=a.xs.length/\RowsEq a.xs.length 4 (encRows encItem a.xs) (encRows encItem a.xs))/\a_2.fst<=min a.xs.length 8/\True)/\∀ a_2:Nat × Nat,a_2.fst<=min a.xs.length 8->(decide ((↑a_2.fst:Int)<(↑a.xs.length:Int))=true->(decide ((↑a_2.fst:Int)<8)=true->(0<=(↑a_2.fst:Int)/\(↑a_2.fst:Int)<(↑a.xs.length:Int))/\0+(↑a_2.fst:Int).toNat<a.xs.length/\∃ a_6:ItemM,(gl a.xs (0+(↑a_2.fst:Int).toNat)).key=a_6.key/\(gl a.xs (0+(↑a_2.fst:Int).toNat)).val=a_6.val/\(gl a.xs (0+(↑a_2.fst:Int).toNat)).e=a_6.e/\(gl a.xs (0+(↑a_2.fst:Int).toNat)).gone=a_6.gone/\True/\∀ b:Unit,True->0+(List.map cutI (List.take a_2.fst a.xs)).length<=(List.map cutI (List.take a_2.fst a.xs)).length/\1<=1/\((List.map cutI (List.take a_2.fst a.xs)).length+1)*48<=140737488355328/\∀ cap:Nat,(List.map cutI (List.take a_2.fst a.xs)).length+1<=cap->cap<=lenMax->((List.map cutI (List.take a_2.fst a.xs)).length+1<=a_2.snd->cap=a_2.snd)->InR .i64 ((↑a_2.fst:Int)+1)/\∃ (a':Nat × Nat),(↑a_2.fst:Int)+1=(↑a'.fst:Int)/\(0=0/\(List.map cutI (List.take a_2.fst a.xs)).length+1=(List.map cutI (List.take a'.fst a.xs)).length /\
 cap=a'.snd)/\(0=0/\a.xs.length=a.xs.length/\a.cap=a.cap)/\(8:Int)=8/\((List.map cutI (List.take a'.fst a.xs)).length<=(List.map cutI (List.take a_2.fst a.xs)).length+1/\RowsEq (List.map cutI (List.take a'.fst a.xs)).length 4 (appRows (encRows encItem (List.map cutI (List.take a_2.fst a.xs))) 0 (List.map cutI (List.take a_2.fst a.xs)).length fun (i j:Nat)=>flatRows 4 [Value.string (cutI a_6).key,Value.string (cutI a_6).val,Value.int IntKind.i64 (cutI a_6).e,Value.bool (cutI a_6).gone] (0+i) j) (encRows encItem (List.map cutI (List.take a'.fst a.xs))))/\(a.xs.length<=a.xs.length/\RowsEq a.xs.length 4 (encRows encItem a.xs) (encRows encItem a.xs))/\a'.fst<=min a.xs.length 8/\min a.xs.length 8 - a'.fst<min a.xs.length 8 - a_2.fst)/\(decide ((↑a_2.fst:Int)<8)=false->∃ b:Nat,(0=0/\(List.map cutI (List.take a_2.fst a.xs)).length=(List.map cutI (List.take 8 a.xs)).length/\a_2.snd=b)/\((List.map cutI (List.take 8 a.xs)).length<=(List.map cutI (List.take a_2.fst a.xs)).length/\RowsEq (List.map cutI (List.take 8 a.xs)).length 4 (encRows encItem (List.map cutI (List.take a_2.fst a.xs))) (encRows encItem (List.map cutI (List.take 8 a.xs))))/\True/\True))/\(decide ((↑a_2.fst:Int)<(↑a.xs.length:Int))=false->∃ b:Nat,(0=0/\(List.map cutI (List.take a_2.fst a.xs)).length=(List.map cutI (List.take 8 a.xs)).length/\a_2.snd=b)/\((List.map cutI (List.take 8 a.xs)).length<=(List.map cutI (List.take a_2.fst a.xs)).length /\
 RowsEq (List.map cutI (List.take 8 a.xs)).length 4 (encRows encItem (List.map cutI (List.take a_2.fst a.xs))) (encRows encItem (List.map cutI (List.take 8 a.xs))))/\True/\True)) (by kernel_rfl) (by
 rintro ⟨xs,cap⟩ ⟨h1,h2⟩;have h1:xs.length<=cap:=h1;have hl:∀ i,i<=xs.length->((xs.take i).map cutI).length=i:=fun i hi=>by rw [List.length_map,List.length_take];omega
 refine ⟨⟨(0,0),?_⟩,?_⟩
 ·(repeat' apply And.intro)<;>first|with_reducible (first|rfl|trivial|assumption)|exact Nat.zero_le _|(intro h_;revert h_)|omega|with_reducible exact RowsEq.refl _ _ _|rfl|exact RowsEq.refl _ _ _|exact Nat.le_refl _|(dsimp only;omega)|skip
 rintro ⟨i,c⟩ hi;have hi:i<=min xs.length 8:=hi;have hli:=hl i (by omega);dsimp only;refine ⟨fun c1=>⟨fun c2=>?_,fun c2=>?_⟩,fun c1=>?_⟩
 ·have c1:=of_decide_eq_true c1;have c2:=of_decide_eq_true c2;have hlx:i<xs.length:=by omega
  have hl2:=hl (i+1) hlx;have hst:(xs.take (i+1)).map cutI=(xs.take i).map cutI++[cutI (gl xs i)]:=by rw [take_push hlx,List.map_append];rfl
  rw [show 0+(i:Int).toNat=i by omega];refine ⟨⟨by omega,by omega⟩,hlx,gl xs i,rfl,rfl,rfl,rfl,trivial,fun _ _=>⟨by omega,by omega,by omega,fun cap2 q1 q2 q3=>⟨by simp only [InR];omega,(i+1,cap2),?_⟩⟩⟩;have hr:RowsEq ((xs.take (i+1)).map cutI).length 4 (appRows (encRows encItem ((xs.take i).map cutI)) 0 ((xs.take i).map cutI).length fun (i_1 j:Nat)=>flatRows 4 [Value.string (cutI (gl xs i)).key,Value.string (cutI (gl xs i)).val,Value.int IntKind.i64 (cutI (gl xs i)).e,Value.bool (cutI (gl xs i)).gone] (0+i_1) j) (encRows encItem ((xs.take (i+1)).map cutI)):=by
   rw [hst];exact .push rfl (by simp) rfl
  have hi3:i+1<=min xs.length 8:=by omega
  (repeat' apply And.intro)<;>first|with_reducible (first|rfl|trivial|assumption)|exact hr|exact hi3|(intro h_;revert h_)|omega|with_reducible exact RowsEq.refl _ _ _|rfl|exact RowsEq.refl _ _ _|exact Nat.le_refl _|(dsimp only;omega)|skip
 ·have c2:=of_decide_eq_false c2;have:i=8:=by omega
  subst this;refine ⟨c,?_⟩
  (repeat' apply And.intro)<;>first|with_reducible (first|rfl|trivial|assumption)|(intro h_;revert h_)|omega|with_reducible exact RowsEq.refl _ _ _|rfl|exact RowsEq.refl _ _ _|exact Nat.le_refl _|(dsimp only;omega)|skip
 ·have c1:=of_decide_eq_false c1;have:i=xs.length:=by omega
  subst this;have e:xs.take 8=xs.take xs.length:=by rw [List.take_length,List.take_of_length_le (by omega)]
  refine ⟨c,?_⟩;rw [e]
  (repeat' apply And.intro)<;>first|with_reducible (first|rfl|trivial|assumption)|(intro h_;revert h_)|omega|with_reducible exact RowsEq.refl _ _ _|rfl|exact RowsEq.refl _ _ _|exact Nat.le_refl _|(dsimp only;omega)|skip)
theorem callIts:CallsBy (Y Tryz.prog).G.X 22 cIts:=fn_ok okY (tab:=[(10,cCutI)]) ⟨callCutI,trivial⟩ bodyIts
structure BtwA where
 m:FlM
 p:FlP
 from_:Int
 to:Int
 after:ByteArray
 n:Int
 get:ByteArray->Option ItemM
def hashK (k:ByteArray):Int:=Ix.hash1 11400714819323198485 k
def keysA (a:BtwA):List ByteArray:=Ix.sortB (Ix.keysOf a.p.x.t)
def leB (a b:ByteArray):Bool:=Go.Op.bytesLess a.toList b.toList||decide (a=b)
def selB (a:BtwA) (k:ByteArray):Bool:=!leB k a.after&&!decide (hashK k<a.from_)&&!decide (a.to<hashK k)
def selTo (a:BtwA) (i:Nat):List ItemM:=((keysA a).take i).filterMap fun k=>if selB a k then a.get k else none
theorem selTo_succ {a:BtwA} {i:Nat} (h:i<(keysA a).length):selTo a (i+1)=selTo a i++(if selB a (gl (keysA a) i) then (a.get (gl (keysA a) i)).toList else []):=by
 unfold selTo;rw [take_push h,List.filterMap_append];congr 1;cases h1:selB a (gl (keysA a) i) with
 | false=>simp [h1]
 | true=>cases h2:a.get (gl (keysA a) i)<;>simp [h1,h2]
structure BtwB where
 i:Nat
 cap:Nat
noncomputable def cBtw:Con where
 α:=BtwA
 β:=BtwB
 m:=7
 m':=8
 pre:=fun a=>FlAt a.m a.p/\FlRd a.m/\(∀ k∈keysA a,EntIs a.m k (a.get k)/\k.size<=1000)/\a.p.x.t.length<100000
 args:=fun a=>[.a (.ptr 0 0 0 0),.a (.int .u64 a.from_),.a (.int .u64 a.to),.a (.str a.after),.a (.int .i64 a.n)]
 hp:=fun _=>[]
 ro:=fun a=>flHp 0 1 2 3 4 5 6 a.m a.p
 post:=fun a b=>b.i<=(keysA a).length/\(b.i=(keysA a).length\/a.n<=((selTo a b.i).length:Int))/\((selTo a b.i).length:Int)<=max a.n 0
 res:=fun a b=>.a (.slc 7 0 4 (selTo a b.i).length b.cap)
 hp':=fun a b=>[(7,.arr 35 ksItem (selTo a b.i).length (encRows encItem (selTo a b.i)))]
def iBtw (a:BtwA):An:=.flat 3 (Nat × Nat) (fun s x=>((s.new (.arr 35 ksItem (selTo a x.1).length (encRows encItem (selTo a x.1)))).set 11 (.a (.slc s.nx 0 4 (selTo a x.1).length x.2))).int 20 x.1) (fun _ x=>x.1<=(keysA a).length/\((selTo a x.1).length:Int)<=max a.n 0) (fun _ x=>(keysA a).length - x.1)
noncomputable def tabBtw:List (Nat × Con):=[(40,Ix.cKeys),(46,Ix.cMixOf),(47,cFEnt)]
theorem tabBtw_ok:TabOk (Y Tryz.prog).G.X tabBtw:=⟨Ix.callKeys,Ix.callMixOf,callFEnt,trivial⟩
set_option maxHeartbeats 4000000 in
theorem bodyBtw:fnBody (Y Tryz.prog) tabBtw 24 cBtw fun a=>[(24,[iBtw a],[])]:=fnBody.of (p :=
 ∀ a:BtwA,FlAt a.m a.p/\FlRd a.m/\(∀ k:ByteArray,k∈keysA a->EntIs a.m k (a.get k)/\k.size<=1000)/\a.p.x.t.length<100000->∃ a_2:Ix.KeyA,0=0/\idxQ a.p.x a_2.x a.p.cap a_2.cap (a_2.x.t.length<100000/\∀ b:Nat,True->(∃ a_4:Nat × Nat,0=(↑a_4.fst:Int)/\(0=(selTo a a_4.fst).length/\0=a_4.snd)/\(↑(Ix.keysOf a_2.x.t).length:Int)=(↑(Ix.keysOf a_2.x.t).length:Int)/\(0=0/\(Ix.keysOf a_2.x.t).length=(Ix.keysOf a_2.x.t).length/\b=b)/\0=0/\a.from_=a.from_/\a.to=a.to/\a.after=a.after/\a.n=a.n/\(selTo a a_4.fst).length=0/\((Ix.keysOf a_2.x.t).length<=(Ix.keysOf a_2.x.t).length/\RowsEq (Ix.keysOf a_2.x.t).length 1 (encRows Ix.encT (Ix.sortB (Ix.keysOf a_2.x.t))) (encRows Ix.encT (Ix.sortB (Ix.keysOf a_2.x.t))))/\0=0/\0=0/\0=0/\logQ a.m.L a.m.L a.p.y.lv a.p.y.lv (devQ a.m.d a.m.d (idxQ a.p.x a.p.x a.p.cap a.p.cap (a.p.H=a.p.H/\(a_4.fst<=(keysA a).length/\(↑(selTo a a_4.fst).length:Int)<=max a.n (0:Int))/\True))))/\∀ a_4:Nat × Nat,a_4.fst<=(keysA a).length/\(↑(selTo a a_4.fst).length:Int)<=max a.n (0:Int)->(decide ((↑a_4.fst:Int)<(↑(Ix.keysOf a_2.x.t).length:Int))=true->(0<=(↑a_4.fst:Int)/\(↑a_4.fst:Int)<(↑(Ix.keysOf a_2.x.t).length:Int))/\0+(↑a_4.fst:Int).toNat<(Ix.keysOf a_2.x.t).length/\(decide (a.n<=(↑(selTo a a_4.fst).length:Int))=true->∃ b:BtwB,(0=0/\(selTo a a_4.fst).length=(selTo a b.i).length/\a_4.snd=b.cap)/\((selTo a b.i).length<=(selTo a a_4.fst).length /\
 RowsEq (selTo a b.i).length 4 (encRows encItem (selTo a a_4.fst)) (encRows encItem (selTo a b.i)))/\(b.i<=(keysA a).length/\(b.i=(keysA a).length\/a.n<=(↑(selTo a b.i).length:Int))/\(↑(selTo a b.i).length:Int)<=max a.n (0:Int))/\True)/\(decide (a.n<=(↑(selTo a a_4.fst).length:Int))=false->∃ a_8:Ix.OfA,(0=0/\1=a_8.n/\1=a_8.cap)/\(a_8.n<=1/\RowsEq a_8.n 1 (flatRows 1 [Value.string (gl (Ix.sortB (Ix.keysOf a_2.x.t)) (0+(↑a_4.fst:Int).toNat))]) fun (i x:Nat)=>Value.string (a_8.g i))/\(a_8.n<100000/\∀ i:Nat,i<a_8.n->(a_8.g i).size<=lenMax)/\∀ b_1:Unit,True->((Go.Op.bytesLess (gl (Ix.sortB (Ix.keysOf a_2.x.t)) (0+(↑a_4.fst:Int).toNat)).toList a.after.toList||decide (gl (Ix.sortB (Ix.keysOf a_2.x.t)) (0+(↑a_4.fst:Int).toNat)=a.after))=true->InR .i64 ((↑a_4.fst:Int)+1)/\∃ (a':Nat × Nat),(↑a_4.fst:Int)+1=(↑a'.fst:Int)/\(0=0/\(selTo a a_4.fst).length=(selTo a a'.fst).length/\a_4.snd=a'.snd)/\(↑(Ix.keysOf a_2.x.t).length:Int)=(↑(Ix.keysOf a_2.x.t).length:Int)/\(0=0/\(Ix.keysOf a_2.x.t).length=(Ix.keysOf a_2.x.t).length/\b=b)/\0=0/\a.from_=a.from_/\a.to=a.to/\a.after=a.after/\a.n=a.n/\((selTo a a'.fst).length<=(selTo a a_4.fst).length/\RowsEq (selTo a a'.fst).length 4 (encRows encItem (selTo a a_4.fst)) (encRows encItem (selTo a a'.fst)))/\((Ix.keysOf a_2.x.t).length<=(Ix.keysOf a_2.x.t).length/\RowsEq (Ix.keysOf a_2.x.t).length 1 (encRows Ix.encT (Ix.sortB (Ix.keysOf a_2.x.t))) (encRows Ix.encT (Ix.sortB (Ix.keysOf a_2.x.t)))) /\
 0=0/\0=0/\0=0/\logQ a.m.L a.m.L a.p.y.lv a.p.y.lv (devQ a.m.d a.m.d (idxQ a.p.x a.p.x a.p.cap a.p.cap (a.p.H=a.p.H/\(a'.fst<=(keysA a).length/\(↑(selTo a a'.fst).length:Int)<=max a.n (0:Int))/\(keysA a).length - a'.fst<(keysA a).length - a_4.fst))))/\((Go.Op.bytesLess (gl (Ix.sortB (Ix.keysOf a_2.x.t)) (0+(↑a_4.fst:Int).toNat)).toList a.after.toList||decide (gl (Ix.sortB (Ix.keysOf a_2.x.t)) (0+(↑a_4.fst:Int).toNat)=a.after))=false->(decide (Ix.hashG a_8.g a_8.n<a.from_)=true->InR .i64 ((↑a_4.fst:Int)+1)/\∃ (a':Nat × Nat),(↑a_4.fst:Int)+1=(↑a'.fst:Int)/\(0=0/\(selTo a a_4.fst).length=(selTo a a'.fst).length/\a_4.snd=a'.snd)/\(↑(Ix.keysOf a_2.x.t).length:Int)=(↑(Ix.keysOf a_2.x.t).length:Int)/\(0=0/\(Ix.keysOf a_2.x.t).length=(Ix.keysOf a_2.x.t).length/\b=b)/\0=0/\a.from_=a.from_/\a.to=a.to/\a.after=a.after/\a.n=a.n/\((selTo a a'.fst).length<=(selTo a a_4.fst).length/\RowsEq (selTo a a'.fst).length 4 (encRows encItem (selTo a a_4.fst)) (encRows encItem (selTo a a'.fst)))/\((Ix.keysOf a_2.x.t).length<=(Ix.keysOf a_2.x.t).length/\RowsEq (Ix.keysOf a_2.x.t).length 1 (encRows Ix.encT (Ix.sortB (Ix.keysOf a_2.x.t))) (encRows Ix.encT (Ix.sortB (Ix.keysOf a_2.x.t))))/\0=0/\0=0/\0=0/\logQ a.m.L a.m.L a.p.y.lv a.p.y.lv (devQ a.m.d a.m.d (idxQ a.p.x a.p.x a.p.cap a.p.cap (a.p.H=a.p.H/\(a'.fst<=(keysA a).length/\(↑(selTo a a'.fst).length:Int)<=max a.n (0:Int))/\(keysA a).length - a'.fst<(keysA a).length - a_4.fst)))) /\
 (decide (Ix.hashG a_8.g a_8.n<a.from_)=false->(decide (a.to<Ix.hashG a_8.g a_8.n)=true->InR .i64 ((↑a_4.fst:Int)+1)/\∃ (a':Nat × Nat),(↑a_4.fst:Int)+1=(↑a'.fst:Int)/\(0=0/\(selTo a a_4.fst).length=(selTo a a'.fst).length/\a_4.snd=a'.snd)/\(↑(Ix.keysOf a_2.x.t).length:Int)=(↑(Ix.keysOf a_2.x.t).length:Int)/\(0=0/\(Ix.keysOf a_2.x.t).length=(Ix.keysOf a_2.x.t).length/\b=b)/\0=0/\a.from_=a.from_/\a.to=a.to/\a.after=a.after/\a.n=a.n/\((selTo a a'.fst).length<=(selTo a a_4.fst).length/\RowsEq (selTo a a'.fst).length 4 (encRows encItem (selTo a a_4.fst)) (encRows encItem (selTo a a'.fst)))/\((Ix.keysOf a_2.x.t).length<=(Ix.keysOf a_2.x.t).length/\RowsEq (Ix.keysOf a_2.x.t).length 1 (encRows Ix.encT (Ix.sortB (Ix.keysOf a_2.x.t))) (encRows Ix.encT (Ix.sortB (Ix.keysOf a_2.x.t))))/\0=0/\0=0/\0=0/\logQ a.m.L a.m.L a.p.y.lv a.p.y.lv (devQ a.m.d a.m.d (idxQ a.p.x a.p.x a.p.cap a.p.cap (a.p.H=a.p.H/\(a'.fst<=(keysA a).length/\(↑(selTo a a'.fst).length:Int)<=max a.n (0:Int))/\(keysA a).length - a'.fst<(keysA a).length - a_4.fst))))/\(decide (a.to<Ix.hashG a_8.g a_8.n)=false->∃ a_13:FEntA,0=0/\gl (Ix.sortB (Ix.keysOf a_2.x.t)) (0+(↑a_4.fst:Int).toNat)=a_13.key/\0=0/\0=0/\0=0/\logQ a.m.L a_13.m.L a.p.y.lv a_13.p.y.lv (devQ a.m.d a_13.m.d (idxQ a.p.x a_13.p.x a.p.cap a_13.p.cap (a.p.H=a_13.p.H/\(FlAt a_13.m a_13.p/\FlRd a_13.m/\EntIs a_13.m a_13.key a_13.r/\a_13.key.size<=lenMax) /\
 ∀ b_2:Unit,True->(a_13.r.isSome=true->0+(selTo a a_4.fst).length<=(selTo a a_4.fst).length/\1<=1/\((selTo a a_4.fst).length+1)*48<=140737488355328/\∀ cap:Nat,(selTo a a_4.fst).length+1<=cap->cap<=lenMax->((selTo a a_4.fst).length+1<=a_4.snd->cap=a_4.snd)->InR .i64 ((↑a_4.fst:Int)+1)/\∃ (a':Nat × Nat),(↑a_4.fst:Int)+1=(↑a'.fst:Int)/\(0=0/\(selTo a a_4.fst).length+1=(selTo a a'.fst).length/\cap=a'.snd)/\(↑(Ix.keysOf a_2.x.t).length:Int)=(↑(Ix.keysOf a_2.x.t).length:Int)/\(0=0/\(Ix.keysOf a_2.x.t).length=(Ix.keysOf a_2.x.t).length/\b=b)/\0=0/\a.from_=a.from_/\a.to=a.to/\a.after=a.after/\a.n=a.n/\((selTo a a'.fst).length<=(selTo a a_4.fst).length+1/\RowsEq (selTo a a'.fst).length 4 (appRows (encRows encItem (selTo a a_4.fst)) 0 (selTo a a_4.fst).length fun (i j:Nat)=>flatRows 4 [Value.string (a_13.r.getD zeroItem).key,Value.string (a_13.r.getD zeroItem).val,Value.int IntKind.i64 (a_13.r.getD zeroItem).e,Value.bool (a_13.r.getD zeroItem).gone] (0+i) j) (encRows encItem (selTo a a'.fst)))/\((Ix.keysOf a_2.x.t).length<=(Ix.keysOf a_2.x.t).length/\RowsEq (Ix.keysOf a_2.x.t).length 1 (encRows Ix.encT (Ix.sortB (Ix.keysOf a_2.x.t))) (encRows Ix.encT (Ix.sortB (Ix.keysOf a_2.x.t))))/\0=0/\0=0/\0=0/\logQ a.m.L a.m.L a.p.y.lv a.p.y.lv (devQ a.m.d a.m.d (idxQ a.p.x a.p.x a.p.cap a.p.cap (a.p.H=a.p.H/\(a'.fst<=(keysA a).length/\(↑(selTo a a'.fst).length:Int)<=max a.n (0:Int)) /\
 (keysA a).length - a'.fst<(keysA a).length - a_4.fst))))/\(a_13.r.isSome=false->InR .i64 ((↑a_4.fst:Int)+1)/\∃ (a':Nat × Nat),(↑a_4.fst:Int)+1=(↑a'.fst:Int)/\(0=0/\(selTo a a_4.fst).length=(selTo a a'.fst).length/\a_4.snd=a'.snd)/\(↑(Ix.keysOf a_2.x.t).length:Int)=(↑(Ix.keysOf a_2.x.t).length:Int)/\(0=0/\(Ix.keysOf a_2.x.t).length=(Ix.keysOf a_2.x.t).length/\b=b)/\0=0/\a.from_=a.from_/\a.to=a.to/\a.after=a.after/\a.n=a.n/\((selTo a a'.fst).length<=(selTo a a_4.fst).length/\RowsEq (selTo a a'.fst).length 4 (encRows encItem (selTo a a_4.fst)) (encRows encItem (selTo a a'.fst)))/\((Ix.keysOf a_2.x.t).length<=(Ix.keysOf a_2.x.t).length/\RowsEq (Ix.keysOf a_2.x.t).length 1 (encRows Ix.encT (Ix.sortB (Ix.keysOf a_2.x.t))) (encRows Ix.encT (Ix.sortB (Ix.keysOf a_2.x.t))))/\0=0/\0=0/\0=0/\logQ a.m.L a.m.L a.p.y.lv a.p.y.lv (devQ a.m.d a.m.d (idxQ a.p.x a.p.x a.p.cap a.p.cap (a.p.H=a.p.H/\(a'.fst<=(keysA a).length/\(↑(selTo a a'.fst).length:Int)<=max a.n (0:Int))/\(keysA a).length - a'.fst<(keysA a).length - a_4.fst))))))))))))/\(decide ((↑a_4.fst:Int)<(↑(Ix.keysOf a_2.x.t).length:Int))=false->∃ b:BtwB,(0=0/\(selTo a a_4.fst).length=(selTo a b.i).length/\a_4.snd=b.cap)/\((selTo a b.i).length<=(selTo a a_4.fst).length/\RowsEq (selTo a b.i).length 4 (encRows encItem (selTo a a_4.fst)) (encRows encItem (selTo a b.i)))/\(b.i<=(keysA a).length/\(b.i=(keysA a).length\/a.n<=(↑(selTo a b.i).length:Int)) /\
 (↑(selTo a b.i).length:Int)<=max a.n (0:Int))/\True))) (by kernel_rfl) (by
 rintro a ⟨h1,h2,h3,h4⟩;refine ⟨Ix.KeyA.mk a.p.x a.p.cap .empty,?_⟩
 (repeat' apply And.intro)<;>first|with_reducible (first|rfl|trivial|assumption)|exact h4|(intro h_;revert h_)|omega|with_reducible exact RowsEq.refl _ _ _|rfl|exact RowsEq.refl _ _ _|exact Nat.le_refl _|(dsimp only;omega)|skip
 intro b _;have hkl:(keysA a).length=(Ix.keysOf a.p.x.t).length:=Ix.sortB_length _;have hkle:(Ix.keysOf a.p.x.t).length<=a.p.x.t.length:=Ix.keysOf_le _;have hn0:((selTo a 0).length:Int)<=max a.n 0:=by show ((0:Nat):Int)<=_;omega
 refine ⟨⟨(0,0),?_⟩,?_⟩
 ·(repeat' apply And.intro)<;>first|with_reducible (first|rfl|trivial|assumption)|exact hn0|exact Nat.zero_le _|(intro h_;revert h_)|omega|with_reducible exact RowsEq.refl _ _ _|rfl|exact RowsEq.refl _ _ _|exact Nat.le_refl _|(dsimp only;omega)|skip
 rintro ⟨i,c⟩ ⟨hi,hn⟩;have hi:i<=(keysA a).length:=hi;have hn:((selTo a i).length:Int)<=max a.n 0:=hn;dsimp only;have hK:Ix.sortB (Ix.keysOf a.p.x.t)=keysA a:=rfl;rw [hK,<- hkl];refine ⟨fun c1=>?_,fun c1=>?_⟩
 ·have c1:=of_decide_eq_true c1;have hil:i<(keysA a).length:=by omega
  rw [show 0+(i:Int).toNat=i by omega];refine ⟨⟨by omega,by omega⟩,hil,fun c2=>⟨⟨i,c⟩,?_⟩,fun c2=>?_⟩
  ·have c2:=of_decide_eq_true c2;have ho:i=(keysA a).length\/a.n<=((selTo a i).length:Int):=.inr c2
   (repeat' apply And.intro)<;>first|with_reducible (first|rfl|trivial|assumption)|exact ho|exact hn|exact hi|(intro h_;revert h_)|omega|with_reducible exact RowsEq.refl _ _ _|rfl|exact RowsEq.refl _ _ _|exact Nat.le_refl _|(dsimp only;omega)|skip
  ·have c2:=of_decide_eq_false c2;obtain ⟨k,hk⟩:∃ k,k=gl (keysA a) i:=⟨_,rfl⟩
   have hst:=selTo_succ hil;obtain ⟨he,hks⟩:=h3 _ (gl_mem hil);rw [<- hk] at hst he hks ⊢;have hr:RowsEq 1 1 (flatRows 1 [Value.string k]) fun (i x:Nat)=>Value.string k:=.of_cells fun i hi=>by
    have:i=0:=by omega
    subst this;rfl
   have hks2:k.size<=lenMax:=by simp only [lenMax];omega
   have hi2:i+1<=(keysA a).length:=hil;have same:selB a k=false->selTo a (i+1)=selTo a i:=fun e=>by rw [hst,e];simp
   refine ⟨Ix.OfA.mk (fun _=>k) 1 1,?_⟩
   (repeat' apply And.intro)<;>first|with_reducible (first|rfl|trivial|assumption)|exact hr|exact fun _ _=>hks2|(intro h_;revert h_)|omega|with_reducible exact RowsEq.refl _ _ _|rfl|exact RowsEq.refl _ _ _|exact Nat.le_refl _|(dsimp only;omega)|skip
   intro _ _;have hH:Ix.hashG (Ix.OfA.mk (fun _=>k) 1 1).g (Ix.OfA.mk (fun _=>k) 1 1).n=hashK k:=rfl;rw [hH];have hL:(Go.Op.bytesLess k.toList a.after.toList||decide (k=a.after))=leB k a.after:=rfl;rw [hL];refine ⟨fun c3=>?_,fun c3=>⟨fun c4=>?_,fun c4=>⟨fun c5=>?_,fun c5=>?_⟩⟩⟩
   ·have hs:=same (by unfold selB;rw [c3];rfl);refine ⟨by simp only [InR,lenMax] at *;omega,(i+1,c),?_⟩;dsimp only;rw [hs]
    (repeat' apply And.intro)<;>first|with_reducible (first|rfl|trivial|assumption)|exact hi2|exact hn|(intro h_;revert h_)|omega|with_reducible exact RowsEq.refl _ _ _|rfl|exact RowsEq.refl _ _ _|exact Nat.le_refl _|(dsimp only;omega)|skip
   ·have hs:=same (by unfold selB;rw [c4];simp);refine ⟨by simp only [InR,lenMax] at *;omega,(i+1,c),?_⟩;dsimp only;rw [hs]
    (repeat' apply And.intro)<;>first|with_reducible (first|rfl|trivial|assumption)|exact hi2|exact hn|(intro h_;revert h_)|omega|with_reducible exact RowsEq.refl _ _ _|rfl|exact RowsEq.refl _ _ _|exact Nat.le_refl _|(dsimp only;omega)|skip
   ·have hs:=same (by unfold selB;rw [c5];simp);refine ⟨by simp only [InR,lenMax] at *;omega,(i+1,c),?_⟩;dsimp only;rw [hs]
    (repeat' apply And.intro)<;>first|with_reducible (first|rfl|trivial|assumption)|exact hi2|exact hn|(intro h_;revert h_)|omega|with_reducible exact RowsEq.refl _ _ _|rfl|exact RowsEq.refl _ _ _|exact Nat.le_refl _|(dsimp only;omega)|skip
   ·have hsel:selB a k=true:=by unfold selB;rw [c3,c4,c5];rfl
    rw [hsel] at hst;obtain ⟨r,hr2⟩:∃ r,r=a.get k:=⟨_,rfl⟩
    rw [<- hr2] at he hst;have hsl:(selTo a i).length<=100000:=by
     have q1:(selTo a i).length<=((keysA a).take i).length:=List.length_filterMap_le _ _;rw [List.length_take] at q1;omega
    refine ⟨FEntA.mk a.m a.p k r,?_⟩
    (repeat' apply And.intro)<;>first|with_reducible (first|rfl|trivial|assumption)|exact h1|exact h2|exact he|exact hks2|(intro h_;revert h_)|omega|with_reducible exact RowsEq.refl _ _ _|rfl|exact RowsEq.refl _ _ _|exact Nat.le_refl _|(dsimp only;omega)|skip
    intro _ _;cases r with
    | none =>
     have hs:selTo a (i+1)=selTo a i:=by rw [hst];simp
     refine ⟨fun c6=>absurd c6 (by simp),fun _=>⟨by simp only [InR,lenMax] at *;omega,(i+1,c),?_⟩⟩;dsimp only;rw [hs]
     (repeat' apply And.intro)<;>first|with_reducible (first|rfl|trivial|assumption)|exact hi2|exact hn|(intro h_;revert h_)|omega|with_reducible exact RowsEq.refl _ _ _|rfl|exact RowsEq.refl _ _ _|exact Nat.le_refl _|(dsimp only;omega)|skip
    | some x =>
     have hs:selTo a (i+1)=selTo a i++[x]:=by rw [hst];simp
     have hn2:((selTo a i++[x]).length:Int)<=max a.n 0:=by rw [List.length_append,List.length_singleton];omega
     refine ⟨fun _=>⟨by omega,by omega,by omega,fun cap q1 q2 q3=>⟨by simp only [InR,lenMax] at *;omega,(i+1,cap),?_⟩⟩,fun c6=>absurd c6 (by simp)⟩;have hr3:RowsEq (selTo a i++[x]).length 4 (appRows (encRows encItem (selTo a i)) 0 (selTo a i).length fun (i j:Nat)=>flatRows 4 [Value.string x.key,Value.string x.val,Value.int IntKind.i64 x.e,Value.bool x.gone] (0+i) j) (encRows encItem (selTo a i++[x])):=.push rfl (by simp) rfl;have hl3:(selTo a i).length+1=(selTo a i++[x]).length:=by simp
     dsimp only;rw [hs]
     (repeat' apply And.intro)<;>first|with_reducible (first|rfl|trivial|assumption)|exact hi2|exact hn2|exact hr3|exact hl3|(intro h_;revert h_)|omega|with_reducible exact RowsEq.refl _ _ _|rfl|exact RowsEq.refl _ _ _|exact Nat.le_refl _|(dsimp only;omega)|skip
 ·have c1:=of_decide_eq_false c1;have:i=(keysA a).length:=by omega
  subst this;have ho:(keysA a).length=(keysA a).length\/a.n<=((selTo a (keysA a).length).length:Int):=.inl rfl;refine ⟨⟨(keysA a).length,c⟩,?_⟩
  (repeat' apply And.intro)<;>first|with_reducible (first|rfl|trivial|assumption)|exact ho|exact hn|(intro h_;revert h_)|omega|with_reducible exact RowsEq.refl _ _ _|rfl|exact RowsEq.refl _ _ _|exact Nat.le_refl _|(dsimp only;omega)|skip)
theorem callBtw:CallsBy (Y Tryz.prog).G.X 24 cBtw:=fn_ok okY tabBtw_ok bodyBtw
end Go.Proofs.YtfobhkibkdmglaaGreat

namespace Go.Proofs.YtfobhkibkdmglaaGreat
open Go.Sx
set_option maxRecDepth 100000
set_option linter.unusedVariables false
set_option linter.unusedSimpArgs false
theorem ltB_irr (a:ByteArray):Ix.ltB a a=false:=by
 cases h:Ix.ltB a a with
 | false=>rfl
 | true=>exact absurd (Ix.ltB_iff.1 h) (List.lt_irrefl _)
theorem ltB_trans {a b c:ByteArray} (h:Ix.ltB a b=true) (k:Ix.ltB b c=true):Ix.ltB a c=true:=Ix.ltB_iff.2 (List.lt_trans (Ix.ltB_iff.1 h) (Ix.ltB_iff.1 k))
theorem ltB_asymm {a b:ByteArray} (h:Ix.ltB a b=true):Ix.ltB b a=false:=by
 cases k:Ix.ltB b a with
 | false=>rfl
 | true=>have:=ltB_trans h k;rw [ltB_irr] at this;cases this
theorem ltB_tri {a b:ByteArray} (h:Ix.ltB a b=false) (k:a≠b):Ix.ltB b a=true:=by
 have h1:=Ix.ltB_false.1 h;refine Ix.ltB_iff.2 (Classical.byContradiction fun h2=>k (Ix.tl_inj ?_));exact List.le_antisymm (List.not_lt.1 h2) h1
def SortI (l:List ItemM):Prop:=l.Pairwise fun a b=>Ix.ltB a.key b.key=true
theorem sort_ext:∀ {a b:List ItemM},SortI a->SortI b->(∀ x,x∈a↔x∈b)->a=b
 | [],[],_,_,_=>rfl
 | [],y::b,_,_,h=>by have:=(h y).2 List.mem_cons_self;cases this
 | x::a,[],_,_,h=>by have:=(h x).1 List.mem_cons_self;cases this
 | x::a,y::b,ha,hb,h=>by
  obtain ⟨a1,a2⟩:=List.pairwise_cons.1 ha;obtain ⟨b1,b2⟩:=List.pairwise_cons.1 hb;have e:x=y:=by
   rcases List.mem_cons.1 ((h x).1 List.mem_cons_self) with e|hx
   ·exact e
   ·rcases List.mem_cons.1 ((h y).2 List.mem_cons_self) with e|hy
    ·exact e.symm
    ·have:=ltB_asymm (b1 x hx);rw [a1 y hy] at this;cases this
  subst e;have ht:a=b:=sort_ext a2 b2 fun z=>by
   constructor
   ·intro hz;rcases List.mem_cons.1 ((h z).1 (List.mem_cons_of_mem _ hz)) with e|hz2
    ·subst e;have:=a1 z hz;rw [ltB_irr] at this;cases this
    ·exact hz2
   ·intro hz;rcases List.mem_cons.1 ((h z).2 (List.mem_cons_of_mem _ hz)) with e|hz2
    ·subst e;have:=b1 z hz;rw [ltB_irr] at this;cases this
    ·exact hz2
  rw [ht]
def posW:List ItemM->ByteArray->Nat
 | [],_=>0
 | y::w,k=>if Ix.ltB y.key k then posW w k+1 else 0
def insW (w:List ItemM) (x:ItemM):List ItemM:=if posW w x.key<w.length/\(gl w (posW w x.key)).key=x.key then w.set (posW w x.key) x else w.take (posW w x.key)++x::w.drop (posW w x.key)
theorem posW_le:∀ (w:List ItemM) (k:ByteArray),posW w k<=w.length
 | [],_=>Nat.le_refl _
 | y::w,k=>by
  have:=posW_le w k;unfold posW;split
  ·rw [List.length_cons];omega
  ·exact Nat.zero_le _
theorem insW_cons {y:ItemM} {w:List ItemM} {x:ItemM}:insW (y::w) x=if Ix.ltB y.key x.key then y::insW w x else if y.key=x.key then x::w else x::y::w:=by
 unfold insW;by_cases h:Ix.ltB y.key x.key=true
 ·have hp:posW (y::w) x.key=posW w x.key+1:=if_pos h;rw [if_pos h,hp];have hg:gl (y::w) (posW w x.key+1)=gl w (posW w x.key):=rfl;rw [hg,List.length_cons];by_cases hc:posW w x.key<w.length/\(gl w (posW w x.key)).key=x.key
  ·rw [if_pos hc,if_pos ⟨by omega,hc.2⟩];rfl
  ·rw [if_neg hc,if_neg (fun h=>hc ⟨by omega,h.2⟩)];rfl
 ·have hp:posW (y::w) x.key=0:=if_neg h;rw [if_neg h,hp];by_cases hk:y.key=x.key
  ·rw [if_pos hk,if_pos ⟨by simp,hk⟩];rfl
  ·rw [if_neg hk,if_neg (fun h=>hk h.2)];rfl
theorem insW_ok:∀ {w:List ItemM} {x:ItemM},SortI w->SortI (insW w x)/\∀ z,z∈insW w x↔z=x\/(z∈w/\z.key≠x.key)
 | [],x,_=>⟨by simp [insW,posW,SortI],fun z=>by simp [insW,posW]⟩
 | y::w,x,h=>by
  obtain ⟨h1,h2⟩:=List.pairwise_cons.1 h;obtain ⟨i1,i2⟩:=insW_ok (x:=x) h2;rw [insW_cons];by_cases hl:Ix.ltB y.key x.key=true
  ·rw [if_pos hl];have hne:y.key≠x.key:=fun e=>by rw [e,ltB_irr] at hl;cases hl
   refine ⟨List.pairwise_cons.2 ⟨fun z hz=>?_,i1⟩,fun z=>?_⟩
   ·rcases (i2 z).1 hz with e | ⟨hz,_⟩
    ·rw [e];exact hl
    ·exact h1 z hz
   ·rw [List.mem_cons,i2,List.mem_cons];constructor
    ·rintro (e|e | ⟨a,b⟩)
     ·exact .inr ⟨.inl e,by rw [e];exact hne⟩
     ·exact .inl e
     ·exact .inr ⟨.inr a,b⟩
    ·rintro (e | ⟨e|a,b⟩)
     ·exact .inr (.inl e)
     ·exact .inl e
     ·exact .inr (.inr ⟨a,b⟩)
  ·rw [if_neg hl];have hl:Ix.ltB y.key x.key=false:=by simpa using hl
   by_cases hk:y.key=x.key
   ·rw [if_pos hk];refine ⟨List.pairwise_cons.2 ⟨fun z hz=>by rw [<- hk];exact h1 z hz,h2⟩,fun z=>?_⟩;rw [List.mem_cons,List.mem_cons];constructor
    ·rintro (e|a)
     ·exact .inl e
     ·exact .inr ⟨.inr a,fun e=>by have:=h1 z a;rw [e,hk,ltB_irr] at this;cases this⟩
    ·rintro (e | ⟨e|a,b⟩)
     ·exact .inl e
     ·exact absurd (by rw [e];exact hk) b
     ·exact .inr a
   ·rw [if_neg hk];have hlt:=ltB_tri hl hk;refine ⟨List.pairwise_cons.2 ⟨fun z hz=>?_,h⟩,fun z=>?_⟩
    ·rcases List.mem_cons.1 hz with e|hz
     ·rw [e];exact hlt
     ·exact ltB_trans hlt (h1 z hz)
    ·rw [List.mem_cons];constructor
     ·rintro (e|a)
      ·exact .inl e
      ·refine .inr ⟨a,fun e=>?_⟩;rcases List.mem_cons.1 a with e2|a
       ·exact hk (by rw [<- e2];exact e)
       ·have:=ltB_trans hlt (h1 z a);rw [e,ltB_irr] at this;cases this
     ·rintro (e | ⟨a,_⟩)
      ·exact .inl e
      ·exact .inr a
end Go.Proofs.YtfobhkibkdmglaaGreat

namespace Go.Proofs.YtfobhkibkdmglaaGreat
open Go.Sx
set_option maxRecDepth 100000
set_option linter.unusedVariables false
set_option linter.unusedSimpArgs false
def hinB (f t:Int) (k:ByteArray):Bool:=!decide (hashK k<f)&&!decide (t<hashK k)
def getW (xs:List ItemM) (k:ByteArray):Option ItemM:=(lastTo xs k xs.length).map (gl xs)
theorem lastTo_app {xs:List ItemM} {x:ItemM} {k:ByteArray}:∀ n:Nat,n<=xs.length->lastTo (xs++[x]) k n=lastTo xs k n
 | 0,_=>rfl
 | n+1,h=>by
  have ih:=lastTo_app (xs:=xs) (x:=x) (k:=k) n (by omega);unfold lastTo;have hg:gl (xs++[x]) n=gl xs n:=gl_append_left (by omega);rw [ih,hg]
theorem getW_push {xs:List ItemM} {x:ItemM} (hx:x.key≠ByteArray.mk #[]) (k:ByteArray):getW (xs++[x]) k=if x.key=k then some x else getW xs k:=by
 unfold getW;rw [List.length_append,List.length_singleton];have hg:gl (xs++[x]) xs.length=x:=by rw [show xs.length=xs.length+0 from rfl,gl_append_right];rfl
 have hs:lastTo (xs++[x]) k (xs.length+1)=if decide (x.key=k)&&!decide (k=ByteArray.mk #[]) then some xs.length else lastTo xs k xs.length:=by
  have h1:=lastTo_app (xs:=xs) (x:=x) (k:=k) xs.length (Nat.le_refl _);have h2:lastTo (xs++[x]) k (xs.length+1)=if decide ((gl (xs++[x]) xs.length).key=k)&&!decide (k=ByteArray.mk #[]) then some xs.length else lastTo (xs++[x]) k xs.length:=rfl;rw [h2,h1,hg]
 rw [hs];by_cases e:x.key=k
 ·rw [if_pos e,if_pos (by subst e;simp [hx])];simp [hg]
 ·rw [if_neg e,if_neg (by simp [e])];cases hl:lastTo xs k xs.length with
  | none=>rfl
  | some i =>
   have hi:i<xs.length:=by
    have:∀ n,lastTo xs k n=some i->i<n:=fun n=>by
     induction n with
     | zero=>intro h;cases h
     | succ n ih =>
      intro h;unfold lastTo at h;split at h
      ·cases h;omega
      ·have:=ih h;omega
    exact this _ hl
   show some (gl (xs++[x]) i)=some (gl xs i);rw [gl_append_left hi]
def accTo (xs:List ItemM) (i:Nat):List ItemM:=(xs.take i).filter putOk
theorem accTo_succ {xs:List ItemM} {i:Nat} (h:i<xs.length):accTo xs (i+1)=accTo xs i++if putOk (gl xs i) then [gl xs i] else []:=by
 unfold accTo;rw [take_push h,List.filter_append];congr 1;cases hp:putOk (gl xs i)<;>simp [hp]
def wantTo (f t:Int) (xs:List ItemM):Nat->List ItemM
 | 0=>[]
 | i+1=>if putOk (gl xs i)&&hinB f t (gl xs i).key then insW (wantTo f t xs i) (gl xs i) else wantTo f t xs i
theorem may_key {x:ItemM} (h:mayB x=true):x.key≠ByteArray.mk #[]:=fun e=>by
 unfold mayB keyB at h;rw [e] at h;simp at h
theorem want_ok {f t:Int} {xs:List ItemM}:∀ i,i<=xs.length->SortI (wantTo f t xs i)/\∀ z,z∈wantTo f t xs i↔hinB f t z.key=true/\getW (accTo xs i) z.key=some z
 | 0,_=>⟨List.Pairwise.nil,fun z=>by simp [wantTo,accTo,getW,lastTo]⟩
 | i+1,h=>by
  obtain ⟨h1,h2⟩:=want_ok (f:=f) (t:=t) (xs:=xs) i (by omega);have hi:i<xs.length:=by omega
  have ha:=accTo_succ hi;obtain ⟨x,hx⟩:∃ x,x=gl xs i:=⟨_,rfl⟩
  have hw:wantTo f t xs (i+1)=if putOk x&&hinB f t x.key then insW (wantTo f t xs i) x else wantTo f t xs i:=by rw [hx];rfl
  rw [<- hx] at ha;rw [hw,ha];cases hp:putOk x with
  | false =>
   simp only [Bool.false_and,Bool.false_eq_true,if_false,List.append_nil];exact ⟨h1,h2⟩
  | true =>
   have hk:x.key≠ByteArray.mk #[]:=may_key (by unfold putOk at hp;simp only [Bool.and_eq_true] at hp;exact hp.1);simp only [Bool.true_and,if_true];cases hh:hinB f t x.key with
   | true =>
    obtain ⟨i1,i2⟩:=insW_ok (x:=x) h1;refine ⟨i1,fun z=>?_⟩;simp only [if_true];rw [i2,getW_push hk,h2];constructor
    ·rintro (e | ⟨⟨a,b⟩,c⟩)
     ·rw [e,if_pos rfl];exact ⟨hh,rfl⟩
     ·rw [if_neg (fun e=>c e.symm)];exact ⟨a,b⟩
    ·rintro ⟨a,b⟩;by_cases e:x.key=z.key
     ·rw [if_pos e] at b;cases b;exact .inl rfl
     ·rw [if_neg e] at b;exact .inr ⟨⟨a,b⟩,fun e2=>e e2.symm⟩
   | false =>
    refine ⟨h1,fun z=>?_⟩;simp only [Bool.false_eq_true,if_false];rw [h2,getW_push hk];constructor
    ·rintro ⟨a,b⟩;exact ⟨a,by rw [if_neg (fun e=>by rw [e,a] at hh;cases hh)];exact b⟩
    ·rintro ⟨a,b⟩;rw [if_neg (fun e=>by rw [e,a] at hh;cases hh)] at b;exact ⟨a,b⟩
def tellK (f t:Int) (get:ByteArray->Option ItemM) (ks:List ByteArray):List ItemM:=ks.filterMap fun k=>if hinB f t k then get k else none
theorem tell_ok {f t:Int} {get:ByteArray->Option ItemM} {ks:List ByteArray} (hs:ks.Pairwise fun a b=>Ix.ltB a b=true) (hk:∀ k x,get k=some x->x.key=k) (hm:∀ k x,get k=some x->k∈ks) :
 SortI (tellK f t get ks)/\∀ z,z∈tellK f t get ks↔hinB f t z.key=true/\get z.key=some z:=by
 refine ⟨?_,fun z=>?_⟩
 ·unfold SortI tellK;rw [List.pairwise_filterMap];refine hs.imp fun {a b} hab x hx y hy=>?_;have hx2:get a=some x:=by
   by_cases h:hinB f t a=true
   ·rwa [if_pos h] at hx
   ·rw [if_neg h] at hx;cases hx
  have hy2:get b=some y:=by
   by_cases h:hinB f t b=true
   ·rwa [if_pos h] at hy
   ·rw [if_neg h] at hy;cases hy
  rw [hk _ _ hx2,hk _ _ hy2];exact hab
 ·unfold tellK;rw [List.mem_filterMap];constructor
  ·rintro ⟨k,_,hz⟩;by_cases h:hinB f t k=true
   ·rw [if_pos h] at hz;have:=hk _ _ hz;rw [this];exact ⟨h,hz⟩
   ·rw [if_neg h] at hz;cases hz
  ·rintro ⟨a,b⟩;exact ⟨z.key,hm _ _ b,by rw [if_pos a];exact b⟩
end Go.Proofs.YtfobhkibkdmglaaGreat

namespace Go.Proofs.YtfobhkibkdmglaaGreat
open Go.Sx
set_option maxRecDepth 100000
set_option linter.unusedVariables false
set_option linter.unusedSimpArgs false
theorem leB_iff {a b:ByteArray}:leB a b=true↔Ix.ltB a b=true\/a=b:=by
 unfold leB;rw [Bool.or_eq_true,decide_eq_true_eq];rfl
theorem leB_none {k:ByteArray} (h:k≠ByteArray.mk #[]):leB k (ByteArray.mk #[])=false:=by
 cases hc:leB k (ByteArray.mk #[]) with
 | false=>rfl
 | true =>
  rcases leB_iff.1 hc with e|e
  ·exact absurd (Ix.ltB_iff.1 e) (List.not_lt_nil _)
  ·exact absurd e h
theorem fm_congr {α β:Type} {f g:α->Option β}:∀ {l:List α},(∀ x∈l,f x=g x)->l.filterMap f=l.filterMap g
 | [],_=>rfl
 | x::l,h=>by
  rw [List.filterMap_cons,List.filterMap_cons,h x List.mem_cons_self,fm_congr fun y hy=>h y (List.mem_cons_of_mem _ hy)]
theorem sel_eq {a:BtwA} (hk:∀ k x,a.get k=some x->x.key=k):selTo a (keysA a).length=(tellK a.from_ a.to a.get (keysA a)).filter fun x=>!leB x.key a.after:=by
 unfold selTo tellK;rw [List.take_length,List.filter_filterMap];refine fm_congr fun k _=>?_;unfold selB hinB;cases hg:a.get k with
 | none=>cases leB k a.after<;>cases decide (hashK k<a.from_)<;>cases decide (a.to<hashK k)<;>rfl
 | some x =>
  have:=hk k x hg;subst this;cases hl:leB x.key a.after<;>cases decide (hashK x.key<a.from_)<;>cases decide (a.to<hashK x.key)<;>simp [hl,Option.filter]
theorem sel_pre (a:BtwA) (i:Nat):∃ rest,selTo a (keysA a).length=selTo a i++rest:=by
 refine ⟨((keysA a).drop i).filterMap fun k=>if selB a k then a.get k else none,?_⟩;unfold selTo;rw [<- List.filterMap_append,List.take_append_drop,List.take_length]
theorem drop_sorted {S:List ItemM} (hS:SortI S) (hne:∀ x∈S,x.key≠ByteArray.mk #[]) {g:Nat} (hg:g<=S.length) {after:ByteArray} (ha:(g=0/\after=ByteArray.mk #[])\/(0<g/\after=(gl S (g - 1)).key)):S.filter (fun x=>!leB x.key after)=S.drop g:=by
 rcases ha with ⟨rfl,rfl⟩ | ⟨h0,rfl⟩
 ·rw [List.drop_zero,List.filter_eq_self];intro x hx;rw [leB_none (hne x hx)];rfl
 ·have hp:=List.pairwise_iff_getElem.1 hS;have lt:∀ i j,i<j->j<S.length->Ix.ltB (gl S i).key (gl S j).key=true:=fun i j hij hj=>by
   rw [gl_eq (show i<S.length by omega),gl_eq hj];exact hp i j (by omega) hj hij
  have e:S.filter (fun x=>!leB x.key (gl S (g - 1)).key)=(S.take g).filter (fun x=>!leB x.key (gl S (g - 1)).key)++(S.drop g).filter (fun x=>!leB x.key (gl S (g - 1)).key):=by
   rw [<- List.filter_append,List.take_append_drop]
  rw [e];have e1:(S.take g).filter (fun x=>!leB x.key (gl S (g - 1)).key)=[]:=by
   rw [List.filter_eq_nil_iff];intro x hx;obtain ⟨i,hi,rfl⟩:=mem_gl hx;rw [List.length_take] at hi;have hgi:gl (S.take g) i=gl S i:=by
    rw [gl_eq (by rw [List.length_take];exact hi),gl_eq (show i<S.length by omega),List.getElem_take]
   rw [hgi];have:leB (gl S i).key (gl S (g - 1)).key=true:=by
    by_cases hig:i=g - 1
    ·rw [hig];exact leB_iff.2 (.inr rfl)
    ·exact leB_iff.2 (.inl (lt i (g - 1) (by omega) (by omega)))
   rw [this];simp
  have e2:(S.drop g).filter (fun x=>!leB x.key (gl S (g - 1)).key)=S.drop g:=by
   rw [List.filter_eq_self];intro x hx;obtain ⟨i,hi,rfl⟩:=mem_gl hx;rw [List.length_drop] at hi;rw [gl_drop hi];have hl:=lt (g - 1) (g+i) (by omega) (by omega);have:leB (gl S (g+i)).key (gl S (g - 1)).key=false:=by
    cases hc:leB (gl S (g+i)).key (gl S (g - 1)).key with
    | false=>rfl
    | true =>
     rcases leB_iff.1 hc with h|h
     ·rw [ltB_asymm hl] at h;cases h
     ·rw [h,ltB_irr] at hl;cases hl
   rw [this];rfl
  rw [e1,e2];rfl
theorem insW_len (w:List ItemM) (x:ItemM):(insW w x).length<=w.length+1:=by
 have:=posW_le w x.key;unfold insW;split
 ·rw [List.length_set];omega
 ·rw [List.length_append,List.length_cons,List.length_take,List.length_drop];omega
theorem want_len (f t:Int) (xs:List ItemM):∀ i,(wantTo f t xs i).length<=i
 | 0=>Nat.le_refl _
 | i+1=>by
  have ih:=want_len f t xs i;have:=insW_len (wantTo f t xs i) (gl xs i);unfold wantTo;split<;>omega
end Go.Proofs.YtfobhkibkdmglaaGreat

namespace Go.Proofs.YtfobhkibkdmglaaGreat
open Go.Sx
set_option maxRecDepth 100000
set_option linter.unusedVariables false
set_option linter.unusedSimpArgs false
theorem AllM.add_len {sg c:Nat} {xs:List ItemM} {m:FlM} (h:AllM sg c xs m) (hs:4<=sg) (hg:c+1<sg) {x:ItemM} (hx:mayB x=true):(allR (stepF m x).L.l).length=(allR m.L.l).length+1:=by
 obtain ⟨_,_,q,hq,r3,r4⟩:=h.run.append hs (body:=bodyOf (some x)) (bodyOf_len fun z e=>by cases e;exact hx);have h0:q=0:=by omega
 show (allR (appL m.L (bodyOf (some x))).l).length=_;rw [r3,h0];simp
def m0B:FlM:=newF 0 40 (devNew 320)
def putsX (xs:List ItemM):Nat->FlM
 | 0=>m0B
 | i+1=>putF (putsX xs i) (gl xs i)
theorem putsX_ok {xs:List ItemM}:∀ i,i<=8->i<=xs.length->AllM 40 i (accTo xs i) (putsX xs i)/\(allR (putsX xs i).L.l).length=(accTo xs i).length
 | 0,_,_=>⟨AllM.new (by decide) rfl,rfl⟩
 | i+1,h8,hl=>by
  obtain ⟨h1,h2⟩:=putsX_ok (xs:=xs) i (by omega) (by omega);have hi:i<xs.length:=by omega
  rw [accTo_succ hi];show AllM 40 (i+1) _ (putF (putsX xs i) (gl xs i))/\(allR (putF (putsX xs i) (gl xs i)).L.l).length=_;cases hp:putOk (gl xs i) with
  | true =>
   have hm:mayB (gl xs i)=true:=by unfold putOk at hp;simp only [Bool.and_eq_true] at hp;exact hp.1
   rw [putF_step hp];simp only [if_true];exact ⟨h1.add (by omega) (.inr (by omega)) hm,by rw [h1.add_len (by omega) (by omega) hm,h2];simp⟩
  | false =>
   have e:putF (putsX xs i) (gl xs i)=putsX xs i:=if_neg (by rw [hp];decide);rw [e];simp only [Bool.false_eq_true,if_false,List.append_nil];exact ⟨h1.mono (by omega),h2⟩
theorem acc_live {xs:List ItemM} {i:Nat} {x:ItemM} (h:x∈accTo xs i):x.gone=false:=by
 have:=(List.mem_filter.1 h).2;unfold putOk at this;simp only [Bool.and_eq_true] at this;simpa using this.2
theorem entR_get {ys:List ItemM} (h:∀ x∈ys,x.gone=false) (k:ByteArray) (hl:∀ i,lastTo ys k ys.length=some i->i<ys.length):entR ys ys.length k=getW ys k:=by
 unfold entR getW;cases hc:lastTo ys k ys.length with
 | none=>rfl
 | some i =>
  have hi:=hl i hc;show (if ((gl ys i).gone||decide (ys.length<ys.length - i))=true then none else some (gl ys i))=some (gl ys i);rw [h _ (gl_mem hi),decide_eq_false (by omega)];rfl
theorem getW_key {ys:List ItemM} (hk:∀ j,j<ys.length->(gl ys j).key≠ByteArray.mk #[]) {k:ByteArray} {x:ItemM} (h:getW ys k=some x):x.key=k/\x∈ys:=by
 unfold getW at h;cases hc:lastTo ys k ys.length with
 | none=>rw [hc] at h;cases h
 | some i =>
  rw [hc] at h;have e:gl ys i=x:=by simpa using h
  obtain ⟨h1,h2,_⟩:=lastTo_some _ hc hk;exact ⟨by rw [<- e];exact h2,by rw [<- e];exact gl_mem h1⟩
theorem ent_in {m:FlM} {k:ByteArray} {x:ItemM} (h:EntIs m k (some x)) {z:Ix.IdxR} (hz:Ix.Has z m.l):k∈Ix.sortB (Ix.keysOf z.t):=by
 obtain ⟨p,hp,_⟩:=h;have:k∈Ix.keysOf z.t:=by
  unfold Ix.keysOf;exact (hz.perm.map Prod.fst).mem_iff.2 (List.mem_map.2 ⟨_,hp,rfl⟩)
 exact (Ix.sortB_perm _).mem_iff.2 this
theorem keys_strict {l:List (ByteArray × Int)} {z:Ix.IdxR} (hz:Ix.Has z l):(Ix.sortB (Ix.keysOf z.t)).Pairwise fun a b=>Ix.ltB a b=true:=by
 have hn:(Ix.sortB (Ix.keysOf z.t)).Nodup:=by
  refine ((Ix.sortB_perm _).nodup_iff).2 ?_;unfold Ix.keysOf;exact ((hz.perm.map Prod.fst).nodup_iff).2 (has_nodup hz)
 have hs:=Ix.sortB_sorted (Ix.keysOf z.t);rw [List.pairwise_map] at hs;refine (hs.and hn).imp fun {a b} h=>?_;obtain ⟨h1,h2⟩:=h;have h1:Ix.tl a<=Ix.tl b:=by simpa using h1
 exact ltB_tri (Ix.ltB_false.2 h1) (fun e=>h2 e.symm)
def afterB (w:List ItemM) (g:Nat):ByteArray:=if g=0 then ByteArray.mk #[] else (gl w (g - 1)).key
theorem page {a:BtwA} {W:List ItemM} (hk:∀ k x,a.get k=some x->x.key=k) (hW:tellK a.from_ a.to a.get (keysA a)=W) (hS:SortI W) (hne:∀ x∈W,x.key≠ByteArray.mk #[]) {g:Nat} (hg:g<=W.length) (ha:a.after=afterB W g) (hn:1<=a.n) {i:Nat} (hi:i=(keysA a).length\/a.n<=((selTo a i).length:Int)) :
 g+(selTo a i).length<=W.length/\selTo a i=(W.drop g).take (selTo a i).length/\((selTo a i).length=0->g=W.length):=by
 have hall:selTo a (keysA a).length=W.drop g:=by
  rw [sel_eq hk,hW];refine drop_sorted hS hne hg ?_;unfold afterB at ha;by_cases h0:g=0
  ·rw [if_pos h0] at ha;exact .inl ⟨h0,ha⟩
  ·rw [if_neg h0] at ha;exact .inr ⟨by omega,ha⟩
 obtain ⟨rest,hr⟩:=sel_pre a i;rw [hall] at hr;have hl:=congrArg List.length hr;rw [List.length_drop,List.length_append] at hl;refine ⟨by omega,by rw [hr,List.take_left],fun h0=>?_⟩;rcases hi with hi|hi
 ·rw [hi,hall,List.length_drop] at h0;omega
 ·omega
theorem take_more {W:List ItemM} {g m:Nat}:W.take g++(W.drop g).take m=W.take (g+m):=(List.take_add (l:=W) (i:=g) (j:=m)).symm
theorem posW_lt:∀ {w:List ItemM} {k:ByteArray} {j:Nat},j<posW w k->Ix.ltB (gl w j).key k=true
 | [],_,j,h=>absurd h (Nat.not_lt_zero j)
 | y::w,k,j,h=>by
  unfold posW at h;by_cases hl:Ix.ltB y.key k=true
  ·rw [if_pos hl] at h;cases j with
   | zero=>exact hl
   | succ j=>exact posW_lt (w:=w) (j:=j) (by omega)
  ·rw [if_neg hl] at h;exact absurd h (Nat.not_lt_zero j)
theorem posW_at:∀ {w:List ItemM} {k:ByteArray},posW w k<w.length->Ix.ltB (gl w (posW w k)).key k=false
 | [],_,h=>absurd h (Nat.not_lt_zero _)
 | y::w,k,h=>by
  unfold posW at h ⊢;by_cases hl:Ix.ltB y.key k=true
  ·rw [if_pos hl] at h ⊢;exact posW_at (w:=w) (by simpa using h)
  ·rw [if_neg hl];show Ix.ltB y.key k=false;simpa using hl
end Go.Proofs.YtfobhkibkdmglaaGreat

namespace Go.Sx
theorem Keeps.below {w w':World} (h:Keeps (fun _=>False) w w'):Go.RowKit.Below w.heap.size w w':=⟨h.os,h.tape,h.output,h.size,fun k hk=>h.block k hk id⟩
open Go.WideShapes Go.ChangeShapes in
theorem post_of_kept {H:Type} {enc:TypeId × Value->H} {P:Program} {f:Func} {s:ChangeSpec} {apart fresh handsOn again:Bool} {W W':World} {args:Array Value} {v:Value} {ds gs:List (DataW H)} {pa:List MemPlace}
 (hW:DataW.Whole enc P f.params.toList s.vars apart W args.toList ds gs (pa++[]))
 (hres:∀ (b:Nat) (sp:Nat->Bool) (hd:Bool),DataW.TrodAll enc P W' b sp hd f.resultTypes.toList (v.resultList f.resultTypes.size) (s.fn H (ds++gs)).results [])
 (hargs:∀ sp:Nat->Bool,(∀ p∈pa++[],sp p.block=true)->DataW.TrodAll enc P W' 0 sp true f.params.toList args.toList (s.fn H (ds++gs)).args pa)
 (hvars:∀ sp:Nat->Bool,(∀ p∈pa++[],sp p.block=true)->DataW.TrodVars enc P W' sp s.vars (s.fn H (ds++gs)).vars [])
 (hk:Keeps (fun _=>False) W W')
 (hok:∀ (j:Nat) (t:TypeId) (r:Value),f.resultTypes[j]? = some t->(v.resultList f.resultTypes.size)[j]? = some r->Value.okWide P W' .any 0 t r) :
 s.post enc P f apart fresh handsOn again W args v W':=by
 have hl:=hW.lt;have hall:∀ p∈pa++[],(fun _=>true:Nat->Bool) p.block=true:=fun _ _=>rfl;have hold:∀ p∈pa++[],(fun b=>decide (b<W.heap.size)) p.block=true:=fun p hp=>decide_eq_true (hl p hp);have hmem:∀ p,p∈([]++pa)++[]->p∈pa++[]:=fun p hp=>by simpa using hp
 refine ⟨ds,gs,pa++[],[],pa,[],hW,hres _ _ _,hargs _ hold,hvars _ hold,World.keptBut_mono (may:=(·∈pa++[])) (fun p hp=>⟨hp,.inr (by simpa using hp)⟩) (hk.below.frame _),fun _=>?_⟩;obtain ⟨_,_,_,_,_,hz,hn⟩:=hW;refine ⟨hok,_,_,([]++pa)++[],⟨[]++pa,[],trodAll_append (hargs _ hall) (hres _ _ _),hvars _ hall,rfl,fun b off hp=>?_,fun ha=>by simpa using hn ha⟩,fun p hp _=>by simpa using hp⟩;rw [hk.frz _ (hl _ (hmem _ hp))];exact hz b off (hmem _ hp)
end Go.Sx

namespace Go.Sx
open Go.RowKit
def flatFs (P:Program) (g:TypeId->Option (List CK)):List Field->Nat->Option (List CK)
 | [],_=>some []
 | f::r,o=>match g f.type,flatFs P g r (o+P.cellsOf f.type) with
  | some ks,some l=>bif Nat.beq f.offset o&&Nat.beq ks.length (P.cellsOf f.type) then some (ks++l) else none
  | _,_=>none
def flatKd (dp:Bool) (P:Program):Nat->TypeId->Option (List CK)
 | 0,_=>none
 | d+1,t=>match P.underlying t with
  | some (.slice _)=>bif dp then some [.deep] else none
  | some .bool=>some [.bool]
  | some (.int k)=>some [.int k]
  | some .string=>some [.str]
  | some (.struct fs)=>match flatFs P (flatKd dp P d) fs.toList 0 with
   | some ks=>bif Nat.beq ks.length (P.cellsOf t) then some ks else none
   | none=>none
  | some (.array n e)=>match flatKd dp P d e with
   | some ks=>bif Nat.beq ks.length (P.cellsOf e)&&Nat.beq (n*ks.length) (P.cellsOf t) then some (rep n ks) else none
   | none=>none
  | _=>none
def flatK (P:Program):Nat->TypeId->Option (List CK):=flatKd false P
structure KsOk (ks:List CK) (cs:List Value):Prop where
 len:cs.length=ks.length
 ok:∀ (j:Nat) (k:CK) (v:Value),ks[j]? = some k->cs[j]? = some v->k.ok v
theorem KsOk.append {ks ls:List CK} {cs ds:List Value} (h:KsOk ks cs) (g:KsOk ls ds):KsOk (ks++ls) (cs++ds):=by
 refine ⟨by simp [h.len,g.len],fun j k v hk hv=>?_⟩;by_cases hj:j<ks.length
 ·rw [List.getElem?_append_left hj] at hk;rw [List.getElem?_append_left (by rw [h.len];exact hj)] at hv;exact h.ok j k v hk hv
 ·rw [List.getElem?_append_right (by omega)] at hk;rw [List.getElem?_append_right (by rw [h.len];omega),h.len] at hv;exact g.ok _ k v hk hv
section
variable {H:Type} {enc:TypeId × Value->H} {P:Program} {w:World} {base:Nat} {spare:Nat->Bool} {held:Bool}
theorem flatFs_ok {g:TypeId->Option (List CK)} {n:Nat} {cs:List Value}
 (hg:∀ t cs x ks,DataW.trod enc P w base spare held n t cs=some x->g t=some ks->KsOk ks cs) :
 ∀ (fs:List Field) (o:Nat) (ks:List CK),flatFs P g fs o=some ks->(∀ f∈fs,∃ x,DataW.trod enc P w base spare held n f.type ((cs.drop f.offset).take (P.cellsOf f.type))=some x)->o+ks.length=cs.length->KsOk ks (cs.drop o)
 | [],o,ks,h,_,hl=>by
  simp [flatFs] at h;subst h;refine ⟨by simp at hl ⊢;omega,fun j k v hk=>by simp at hk⟩
 | f::r,o,ks,h,hf,hl=>by
  simp only [flatFs] at h;split at h
  ·rename_i k1 l1 e1 e2;cases hb:(Nat.beq f.offset o&&Nat.beq k1.length (P.cellsOf f.type))
   ·rw [hb] at h;cases h
   rw [hb] at h;simp only [cond_true,Option.some.injEq] at h;subst h;simp only [Bool.and_eq_true] at hb;have ho:=Nat.eq_of_beq_eq_true hb.1;have hk:=Nat.eq_of_beq_eq_true hb.2;obtain ⟨x,hx⟩:=hf f List.mem_cons_self;rw [ho] at hx;have h1:=hg _ _ _ _ hx e1;have h2:=flatFs_ok hg r _ l1 e2 (fun f hf'=>hf f (List.mem_cons_of_mem _ hf')) (by rw [<- hk];simp at hl;omega);have e:cs.drop o=(cs.drop o).take (P.cellsOf f.type)++cs.drop (o+P.cellsOf f.type):=by
    rw [<- List.drop_drop,List.take_append_drop]
   rw [e];exact h1.append h2
  ·cases h
theorem rep_ok {ks:List CK} {cs:List Value}:∀ (n:Nat) (o:Nat),(∀ i,i<n->KsOk ks ((cs.drop (o+i*ks.length)).take ks.length))->o+n*ks.length=cs.length->KsOk (rep n ks) (cs.drop o)
 | 0,o,_,hl=>⟨by simp at hl;simp [rep];omega,fun j k v hk=>by simp [rep] at hk⟩
 | n+1,o,h,hl=>by
  have h1:=h 0 (by omega);have h2:=rep_ok (ks:=ks) (cs:=cs) n (o+ks.length) (fun i hi=>by
   have:=h (i+1) (by omega);rwa [Nat.succ_mul,show o+(i*ks.length+ks.length)=o+ks.length+i*ks.length by omega] at this) (by rw [Nat.succ_mul] at hl;omega)
  have e:cs.drop o=(cs.drop o).take ks.length++cs.drop (o+ks.length):=by
   rw [<- List.drop_drop,List.take_append_drop]
  rw [e,rep];exact KsOk.append (by simpa using h1) h2
theorem flat_ok {dp:Bool}:∀ (d n:Nat) (t:TypeId) (cs:List Value) (x:DataW H × List MemPlace) (ks:List CK),DataW.trod enc P w base spare held n t cs=some x->flatKd dp P d t=some ks->KsOk ks cs
 | 0,_,_,_,_,_,_,h=>by simp [flatKd] at h
 | d+1,n,t,cs,x,ks,hx,h=>by
  simp only [flatKd] at h;split at h
  ·rename_i e hu;cases dp with
   | false=>cases h
   | true =>
    simp only [cond_true,Option.some.injEq] at h;subst h;have one:∃ v:Value,cs=[v]/\v.oneCell'=true:=by
     rcases DataW.trod_slice hu hx with ⟨hv,_⟩ | ⟨a,len,cap,elems,rest,m,_,hv,_⟩<;>exact ⟨_,hv,rfl⟩
    obtain ⟨v,rfl,hv⟩:=one;refine ⟨rfl,fun j k u hk hv'=>?_⟩;cases j with
    | zero=>simp at hk hv';subst hk hv';exact hv
    | succ j=>simp at hk
  ·rename_i hu;cases h;obtain ⟨b,rfl,_⟩:=DataW.trod_bool hu hx;refine ⟨rfl,fun j k v hk hv=>?_⟩;cases j with
   | zero=>simp at hk hv;subst hk hv;exact ⟨b,rfl⟩
   | succ j=>simp at hk
  ·rename_i k hu;cases h;obtain ⟨m,rfl,_,hw⟩:=DataW.trod_int hu hx;refine ⟨rfl,fun j k' v hk hv=>?_⟩;cases j with
   | zero=>simp at hk hv;subst hk hv;exact ⟨m,rfl,by rw [InR_iff];simpa [Lit.wf] using hw⟩
   | succ j=>simp at hk
  ·rename_i hu;cases h;obtain ⟨s,rfl,_,hs⟩:=DataW.trod_string hu hx;refine ⟨rfl,fun j k' v hk hv=>?_⟩;cases j with
   | zero=>simp at hk hv;subst hk hv;exact ⟨s,rfl,by unfold lenMax;unfold maxLen at hs;exact hs⟩
   | succ j=>simp at hk
  ·rename_i fs hu;obtain ⟨xs,m,rfl,_,hl,hlen,hget⟩:=DataW.trod_struct hu hx;split at h
   ·rename_i ks' e;cases hb:Nat.beq ks'.length (P.cellsOf t)
    ·rw [hb] at h;cases h
    rw [hb] at h;cases h;have hb:=Nat.eq_of_beq_eq_true hb;have:=flatFs_ok (enc:=enc) (w:=w) (base:=base) (spare:=spare) (held:=held) (n:=m) (cs:=cs) (fun t cs x ks h1 h2=>flat_ok d m t cs x ks h1 h2) fs.toList 0 ks e (fun f hf=>by
     obtain ⟨i,hi,e⟩:=List.getElem_of_mem hf;have hi':i<fs.size:=by simpa using hi
     have h1:=hget i f (by rw [Array.getElem?_eq_getElem hi'];congr 1);rw [h1];exact ⟨xs[i]'(by omega),List.getElem?_eq_getElem _⟩) (by omega)
    simpa using this
   ·cases h
  ·rename_i k e hu;obtain ⟨xs,m,rfl,_,hl,hlen,hget⟩:=DataW.trod_array hu hx;split at h
   ·rename_i ks' e';cases hb:(Nat.beq ks'.length (P.cellsOf e)&&Nat.beq (k*ks'.length) (P.cellsOf t))
    ·rw [hb] at h;cases h
    rw [hb] at h;cases h;simp only [Bool.and_eq_true] at hb;have hb1:=Nat.eq_of_beq_eq_true hb.1;have hb2:=Nat.eq_of_beq_eq_true hb.2;have:=rep_ok (ks:=ks') (cs:=cs) k 0 (fun i hi=>by
     have h1:=hget i hi;rw [List.getElem?_eq_getElem (by omega)] at h1;rw [hb1,Nat.zero_add];exact flat_ok d m e _ _ _ h1 e') (by rw [hb2];omega)
    simpa using this
   ·cases h
  ·cases h
inductive RK where
 | c (k:CK)
 | s (e:TypeId) (ks:List CK)
inductive AK where
 | int (k:IntKind)
 | bool
 | str
 | agg (ks:List CK)
 | slc (e:TypeId) (ks:List CK)
 | rcd (fs:List RK)
def isSlcT (P:Program) (u:TypeId):Bool:=match P.underlying u with
 | some (.slice _)=>true
 | _=>false
def recFs (P:Program) (d:Nat) (ts:List TypeId):List Field->Nat->Option (List RK)
 | [],_=>some []
 | f::r,o=>bif Nat.beq f.offset o then
  (match P.underlying f.type with
  | some (.slice e)=>match flatK P d e,ts[o]?,recFs P d ts r (o+1) with
   | some ks,some u,some l=>bif Nat.beq ks.length (P.cellsOf e)&&(Nat.ble 1 ks.length&&(Nat.beq (P.cellsOf f.type) 1&&isSlcT P u)) then some (.s e ks::l) else none
   | _,_,_=>none
  | _=>match flatK P d f.type,recFs P d ts r (o+P.cellsOf f.type) with
   | some ks,some l=>bif Nat.beq ks.length (P.cellsOf f.type) then some (ks.map .c++l) else none
   | _,_=>none) else none
def argK (P:Program) (d:Nat) (t:TypeId):Option AK :=
 match P.underlying t with
 | some .bool=>some .bool
 | some (.int k)=>some (.int k)
 | some .string=>some .str
 | some (.struct fs)=>match flatK P d t with
  | some ks=>some (.agg ks)
  | none=>match P.cellTypes P.depth t with
   | some ts=>match recFs P d ts fs.toList 0 with
    | some l=>bif Nat.beq l.length (P.cellsOf t)&&Nat.beq ts.length (P.cellsOf t) then some (.rcd l) else none
    | none=>none
   | none=>none
 | some (.slice e)=>match flatKd true P d e with
  | some ks=>bif Nat.beq ks.length (P.cellsOf e)&&Nat.ble 1 ks.length then some (.slc e ks) else none
  | none=>none
 | _=>none
def argKs (P:Program) (d:Nat):List TypeId->Option (List AK)
 | []=>some []
 | t::r=>match argK P d t,argKs P d r with
  | some k,some l=>some (k::l)
  | _,_=>none
inductive RD where
 | a (x:A)
 | s (m n cap:Nat) (rows:Nat->Nat->Value)
inductive AD where
 | a (x:A)
 | agg (xs:List A)
 | slc (m n cap:Nat) (rows:Nat->Nat->Value)
 | rcd (xs:List RD)
def okRD:RK->RD->Prop
 | .c k,d=>∃ v,d = .a (atomOf k v)/\k.ok v
 | .s _ ks,d=>∃ n cap rows,d = .s ks.length n cap rows/\n<=cap/\cap<=lenMax/\∀ i,i<n->∀ (j:Nat) (k:CK),ks[j]? = some k->k.ok (rows i j)
def okRDs:List RK->List RD->Prop
 | [],l=>l=[]
 | k::ks,l=>∃ d r,l=d::r/\okRD k d/\okRDs ks r
def rAt:Nat->List RD->List A
 | _,[]=>[]
 | n,.a x::r=>x::rAt n r
 | n,.s m l c _::r=>.slc n 0 m l c::rAt (n+1) r
def rChs:Nat->List RK->List RD->List (Nat × Chunk)
 | n,.s e ks::r,.s _ l _ rows::q=>(n,.arr e ks l rows)::rChs (n+1) r q
 | n,_::r,_::q=>rChs n r q
 | _,_,_=>[]
def rN:List RD->Nat
 | []=>0
 | .s _ _ _ _::r=>rN r+1
 | _::r=>rN r
def okAD:AK->AD->Prop
 | .int k,d=>∃ n,d = .a (.int k n)/\InR k n
 | .bool,d=>∃ b,d = .a (.bool b)
 | .str,d=>∃ s,d = .a (.str s)/\s.size<=lenMax
 | .agg ks,d=>∃ r:Nat->Value,d = .agg (atoms r ks 0)/\∀ (j:Nat) (k:CK),ks[j]? = some k->k.ok (r j)
 | .slc _ ks,d=>∃ n cap rows,d = .slc ks.length n cap rows/\n<=cap/\cap<=lenMax/\∀ i,i<n->∀ (j:Nat) (k:CK),ks[j]? = some k->k.ok (rows i j)
 | .rcd fs,d=>∃ xs,d = .rcd xs/\okRDs fs xs
def okADs:List AK->List AD->Prop
 | [],l=>l=[]
 | k::ks,l=>∃ d r,l=d::r/\okAD k d/\okADs ks r
def svs:Nat->List AD->List SV
 | _,[]=>[]
 | n,.a x::r=>.a x::svs n r
 | n,.agg xs::r=>.agg xs::svs n r
 | n,.slc m l c _::r=>.a (.slc n 0 m l c)::svs (n+1) r
 | n,.rcd xs::r=>.agg (rAt n xs)::svs (n+rN xs) r
def chs:Nat->List AK->List AD->List (Nat × Chunk)
 | n,.slc e ks::r,.slc _ l _ rows::s=>(n,.arr e ks l rows)::chs (n+1) r s
 | n,.rcd fs::r,.rcd xs::s=>rChs n fs xs++chs (n+rN xs) r s
 | n,_::r,_::s=>chs n r s
 | _,_,_=>[]
def slcs:List AD->Nat
 | []=>0
 | .slc _ _ _ _::r=>slcs r+1
 | .rcd xs::r=>slcs r+rN xs
 | _::r=>slcs r
theorem cells?_get {w:World} {base:Nat} {a:Addr}:∀ {n:Nat} {cs:List Value},w.cells? base a n=some cs->cs.length=n/\base<=a.block/\∀ i,i<n->w.cell? (a.add i)=cs[i]?:=by
 intro n cs h;unfold World.cells? at h;split at h
 ·rename_i hb;have hl:=mapM_some_length h;refine ⟨by simpa using hl,hb,fun i hi=>?_⟩;exact mapM_some_get h i i (by simp [hi])
 ·cases h
theorem Addr.add_off (a:Addr) (n:Nat) (h:a.spot=none):a.add n=⟨a.block,a.off+n,none⟩:=by
 unfold Addr.add;split
 ·subst_vars;cases a;simp_all
 ·cases a;simp_all
theorem open_cell {dp:Bool} {t e:TypeId} {ks:List CK} {d fuel:Nat} {v:Value} {dd:DataW H} {ps:List MemPlace} (ht:P.underlying t=some (.slice e)) (hf:flatKd dp P d e=some ks) (hk:ks.length=P.cellsOf e) (hk1:1<=ks.length)
 (h:DataW.trod enc P w 0 (fun _=>true) held fuel t [v]=some (dd,ps)) (hz:∀ b off,MemPlace.cell b off∈ps->w.frozen? ⟨b,off,none⟩=false) :
 ∃ (p:Place) (n cap:Nat) (rows:Nat->Nat->Value),n<=cap/\cap<=lenMax/\(∀ i,i<n->∀ (j:Nat) (k:CK),ks[j]? = some k->k.ok (rows i j))/\(∀ b,p.fp b->b<w.heap.size) /\
  (∀ (ρ:Env) (T:Nat),T<ρ.n->ρ.pl T=p->(A.slc T 0 ks.length n cap).Rep ρ v)/\(∀ (ρ:Env),(Chunk.arr e ks n rows).Sat ρ p w) /\
  ∀ i,i<n->∃ (m:Nat) (cs:List Value) (x:DataW H × List MemPlace),DataW.trod enc P w 0 (fun _=>true) held m e cs=some x/\(∀ b off,MemPlace.cell b off∈x.2->w.frozen? ⟨b,off,none⟩=false)/\KsOk ks cs/\∀ j,j<ks.length->cs[j]? = some (rows i j):=by
 rcases DataW.trod_slice ht h with ⟨hv,_⟩ | ⟨a,len,cap,elems,rest,m,rfl,hv,hx,_,hlc,hcm,hel,hget,hsp,_⟩
 ·cases hv;refine ⟨nilPlace,0,0,fun _ _=>undef,Nat.le_refl _,Nat.zero_le _,fun i hi=>absurd hi (Nat.not_lt_zero _),fun b hb=>hb.elim,fun ρ T hT _=>⟨hT,Nat.le_refl _,Nat.zero_le _,.inl ⟨rfl,rfl,rfl⟩⟩,fun ρ=>.inl ⟨rfl,rfl,fun b hb=>hb⟩,fun i hi=>absurd hi (Nat.not_lt_zero _)⟩
 ·cases hv;obtain ⟨hr1,hr2⟩:=hsp rfl;by_cases hc0:cap=0
  ·subst hc0;have hl0:len=0:=by omega
   subst hl0;exact ⟨⟨a.block,a.off,0,fun _=>False⟩,0,0,fun _ _=>undef,Nat.le_refl _,Nat.zero_le _,fun i hi=>absurd hi (Nat.not_lt_zero _),fun b hb=>hb.elim,fun ρ T hT hp=>⟨hT,Nat.le_refl _,Nat.zero_le _,.inr ⟨a,rfl,fun h=>absurd rfl h⟩⟩,fun ρ=>.inl ⟨rfl,rfl,fun b hb=>hb⟩,fun i hi=>absurd hi (Nat.not_lt_zero _)⟩
  have hspot:a.spot=none:=by
   have fin:∀ (o:Option (DataW H × List MemPlace)),(∃ x,o=some x)->(w.cells? 0 (a.add (0*P.cellsOf e)) (P.cellsOf e)).bind (DataW.trod enc P w 0 (fun _=>true) held m e)=o->a.spot=none:=by
    rintro o ⟨x,rfl⟩ ho;obtain ⟨cs,hcs,hx⟩:=Option.bind_eq_some_iff.1 ho;obtain ⟨h1,_,hc⟩:=cells?_get hcs;have:=hc 0 (by omega);rw [Nat.zero_mul,show ∀ a:Addr,(a.add 0).add 0=a from fun a=>rfl,List.getElem?_eq_getElem (by omega)] at this;unfold World.cell? at this;split at this
    ·cases hsp:a.spot with
     | none=>rfl
     | some s=>rw [hsp] at this;simp at this
    ·cases this
   by_cases h1:0<len
   ·exact fin _ ⟨elems[0]'(by omega),List.getElem?_eq_getElem _⟩ (hget 0 h1)
   ·have:=hr2 0 (by omega);rw [show len+0=0 by omega] at this;exact fin _ ⟨rest[0]'(by omega),List.getElem?_eq_getElem _⟩ this
  have row:∀ i,i<cap->∃ cs:List Value,(KsOk ks cs/\∀ j,j<ks.length->w.cell? ⟨a.block,a.off+i*ks.length+j,none⟩=cs[j]?)/\(i<len->∃ x∈elems,DataW.trod enc P w 0 (fun _=>true) held m e cs=some x):=by
   intro i hi;have fin:∀ (x:DataW H × List MemPlace),(w.cells? 0 (a.add (i*P.cellsOf e)) (P.cellsOf e)).bind (DataW.trod enc P w 0 (fun _=>true) held m e)=some x->∃ cs:List Value,(KsOk ks cs/\∀ j,j<ks.length->w.cell? ⟨a.block,a.off+i*ks.length+j,none⟩=cs[j]?)/\DataW.trod enc P w 0 (fun _=>true) held m e cs=some x:=by
    intro x ho;obtain ⟨cs,hcs,hx⟩:=Option.bind_eq_some_iff.1 ho;obtain ⟨_,_,hc⟩:=cells?_get hcs;refine ⟨cs,⟨flat_ok d m e cs x ks hx hf,fun j hj=>?_⟩,hx⟩;have:=hc j (by omega);rw [Addr.add_off a _ hspot,Addr.add_plain,<- hk] at this;exact this
   by_cases h1:i<len
   ·obtain ⟨cs,g1,g2⟩:=fin (elems[i]'(by omega)) ((hget i h1).trans (List.getElem?_eq_getElem _));exact ⟨cs,g1,fun _=>⟨_,List.getElem_mem _,g2⟩⟩
   ·have:=hr2 (i - len) (by omega);rw [show len+(i - len)=i by omega] at this;obtain ⟨cs,g1,g2⟩:=fin (rest[i - len]'(by omega)) (this.trans (List.getElem?_eq_getElem _));exact ⟨cs,g1,fun h=>absurd h h1⟩
  ·have hcell:∀ i,i<cap->∀ (j:Nat) (k:CK),ks[j]? = some k->∃ v,w.cell? ⟨a.block,a.off+i*ks.length+j,none⟩=some v/\k.ok v:=by
    intro i hi j k hj;have hjl:j<ks.length:=(List.getElem?_eq_some_iff.1 hj).1;obtain ⟨cs,⟨h1,h2⟩,_⟩:=row i hi;have hlt:j<cs.length:=by rw [h1.len];exact hjl
    exact ⟨cs[j],by rw [h2 j hjl,List.getElem?_eq_getElem hlt],h1.ok j k _ hj (List.getElem?_eq_getElem hlt)⟩
   have hblk:∃ vs ty fr,w.heap[a.block]? = some (.cells vs ty fr):=by
    obtain ⟨v,hv,_⟩:=hcell 0 (by omega) 0 (ks[0]'(by omega)) (List.getElem?_eq_getElem _);unfold World.cell? at hv;split at hv
    ·rename_i vs ty fr hh;exact ⟨vs,ty,fr,hh⟩
    ·cases hv
   obtain ⟨vs,ty,fr,hb⟩:=hblk;have hget2:∀ i,i<cap->∀ (j:Nat) (k:CK),ks[j]? = some k->∃ v,vs[a.off+i*ks.length+j]? = some v/\k.ok v:=by
    intro i hi j k hj;obtain ⟨v,hv,hok⟩:=hcell i hi j k hj;rw [cell_of hb] at hv;exact ⟨v,hv,hok⟩
   have hfit:a.off+cap*ks.length<=vs.size:=by
    obtain ⟨v,hv,_⟩:=hget2 (cap - 1) (by omega) (ks.length - 1) (ks[ks.length - 1]'(by omega)) (List.getElem?_eq_getElem _);obtain ⟨hlt,_⟩:=Array.getElem?_eq_some_iff.1 hv;have:(cap - 1)*ks.length+ks.length=cap*ks.length:=by
     rw [<- Nat.succ_mul];congr 1;omega
    omega
   have hblt:a.block<w.heap.size:=by
    obtain ⟨hlt,_⟩:=Array.getElem?_eq_some_iff.1 hb;exact hlt
   refine ⟨⟨a.block,a.off,cap,fun b=>b=a.block⟩,len,cap,fun i j=>vs[a.off+i*ks.length+j]?.getD undef,hlc,by unfold lenMax;unfold maxLen at hcm;exact hcm,fun i hi j k hj=>?_,fun b hb=>by rw [hb];exact hblt,fun ρ T hT hp=>⟨hT,hlc,by unfold lenMax;unfold maxLen at hcm;exact hcm,.inr ⟨a,rfl,fun _=>⟨by rw [hp];cases a;simp at hspot;subst hspot;simp,by rw [hp];simp⟩⟩⟩,fun ρ=>.inr ⟨vs,ty,fr,hb,hfit,hlc,fun o h1 h2=>?_,fun _=>Iff.rfl,fun i hi j k hj=>?_⟩,fun i hi=>?_⟩
   ·obtain ⟨v,hv,hok⟩:=hget2 i (by omega) j k hj;simp only;rw [hv];exact hok
   ·have hmem:MemPlace.cell a.block o∈ps:=by
     have e:ps=MemPlace.row a ((elems.length+rest.length)*P.cellsOf e)++(elems++rest).flatMap (·.2):=congrArg Prod.snd hx;rw [e];refine List.mem_append_left _ (List.mem_map.2 ⟨o - a.off,?_,?_⟩)
     ·rw [List.mem_range,hel,hr1,<- hk];simp only at h1 h2;rw [show len+(cap - len)=cap by omega];omega
     ·simp only at h1;show MemPlace.cell a.block (a.off+(o - a.off))=_;rw [show a.off+(o - a.off)=o by omega]
    have:=hz _ _ hmem;simp only [World.frozen?,hb] at this;obtain ⟨lo,hi⟩:=fr;simpa using this
   ·obtain ⟨v,hv,hok⟩:=hget2 i (by omega) j k hj;simp only;rw [hv];exact ⟨rfl,hok⟩
   ·obtain ⟨cs,⟨g1,g2⟩,g3⟩:=row i (by omega);obtain ⟨x,hxm,hxt⟩:=g3 hi;refine ⟨m,cs,x,hxt,fun b off hm=>hz b off ?_,g1,fun j hj=>?_⟩
    ·have e:ps=MemPlace.row a ((elems.length+rest.length)*P.cellsOf e)++(elems++rest).flatMap (·.2):=congrArg Prod.snd hx;rw [e];exact List.mem_append_right _ (List.mem_flatMap.2 ⟨x,List.mem_append_left _ hxm,hm⟩)
    ·have h2:=g2 j hj;rw [cell_of hb] at h2;have hlt:j<cs.length:=by rw [g1.len];exact hj
     rw [List.getElem?_eq_getElem hlt] at h2 ⊢;simp only;rw [h2];rfl
theorem open_slice {t e:TypeId} {ks:List CK} {d:Nat} {v:Value} {dd:DataW H} {ps:List MemPlace} {r:Reach} {b0:Nat} (ht:P.underlying t=some (.slice e)) (hf:flatKd true P d e=some ks) (hk:ks.length=P.cellsOf e) (hk1:1<=ks.length)
 (hval:Value.okWide P w r b0 t v) (h:DataW.Trod enc P w 0 (fun _=>true) held t v dd ps) (hz:∀ b off,MemPlace.cell b off∈ps->w.frozen? ⟨b,off,none⟩=false) :
 ∃ (p:Place) (n cap:Nat) (rows:Nat->Nat->Value),n<=cap/\cap<=lenMax/\(∀ i,i<n->∀ (j:Nat) (k:CK),ks[j]? = some k->k.ok (rows i j))/\(∀ b,p.fp b->b<w.heap.size) /\
  (∀ (ρ:Env) (T:Nat),T<ρ.n->ρ.pl T=p->(A.slc T 0 ks.length n cap).Rep ρ v)/\∀ (ρ:Env),(Chunk.arr e ks n rows).Sat ρ p w:=by
 obtain ⟨fuel,h⟩:=h;have hv2:Cell.okWide P w r b0 t v:=by unfold Value.okWide at hval;rw [ht] at hval;exact hval
 have hone:∀ o l c,v.cells.toList=[.slice o l c]->v = .slice o l c:=by
  intro o l c hv;cases v<;>simp [Value.cells] at hv<;>first|exact hv|(simp [hv];done)|skip
  all_goals (unfold Cell.okWide Cell.ok at hv2;rw [ht] at hv2;simp at hv2)
 have hc:v.cells.toList=[v]:=by
  rcases DataW.trod_slice ht h with ⟨hv,_⟩ | ⟨a,len,cap,elems,rest,m,_,hv,_⟩
  ·rw [hone _ _ _ hv];rfl
  ·rw [hone _ _ _ hv];rfl
 rw [hc] at h;obtain ⟨p,n,cap,rows,g1,g2,g3,g4,g5,g6,_⟩:=open_cell ht hf hk hk1 h hz;exact ⟨p,n,cap,rows,g1,g2,g3,g4,g5,g6⟩
theorem okRDs_app:∀ {ks:List CK} {l:List RK} {vs:List Value} {xs:List RD},KsOk ks vs->okRDs l xs->okRDs (ks.map .c++l) ((List.zipWith (fun k v=>RD.a (atomOf k v)) ks vs)++xs)
 | [],l,vs,xs,h,hx=>by
  have:vs=[]:=List.eq_nil_of_length_eq_zero (by simpa using h.len);subst this;exact hx
 | k::ks,l,[],xs,h,hx=>by have:=h.len;simp at this
 | k::ks,l,v::vs,xs,h,hx=>⟨_,_,rfl,⟨v,rfl,h.ok 0 k v rfl rfl⟩,okRDs_app (ks:=ks) (vs:=vs) ⟨by have:=h.len;simpa using this,fun j k' v' hk hv=>h.ok (j+1) k' v' (by simpa using hk) (by simpa using hv)⟩ hx⟩
theorem rAt_app:∀ (n:Nat) (ks:List CK) (vs:List Value) (xs:List RD),rAt n ((List.zipWith (fun k v=>RD.a (atomOf k v)) ks vs)++xs)=List.zipWith atomOf ks vs++rAt n xs
 | _,[],_,_=>by simp
 | _,_::_,[],_=>by simp
 | n,k::ks,v::vs,xs=>by simp [rAt,rAt_app n ks vs xs]
theorem rN_app:∀ (ks:List CK) (vs:List Value) (xs:List RD),rN ((List.zipWith (fun k v=>RD.a (atomOf k v)) ks vs)++xs)=rN xs
 | [],_,_=>by simp
 | _::_,[],_=>by simp
 | k::ks,v::vs,xs=>by simp [rN,rN_app ks vs xs]
theorem rChs_app:∀ (n:Nat) {ks:List CK} {vs:List Value} (l:List RK) (xs:List RD),vs.length=ks.length->rChs n (ks.map .c++l) ((List.zipWith (fun k v=>RD.a (atomOf k v)) ks vs)++xs)=rChs n l xs
 | _,[],[],_,_,_=>by simp
 | _,[],_::_,_,_,h=>by simp at h
 | _,_::_,[],_,_,h=>by simp at h
 | n,k::ks,v::vs,l,xs,h=>by
  have:=rChs_app n (ks:=ks) (vs:=vs) l xs (by simpa using h);simpa [rChs] using this
theorem zip_repL {ρ:Env}:∀ {ks:List CK} {vs:List Value},KsOk ks vs->RepL ρ (List.zipWith atomOf ks vs) vs
 | [],vs,h=>by
  have:vs=[]:=List.eq_nil_of_length_eq_zero (by simpa using h.len);subst this;rfl
 | k::ks,[],h=>by have:=h.len;simp at this
 | k::ks,v::vs,h=>⟨v,vs,rfl,atomOf_rep (h.ok 0 k v rfl rfl) ρ,zip_repL ⟨by have:=h.len;simpa using this,fun j k' v' hk hv=>h.ok (j+1) k' v' (by simpa using hk) (by simpa using hv)⟩⟩
theorem rChs_tag:∀ (n:Nat) (fs:List RK) (xs:List RD),∀ p∈rChs n fs xs,n<=p.1/\p.1<n+rN xs
 | _,[],_,_,h=>by simp [rChs] at h
 | _,_::_,[],_,h=>by simp [rChs] at h
 | n,k::r,x::s,p,h=>by
  cases k<;>cases x<;>simp only [rChs,List.mem_cons] at h
  ·exact rChs_tag n r s p h
  ·have:=rChs_tag n r s p h;simp only [rN];omega
  ·exact rChs_tag n r s p h
  ·rcases h with rfl|h
   ·simp only [rN];omega
   ·have:=rChs_tag (n+1) r s p h;simp only [rN];omega
theorem open_rec {r:Reach} {b0 d n:Nat} {ts:List TypeId} {cs:List Value} (hts:∀ (i:Nat) (v:Value),cs[i]? = some v->∃ u:TypeId,ts[i]? = some u/\Cell.okWide P w r b0 u v) :
 ∀ (fs:List Field) (o:Nat) (l:List RK) (ρ0:Env),recFs P d ts fs o=some l ->
  (∀ f∈fs,∃ x,DataW.trod enc P w 0 (fun _=>true) held n f.type ((cs.drop f.offset).take (P.cellsOf f.type))=some x/\∀ b off,MemPlace.cell b off∈x.2->w.frozen? ⟨b,off,none⟩=false)->o+l.length=cs.length ->
  ∃ (xs:List RD) (ρ:Env),okRDs l xs/\ρ0.le ρ/\ρ.n=ρ0.n+rN xs/\RepL ρ (rAt ρ0.n xs) (cs.drop o)/\HeapSat w (fun _=>False) ρ (ros (rChs ρ0.n l xs)) w
 | [],o,l,ρ0,h,_,hl=>by
  simp [recFs] at h;subst h;refine ⟨[],ρ0,rfl,Env.le.refl _,rfl,?_,⟨Keeps.refl _ _,fun e he=>(by cases he),.nil⟩⟩;have:cs.drop o=[]:=List.drop_eq_nil_of_le (by simp at hl;omega);rw [this];rfl
 | f::fs,o,l,ρ0,h,hf,hl=>by
  simp only [recFs] at h;cases ho:Nat.beq f.offset o with
  | false=>rw [ho] at h;cases h
  | true =>
  rw [ho] at h;simp only [cond_true] at h;have ho':=Nat.eq_of_beq_eq_true ho;obtain ⟨x,hx,hz⟩:=hf f List.mem_cons_self;rw [ho'] at hx;have hfr:∀ g∈fs,∃ x,DataW.trod enc P w 0 (fun _=>true) held n g.type ((cs.drop g.offset).take (P.cellsOf g.type))=some x/\∀ b off,MemPlace.cell b off∈x.2->w.frozen? ⟨b,off,none⟩=false:=fun g hg=>hf g (List.mem_cons_of_mem _ hg);split at h
  ·rename_i e hu;split at h
   ·rename_i ks u l1 e1 e2 e3;cases hb:(Nat.beq ks.length (P.cellsOf e)&&(Nat.ble 1 ks.length&&(Nat.beq (P.cellsOf f.type) 1&&isSlcT P u)))
    ·rw [hb] at h;cases h
    rw [hb] at h;simp only [cond_true,Option.some.injEq] at h;subst h;simp only [Bool.and_eq_true] at hb;obtain ⟨h1,h2,h3,h4⟩:=hb;have hlt:o<cs.length:=by simp at hl;omega
    have hc1:=Nat.eq_of_beq_eq_true h3;have hone:(cs.drop o).take (P.cellsOf f.type)=[cs[o]]:=by
     rw [hc1,List.drop_eq_getElem_cons hlt];rfl
    rw [hone] at hx;obtain ⟨u',hu',hok⟩:=hts o cs[o] (List.getElem?_eq_getElem hlt);rw [e2] at hu';cases hu';obtain ⟨p,m,cap,rows,hn,hc,hrows,hlt2,hrep,hsat,_⟩:=open_cell hu e1 (Nat.eq_of_beq_eq_true h1) (Nat.le_of_ble_eq_true h2) (dd:=x.1) (ps:=x.2) hx hz;obtain ⟨xs,ρ,g1,g2,g3,g4,g5⟩:=open_rec hts fs (o+1) l1 (ρ0.ext p) e3 hfr (by simp at hl ⊢;omega);have hpl:ρ.pl ρ0.n=p:=by rw [g2.pl _ (Nat.lt_succ_self _)];exact ρ0.ext_new p
    have hlt':ρ0.n<ρ.n:=g2.n;refine ⟨.s ks.length m cap rows::xs,ρ,⟨_,_,rfl,⟨m,cap,rows,rfl,hn,hc,hrows⟩,g1⟩,(ρ0.le_ext p).trans g2,by rw [g3];simp [rN,Env.ext];omega,?_,?_⟩
    ·rw [List.drop_eq_getElem_cons hlt];exact ⟨_,_,rfl,hrep ρ ρ0.n hlt' hpl,g4⟩
    ·refine HeapSat.cons g5 ⟨hlt',by simp only;rw [hpl];exact hsat ρ,by simp only;rw [hpl];exact hlt2,fun h=>(by cases h)⟩ fun y hy=>⟨?_,fun h=>?_⟩
     ·obtain ⟨q,hq,rfl⟩:=List.mem_map.1 hy;have:=(rChs_tag _ _ _ _ hq).1;simp only [Env.ext] at this ⊢;omega
     ·rw [ros_wr hy] at h;cases h
   ·cases h
  ·split at h
   ·rename_i ks l1 e1 e3;cases hb:Nat.beq ks.length (P.cellsOf f.type)
    ·rw [hb] at h;cases h
    rw [hb] at h;simp only [cond_true,Option.some.injEq] at h;subst h;have hb':=Nat.eq_of_beq_eq_true hb;have hks:=flat_ok d n f.type _ _ ks hx e1;obtain ⟨xs,ρ,g1,g2,g3,g4,g5⟩:=open_rec hts fs (o+P.cellsOf f.type) l1 ρ0 e3 hfr (by rw [<- hb'];simp at hl;omega);refine ⟨(List.zipWith (fun k v=>RD.a (atomOf k v)) ks ((cs.drop o).take (P.cellsOf f.type)))++xs,ρ,okRDs_app hks g1,g2,by rw [rN_app];exact g3,?_,?_⟩
    ·rw [rAt_app];have e:cs.drop o=(cs.drop o).take (P.cellsOf f.type)++cs.drop (o+P.cellsOf f.type):=by
      rw [<- List.drop_drop,List.take_append_drop]
     rw [e,List.take_append_of_le_length (by rw [hks.len,hb'];exact Nat.le_refl _),List.take_take,Nat.min_self];exact (zip_repL hks).append g4
    ·rw [rChs_app _ _ _ hks.len];exact g5
   ·cases h
theorem chs_tag:∀ (n:Nat) (aks:List AK) (ads:List AD),∀ p∈chs n aks ads,n<=p.1
 | _,[],_,_,h=>by simp [chs] at h
 | _,_::_,[],_,h=>by simp [chs] at h
 | n,k::r,a::s,p,h=>by
  have key:∀ m,n<=m->p∈chs m r s->n<=p.1:=fun m hm h=>Nat.le_trans hm (chs_tag m r s p h);cases k<;>cases a<;>simp only [chs,List.mem_cons,List.mem_append] at h<;>first|exact key n (Nat.le_refl _) h|skip
  ·rcases h with rfl|h
   ·exact Nat.le_refl _
   ·exact key (n+1) (Nat.le_succ _) h
  ·rcases h with h|h
   ·exact (rChs_tag _ _ _ _ h).1
   ·exact key _ (Nat.le_add_right _ _) h
theorem atoms_repL {ρ:Env} {ks:List CK} {cs:List Value} (h:KsOk ks cs):RepL ρ (atoms (fun j=>cs.getD j undef) ks 0) cs:=by
 have:=atoms_rep ρ (fun j=>cs.getD j undef) ks 0 (fun j k hk=>by
  have hj:j<cs.length:=by rw [h.len];exact (List.getElem?_eq_some_iff.1 hk).1
  rw [Nat.zero_add];refine h.ok j k _ hk ?_;simp [List.getD,List.getElem?_eq_getElem hj])
 have e:(List.range' 0 ks.length).map (fun j=>cs.getD j undef)=cs:=by
  apply List.ext_getElem
  ·simp [h.len]
  ·intro i h1 h2;simp [List.getD,List.getElem?_eq_getElem h2]
 rwa [e] at this
theorem open_args {r:Reach} {b0 d:Nat}:∀ (ts:List TypeId) (aks:List AK) (vs:List Value) (ds:List (DataW H)) (ps:List MemPlace) (ρ0:Env),argKs P d ts=some aks->DataW.TrodAll enc P w 0 (fun _=>true) held ts vs ds ps ->
 (∀ (j:Nat) (t:TypeId) (v:Value),ts[j]? = some t->vs[j]? = some v->Value.okWide P w r b0 t v)->(∀ b off,MemPlace.cell b off∈ps->w.frozen? ⟨b,off,none⟩=false) ->
 ∃ (ads:List AD) (ρ:Env),okADs aks ads/\ρ0.le ρ/\ρ.n=ρ0.n+slcs ads/\RepArgs ρ (svs ρ0.n ads) vs/\HeapSat w (fun _=>False) ρ (ros (chs ρ0.n aks ads)) w
 | [],aks,[],[],ps,ρ0,h,hA,_,_=>by
  simp [argKs] at h;subst h;exact ⟨[],ρ0,rfl,Env.le.refl _,rfl,rfl,⟨Keeps.refl _ _,fun e he=>(by cases he),.nil⟩⟩
 | t::ts,aks,v::vs,dd::ds,ps,ρ0,h,hA,hval,hz=>by
  obtain ⟨p1,p2,hT,hA',rfl⟩:=hA;simp only [argKs] at h;split at h
  ·rename_i k l e1 e2;cases h;have hv0:=hval 0 t v rfl rfl;have rec_:=fun ρ=>open_args (r:=r) (b0:=b0) (d:=d) ts l vs ds p2 ρ e2 hA' (fun j t v hj hv=>hval (j+1) t v (by simpa using hj) (by simpa using hv)) (fun b off hm=>hz b off (List.mem_append_right _ hm));have hz1:∀ b off,MemPlace.cell b off∈p1->w.frozen? ⟨b,off,none⟩=false:=fun b off hm=>hz b off (List.mem_append_left _ hm);obtain ⟨fuel,hx⟩:=hT;have one:∀ u,v.cells.toList=[u]->u.oneCell'=true->(∀ x,v≠.agg x)->v=u:=by
    intro u hv hu hna;cases v<;>simp [Value.cells] at hv<;>first|exact hv|exact hv.symm|(rename_i x;exact absurd rfl (hna x))|(subst hv;simp [Value.oneCell'] at hu)
   have nagg:∀ x:Array Value,v = .agg x->(∃ fs,P.underlying t=some (.struct fs))\/∃ n e,P.underlying t=some (.array n e):=by
    intro x hx;subst hx;unfold Value.okWide at hv0;split at hv0
    ·rename_i fs hu;exact .inl ⟨fs,hu⟩
    ·rename_i n e hu;exact .inr ⟨n,e,hu⟩
    ·rename_i h1 h2;unfold Cell.okWide at hv0;split at hv0<;>first|(cases ‹Value.agg x=_›;done)|skip
     all_goals (first|(rename_i e;cases e;done)|skip)
     unfold Cell.ok at hv0;split at hv0<;>first|(rename_i e;cases e;done)|exact hv0.elim|skip
   unfold argK at e1;split at e1
   ·rename_i hu;cases e1;obtain ⟨b,hb,_⟩:=DataW.trod_bool hu hx;have hv:=one _ hb rfl (fun x hx=>by rcases nagg x hx with ⟨_,h⟩ | ⟨_,_,h⟩<;>rw [hu] at h<;>cases h);subst hv;obtain ⟨ads,ρ,h1,h2,h3,h4,h5⟩:=rec_ ρ0;exact ⟨.a (.bool b)::ads,ρ,⟨_,_,rfl,⟨b,rfl⟩,h1⟩,h2,h3,⟨_,_,rfl,rfl,h4⟩,h5⟩
   ·rename_i kk hu;cases e1;obtain ⟨m,hb,_,hw⟩:=DataW.trod_int hu hx;have hv:=one _ hb rfl (fun x hx=>by rcases nagg x hx with ⟨_,h⟩ | ⟨_,_,h⟩<;>rw [hu] at h<;>cases h);subst hv;have hin:InR kk m:=by rw [InR_iff];simpa [Lit.wf] using hw
    obtain ⟨ads,ρ,h1,h2,h3,h4,h5⟩:=rec_ ρ0;exact ⟨.a (.int kk m)::ads,ρ,⟨_,_,rfl,⟨m,rfl,hin⟩,h1⟩,h2,h3,⟨_,_,rfl,⟨rfl,hin⟩,h4⟩,h5⟩
   ·rename_i hu;cases e1;obtain ⟨s,hb,_,hs⟩:=DataW.trod_string hu hx;have hv:=one _ hb rfl (fun x hx=>by rcases nagg x hx with ⟨_,h⟩ | ⟨_,_,h⟩<;>rw [hu] at h<;>cases h);subst hv;have hs':s.size<=lenMax:=by unfold lenMax;unfold maxLen at hs;exact hs
    obtain ⟨ads,ρ,h1,h2,h3,h4,h5⟩:=rec_ ρ0;exact ⟨.a (.str s)::ads,ρ,⟨_,_,rfl,⟨s,rfl,hs'⟩,h1⟩,h2,h3,⟨_,_,rfl,⟨rfl,hs'⟩,h4⟩,h5⟩
   ·rename_i fs hu;cases hf:flatK P d t with
    | none =>
     rw [hf] at e1;simp only at e1;split at e1
     ·rename_i tys hty;split at e1
      ·rename_i fl hfl;cases hb:(Nat.beq fl.length (P.cellsOf t)&&Nat.beq tys.length (P.cellsOf t))
       ·rw [hb] at e1;cases e1
       rw [hb] at e1;simp only [cond_true,Option.some.injEq] at e1;subst e1;simp only [Bool.and_eq_true] at hb;have hb1:=Nat.eq_of_beq_eq_true hb.1;have hb2:=Nat.eq_of_beq_eq_true hb.2;have hv:∃ cs:Array Value,v = .agg cs/\cs.size=P.cellsOf t/\Row.okWide P w r b0 t cs:=by
        unfold Value.okWide at hv0;rw [hu] at hv0;exact hv0
       obtain ⟨cs,rfl,hcs,hrow⟩:=hv;obtain ⟨tys',hty',_,hcell⟩:=hrow;rw [hty] at hty';cases hty';obtain ⟨xs,m,rfl,hxx,hl,hlen,hget⟩:=DataW.trod_struct hu hx;have hps:p1=xs.flatMap (·.2):=congrArg Prod.snd hxx;obtain ⟨rd,ρ1,g1,g2,g3,g4,g5⟩:=open_rec (r:=r) (b0:=b0) (d:=d) (n:=m) (ts:=tys) (cs:=cs.toList) (enc:=enc) (held:=held) (P:=P) (w:=w) (fun i v hi=>by
        have hi':cs[i]? = some v:=by simpa using hi
        obtain ⟨u,h1,h2⟩:=hcell i v hi';have hlt:=(Array.getElem?_eq_some_iff.1 hi').1;rw [Nat.mod_eq_of_lt (by omega)] at h1;exact ⟨u,h1,h2⟩) fs.toList 0 fl ρ0 hfl (fun f hf=>by
        obtain ⟨i,hi,e⟩:=List.getElem_of_mem hf;have hi':i<fs.size:=by simpa using hi
        have h1:=hget i f (by rw [Array.getElem?_eq_getElem hi'];congr 1);refine ⟨xs[i]'(by omega),by rw [<- List.getElem?_eq_getElem (by omega)];exact h1,fun b off hm=>hz1 b off ?_⟩;rw [hps];exact List.mem_flatMap.2 ⟨_,List.getElem_mem _,hm⟩) (by simp [hb1,hcs])
       obtain ⟨ads,ρ,h1,h2,h3,h4,h5⟩:=rec_ ρ1;rw [g3] at h4 h5;refine ⟨.rcd rd::ads,ρ,⟨_,_,rfl,⟨rd,rfl,g1⟩,h1⟩,g2.trans h2,by rw [h3,g3];simp [slcs];omega,⟨_,_,rfl,⟨cs.toList,by simp,?_⟩,h4⟩,?_⟩
       ·have:=g4.mono h2;simpa using this
       ·show HeapSat w (fun _=>False) ρ (ros (rChs ρ0.n fl rd++chs (ρ0.n+rN rd) l ads)) w;rw [show ros (rChs ρ0.n fl rd++chs (ρ0.n+rN rd) l ads)=ros (rChs ρ0.n fl rd)++ros (chs (ρ0.n+rN rd) l ads) from List.map_append ..];refine (g5.mono h2).app h5 fun x hx y hy=>⟨?_,fun h=>?_⟩
        ·obtain ⟨q,hq,rfl⟩:=List.mem_map.1 hx;obtain ⟨q',hq',rfl⟩:=List.mem_map.1 hy;have a1:=rChs_tag _ _ _ _ hq;have a2:=chs_tag _ _ _ _ hq';simp only;omega
        ·rw [ros_wr hx,ros_wr hy] at h;cases h
      ·cases e1
     ·cases e1
    | some ks =>
     rw [hf] at e1;cases e1;have hks:=flat_ok d fuel t _ _ ks hx hf;have hv:∃ cs:Array Value,v = .agg cs:=by
      unfold Value.okWide at hv0;rw [hu] at hv0;obtain ⟨cs,h,_⟩:=hv0;exact ⟨cs,h⟩
     obtain ⟨cs,rfl⟩:=hv;have hks:KsOk ks cs.toList:=hks;obtain ⟨ads,ρ,h1,h2,h3,h4,h5⟩:=rec_ ρ0;refine ⟨.agg (atoms (fun j=>cs.toList.getD j undef) ks 0)::ads,ρ,⟨_,_,rfl,⟨_,rfl,fun j k hj=>?_⟩,h1⟩,h2,h3,⟨_,_,rfl,⟨cs.toList,by simp,atoms_repL hks⟩,h4⟩,h5⟩;have hjl:j<cs.toList.length:=by rw [hks.len];exact (List.getElem?_eq_some_iff.1 hj).1
     exact hks.ok j k _ hj (by simp [List.getD,List.getElem?_eq_getElem hjl])
   ·rename_i e hu;split at e1
    ·rename_i ks hf;cases hb:(Nat.beq ks.length (P.cellsOf e)&&Nat.ble 1 ks.length)
     ·rw [hb] at e1;cases e1
     rw [hb] at e1;cases e1;simp only [Bool.and_eq_true] at hb;obtain ⟨p,n,cap,rows,hn,hc,hrows,hlt,hrep,hsat⟩:=open_slice hu hf (Nat.eq_of_beq_eq_true hb.1) (Nat.le_of_ble_eq_true hb.2) hv0 ⟨fuel,hx⟩ hz1;obtain ⟨ads,ρ,h1,h2,h3,h4,h5⟩:=rec_ (ρ0.ext p);have hpl:ρ.pl ρ0.n=p:=by rw [h2.pl _ (Nat.lt_succ_self _)];exact ρ0.ext_new p
     have hlt':ρ0.n<ρ.n:=h2.n;refine ⟨.slc ks.length n cap rows::ads,ρ,⟨_,_,rfl,⟨n,cap,rows,rfl,hn,hc,hrows⟩,h1⟩,(ρ0.le_ext p).trans h2,by rw [h3];simp [slcs,Env.ext];omega,⟨_,_,rfl,hrep ρ ρ0.n hlt' hpl,h4⟩,?_⟩;refine HeapSat.cons h5 ⟨hlt',by simp only;rw [hpl];exact hsat ρ,by simp only;rw [hpl];exact hlt,fun h=>(by cases h)⟩ fun x hx=>⟨?_,fun h=>?_⟩
     ·obtain ⟨q,hq,rfl⟩:=List.mem_map.1 hx;have:=chs_tag _ _ _ _ hq;simp only [Env.ext] at this ⊢;omega
     ·rw [ros_wr hx] at h;cases h
    ·cases e1
   ·cases e1
  ·cases h
 | [],_,[],_::_,_,_,_,h,_,_=>h.elim
 | [],_,_::_,_,_,_,_,h,_,_=>h.elim
 | _::_,_,[],_,_,_,_,h,_,_=>h.elim
 | _::_,_,_::_,[],_,_,_,h,_,_=>h.elim
theorem law_con {Y:Gx} (hY:Y.Ok) {C:Con} {ch:C.α->CallH} (hch:∀ a,HOk Y.G.X (ch a)) {lh:C.α->Nat->LH} {f:Nat} (hb:conBody Y C ch lh f) (a:C.α) (hp:C.pre a) (hhp:C.hp a=[]) (hres:∀ o,C.res a o = .a .tt) {w:World} {ρ:Env} {vs:List Value}
 (hn:ρ.n=C.m) (hh:HeapSat w (fun _=>False) ρ (ros (C.ro a)) w) (hargs:RepArgs ρ (C.args a) vs):Calls Y.G.X.P f vs.toArray w fun e w'=>e = .returned (.bool true)/\Keeps (fun _=>False) w w':=by
 refine (xbody_ok hY (hch a) (hb a hp) w (fun _=>False) ρ w vs hn ?_ hargs).mono ?_
 ·show HeapSat w (fun _=>False) ρ (wrs (C.hp a)++ros (C.ro a)) w;rw [hhp];exact hh
 ·rintro e w' ⟨v,rfl,sv,s',ρ',hK,_,_,_,_,hrep,hh'⟩;refine ⟨?_,hh'.keeps⟩;obtain ⟨o,hK⟩:=hK;obtain ⟨τ,_,_,hw,q⟩:=matchV_ok hK (Wf.nil _ _);have:=q ρ' (subEnv ρ' τ C.m') v (subEnv_fits hw) hrep;rw [hres o] at this;rw [show v = .bool true from this]
theorem law_run {Y:Gx} (hY:Y.Ok) {C:Con} {ch:C.α->CallH} (hch:∀ a,HOk Y.G.X (ch a)) {lh:C.α->Nat->LH} {f:Nat} (hb:conBody Y C ch lh f) {ts:List TypeId} {aks:List AK} {d:Nat} (hk:argKs Y.G.X.P d ts=some aks) (hhp:∀ a,C.hp a=[]) (hres:∀ a o,C.res a o = .a .tt)
 (hinst:∀ ads,okADs aks ads->∃ a,C.pre a/\C.args a=svs 0 ads/\C.ro a=chs 0 aks ads/\C.m=slcs ads) {W:World} {args:Array Value} {ds:List (DataW H)} {ps:List MemPlace} {r:Reach} {b0:Nat}
 (hA:DataW.TrodAll enc Y.G.X.P W 0 (fun _=>true) held ts args.toList ds ps) (hval:∀ (j:Nat) (t:TypeId) (v:Value),ts[j]? = some t->args.toList[j]? = some v->Value.okWide Y.G.X.P W r b0 t v)
 (hz:∀ b off,MemPlace.cell b off∈ps->W.frozen? ⟨b,off,none⟩=false):Calls Y.G.X.P f args W fun e w'=>e = .returned (.bool true)/\Keeps (fun _=>False) W w':=by
 obtain ⟨ads,ρ,h1,_,h3,h4,h5⟩:=open_args (r:=r) (b0:=b0) (d:=d) ts aks args.toList ds ps ⟨0,fun _=>nilPlace⟩ hk hA hval hz;obtain ⟨a,g1,g2,g3,g4⟩:=hinst ads h1;have:=law_con hY hch hb a g1 (hhp a) (hres a) (w:=W) (ρ:=ρ) (vs:=args.toList) (by rw [h3,g4];simp) (by rw [g3];exact h5) (by rw [g2];exact h4);simpa using this
theorem fn_run {Y:Gx} (hY:Y.Ok) {tab:List (Nat × Con)} (ht:TabOk Y.G.X tab) {f:Nat} {C:Con} {l:C.α->List (Nat × List An × List An)} (hb:fnBody Y tab f C l) {ts:List TypeId} {aks:List AK} {d:Nat} (hk:argKs Y.G.X.P d ts=some aks) (hhp:∀ a,C.hp a=[]) (hres:∀ a o,C.res a o = .a .tt)
 (hinst:∀ ads,okADs aks ads->∃ a,C.pre a/\C.args a=svs 0 ads/\C.ro a=chs 0 aks ads/\C.m=slcs ads) {W:World} {args:Array Value} {ds:List (DataW H)} {ps:List MemPlace} {r:Reach} {b0:Nat}
 (hA:DataW.TrodAll enc Y.G.X.P W 0 (fun _=>true) held ts args.toList ds ps) (hval:∀ (j:Nat) (t:TypeId) (v:Value),ts[j]? = some t->args.toList[j]? = some v->Value.okWide Y.G.X.P W r b0 t v)
 (hz:∀ b off,MemPlace.cell b off∈ps->W.frozen? ⟨b,off,none⟩=false):Calls Y.G.X.P f args W fun e w'=>e = .returned (.bool true)/\Keeps (fun _=>False) W w' :=
 law_run hY (fun _=>CHof_ok hY ht) hb.body hk hhp hres hinst hA hval hz
theorem trodAll_len:∀ {ts:List TypeId} {vs:List Value} {ds:List (DataW H)} {ps:List MemPlace},DataW.TrodAll enc P w base spare held ts vs ds ps->ds.length=ts.length
 | [],[],[],_,_=>rfl
 | _::_,_::_,_::_,_,⟨_,_,_,h,_⟩=>by simp [trodAll_len h]
 | [],[],_::_,_,h=>h.elim
 | [],_::_,_,_,h=>h.elim
 | _::_,[],_,_,h=>h.elim
 | _::_,_::_,[],_,h=>h.elim
theorem trodAll_stays (hl:laidOutB P=true) {W W':World} (hk:Keeps (fun _=>False) W W') {sp:Nat->Bool}:∀ {ts:List TypeId} {vs:List Value} {ds:List (DataW H)} {ps:List MemPlace},(∀ t∈ts,P.readableRec t=true/\t<P.types.size) ->
 DataW.TrodAll enc P W 0 (fun _=>true) true ts vs ds ps->(∀ p∈ps,p.block<W.heap.size/\sp p.block=true)->DataW.TrodAll enc P W' 0 sp true ts vs ds ps
 | [],[],[],_,_,h,_=>h
 | t::ts,v::vs,d::ds,ps,ht,⟨p1,p2,h1,h2,e⟩,hp=>by
  subst e;have hb:Below W.heap.size W W':=⟨hk.os,hk.tape,hk.output,hk.size,fun b hb=>hk.block b hb id⟩
  obtain ⟨a1,a2⟩:=ht t List.mem_cons_self;exact ⟨p1,p2,WideElems.Trod_stays hl a1 a2 h1 (fun x hx=>hb.same (hp x (List.mem_append_left _ hx)).1) (fun x hx=>(hp x (List.mem_append_left _ hx)).2),
   trodAll_stays hl hk (fun t h=>ht t (List.mem_cons_of_mem _ h)) h2 fun x hx=>hp x (List.mem_append_right _ hx),rfl⟩
 | [],[],_::_,_,_,h,_=>h.elim
 | [],_::_,_,_,_,h,_=>h.elim
 | _::_,[],_,_,_,h,_=>h.elim
 | _::_,_::_,[],_,_,h,_=>h.elim
end
end Go.Sx

namespace Go.Proofs.YtfobhkibkdmglaaGreat
open Go.Sx
set_option maxRecDepth 100000
set_option linter.unusedVariables false
set_option linter.unusedSimpArgs false
structure FBtwA where
 ln:Nat
 lc:Nat
 l:Nat->Nat->Value
 from_:Int
 to:Int
 n:Int
def xs0 (a:FBtwA):List ItemM:=(List.range a.ln).map fun i=>⟨toS (a.l i 0),toS (a.l i 1),toI (a.l i 2),toB (a.l i 3)⟩
def xsB (a:FBtwA):List ItemM:=((xs0 a).take 8).map cutI
structure RowsOk (a:FBtwA):Prop where
 ok:RowsEq a.ln 4 a.l (encRows encItem (xs0 a))
noncomputable def cFBtw:Con where
 α:=FBtwA
 β:=Unit
 m:=1
 m':=1
 pre:=fun a=>a.ln<=a.lc/\a.lc<=lenMax/\RowsOk a/\InR .u64 a.from_/\InR .u64 a.to/\InR .i64 a.n
 args:=fun a=>[.a (.slc 0 0 4 a.ln a.lc),.a (.int .u64 a.from_),.a (.int .u64 a.to),.a (.int .i64 a.n)]
 hp:=fun _=>[]
 ro:=fun a=>[(0,.arr 35 ksItem a.ln a.l)]
 post:=fun _ _=>True
 res:=fun _ _=>.a .tt
 hp':=fun _ _=>[]
def wB (a:FBtwA) (i:Nat):List ItemM:=wantTo a.from_ a.to (xsB a) i
def S.lst (s:S) (k:Nat) (w:List ItemM) (cap:Nat):S:=(s.new (.arr 35 ksItem w.length (encRows encItem w))).set k (.a (.slc s.nx 0 4 w.length cap))
structure FBtwS where
 i:Nat
 p:FlP
 cap:Nat
def iB1 (a:FBtwA):An:=.mk 10 FBtwS (fun s x=>(S.lst (S.fl s (s.tg 10) (putsX (xsB a) x.i) x.p) 12 (wB a x.i) x.cap).int 13 x.i) (fun _ x=>x.i<=(xsB a).length/\FlAt (putsX (xsB a) x.i) x.p/\(wB a x.i).length<=x.cap) (fun _ x=>(xsB a).length - x.i) fun x=>.mk 1000
 [.flat 16 Nat (fun s k=>s.int 15 k) (fun _ k=>k<=posW (wB a x.i) (gl (xsB a) x.i).key) (fun _ k=>(wB a x.i).length - k)] []
structure FBtwT where
 g:Nat
 c1:Nat
def iB3 (a:FBtwA):An:=.flat 23 FBtwT (fun s x=>(S.lst s 16 ((wB a (xsB a).length).take x.g) x.c1).set 17 (.a (.str (afterB (wB a (xsB a).length) x.g)))) (fun _ x=>x.g<=(wB a (xsB a).length).length) (fun _ x=>(wB a (xsB a).length).length - x.g)
theorem rows_ins {w:List ItemM} {X:ItemM} {k:Nat} (hk:k<=w.length):RowsEq (w.take k++X::w.drop k).length 4 (appRows (encRows encItem w) 0 (k - 0) fun (i j:Nat)=>appRows (flatRows 4 [Value.string X.key,Value.string X.val,Value.int .i64 X.e,Value.bool X.gone]) 0 1 (fun (i j:Nat)=>encRows encItem w (k+i) j) (0+i) j) (encRows encItem (w.take k++X::w.drop k)):=⟨fun i hi j hj=>by
 have hl:(w.take k).length=k:=by rw [List.length_take];omega
 simp only [appRows,Nat.sub_zero,Nat.zero_add];by_cases h1:i<k
 ·rw [if_pos h1];unfold encRows;rw [gl_append_left (by omega),gl_eq (by omega),gl_eq (by omega),List.getElem_take]
 ·rw [if_neg h1];obtain ⟨q,rfl⟩:∃ q,i=k+q:=⟨i - k,by omega⟩
  have hg:gl (w.take k++X::w.drop k) (k+q)=gl (X::w.drop k) q:=by
   have:=gl_append_right (l:=w.take k) (m:=X::w.drop k) (i:=q);rwa [hl] at this
  rw [Nat.add_sub_cancel_left];unfold encRows;rw [hg];cases q with
  | zero =>
   rw [if_pos (by omega)];rcases (by omega:j=0\/j=1\/j=2\/j=3) with rfl|rfl|rfl|rfl<;>rfl
  | succ q =>
   rw [if_neg (by omega),Nat.add_sub_cancel];have:gl (X::w.drop k) (q+1)=gl w (k+q):=by
    show gl (w.drop k) q=_;simp only [List.length_append,List.length_take,List.length_cons,List.length_drop] at hi;rw [gl_eq (by simp;omega),gl_eq (by omega),List.getElem_drop]
   rw [this]⟩
theorem ins_set {w:List ItemM} {X:ItemM} {k:Nat} (hk:k=posW w X.key) (hl:k<w.length) (he:(gl w k).key=X.key):insW w X=w.set k X:=by
 subst hk;exact if_pos ⟨hl,he⟩
theorem ins_app {w:List ItemM} {X:ItemM} {k:Nat} (hk:k=posW w X.key) (he:k<w.length->(gl w k).key≠X.key):insW w X=w.take k++X::w.drop k:=by
 subst hk;exact if_neg fun h=>he h.1 h.2
noncomputable def tabFBtw:List (Nat × Con):=(7,cBegunF)::(22,cIts)::(23,Ix.cMixOf)::(25,cEqs)::(24,cBtw)::tabFl
theorem tabFBtw_ok:TabOk (Y Tryz.prog).G.X tabFBtw:=⟨callBegunF,callIts,Ix.callROf,callEqs,callBtw,tabFl_ok⟩
set_option maxHeartbeats 4000000 in
theorem bodyFBtw:fnBody (Y Tryz.prog) tabFBtw 5 cFBtw fun a=>[(5,[iB1 a,iB3 a],[An.newPool 2 (.mk 1000 [iB1 a,iB3 a] [])])]:=fnBody.of (p :=
 ∀ a:FBtwA,a.ln<=a.lc/\a.lc<=lenMax/\RowsOk a/\InR .u64 a.from_/\InR .u64 a.to/\InR .i64 a.n->∃ a_2:Unit,True/\∀ b:Unit,True->∃ a_4:ItsA,(0=0/\a.ln=a_4.xs.length/\a.lc=a_4.cap)/\(8:Int)=8/\(a_4.xs.length<=a.ln/\RowsEq a_4.xs.length 4 a.l (encRows encItem a_4.xs))/\(a_4.xs.length<=a_4.cap/\a_4.cap<=lenMax)/\∀ b:Nat,True->∃ a_6:Int,(320:Int)=a_6/\True/\∀ b_1:Unit,True->∃ a_8:FOpenA,0=0/\0=(↑a_8.from_:Int)/\40=(↑a_8.segs:Int)/\(fun (x:Nat)=>none)=a_8.H/\devQ (devNew a_6) a_8.d ((OpenOk a_8.from_ a_8.segs a_8.d/\EsOk a_8.es (allR (openM a_8.from_ a_8.segs a_8.d).l)/\∀ i:Nat,i<(openM a_8.from_ a_8.segs a_8.d).l.length->(gl (openM a_8.from_ a_8.segs a_8.d).l i).recs.length<=400)/\∀ b_2:FlP,(FlAt (opnF a_8) b_2/\∀ z:Nat,a_8.H z≠none->b_2.H z=a_8.H z/\¬z∈fpLog b_2.y)->(false=true->∃ b:Unit,true=true/\True/\True)/\(false=false->(decide (a.n<(1:Int))=true->∃ b:Unit,true=true/\True/\True)/\(decide (a.n<(1:Int))=false->(decide ((10:Int)<a.n)=true->∃ b:Unit,true=true/\True/\True)/\(decide ((10:Int)<a.n)=false->(∃ a_13:FBtwS,0=(↑a_13.i:Int)/\(0=(wB a a_13.i).length/\0=a_13.cap)/\decide ((10:Int)<a.n)=decide ((10:Int)<a.n)/\(0:Int)=0/\0=0/\(0=0/\(List.map cutI (List.take 8 a_4.xs)).length=(List.map cutI (List.take 8 a_4.xs)).length/\b=b)/\false=false/\true=true/\false=false/\a.from_=a.from_ /\
 a.to=a.to/\a.n=a.n/\(wB a a_13.i).length=0/\b_2.H=a_13.p.H/\0=0/\0=0/\0=0/\logQ (opnF a_8).L (putsX (xsB a) a_13.i).L b_2.y.lv a_13.p.y.lv ((0=0/\b_2.x.t.length=a_13.p.x.t.length/\b_2.cap=a_13.p.cap)/\(↑b_2.x.n:Int)=(↑a_13.p.x.n:Int)/\(↑b_2.x.used:Int)=(↑a_13.p.x.used:Int)/\devQ (devNew a_6) (putsX (xsB a) a_13.i).d (((List.map cutI (List.take 8 a_4.xs)).length<=(List.map cutI (List.take 8 a_4.xs)).length/\RowsEq (List.map cutI (List.take 8 a_4.xs)).length 4 (encRows encItem (List.map cutI (List.take 8 a_4.xs))) (encRows encItem (List.map cutI (List.take 8 a_4.xs))))/\(a_13.p.x.t.length<=b_2.x.t.length/\RowsEq a_13.p.x.t.length 4 (encRows Ix.encP b_2.x.t) (encRows Ix.encP a_13.p.x.t))/\(a.ln<=a.ln/\RowsEq a.ln 4 a.l a.l)/\(a_13.i<=(xsB a).length/\FlAt (putsX (xsB a) a_13.i) a_13.p/\(wB a a_13.i).length<=a_13.cap)/\True)))/\∀ a_13:FBtwS,a_13.i<=(xsB a).length/\FlAt (putsX (xsB a) a_13.i) a_13.p/\(wB a a_13.i).length<=a_13.cap->(decide ((↑a_13.i:Int)<(↑(List.map cutI (List.take 8 a_4.xs)).length:Int))=true->(0<=(↑a_13.i:Int)/\(↑a_13.i:Int)<(↑(List.map cutI (List.take 8 a_4.xs)).length:Int))/\0+(↑a_13.i:Int).toNat<(List.map cutI (List.take 8 a_4.xs)).length/\∃ a_16:FPutA,0=0/\(gl (List.map cutI (List.take 8 a_4.xs)) (0+(↑a_13.i:Int).toNat)).key=a_16.x.key/\(gl (List.map cutI (List.take 8 a_4.xs)) (0+(↑a_13.i:Int).toNat)).val=a_16.x.val/\(gl (List.map cutI (List.take 8 a_4.xs)) (0+(↑a_13.i:Int).toNat)).e=a_16.x.e /\
 (gl (List.map cutI (List.take 8 a_4.xs)) (0+(↑a_13.i:Int).toNat)).gone=a_16.x.gone/\0=0/\0=0/\0=0/\logQ (putsX (xsB a) a_13.i).L a_16.m.L a_13.p.y.lv a_16.p.y.lv (devQ (putsX (xsB a) a_13.i).d a_16.m.d (idxQ a_13.p.x a_16.p.x a_13.p.cap a_16.p.cap (a_13.p.H=a_16.p.H/\(FlAt a_16.m a_16.p/\(putOk a_16.x=true->FlOk a_16.m (bodyOf (some a_16.x)).length))/\∀ b_3:FlP,FlAt (putF a_16.m a_16.x) b_3/\FlFr a_16.p b_3->(((if putOk a_16.x=true then (0:Int) else (1:Int)) != (0:Int))=true->InR .i64 ((↑a_13.i:Int)+1)/\∃ (a':FBtwS),(↑a_13.i:Int)+1=(↑a'.i:Int)/\(0=0/\(wB a a_13.i).length=(wB a a'.i).length/\a_13.cap=a'.cap)/\decide ((10:Int)<a.n)=decide ((10:Int)<a.n)/\(0:Int)=0/\0=0/\(0=0/\(List.map cutI (List.take 8 a_4.xs)).length=(List.map cutI (List.take 8 a_4.xs)).length/\b=b)/\false=false/\true=true/\false=false/\a.from_=a.from_/\a.to=a.to/\a.n=a.n/\((wB a a'.i).length<=(wB a a_13.i).length/\RowsEq (wB a a'.i).length 4 (encRows encItem (wB a a_13.i)) (encRows encItem (wB a a'.i)))/\b_3.H=a'.p.H/\0=0/\0=0/\0=0/\logQ (putF a_16.m a_16.x).L (putsX (xsB a) a'.i).L b_3.y.lv a'.p.y.lv ((0=0/\b_3.x.t.length=a'.p.x.t.length/\b_3.cap=a'.p.cap)/\(↑b_3.x.n:Int)=(↑a'.p.x.n:Int)/\(↑b_3.x.used:Int)=(↑a'.p.x.used:Int)/\devQ (putF a_16.m a_16.x).d (putsX (xsB a) a'.i).d (((List.map cutI (List.take 8 a_4.xs)).length<=(List.map cutI (List.take 8 a_4.xs)).length /\
 RowsEq (List.map cutI (List.take 8 a_4.xs)).length 4 (encRows encItem (List.map cutI (List.take 8 a_4.xs))) (encRows encItem (List.map cutI (List.take 8 a_4.xs))))/\(a'.p.x.t.length<=b_3.x.t.length/\RowsEq a'.p.x.t.length 4 (encRows Ix.encP b_3.x.t) (encRows Ix.encP a'.p.x.t))/\(a.ln<=a.ln/\RowsEq a.ln 4 a.l a.l)/\(a'.i<=(xsB a).length/\FlAt (putsX (xsB a) a'.i) a'.p/\(wB a a'.i).length<=a'.cap)/\(xsB a).length - a'.i<(xsB a).length - a_13.i)))/\(((if putOk a_16.x=true then (0:Int) else (1:Int)) != (0:Int))=false->(0<=(↑a_13.i:Int)/\(↑a_13.i:Int)<(↑(List.map cutI (List.take 8 a_4.xs)).length:Int))/\0+(↑a_13.i:Int).toNat<(List.map cutI (List.take 8 a_4.xs)).length/\∃ a_19:Ix.OfA,(0=0/\1=a_19.n/\1=a_19.cap)/\(a_19.n<=1/\RowsEq a_19.n 1 (flatRows 1 [Value.string (gl (List.map cutI (List.take 8 a_4.xs)) (0+(↑a_13.i:Int).toNat)).key]) fun (i x:Nat)=>Value.string (a_19.g i))/\(a_19.n<100000/\∀ i:Nat,i<a_19.n->(a_19.g i).size<=lenMax)/\∀ b_4:Unit,True->(decide (Ix.hashG a_19.g a_19.n<a.from_)=true->InR .i64 ((↑a_13.i:Int)+1)/\∃ (a':FBtwS),(↑a_13.i:Int)+1=(↑a'.i:Int)/\(0=0/\(wB a a_13.i).length=(wB a a'.i).length/\a_13.cap=a'.cap)/\decide ((10:Int)<a.n)=decide ((10:Int)<a.n)/\(0:Int)=0/\0=0/\(0=0/\(List.map cutI (List.take 8 a_4.xs)).length=(List.map cutI (List.take 8 a_4.xs)).length/\b=b)/\false=false/\true=true/\false=false/\a.from_=a.from_ /\
 a.to=a.to/\a.n=a.n/\((wB a a'.i).length<=(wB a a_13.i).length/\RowsEq (wB a a'.i).length 4 (encRows encItem (wB a a_13.i)) (encRows encItem (wB a a'.i)))/\b_3.H=a'.p.H/\0=0/\0=0/\0=0/\logQ (putF a_16.m a_16.x).L (putsX (xsB a) a'.i).L b_3.y.lv a'.p.y.lv ((0=0/\b_3.x.t.length=a'.p.x.t.length/\b_3.cap=a'.p.cap)/\(↑b_3.x.n:Int)=(↑a'.p.x.n:Int)/\(↑b_3.x.used:Int)=(↑a'.p.x.used:Int)/\devQ (putF a_16.m a_16.x).d (putsX (xsB a) a'.i).d (((List.map cutI (List.take 8 a_4.xs)).length<=(List.map cutI (List.take 8 a_4.xs)).length/\RowsEq (List.map cutI (List.take 8 a_4.xs)).length 4 (encRows encItem (List.map cutI (List.take 8 a_4.xs))) (encRows encItem (List.map cutI (List.take 8 a_4.xs))))/\(a'.p.x.t.length<=b_3.x.t.length/\RowsEq a'.p.x.t.length 4 (encRows Ix.encP b_3.x.t) (encRows Ix.encP a'.p.x.t))/\(a.ln<=a.ln/\RowsEq a.ln 4 a.l a.l)/\(a'.i<=(xsB a).length/\FlAt (putsX (xsB a) a'.i) a'.p/\(wB a a'.i).length<=a'.cap)/\(xsB a).length - a'.i<(xsB a).length - a_13.i)))/\(decide (Ix.hashG a_19.g a_19.n<a.from_)=false->(decide (a.to<Ix.hashG a_19.g a_19.n)=true->InR .i64 ((↑a_13.i:Int)+1)/\∃ (a':FBtwS),(↑a_13.i:Int)+1=(↑a'.i:Int)/\(0=0/\(wB a a_13.i).length=(wB a a'.i).length/\a_13.cap=a'.cap)/\decide ((10:Int)<a.n)=decide ((10:Int)<a.n)/\(0:Int)=0/\0=0/\(0=0/\(List.map cutI (List.take 8 a_4.xs)).length=(List.map cutI (List.take 8 a_4.xs)).length/\b=b)/\false=false /\
 true=true/\false=false/\a.from_=a.from_/\a.to=a.to/\a.n=a.n/\((wB a a'.i).length<=(wB a a_13.i).length/\RowsEq (wB a a'.i).length 4 (encRows encItem (wB a a_13.i)) (encRows encItem (wB a a'.i)))/\b_3.H=a'.p.H/\0=0/\0=0/\0=0/\logQ (putF a_16.m a_16.x).L (putsX (xsB a) a'.i).L b_3.y.lv a'.p.y.lv ((0=0/\b_3.x.t.length=a'.p.x.t.length/\b_3.cap=a'.p.cap)/\(↑b_3.x.n:Int)=(↑a'.p.x.n:Int)/\(↑b_3.x.used:Int)=(↑a'.p.x.used:Int)/\devQ (putF a_16.m a_16.x).d (putsX (xsB a) a'.i).d (((List.map cutI (List.take 8 a_4.xs)).length<=(List.map cutI (List.take 8 a_4.xs)).length/\RowsEq (List.map cutI (List.take 8 a_4.xs)).length 4 (encRows encItem (List.map cutI (List.take 8 a_4.xs))) (encRows encItem (List.map cutI (List.take 8 a_4.xs))))/\(a'.p.x.t.length<=b_3.x.t.length/\RowsEq a'.p.x.t.length 4 (encRows Ix.encP b_3.x.t) (encRows Ix.encP a'.p.x.t))/\(a.ln<=a.ln/\RowsEq a.ln 4 a.l a.l)/\(a'.i<=(xsB a).length/\FlAt (putsX (xsB a) a'.i) a'.p/\(wB a a'.i).length<=a'.cap)/\(xsB a).length - a'.i<(xsB a).length - a_13.i)))/\(decide (a.to<Ix.hashG a_19.g a_19.n)=false->(∃ a_23:Nat,0=(↑a_23:Int)/\decide (a.to<Ix.hashG a_19.g a_19.n)=decide (a.to<Ix.hashG a_19.g a_19.n)/\Ix.hashG a_19.g a_19.n=Ix.hashG a_19.g a_19.n/\((if putOk a_16.x=true then (0:Int) else (1:Int)) != (0:Int))=((if putOk a_16.x=true then (0:Int) else (1:Int)) != (0:Int))/\decide ((↑a_13.i:Int)<(↑(List.map cutI (List.take 8 a_4.xs)).length:Int))=decide ((↑a_13.i:Int)<(↑(List.map cutI (List.take 8 a_4.xs)).length:Int)) /\
 (↑a_13.i:Int)=(↑a_13.i:Int)/\(0=0/\(wB a a_13.i).length=(wB a a_13.i).length/\a_13.cap=a_13.cap)/\decide ((10:Int)<a.n)=decide ((10:Int)<a.n)/\(0:Int)=0/\0=0/\(0=0/\(List.map cutI (List.take 8 a_4.xs)).length=(List.map cutI (List.take 8 a_4.xs)).length/\b=b)/\false=false/\true=true/\false=false/\a.from_=a.from_/\a.to=a.to/\a.n=a.n/\0=0/\0=0/\0=0/\logQ (putF a_16.m a_16.x).L (putF a_16.m a_16.x).L b_3.y.lv b_3.y.lv (devQ (putF a_16.m a_16.x).d (putF a_16.m a_16.x).d (idxQ b_3.x b_3.x b_3.cap b_3.cap (b_3.H=b_3.H/\((wB a a_13.i).length<=(wB a a_13.i).length/\RowsEq (wB a a_13.i).length 4 (encRows encItem (wB a a_13.i)) (encRows encItem (wB a a_13.i)))/\((List.map cutI (List.take 8 a_4.xs)).length<=(List.map cutI (List.take 8 a_4.xs)).length/\RowsEq (List.map cutI (List.take 8 a_4.xs)).length 4 (encRows encItem (List.map cutI (List.take 8 a_4.xs))) (encRows encItem (List.map cutI (List.take 8 a_4.xs))))/\(a.ln<=a.ln/\RowsEq a.ln 4 a.l a.l)/\a_23<=posW (wB a a_13.i) (gl (xsB a) a_13.i).key/\True))))/\∀ a_23:Nat,a_23<=posW (wB a a_13.i) (gl (xsB a) a_13.i).key->(decide ((↑a_23:Int)<(↑(wB a a_13.i).length:Int))=true->(0<=(↑a_23:Int)/\(↑a_23:Int)<(↑(wB a a_13.i).length:Int))/\0+(↑a_23:Int).toNat<(wB a a_13.i).length/\(0<=(↑a_13.i:Int)/\(↑a_13.i:Int)<(↑(List.map cutI (List.take 8 a_4.xs)).length:Int))/\0+(↑a_13.i:Int).toNat<(List.map cutI (List.take 8 a_4.xs)).length /\
 (Go.Op.bytesLess (gl (wB a a_13.i) (0+(↑a_23:Int).toNat)).key.toList (gl (List.map cutI (List.take 8 a_4.xs)) (0+(↑a_13.i:Int).toNat)).key.toList=true->InR .i64 ((↑a_23:Int)+1)/\∃ (a':Nat),(↑a_23:Int)+1=(↑a':Int)/\decide (a.to<Ix.hashG a_19.g a_19.n)=decide (a.to<Ix.hashG a_19.g a_19.n)/\Ix.hashG a_19.g a_19.n=Ix.hashG a_19.g a_19.n/\((if putOk a_16.x=true then (0:Int) else (1:Int)) != (0:Int))=((if putOk a_16.x=true then (0:Int) else (1:Int)) != (0:Int))/\decide ((↑a_13.i:Int)<(↑(List.map cutI (List.take 8 a_4.xs)).length:Int))=decide ((↑a_13.i:Int)<(↑(List.map cutI (List.take 8 a_4.xs)).length:Int))/\(↑a_13.i:Int)=(↑a_13.i:Int)/\(0=0/\(wB a a_13.i).length=(wB a a_13.i).length/\a_13.cap=a_13.cap)/\decide ((10:Int)<a.n)=decide ((10:Int)<a.n)/\(0:Int)=0/\0=0/\(0=0/\(List.map cutI (List.take 8 a_4.xs)).length=(List.map cutI (List.take 8 a_4.xs)).length/\b=b)/\false=false/\true=true/\false=false/\a.from_=a.from_/\a.to=a.to/\a.n=a.n/\0=0/\0=0/\0=0/\logQ (putF a_16.m a_16.x).L (putF a_16.m a_16.x).L b_3.y.lv b_3.y.lv (devQ (putF a_16.m a_16.x).d (putF a_16.m a_16.x).d (idxQ b_3.x b_3.x b_3.cap b_3.cap (b_3.H=b_3.H/\((wB a a_13.i).length<=(wB a a_13.i).length/\RowsEq (wB a a_13.i).length 4 (encRows encItem (wB a a_13.i)) (encRows encItem (wB a a_13.i)))/\((List.map cutI (List.take 8 a_4.xs)).length<=(List.map cutI (List.take 8 a_4.xs)).length /\
 RowsEq (List.map cutI (List.take 8 a_4.xs)).length 4 (encRows encItem (List.map cutI (List.take 8 a_4.xs))) (encRows encItem (List.map cutI (List.take 8 a_4.xs))))/\(a.ln<=a.ln/\RowsEq a.ln 4 a.l a.l)/\a'<=posW (wB a a_13.i) (gl (xsB a) a_13.i).key/\(wB a a_13.i).length - a'<(wB a a_13.i).length - a_23))))/\(Go.Op.bytesLess (gl (wB a a_13.i) (0+(↑a_23:Int).toNat)).key.toList (gl (List.map cutI (List.take 8 a_4.xs)) (0+(↑a_13.i:Int).toNat)).key.toList=false->(decide ((↑a_23:Int)<(↑(wB a a_13.i).length:Int))=true->(0<=(↑a_23:Int)/\(↑a_23:Int)<(↑(wB a a_13.i).length:Int))/\0+(↑a_23:Int).toNat<(wB a a_13.i).length/\(0<=(↑a_13.i:Int)/\(↑a_13.i:Int)<(↑(List.map cutI (List.take 8 a_4.xs)).length:Int))/\0+(↑a_13.i:Int).toNat<(List.map cutI (List.take 8 a_4.xs)).length/\(decide ((gl (wB a a_13.i) (0+(↑a_23:Int).toNat)).key=(gl (List.map cutI (List.take 8 a_4.xs)) (0+(↑a_13.i:Int).toNat)).key)=true->(0<=(↑a_13.i:Int)/\(↑a_13.i:Int)<(↑(List.map cutI (List.take 8 a_4.xs)).length:Int))/\0+(↑a_13.i:Int).toNat<(List.map cutI (List.take 8 a_4.xs)).length/\(0<=(↑a_23:Int)/\(↑a_23:Int)<(↑(wB a a_13.i).length:Int))/\0+(↑a_23:Int).toNat<(wB a a_13.i).length/\InR .i64 ((↑a_13.i:Int)+1)/\∃ (a':FBtwS),(↑a_13.i:Int)+1=(↑a'.i:Int)/\(0=0/\(wB a a_13.i).length=(wB a a'.i).length/\a_13.cap=a'.cap)/\decide ((10:Int)<a.n)=decide ((10:Int)<a.n)/\(0:Int)=0 /\
 0=0/\(0=0/\(List.map cutI (List.take 8 a_4.xs)).length=(List.map cutI (List.take 8 a_4.xs)).length/\b=b)/\false=false/\true=true/\false=false/\a.from_=a.from_/\a.to=a.to/\a.n=a.n/\((wB a a'.i).length<=(wB a a_13.i).length/\RowsEq (wB a a'.i).length 4 (updR (encRows encItem (wB a a_13.i)) (0+(↑a_23:Int).toNat) 0 [Value.string (gl (List.map cutI (List.take 8 a_4.xs)) (0+(↑a_13.i:Int).toNat)).key,Value.string (gl (List.map cutI (List.take 8 a_4.xs)) (0+(↑a_13.i:Int).toNat)).val,Value.int IntKind.i64 (gl (List.map cutI (List.take 8 a_4.xs)) (0+(↑a_13.i:Int).toNat)).e,Value.bool (gl (List.map cutI (List.take 8 a_4.xs)) (0+(↑a_13.i:Int).toNat)).gone]) (encRows encItem (wB a a'.i)))/\b_3.H=a'.p.H/\0=0/\0=0/\0=0/\logQ (putF a_16.m a_16.x).L (putsX (xsB a) a'.i).L b_3.y.lv a'.p.y.lv ((0=0/\b_3.x.t.length=a'.p.x.t.length/\b_3.cap=a'.p.cap)/\(↑b_3.x.n:Int)=(↑a'.p.x.n:Int)/\(↑b_3.x.used:Int)=(↑a'.p.x.used:Int)/\devQ (putF a_16.m a_16.x).d (putsX (xsB a) a'.i).d (((List.map cutI (List.take 8 a_4.xs)).length<=(List.map cutI (List.take 8 a_4.xs)).length/\RowsEq (List.map cutI (List.take 8 a_4.xs)).length 4 (encRows encItem (List.map cutI (List.take 8 a_4.xs))) (encRows encItem (List.map cutI (List.take 8 a_4.xs))))/\(a'.p.x.t.length<=b_3.x.t.length/\RowsEq a'.p.x.t.length 4 (encRows Ix.encP b_3.x.t) (encRows Ix.encP a'.p.x.t))/\(a.ln<=a.ln/\RowsEq a.ln 4 a.l a.l)/\(a'.i<=(xsB a).length/\FlAt (putsX (xsB a) a'.i) a'.p /\
 (wB a a'.i).length<=a'.cap)/\(xsB a).length - a'.i<(xsB a).length - a_13.i)))/\(decide ((gl (wB a a_13.i) (0+(↑a_23:Int).toNat)).key=(gl (List.map cutI (List.take 8 a_4.xs)) (0+(↑a_13.i:Int).toNat)).key)=false->(0<=(↑a_23:Int)/\(↑a_23:Int)<=(↑a_13.cap:Int))/\(0<=(↑a_23:Int)/\(↑a_23:Int)<=(↑(↑a_23:Int).toNat:Int))/\(0<=(↑a_13.i:Int)/\(↑a_13.i:Int)<(↑(List.map cutI (List.take 8 a_4.xs)).length:Int))/\0+(↑a_13.i:Int).toNat<(List.map cutI (List.take 8 a_4.xs)).length/\(0<=(↑a_23:Int)/\(↑a_23:Int)<=(↑(wB a a_13.i).length:Int))/\1<=1/\0+(↑a_23:Int).toNat+((wB a a_13.i).length - (↑a_23:Int).toNat)<=(wB a a_13.i).length/\(1+((wB a a_13.i).length - (↑a_23:Int).toNat))*48<=140737488355328/\∀ cap:Nat,1+((wB a a_13.i).length - (↑a_23:Int).toNat)<=cap->cap<=lenMax->(1+((wB a a_13.i).length - (↑a_23:Int).toNat)<=1->cap=1)->0+((↑a_23:Int).toNat - 0)<=(wB a a_13.i).length/\0+(1+((wB a a_13.i).length - (↑a_23:Int).toNat))<=1+((wB a a_13.i).length - (↑a_23:Int).toNat)/\((↑a_23:Int).toNat - 0+(1+((wB a a_13.i).length - (↑a_23:Int).toNat)))*48<=140737488355328/\∀ cap:Nat,(↑a_23:Int).toNat - 0+(1+((wB a a_13.i).length - (↑a_23:Int).toNat))<=cap->cap<=lenMax->((↑a_23:Int).toNat - 0+(1+((wB a a_13.i).length - (↑a_23:Int).toNat))<=(↑a_23:Int).toNat - 0->cap=(↑a_23:Int).toNat - 0)->InR .i64 ((↑a_13.i:Int)+1)/\∃ (a':FBtwS),(↑a_13.i:Int)+1=(↑a'.i:Int) /\
 (0=0/\(↑a_23:Int).toNat - 0+(1+((wB a a_13.i).length - (↑a_23:Int).toNat))=(wB a a'.i).length/\cap=a'.cap)/\decide ((10:Int)<a.n)=decide ((10:Int)<a.n)/\(0:Int)=0/\0=0/\(0=0/\(List.map cutI (List.take 8 a_4.xs)).length=(List.map cutI (List.take 8 a_4.xs)).length/\b=b)/\false=false/\true=true/\false=false/\a.from_=a.from_/\a.to=a.to/\a.n=a.n/\((wB a a'.i).length<=(↑a_23:Int).toNat - 0+(1+((wB a a_13.i).length - (↑a_23:Int).toNat))/\RowsEq (wB a a'.i).length 4 (appRows (encRows encItem (wB a a_13.i)) 0 ((↑a_23:Int).toNat - 0) fun (i j:Nat)=>appRows (flatRows 4 [Value.string (gl (List.map cutI (List.take 8 a_4.xs)) (0+(↑a_13.i:Int).toNat)).key,Value.string (gl (List.map cutI (List.take 8 a_4.xs)) (0+(↑a_13.i:Int).toNat)).val,Value.int IntKind.i64 (gl (List.map cutI (List.take 8 a_4.xs)) (0+(↑a_13.i:Int).toNat)).e,Value.bool (gl (List.map cutI (List.take 8 a_4.xs)) (0+(↑a_13.i:Int).toNat)).gone]) 0 1 (fun (i j:Nat)=>encRows encItem (wB a a_13.i) (0+(↑a_23:Int).toNat+i) j) (0+i) j) (encRows encItem (wB a a'.i)))/\b_3.H=a'.p.H/\0=0/\0=0/\0=0/\logQ (putF a_16.m a_16.x).L (putsX (xsB a) a'.i).L b_3.y.lv a'.p.y.lv ((0=0/\b_3.x.t.length=a'.p.x.t.length/\b_3.cap=a'.p.cap)/\(↑b_3.x.n:Int)=(↑a'.p.x.n:Int)/\(↑b_3.x.used:Int)=(↑a'.p.x.used:Int)/\devQ (putF a_16.m a_16.x).d (putsX (xsB a) a'.i).d (((List.map cutI (List.take 8 a_4.xs)).length<=(List.map cutI (List.take 8 a_4.xs)).length /\
 RowsEq (List.map cutI (List.take 8 a_4.xs)).length 4 (encRows encItem (List.map cutI (List.take 8 a_4.xs))) (encRows encItem (List.map cutI (List.take 8 a_4.xs))))/\(a'.p.x.t.length<=b_3.x.t.length/\RowsEq a'.p.x.t.length 4 (encRows Ix.encP b_3.x.t) (encRows Ix.encP a'.p.x.t))/\(a.ln<=a.ln/\RowsEq a.ln 4 a.l a.l)/\(a'.i<=(xsB a).length/\FlAt (putsX (xsB a) a'.i) a'.p/\(wB a a'.i).length<=a'.cap)/\(xsB a).length - a'.i<(xsB a).length - a_13.i))))/\(decide ((↑a_23:Int)<(↑(wB a a_13.i).length:Int))=false->(0<=(↑a_23:Int)/\(↑a_23:Int)<=(↑a_13.cap:Int))/\(0<=(↑a_23:Int)/\(↑a_23:Int)<=(↑(↑a_23:Int).toNat:Int))/\(0<=(↑a_13.i:Int)/\(↑a_13.i:Int)<(↑(List.map cutI (List.take 8 a_4.xs)).length:Int))/\0+(↑a_13.i:Int).toNat<(List.map cutI (List.take 8 a_4.xs)).length/\(0<=(↑a_23:Int)/\(↑a_23:Int)<=(↑(wB a a_13.i).length:Int))/\1<=1/\0+(↑a_23:Int).toNat+((wB a a_13.i).length - (↑a_23:Int).toNat)<=(wB a a_13.i).length/\(1+((wB a a_13.i).length - (↑a_23:Int).toNat))*48<=140737488355328/\∀ cap:Nat,1+((wB a a_13.i).length - (↑a_23:Int).toNat)<=cap->cap<=lenMax->(1+((wB a a_13.i).length - (↑a_23:Int).toNat)<=1->cap=1)->0+((↑a_23:Int).toNat - 0)<=(wB a a_13.i).length/\0+(1+((wB a a_13.i).length - (↑a_23:Int).toNat))<=1+((wB a a_13.i).length - (↑a_23:Int).toNat)/\((↑a_23:Int).toNat - 0+(1+((wB a a_13.i).length - (↑a_23:Int).toNat)))*48<=140737488355328/\∀ cap:Nat,(↑a_23:Int).toNat - 0+(1+((wB a a_13.i).length - (↑a_23:Int).toNat))<=cap ->
 cap<=lenMax->((↑a_23:Int).toNat - 0+(1+((wB a a_13.i).length - (↑a_23:Int).toNat))<=(↑a_23:Int).toNat - 0->cap=(↑a_23:Int).toNat - 0)->InR .i64 ((↑a_13.i:Int)+1)/\∃ (a':FBtwS),(↑a_13.i:Int)+1=(↑a'.i:Int)/\(0=0/\(↑a_23:Int).toNat - 0+(1+((wB a a_13.i).length - (↑a_23:Int).toNat))=(wB a a'.i).length/\cap=a'.cap)/\decide ((10:Int)<a.n)=decide ((10:Int)<a.n)/\(0:Int)=0/\0=0/\(0=0/\(List.map cutI (List.take 8 a_4.xs)).length=(List.map cutI (List.take 8 a_4.xs)).length/\b=b)/\false=false/\true=true/\false=false/\a.from_=a.from_/\a.to=a.to/\a.n=a.n/\((wB a a'.i).length<=(↑a_23:Int).toNat - 0+(1+((wB a a_13.i).length - (↑a_23:Int).toNat))/\RowsEq (wB a a'.i).length 4 (appRows (encRows encItem (wB a a_13.i)) 0 ((↑a_23:Int).toNat - 0) fun (i j:Nat)=>appRows (flatRows 4 [Value.string (gl (List.map cutI (List.take 8 a_4.xs)) (0+(↑a_13.i:Int).toNat)).key,Value.string (gl (List.map cutI (List.take 8 a_4.xs)) (0+(↑a_13.i:Int).toNat)).val,Value.int IntKind.i64 (gl (List.map cutI (List.take 8 a_4.xs)) (0+(↑a_13.i:Int).toNat)).e,Value.bool (gl (List.map cutI (List.take 8 a_4.xs)) (0+(↑a_13.i:Int).toNat)).gone]) 0 1 (fun (i j:Nat)=>encRows encItem (wB a a_13.i) (0+(↑a_23:Int).toNat+i) j) (0+i) j) (encRows encItem (wB a a'.i)))/\b_3.H=a'.p.H/\0=0/\0=0/\0=0/\logQ (putF a_16.m a_16.x).L (putsX (xsB a) a'.i).L b_3.y.lv a'.p.y.lv ((0=0/\b_3.x.t.length=a'.p.x.t.length /\
 b_3.cap=a'.p.cap)/\(↑b_3.x.n:Int)=(↑a'.p.x.n:Int)/\(↑b_3.x.used:Int)=(↑a'.p.x.used:Int)/\devQ (putF a_16.m a_16.x).d (putsX (xsB a) a'.i).d (((List.map cutI (List.take 8 a_4.xs)).length<=(List.map cutI (List.take 8 a_4.xs)).length/\RowsEq (List.map cutI (List.take 8 a_4.xs)).length 4 (encRows encItem (List.map cutI (List.take 8 a_4.xs))) (encRows encItem (List.map cutI (List.take 8 a_4.xs))))/\(a'.p.x.t.length<=b_3.x.t.length/\RowsEq a'.p.x.t.length 4 (encRows Ix.encP b_3.x.t) (encRows Ix.encP a'.p.x.t))/\(a.ln<=a.ln/\RowsEq a.ln 4 a.l a.l)/\(a'.i<=(xsB a).length/\FlAt (putsX (xsB a) a'.i) a'.p/\(wB a a'.i).length<=a'.cap)/\(xsB a).length - a'.i<(xsB a).length - a_13.i)))))/\(decide ((↑a_23:Int)<(↑(wB a a_13.i).length:Int))=false->(decide ((↑a_23:Int)<(↑(wB a a_13.i).length:Int))=true->(0<=(↑a_23:Int)/\(↑a_23:Int)<(↑(wB a a_13.i).length:Int))/\0+(↑a_23:Int).toNat<(wB a a_13.i).length/\(0<=(↑a_13.i:Int)/\(↑a_13.i:Int)<(↑(List.map cutI (List.take 8 a_4.xs)).length:Int))/\0+(↑a_13.i:Int).toNat<(List.map cutI (List.take 8 a_4.xs)).length/\(decide ((gl (wB a a_13.i) (0+(↑a_23:Int).toNat)).key=(gl (List.map cutI (List.take 8 a_4.xs)) (0+(↑a_13.i:Int).toNat)).key)=true->(0<=(↑a_13.i:Int)/\(↑a_13.i:Int)<(↑(List.map cutI (List.take 8 a_4.xs)).length:Int))/\0+(↑a_13.i:Int).toNat<(List.map cutI (List.take 8 a_4.xs)).length/\(0<=(↑a_23:Int)/\(↑a_23:Int)<(↑(wB a a_13.i).length:Int)) /\
 0+(↑a_23:Int).toNat<(wB a a_13.i).length/\InR .i64 ((↑a_13.i:Int)+1)/\∃ (a':FBtwS),(↑a_13.i:Int)+1=(↑a'.i:Int)/\(0=0/\(wB a a_13.i).length=(wB a a'.i).length/\a_13.cap=a'.cap)/\decide ((10:Int)<a.n)=decide ((10:Int)<a.n)/\(0:Int)=0/\0=0/\(0=0/\(List.map cutI (List.take 8 a_4.xs)).length=(List.map cutI (List.take 8 a_4.xs)).length/\b=b)/\false=false/\true=true/\false=false/\a.from_=a.from_/\a.to=a.to/\a.n=a.n/\((wB a a'.i).length<=(wB a a_13.i).length/\RowsEq (wB a a'.i).length 4 (updR (encRows encItem (wB a a_13.i)) (0+(↑a_23:Int).toNat) 0 [Value.string (gl (List.map cutI (List.take 8 a_4.xs)) (0+(↑a_13.i:Int).toNat)).key,Value.string (gl (List.map cutI (List.take 8 a_4.xs)) (0+(↑a_13.i:Int).toNat)).val,Value.int IntKind.i64 (gl (List.map cutI (List.take 8 a_4.xs)) (0+(↑a_13.i:Int).toNat)).e,Value.bool (gl (List.map cutI (List.take 8 a_4.xs)) (0+(↑a_13.i:Int).toNat)).gone]) (encRows encItem (wB a a'.i)))/\b_3.H=a'.p.H/\0=0/\0=0/\0=0/\logQ (putF a_16.m a_16.x).L (putsX (xsB a) a'.i).L b_3.y.lv a'.p.y.lv ((0=0/\b_3.x.t.length=a'.p.x.t.length/\b_3.cap=a'.p.cap)/\(↑b_3.x.n:Int)=(↑a'.p.x.n:Int)/\(↑b_3.x.used:Int)=(↑a'.p.x.used:Int)/\devQ (putF a_16.m a_16.x).d (putsX (xsB a) a'.i).d (((List.map cutI (List.take 8 a_4.xs)).length<=(List.map cutI (List.take 8 a_4.xs)).length/\RowsEq (List.map cutI (List.take 8 a_4.xs)).length 4 (encRows encItem (List.map cutI (List.take 8 a_4.xs))) (encRows encItem (List.map cutI (List.take 8 a_4.xs)))) /\
 (a'.p.x.t.length<=b_3.x.t.length/\RowsEq a'.p.x.t.length 4 (encRows Ix.encP b_3.x.t) (encRows Ix.encP a'.p.x.t))/\(a.ln<=a.ln/\RowsEq a.ln 4 a.l a.l)/\(a'.i<=(xsB a).length/\FlAt (putsX (xsB a) a'.i) a'.p/\(wB a a'.i).length<=a'.cap)/\(xsB a).length - a'.i<(xsB a).length - a_13.i)))/\(decide ((gl (wB a a_13.i) (0+(↑a_23:Int).toNat)).key=(gl (List.map cutI (List.take 8 a_4.xs)) (0+(↑a_13.i:Int).toNat)).key)=false->(0<=(↑a_23:Int)/\(↑a_23:Int)<=(↑a_13.cap:Int))/\(0<=(↑a_23:Int)/\(↑a_23:Int)<=(↑(↑a_23:Int).toNat:Int))/\(0<=(↑a_13.i:Int)/\(↑a_13.i:Int)<(↑(List.map cutI (List.take 8 a_4.xs)).length:Int))/\0+(↑a_13.i:Int).toNat<(List.map cutI (List.take 8 a_4.xs)).length/\(0<=(↑a_23:Int)/\(↑a_23:Int)<=(↑(wB a a_13.i).length:Int))/\1<=1/\0+(↑a_23:Int).toNat+((wB a a_13.i).length - (↑a_23:Int).toNat)<=(wB a a_13.i).length/\(1+((wB a a_13.i).length - (↑a_23:Int).toNat))*48<=140737488355328/\∀ cap:Nat,1+((wB a a_13.i).length - (↑a_23:Int).toNat)<=cap->cap<=lenMax->(1+((wB a a_13.i).length - (↑a_23:Int).toNat)<=1->cap=1)->0+((↑a_23:Int).toNat - 0)<=(wB a a_13.i).length/\0+(1+((wB a a_13.i).length - (↑a_23:Int).toNat))<=1+((wB a a_13.i).length - (↑a_23:Int).toNat)/\((↑a_23:Int).toNat - 0+(1+((wB a a_13.i).length - (↑a_23:Int).toNat)))*48<=140737488355328/\∀ cap:Nat,(↑a_23:Int).toNat - 0+(1+((wB a a_13.i).length - (↑a_23:Int).toNat))<=cap ->
 cap<=lenMax->((↑a_23:Int).toNat - 0+(1+((wB a a_13.i).length - (↑a_23:Int).toNat))<=(↑a_23:Int).toNat - 0->cap=(↑a_23:Int).toNat - 0)->InR .i64 ((↑a_13.i:Int)+1)/\∃ (a':FBtwS),(↑a_13.i:Int)+1=(↑a'.i:Int)/\(0=0/\(↑a_23:Int).toNat - 0+(1+((wB a a_13.i).length - (↑a_23:Int).toNat))=(wB a a'.i).length/\cap=a'.cap)/\decide ((10:Int)<a.n)=decide ((10:Int)<a.n)/\(0:Int)=0/\0=0/\(0=0/\(List.map cutI (List.take 8 a_4.xs)).length=(List.map cutI (List.take 8 a_4.xs)).length/\b=b)/\false=false/\true=true/\false=false/\a.from_=a.from_/\a.to=a.to/\a.n=a.n/\((wB a a'.i).length<=(↑a_23:Int).toNat - 0+(1+((wB a a_13.i).length - (↑a_23:Int).toNat))/\RowsEq (wB a a'.i).length 4 (appRows (encRows encItem (wB a a_13.i)) 0 ((↑a_23:Int).toNat - 0) fun (i j:Nat)=>appRows (flatRows 4 [Value.string (gl (List.map cutI (List.take 8 a_4.xs)) (0+(↑a_13.i:Int).toNat)).key,Value.string (gl (List.map cutI (List.take 8 a_4.xs)) (0+(↑a_13.i:Int).toNat)).val,Value.int IntKind.i64 (gl (List.map cutI (List.take 8 a_4.xs)) (0+(↑a_13.i:Int).toNat)).e,Value.bool (gl (List.map cutI (List.take 8 a_4.xs)) (0+(↑a_13.i:Int).toNat)).gone]) 0 1 (fun (i j:Nat)=>encRows encItem (wB a a_13.i) (0+(↑a_23:Int).toNat+i) j) (0+i) j) (encRows encItem (wB a a'.i)))/\b_3.H=a'.p.H/\0=0/\0=0/\0=0/\logQ (putF a_16.m a_16.x).L (putsX (xsB a) a'.i).L b_3.y.lv a'.p.y.lv ((0=0/\b_3.x.t.length=a'.p.x.t.length /\
 b_3.cap=a'.p.cap)/\(↑b_3.x.n:Int)=(↑a'.p.x.n:Int)/\(↑b_3.x.used:Int)=(↑a'.p.x.used:Int)/\devQ (putF a_16.m a_16.x).d (putsX (xsB a) a'.i).d (((List.map cutI (List.take 8 a_4.xs)).length<=(List.map cutI (List.take 8 a_4.xs)).length/\RowsEq (List.map cutI (List.take 8 a_4.xs)).length 4 (encRows encItem (List.map cutI (List.take 8 a_4.xs))) (encRows encItem (List.map cutI (List.take 8 a_4.xs))))/\(a'.p.x.t.length<=b_3.x.t.length/\RowsEq a'.p.x.t.length 4 (encRows Ix.encP b_3.x.t) (encRows Ix.encP a'.p.x.t))/\(a.ln<=a.ln/\RowsEq a.ln 4 a.l a.l)/\(a'.i<=(xsB a).length/\FlAt (putsX (xsB a) a'.i) a'.p/\(wB a a'.i).length<=a'.cap)/\(xsB a).length - a'.i<(xsB a).length - a_13.i))))/\(decide ((↑a_23:Int)<(↑(wB a a_13.i).length:Int))=false->(0<=(↑a_23:Int)/\(↑a_23:Int)<=(↑a_13.cap:Int))/\(0<=(↑a_23:Int)/\(↑a_23:Int)<=(↑(↑a_23:Int).toNat:Int))/\(0<=(↑a_13.i:Int)/\(↑a_13.i:Int)<(↑(List.map cutI (List.take 8 a_4.xs)).length:Int))/\0+(↑a_13.i:Int).toNat<(List.map cutI (List.take 8 a_4.xs)).length/\(0<=(↑a_23:Int)/\(↑a_23:Int)<=(↑(wB a a_13.i).length:Int))/\1<=1/\0+(↑a_23:Int).toNat+((wB a a_13.i).length - (↑a_23:Int).toNat)<=(wB a a_13.i).length/\(1+((wB a a_13.i).length - (↑a_23:Int).toNat))*48<=140737488355328/\∀ cap:Nat,1+((wB a a_13.i).length - (↑a_23:Int).toNat)<=cap->cap<=lenMax->(1+((wB a a_13.i).length - (↑a_23:Int).toNat)<=1->cap=1)->0+((↑a_23:Int).toNat - 0)<=(wB a a_13.i).length /\
 0+(1+((wB a a_13.i).length - (↑a_23:Int).toNat))<=1+((wB a a_13.i).length - (↑a_23:Int).toNat)/\((↑a_23:Int).toNat - 0+(1+((wB a a_13.i).length - (↑a_23:Int).toNat)))*48<=140737488355328/\∀ cap:Nat,(↑a_23:Int).toNat - 0+(1+((wB a a_13.i).length - (↑a_23:Int).toNat))<=cap->cap<=lenMax->((↑a_23:Int).toNat - 0+(1+((wB a a_13.i).length - (↑a_23:Int).toNat))<=(↑a_23:Int).toNat - 0->cap=(↑a_23:Int).toNat - 0)->InR .i64 ((↑a_13.i:Int)+1)/\∃ (a':FBtwS),(↑a_13.i:Int)+1=(↑a'.i:Int)/\(0=0/\(↑a_23:Int).toNat - 0+(1+((wB a a_13.i).length - (↑a_23:Int).toNat))=(wB a a'.i).length/\cap=a'.cap)/\decide ((10:Int)<a.n)=decide ((10:Int)<a.n)/\(0:Int)=0/\0=0/\(0=0/\(List.map cutI (List.take 8 a_4.xs)).length=(List.map cutI (List.take 8 a_4.xs)).length/\b=b)/\false=false/\true=true/\false=false/\a.from_=a.from_/\a.to=a.to/\a.n=a.n/\((wB a a'.i).length<=(↑a_23:Int).toNat - 0+(1+((wB a a_13.i).length - (↑a_23:Int).toNat))/\RowsEq (wB a a'.i).length 4 (appRows (encRows encItem (wB a a_13.i)) 0 ((↑a_23:Int).toNat - 0) fun (i j:Nat)=>appRows (flatRows 4 [Value.string (gl (List.map cutI (List.take 8 a_4.xs)) (0+(↑a_13.i:Int).toNat)).key,Value.string (gl (List.map cutI (List.take 8 a_4.xs)) (0+(↑a_13.i:Int).toNat)).val,Value.int IntKind.i64 (gl (List.map cutI (List.take 8 a_4.xs)) (0+(↑a_13.i:Int).toNat)).e,Value.bool (gl (List.map cutI (List.take 8 a_4.xs)) (0+(↑a_13.i:Int).toNat)).gone]) 0 1 (fun (i j:Nat)=>encRows encItem (wB a a_13.i) (0+(↑a_23:Int).toNat+i) j) (0+i) j) (encRows encItem (wB a a'.i))) /\
 b_3.H=a'.p.H/\0=0/\0=0/\0=0/\logQ (putF a_16.m a_16.x).L (putsX (xsB a) a'.i).L b_3.y.lv a'.p.y.lv ((0=0/\b_3.x.t.length=a'.p.x.t.length/\b_3.cap=a'.p.cap)/\(↑b_3.x.n:Int)=(↑a'.p.x.n:Int)/\(↑b_3.x.used:Int)=(↑a'.p.x.used:Int)/\devQ (putF a_16.m a_16.x).d (putsX (xsB a) a'.i).d (((List.map cutI (List.take 8 a_4.xs)).length<=(List.map cutI (List.take 8 a_4.xs)).length/\RowsEq (List.map cutI (List.take 8 a_4.xs)).length 4 (encRows encItem (List.map cutI (List.take 8 a_4.xs))) (encRows encItem (List.map cutI (List.take 8 a_4.xs))))/\(a'.p.x.t.length<=b_3.x.t.length/\RowsEq a'.p.x.t.length 4 (encRows Ix.encP b_3.x.t) (encRows Ix.encP a'.p.x.t))/\(a.ln<=a.ln/\RowsEq a.ln 4 a.l a.l)/\(a'.i<=(xsB a).length/\FlAt (putsX (xsB a) a'.i) a'.p/\(wB a a'.i).length<=a'.cap)/\(xsB a).length - a'.i<(xsB a).length - a_13.i)))))))))))/\(decide ((↑a_13.i:Int)<(↑(List.map cutI (List.take 8 a_4.xs)).length:Int))=false->(∃ a_16:FBtwT,(ByteArray.mk #[])=afterB (wB a (xsB a).length) a_16.g/\(0=(List.take a_16.g (wB a (xsB a).length)).length/\0=a_16.c1)/\decide ((↑a_13.i:Int)<(↑(List.map cutI (List.take 8 a_4.xs)).length:Int))=decide ((↑a_13.i:Int)<(↑(List.map cutI (List.take 8 a_4.xs)).length:Int))/\(↑a_13.i:Int)=(↑a_13.i:Int)/\(0=0/\(wB a a_13.i).length=(wB a a_13.i).length/\a_13.cap=a_13.cap)/\decide ((10:Int)<a.n)=decide ((10:Int)<a.n)/\(0:Int)=0/\0=0/\(0=0/\(List.map cutI (List.take 8 a_4.xs)).length=(List.map cutI (List.take 8 a_4.xs)).length /\
 b=b)/\false=false/\true=true/\false=false/\a.from_=a.from_/\a.to=a.to/\a.n=a.n/\(List.take a_16.g (wB a (xsB a).length)).length=0/\((wB a a_13.i).length<=(wB a a_13.i).length/\RowsEq (wB a a_13.i).length 4 (encRows encItem (wB a a_13.i)) (encRows encItem (wB a a_13.i)))/\a_13.p.H=a_13.p.H/\0=0/\0=0/\0=0/\logQ (putsX (xsB a) a_13.i).L (putsX (xsB a) a_13.i).L a_13.p.y.lv a_13.p.y.lv ((0=0/\a_13.p.x.t.length=a_13.p.x.t.length/\a_13.p.cap=a_13.p.cap)/\(↑a_13.p.x.n:Int)=(↑a_13.p.x.n:Int)/\(↑a_13.p.x.used:Int)=(↑a_13.p.x.used:Int)/\devQ (putsX (xsB a) a_13.i).d (putsX (xsB a) a_13.i).d (((List.map cutI (List.take 8 a_4.xs)).length<=(List.map cutI (List.take 8 a_4.xs)).length/\RowsEq (List.map cutI (List.take 8 a_4.xs)).length 4 (encRows encItem (List.map cutI (List.take 8 a_4.xs))) (encRows encItem (List.map cutI (List.take 8 a_4.xs))))/\(a_13.p.x.t.length<=a_13.p.x.t.length/\RowsEq a_13.p.x.t.length 4 (encRows Ix.encP a_13.p.x.t) (encRows Ix.encP a_13.p.x.t))/\(a.ln<=a.ln/\RowsEq a.ln 4 a.l a.l)/\a_16.g<=(wB a (xsB a).length).length/\True)))/\∀ a_16:FBtwT,a_16.g<=(wB a (xsB a).length).length->∃ a_18:BtwA,0=0/\a.from_=a_18.from_/\a.to=a_18.to/\afterB (wB a (xsB a).length) a_16.g=a_18.after/\a.n=a_18.n/\0=0/\0=0/\0=0/\logQ (putsX (xsB a) a_13.i).L a_18.m.L a_13.p.y.lv a_18.p.y.lv (devQ (putsX (xsB a) a_13.i).d a_18.m.d (idxQ a_13.p.x a_18.p.x a_13.p.cap a_18.p.cap (a_13.p.H=a_18.p.H /\
 (FlAt a_18.m a_18.p/\FlRd a_18.m/\(∀ k:ByteArray,k∈keysA a_18->EntIs a_18.m k (a_18.get k)/\k.size<=1000)/\a_18.p.x.t.length<100000)/\∀ b_3:BtwB,b_3.i<=(keysA a_18).length/\(b_3.i=(keysA a_18).length\/a_18.n<=(↑(selTo a_18 b_3.i).length:Int))/\(↑(selTo a_18 b_3.i).length:Int)<=max a_18.n (0:Int)->(decide (a.n<(↑(selTo a_18 b_3.i).length:Int))=true->∃ b:Unit,false=true/\True/\True)/\(decide (a.n<(↑(selTo a_18 b_3.i).length:Int))=false->(decide (20<(↑(List.take a_16.g (wB a (xsB a).length)).length:Int))=true->∃ b:Unit,false=true/\True/\True)/\(decide (20<(↑(List.take a_16.g (wB a (xsB a).length)).length:Int))=false->(((↑(selTo a_18 b_3.i).length:Int) == 0)=true->∃ a_23:EqsA,(0=0/\(List.take a_16.g (wB a (xsB a).length)).length=a_23.xs.length/\a_16.c1=a_23.c1)/\(0=0/\(wB a a_13.i).length=a_23.xs.length/\a_13.cap=a_23.c2)/\(a_23.xs.length<=(List.take a_16.g (wB a (xsB a).length)).length/\RowsEq a_23.xs.length 4 (encRows encItem (List.take a_16.g (wB a (xsB a).length))) (encRows encItem a_23.xs))/\(a_23.xs.length<=(wB a a_13.i).length/\RowsEq a_23.xs.length 4 (encRows encItem (wB a a_13.i)) (encRows encItem a_23.xs))/\a_23.xs.length<1000/\∀ b:Unit,True->∃ b:Unit,true=true/\True/\True)/\(((↑(selTo a_18 b_3.i).length:Int) == 0)=false->0+(List.take a_16.g (wB a (xsB a).length)).length<=(List.take a_16.g (wB a (xsB a).length)).length/\0+(selTo a_18 b_3.i).length<=(selTo a_18 b_3.i).length /\
 ((List.take a_16.g (wB a (xsB a).length)).length+(selTo a_18 b_3.i).length)*48<=140737488355328/\∀ cap:Nat,(List.take a_16.g (wB a (xsB a).length)).length+(selTo a_18 b_3.i).length<=cap->cap<=lenMax->((List.take a_16.g (wB a (xsB a).length)).length+(selTo a_18 b_3.i).length<=a_16.c1->cap=a_16.c1)->InR .i64 ((↑(selTo a_18 b_3.i).length:Int) - 1)/\(0<=(↑(selTo a_18 b_3.i).length:Int) - 1/\(↑(selTo a_18 b_3.i).length:Int) - 1<(↑(selTo a_18 b_3.i).length:Int))/\0+((↑(selTo a_18 b_3.i).length:Int) - 1).toNat<(selTo a_18 b_3.i).length/\∃ (a':FBtwT),(gl (selTo a_18 b_3.i) (0+((↑(selTo a_18 b_3.i).length:Int) - 1).toNat)).key=afterB (wB a (xsB a).length) a'.g/\(0=0/\(List.take a_16.g (wB a (xsB a).length)).length+(selTo a_18 b_3.i).length=(List.take a'.g (wB a (xsB a).length)).length/\cap=a'.c1)/\decide ((↑a_13.i:Int)<(↑(List.map cutI (List.take 8 a_4.xs)).length:Int))=decide ((↑a_13.i:Int)<(↑(List.map cutI (List.take 8 a_4.xs)).length:Int))/\(↑a_13.i:Int)=(↑a_13.i:Int)/\(0=0/\(wB a a_13.i).length=(wB a a_13.i).length/\a_13.cap=a_13.cap)/\decide ((10:Int)<a.n)=decide ((10:Int)<a.n)/\(0:Int)=0/\0=0/\(0=0/\(List.map cutI (List.take 8 a_4.xs)).length=(List.map cutI (List.take 8 a_4.xs)).length/\b=b)/\false=false/\true=true/\false=false/\a.from_=a.from_/\a.to=a.to/\a.n=a.n/\((List.take a'.g (wB a (xsB a).length)).length<=(List.take a_16.g (wB a (xsB a).length)).length+(selTo a_18 b_3.i).length /\
 RowsEq (List.take a'.g (wB a (xsB a).length)).length 4 (appRows (encRows encItem (List.take a_16.g (wB a (xsB a).length))) 0 (List.take a_16.g (wB a (xsB a).length)).length fun (i j:Nat)=>encRows encItem (selTo a_18 b_3.i) (0+i) j) (encRows encItem (List.take a'.g (wB a (xsB a).length))))/\((wB a a_13.i).length<=(wB a a_13.i).length/\RowsEq (wB a a_13.i).length 4 (encRows encItem (wB a a_13.i)) (encRows encItem (wB a a_13.i)))/\a_13.p.H=a_13.p.H/\0=0/\0=0/\0=0/\logQ (putsX (xsB a) a_13.i).L (putsX (xsB a) a_13.i).L a_13.p.y.lv a_13.p.y.lv ((0=0/\a_13.p.x.t.length=a_13.p.x.t.length/\a_13.p.cap=a_13.p.cap)/\(↑a_13.p.x.n:Int)=(↑a_13.p.x.n:Int)/\(↑a_13.p.x.used:Int)=(↑a_13.p.x.used:Int)/\devQ (putsX (xsB a) a_13.i).d (putsX (xsB a) a_13.i).d (((List.map cutI (List.take 8 a_4.xs)).length<=(List.map cutI (List.take 8 a_4.xs)).length/\RowsEq (List.map cutI (List.take 8 a_4.xs)).length 4 (encRows encItem (List.map cutI (List.take 8 a_4.xs))) (encRows encItem (List.map cutI (List.take 8 a_4.xs))))/\(a_13.p.x.t.length<=a_13.p.x.t.length/\RowsEq a_13.p.x.t.length 4 (encRows Ix.encP a_13.p.x.t) (encRows Ix.encP a_13.p.x.t))/\(a.ln<=a.ln/\RowsEq a.ln 4 a.l a.l)/\a'.g<=(wB a (xsB a).length).length/\(wB a (xsB a).length).length - a'.g<(wB a (xsB a).length).length - a_16.g)))))))))))))) (by kernel_rfl) (by
 rintro a ⟨g1,g2,g3,g4,g5,g6⟩;have hx0:(xs0 a).length=a.ln:=by simp [xs0]
 have hxl:(xsB a).length<=8:=by unfold xsB;rw [List.length_map,List.length_take];omega
 have hr1:RowsEq (xs0 a).length 4 a.l (encRows encItem (xs0 a)):=by rw [hx0];exact g3.ok
 have hpre1:(xs0 a).length<=a.lc:=by omega
 obtain ⟨o1,o2⟩:=open_new (fr:=0) (sg:=40) (n:=320) (by omega) (by decide) (fun _=>none);obtain ⟨oa,hoa⟩:∃ oa:FOpenA,oa=⟨fun _=>none,devNew 320,0,40,[]⟩:=⟨_,rfl⟩
 have o2:opnF oa=m0B:=by rw [hoa];exact o2
 have o1:(OpenOk oa.from_ oa.segs oa.d/\EsOk oa.es (allR (openM oa.from_ oa.segs oa.d).l)/\∀ i:Nat,i<(openM oa.from_ oa.segs oa.d).l.length->(gl (openM oa.from_ oa.segs oa.d).l i).recs.length<=400):=by rw [hoa];exact o1
 have o3:(fun _=>none)=oa.H/\0=(oa.from_:Int)/\40=(oa.segs:Int)/\devNew 320=oa.d:=by rw [hoa];exact ⟨rfl,rfl,rfl,rfl⟩
 refine ⟨(),trivial,fun _ _=>⟨ItsA.mk (xs0 a) a.lc,?_⟩⟩
 (repeat' apply And.intro)<;>first|with_reducible (first|rfl|trivial|assumption)|exact hx0.symm|exact hr1|exact hpre1|exact g2|(intro h_;revert h_)|omega|with_reducible exact RowsEq.refl _ _ _|rfl|exact RowsEq.refl _ _ _|exact Nat.le_refl _|(dsimp only;omega)|skip
 intro b _;rw [show List.map cutI (List.take 8 (ItsA.mk (xs0 a) a.lc).xs)=xsB a from rfl];refine ⟨320,rfl,trivial,fun _ _=>⟨oa,?_⟩⟩;rw [o2,<- o3.2.2.2]
 (repeat' apply And.intro)<;>first|with_reducible (first|rfl|trivial|assumption)|exact o3.1|exact o3.2.1|exact o3.2.2.1|exact o1.1|exact o1.2.1|exact o1.2.2|exact (o3.2.2.2▸o1.1)|exact (o3.2.2.2▸o1.2.1)|exact (o3.2.2.2▸o1.2.2)|(intro h_;revert h_)|omega|with_reducible exact RowsEq.refl _ _ _|rfl|exact RowsEq.refl _ _ _|exact Nat.le_refl _|(dsimp only;omega)|skip
 rintro p1 ⟨hat1,hf1⟩;clear hoa;refine ⟨fun c=>absurd c (by decide),fun _=>⟨fun _=>⟨(),rfl,trivial,trivial⟩,fun c1=>⟨fun _=>⟨(),rfl,trivial,trivial⟩,fun c2=>⟨⟨⟨0,p1,0⟩,?_⟩,fun x hx=>?_⟩⟩⟩⟩
 ·(repeat' apply And.intro)<;>first|with_reducible (first|rfl|trivial|assumption)|exact hat1|exact Nat.zero_le _|exact Nat.le_refl _|(intro h_;revert h_)|omega|with_reducible exact RowsEq.refl _ _ _|rfl|exact RowsEq.refl _ _ _|exact Nat.le_refl _|(dsimp only;omega)|skip
 obtain ⟨hi,hat,hcap⟩:=hx;have c1:=of_decide_eq_false c1;have c2:=of_decide_eq_false c2;obtain ⟨hA,hN⟩:=putsX_ok (xs:=xsB a) x.i (by omega) hi;refine ⟨fun c3=>?_,fun c3=>?_⟩
 ·have c3:=of_decide_eq_true c3;have hil:x.i<(xsB a).length:=by omega
  rw [show 0+(x.i:Int).toNat=x.i by omega];obtain ⟨X,hXX⟩:∃ X,X=gl (xsB a) x.i:=⟨_,rfl⟩
  have hput:putsX (xsB a) (x.i+1)=putF (putsX (xsB a) x.i) X:=by rw [hXX];rfl
  have hwant:wB a (x.i+1)=if putOk X&&hinB a.from_ a.to X.key then insW (wB a x.i) X else wB a x.i:=by rw [hXX];rfl
  have hwl:=want_len a.from_ a.to (xsB a) x.i;have hwl:(wB a x.i).length<=x.i:=hwl;have hi2:x.i+1<=(xsB a).length:=hil;have hok:FlOk (putsX (xsB a) x.i) (bodyOf (some X)).length:=hA.ok (by omega) (by omega);have hks:X.key.size<=lenMax:=by
   have hm:X∈xsB a:=by rw [hXX];exact gl_mem hil
   unfold xsB at hm;obtain ⟨z,_,rfl⟩:=List.mem_map.1 hm;show (cutB z.key 50).size<=lenMax;unfold cutB;split
   ·rw [ByteArray.size_extract];simp only [lenMax];omega
   ·simp only [lenMax];omega
  rw [<- hXX];refine ⟨⟨by omega,by omega⟩,hil,FPutA.mk (putsX (xsB a) x.i) x.p X,?_⟩
  (repeat' apply And.intro)<;>first|with_reducible (first|rfl|trivial|assumption)|exact hat|exact fun _=>hok|(intro h_;revert h_)|omega|with_reducible exact RowsEq.refl _ _ _|rfl|exact RowsEq.refl _ _ _|exact Nat.le_refl _|(dsimp only;omega)|skip
  rintro p2 ⟨hat2,hf2⟩;have hat2:FlAt (putF (putsX (xsB a) x.i) X) p2:=hat2;by_cases hp:putOk X=true
  ·rw [hp];refine ⟨fun c=>absurd c (by decide),fun _=>⟨⟨by omega,by omega⟩,hil,?_⟩⟩;have hr:RowsEq 1 1 (flatRows 1 [Value.string X.key]) fun (i x:Nat)=>Value.string X.key:=.of_cells fun i hi=>by
    have:i=0:=by omega
    subst this;rfl
   refine ⟨Ix.OfA.mk (fun _=>X.key) 1 1,?_⟩
   (repeat' apply And.intro)<;>first|with_reducible (first|rfl|trivial|assumption)|exact hr|exact fun _ _=>hks|(intro h_;revert h_)|omega|with_reducible exact RowsEq.refl _ _ _|rfl|exact RowsEq.refl _ _ _|exact Nat.le_refl _|(dsimp only;omega)|skip
   intro _ _;rw [show Ix.hashG (Ix.OfA.mk (fun _=>X.key) 1 1).g (Ix.OfA.mk (fun _=>X.key) 1 1).n=hashK X.key from rfl];rw [hp,Bool.true_and] at hwant;refine ⟨fun c4=>?_,fun c4=>⟨fun c5=>?_,fun c5=>⟨⟨0,?_⟩,fun k hk=>?_⟩⟩⟩
   ·have hh:hinB a.from_ a.to X.key=false:=by unfold hinB;rw [c4];rfl
    rw [hh] at hwant;have hw2:wB a (x.i+1)=wB a x.i:=hwant;refine ⟨by simp only [InR];omega,⟨x.i+1,p2,x.cap⟩,?_⟩;dsimp only;rw [hw2,hput]
    (repeat' apply And.intro)<;>first|with_reducible (first|rfl|trivial|assumption)|exact hat2|exact hi2|exact hcap|(intro h_;revert h_)|omega|with_reducible exact RowsEq.refl _ _ _|rfl|exact RowsEq.refl _ _ _|exact Nat.le_refl _|(dsimp only;omega)|skip
   ·have hh:hinB a.from_ a.to X.key=false:=by unfold hinB;rw [c5];simp
    rw [hh] at hwant;have hw2:wB a (x.i+1)=wB a x.i:=hwant;refine ⟨by simp only [InR];omega,⟨x.i+1,p2,x.cap⟩,?_⟩;dsimp only;rw [hw2,hput]
    (repeat' apply And.intro)<;>first|with_reducible (first|rfl|trivial|assumption)|exact hat2|exact hi2|exact hcap|(intro h_;revert h_)|omega|with_reducible exact RowsEq.refl _ _ _|rfl|exact RowsEq.refl _ _ _|exact Nat.le_refl _|(dsimp only;omega)|skip
   ·(repeat' apply And.intro)<;>first|with_reducible (first|rfl|trivial|assumption)|exact Nat.zero_le _|(intro h_;revert h_)|omega|with_reducible exact RowsEq.refl _ _ _|rfl|exact RowsEq.refl _ _ _|exact Nat.le_refl _|(dsimp only;omega)|skip
   ·have hh:hinB a.from_ a.to X.key=true:=by unfold hinB;rw [c4,c5];rfl
    rw [hh] at hwant;have hw2:wB a (x.i+1)=insW (wB a x.i) X:=hwant;have hk:k<=posW (wB a x.i) X.key:=hk;have hpl:=posW_le (wB a x.i) X.key;rw [show 0+(k:Int).toNat=k by omega];have less:∀ u v:ByteArray,Go.Op.bytesLess u.toList v.toList=Ix.ltB u v:=fun _ _=>rfl;rw [less];refine ⟨fun d1=>⟨⟨by omega,by have:=of_decide_eq_true d1;omega⟩,by have:=of_decide_eq_true d1;omega,⟨by omega,by omega⟩,hil,fun d2=>?_,fun d2=>?_⟩,fun d1=>?_⟩
    ·have d1:=of_decide_eq_true d1;have hk2:k+1<=posW (wB a x.i) X.key:=by
      have:k≠posW (wB a x.i) X.key:=fun e=>by
       have:=posW_at (w:=wB a x.i) (k:=X.key) (by omega);rw [<- e,d2] at this;cases this
      omega
     have hm2:(wB a x.i).length - (k+1)<(wB a x.i).length - k:=by omega
     refine ⟨by simp only [InR];omega,k+1,?_⟩
     (repeat' apply And.intro)<;>first|with_reducible (first|rfl|trivial|assumption)|exact hk2|exact hm2|(intro h_;revert h_)|omega|with_reducible exact RowsEq.refl _ _ _|rfl|exact RowsEq.refl _ _ _|exact Nat.le_refl _|(dsimp only;omega)|skip
    ·have d1:=of_decide_eq_true d1;have hkp:k=posW (wB a x.i) X.key:=by
      rcases Nat.lt_or_ge k (posW (wB a x.i) X.key) with h|h
      ·have:=posW_lt h;rw [d2] at this;cases this
      ·omega
     refine ⟨fun _=>⟨⟨by omega,by omega⟩,by omega,⟨by omega,by omega⟩,hil,fun d3=>?_,fun d3=>?_⟩,fun d=>absurd d (by simp;omega)⟩
     ·have d3:=of_decide_eq_true d3;obtain ⟨W,hW⟩:∃ W,W=wB a (x.i+1):=⟨_,rfl⟩
      have hW2:W=(wB a x.i).set k X:=by rw [hW,hw2];exact ins_set hkp (by omega) d3
      have hWl:W.length=(wB a x.i).length:=by rw [hW2,List.length_set]
      have hr:RowsEq W.length 4 (updR (encRows encItem (wB a x.i)) k 0 [Value.string X.key,Value.string X.val,Value.int .i64 X.e,Value.bool X.gone]) (encRows encItem W):=by
       rw [hW2];exact RowsEq.set k (by omega) (fun i hi=>updR_other hi) (by rw [updR_self];rfl)
      refine ⟨⟨by omega,by omega⟩,hil,⟨by omega,by omega⟩,by omega,by simp only [InR];omega,⟨x.i+1,p2,x.cap⟩,?_⟩;dsimp only;rw [<- hW,hput]
      (repeat' apply And.intro)<;>first|with_reducible (first|rfl|trivial|assumption)|exact hat2|exact hi2|exact hr|(intro h_;revert h_)|omega|with_reducible exact RowsEq.refl _ _ _|rfl|exact RowsEq.refl _ _ _|exact Nat.le_refl _|(dsimp only;omega)|skip
     ·have d3:=of_decide_eq_false d3;obtain ⟨W,hW⟩:∃ W,W=wB a (x.i+1):=⟨_,rfl⟩
      have hW2:W=(wB a x.i).take k++X::(wB a x.i).drop k:=by rw [hW,hw2];exact ins_app hkp (by exact fun _=>d3)
      have hWl:W.length=(wB a x.i).length+1:=by rw [hW2];simp only [List.length_append,List.length_take,List.length_cons,List.length_drop];omega
      have hr:=rows_ins (X:=X) (show k<=(wB a x.i).length by omega);rw [<- hW2] at hr;rw [show (k:Int).toNat=k by omega];refine ⟨⟨by omega,by omega⟩,⟨by omega,by omega⟩,⟨by omega,by omega⟩,hil,⟨by omega,by omega⟩,by omega,by omega,by omega,fun cap1 q1 q2 q3=>⟨by omega,by omega,by omega,fun cap2 w1 w2 w3=>⟨by simp only [InR];omega,⟨x.i+1,p2,cap2⟩,?_⟩⟩⟩;dsimp only;rw [<- hW,hput]
      (repeat' apply And.intro)<;>first|with_reducible (first|rfl|trivial|assumption)|exact hat2|exact hi2|exact hr|(intro h_;revert h_)|omega|with_reducible exact RowsEq.refl _ _ _|rfl|exact RowsEq.refl _ _ _|exact Nat.le_refl _|(dsimp only;omega)|skip
    ·have d1:=of_decide_eq_false d1;have hkp:k=posW (wB a x.i) X.key:=by omega
     refine ⟨fun d=>absurd d (by simp;omega),fun _=>?_⟩;obtain ⟨W,hW⟩:∃ W,W=wB a (x.i+1):=⟨_,rfl⟩
     have hW2:W=(wB a x.i).take k++X::(wB a x.i).drop k:=by rw [hW,hw2];exact ins_app hkp (by intro h;omega)
     have hWl:W.length=(wB a x.i).length+1:=by rw [hW2];simp only [List.length_append,List.length_take,List.length_cons,List.length_drop];omega
     have hr:=rows_ins (X:=X) (show k<=(wB a x.i).length by omega);rw [<- hW2] at hr;rw [show (k:Int).toNat=k by omega];refine ⟨⟨by omega,by omega⟩,⟨by omega,by omega⟩,⟨by omega,by omega⟩,hil,⟨by omega,by omega⟩,by omega,by omega,by omega,fun cap1 q1 q2 q3=>⟨by omega,by omega,by omega,fun cap2 w1 w2 w3=>⟨by simp only [InR];omega,⟨x.i+1,p2,cap2⟩,?_⟩⟩⟩;dsimp only;rw [<- hW,hput]
     (repeat' apply And.intro)<;>first|with_reducible (first|rfl|trivial|assumption)|exact hat2|exact hi2|exact hr|(intro h_;revert h_)|omega|with_reducible exact RowsEq.refl _ _ _|rfl|exact RowsEq.refl _ _ _|exact Nat.le_refl _|(dsimp only;omega)|skip
  ·have hp:putOk X=false:=by simpa using hp
   rw [hp] at hwant;have hw2:wB a (x.i+1)=wB a x.i:=hwant;rw [hp];refine ⟨fun _=>⟨by simp only [InR];omega,⟨x.i+1,p2,x.cap⟩,?_⟩,fun c=>absurd c (by decide)⟩;dsimp only;rw [hw2,hput]
   (repeat' apply And.intro)<;>first|with_reducible (first|rfl|trivial|assumption)|exact hat2|exact hi2|exact hcap|(intro h_;revert h_)|omega|with_reducible exact RowsEq.refl _ _ _|rfl|exact RowsEq.refl _ _ _|exact Nat.le_refl _|(dsimp only;omega)|skip
 ·obtain ⟨i,p,cap⟩:=x;have hi:i<=(xsB a).length:=hi;have hi':i=(xsB a).length:=by have:=of_decide_eq_false c3;dsimp only at this;omega
  subst hi';have hat:FlAt (putsX (xsB a) (xsB a).length) p:=hat;obtain ⟨hw1,hw2⟩:=want_ok (f:=a.from_) (t:=a.to) (xs:=xsB a) (xsB a).length (Nat.le_refl _);have hwl:=want_len a.from_ a.to (xsB a) (xsB a).length;obtain ⟨W,hW⟩:∃ W,W=wB a (xsB a).length:=⟨_,rfl⟩
  have hW':wantTo a.from_ a.to (xsB a) (xsB a).length=W:=hW.symm;rw [hW'] at hw1 hw2 hwl;obtain ⟨ys,hys⟩:∃ ys,ys=accTo (xsB a) (xsB a).length:=⟨_,rfl⟩
  have hA:AllM 40 (xsB a).length ys (putsX (xsB a) (xsB a).length):=by rw [hys];exact hA
  have hN:(allR (putsX (xsB a) (xsB a).length).L.l).length=ys.length:=by rw [hys];exact hN
  rw [<- hys] at hw2;have hget:∀ k,EntIs (putsX (xsB a) (xsB a).length) k (getW ys k):=fun k=>by
   have:=hA.ent (by omega) (by omega) k;rw [hN,entR_get (fun z hz=>acc_live (by rw [hys] at hz;exact hz)) k (fun i h=>(lastTo_some _ h hA.key).1)] at this;exact this
  have hk:∀ k z,getW ys k=some z->z.key=k:=fun k z h=>(getW_key hA.key h).1;have hne:∀ z∈W,z.key≠ByteArray.mk #[]:=fun z hz=>by
   have:=(getW_key hA.key ((hw2 z).1 hz).2).2;obtain ⟨j,hj,rfl⟩:=mem_gl this;exact hA.key j hj
  have hrd:=hA.flRd (by omega) (by omega);have hxl4:p.x.t.length<100000:=by have:p.x.t.length<=40000:=hat.idx.inv.hi;omega
  rw [<- hW];refine ⟨⟨⟨0,0⟩,?_⟩,fun y hy=>?_⟩
  ·(repeat' apply And.intro)<;>first|with_reducible (first|rfl|trivial|assumption)|exact Nat.zero_le _|(intro h_;revert h_)|omega|with_reducible exact RowsEq.refl _ _ _|rfl|exact RowsEq.refl _ _ _|exact Nat.le_refl _|(dsimp only;omega)|skip
  have hg:y.g<=W.length:=hy;obtain ⟨ba,hba⟩:∃ ba:BtwA,ba=⟨putsX (xsB a) (xsB a).length,p,a.from_,a.to,afterB W y.g,a.n,getW ys⟩:=⟨_,rfl⟩
  have hkeys:keysA ba=Ix.sortB (Ix.keysOf p.x.t):=by rw [hba];rfl
  have htk:=tell_ok (f:=a.from_) (t:=a.to) (get:=getW ys) (keys_strict hat.idx) hk (fun k z h=>ent_in (by have:=hget k;rw [h] at this;exact this) hat.idx);have hT:tellK ba.from_ ba.to ba.get (keysA ba)=W:=by
   rw [hkeys,hba];exact sort_ext htk.1 hw1 fun z=>(htk.2 z).trans (hw2 z).symm
  have hf:a.from_=ba.from_/\a.to=ba.to/\afterB W y.g=ba.after/\a.n=ba.n/\ba.m=putsX (xsB a) (xsB a).length/\ba.p=p/\ba.get=getW ys:=by rw [hba];exact ⟨rfl,rfl,rfl,rfl,rfl,rfl,rfl⟩
  have hent:∀ k∈keysA ba,EntIs (putsX (xsB a) (xsB a).length) k (getW ys k)/\k.size<=1000:=fun k hk2=>by
   refine ⟨hget k,?_⟩;rw [hkeys] at hk2;have h1:=(Ix.sortB_perm _).mem_iff.1 hk2;unfold Ix.keysOf at h1;obtain ⟨e,he,rfl⟩:=List.mem_map.1 ((hat.idx.perm.map Prod.fst).mem_iff.1 h1);obtain ⟨j,hj,_,_,_,rfl⟩:=(hA.ents e).1 he;have:=may_out (hA.may _ (gl_mem hj));show (gl ys j).key.size<=1000;omega
  have hpg:=fun (q:Nat) hq=>page (a:=ba) (W:=W) (by rw [hba];exact hk) hT hw1 hne hg (by rw [hba]) (by rw [<- hf.2.2.2.1];omega) (i:=q) hq;have hent2:∀ k∈keysA ba,EntIs ba.m k (ba.get k)/\k.size<=1000:=by rw [hf.2.2.2.2.1,hf.2.2.2.2.2.2];exact hent
  have hat2:FlAt ba.m ba.p:=by rw [hba];exact hat
  have hrd2:FlRd ba.m:=by rw [hba];exact hrd
  have hxl5:ba.p.x.t.length<100000:=by rw [hba];exact hxl4
  refine ⟨ba,?_⟩;have hm1:putsX (xsB a) (xsB a).length=ba.m:=hf.2.2.2.2.1.symm;have hp1:p=ba.p:=hf.2.2.2.2.2.1.symm;rw [hm1,hp1]
  (repeat' apply And.intro)<;>first|with_reducible (first|rfl|trivial|assumption)|exact hf.1|exact hf.2.1|exact hf.2.2.1|exact hf.2.2.2.1|exact hat2|exact hrd2|exact hent2|exact hxl5|(intro h_;revert h_)|omega|with_reducible exact RowsEq.refl _ _ _|rfl|exact RowsEq.refl _ _ _|exact Nat.le_refl _|(dsimp only;omega)|skip
  rintro pb ⟨q1,q2,q3⟩;obtain ⟨r1,r2,r3⟩:=hpg pb.i q2;have hn3:a.n=ba.n:=hf.2.2.2.1;have hth:(W.take y.g).length=y.g:=by rw [List.length_take];omega
  refine ⟨fun c=>by (exfalso;have:=of_decide_eq_true c;omega),fun _=>⟨fun c=>by (exfalso;have:=of_decide_eq_true c;omega),fun _=>⟨fun c=>?_,fun c=>?_⟩⟩⟩
  ·have hz:(selTo ba pb.i).length=0:=by simpa using c
   have hgW:=r3 hz;have hTW:W.take y.g=W:=by rw [hgW,List.take_length]
   have h1000:W.length<1000:=by omega
   rw [hTW];refine ⟨EqsA.mk W y.c1 cap,?_⟩
   (repeat' apply And.intro)<;>first|with_reducible (first|rfl|trivial|assumption)|exact h1000|(intro h_;revert h_)|omega|with_reducible exact RowsEq.refl _ _ _|rfl|exact RowsEq.refl _ _ _|exact Nat.le_refl _|(dsimp only;omega)|skip
   exact fun _ _=>⟨(),rfl,trivial,trivial⟩
  ·have hz:(selTo ba pb.i).length≠0:=by simpa using c
   obtain ⟨m,hm⟩:∃ m,m=(selTo ba pb.i).length:=⟨_,rfl⟩
   have r2':selTo ba pb.i=(W.drop y.g).take m:=by rw [hm];exact r2
   have hsel:W.take y.g++selTo ba pb.i=W.take (y.g+m):=by rw [r2'];exact take_more
   have hlast:(gl (selTo ba pb.i) (m - 1)).key=afterB W (y.g+m):=by
    unfold afterB;rw [if_neg (by omega),gl_eq (show m - 1<(selTo ba pb.i).length by omega),gl_eq (show y.g+m - 1<W.length by omega)];have:(selTo ba pb.i)[m - 1]'(by omega)=W[y.g+(m - 1)]'(by omega):=by
     simp only [r2',List.getElem_take,List.getElem_drop]
    rw [this];congr 2;omega
   have hr:RowsEq (W.take (y.g+m)).length 4 (appRows (encRows encItem (W.take y.g)) 0 (W.take y.g).length fun (i j:Nat)=>encRows encItem (selTo ba pb.i) (0+i) j) (encRows encItem (W.take (y.g+m))):=by
    rw [<- hsel];exact ⟨fun i hi j hj=>by
     simp only [appRows,Nat.zero_add];by_cases hin:i<(W.take y.g).length
     ·rw [if_pos hin];unfold encRows;rw [gl_append_left hin]
     ·rw [if_neg hin];obtain ⟨q,rfl⟩:∃ q,i=(W.take y.g).length+q:=⟨i - (W.take y.g).length,by omega⟩
      unfold encRows;rw [gl_append_right,Nat.add_sub_cancel_left]⟩
   have hl4:(W.take y.g).length+(selTo ba pb.i).length=(W.take (y.g+m)).length:=by rw [<- hsel,List.length_append]
   have hg4:y.g+m<=W.length:=by omega
   have hlt4:W.length - (y.g+m)<W.length - y.g:=by omega
   have hs8:(selTo ba pb.i).length<=8:=by omega
   refine ⟨by omega,by omega,by omega,fun cap2 w1 w2 w3=>⟨by simp only [InR];omega,⟨by omega,by omega⟩,by omega,⟨y.g+m,cap2⟩,?_⟩⟩;rw [show 0+(((selTo ba pb.i).length:Int) - 1).toNat=m - 1 by omega]
   (repeat' apply And.intro)<;>first|with_reducible (first|rfl|trivial|assumption)|exact hlast|exact hl4|exact hr|exact hg4|exact hlt4|(intro h_;revert h_)|omega|with_reducible exact RowsEq.refl _ _ _|rfl|exact RowsEq.refl _ _ _|exact Nat.le_refl _|(dsimp only;omega)|skip)
theorem instFBtw:∀ ads,okADs [.slc 35 ksItem,.int .u64,.int .u64,.int .i64] ads->∃ a:FBtwA,cFBtw.pre a/\cFBtw.args a=svs 0 ads/\cFBtw.ro a=chs 0 [.slc 35 ksItem,.int .u64,.int .u64,.int .i64] ads/\cFBtw.m=slcs ads:=by
 rintro ads ⟨d1,r1,rfl,⟨n,cap,rows,rfl,h4,h5,h6⟩,d2,r2,rfl,⟨f,rfl,hf⟩,d3,r3,rfl,⟨t,rfl,ht⟩,d4,r4,rfl,⟨k,rfl,hk⟩,rfl⟩;refine ⟨⟨n,cap,rows,f,t,k⟩,⟨h4,h5,⟨⟨fun i hi j hj=>?_⟩⟩,hf,ht,hk⟩,rfl,rfl,rfl⟩;have hi:i<n:=hi;obtain ⟨x0,e0⟩:=h6 i hi 0 _ rfl;obtain ⟨x1,e1⟩:=h6 i hi 1 _ rfl;obtain ⟨x2,e2⟩:=h6 i hi 2 _ rfl;obtain ⟨x3,e3⟩:=h6 i hi 3 _ rfl;have hg:gl (xs0 ⟨n,cap,rows,f,t,k⟩) i=⟨toS (rows i 0),toS (rows i 1),toI (rows i 2),toB (rows i 3)⟩:=by
  rw [gl_eq (by simpa [xs0] using hi)];simp [xs0]
 unfold encRows;rw [hg];show rows i j=_;rcases (by omega:j=0\/j=1\/j=2\/j=3) with rfl|rfl|rfl|rfl
 ·rw [e0.1];rfl
 ·rw [e1.1];rfl
 ·rw [e2.1];rfl
 ·rw [e3];rfl
end Go.Proofs.YtfobhkibkdmglaaGreat
