/-
  
-/
import Derived.Test.YtfobhkibkdmglaaGreatFlashAllP5
import Derived.Test.YtfobhkibkdmglaaGreatFlashAllP2
import Derived.Below
import Derived.ChangeSame
import Derived.Carry
import Derived.ChangeArms
import Derived.OpenShut
import Derived.RowKit3
namespace Go.Proofs.YtfobhkibkdmglaaGreat
open Go.Sx
set_option maxRecDepth 100000
set_option linter.unusedVariables false
set_option linter.unusedSimpArgs false
def stepE (get:ByteArray->Option ItemM) (o:Option ItemM):ByteArray->Option ItemM:=match o with
 | none=>fun _=>none
 | some x=>updK get x.key (if x.gone then none else some x)
def gE (es:List (Option ItemM)):ByteArray->Option ItemM:=es.foldl stepE fun _=>none
theorem gE_push (es:List (Option ItemM)) (o:Option ItemM):gE (es++[o])=stepE (gE es) o:=by simp [gE]
structure FlNow (m:FlM) (n:Nat) (rs:List RecM) (es:List (Option ItemM)):Prop where
 one:FlOne m n rs (gE es)
 len:es.length=rs.length
 body:∀ i,i<es.length->(gl rs i).body=bodyOf (gl es i)/\∀ x,gl es i=some x->mayB x=true
theorem body_push {rs:List RecM} {es:List (Option ItemM)} {p:Int} {x:ItemM} (hl:es.length=rs.length) (h:∀ i,i<es.length->(gl rs i).body=bodyOf (gl es i)/\∀ x,gl es i=some x->mayB x=true) (hx:mayB x=true) :
 (es++[some x]).length=(rs++[(⟨p,bodyOf (some x)⟩:RecM)]).length/\∀ i,i<(es++[some x]).length->(gl (rs++[(⟨p,bodyOf (some x)⟩:RecM)]) i).body=bodyOf (gl (es++[some x]) i)/\∀ z,gl (es++[some x]) i=some z->mayB z=true:=by
 refine ⟨by simp [hl],fun i hi=>?_⟩;rw [List.length_append,List.length_singleton] at hi;rw [gl_app hi,gl_app (by rw [<- hl];exact hi),hl];by_cases hin:i<rs.length
 ·rw [if_pos hin,if_pos hin];exact h i (by omega)
 ·rw [if_neg hin,if_neg hin];exact ⟨rfl,fun z e=>by cases e;exact hx⟩
theorem FlNow.put {m:FlM} {n:Nat} {rs:List RecM} {es:List (Option ItemM)} (h:FlNow m n rs es) {x:ItemM} (hx:putOk x=true) (hn:m.L.next<9999999999) (hfit:(bufOf rs).length+8+(bodyOf (some x)).length<=378) :
 FlNow (putF m x) (n+20) (rs++[⟨m.L.next,bodyOf (some x)⟩]) (es++[some x])/\(putF m x).L.next=m.L.next+1/\(putF m x).L.segs=m.L.segs/\(putF m x).L.from_=m.L.from_:=by
 have hx2:mayB x=true/\x.gone=false:=by unfold putOk at hx;simpa using hx
 obtain ⟨h1,h2⟩:=h.one.put hx hn hfit;obtain ⟨b1,b2⟩:=body_push (p:=m.L.next) h.len h.body hx2.1;refine ⟨⟨?_,b1,b2⟩,h2⟩;rw [gE_push];simp only [stepE,hx2.2];exact h1
theorem FlNow.drop {m:FlM} {n:Nat} {rs:List RecM} {es:List (Option ItemM)} (h:FlNow m n rs es) {k:ByteArray} (hk:keyB k=true) (hn:m.L.next<9999999999) (hfit:(bufOf rs).length+8+(bodyOf (some (itemD k))).length<=378) :
 FlNow (dropF m k) (n+20) (rs++[⟨m.L.next,bodyOf (some (itemD k))⟩]) (es++[some (itemD k)])/\(dropF m k).L.next=m.L.next+1/\(dropF m k).L.segs=m.L.segs/\(dropF m k).L.from_=m.L.from_:=by
 obtain ⟨h1,h2⟩:=h.one.drop hk hn hfit;obtain ⟨b1,b2⟩:=body_push (p:=m.L.next) h.len h.body (itemD_may hk);refine ⟨⟨?_,b1,b2⟩,h2⟩;rw [gE_push];exact h1
theorem FlNow.flush {m:FlM} {n:Nat} {rs:List RecM} {es:List (Option ItemM)} (h:FlNow m n rs es):FlNow (flushF m) (n+1) rs es:=⟨h.one.flush,h.len,h.body⟩
theorem FlNow.new {fr sg:Nat} {d:DevM} {n:Nat} {run:Int} (h3:3<=sg/\sg<=200) (hr:fr+sg*8<=d.n) (hn:d.n<100000) (hc:d.calls<=n) (hd:DevIs fr sg none run d):FlNow (newF fr sg d) n [] []:=⟨FlOne.new h3 hr hn hc hd,rfl,fun i hi=>absurd hi (Nat.not_lt_zero i)⟩
theorem idx_get {rs:List RecM} {es:List (Option ItemM)} (hl:es.length=rs.length) (h:∀ i,i<es.length->(gl rs i).body=bodyOf (gl es i)/\∀ x,gl es i=some x->mayB x=true):∀ i,i<=es.length ->
 (∀ e∈idxTo es rs i,∃ x,gE (es.take i) e.1=some x/\x.key=e.1/\mayB x=true/\(⟨e.2,bodyOf (some x)⟩:RecM)∈rs)/\∀ k,gE (es.take i) k≠none->k∈(idxTo es rs i).map Prod.fst
 | 0,_=>⟨fun e he=>(by cases he),fun k hk=>absurd rfl hk⟩
 | i+1,hi=>by
  obtain ⟨h1,h2⟩:=idx_get hl h i (by omega);obtain ⟨hb,hm⟩:=h i (by omega);have hst:idxTo es rs (i+1)=idxStep (idxTo es rs i) (gl es i) (gl rs i).pos:=rfl;rw [hst,take_push (show i<es.length by omega),gE_push];cases ho:gl es i with
  | none=>exact ⟨fun e he=>(by cases he),fun k hk=>absurd rfl hk⟩
  | some x =>
   rw [ho] at hb hm;have hx:=hm x rfl;have hmem:(⟨(gl rs i).pos,bodyOf (some x)⟩:RecM)∈rs:=by
    rw [<- hb,gl_eq (show i<rs.length by omega)];exact List.getElem_mem _
   simp only [idxStep,stepE];cases hg:x.gone with
   | true =>
    simp only [if_true];refine ⟨fun e he=>?_,fun k hk=>?_⟩
    ·obtain ⟨he,hne⟩:=mem_dropK.1 he;obtain ⟨x',g1,g2⟩:=h1 e he;exact ⟨x',by unfold updK;rw [if_neg hne];exact g1,g2⟩
    ·by_cases e:k=x.key
     ·subst e;exact absurd (if_pos rfl) hk
     ·have hk:gE (es.take i) k≠none:=by unfold updK at hk;rwa [if_neg e] at hk
      obtain ⟨q,hq,rfl⟩:=List.mem_map.1 (h2 k hk);exact List.mem_map.2 ⟨q,mem_dropK.2 ⟨hq,e⟩,rfl⟩
   | false =>
    refine ⟨fun e he=>?_,fun k hk=>?_⟩
    ·rcases List.mem_cons.1 he with rfl|he
     ·exact ⟨x,if_pos rfl,rfl,hx,hmem⟩
     ·obtain ⟨he,hne⟩:=mem_dropK.1 he;obtain ⟨x',g1,g2⟩:=h1 e he;exact ⟨x',by unfold updK;rw [if_neg hne];exact g1,g2⟩
    ·by_cases e:k=x.key
     ·subst e;exact List.mem_map.2 ⟨(x.key,(gl rs i).pos),List.mem_cons_self,rfl⟩
     ·have hk:gE (es.take i) k≠none:=by unfold updK at hk;rwa [if_neg e] at hk
      obtain ⟨q,hq,rfl⟩:=List.mem_map.1 (h2 k hk);exact List.mem_map.2 ⟨q,List.mem_cons_of_mem _ (mem_dropK.2 ⟨hq,e⟩),rfl⟩
theorem reopen {m:FlM} {n:Nat} {rs:List RecM} {es:List (Option ItemM)} (h:FlNow m n rs es) {d':DevM} (hd:∀ r j,d'.now r j=m.d.now r j) (hn:d'.n=m.d.n) (H:PH) :
 cFOpen.pre ⟨H,d',m.L.from_,m.L.segs,es⟩/\FlGet (opnF ⟨H,d',m.L.from_,m.L.segs,es⟩) rs (gE es)/\(opnF ⟨H,d',m.L.from_,m.L.segs,es⟩).l.length<=es.length:=by
 have hl:=h.one.log;obtain ⟨base,b1,b2,hlst⟩:=hl.lst;have hlen:=hl.len;have hdev:DevIs m.L.from_ m.L.segs m.L.l.head? m.L.run d':=⟨fun i hi j hj=>by rw [hd];exact hl.dev.sec i hi j hj,fun r h1 h2 j hj=>by rw [hd];exact hl.dev.rest r h1 h2 j hj⟩
 have key:OpenOk m.L.from_ m.L.segs d'/\LogRd (openM m.L.from_ m.L.segs d') rs:=by
  by_cases he:rs=[]
  ·subst he;rw [hlst] at hdev;obtain ⟨k1,k2⟩:=open_none (run:=m.L.run) hdev hl.segs (by rw [hn];exact hl.room) (by rw [hn];exact hl.size);rw [k2];exact ⟨k1,rfl,by show (0:Nat)<1000;omega,hl.sort,fun r hr=>(by cases hr),fun i hi=>absurd hi (Nat.not_lt_zero i)⟩
  ·rw [hlst,oneL_ne he] at hdev;obtain ⟨k1,_,_,k4,_⟩:=open_one (hdev:DevIs _ _ (some _) _ _) hl.segs (by rw [hn];exact hl.room) (by rw [hn];exact hl.size) (fun r hr=>⟨(hl.good r hr).1,by have:=(hl.good r hr).2;have:=hl.next;omega⟩) he hl.fits ⟨b1,b2⟩ hl.run;refine ⟨k1,by rw [k4];simp [allR],by rw [k4];show (1:Nat)<1000;omega,hl.sort,fun r hr=>(hl.good r hr).1.len,fun i hi=>?_⟩;rw [k4] at hi ⊢;have:i=0:=by simpa using hi
   subst this;show rs.length<=400;omega
 obtain ⟨k1,k2⟩:=key;have hall:=k2.all;obtain ⟨g1,g2⟩:=idx_get h.len h.body es.length (Nat.le_refl _);rw [List.take_length] at g1 g2;refine ⟨⟨k1,⟨by rw [hall];exact h.len,by show es.length<9000;have:=h.len;omega,by rw [hall];exact h.body⟩,k2.seg⟩,⟨k2,?_,?_⟩,?_⟩
 ·show ∀ e∈idxTo es (allR (openM m.L.from_ m.L.segs d').l) es.length,_;rw [hall];exact g1
 ·show ∀ k,gE es k≠none->k∈(idxTo es (allR (openM m.L.from_ m.L.segs d').l) es.length).map Prod.fst;rw [hall];exact g2
 ·exact idxTo_len _ _ _
theorem new_is (fr sg:Nat) (n:Int) (run:Int):DevIs fr sg none run (devNew n):=⟨fun _ _ _ _=>rfl,fun _ _ _ _ _=>rfl⟩
theorem open_new {fr sg:Nat} {n:Int} (h3:3<=sg/\sg<=200) (hr:fr+sg*8<=(devNew n).n) (H:PH):cFOpen.pre ⟨H,devNew n,fr,sg,[]⟩/\opnF ⟨H,devNew n,fr,sg,[]⟩=newF fr sg (devNew n):=by
 have hn:(devNew n).n<100000:=by simp only [devNew];omega
 obtain ⟨k1,k2⟩:=open_none (new_is fr sg n 1) h3 hr hn;refine ⟨⟨k1,⟨by rw [k2];rfl,by show (0:Nat)<9000;omega,fun i hi=>absurd hi (Nat.not_lt_zero i)⟩,by rw [k2];exact fun i hi=>absurd hi (Nat.not_lt_zero i)⟩,?_⟩;unfold opnF newF;rw [k2];rfl
theorem keys_len {x:Ix.IdxR} {l:List (ByteArray × Int)} (h:Ix.Has x l):(Ix.keysOf x.t).length=l.length:=by
 unfold Ix.keysOf;rw [List.length_map,h.perm.length_eq]
def itK:ItemM:=⟨⟨#[107]⟩,⟨#[118]⟩,9,false⟩
theorem appD_n (L:LogM) (d:DevM) (body:List Int):(appD L d body).n=d.n:=by
 have h1:(appD1 L d body.length).n=d.n:=by unfold appD1;split<;>rfl
 have h2:=(writesTo_n (appL1 L body.length) (segW (lastG (appL1 L body.length)) (appL1 L body.length).next body) (lastG (appL1 L body.length)).buf.length (appD1 L d body.length) 8).1;unfold appD appD2;split
 ·exact h2.trans h1
 ·exact h2.trans h1
noncomputable def tabFl:List (Nat × Con):=[(9,cDevNew),(8,cFOpen),(12,cFPut),(26,cFGet),(21,cDevCrash),(64,cDevFlush),(15,cFDrop),(40,Ix.cKeys)]
theorem tabFl_ok:TabOk (Y Tryz.prog).G.X tabFl:=⟨callDevNew,callFOpen,callFPut,callFGet,callDevCrash,callDevFlush,callFDrop,Ix.callKeys,trivial⟩
noncomputable def cBegunF:Con where
 α:=Unit
 β:=Unit
 m:=0
 m':=0
 pre:=fun _=>True
 args:=fun _=>[]
 hp:=fun _=>[]
 ro:=fun _=>[]
 post:=fun _ _=>True
 res:=fun _ _=>.a .tt
 hp':=fun _ _=>[]
set_option maxHeartbeats 4000000 in
theorem bodyBegunF:fnBody (Y Tryz.prog) tabFl 7 cBegunF fun _=>[(7,[],[An.newPool 1 (.mk 1000 [] [])])]:=fnBody.of (p :=
 ∀ a:Unit,True->∃ a:Int,(100:Int)=a/\True/\∀ b:Unit,True->∃ a_2:FOpenA,0=0/\2=(↑a_2.from_:Int)/\10=(↑a_2.segs:Int)/\(fun (x:Nat)=>none)=a_2.H/\devQ (devNew a) a_2.d ((OpenOk a_2.from_ a_2.segs a_2.d/\EsOk a_2.es (allR (openM a_2.from_ a_2.segs a_2.d).l)/\∀ i:Nat,i<(openM a_2.from_ a_2.segs a_2.d).l.length->(gl (openM a_2.from_ a_2.segs a_2.d).l i).recs.length<=400)/\∀ b:FlP,(FlAt (opnF a_2) b/\∀ z:Nat,a_2.H z≠none->b.H z=a_2.H z/\¬z∈fpLog b.y)->(false=true->∃ b:Unit,false=true/\True/\True)/\(false=false->∃ a_5:FPutA,0=0/\{ data:=#[(107:UInt8)] }=a_5.x.key/\{ data:=#[(118:UInt8)] }=a_5.x.val/\(9:Int)=a_5.x.e/\false=a_5.x.gone/\0=0/\0=0/\0=0/\logQ (opnF a_2).L a_5.m.L b.y.lv a_5.p.y.lv (devQ (devNew a) a_5.m.d (idxQ b.x a_5.p.x b.cap a_5.p.cap (b.H=a_5.p.H/\(FlAt a_5.m a_5.p/\(putOk a_5.x=true->FlOk a_5.m (bodyOf (some a_5.x)).length))/\∀ b:FlP,FlAt (putF a_5.m a_5.x) b/\FlFr a_5.p b->∃ a:FGetA,0=0/\{ data:=#[(107:UInt8)] }=a.key/\(5:Int)=a.now/\0=0/\0=0/\0=0/\logQ (putF a_5.m a_5.x).L a.m.L b.y.lv a.p.y.lv (devQ (putF a_5.m a_5.x).d a.m.d (idxQ b.x a.p.x b.cap a.p.cap (b.H=a.p.H/\(FlAt a.m a.p/\FlRd a.m/\EntIs a.m a.key a.r/\a.key.size<=lenMax)/\∀ b_1:Unit,True->∃ a_7:FGetA,0=0/\{ data:=#[(107:UInt8)] }=a_7.key/\(9:Int)=a_7.now/\0=0/\0=0/\0=0/\logQ (putF a_5.m a_5.x).L a_7.m.L b.y.lv a_7.p.y.lv (devQ (putF a_5.m a_5.x).d a_7.m.d (idxQ b.x a_7.p.x b.cap a_7.p.cap (b.H=a_7.p.H /\
 (FlAt a_7.m a_7.p/\FlRd a_7.m/\EntIs a_7.m a_7.key a_7.r/\a_7.key.size<=lenMax)/\∀ b_2:Unit,True->∃ a_9:DevM,0=0/\devQ (putF a_5.m a_5.x).d a_9 ((a_9.n<100000/\a_9.calls<1000000000000)/\∀ b_3:Unit,True->∃ a_11:CrashA,0=0/\(0=a_11.klen/\0=a_11.kcap)/\devQ (devFl a_9) a_11.d (a_11.kn=0/\(1<=a_11.d.n/\a_11.d.n<=2048/\a_11.kr+a_11.klen<=a_11.kn/\a_11.klen<100000)/\∀ b_4:Unit,True->∃ a_13:FOpenA,0=0/\2=(↑a_13.from_:Int)/\10=(↑a_13.segs:Int)/\b.H=a_13.H/\devQ (devCrash a_11.d a_11.klen fun (i:Nat)=>a_11.keep (a_11.kr+i)) a_13.d ((OpenOk a_13.from_ a_13.segs a_13.d/\EsOk a_13.es (allR (openM a_13.from_ a_13.segs a_13.d).l)/\∀ i:Nat,i<(openM a_13.from_ a_13.segs a_13.d).l.length->(gl (openM a_13.from_ a_13.segs a_13.d).l i).recs.length<=400)/\∀ b_5:FlP,(FlAt (opnF a_13) b_5/\∀ z:Nat,a_13.H z≠none->b_5.H z=a_13.H z/\¬z∈fpLog b_5.y)->∃ a_15:FGetA,0=0/\{ data:=#[(107:UInt8)] }=a_15.key/\(0:Int)=a_15.now/\0=0/\0=0/\0=0/\logQ (opnF a_13).L a_15.m.L b_5.y.lv a_15.p.y.lv (devQ (devCrash a_11.d a_11.klen fun (i:Nat)=>a_11.keep (a_11.kr+i)) a_15.m.d (idxQ b_5.x a_15.p.x b_5.cap a_15.p.cap (b_5.H=a_15.p.H/\(FlAt a_15.m a_15.p/\FlRd a_15.m/\EntIs a_15.m a_15.key a_15.r/\a_15.key.size<=lenMax)/\∀ b_6:Unit,True->(((if putOk a_5.x=true then (0:Int) else (1:Int)) == (0:Int))=true->((getR a.r a.now).isSome=true->(decide (((getR a.r a.now).getD zeroItem).val={ data:=#[(118:UInt8)] })=true ->
 ((!(getR a_7.r a_7.now).isSome)=true->(true=true->(true=true->((getR a_15.r a_15.now).isSome=true->InR .i64 ((getR a_15.r a_15.now).getD zeroItem).e->((((getR a_15.r a_15.now).getD zeroItem).e == (9:Int))=true->∃ a:FDropA,0=0/\(0=0/\1=a.ks.length/\1=a.cap)/\0=0/\0=0/\0=0/\logQ (putF a_5.m a_5.x).L a.m.L b.y.lv a.p.y.lv (devQ (devFl a_9) a.m.d (idxQ b.x a.p.x b.cap a.p.cap (b_5.H=a.p.H/\(a.ks.length<=1/\RowsEq a.ks.length 1 (flatRows 1 [Value.string { data:=#[(107:UInt8)] }]) (encRows encT a.ks))/\(FlAt a.m a.p/\a.ks.length<1000/\(allK a.ks=true->(∀ i:Nat,i<a.ks.length->FlOk (dropTo a.m a.ks i) (bodyOf (some (itemD (gl a.ks i)))).length)/\(dropTo a.m a.ks a.ks.length).d.n<100000/\(dropTo a.m a.ks a.ks.length).d.calls<1000000000000))/\∀ b:FlP,FlAt (dropsF a.m a.ks) b/\FlFr a.p b->(((if allK a.ks=true then (0:Int) else (1:Int)) == (0:Int))=true->∃ a:Ix.KeyA,0=0/\idxQ b.x a.x b.cap a.cap (a.x.t.length<100000/\∀ b:Nat,True->∃ b:Unit,((↑(Ix.keysOf a.x.t).length:Int) == 0)=true/\True/\True))/\(((if allK a.ks=true then (0:Int) else (1:Int)) == (0:Int))=false->∃ b:Unit,false=true/\True/\True)))))/\((((getR a_15.r a_15.now).getD zeroItem).e == (9:Int))=false->∃ b:Unit,false=true/\True/\True))/\((getR a_15.r a_15.now).isSome=false->∃ b:Unit,false=true/\True/\True))/\(true=false->∃ b:Unit,false=true/\True/\True))/\(true=false ->
 ∃ b:Unit,false=true/\True/\True))/\((!(getR a_7.r a_7.now).isSome)=false->∃ b:Unit,false=true/\True/\True))/\(decide (((getR a.r a.now).getD zeroItem).val={ data:=#[(118:UInt8)] })=false->∃ b:Unit,false=true/\True/\True))/\((getR a.r a.now).isSome=false->∃ b:Unit,false=true/\True/\True))/\(((if putOk a_5.x=true then (0:Int) else (1:Int)) == (0:Int))=false->∃ b:Unit,false=true/\True/\True))))))))))))))))))) (by kernel_rfl) (by
 intro _ _;obtain ⟨o1,o2⟩:=open_new (fr:=2) (sg:=10) (n:=100) (by omega) (by decide) (fun _=>none);refine ⟨100,rfl,trivial,fun _ _=>⟨⟨fun _=>none,devNew 100,2,10,[]⟩,?_⟩⟩;rw [o2]
 (repeat' apply And.intro)<;>first|with_reducible (first|rfl|trivial|assumption)|omega|with_reducible (first|exact RowsEq.refl _ _ _|exact Nat.le_refl _)|(dsimp only [List.length_cons,List.length_nil]<;>omega)|rfl|exact RowsEq.refl _ _ _|exact Nat.le_refl _|exact o1.1|exact o1.2.1|exact o1.2.2|skip
 rintro ⟨H1,y1,x1,c1⟩ ⟨hat1,hf1⟩;refine ⟨fun c=>absurd c (by decide),fun _=>?_⟩;obtain ⟨it,hit⟩:∃ it,it=itK:=⟨_,rfl⟩
 have hpo:putOk it=true:=by rw [hit];decide
 have hkey:it.key=⟨#[107]⟩:=by rw [hit];rfl
 have hbl:(bodyOf (some it)).length=7:=by rw [hit];decide +kernel
 have n0:FlNow (newF 2 10 (devNew 100)) 0 [] []:=FlNow.new (run:=1) (by omega) (by decide) (by decide) (Nat.le_refl _) (new_is _ _ _ _);obtain ⟨n1,x1n,x1s,x1f⟩:=n0.put hpo (by show (1:Int)<9999999999;omega) (by rw [hbl];decide);have hok0:=n0.one.ok (k:=(bodyOf (some it)).length) (by omega) (by rw [hbl];decide);obtain ⟨m0,hm0⟩:∃ m0,m0=newF 2 10 (devNew 100):=⟨_,rfl⟩
 have hm0d:(devNew 100)=m0.d:=by rw [hm0];rfl
 rw [<- hm0,hm0d];rw [<- hm0] at hat1 n1 x1n x1s x1f hok0;have hm0n:m0.L.next=1/\m0.d.n=100/\m0.L.segs=10/\m0.L.from_=2:=by rw [hm0];exact ⟨rfl,rfl,rfl,rfl⟩
 refine ⟨FPutA.mk m0 ⟨H1,y1,x1,c1⟩ it,?_⟩
 (repeat' apply And.intro)<;>first|with_reducible (first|rfl|trivial|assumption)|omega|with_reducible (first|exact RowsEq.refl _ _ _|exact Nat.le_refl _)|(dsimp only [List.length_cons,List.length_nil]<;>omega)|rfl|exact RowsEq.refl _ _ _|exact Nat.le_refl _|exact hat1|(rw [hit];rfl)|exact fun _=>hok0|skip
 rintro ⟨H2,y2,x2,c2⟩ ⟨hat2,hf2⟩;dsimp only at hat2 hf2 ⊢;obtain ⟨m1,hm1⟩:∃ m1,m1=putF m0 it:=⟨_,rfl⟩
 rw [<- hm1] at hat2 n1 x1n x1s x1f ⊢;rw [List.nil_append,List.nil_append] at n1;have hget:gE [some it] ⟨#[107]⟩=some it:=by rw [hit];simp [gE,stepE,updK,itK]
 have hent:=n1.one.has.ent ⟨#[107]⟩;rw [hget] at hent;have hrd:=n1.one.has.flRd;have hks:(⟨#[107]⟩:ByteArray).size<=lenMax:=by decide
 have g5:getR (some it) 5=some it:=by rw [hit];simp [getR,show liveB itK 5=true by decide]
 have g9:getR (some it) 9=none:=by rw [hit];simp [getR,show liveB itK 9=false by decide]
 have g0:getR (some it) 0=some it:=by rw [hit];simp [getR,show liveB itK 0=true by decide]
 refine ⟨FGetA.mk m1 ⟨H2,y2,x2,c2⟩ ⟨#[107]⟩ 5 (some it),?_⟩
 (repeat' apply And.intro)<;>first|with_reducible (first|rfl|trivial|assumption)|omega|with_reducible (first|exact RowsEq.refl _ _ _|exact Nat.le_refl _)|(dsimp only [List.length_cons,List.length_nil]<;>omega)|rfl|exact RowsEq.refl _ _ _|exact Nat.le_refl _|exact hat2|exact hrd|exact hent|exact hks|skip
 intro _ _;refine ⟨FGetA.mk m1 ⟨H2,y2,x2,c2⟩ ⟨#[107]⟩ 9 (some it),?_⟩
 (repeat' apply And.intro)<;>first|with_reducible (first|rfl|trivial|assumption)|omega|with_reducible (first|exact RowsEq.refl _ _ _|exact Nat.le_refl _)|(dsimp only [List.length_cons,List.length_nil]<;>omega)|rfl|exact RowsEq.refl _ _ _|exact Nat.le_refl _|exact hat2|exact hrd|exact hent|exact hks|skip
 intro _ _;have hd1:=n1.one.log.size;have hc1:=n1.one.log.calls;have hdn1:m1.d.n=100:=by
  have:=n1.one.log.room;have e:m1.d.n=m0.d.n:=by
   rw [hm1];unfold putF;rw [if_pos hpo];exact appD_n _ _ _
  rw [e,hm0n.2.1]
 refine ⟨m1.d,?_⟩
 (repeat' apply And.intro)<;>first|with_reducible (first|rfl|trivial|assumption)|omega|with_reducible (first|exact RowsEq.refl _ _ _|exact Nat.le_refl _)|(dsimp only [List.length_cons,List.length_nil]<;>omega)|rfl|exact RowsEq.refl _ _ _|exact Nat.le_refl _|exact hd1|(dsimp only;omega)|skip
 intro _ _;refine ⟨CrashA.mk (devFl m1.d) 0 0 0 0 (fun _=>false),?_⟩
 (repeat' apply And.intro)<;>first|with_reducible (first|rfl|trivial|assumption)|omega|with_reducible (first|exact RowsEq.refl _ _ _|exact Nat.le_refl _)|(dsimp only [List.length_cons,List.length_nil]<;>omega)|rfl|exact RowsEq.refl _ _ _|exact Nat.le_refl _|(show 1<=m1.d.n;omega)|(show m1.d.n<=2048;omega)|(dsimp only;omega)|skip
 intro _ _;dsimp only;have n2:=n1.flush;have hfs:(flushF m1).L.from_=2/\(flushF m1).L.segs=10:=⟨x1f.trans hm0n.2.2.2,x1s.trans hm0n.2.2.1⟩
 obtain ⟨p1,p2,p3⟩:=reopen n2 (d':=devCrash (devFl m1.d) 0 fun i=>(fun _=>false) (0+i)) (fun r j=>crash_now (fun _=>rfl) r j) rfl H2;rw [hfs.1,hfs.2] at p1 p2 p3;obtain ⟨dc,hdc⟩:∃ dc,dc=devCrash (devFl m1.d) 0 fun i=>(fun _=>false) (0+i):=⟨_,rfl⟩
 rw [<- hdc] at p1 p2 p3;rw [show (devCrash (devFl m1.d) 0 fun i=>false)=dc from hdc.symm];refine ⟨FOpenA.mk H2 dc 2 10 [some it],?_⟩
 (repeat' apply And.intro)<;>first|with_reducible (first|rfl|trivial|assumption)|omega|with_reducible (first|exact RowsEq.refl _ _ _|exact Nat.le_refl _)|(dsimp only [List.length_cons,List.length_nil]<;>omega)|rfl|exact RowsEq.refl _ _ _|exact Nat.le_refl _|exact p1.1|exact p1.2.1|exact p1.2.2|skip
 rintro ⟨H3,y3,x3,c3⟩ ⟨hat3,hf3⟩;dsimp only at hat3 hf3 ⊢;have hent3:=p2.ent ⟨#[107]⟩;rw [hget] at hent3;have hrd3:=p2.flRd;have hdo:(opnF ⟨H2,dc,2,10,[some it]⟩).d=dc:=rfl;obtain ⟨mo,hmo⟩:∃ mo,mo=opnF ⟨H2,dc,2,10,[some it]⟩:=⟨_,rfl⟩
 rw [<- hmo] at hat3 hent3 hrd3 hdo ⊢;refine ⟨FGetA.mk mo ⟨H3,y3,x3,c3⟩ ⟨#[107]⟩ 0 (some it),?_⟩;rw [<- hdo]
 (repeat' apply And.intro)<;>first|with_reducible (first|rfl|trivial|assumption)|omega|with_reducible (first|exact RowsEq.refl _ _ _|exact Nat.le_refl _)|(dsimp only [List.length_cons,List.length_nil]<;>omega)|rfl|exact RowsEq.refl _ _ _|exact Nat.le_refl _|exact hat3|exact hrd3|exact hent3|exact hks|skip
 intro _ _;dsimp only;rw [hpo,g5,g9,g0];have hval:it.val=⟨#[118]⟩/\it.e=9:=by rw [hit];exact ⟨rfl,rfl⟩
 simp only [Option.getD_some,hval.1,hval.2];refine ⟨fun _=>⟨fun _=>⟨fun _=>⟨fun _=>⟨fun _=>⟨fun _=>⟨fun _=>fun _=>⟨fun _=>?_,fun c=>absurd c (by first|decide|exact (show ¬ (true=false) by decide))⟩,fun c=>absurd c (by first|decide|exact (show ¬ (true=false) by decide))⟩,fun c=>absurd c (by first|decide|exact (show ¬ (true=false) by decide))⟩,fun c=>absurd c (by first|decide|exact (show ¬ (true=false) by decide))⟩,fun c=>absurd c (by first|decide|exact (show ¬ (true=false) by decide))⟩,fun c=>absurd c (by first|decide|exact (show ¬ (true=false) by decide))⟩,fun c=>absurd c (by first|decide|exact (show ¬ (true=false) by decide))⟩,fun c=>absurd c (by first|decide|exact (show ¬ (true=false) by decide))⟩;have hat4:FlAt (flushF m1) ⟨H3,y2,x2,c2⟩:=⟨hat2.log.frame fun z hz=>(hf3 z (hat2.log.dom z hz)).1,hat2.idx⟩
 have hkb:keyB ⟨#[107]⟩=true:=by decide
 have hdl:(bodyOf (some (itemD ⟨#[107]⟩))).length=6:=by decide +kernel
 have hbf:(bufOf [(⟨m0.L.next,bodyOf (some it)⟩:RecM)]).length=15:=by simp [bufOf,rec_len,hbl]
 have hn2:(flushF m1).L.next=2:=by show m1.L.next=2;rw [x1n,hm0n.1];rfl
 obtain ⟨n3,x3n,x3s,x3f⟩:=n2.drop hkb (by rw [hn2];omega) (by rw [hbf,hdl];omega);have hok2:=n2.one.ok (k:=(bodyOf (some (itemD ⟨#[107]⟩))).length) (by omega) (by rw [hbf,hdl];omega);have hd0:dropTo (flushF m1) [⟨#[107]⟩] 0=flushF m1:=rfl;have hd1':dropTo (flushF m1) [⟨#[107]⟩] 1=dropF (flushF m1) ⟨#[107]⟩:=rfl;refine ⟨FDropA.mk (flushF m1) ⟨H3,y2,x2,c2⟩ [⟨#[107]⟩] 1,?_⟩;have hpre:allK [⟨#[107]⟩]=true->(∀ i,i < [(⟨#[107]⟩:ByteArray)].length->FlOk (dropTo (flushF m1) [⟨#[107]⟩] i) (bodyOf (some (itemD (gl [⟨#[107]⟩] i)))).length)/\(dropTo (flushF m1) [⟨#[107]⟩] [(⟨#[107]⟩:ByteArray)].length).d.n<100000/\(dropTo (flushF m1) [⟨#[107]⟩] [(⟨#[107]⟩:ByteArray)].length).d.calls<1000000000000:=fun _=>⟨fun i hi=>by
  have:i=0:=by simpa using hi
  subst this;exact hok2,n3.one.log.size,Nat.lt_of_le_of_lt n3.one.log.calls (by omega)⟩
 have hrk:RowsEq 1 1 (flatRows 1 [Value.string ⟨#[107]⟩]) (encRows encT [⟨#[107]⟩]):=.of_cells fun i hi=>by
  have:i=0:=by omega
  subst this;rfl
 (repeat' apply And.intro)<;>first|with_reducible (first|rfl|trivial|assumption)|omega|with_reducible (first|exact RowsEq.refl _ _ _|exact Nat.le_refl _)|(dsimp only [List.length_cons,List.length_nil]<;>omega)|rfl|exact RowsEq.refl _ _ _|exact Nat.le_refl _|exact hat4|exact hpre|exact hrk|skip
 rintro ⟨H5,y5,x5,c5⟩ ⟨hat5,hf5⟩;dsimp only at hat5 hf5 ⊢;have hak:allK [⟨#[107]⟩]=true:=by decide
 have hdf:dropsF (flushF m1) [⟨#[107]⟩]=flushF (dropF (flushF m1) ⟨#[107]⟩):=if_pos hak;rw [hdf] at hat5;rw [hak];have n4:=n3.flush;have hnone:(flushF (dropF (flushF m1) ⟨#[107]⟩)).l=[]:=by
  refine List.eq_nil_iff_forall_not_mem.2 fun e he=>?_;obtain ⟨z,hz,_⟩:=n4.one.has.pos e he;have hk:it.key=(itemD ⟨#[107]⟩).key:=hkey;have:gE ([some it]++[some (itemD ⟨#[107]⟩)]) e.1=none:=by
   rw [gE_push,show gE [some it]=stepE (fun _=>none) (some it) from rfl];simp only [stepE,updK,hk];split
   ·rfl
   ·rfl
  rw [this] at hz;cases hz
 have hkl:=keys_len hat5.idx;rw [hnone] at hkl;have hxl:=hat5.idx.inv.hi;refine ⟨fun _=>⟨Ix.KeyA.mk x5 c5 ⟨#[107]⟩,?_⟩,fun c=>absurd c (by decide)⟩
 (repeat' apply And.intro)<;>first|with_reducible (first|rfl|trivial|assumption)|omega|with_reducible (first|exact RowsEq.refl _ _ _|exact Nat.le_refl _)|(dsimp only [List.length_cons,List.length_nil]<;>omega)|rfl|exact RowsEq.refl _ _ _|exact Nat.le_refl _|(dsimp only at *;omega)|skip
 intro _ _;refine ⟨(),?_,trivial,trivial⟩;rw [hkl];rfl)
theorem callBegunF:CallsBy (Y Tryz.prog).G.X 7 cBegunF:=fn_ok okY (tab:=tabFl) tabFl_ok bodyBegunF
end Go.Proofs.YtfobhkibkdmglaaGreat

namespace Go.Proofs.YtfobhkibkdmglaaGreat
open Go.Sx
set_option maxRecDepth 100000
set_option linter.unusedVariables false
set_option linter.unusedSimpArgs false
def wR:List RecM->Nat
 | []=>0
 | r::rs=>r.body.length+69+wR rs
theorem wR_app:∀ (a b:List RecM),wR (a++b)=wR a+wR b
 | [],b=>by simp [wR]
 | r::a,b=>by
  have:=wR_app a b;simp only [List.cons_append,wR];omega
theorem wR_buf:∀ rs,wR rs=(bufOf rs).length+61*rs.length
 | []=>rfl
 | r::rs=>by
  have:=wR_buf rs;have e:(bufOf (r::rs)).length=8+r.body.length+(bufOf rs).length:=by
   show (recBytes r++bufOf rs).length=_;rw [List.length_append,rec_len]
  simp only [wR,List.length_cons];omega
structure SegOk (g:SegM):Prop where
 buf:g.buf=bufOf g.recs
 ne:1<=g.recs.length
 body:∀ r∈g.recs,1<=r.body.length/\r.body.length<=251
 fits:g.buf.length<=378
structure RunM (sg c:Nat) (L:LogM) (d:DevM):Prop where
 segs:L.segs=sg/\L.from_=0
 dn:d.n=8*sg
 calls:d.calls<=20*c
 next:1<=L.next/\L.next<=1+(c:Int)
 len:L.l.length<=sg
 gen:∃ g0:Int,1<=g0/\g0+L.l.length<=(c:Int)+1/\∀ k,k<L.l.length->(gl L.l k).gen=g0+k
 seg:∀ g∈L.l,SegOk g
 full:∀ k,k+1<L.l.length->120<=(gl L.l k).buf.length
 pos:∀ k,k<(allR L.l).length->(gl (allR L.l) k).pos=L.next - (allR L.l).length+k
 cnt:((allR L.l).length:Int)+1<=L.next
structure Pre1 (sg c n:Nat) (rs:List RecM) (A:List SegM) (g:SegM) (q:Nat):Prop where
 len:A.length+1<=sg
 gen:∃ g0:Int,1<=g0/\g0+A.length+1<=(c:Int)+2/\(∀ k,k<A.length->(gl A k).gen=g0+k)/\g.gen=g0+A.length
 seg:∀ x∈A,SegOk x
 full:∀ k,k<A.length->120<=(gl A k).buf.length
 buf:g.buf=bufOf g.recs
 body:∀ r∈g.recs,1<=r.body.length/\r.body.length<=251
 fits:g.buf.length+n<=370
 all:allR A++g.recs=rs.drop q
 went:q=0\/(q<=rs.length/\A.length+1=sg)
theorem allR_push (A:List SegM) (g:SegM):allR (A++[g])=allR A++g.recs:=by simp [allR]
theorem gl_mem {α:Type} [Inhabited α] {l:List α} {k:Nat} (h:k<l.length):gl l k∈l:=by rw [gl_eq h];exact List.getElem_mem _
theorem mem_gl {α:Type} [Inhabited α] {l:List α} {x:α} (h:x∈l):∃ k,k<l.length/\gl l k=x:=by
 obtain ⟨k,hk,e⟩:=List.getElem_of_mem h;exact ⟨k,hk,by rw [gl_eq hk];exact e⟩
theorem wR_full:∀ {A:List SegM},(∀ x∈A,SegOk x)->(∀ x∈A,120<=x.buf.length)->181*A.length<=wR (allR A)
 | [],_,_=>Nat.zero_le _
 | a::A,h1,h2=>by
  have ih:=wR_full (fun x hx=>h1 x (List.mem_cons_of_mem _ hx)) (fun x hx=>h2 x (List.mem_cons_of_mem _ hx));have h:=h1 a List.mem_cons_self;have hb:=h2 a List.mem_cons_self;have hn:=h.ne;have e:allR (a::A)=a.recs++allR A:=rfl;have hw:=wR_buf a.recs;rw [<- h.buf] at hw;rw [e,wR_app,List.length_cons];omega
theorem drop_pos {rs:List RecM} {next:Int} {q:Nat} {body:List Int} (h:∀ k,k<rs.length->(gl rs k).pos=next - rs.length+k) (hq:q<=rs.length) :
 ∀ k,k<(rs.drop q++[(⟨next,body⟩:RecM)]).length->(gl (rs.drop q++[(⟨next,body⟩:RecM)]) k).pos=next+1 - (rs.drop q++[(⟨next,body⟩:RecM)]).length+k:=fun k hk=>by
 have hl:(rs.drop q).length=rs.length - q:=List.length_drop;have hl2:(rs.drop q++[(⟨next,body⟩:RecM)]).length=rs.length - q+1:=by rw [List.length_append,hl];rfl
 rw [hl2] at hk ⊢;rw [gl_app (by rw [hl];exact hk),hl];by_cases hin:k<rs.length - q
 ·rw [if_pos hin];have e:gl (rs.drop q) k=gl rs (q+k):=by
   rw [gl_eq (by rw [hl];exact hin),gl_eq (show q+k<rs.length by omega),List.getElem_drop]
  rw [e,h (q+k) (by omega)];omega
 ·rw [if_neg hin];show next=_;omega
theorem appL2_seg {L1:LogM} {A:List SegM} {g:SegM} {body:List Int} (hl:L1.l=A++[g]):(appL2 L1 body).l=A++[segApp g L1.next body]:=by
 have hlast:lastG L1=g:=by
  unfold lastG;rw [hl,List.length_append,List.length_singleton,Nat.add_sub_cancel,show A.length=A.length+0 from rfl,gl_append_right];rfl
 show L1.l.set (L1.l.length - 1) (segApp (lastG L1) L1.next body)=_;rw [hlast,hl,List.length_append,List.length_singleton,Nat.add_sub_cancel,List.set_append_right _ _ (Nat.le_refl _),Nat.sub_self];rfl
theorem appD_calls (L:LogM) (d:DevM) (body:List Int):(appD L d body).calls<=d.calls+11:=by
 have h1:(appD1 L d body.length).calls<=d.calls+2:=by
  unfold appD1;split
  ·exact Nat.le_refl _
  ·omega
 have h2:=(writesTo_n (appL1 L body.length) (segW (lastG (appL1 L body.length)) (appL1 L body.length).next body) (lastG (appL1 L body.length)).buf.length (appD1 L d body.length) 8).2;unfold appD appD2;split
 ·simp only [devFl];omega
 ·omega
theorem RunM.newGen {sg c:Nat} {L:LogM} {d:DevM} (h:RunM sg c L d) (hs:4<=sg):∃ g0:Int,1<=g0/\g0+L.l.length<=(c:Int)+1/\(∀ k,k<L.l.length->(gl L.l k).gen=g0+k)/\(newSeg L).gen=g0+L.l.length/\keepN L=L.l.drop (if L.l.length=sg then 1 else 0):=by
 obtain ⟨g0,h1,h2,h3⟩:=h.gen;have hsg:=h.segs.1;have hlen:=h.len;by_cases hl:L.l=[]
 ·refine ⟨1,by omega,by rw [hl,List.length_nil];omega,fun k hk=>by rw [hl] at hk;exact absurd hk (Nat.not_lt_zero k),?_,?_⟩
  ·simp only [newSeg,hl];rfl
  ·unfold keepN;rw [hl];simp
 ·have hk:L.l.length - 1<L.l.length:=by have:=List.length_pos_iff.2 hl;omega
  have e:L.l.getLast? = some (gl L.l (L.l.length - 1)):=by rw [gl_eq hk,List.getLast?_eq_getElem?,List.getElem?_eq_getElem hk]
  have hg:(newSeg L).gen=g0+L.l.length:=by
   have:=h3 _ hk;simp only [newSeg,e];omega
  refine ⟨g0,h1,h2,h3,hg,?_⟩;have hkeep:∀ k,k<L.l.length->keepG (newSeg L).gen L.segs (gl L.l k)=decide (L.l.length<sg+k):=fun k hk=>by
   have:=h3 k hk;unfold keepG;rw [hg,hsg,this,Bool.eq_iff_iff,decide_eq_true_eq,decide_eq_true_eq];omega
  unfold keepN;by_cases hf:L.l.length=sg
  ·rw [if_pos hf];obtain ⟨a,A,hA⟩:∃ a A,L.l=a::A:=by
    cases hL:L.l with
    | nil=>exact absurd hL hl
    | cons a A=>exact ⟨a,A,rfl⟩
   have hlA:L.l.length=A.length+1:=by rw [hA];rfl
   have ha:keepG (newSeg L).gen L.segs a=false:=by
    have:=hkeep 0 (by omega);rw [show gl L.l 0=a by rw [hA];rfl] at this;rw [this];exact decide_eq_false (by omega)
   have hAf:A.filter (keepG (newSeg L).gen L.segs)=A:=by
    rw [List.filter_eq_self];intro x hx;obtain ⟨k,hk,rfl⟩:=mem_gl hx;have:=hkeep (k+1) (by omega);rw [show gl L.l (k+1)=gl A k by rw [hA];rfl] at this;rw [this];exact decide_eq_true (by omega)
   generalize (newSeg L).gen=ng at ha hAf ⊢;rw [hA,List.filter_cons,ha];simpa using hAf
  ·rw [if_neg hf,List.drop_zero,List.filter_eq_self];intro x hx;obtain ⟨k,hk,rfl⟩:=mem_gl hx;rw [hkeep k hk];exact decide_eq_true (by omega)
theorem RunM.pre {sg c:Nat} {L:LogM} {d:DevM} (h:RunM sg c L d) (hs:4<=sg) {n:Nat} (hn:n<=251) :
 ∃ A g q,(appL1 L n).l=A++[g]/\Pre1 sg c n (allR L.l) A g q:=by
 obtain ⟨g0,h1,h2,h3,hg,hk⟩:=h.newGen hs;have hlen:=h.len;cases hB:needB L n with
 | false =>
  rw [show appL1 L n=L from if_neg (by rw [hB];decide)];simp only [needB,Bool.or_eq_false_iff,decide_eq_false_iff_not] at hB;have hne:L.l≠[]:=fun e=>hB.1 (by rw [e];rfl);obtain ⟨A,g,hA⟩:∃ A g,L.l=A++[g]:=⟨_,_,(List.dropLast_concat_getLast hne).symm⟩
  have hlA:L.l.length=A.length+1:=by rw [hA];simp
  have hglA:∀ k,k<A.length->gl L.l k=gl A k:=fun k hk=>by rw [hA,gl_append_left hk]
  have hgl:gl L.l A.length=g:=by rw [hA,show A.length=A.length+0 from rfl,gl_append_right];rfl
  have hlast:lastG L=g:=by unfold lastG;rw [hlA,Nat.add_sub_cancel,hgl]
  have hgo:=h.seg g (by rw [hA];simp);refine ⟨A,g,0,hA,⟨by omega,⟨g0,h1,by omega,fun k hk=>by rw [<- hglA k hk];exact h3 k (by omega),by rw [<- hgl];exact h3 _ (by omega)⟩,fun x hx=>h.seg x (by rw [hA];exact List.mem_append_left _ hx),fun k hk=>by rw [<- hglA k hk];exact h.full k (by omega),hgo.buf,hgo.body,by rw [<- hlast];omega,by rw [hA,allR_push];rfl,.inl rfl⟩⟩
 | true =>
  rw [show appL1 L n=beginL L from if_pos hB];have hnew:newSeg L=⟨(newSeg L).gen,L.next,0,[],[]⟩:=rfl;have hl2:∀ k,k<L.l.length->120<=(gl L.l k).buf.length:=fun k hk=>by
   by_cases hkl:k+1<L.l.length
   ·exact h.full k hkl
   ·have:lastG L=gl L.l k:=by unfold lastG;rw [show L.l.length - 1=k by omega]
    rw [needB,this,Bool.or_eq_true,decide_eq_true_eq,decide_eq_true_eq] at hB;omega
  obtain ⟨o,ho⟩:∃ o,o=if L.l.length=sg then 1 else 0:=⟨_,rfl⟩
  rw [<- ho] at hk;have ho2:(o=0/\L.l.length<sg)\/(o=1/\L.l.length=sg):=by
   rw [ho];split<;>omega
  have hdl:(L.l.drop o).length=L.l.length - o:=List.length_drop;have hdg:∀ k,k<L.l.length - o->gl (L.l.drop o) k=gl L.l (o+k):=fun k hk=>by
   rw [gl_eq (by rw [hdl];exact hk),gl_eq (show o+k<L.l.length by omega),List.getElem_drop]
  refine ⟨L.l.drop o,newSeg L,(allR (L.l.take o)).length,by show keepN L++[newSeg L]=_;rw [hk],⟨by rw [hdl];omega,⟨g0+o,by omega,by rw [hdl];omega,fun k hk=>?_,by rw [hg,hdl];omega⟩,fun x hx=>h.seg x (List.mem_of_mem_drop hx),fun k hk=>?_,by rw [hnew];rfl,fun r hr=>(by rw [hnew] at hr;cases hr),by rw [hnew];show 0+n<=370;omega,?_,?_⟩⟩
  ·rw [hdl] at hk;rw [hdg k hk,h3 _ (by omega)];omega
  ·rw [hdl] at hk;rw [hdg k hk];exact hl2 _ (by omega)
  ·have e:allR L.l=allR (L.l.take o)++allR (L.l.drop o):=by
    unfold allR;rw [<- List.flatMap_append,List.take_append_drop]
   rw [hnew];show allR (L.l.drop o)++[]=_;rw [List.append_nil,e,List.drop_left]
  ·rcases ho2 with ⟨h0,hlt⟩ | ⟨h0,hlt⟩
   ·left;rw [h0];rfl
   ·right;have e:allR L.l=allR (L.l.take o)++allR (L.l.drop o):=by
     unfold allR;rw [<- List.flatMap_append,List.take_append_drop]
    exact ⟨by rw [e,List.length_append];omega,by rw [hdl];omega⟩
theorem RunM.append {sg c:Nat} {L:LogM} {d:DevM} (h:RunM sg c L d) (hs:4<=sg) {body:List Int} (hb:1<=body.length/\body.length<=251) :
 RunM sg (c+1) (appL L body) (appD L d body)/\(appL L body).next=L.next+1/\∃ q,q<=(allR L.l).length/\allR (appL L body).l=(allR L.l).drop q++[⟨L.next,body⟩]/\(q=0\/181*(sg - 1)+70<=wR (allR (appL L body).l)):=by
 obtain ⟨A,g,q,hl,hp⟩:=h.pre hs (n:=body.length) hb.2;have hn1:(appL1 L body.length).next=L.next/\(appL1 L body.length).segs=L.segs/\(appL1 L body.length).from_=L.from_:=by
  unfold appL1;split<;>exact ⟨rfl,rfl,rfl⟩
 have hl2:(appL L body).l=A++[segApp g L.next body]:=by
  have:=appL2_seg (body:=body) hl;rw [hn1.1] at this;exact this
 have hrec:(segApp g L.next body).recs=g.recs++[⟨L.next,body⟩]:=rfl;have hbuf:(segApp g L.next body).buf=bufOf (g.recs++[⟨L.next,body⟩]):=by
  rw [bufOf_push];show bufApp g L.next body=_
  unfold bufApp recBytes;rw [hp.buf,List.append_assoc]
 have hlen:(segApp g L.next body).buf.length=g.buf.length+(8+body.length):=by
  rw [hbuf,bufOf_push,List.length_append,rec_len,hp.buf]
 have hgo:SegOk (segApp g L.next body):=⟨hbuf,by rw [hrec,List.length_append,List.length_singleton];omega,fun r hr=>by
  rw [hrec] at hr;rcases List.mem_append.1 hr with hr|hr
  ·exact hp.body r hr
  ·have:r=⟨L.next,body⟩:=by simpa using hr
   rw [this];exact hb,by rw [hlen];have:=hp.fits;omega⟩
 have hq:q<=(allR L.l).length:=by rcases hp.went with h|h<;>omega
 have hall:allR (appL L body).l=(allR L.l).drop q++[⟨L.next,body⟩]:=by
  rw [hl2,allR_push,hrec,<- List.append_assoc,hp.all]
 obtain ⟨g0,k1,k2,k3,k4⟩:=hp.gen;have hnext:(appL L body).next=L.next+1:=by show (appL1 L body.length).next+1=_;rw [hn1.1]
 have hcl:=appD_calls L d body;have hc:=h.calls;have hnx:=h.next
 have hl3:(appL L body).l.length=A.length+1:=by rw [hl2];simp
 have hglA:∀ k,k<A.length->gl (appL L body).l k=gl A k:=fun k hk=>by rw [hl2,gl_append_left hk]
 have hgl:gl (appL L body).l A.length=segApp g L.next body:=by rw [hl2,show A.length=A.length+0 from rfl,gl_append_right];rfl
 refine ⟨⟨⟨hn1.2.1.trans h.segs.1,hn1.2.2.trans h.segs.2⟩,(appD_n _ _ _).trans h.dn,by omega,by rw [hnext];omega,by rw [hl3];exact hp.len,⟨g0,k1,by rw [hl3];omega,fun k hk=>?_⟩,fun x hx=>?_,fun k hk=>?_,?_,?_⟩,hnext,q,hq,hall,?_⟩
 ·rw [hl3] at hk;by_cases e:k<A.length
  ·rw [hglA k e];exact k3 k e
  ·obtain rfl:k=A.length:=by omega
   rw [hgl];exact k4
 ·rw [hl2] at hx;rcases List.mem_append.1 hx with hx|hx
  ·exact hp.seg x hx
  ·have:x=segApp g L.next body:=by simpa using hx
   rw [this];exact hgo
 ·rw [hl3] at hk;rw [hglA k (by omega)];exact hp.full k (by omega)
 ·rw [hall,hnext];exact drop_pos h.pos hq
 ·rw [hall,hnext,List.length_append,List.length_drop,List.length_singleton];have:=h.cnt;omega
 ·rcases hp.went with h0 | ⟨_,h1⟩
  ·exact .inl h0
  ·right;have hf:=wR_full hp.seg fun x hx=>by
    obtain ⟨k,hk,rfl⟩:=mem_gl hx;exact hp.full k hk
   have hw:=wR_buf (segApp g L.next body).recs;rw [<- hgo.buf] at hw;have hne:=hgo.ne;rw [hl2,allR_push,wR_app];have:A.length=sg - 1:=by omega
   rw [this] at hf;omega
end Go.Proofs.YtfobhkibkdmglaaGreat

namespace Go.Proofs.YtfobhkibkdmglaaGreat
open Go.Sx
set_option maxRecDepth 100000
set_option linter.unusedVariables false
set_option linter.unusedSimpArgs false
def costI (x:ItemM):Nat:=x.key.size+x.val.size+80
def costs:List ItemM->Nat
 | []=>0
 | x::r=>costI x+costs r
def afterI (xs:List ItemM) (i:Nat):Nat:=costs (xs.drop i)
theorem costs_app:∀ (a b:List ItemM),costs (a++b)=costs a+costs b
 | [],b=>by simp [costs]
 | x::a,b=>by
  have:=costs_app a b;simp only [List.cons_append,costs];omega
theorem costs_drop:∀ (xs:List ItemM) (i k:Nat),i<=k->costs (xs.drop k)<=costs (xs.drop i)
 | xs,0,k,_=>by
  rw [List.drop_zero];have:=costs_app (xs.take k) (xs.drop k);rw [List.take_append_drop] at this;omega
 | [],i+1,k,_=>by simp
 | x::xs,i+1,0,h=>absurd h (by omega)
 | x::xs,i+1,k+1,h=>costs_drop xs i k (by omega)
theorem after_step {xs:List ItemM} {i:Nat} (h:i<xs.length):afterI xs i=costI (gl xs i)+afterI xs (i+1):=by
 unfold afterI;rw [List.drop_eq_getElem_cons h,gl_eq h];rfl
theorem w_body {x:ItemM} (h:mayB x=true):(bodyOf (some x)).length+69<=costI x:=by
 have:=(itemB_250 h).1;simp only [bodyOf,List.length_cons,costI];omega
theorem wR_le:∀ {rs:List RecM} {ys:List ItemM},rs.length=ys.length->(∀ y∈ys,mayB y=true)->(∀ k,k<rs.length->(gl rs k).body=bodyOf (some (gl ys k)))->wR rs<=costs ys
 | [],_,_,_,_=>Nat.zero_le _
 | r::rs,[],h,_,_=>by cases h
 | r::rs,y::ys,h,hm,hb=>by
  have ih:=wR_le (rs:=rs) (ys:=ys) (by simpa using h) (fun z hz=>hm z (List.mem_cons_of_mem _ hz)) (fun k hk=>hb (k+1) (by simpa using hk));have h0:r.body=bodyOf (some y):=hb 0 (by simp);have:=w_body (hm y List.mem_cons_self);simp only [wR,costs,h0];omega
structure AllM (sg c:Nat) (xs:List ItemM) (m:FlM):Prop where
 run:RunM sg c m.L m.d
 may:∀ x∈xs,mayB x=true
 body:∀ i,i<xs.length->xs.length - i<=(allR m.L.l).length->(gl (allR m.L.l) ((allR m.L.l).length - (xs.length - i))).body=bodyOf (some (gl xs i))
 gone:∀ i,i<xs.length->(allR m.L.l).length<xs.length - i->200*(sg - 2)<afterI xs i
 ents:∀ e,e∈m.l↔∃ i,i<xs.length/\xs.length - i<=(allR m.L.l).length/\(gl xs i).gone=false/\(∀ j,i<j->j<xs.length->(gl xs j).key≠(gl xs i).key)/\e=((gl xs i).key,m.L.next - ((xs.length - i:Nat):Int))
 few:m.l.length<=c
theorem AllM.new {sg:Nat} {d:DevM} (h:d.n=8*sg) (hc:d.calls=0):AllM sg 0 [] (newF 0 sg d):=by
 refine ⟨⟨⟨rfl,rfl⟩,h,by show d.calls<=0;omega,by show (1:Int)<=1/\(1:Int)<=1+(0:Nat);omega,Nat.zero_le _,⟨1,by omega,by show (1:Int)+(0:Nat)<=(0:Nat)+1;omega,fun k hk=>absurd hk (Nat.not_lt_zero k)⟩,fun g hg=>(by cases hg),fun k hk=>absurd hk (Nat.not_lt_zero _),fun k hk=>absurd hk (Nat.not_lt_zero k),by show ((0:Nat):Int)+1<=1;omega⟩,fun x hx=>(by cases hx),fun i hi=>absurd hi (Nat.not_lt_zero i),fun i hi=>absurd hi (Nat.not_lt_zero i),fun e=>⟨fun he=>(by cases he),?_⟩,Nat.le_refl _⟩;rintro ⟨i,hi,_⟩;exact absurd hi (Nat.not_lt_zero i)
theorem RunM.ok {sg c:Nat} {L:LogM} {d:DevM} (h:RunM sg c L d) (hs:4<=sg/\sg<=15) (hc:c<1000):LogOk L d:=by
 obtain ⟨g0,h1,h2,h3⟩:=h.gen;obtain ⟨s1,s2⟩:=h.segs;have hdn:=h.dn;have hcl:=h.calls;have hnx:=h.next
 have hlen:=h.len;refine ⟨by omega,by omega,by omega,by omega,by omega,by omega,fun j hj=>by have:=h3 j hj;omega,fun j hj=>(h.seg _ (gl_mem hj)).fits,fun j hj=>?_⟩;have hg:=h.seg _ (gl_mem hj);have hw:=wR_buf (gl L.l j).recs;rw [<- hg.buf] at hw;have:∀ rs:List RecM,(∀ r∈rs,1<=r.body.length)->rs.length*9<=(bufOf rs).length:=fun rs=>by
  induction rs with
  | nil=>exact fun _=>Nat.zero_le _
  | cons r rs ih =>
   intro hr;have h1:=ih fun x hx=>hr x (List.mem_cons_of_mem _ hx);have h2:=hr r List.mem_cons_self;have e:(bufOf (r::rs)).length=8+r.body.length+(bufOf rs).length:=by
    show (recBytes r++bufOf rs).length=_;rw [List.length_append,rec_len]
   rw [List.length_cons];omega
 have:=this (gl L.l j).recs fun r hr=>(hg.body r hr).1;rw [hg.buf];exact this
theorem RunM.rd {sg c:Nat} {L:LogM} {d:DevM} (h:RunM sg c L d) (hs:4<=sg/\sg<=15) (hc:c<1000):LogRd L (allR L.l):=by
 have hlen:=h.len;have hnx:=h.next
 have hok:=h.ok hs hc;have hcnt:=h.cnt;refine ⟨rfl,by omega,⟨fun i j hij hj=>?_,fun i hi=>?_⟩,fun r hr=>?_,fun j hj=>?_⟩
 ·rw [h.pos i (by omega),h.pos j hj];omega
 ·rw [h.pos i hi];omega
 ·obtain ⟨g,hg,hr⟩:=List.mem_flatMap.1 hr;have:=(h.seg g hg).body r hr;omega
 ·have:=hok.recs j hj;have:=hok.buf j hj;omega
theorem gl_drop {α:Type} [Inhabited α] {l:List α} {q k:Nat} (h:k<l.length - q):gl (l.drop q) k=gl l (q+k):=by
 rw [gl_eq (by rw [List.length_drop];exact h),gl_eq (show q+k<l.length by omega),List.getElem_drop]
def stepF (m:FlM) (x:ItemM):FlM:={ addF m (bodyOf (some x)) with l:=if x.gone then dropK (addF m (bodyOf (some x))).l x.key else putK (addF m (bodyOf (some x))).l x.key m.L.next }
theorem AllM.add {sg c:Nat} {xs:List ItemM} {m:FlM} (h:AllM sg c xs m) (hs:4<=sg/\sg<=15) {x:ItemM} (hx:mayB x=true):AllM sg (c+1) (xs++[x]) (stepF m x):=by
 obtain ⟨body,hbody⟩:∃ b,b=bodyOf (some x):=⟨_,rfl⟩
 have hb:1<=body.length/\body.length<=251:=by rw [hbody];exact bodyOf_len fun z e=>by cases e;exact hx
 obtain ⟨r1,r2,q,hq,r3,r4⟩:=h.run.append hs.1 hb;obtain ⟨rs,hrs⟩:∃ rs,rs=allR m.L.l:=⟨_,rfl⟩
 obtain ⟨rs',hrs'⟩:∃ rs,rs=allR (appL m.L body).l:=⟨_,rfl⟩
 rw [<- hrs] at hq;rw [<- hrs,<- hrs'] at r3;rw [<- hrs'] at r4;have hcnt:=h.run.cnt;rw [<- hrs] at hcnt;have hN:rs'.length=rs.length - q+1:=by rw [r3,List.length_append,List.length_drop];rfl
 have hlen:(xs++[x]).length=xs.length+1:=by simp
 have hglx:∀ i,i<xs.length->gl (xs++[x]) i=gl xs i:=fun i hi=>gl_append_left hi;have hgln:gl (xs++[x]) xs.length=x:=by rw [show xs.length=xs.length+0 from rfl,gl_append_right];rfl
 have hbd:=h.body;rw [<- hrs] at hbd;have hgn:=h.gone;rw [<- hrs] at hgn;have hen:=h.ents;rw [<- hrs] at hen;have hmay:∀ z∈xs++[x],mayB z=true:=fun z hz=>by
  rcases List.mem_append.1 hz with hz|hz
  ·exact h.may z hz
  ·have:z=x:=by simpa using hz
   rw [this];exact hx
 have hfirst:firstF (appL m.L body)=m.L.next+1 - rs'.length:=by
  have hp:=r1.pos 0 (by rw [<- hrs',hN];omega);rw [<- hrs',r2] at hp;unfold firstF;rw [first_pos,<- hrs'];cases hr:rs' with
  | nil=>rw [hr] at hN;simp at hN
  | cons a l =>
   rw [hr] at hp;have:(gl (a::l) 0).pos=a.pos:=rfl;show a.pos=_;omega
 have hB:∀ i,i<xs.length+1->xs.length+1 - i<=rs'.length->(gl rs' (rs'.length - (xs.length+1 - i))).body=bodyOf (some (gl (xs++[x]) i)):=fun i hi hr=>by
  have hdl:(rs.drop q).length=rs.length - q:=List.length_drop;by_cases e:i=xs.length
  ·subst e;rw [hgln,show rs'.length - (xs.length+1 - xs.length)=(rs.drop q).length+0 by rw [hdl];omega,r3,gl_append_right];exact hbody
  ·rw [hglx i (by omega),<- hbd i (by omega) (by omega),r3,gl_append_left (by rw [hdl,<- r3];omega),<- r3,gl_drop (by omega)];congr 2;omega
 have hF:(stepF m x).L=appL m.L body/\(stepF m x).d=appD m.L m.d body/\(stepF m x).l=(if x.gone then dropK (m.l.filter fun e=>decide (firstF (appL m.L body)<=e.2)) x.key else putK (m.l.filter fun e=>decide (firstF (appL m.L body)<=e.2)) x.key m.L.next):=by
  rw [hbody];exact ⟨rfl,rfl,rfl⟩
 obtain ⟨f1,f2,f3⟩:=hF;have hfilt:=List.length_filter_le (fun e:ByteArray × Int=>decide (firstF (appL m.L body)<=e.2)) m.l;have hfew:=h.few;refine ⟨by rw [f1,f2];exact r1,hmay,?_,?_,fun e=>?_,?_⟩
 ·rw [f1,<- hrs',hlen];exact hB
 ·rw [f1,<- hrs',hlen];intro i hi hr;have hi2:i<xs.length:=by omega
  have hold:afterI xs i<=afterI (xs++[x]) i:=by
   unfold afterI;rw [List.drop_append_of_le_length (by omega),costs_app];omega
  by_cases hg:rs.length<xs.length - i
  ·exact Nat.lt_of_lt_of_le (hgn i hi2 hg) hold
  ·have hw:=r4.resolve_left (by omega);have hle:wR rs'<=costs ((xs++[x]).drop (xs.length+1 - rs'.length)):=by
    refine wR_le (by rw [List.length_drop,hlen];omega) (fun y hy=>hmay y (List.mem_of_mem_drop hy)) fun k hk=>?_;have:=hB (xs.length+1 - rs'.length+k) (by omega) (by omega);rw [gl_drop (by rw [hlen];omega),<- this];congr 2;omega
   have h1:=after_step (xs:=xs++[x]) (i:=i) (by rw [hlen];omega);have h2:=costs_drop (xs++[x]) (i+1) (xs.length+1 - rs'.length) (by omega);have h3:80<=costI (gl (xs++[x]) i):=by unfold costI;omega
   show _<afterI (xs++[x]) i;rw [h1];show _<_+costs ((xs++[x]).drop (i+1));omega
 ·rw [f1,f3,<- hrs',hlen,r2];have key:∀ e,(e∈m.l.filter fun e=>decide (firstF (appL m.L body)<=e.2))/\e.1≠x.key↔∃ i,i<xs.length/\xs.length+1 - i<=rs'.length/\(gl (xs++[x]) i).gone=false/\(∀ j,i<j->j<xs.length+1->(gl (xs++[x]) j).key≠(gl (xs++[x]) i).key)/\e=((gl (xs++[x]) i).key,m.L.next+1 - ((xs.length+1 - i:Nat):Int)):=fun e=>by
   rw [List.mem_filter,decide_eq_true_eq,hen,hfirst];constructor
   ·rintro ⟨⟨⟨i,h1,h2,h3,h4,rfl⟩,h5⟩,h6⟩;dsimp only at h5 h6;refine ⟨i,h1,by omega,by rw [hglx i h1];exact h3,fun j hj hj2=>?_,by rw [hglx i h1,Prod.mk.injEq];exact ⟨rfl,by omega⟩⟩;rw [hglx i h1];by_cases e:j=xs.length
    ·rw [e,hgln];exact fun e=>h6 e.symm
    ·rw [hglx j (by omega)];exact h4 j hj (by omega)
   ·rintro ⟨i,h1,h2,h3,h4,rfl⟩;rw [hglx i h1] at h3 h4 ⊢;refine ⟨⟨⟨i,h1,by omega,h3,fun j hj hj2=>?_,by rw [Prod.mk.injEq];exact ⟨rfl,by omega⟩⟩,by dsimp only;omega⟩,fun e=>?_⟩
    ·have:=h4 j hj (by omega);rwa [hglx j hj2] at this
    ·have:=h4 xs.length h1 (by omega);rw [hgln] at this;exact this e.symm
  cases hg:x.gone with
  | true =>
   simp only [if_true];rw [mem_dropK,key];constructor
   ·rintro ⟨i,h1,h2⟩;exact ⟨i,by omega,h2⟩
   ·rintro ⟨i,h1,h2,h3,h4⟩;by_cases e:i=xs.length
    ·rw [e,hgln,hg] at h3;cases h3
    ·exact ⟨i,by omega,h2,h3,h4⟩
  | false =>
   show e∈(x.key,m.L.next)::dropK _ _↔_;rw [List.mem_cons,mem_dropK,key];constructor
   ·rintro (rfl | ⟨i,h1,h2⟩)
    ·exact ⟨xs.length,by omega,by omega,by rw [hgln];exact hg,fun j hj hj2=>absurd hj2 (by omega),by rw [hgln,Prod.mk.injEq];exact ⟨rfl,by omega⟩⟩
    ·exact ⟨i,by omega,h2⟩
   ·rintro ⟨i,h1,h2,h3,h4,rfl⟩;by_cases e:i=xs.length
    ·left;rw [e,hgln,Prod.mk.injEq];exact ⟨rfl,by omega⟩
    ·exact .inr ⟨i,by omega,h2,h3,h4,rfl⟩
 ·rw [f3];split
  ·have:=dropK_len (m.l.filter fun e=>decide (firstF (appL m.L body)<=e.2)) x.key;omega
  ·have:=putK_len (m.l.filter fun e=>decide (firstF (appL m.L body)<=e.2)) x.key m.L.next;omega
end Go.Proofs.YtfobhkibkdmglaaGreat

namespace Go.Proofs.YtfobhkibkdmglaaGreat
open Go.Sx
set_option maxRecDepth 100000
set_option linter.unusedVariables false
set_option linter.unusedSimpArgs false
theorem RunM.mono {sg c c':Nat} {L:LogM} {d:DevM} (h:RunM sg c L d) (hc:c<=c'):RunM sg c' L d:=by
 obtain ⟨g0,h1,h2,h3⟩:=h.gen;exact ⟨h.segs,h.dn,by have:=h.calls;omega,by have:=h.next;omega,h.len,⟨g0,h1,by omega,h3⟩,h.seg,h.full,h.pos,h.cnt⟩
theorem AllM.mono {sg c c':Nat} {xs:List ItemM} {m:FlM} (h:AllM sg c xs m) (hc:c<=c'):AllM sg c' xs m:=⟨h.run.mono hc,h.may,h.body,h.gone,h.ents,by have:=h.few;omega⟩
theorem RunM.tick {sg c:Nat} {L:LogM} {d:DevM} (h:RunM sg c L d):RunM sg (c+1) L (devFl d):=by
 obtain ⟨g0,h1,h2,h3⟩:=h.gen;exact ⟨h.segs,h.dn,by have:=h.calls;simp only [devFl];omega,by have:=h.next;omega,h.len,⟨g0,h1,by omega,h3⟩,h.seg,h.full,h.pos,h.cnt⟩
theorem AllM.flush {sg c:Nat} {xs:List ItemM} {m:FlM} (h:AllM sg c xs m):AllM sg (c+1) xs (flushF m):=⟨h.run.tick,h.may,h.body,h.gone,h.ents,by have:=h.few;show m.l.length<=c+1;omega⟩
theorem AllM.ok {sg c k:Nat} {xs:List ItemM} {m:FlM} (h:AllM sg c xs m) (hs:4<=sg/\sg<=15) (hc:c<1000):FlOk m k:=⟨h.run.ok hs hc,by have:=h.few;omega⟩
theorem putF_step {m:FlM} {x:ItemM} (h:putOk x=true):putF m x=stepF m x:=by
 have h2:mayB x=true/\x.gone=false:=by unfold putOk at h;simpa using h
 unfold putF stepF;rw [if_pos h,h2.2];rfl
theorem AllM.wipe {sg c:Nat} {xs:List ItemM} {m:FlM} (h:AllM sg c xs m) (hs:4<=sg/\sg<=15):AllM sg (c+2) [] (flushF { addF m [2] with l:=[] }):=by
 obtain ⟨r1,_⟩:=h.run.append hs.1 (body:=[2]) (by decide);refine ⟨r1.tick,fun x hx=>(by cases hx),fun i hi=>absurd hi (Nat.not_lt_zero i),fun i hi=>absurd hi (Nat.not_lt_zero i),fun e=>⟨fun he=>(by cases he),?_⟩,Nat.zero_le _⟩;rintro ⟨i,hi,_⟩;exact absurd hi (Nat.not_lt_zero i)
def lastTo (xs:List ItemM) (key:ByteArray):Nat->Option Nat
 | 0=>none
 | k+1=>if decide ((gl xs k).key=key)&&!decide (key=ByteArray.mk #[]) then some k else lastTo xs key k
theorem lastTo_some {xs:List ItemM} {key:ByteArray} {i:Nat}:∀ n,lastTo xs key n=some i->(∀ j,j<n->(gl xs j).key≠ByteArray.mk #[])->i<n/\(gl xs i).key=key/\∀ j,i<j->j<n->(gl xs j).key≠key
 | 0,h,_=>by cases h
 | n+1,h,hk=>by
  unfold lastTo at h;by_cases hc:(decide ((gl xs n).key=key)&&!decide (key=ByteArray.mk #[]))=true
  ·rw [if_pos hc] at h;cases h;simp only [Bool.and_eq_true,decide_eq_true_eq] at hc;exact ⟨by omega,hc.1,fun j h1 h2=>absurd h2 (by omega)⟩
  ·rw [if_neg hc] at h;obtain ⟨h1,h2,h3⟩:=lastTo_some n h fun j hj=>hk j (by omega);refine ⟨by omega,h2,fun j hj hj2=>?_⟩;by_cases e:j=n
   ·subst e;intro e;apply hc;rw [Bool.and_eq_true,decide_eq_true_eq];refine ⟨e,?_⟩;rw [<- e];simpa using hk j (by omega)
   ·exact h3 j hj (by omega)
theorem lastTo_none {xs:List ItemM} {key:ByteArray}:∀ n,lastTo xs key n=none->(∀ j,j<n->(gl xs j).key≠ByteArray.mk #[])->∀ j,j<n->(gl xs j).key≠key
 | 0,_,_=>fun j hj=>absurd hj (Nat.not_lt_zero j)
 | n+1,h,hk=>fun j hj e=>by
  unfold lastTo at h;by_cases hc:(decide ((gl xs n).key=key)&&!decide (key=ByteArray.mk #[]))=true
  ·rw [if_pos hc] at h;cases h
  ·rw [if_neg hc] at h;by_cases e2:j=n
   ·subst e2;apply hc;rw [Bool.and_eq_true,decide_eq_true_eq];refine ⟨e,?_⟩;rw [<- e];simpa using hk j (by omega)
   ·exact lastTo_none n h (fun j hj=>hk j (by omega)) j (by omega) e
def entR (xs:List ItemM) (N:Nat) (key:ByteArray):Option ItemM:=match lastTo xs key xs.length with
 | none=>none
 | some i=>if (gl xs i).gone||decide (N<xs.length - i) then none else some (gl xs i)
theorem AllM.key {sg c:Nat} {xs:List ItemM} {m:FlM} (h:AllM sg c xs m):∀ j,j<xs.length->(gl xs j).key≠ByteArray.mk #[]:=fun j hj e=>by
 have:=(may_out (h.may _ (gl_mem hj))).1;have hm:=h.may _ (gl_mem hj);unfold mayB keyB at hm;rw [e] at hm;simp at hm
theorem AllM.ent {sg c:Nat} {xs:List ItemM} {m:FlM} (h:AllM sg c xs m) (hs:4<=sg/\sg<=15) (hc:c<1000) (key:ByteArray):EntIs m key (entR xs (allR m.L.l).length key):=by
 have hrd:=h.run.rd hs hc;have no:(∀ i,i<xs.length->xs.length - i<=(allR m.L.l).length->(gl xs i).gone=false->(∀ j,i<j->j<xs.length->(gl xs j).key≠(gl xs i).key)->(gl xs i).key≠key)->EntIs m key none:=fun hn=>by
  left;intro hm;obtain ⟨e,he,rfl⟩:=List.mem_map.1 hm;obtain ⟨i,h1,h2,h3,h4,rfl⟩:=(h.ents e).1 he;exact hn i h1 h2 h3 h4 rfl
 unfold entR;cases hl:lastTo xs key xs.length with
 | none=>exact no fun i h1 _ _ _=>lastTo_none _ hl h.key i h1
 | some i =>
  obtain ⟨h1,h2,h3⟩:=lastTo_some _ hl h.key;have uniq:∀ i',i'<xs.length->(∀ j,i'<j->j<xs.length->(gl xs j).key≠(gl xs i').key)->(gl xs i').key=key->i'=i:=fun i' g1 g2 g3=>by
   have a1:¬ i<i':=fun hlt=>h3 i' hlt g1 g3;have a2:¬ i'<i:=fun hlt=>g2 i hlt h1 (by rw [h2,g3]);omega
  show EntIs m key (if (gl xs i).gone||decide ((allR m.L.l).length<xs.length - i) then none else some (gl xs i));by_cases hg:((gl xs i).gone||decide ((allR m.L.l).length<xs.length - i))=true
  ·rw [if_pos hg];rw [Bool.or_eq_true,decide_eq_true_eq] at hg;refine no fun i' g1 g2 g3 g4 e=>?_;have:=uniq i' g1 g4 e;subst this;rcases hg with hg|hg
   ·rw [hg] at g3;cases g3
   ·omega
  ·rw [if_neg hg];rw [Bool.not_eq_true,Bool.or_eq_false_iff,decide_eq_false_iff_not] at hg;have hr:xs.length - i<=(allR m.L.l).length:=by omega
   have hb:=h.body i h1 hr;have hp:=h.run.pos ((allR m.L.l).length - (xs.length - i)) (by omega);refine ⟨m.L.next - ((xs.length - i:Nat):Int),(h.ents _).2 ⟨i,h1,hr,hg.1,fun j hj hj2=>by rw [h2];exact h3 j hj hj2,by rw [h2]⟩,?_,h.may _ (gl_mem h1)⟩;have hm:gl (allR m.L.l) ((allR m.L.l).length - (xs.length - i))∈allR m.L.l:=gl_mem (by omega);have:=read_pos (sortedR_iff.1 hrd.sort).1 hm;rw [hb,hp] at this;rw [<- this];congr 1;omega
theorem AllM.flRd {sg c:Nat} {xs:List ItemM} {m:FlM} (h:AllM sg c xs m) (hs:4<=sg/\sg<=15) (hc:c<1000):FlRd m:=by
 have hrd:=h.run.rd hs hc;have hnx:=h.run.next
 have hcnt:=h.run.cnt;refine ⟨hrd.few,hrd.segs,fun e he=>?_⟩;obtain ⟨i,h1,h2,_,_,rfl⟩:=(h.ents e).1 he;dsimp only;omega
def eqI (a b:ItemM):Bool:=decide (a.key=b.key)&&decide (a.val=b.val)&&decide (a.e=b.e)&&(a.gone == b.gone)
def noneB (r:Option ItemM) (now:Int):Bool:=!(getR r now).isSome&&decide (((getR r now).getD zeroItem).key=ByteArray.mk #[])
def rightB (xs:List ItemM) (sg:Int) (r:Option ItemM) (key:ByteArray) (now:Int):Bool:=match lastTo xs key xs.length with
 | none=>noneB r now
 | some i=>if liveB (gl xs i) now then (if (getR r now).isSome then eqI ((getR r now).getD zeroItem) (gl xs i) else decide (200*(sg - 2)<(afterI xs i:Int))) else noneB r now
theorem AllM.right {sg c:Nat} {xs:List ItemM} {m:FlM} (h:AllM sg c xs m) (hs:4<=sg/\sg<=15) (key:ByteArray) (now:Int):rightB xs (sg:Int) (entR xs (allR m.L.l).length key) key now=true:=by
 obtain ⟨r,hr⟩:∃ r,r=entR xs (allR m.L.l).length key:=⟨_,rfl⟩
 rw [<- hr];unfold rightB;unfold entR at hr;cases hl:lastTo xs key xs.length with
 | none =>
  rw [hl] at hr;rw [show r=none from hr];rfl
 | some i =>
  rw [hl] at hr;have hr:r=if ((gl xs i).gone||decide ((allR m.L.l).length<xs.length - i))=true then none else some (gl xs i):=hr;obtain ⟨h1,h2,h3⟩:=lastTo_some _ hl h.key;dsimp only;by_cases hlive:liveB (gl xs i) now=true
  ·rw [if_pos hlive];have hg:(gl xs i).gone=false:=by
    unfold liveB at hlive;simp only [Bool.and_eq_true] at hlive;simpa using hlive.1.2
   by_cases hN:(allR m.L.l).length<xs.length - i
   ·have hgone:=h.gone i h1 hN;rw [show r=none by rw [hr];exact if_pos (by rw [decide_eq_true hN,Bool.or_true])];show (if (none:Option ItemM).isSome=true then _ else decide (200*((sg:Int) - 2)<(afterI xs i:Int)))=true;rw [if_neg (by decide)];exact decide_eq_true (by omega)
   ·rw [show r=some (gl xs i) by rw [hr];exact if_neg (by rw [decide_eq_false hN,hg];decide)];have e:getR (some (gl xs i)) now=some (gl xs i):=by simp [getR,hlive]
    rw [e];simp [eqI]
  ·rw [if_neg hlive];have e:getR r now=none:=by
    rw [hr];split
    ·rfl
    ·simp [getR,hlive]
   unfold noneB;rw [e];rfl
end Go.Proofs.YtfobhkibkdmglaaGreat

namespace Go.Proofs.YtfobhkibkdmglaaGreat
open Go.Sx
set_option maxRecDepth 100000
set_option linter.unusedVariables false
set_option linter.unusedSimpArgs false
def cutB (s:ByteArray) (n:Int):ByteArray:=if n<s.size then s.extract 0 n.toNat else s
noncomputable def cCut:Con where
 α:=ByteArray × Int
 β:=Unit
 m:=0
 m':=0
 pre:=fun a=>0<=a.2
 args:=fun a=>[.a (.str a.1),.a (.int .i64 a.2)]
 hp:=fun _=>[]
 ro:=fun _=>[]
 post:=fun _ _=>True
 res:=fun a _=>.a (.str (cutB a.1 a.2))
 hp':=fun _ _=>[]
set_option maxHeartbeats 4000000 in
theorem bodyCut:fnBody (Y Tryz.prog) [] 27 cCut fun _=>[]:=fnBody.of (p :=
 ∀ a:ByteArray × Int,(0:Int)<=a.snd->(decide (a.snd<(↑a.fst.size:Int))=true->((0:Int)<=a.snd/\a.snd<=(↑a.fst.size:Int))/\∃ b:Unit,a.fst.extract 0 a.snd.toNat=cutB a.fst a.snd/\True/\True)/\(decide (a.snd<(↑a.fst.size:Int))=false->∃ b:Unit,a.fst=cutB a.fst a.snd/\True/\True)) (by kernel_rfl) (by
 intro a h;refine ⟨fun h1=>?_,fun h1=>⟨(),?_,trivial,trivial⟩⟩
 ·have h2:a.2<a.1.size:=by simpa using h1
  exact ⟨by omega,(),by simp [cutB,h2],trivial,trivial⟩
 ·have h2:¬ a.2<a.1.size:=by simpa using h1
  simp [cutB,h2])
theorem callCut:CallsBy (Y Tryz.prog).G.X 27 cCut:=fn_ok okY (tab:=[]) trivial bodyCut
def cutI (x:ItemM):ItemM:=⟨cutB x.key 50,cutB x.val 210,x.e,x.gone⟩
noncomputable def cCutI:Con where
 α:=ItemM
 β:=Unit
 m:=0
 m':=0
 pre:=fun _=>True
 args:=fun x=>[.agg (itemA x)]
 hp:=fun _=>[]
 ro:=fun _=>[]
 post:=fun _ _=>True
 res:=fun x _=>.agg (itemA (cutI x))
 hp':=fun _ _=>[]
set_option maxHeartbeats 4000000 in
theorem bodyCutI:fnBody (Y Tryz.prog) [(27,cCut)] 10 cCutI fun _=>[]:=fnBody.of (p :=
 ∀ a:ItemM,True->∃ a_2:ByteArray × Int,a.key=a_2.fst/\(50:Int)=a_2.snd/\(0:Int)<=a_2.snd/\∀ b:Unit,True->∃ a_4:ByteArray × Int,a.val=a_4.fst/\(210:Int)=a_4.snd/\(0:Int)<=a_4.snd/\∀ b:Unit,True->∃ b:Unit,cutB a_2.fst a_2.snd=(cutI a).key/\cutB a_4.fst a_4.snd=(cutI a).val/\a.e=(cutI a).e/\a.gone=(cutI a).gone/\True/\True) (by kernel_rfl) (by
 intro x _;exact ⟨(x.key,50),rfl,rfl,by show (0:Int)<=50;omega,fun _ _=>⟨(x.val,210),rfl,rfl,by show (0:Int)<=210;omega,fun _ _=>⟨(),rfl,rfl,rfl,rfl,trivial,trivial⟩⟩⟩)
theorem callCutI:CallsBy (Y Tryz.prog).G.X 10 cCutI:=fn_ok okY (tab:=[(27,cCut)]) ⟨callCut,trivial⟩ bodyCutI
noncomputable def cRKey:Con where
 α:=ByteArray
 β:=Unit
 m:=0
 m':=0
 pre:=fun _=>True
 args:=fun k=>[.a (.str k)]
 hp:=fun _=>[]
 ro:=fun _=>[]
 post:=fun _ _=>True
 res:=fun k _=>.a (.bool (keyB k))
 hp':=fun _ _=>[]
set_option maxHeartbeats 4000000 in
theorem bodyRKey:fnBody (Y Tryz.prog) [] 14 cRKey fun _=>[]:=fnBody.of (p :=
 ∀ a:ByteArray,True->(decide (1<=(↑a.size:Int))=true->∃ b:Unit,decide ((↑a.size:Int)<=40)=keyB a/\True/\True)/\(decide (1<=(↑a.size:Int))=false->∃ b:Unit,false=keyB a/\True/\True)) (by kernel_rfl) (by
 intro k _;have hs:∀ k:ByteArray,1<=(k.size:Int)↔¬ k=ByteArray.mk #[]:=fun k=>by
  constructor
  ·intro h e;rw [e] at h;exact absurd h (by decide)
  ·intro h;have:k.size≠0:=fun e=>h (ByteArray.ext (Array.eq_empty_of_size_eq_zero e));omega
 refine ⟨fun c=>⟨(),?_,trivial,trivial⟩,fun c=>⟨(),?_,trivial,trivial⟩⟩
 ·have:=(hs k).1 (of_decide_eq_true c);unfold keyB;rw [decide_eq_false this,Bool.not_false,Bool.true_and,Bool.eq_iff_iff,decide_eq_true_eq,decide_eq_true_eq];omega
 ·have h1:=of_decide_eq_false c;have:k=ByteArray.mk #[]:=Classical.byContradiction fun h=>h1 ((hs k).2 h);unfold keyB;rw [decide_eq_true this];rfl)
theorem callRKey:CallsBy (Y Tryz.prog).G.X 14 cRKey:=fn_ok okY (tab:=[]) trivial bodyRKey
noncomputable def cRMay:Con where
 α:=ItemM
 β:=Unit
 m:=0
 m':=0
 pre:=fun _=>True
 args:=fun x=>[.agg (itemA x)]
 hp:=fun _=>[]
 ro:=fun _=>[]
 post:=fun _ _=>True
 res:=fun x _=>.a (.bool (mayB x))
 hp':=fun _ _=>[]
set_option maxHeartbeats 4000000 in
theorem bodyRMay:fnBody (Y Tryz.prog) [(14,cRKey)] 11 cRMay fun _=>[]:=fnBody.of (p :=
 ∀ a:ItemM,True->∃ a_2:ByteArray,a.key=a_2/\True/\∀ b:Unit,True->(keyB a_2=true->(decide ((↑a.val.size:Int)<=200)=true->InR .i64 a.e->(decide ((0:Int)<=a.e)=true->InR .i64 a.e->(decide (a.e<=(1099511627776:Int))=true->((!a.gone)=true->∃ b:Unit,true=mayB a/\True/\True)/\((!a.gone)=false->(decide (a.val=(ByteArray.mk #[]))=true->InR .i64 a.e->∃ b:Unit,(a.e == (0:Int))=mayB a/\True/\True)/\(decide (a.val=(ByteArray.mk #[]))=false->∃ b:Unit,false=mayB a/\True/\True)))/\(decide (a.e<=(1099511627776:Int))=false->∃ b:Unit,false=mayB a/\True/\True))/\(decide ((0:Int)<=a.e)=false->∃ b:Unit,false=mayB a/\True/\True))/\(decide ((↑a.val.size:Int)<=200)=false->∃ b:Unit,false=mayB a/\True/\True))/\(keyB a_2=false->∃ b:Unit,false=mayB a/\True/\True)) (by kernel_rfl) (by
 intro x _;refine ⟨x.key,rfl,trivial,fun _ _=>⟨fun h1=>⟨fun h2 _=>⟨fun h3 _=>⟨fun h4=>⟨fun h5=>⟨(),?_,trivial,trivial⟩,fun h5=>⟨fun h6 _=>⟨(),?_,trivial,trivial⟩,fun h6=>⟨(),?_,trivial,trivial⟩⟩⟩,fun h4=>⟨(),?_,trivial,trivial⟩⟩,fun h3=>⟨(),?_,trivial,trivial⟩⟩,fun h2=>⟨(),?_,trivial,trivial⟩⟩,fun h1=>⟨(),?_,trivial,trivial⟩⟩⟩
 all_goals (have e2:decide ((x.val.size:Int)<=200)=decide (x.val.size<=200):=by (rw [Bool.eq_iff_iff,decide_eq_true_eq,decide_eq_true_eq];omega))
 all_goals (first|rw [e2] at h2|skip)
 all_goals (unfold mayB)
 all_goals (simp only [*,Bool.true_and,Bool.and_true,Bool.false_and,Bool.and_false,Bool.true_or,Bool.false_or])
 all_goals rfl)
theorem callRMay:CallsBy (Y Tryz.prog).G.X 11 cRMay:=fn_ok okY (tab:=[(14,cRKey)]) ⟨callRKey,trivial⟩ bodyRMay
noncomputable def cRLive:Con where
 α:=ItemM × Int
 β:=Unit
 m:=0
 m':=0
 pre:=fun _=>True
 args:=fun a=>[.agg (itemA a.1),.a (.int .i64 a.2)]
 hp:=fun _=>[]
 ro:=fun _=>[]
 post:=fun _ _=>True
 res:=fun a _=>.a (.bool (liveB a.1 a.2))
 hp':=fun _ _=>[]
set_option maxHeartbeats 4000000 in
theorem bodyRLive:fnBody (Y Tryz.prog) [(11,cRMay)] 42 cRLive fun _=>[]:=fnBody.of (p :=
 ∀ a:ItemM × Int,True->∃ a_2:ItemM,a.fst.key=a_2.key/\a.fst.val=a_2.val/\a.fst.e=a_2.e/\a.fst.gone=a_2.gone/\True/\∀ b:Unit,True->(mayB a_2=true->((!a.fst.gone)=true->InR .i64 a.fst.e->((a.fst.e == (0:Int))=true->∃ b:Unit,true=liveB a.fst a.snd/\True/\True)/\((a.fst.e == (0:Int))=false->InR .i64 a.fst.e->∃ b:Unit,decide (a.snd<a.fst.e)=liveB a.fst a.snd/\True/\True))/\((!a.fst.gone)=false->∃ b:Unit,false=liveB a.fst a.snd/\True/\True))/\(mayB a_2=false->∃ b:Unit,false=liveB a.fst a.snd/\True/\True)) (by kernel_rfl) (by
 intro a _;refine ⟨a.1,rfl,rfl,rfl,rfl,trivial,fun _ _=>⟨fun h1=>⟨fun h2 _=>⟨fun h3=>⟨(),?_,trivial,trivial⟩,fun h3 _=>⟨(),?_,trivial,trivial⟩⟩,fun h2=>⟨(),?_,trivial,trivial⟩⟩,fun h1=>⟨(),?_,trivial,trivial⟩⟩⟩
 all_goals (first|rw [show (a.1.e == (0:Int))=decide (a.1.e=0) from rfl] at h3|skip)
 all_goals (unfold liveB)
 all_goals (simp only [*,Bool.true_and,Bool.and_true,Bool.false_and,Bool.and_false,Bool.true_or,Bool.false_or]))
theorem callRLive:CallsBy (Y Tryz.prog).G.X 42 cRLive:=fn_ok okY (tab:=[(11,cRMay)]) ⟨callRMay,trivial⟩ bodyRLive
noncomputable def cREq:Con where
 α:=ItemM × ItemM
 β:=Unit
 m:=0
 m':=0
 pre:=fun _=>True
 args:=fun a=>[.agg (itemA a.1),.agg (itemA a.2)]
 hp:=fun _=>[]
 ro:=fun _=>[]
 post:=fun _ _=>True
 res:=fun a _=>.a (.bool (eqI a.1 a.2))
 hp':=fun _ _=>[]
set_option maxHeartbeats 4000000 in
theorem bodyREq:fnBody (Y Tryz.prog) [] 44 cREq fun _=>[]:=fnBody.of (p :=
 ∀ a:ItemM × ItemM,True->(decide (a.fst.key=a.snd.key)=true->(decide (a.fst.val=a.snd.val)=true->InR .i64 a.fst.e->InR .i64 a.snd.e->((a.fst.e == a.snd.e)=true->∃ b:Unit,(a.fst.gone == a.snd.gone)=eqI a.fst a.snd/\True/\True)/\((a.fst.e == a.snd.e)=false->∃ b:Unit,false=eqI a.fst a.snd/\True/\True))/\(decide (a.fst.val=a.snd.val)=false->∃ b:Unit,false=eqI a.fst a.snd/\True/\True))/\(decide (a.fst.key=a.snd.key)=false->∃ b:Unit,false=eqI a.fst a.snd/\True/\True)) (by kernel_rfl) (by
 intro a _;refine ⟨fun h1=>⟨fun h2 _ _=>⟨fun h3=>⟨(),?_,trivial,trivial⟩,fun h3=>⟨(),?_,trivial,trivial⟩⟩,fun h2=>⟨(),?_,trivial,trivial⟩⟩,fun h1=>⟨(),?_,trivial,trivial⟩⟩
 all_goals (first|rw [show (a.1.e == a.2.e)=decide (a.1.e=a.2.e) from rfl] at h3|skip)
 all_goals (unfold eqI)
 all_goals (simp only [*,Bool.true_and,Bool.and_true,Bool.false_and,Bool.and_false]))
theorem callREq:CallsBy (Y Tryz.prog).G.X 44 cREq:=fn_ok okY (tab:=[]) trivial bodyREq
structure EntR where
 x:ItemM
 cost:Int
 frm:Int
 deriving Inhabited
def encEnt (e:EntR):List Value:=[.string e.x.key,.string e.x.val,.int .i64 e.x.e,.bool e.x.gone,.int .i64 e.cost,.int .i64 e.frm]
def ksEnt:List CK:=[.str,.str,.int .i64,.bool,.int .i64,.int .i64]
def entsOf (xs:List ItemM):List EntR:=(List.range xs.length).map fun i=>⟨gl xs i,(costI (gl xs i):Nat),i⟩
theorem entsOf_len (xs:List ItemM):(entsOf xs).length=xs.length:=by simp [entsOf]
theorem entsOf_at {xs:List ItemM} {i:Nat} (h:i<xs.length):gl (entsOf xs) i=⟨gl xs i,(costI (gl xs i):Nat),i⟩:=by
 rw [gl_eq (by rw [entsOf_len];exact h)];simp [entsOf]
theorem entsOf_push (xs:List ItemM) (x:ItemM):entsOf (xs++[x])=entsOf xs++[⟨x,(costI x:Nat),xs.length⟩]:=by
 unfold entsOf;rw [List.length_append,List.length_singleton,List.range_succ,List.map_append];congr 1
 ·refine List.map_congr_left fun i hi=>?_;rw [gl_append_left (List.mem_range.1 hi)]
 ·rw [List.map_singleton,show xs.length=xs.length+0 from rfl,gl_append_right];rfl
def sttHp (o a:Nat) (xs:List ItemM) (cap:Nat):List (Nat × Chunk):=[(o,.obj 33 [.slc a 0 6 xs.length cap,.int .i64 0]),(a,.arr 50 ksEnt xs.length (encRows encEnt (entsOf xs)))]
structure SAddA where
 xs:List ItemM
 cap:Nat
 x:ItemM
noncomputable def cSAdd:Con where
 α:=SAddA
 β:=Nat
 m:=2
 m':=3
 pre:=fun a=>a.xs.length<1000/\costI a.x<=1000
 args:=fun a=>[.a (.ptr 0 0 0 0),.agg (itemA a.x)]
 hp:=fun a=>sttHp 0 1 a.xs a.cap
 ro:=fun _=>[]
 post:=fun _ _=>True
 res:=fun _ _=>.tup []
 hp':=fun a cap=>sttHp 0 2 (a.xs++[a.x]) cap
set_option maxHeartbeats 4000000 in
theorem bodySAdd:fnBody (Y Tryz.prog) [] 13 cSAdd fun _=>[]:=fnBody.of (p :=
 ∀ a:SAddA,a.xs.length<1000/\costI a.x<=1000->InR .i64 ((↑a.x.key.size:Int)+(↑a.x.val.size:Int))/\InR .i64 ((↑a.x.key.size:Int)+(↑a.x.val.size:Int)+80)/\0+a.xs.length<=a.xs.length/\1<=1/\(a.xs.length+1)*64<=140737488355328/\∀ cap:Nat,a.xs.length+1<=cap->cap<=lenMax->(a.xs.length+1<=a.cap->cap=a.cap)->∃ b:Nat,(0=0/\a.xs.length+1=(a.xs++[a.x]).length/\cap=b)/\(0:Int)=0/\((a.xs++[a.x]).length<=a.xs.length+1/\RowsEq (a.xs++[a.x]).length 6 (appRows (encRows encEnt (entsOf a.xs)) 0 a.xs.length fun (i j:Nat)=>flatRows 6 [Value.string a.x.key,Value.string a.x.val,Value.int IntKind.i64 a.x.e,Value.bool a.x.gone,Value.int IntKind.i64 ((↑a.x.key.size:Int)+(↑a.x.val.size:Int)+80),Value.int IntKind.i64 (↑a.xs.length:Int)] (0+i) j) (encRows encEnt (entsOf (a.xs++[a.x]))))/\True/\True) (by kernel_rfl) (by
 rintro ⟨xs,cap,x⟩ ⟨h1,h2⟩;dsimp only at h1 h2;unfold costI at h2;refine ⟨by simp only [InR];omega,by simp only [InR];omega,by omega,by omega,by dsimp only;omega,fun cap q1 q2 q3=>⟨cap,⟨rfl,by simp,rfl⟩,rfl,⟨by simp,?_⟩,trivial,trivial⟩⟩;rw [entsOf_push];exact .push (entsOf_len xs) (by simp) rfl)
theorem callSAdd:CallsBy (Y Tryz.prog).G.X 13 cSAdd:=fn_ok okY (tab:=[]) trivial bodySAdd
structure SLastA where
 xs:List ItemM
 cap:Nat
 key:ByteArray
def lastI (xs:List ItemM) (key:ByteArray):ItemM × Nat × Bool:=match lastTo xs key xs.length with
 | none=>(zeroItem,0,false)
 | some i=>(gl xs i,i,true)
noncomputable def cSLast:Con where
 α:=SLastA
 β:=Unit
 m:=2
 m':=2
 pre:=fun a=>a.xs.length<1000
 args:=fun a=>[.a (.ptr 0 0 0 0),.a (.str a.key),.a (.int .i64 a.xs.length)]
 hp:=fun _=>[]
 ro:=fun a=>sttHp 0 1 a.xs a.cap
 post:=fun _ _=>True
 res:=fun a _=>.tup [.agg (itemA (lastI a.xs a.key).1),.a (.int .i64 (lastI a.xs a.key).2.1),.a (.bool (lastI a.xs a.key).2.2)]
 hp':=fun _ _=>[]
def iSLast (a:SLastA):An:=.flat 2 Nat (fun s k=>s.int 9 ((k:Int) - 1)) (fun _ k=>k<=a.xs.length/\lastTo a.xs a.key k=lastTo a.xs a.key a.xs.length) (fun _ k=>k)
set_option maxHeartbeats 4000000 in
theorem bodySLast:fnBody (Y Tryz.prog) [] 41 cSLast fun a=>[(41,[iSLast a],[])]:=fnBody.of (p :=
 ∀ a:SLastA,a.xs.length<1000->InR .i64 ((↑a.xs.length:Int) - 1)/\(∃ a_2:Nat,(↑a.xs.length:Int) - 1=(↑a_2:Int) - 1/\false=false/\(0:Int)=0/\0=0/\0=0/\a.key=a.key/\(↑a.xs.length:Int)=(↑a.xs.length:Int)/\(ByteArray.mk #[])=(ByteArray.mk #[])/\(ByteArray.mk #[])=(ByteArray.mk #[])/\(0:Int)=0/\false=false/\(0=0/\a.xs.length=a.xs.length/\a.cap=a.cap)/\(0:Int)=0/\(a.xs.length<=a.xs.length/\RowsEq a.xs.length 6 (encRows encEnt (entsOf a.xs)) (encRows encEnt (entsOf a.xs)))/\(a_2<=a.xs.length/\lastTo a.xs a.key a_2=lastTo a.xs a.key a.xs.length)/\True)/\∀ a_2:Nat,a_2<=a.xs.length/\lastTo a.xs a.key a_2=lastTo a.xs a.key a.xs.length->(decide (0<=(↑a_2:Int) - 1)=true->(0<=(↑a_2:Int) - 1/\(↑a_2:Int) - 1<(↑a.xs.length:Int))/\0+((↑a_2:Int) - 1).toNat<a.xs.length/\(decide ((gl (entsOf a.xs) (0+((↑a_2:Int) - 1).toNat)).x.key=a.key)=true->((!decide (a.key=(ByteArray.mk #[])))=true->(0<=(↑a_2:Int) - 1/\(↑a_2:Int) - 1<(↑a.xs.length:Int))/\0+((↑a_2:Int) - 1).toNat<a.xs.length/\∃ b:Unit,(gl (entsOf a.xs) (0+((↑a_2:Int) - 1).toNat)).x.key=(lastI a.xs a.key).fst.key/\(gl (entsOf a.xs) (0+((↑a_2:Int) - 1).toNat)).x.val=(lastI a.xs a.key).fst.val/\(gl (entsOf a.xs) (0+((↑a_2:Int) - 1).toNat)).x.e=(lastI a.xs a.key).fst.e/\(gl (entsOf a.xs) (0+((↑a_2:Int) - 1).toNat)).x.gone=(lastI a.xs a.key).fst.gone/\(↑a_2:Int) - 1=(↑(lastI a.xs a.key).snd.fst:Int) /\
 true=(lastI a.xs a.key).snd.snd/\True/\True)/\((!decide (a.key=(ByteArray.mk #[])))=false->InR .i64 ((↑a_2:Int) - 1 - (1:Int))/\∃ (a':Nat),(↑a_2:Int) - 1 - 1=(↑a':Int) - 1/\false=false/\(0:Int)=0/\0=0/\0=0/\a.key=a.key/\(↑a.xs.length:Int)=(↑a.xs.length:Int)/\(ByteArray.mk #[])=(ByteArray.mk #[])/\(ByteArray.mk #[])=(ByteArray.mk #[])/\(0:Int)=0/\false=false/\(0=0/\a.xs.length=a.xs.length/\a.cap=a.cap)/\(0:Int)=0/\(a.xs.length<=a.xs.length/\RowsEq a.xs.length 6 (encRows encEnt (entsOf a.xs)) (encRows encEnt (entsOf a.xs)))/\(a'<=a.xs.length/\lastTo a.xs a.key a'=lastTo a.xs a.key a.xs.length)/\a'<a_2))/\(decide ((gl (entsOf a.xs) (0+((↑a_2:Int) - 1).toNat)).x.key=a.key)=false->InR .i64 ((↑a_2:Int) - 1 - (1:Int))/\∃ (a':Nat),(↑a_2:Int) - 1 - 1=(↑a':Int) - 1/\false=false/\(0:Int)=0/\0=0/\0=0/\a.key=a.key/\(↑a.xs.length:Int)=(↑a.xs.length:Int)/\(ByteArray.mk #[])=(ByteArray.mk #[])/\(ByteArray.mk #[])=(ByteArray.mk #[])/\(0:Int)=0/\false=false/\(0=0/\a.xs.length=a.xs.length/\a.cap=a.cap)/\(0:Int)=0/\(a.xs.length<=a.xs.length/\RowsEq a.xs.length 6 (encRows encEnt (entsOf a.xs)) (encRows encEnt (entsOf a.xs)))/\(a'<=a.xs.length/\lastTo a.xs a.key a'=lastTo a.xs a.key a.xs.length)/\a'<a_2))/\(decide (0<=(↑a_2:Int) - 1)=false->∃ b:Unit,(ByteArray.mk #[])=(lastI a.xs a.key).fst.key/\(ByteArray.mk #[])=(lastI a.xs a.key).fst.val /\
 (0:Int)=(lastI a.xs a.key).fst.e/\false=(lastI a.xs a.key).fst.gone/\0=(↑(lastI a.xs a.key).snd.fst:Int)/\false=(lastI a.xs a.key).snd.snd/\True/\True)) (by kernel_rfl) (by
 rintro ⟨xs,cap,key⟩ h;have h:xs.length<1000:=h;refine ⟨by simp only [InR];omega,⟨xs.length,?_⟩,fun k hk=>?_⟩
 ·(repeat' apply And.intro)<;>first|with_reducible (first|rfl|trivial|assumption)|(intro h_;revert h_)|omega|with_reducible exact RowsEq.refl _ _ _|rfl|exact RowsEq.refl _ _ _|exact Nat.le_refl _|(dsimp only;omega)|skip
 obtain ⟨h1,h2⟩:=hk;dsimp only at h1 h2;refine ⟨fun c=>?_,fun c=>?_⟩
 ·have hk0:0<=(k:Int) - 1:=of_decide_eq_true c;obtain ⟨q,rfl⟩:∃ q,k=q+1:=⟨k - 1,by omega⟩
  have hq:q<=xs.length:=by omega
  rw [show 0+(((q+1:Nat):Int) - 1).toNat=q by omega,entsOf_at (show q<xs.length by omega)];refine ⟨⟨by omega,by dsimp only;omega⟩,by dsimp only;omega,fun c2=>⟨fun c3=>⟨⟨by omega,by dsimp only;omega⟩,by dsimp only;omega,(),?_⟩,fun c3=>⟨by simp only [InR];omega,q,?_⟩⟩,fun c2=>⟨by simp only [InR];omega,q,?_⟩⟩
  ·have hL:lastTo xs key xs.length=some q:=by rw [<- h2];unfold lastTo;exact if_pos (by rw [c2,c3];rfl)
   have e:lastI xs key=(gl xs q,q,true):=by unfold lastI;rw [hL]
   rw [e]
   (repeat' apply And.intro)<;>first|with_reducible (first|rfl|trivial|assumption)|(intro h_;revert h_)|omega|with_reducible exact RowsEq.refl _ _ _|rfl|exact RowsEq.refl _ _ _|exact Nat.le_refl _|(dsimp only;omega)|skip
  ·have hL:lastTo xs key q=lastTo xs key xs.length:=by rw [<- h2];exact (if_neg (by rw [c3];simp)).symm
   (repeat' apply And.intro)<;>first|with_reducible (first|rfl|trivial|assumption)|exact hL|exact hq|(intro h_;revert h_)|omega|with_reducible exact RowsEq.refl _ _ _|rfl|exact RowsEq.refl _ _ _|exact Nat.le_refl _|(dsimp only;omega)|skip
  ·have hL:lastTo xs key q=lastTo xs key xs.length:=by rw [<- h2];exact (if_neg (by rw [c2];simp)).symm
   (repeat' apply And.intro)<;>first|with_reducible (first|rfl|trivial|assumption)|exact hL|exact hq|(intro h_;revert h_)|omega|with_reducible exact RowsEq.refl _ _ _|rfl|exact RowsEq.refl _ _ _|exact Nat.le_refl _|(dsimp only;omega)|skip
 ·have hk0:k=0:=by have:=of_decide_eq_false c;omega
  subst hk0;have e:lastI xs key=(zeroItem,0,false):=by unfold lastI;rw [<- h2];rfl
  refine ⟨(),?_⟩;rw [e]
  (repeat' apply And.intro)<;>first|with_reducible (first|rfl|trivial|assumption)|(intro h_;revert h_)|omega|with_reducible exact RowsEq.refl _ _ _|rfl|exact RowsEq.refl _ _ _|exact Nat.le_refl _|(dsimp only;omega)|skip)
theorem callSLast:CallsBy (Y Tryz.prog).G.X 41 cSLast:=fn_ok okY (tab:=[]) trivial bodySLast
structure SAftA where
 xs:List ItemM
 cap:Nat
 i:Nat
noncomputable def cSAft:Con where
 α:=SAftA
 β:=Unit
 m:=2
 m':=2
 pre:=fun a=>a.i<a.xs.length/\a.xs.length<1000/\∀ x∈a.xs,costI x<=1000
 args:=fun a=>[.a (.ptr 0 0 0 0),.a (.int .i64 a.i)]
 hp:=fun _=>[]
 ro:=fun a=>sttHp 0 1 a.xs a.cap
 post:=fun _ _=>True
 res:=fun a _=>.a (.int .i64 (afterI a.xs a.i))
 hp':=fun _ _=>[]
def iSAft (a:SAftA):An:=.flat 3 Nat (fun s j=>(s.int 5 (afterI a.xs a.i - afterI a.xs j)).int 6 j) (fun _ j=>a.i<=j/\j<=a.xs.length) (fun _ j=>a.xs.length - j)
set_option maxHeartbeats 4000000 in
theorem bodySAft:fnBody (Y Tryz.prog) [] 43 cSAft fun a=>[(43,[iSAft a],[])]:=fnBody.of (p :=
 ∀ a:SAftA,(a.i<a.xs.length/\a.xs.length<1000/\∀ x:ItemM,x∈a.xs->costI x<=1000)->(0<=(↑a.i:Int)/\(↑a.i:Int)<(↑a.xs.length:Int))/\0+(↑a.i:Int).toNat<a.xs.length/\(InR .i64 (gl (entsOf a.xs) (0+(↑a.i:Int).toNat)).frm->(∃ a_3:Nat,(gl (entsOf a.xs) (0+(↑a.i:Int).toNat)).frm=(↑a_3:Int)/\0=(↑(afterI a.xs a.i):Int) - (↑(afterI a.xs a_3):Int)/\(0:Int)=0/\0=0/\(↑a.i:Int)=(↑a.i:Int)/\(0=0/\a.xs.length=a.xs.length/\a.cap=a.cap)/\(0:Int)=0/\(a.xs.length<=a.xs.length/\RowsEq a.xs.length 6 (encRows encEnt (entsOf a.xs)) (encRows encEnt (entsOf a.xs)))/\(a.i<=a_3/\a_3<=a.xs.length)/\True)/\∀ a_3:Nat,a.i<=a_3/\a_3<=a.xs.length->(decide ((↑a_3:Int)<(↑a.xs.length:Int))=true->(0<=(↑a_3:Int)/\(↑a_3:Int)<(↑a.xs.length:Int))/\0+(↑a_3:Int).toNat<a.xs.length/\(InR .i64 (gl (entsOf a.xs) (0+(↑a_3:Int).toNat)).cost->InR .i64 ((↑(afterI a.xs a.i):Int) - (↑(afterI a.xs a_3):Int)+(gl (entsOf a.xs) (0+(↑a_3:Int).toNat)).cost)/\InR .i64 ((↑a_3:Int)+1)/\∃ (a':Nat),(↑a_3:Int)+1=(↑a':Int)/\(↑(afterI a.xs a.i):Int) - (↑(afterI a.xs a_3):Int)+(gl (entsOf a.xs) (0+(↑a_3:Int).toNat)).cost=(↑(afterI a.xs a.i):Int) - (↑(afterI a.xs a'):Int)/\(0:Int)=0/\0=0/\(↑a.i:Int)=(↑a.i:Int)/\(0=0/\a.xs.length=a.xs.length/\a.cap=a.cap)/\(0:Int)=0/\(a.xs.length<=a.xs.length/\RowsEq a.xs.length 6 (encRows encEnt (entsOf a.xs)) (encRows encEnt (entsOf a.xs))) /\
 (a.i<=a'/\a'<=a.xs.length)/\a.xs.length - a'<a.xs.length - a_3))/\(decide ((↑a_3:Int)<(↑a.xs.length:Int))=false->∃ b:Unit,(↑(afterI a.xs a.i):Int) - (↑(afterI a.xs a_3):Int)=(↑(afterI a.xs a.i):Int)/\True/\True))) (by kernel_rfl) (by
 rintro ⟨xs,cap,i⟩ ⟨h1,h2,h3⟩;have h1:i<xs.length:=h1;have h2:xs.length<1000:=h2;have h3:∀ x∈xs,costI x<=1000:=h3;have hcap:∀ ys:List ItemM,(∀ x∈ys,costI x<=1000)->costs ys<=1000*ys.length:=fun ys=>by
  induction ys with
  | nil=>exact fun _=>Nat.le_refl _
  | cons y ys ih =>
   intro h;have a1:=ih fun x hx=>h x (List.mem_cons_of_mem _ hx);have a2:=h y List.mem_cons_self;simp only [costs,List.length_cons];omega
 have hle:∀ j,afterI xs j<=1000000:=fun j=>by
  have:=hcap (xs.drop j) fun x hx=>h3 x (List.mem_of_mem_drop hx);rw [List.length_drop] at this;unfold afterI;omega
 have hi:=hle i;have hend:afterI xs xs.length=0:=by unfold afterI;rw [List.drop_length];rfl
 dsimp only;rw [show 0+(i:Int).toNat=i by omega,entsOf_at h1];refine ⟨⟨by omega,by omega⟩,by omega,fun _=>⟨⟨i,?_⟩,fun j hj=>?_⟩⟩
 ·(repeat' apply And.intro)<;>first|with_reducible (first|rfl|trivial|assumption)|exact (Int.sub_self _).symm|(intro h_;revert h_)|omega|with_reducible exact RowsEq.refl _ _ _|rfl|exact RowsEq.refl _ _ _|exact Nat.le_refl _|(dsimp only;omega)|skip
 obtain ⟨j1,j2⟩:=hj;have hlj:=hle j;refine ⟨fun c=>?_,fun c=>⟨(),?_,trivial,trivial⟩⟩
 ·have hj':j<xs.length:=by have:=of_decide_eq_true c;omega
  have hst:=after_step hj';have hj1:i<=j+1:=by omega
  rw [show 0+(j:Int).toNat=j by omega,entsOf_at hj'];refine ⟨⟨by omega,by omega⟩,by omega,fun _=>⟨by simp only [InR];omega,by simp only [InR];omega,j+1,?_⟩⟩
  (repeat' apply And.intro)<;>first|with_reducible (first|rfl|trivial|assumption)|exact hj1|(intro h_;revert h_)|omega|with_reducible exact RowsEq.refl _ _ _|rfl|exact RowsEq.refl _ _ _|exact Nat.le_refl _|(dsimp only;omega)|skip
 ·have:j=xs.length:=by have:=of_decide_eq_false c;omega
  subst this;rw [hend];omega)
theorem callSAft:CallsBy (Y Tryz.prog).G.X 43 cSAft:=fn_ok okY (tab:=[]) trivial bodySAft
end Go.Proofs.YtfobhkibkdmglaaGreat

namespace Go.Proofs.YtfobhkibkdmglaaGreat
open Go.Sx
set_option maxRecDepth 100000
set_option linter.unusedVariables false
set_option linter.unusedSimpArgs false
end Go.Proofs.YtfobhkibkdmglaaGreat

namespace Go.Sx
theorem Keeps.below {w w':World} (h:Keeps (fun _=>False) w w'):Go.RowKit.Below w.heap.size w w':=⟨h.os,h.tape,h.output,h.size,fun k hk=>h.block k hk id⟩
open Go.WideShapes Go.ChangeShapes in
theorem post_of_kept {H:Type} {enc:TypeId × Value->H} {P:Program} {f:Func} {s:ChangeSpec} {apart fresh handsOn again:Bool} {W W':World} {args:Array Value} {v:Value} {ds gs:List (DataW H)} {pa:List MemPlace}
 (hW:DataW.Whole enc P f.params.toList s.vars apart W args.toList ds gs (pa++[]))
 (hres:∀ (b:Nat) (sp:Nat->Bool) (hd:Bool),DataW.TrodAll enc P W' b sp hd f.resultTypes.toList (v.resultList f.resultTypes.size) (s.fn H (ds++gs)).results [])
 (hargs:∀ sp:Nat->Bool,(∀ p∈pa++[],sp p.block=true)->DataW.TrodAll enc P W' 0 sp true f.params.toList args.toList (s.fn H (ds++gs)).args pa)
 (hvars:∀ sp:Nat->Bool,(∀ p∈pa++[],sp p.block=true)->DataW.TrodVars enc P W' sp s.vars (s.fn H (ds++gs)).vars [])
 (hk:Keeps (fun _=>False) W W')
 (hok:∀ (j:Nat) (t:TypeId) (r:Value),f.resultTypes[j]? = some t->(v.resultList f.resultTypes.size)[j]? = some r->Value.okWide P W' .any 0 t r) :
 s.post enc P f apart fresh handsOn again W args v W':=by
 have hl:=hW.lt;have hall:∀ p∈pa++[],(fun _=>true:Nat->Bool) p.block=true:=fun _ _=>rfl;have hold:∀ p∈pa++[],(fun b=>decide (b<W.heap.size)) p.block=true:=fun p hp=>decide_eq_true (hl p hp);have hmem:∀ p,p∈([]++pa)++[]->p∈pa++[]:=fun p hp=>by simpa using hp
 refine ⟨ds,gs,pa++[],[],pa,[],hW,hres _ _ _,hargs _ hold,hvars _ hold,World.keptBut_mono (may:=(·∈pa++[])) (fun p hp=>⟨hp,.inr (by simpa using hp)⟩) (hk.below.frame _),fun _=>?_⟩;obtain ⟨_,_,_,_,_,hz,hn⟩:=hW;refine ⟨hok,_,_,([]++pa)++[],⟨[]++pa,[],trodAll_append (hargs _ hall) (hres _ _ _),hvars _ hall,rfl,fun b off hp=>?_,fun ha=>by simpa using hn ha⟩,fun p hp _=>by simpa using hp⟩;rw [hk.frz _ (hl _ (hmem _ hp))];exact hz b off (hmem _ hp)
end Go.Sx

namespace Go.Sx
open Go.RowKit
def flatFs (P:Program) (g:TypeId->Option (List CK)):List Field->Nat->Option (List CK)
 | [],_=>some []
 | f::r,o=>match g f.type,flatFs P g r (o+P.cellsOf f.type) with
  | some ks,some l=>bif Nat.beq f.offset o&&Nat.beq ks.length (P.cellsOf f.type) then some (ks++l) else none
  | _,_=>none
def flatKd (dp:Bool) (P:Program):Nat->TypeId->Option (List CK)
 | 0,_=>none
 | d+1,t=>match P.underlying t with
  | some (.slice _)=>bif dp then some [.deep] else none
  | some .bool=>some [.bool]
  | some (.int k)=>some [.int k]
  | some .string=>some [.str]
  | some (.struct fs)=>match flatFs P (flatKd dp P d) fs.toList 0 with
   | some ks=>bif Nat.beq ks.length (P.cellsOf t) then some ks else none
   | none=>none
  | some (.array n e)=>match flatKd dp P d e with
   | some ks=>bif Nat.beq ks.length (P.cellsOf e)&&Nat.beq (n*ks.length) (P.cellsOf t) then some (rep n ks) else none
   | none=>none
  | _=>none
def flatK (P:Program):Nat->TypeId->Option (List CK):=flatKd false P
structure KsOk (ks:List CK) (cs:List Value):Prop where
 len:cs.length=ks.length
 ok:∀ (j:Nat) (k:CK) (v:Value),ks[j]? = some k->cs[j]? = some v->k.ok v
theorem KsOk.append {ks ls:List CK} {cs ds:List Value} (h:KsOk ks cs) (g:KsOk ls ds):KsOk (ks++ls) (cs++ds):=by
 refine ⟨by simp [h.len,g.len],fun j k v hk hv=>?_⟩;by_cases hj:j<ks.length
 ·rw [List.getElem?_append_left hj] at hk;rw [List.getElem?_append_left (by rw [h.len];exact hj)] at hv;exact h.ok j k v hk hv
 ·rw [List.getElem?_append_right (by omega)] at hk;rw [List.getElem?_append_right (by rw [h.len];omega),h.len] at hv;exact g.ok _ k v hk hv
section
variable {H:Type} {enc:TypeId × Value->H} {P:Program} {w:World} {base:Nat} {spare:Nat->Bool} {held:Bool}
theorem flatFs_ok {g:TypeId->Option (List CK)} {n:Nat} {cs:List Value}
 (hg:∀ t cs x ks,DataW.trod enc P w base spare held n t cs=some x->g t=some ks->KsOk ks cs) :
 ∀ (fs:List Field) (o:Nat) (ks:List CK),flatFs P g fs o=some ks->(∀ f∈fs,∃ x,DataW.trod enc P w base spare held n f.type ((cs.drop f.offset).take (P.cellsOf f.type))=some x)->o+ks.length=cs.length->KsOk ks (cs.drop o)
 | [],o,ks,h,_,hl=>by
  simp [flatFs] at h;subst h;refine ⟨by simp at hl ⊢;omega,fun j k v hk=>by simp at hk⟩
 | f::r,o,ks,h,hf,hl=>by
  simp only [flatFs] at h;split at h
  ·rename_i k1 l1 e1 e2;cases hb:(Nat.beq f.offset o&&Nat.beq k1.length (P.cellsOf f.type))
   ·rw [hb] at h;cases h
   rw [hb] at h;simp only [cond_true,Option.some.injEq] at h;subst h;simp only [Bool.and_eq_true] at hb;have ho:=Nat.eq_of_beq_eq_true hb.1;have hk:=Nat.eq_of_beq_eq_true hb.2;obtain ⟨x,hx⟩:=hf f List.mem_cons_self;rw [ho] at hx;have h1:=hg _ _ _ _ hx e1;have h2:=flatFs_ok hg r _ l1 e2 (fun f hf'=>hf f (List.mem_cons_of_mem _ hf')) (by rw [<- hk];simp at hl;omega);have e:cs.drop o=(cs.drop o).take (P.cellsOf f.type)++cs.drop (o+P.cellsOf f.type):=by
    rw [<- List.drop_drop,List.take_append_drop]
   rw [e];exact h1.append h2
  ·cases h
theorem rep_ok {ks:List CK} {cs:List Value}:∀ (n:Nat) (o:Nat),(∀ i,i<n->KsOk ks ((cs.drop (o+i*ks.length)).take ks.length))->o+n*ks.length=cs.length->KsOk (rep n ks) (cs.drop o)
 | 0,o,_,hl=>⟨by simp at hl;simp [rep];omega,fun j k v hk=>by simp [rep] at hk⟩
 | n+1,o,h,hl=>by
  have h1:=h 0 (by omega);have h2:=rep_ok (ks:=ks) (cs:=cs) n (o+ks.length) (fun i hi=>by
   have:=h (i+1) (by omega);rwa [Nat.succ_mul,show o+(i*ks.length+ks.length)=o+ks.length+i*ks.length by omega] at this) (by rw [Nat.succ_mul] at hl;omega)
  have e:cs.drop o=(cs.drop o).take ks.length++cs.drop (o+ks.length):=by
   rw [<- List.drop_drop,List.take_append_drop]
  rw [e,rep];exact KsOk.append (by simpa using h1) h2
theorem flat_ok {dp:Bool}:∀ (d n:Nat) (t:TypeId) (cs:List Value) (x:DataW H × List MemPlace) (ks:List CK),DataW.trod enc P w base spare held n t cs=some x->flatKd dp P d t=some ks->KsOk ks cs
 | 0,_,_,_,_,_,_,h=>by simp [flatKd] at h
 | d+1,n,t,cs,x,ks,hx,h=>by
  simp only [flatKd] at h;split at h
  ·rename_i e hu;cases dp with
   | false=>cases h
   | true =>
    simp only [cond_true,Option.some.injEq] at h;subst h;have one:∃ v:Value,cs=[v]/\v.oneCell'=true:=by
     rcases DataW.trod_slice hu hx with ⟨hv,_⟩ | ⟨a,len,cap,elems,rest,m,_,hv,_⟩<;>exact ⟨_,hv,rfl⟩
    obtain ⟨v,rfl,hv⟩:=one;refine ⟨rfl,fun j k u hk hv'=>?_⟩;cases j with
    | zero=>simp at hk hv';subst hk hv';exact hv
    | succ j=>simp at hk
  ·rename_i hu;cases h;obtain ⟨b,rfl,_⟩:=DataW.trod_bool hu hx;refine ⟨rfl,fun j k v hk hv=>?_⟩;cases j with
   | zero=>simp at hk hv;subst hk hv;exact ⟨b,rfl⟩
   | succ j=>simp at hk
  ·rename_i k hu;cases h;obtain ⟨m,rfl,_,hw⟩:=DataW.trod_int hu hx;refine ⟨rfl,fun j k' v hk hv=>?_⟩;cases j with
   | zero=>simp at hk hv;subst hk hv;exact ⟨m,rfl,by rw [InR_iff];simpa [Lit.wf] using hw⟩
   | succ j=>simp at hk
  ·rename_i hu;cases h;obtain ⟨s,rfl,_,hs⟩:=DataW.trod_string hu hx;refine ⟨rfl,fun j k' v hk hv=>?_⟩;cases j with
   | zero=>simp at hk hv;subst hk hv;exact ⟨s,rfl,by unfold lenMax;unfold maxLen at hs;exact hs⟩
   | succ j=>simp at hk
  ·rename_i fs hu;obtain ⟨xs,m,rfl,_,hl,hlen,hget⟩:=DataW.trod_struct hu hx;split at h
   ·rename_i ks' e;cases hb:Nat.beq ks'.length (P.cellsOf t)
    ·rw [hb] at h;cases h
    rw [hb] at h;cases h;have hb:=Nat.eq_of_beq_eq_true hb;have:=flatFs_ok (enc:=enc) (w:=w) (base:=base) (spare:=spare) (held:=held) (n:=m) (cs:=cs) (fun t cs x ks h1 h2=>flat_ok d m t cs x ks h1 h2) fs.toList 0 ks e (fun f hf=>by
     obtain ⟨i,hi,e⟩:=List.getElem_of_mem hf;have hi':i<fs.size:=by simpa using hi
     have h1:=hget i f (by rw [Array.getElem?_eq_getElem hi'];congr 1);rw [h1];exact ⟨xs[i]'(by omega),List.getElem?_eq_getElem _⟩) (by omega)
    simpa using this
   ·cases h
  ·rename_i k e hu;obtain ⟨xs,m,rfl,_,hl,hlen,hget⟩:=DataW.trod_array hu hx;split at h
   ·rename_i ks' e';cases hb:(Nat.beq ks'.length (P.cellsOf e)&&Nat.beq (k*ks'.length) (P.cellsOf t))
    ·rw [hb] at h;cases h
    rw [hb] at h;cases h;simp only [Bool.and_eq_true] at hb;have hb1:=Nat.eq_of_beq_eq_true hb.1;have hb2:=Nat.eq_of_beq_eq_true hb.2;have:=rep_ok (ks:=ks') (cs:=cs) k 0 (fun i hi=>by
     have h1:=hget i hi;rw [List.getElem?_eq_getElem (by omega)] at h1;rw [hb1,Nat.zero_add];exact flat_ok d m e _ _ _ h1 e') (by rw [hb2];omega)
    simpa using this
   ·cases h
  ·cases h
inductive RK where
 | c (k:CK)
 | s (e:TypeId) (ks:List CK)
inductive AK where
 | int (k:IntKind)
 | bool
 | str
 | agg (ks:List CK)
 | slc (e:TypeId) (ks:List CK)
 | rcd (fs:List RK)
def isSlcT (P:Program) (u:TypeId):Bool:=match P.underlying u with
 | some (.slice _)=>true
 | _=>false
def recFs (P:Program) (d:Nat) (ts:List TypeId):List Field->Nat->Option (List RK)
 | [],_=>some []
 | f::r,o=>bif Nat.beq f.offset o then
  (match P.underlying f.type with
  | some (.slice e)=>match flatK P d e,ts[o]?,recFs P d ts r (o+1) with
   | some ks,some u,some l=>bif Nat.beq ks.length (P.cellsOf e)&&(Nat.ble 1 ks.length&&(Nat.beq (P.cellsOf f.type) 1&&isSlcT P u)) then some (.s e ks::l) else none
   | _,_,_=>none
  | _=>match flatK P d f.type,recFs P d ts r (o+P.cellsOf f.type) with
   | some ks,some l=>bif Nat.beq ks.length (P.cellsOf f.type) then some (ks.map .c++l) else none
   | _,_=>none) else none
def argK (P:Program) (d:Nat) (t:TypeId):Option AK :=
 match P.underlying t with
 | some .bool=>some .bool
 | some (.int k)=>some (.int k)
 | some .string=>some .str
 | some (.struct fs)=>match flatK P d t with
  | some ks=>some (.agg ks)
  | none=>match P.cellTypes P.depth t with
   | some ts=>match recFs P d ts fs.toList 0 with
    | some l=>bif Nat.beq l.length (P.cellsOf t)&&Nat.beq ts.length (P.cellsOf t) then some (.rcd l) else none
    | none=>none
   | none=>none
 | some (.slice e)=>match flatKd true P d e with
  | some ks=>bif Nat.beq ks.length (P.cellsOf e)&&Nat.ble 1 ks.length then some (.slc e ks) else none
  | none=>none
 | _=>none
def argKs (P:Program) (d:Nat):List TypeId->Option (List AK)
 | []=>some []
 | t::r=>match argK P d t,argKs P d r with
  | some k,some l=>some (k::l)
  | _,_=>none
inductive RD where
 | a (x:A)
 | s (m n cap:Nat) (rows:Nat->Nat->Value)
inductive AD where
 | a (x:A)
 | agg (xs:List A)
 | slc (m n cap:Nat) (rows:Nat->Nat->Value)
 | rcd (xs:List RD)
def okRD:RK->RD->Prop
 | .c k,d=>∃ v,d = .a (atomOf k v)/\k.ok v
 | .s _ ks,d=>∃ n cap rows,d = .s ks.length n cap rows/\n<=cap/\cap<=lenMax/\∀ i,i<n->∀ (j:Nat) (k:CK),ks[j]? = some k->k.ok (rows i j)
def okRDs:List RK->List RD->Prop
 | [],l=>l=[]
 | k::ks,l=>∃ d r,l=d::r/\okRD k d/\okRDs ks r
def rAt:Nat->List RD->List A
 | _,[]=>[]
 | n,.a x::r=>x::rAt n r
 | n,.s m l c _::r=>.slc n 0 m l c::rAt (n+1) r
def rChs:Nat->List RK->List RD->List (Nat × Chunk)
 | n,.s e ks::r,.s _ l _ rows::q=>(n,.arr e ks l rows)::rChs (n+1) r q
 | n,_::r,_::q=>rChs n r q
 | _,_,_=>[]
def rN:List RD->Nat
 | []=>0
 | .s _ _ _ _::r=>rN r+1
 | _::r=>rN r
def okAD:AK->AD->Prop
 | .int k,d=>∃ n,d = .a (.int k n)/\InR k n
 | .bool,d=>∃ b,d = .a (.bool b)
 | .str,d=>∃ s,d = .a (.str s)/\s.size<=lenMax
 | .agg ks,d=>∃ r:Nat->Value,d = .agg (atoms r ks 0)/\∀ (j:Nat) (k:CK),ks[j]? = some k->k.ok (r j)
 | .slc _ ks,d=>∃ n cap rows,d = .slc ks.length n cap rows/\n<=cap/\cap<=lenMax/\∀ i,i<n->∀ (j:Nat) (k:CK),ks[j]? = some k->k.ok (rows i j)
 | .rcd fs,d=>∃ xs,d = .rcd xs/\okRDs fs xs
def okADs:List AK->List AD->Prop
 | [],l=>l=[]
 | k::ks,l=>∃ d r,l=d::r/\okAD k d/\okADs ks r
def svs:Nat->List AD->List SV
 | _,[]=>[]
 | n,.a x::r=>.a x::svs n r
 | n,.agg xs::r=>.agg xs::svs n r
 | n,.slc m l c _::r=>.a (.slc n 0 m l c)::svs (n+1) r
 | n,.rcd xs::r=>.agg (rAt n xs)::svs (n+rN xs) r
def chs:Nat->List AK->List AD->List (Nat × Chunk)
 | n,.slc e ks::r,.slc _ l _ rows::s=>(n,.arr e ks l rows)::chs (n+1) r s
 | n,.rcd fs::r,.rcd xs::s=>rChs n fs xs++chs (n+rN xs) r s
 | n,_::r,_::s=>chs n r s
 | _,_,_=>[]
def slcs:List AD->Nat
 | []=>0
 | .slc _ _ _ _::r=>slcs r+1
 | .rcd xs::r=>slcs r+rN xs
 | _::r=>slcs r
theorem cells?_get {w:World} {base:Nat} {a:Addr}:∀ {n:Nat} {cs:List Value},w.cells? base a n=some cs->cs.length=n/\base<=a.block/\∀ i,i<n->w.cell? (a.add i)=cs[i]?:=by
 intro n cs h;unfold World.cells? at h;split at h
 ·rename_i hb;have hl:=mapM_some_length h;refine ⟨by simpa using hl,hb,fun i hi=>?_⟩;exact mapM_some_get h i i (by simp [hi])
 ·cases h
theorem Addr.add_off (a:Addr) (n:Nat) (h:a.spot=none):a.add n=⟨a.block,a.off+n,none⟩:=by
 unfold Addr.add;split
 ·subst_vars;cases a;simp_all
 ·cases a;simp_all
theorem open_cell {dp:Bool} {t e:TypeId} {ks:List CK} {d fuel:Nat} {v:Value} {dd:DataW H} {ps:List MemPlace} (ht:P.underlying t=some (.slice e)) (hf:flatKd dp P d e=some ks) (hk:ks.length=P.cellsOf e) (hk1:1<=ks.length)
 (h:DataW.trod enc P w 0 (fun _=>true) held fuel t [v]=some (dd,ps)) (hz:∀ b off,MemPlace.cell b off∈ps->w.frozen? ⟨b,off,none⟩=false) :
 ∃ (p:Place) (n cap:Nat) (rows:Nat->Nat->Value),n<=cap/\cap<=lenMax/\(∀ i,i<n->∀ (j:Nat) (k:CK),ks[j]? = some k->k.ok (rows i j))/\(∀ b,p.fp b->b<w.heap.size) /\
  (∀ (ρ:Env) (T:Nat),T<ρ.n->ρ.pl T=p->(A.slc T 0 ks.length n cap).Rep ρ v)/\(∀ (ρ:Env),(Chunk.arr e ks n rows).Sat ρ p w) /\
  ∀ i,i<n->∃ (m:Nat) (cs:List Value) (x:DataW H × List MemPlace),DataW.trod enc P w 0 (fun _=>true) held m e cs=some x/\(∀ b off,MemPlace.cell b off∈x.2->w.frozen? ⟨b,off,none⟩=false)/\KsOk ks cs/\∀ j,j<ks.length->cs[j]? = some (rows i j):=by
 rcases DataW.trod_slice ht h with ⟨hv,_⟩ | ⟨a,len,cap,elems,rest,m,rfl,hv,hx,_,hlc,hcm,hel,hget,hsp,_⟩
 ·cases hv;refine ⟨nilPlace,0,0,fun _ _=>undef,Nat.le_refl _,Nat.zero_le _,fun i hi=>absurd hi (Nat.not_lt_zero _),fun b hb=>hb.elim,fun ρ T hT _=>⟨hT,Nat.le_refl _,Nat.zero_le _,.inl ⟨rfl,rfl,rfl⟩⟩,fun ρ=>.inl ⟨rfl,rfl,fun b hb=>hb⟩,fun i hi=>absurd hi (Nat.not_lt_zero _)⟩
 ·cases hv;obtain ⟨hr1,hr2⟩:=hsp rfl;by_cases hc0:cap=0
  ·subst hc0;have hl0:len=0:=by omega
   subst hl0;exact ⟨⟨a.block,a.off,0,fun _=>False⟩,0,0,fun _ _=>undef,Nat.le_refl _,Nat.zero_le _,fun i hi=>absurd hi (Nat.not_lt_zero _),fun b hb=>hb.elim,fun ρ T hT hp=>⟨hT,Nat.le_refl _,Nat.zero_le _,.inr ⟨a,rfl,fun h=>absurd rfl h⟩⟩,fun ρ=>.inl ⟨rfl,rfl,fun b hb=>hb⟩,fun i hi=>absurd hi (Nat.not_lt_zero _)⟩
  have hspot:a.spot=none:=by
   have fin:∀ (o:Option (DataW H × List MemPlace)),(∃ x,o=some x)->(w.cells? 0 (a.add (0*P.cellsOf e)) (P.cellsOf e)).bind (DataW.trod enc P w 0 (fun _=>true) held m e)=o->a.spot=none:=by
    rintro o ⟨x,rfl⟩ ho;obtain ⟨cs,hcs,hx⟩:=Option.bind_eq_some_iff.1 ho;obtain ⟨h1,_,hc⟩:=cells?_get hcs;have:=hc 0 (by omega);rw [Nat.zero_mul,show ∀ a:Addr,(a.add 0).add 0=a from fun a=>rfl,List.getElem?_eq_getElem (by omega)] at this;unfold World.cell? at this;split at this
    ·cases hsp:a.spot with
     | none=>rfl
     | some s=>rw [hsp] at this;simp at this
    ·cases this
   by_cases h1:0<len
   ·exact fin _ ⟨elems[0]'(by omega),List.getElem?_eq_getElem _⟩ (hget 0 h1)
   ·have:=hr2 0 (by omega);rw [show len+0=0 by omega] at this;exact fin _ ⟨rest[0]'(by omega),List.getElem?_eq_getElem _⟩ this
  have row:∀ i,i<cap->∃ cs:List Value,(KsOk ks cs/\∀ j,j<ks.length->w.cell? ⟨a.block,a.off+i*ks.length+j,none⟩=cs[j]?)/\(i<len->∃ x∈elems,DataW.trod enc P w 0 (fun _=>true) held m e cs=some x):=by
   intro i hi;have fin:∀ (x:DataW H × List MemPlace),(w.cells? 0 (a.add (i*P.cellsOf e)) (P.cellsOf e)).bind (DataW.trod enc P w 0 (fun _=>true) held m e)=some x->∃ cs:List Value,(KsOk ks cs/\∀ j,j<ks.length->w.cell? ⟨a.block,a.off+i*ks.length+j,none⟩=cs[j]?)/\DataW.trod enc P w 0 (fun _=>true) held m e cs=some x:=by
    intro x ho;obtain ⟨cs,hcs,hx⟩:=Option.bind_eq_some_iff.1 ho;obtain ⟨_,_,hc⟩:=cells?_get hcs;refine ⟨cs,⟨flat_ok d m e cs x ks hx hf,fun j hj=>?_⟩,hx⟩;have:=hc j (by omega);rw [Addr.add_off a _ hspot,Addr.add_plain,<- hk] at this;exact this
   by_cases h1:i<len
   ·obtain ⟨cs,g1,g2⟩:=fin (elems[i]'(by omega)) ((hget i h1).trans (List.getElem?_eq_getElem _));exact ⟨cs,g1,fun _=>⟨_,List.getElem_mem _,g2⟩⟩
   ·have:=hr2 (i - len) (by omega);rw [show len+(i - len)=i by omega] at this;obtain ⟨cs,g1,g2⟩:=fin (rest[i - len]'(by omega)) (this.trans (List.getElem?_eq_getElem _));exact ⟨cs,g1,fun h=>absurd h h1⟩
  ·have hcell:∀ i,i<cap->∀ (j:Nat) (k:CK),ks[j]? = some k->∃ v,w.cell? ⟨a.block,a.off+i*ks.length+j,none⟩=some v/\k.ok v:=by
    intro i hi j k hj;have hjl:j<ks.length:=(List.getElem?_eq_some_iff.1 hj).1;obtain ⟨cs,⟨h1,h2⟩,_⟩:=row i hi;have hlt:j<cs.length:=by rw [h1.len];exact hjl
    exact ⟨cs[j],by rw [h2 j hjl,List.getElem?_eq_getElem hlt],h1.ok j k _ hj (List.getElem?_eq_getElem hlt)⟩
   have hblk:∃ vs ty fr,w.heap[a.block]? = some (.cells vs ty fr):=by
    obtain ⟨v,hv,_⟩:=hcell 0 (by omega) 0 (ks[0]'(by omega)) (List.getElem?_eq_getElem _);unfold World.cell? at hv;split at hv
    ·rename_i vs ty fr hh;exact ⟨vs,ty,fr,hh⟩
    ·cases hv
   obtain ⟨vs,ty,fr,hb⟩:=hblk;have hget2:∀ i,i<cap->∀ (j:Nat) (k:CK),ks[j]? = some k->∃ v,vs[a.off+i*ks.length+j]? = some v/\k.ok v:=by
    intro i hi j k hj;obtain ⟨v,hv,hok⟩:=hcell i hi j k hj;rw [cell_of hb] at hv;exact ⟨v,hv,hok⟩
   have hfit:a.off+cap*ks.length<=vs.size:=by
    obtain ⟨v,hv,_⟩:=hget2 (cap - 1) (by omega) (ks.length - 1) (ks[ks.length - 1]'(by omega)) (List.getElem?_eq_getElem _);obtain ⟨hlt,_⟩:=Array.getElem?_eq_some_iff.1 hv;have:(cap - 1)*ks.length+ks.length=cap*ks.length:=by
     rw [<- Nat.succ_mul];congr 1;omega
    omega
   have hblt:a.block<w.heap.size:=by
    obtain ⟨hlt,_⟩:=Array.getElem?_eq_some_iff.1 hb;exact hlt
   refine ⟨⟨a.block,a.off,cap,fun b=>b=a.block⟩,len,cap,fun i j=>vs[a.off+i*ks.length+j]?.getD undef,hlc,by unfold lenMax;unfold maxLen at hcm;exact hcm,fun i hi j k hj=>?_,fun b hb=>by rw [hb];exact hblt,fun ρ T hT hp=>⟨hT,hlc,by unfold lenMax;unfold maxLen at hcm;exact hcm,.inr ⟨a,rfl,fun _=>⟨by rw [hp];cases a;simp at hspot;subst hspot;simp,by rw [hp];simp⟩⟩⟩,fun ρ=>.inr ⟨vs,ty,fr,hb,hfit,hlc,fun o h1 h2=>?_,fun _=>Iff.rfl,fun i hi j k hj=>?_⟩,fun i hi=>?_⟩
   ·obtain ⟨v,hv,hok⟩:=hget2 i (by omega) j k hj;simp only;rw [hv];exact hok
   ·have hmem:MemPlace.cell a.block o∈ps:=by
     have e:ps=MemPlace.row a ((elems.length+rest.length)*P.cellsOf e)++(elems++rest).flatMap (·.2):=congrArg Prod.snd hx;rw [e];refine List.mem_append_left _ (List.mem_map.2 ⟨o - a.off,?_,?_⟩)
     ·rw [List.mem_range,hel,hr1,<- hk];simp only at h1 h2;rw [show len+(cap - len)=cap by omega];omega
     ·simp only at h1;show MemPlace.cell a.block (a.off+(o - a.off))=_;rw [show a.off+(o - a.off)=o by omega]
    have:=hz _ _ hmem;simp only [World.frozen?,hb] at this;obtain ⟨lo,hi⟩:=fr;simpa using this
   ·obtain ⟨v,hv,hok⟩:=hget2 i (by omega) j k hj;simp only;rw [hv];exact ⟨rfl,hok⟩
   ·obtain ⟨cs,⟨g1,g2⟩,g3⟩:=row i (by omega);obtain ⟨x,hxm,hxt⟩:=g3 hi;refine ⟨m,cs,x,hxt,fun b off hm=>hz b off ?_,g1,fun j hj=>?_⟩
    ·have e:ps=MemPlace.row a ((elems.length+rest.length)*P.cellsOf e)++(elems++rest).flatMap (·.2):=congrArg Prod.snd hx;rw [e];exact List.mem_append_right _ (List.mem_flatMap.2 ⟨x,List.mem_append_left _ hxm,hm⟩)
    ·have h2:=g2 j hj;rw [cell_of hb] at h2;have hlt:j<cs.length:=by rw [g1.len];exact hj
     rw [List.getElem?_eq_getElem hlt] at h2 ⊢;simp only;rw [h2];rfl
theorem open_slice {t e:TypeId} {ks:List CK} {d:Nat} {v:Value} {dd:DataW H} {ps:List MemPlace} {r:Reach} {b0:Nat} (ht:P.underlying t=some (.slice e)) (hf:flatKd true P d e=some ks) (hk:ks.length=P.cellsOf e) (hk1:1<=ks.length)
 (hval:Value.okWide P w r b0 t v) (h:DataW.Trod enc P w 0 (fun _=>true) held t v dd ps) (hz:∀ b off,MemPlace.cell b off∈ps->w.frozen? ⟨b,off,none⟩=false) :
 ∃ (p:Place) (n cap:Nat) (rows:Nat->Nat->Value),n<=cap/\cap<=lenMax/\(∀ i,i<n->∀ (j:Nat) (k:CK),ks[j]? = some k->k.ok (rows i j))/\(∀ b,p.fp b->b<w.heap.size) /\
  (∀ (ρ:Env) (T:Nat),T<ρ.n->ρ.pl T=p->(A.slc T 0 ks.length n cap).Rep ρ v)/\∀ (ρ:Env),(Chunk.arr e ks n rows).Sat ρ p w:=by
 obtain ⟨fuel,h⟩:=h;have hv2:Cell.okWide P w r b0 t v:=by unfold Value.okWide at hval;rw [ht] at hval;exact hval
 have hone:∀ o l c,v.cells.toList=[.slice o l c]->v = .slice o l c:=by
  intro o l c hv;cases v<;>simp [Value.cells] at hv<;>first|exact hv|(simp [hv];done)|skip
  all_goals (unfold Cell.okWide Cell.ok at hv2;rw [ht] at hv2;simp at hv2)
 have hc:v.cells.toList=[v]:=by
  rcases DataW.trod_slice ht h with ⟨hv,_⟩ | ⟨a,len,cap,elems,rest,m,_,hv,_⟩
  ·rw [hone _ _ _ hv];rfl
  ·rw [hone _ _ _ hv];rfl
 rw [hc] at h;obtain ⟨p,n,cap,rows,g1,g2,g3,g4,g5,g6,_⟩:=open_cell ht hf hk hk1 h hz;exact ⟨p,n,cap,rows,g1,g2,g3,g4,g5,g6⟩
theorem okRDs_app:∀ {ks:List CK} {l:List RK} {vs:List Value} {xs:List RD},KsOk ks vs->okRDs l xs->okRDs (ks.map .c++l) ((List.zipWith (fun k v=>RD.a (atomOf k v)) ks vs)++xs)
 | [],l,vs,xs,h,hx=>by
  have:vs=[]:=List.eq_nil_of_length_eq_zero (by simpa using h.len);subst this;exact hx
 | k::ks,l,[],xs,h,hx=>by have:=h.len;simp at this
 | k::ks,l,v::vs,xs,h,hx=>⟨_,_,rfl,⟨v,rfl,h.ok 0 k v rfl rfl⟩,okRDs_app (ks:=ks) (vs:=vs) ⟨by have:=h.len;simpa using this,fun j k' v' hk hv=>h.ok (j+1) k' v' (by simpa using hk) (by simpa using hv)⟩ hx⟩
theorem rAt_app:∀ (n:Nat) (ks:List CK) (vs:List Value) (xs:List RD),rAt n ((List.zipWith (fun k v=>RD.a (atomOf k v)) ks vs)++xs)=List.zipWith atomOf ks vs++rAt n xs
 | _,[],_,_=>by simp
 | _,_::_,[],_=>by simp
 | n,k::ks,v::vs,xs=>by simp [rAt,rAt_app n ks vs xs]
theorem rN_app:∀ (ks:List CK) (vs:List Value) (xs:List RD),rN ((List.zipWith (fun k v=>RD.a (atomOf k v)) ks vs)++xs)=rN xs
 | [],_,_=>by simp
 | _::_,[],_=>by simp
 | k::ks,v::vs,xs=>by simp [rN,rN_app ks vs xs]
theorem rChs_app:∀ (n:Nat) {ks:List CK} {vs:List Value} (l:List RK) (xs:List RD),vs.length=ks.length->rChs n (ks.map .c++l) ((List.zipWith (fun k v=>RD.a (atomOf k v)) ks vs)++xs)=rChs n l xs
 | _,[],[],_,_,_=>by simp
 | _,[],_::_,_,_,h=>by simp at h
 | _,_::_,[],_,_,h=>by simp at h
 | n,k::ks,v::vs,l,xs,h=>by
  have:=rChs_app n (ks:=ks) (vs:=vs) l xs (by simpa using h);simpa [rChs] using this
theorem zip_repL {ρ:Env}:∀ {ks:List CK} {vs:List Value},KsOk ks vs->RepL ρ (List.zipWith atomOf ks vs) vs
 | [],vs,h=>by
  have:vs=[]:=List.eq_nil_of_length_eq_zero (by simpa using h.len);subst this;rfl
 | k::ks,[],h=>by have:=h.len;simp at this
 | k::ks,v::vs,h=>⟨v,vs,rfl,atomOf_rep (h.ok 0 k v rfl rfl) ρ,zip_repL ⟨by have:=h.len;simpa using this,fun j k' v' hk hv=>h.ok (j+1) k' v' (by simpa using hk) (by simpa using hv)⟩⟩
theorem rChs_tag:∀ (n:Nat) (fs:List RK) (xs:List RD),∀ p∈rChs n fs xs,n<=p.1/\p.1<n+rN xs
 | _,[],_,_,h=>by simp [rChs] at h
 | _,_::_,[],_,h=>by simp [rChs] at h
 | n,k::r,x::s,p,h=>by
  cases k<;>cases x<;>simp only [rChs,List.mem_cons] at h
  ·exact rChs_tag n r s p h
  ·have:=rChs_tag n r s p h;simp only [rN];omega
  ·exact rChs_tag n r s p h
  ·rcases h with rfl|h
   ·simp only [rN];omega
   ·have:=rChs_tag (n+1) r s p h;simp only [rN];omega
theorem open_rec {r:Reach} {b0 d n:Nat} {ts:List TypeId} {cs:List Value} (hts:∀ (i:Nat) (v:Value),cs[i]? = some v->∃ u:TypeId,ts[i]? = some u/\Cell.okWide P w r b0 u v) :
 ∀ (fs:List Field) (o:Nat) (l:List RK) (ρ0:Env),recFs P d ts fs o=some l ->
  (∀ f∈fs,∃ x,DataW.trod enc P w 0 (fun _=>true) held n f.type ((cs.drop f.offset).take (P.cellsOf f.type))=some x/\∀ b off,MemPlace.cell b off∈x.2->w.frozen? ⟨b,off,none⟩=false)->o+l.length=cs.length ->
  ∃ (xs:List RD) (ρ:Env),okRDs l xs/\ρ0.le ρ/\ρ.n=ρ0.n+rN xs/\RepL ρ (rAt ρ0.n xs) (cs.drop o)/\HeapSat w (fun _=>False) ρ (ros (rChs ρ0.n l xs)) w
 | [],o,l,ρ0,h,_,hl=>by
  simp [recFs] at h;subst h;refine ⟨[],ρ0,rfl,Env.le.refl _,rfl,?_,⟨Keeps.refl _ _,fun e he=>(by cases he),.nil⟩⟩;have:cs.drop o=[]:=List.drop_eq_nil_of_le (by simp at hl;omega);rw [this];rfl
 | f::fs,o,l,ρ0,h,hf,hl=>by
  simp only [recFs] at h;cases ho:Nat.beq f.offset o with
  | false=>rw [ho] at h;cases h
  | true =>
  rw [ho] at h;simp only [cond_true] at h;have ho':=Nat.eq_of_beq_eq_true ho;obtain ⟨x,hx,hz⟩:=hf f List.mem_cons_self;rw [ho'] at hx;have hfr:∀ g∈fs,∃ x,DataW.trod enc P w 0 (fun _=>true) held n g.type ((cs.drop g.offset).take (P.cellsOf g.type))=some x/\∀ b off,MemPlace.cell b off∈x.2->w.frozen? ⟨b,off,none⟩=false:=fun g hg=>hf g (List.mem_cons_of_mem _ hg);split at h
  ·rename_i e hu;split at h
   ·rename_i ks u l1 e1 e2 e3;cases hb:(Nat.beq ks.length (P.cellsOf e)&&(Nat.ble 1 ks.length&&(Nat.beq (P.cellsOf f.type) 1&&isSlcT P u)))
    ·rw [hb] at h;cases h
    rw [hb] at h;simp only [cond_true,Option.some.injEq] at h;subst h;simp only [Bool.and_eq_true] at hb;obtain ⟨h1,h2,h3,h4⟩:=hb;have hlt:o<cs.length:=by simp at hl;omega
    have hc1:=Nat.eq_of_beq_eq_true h3;have hone:(cs.drop o).take (P.cellsOf f.type)=[cs[o]]:=by
     rw [hc1,List.drop_eq_getElem_cons hlt];rfl
    rw [hone] at hx;obtain ⟨u',hu',hok⟩:=hts o cs[o] (List.getElem?_eq_getElem hlt);rw [e2] at hu';cases hu';obtain ⟨p,m,cap,rows,hn,hc,hrows,hlt2,hrep,hsat,_⟩:=open_cell hu e1 (Nat.eq_of_beq_eq_true h1) (Nat.le_of_ble_eq_true h2) (dd:=x.1) (ps:=x.2) hx hz;obtain ⟨xs,ρ,g1,g2,g3,g4,g5⟩:=open_rec hts fs (o+1) l1 (ρ0.ext p) e3 hfr (by simp at hl ⊢;omega);have hpl:ρ.pl ρ0.n=p:=by rw [g2.pl _ (Nat.lt_succ_self _)];exact ρ0.ext_new p
    have hlt':ρ0.n<ρ.n:=g2.n;refine ⟨.s ks.length m cap rows::xs,ρ,⟨_,_,rfl,⟨m,cap,rows,rfl,hn,hc,hrows⟩,g1⟩,(ρ0.le_ext p).trans g2,by rw [g3];simp [rN,Env.ext];omega,?_,?_⟩
    ·rw [List.drop_eq_getElem_cons hlt];exact ⟨_,_,rfl,hrep ρ ρ0.n hlt' hpl,g4⟩
    ·refine HeapSat.cons g5 ⟨hlt',by simp only;rw [hpl];exact hsat ρ,by simp only;rw [hpl];exact hlt2,fun h=>(by cases h)⟩ fun y hy=>⟨?_,fun h=>?_⟩
     ·obtain ⟨q,hq,rfl⟩:=List.mem_map.1 hy;have:=(rChs_tag _ _ _ _ hq).1;simp only [Env.ext] at this ⊢;omega
     ·rw [ros_wr hy] at h;cases h
   ·cases h
  ·split at h
   ·rename_i ks l1 e1 e3;cases hb:Nat.beq ks.length (P.cellsOf f.type)
    ·rw [hb] at h;cases h
    rw [hb] at h;simp only [cond_true,Option.some.injEq] at h;subst h;have hb':=Nat.eq_of_beq_eq_true hb;have hks:=flat_ok d n f.type _ _ ks hx e1;obtain ⟨xs,ρ,g1,g2,g3,g4,g5⟩:=open_rec hts fs (o+P.cellsOf f.type) l1 ρ0 e3 hfr (by rw [<- hb'];simp at hl;omega);refine ⟨(List.zipWith (fun k v=>RD.a (atomOf k v)) ks ((cs.drop o).take (P.cellsOf f.type)))++xs,ρ,okRDs_app hks g1,g2,by rw [rN_app];exact g3,?_,?_⟩
    ·rw [rAt_app];have e:cs.drop o=(cs.drop o).take (P.cellsOf f.type)++cs.drop (o+P.cellsOf f.type):=by
      rw [<- List.drop_drop,List.take_append_drop]
     rw [e,List.take_append_of_le_length (by rw [hks.len,hb'];exact Nat.le_refl _),List.take_take,Nat.min_self];exact (zip_repL hks).append g4
    ·rw [rChs_app _ _ _ hks.len];exact g5
   ·cases h
theorem chs_tag:∀ (n:Nat) (aks:List AK) (ads:List AD),∀ p∈chs n aks ads,n<=p.1
 | _,[],_,_,h=>by simp [chs] at h
 | _,_::_,[],_,h=>by simp [chs] at h
 | n,k::r,a::s,p,h=>by
  have key:∀ m,n<=m->p∈chs m r s->n<=p.1:=fun m hm h=>Nat.le_trans hm (chs_tag m r s p h);cases k<;>cases a<;>simp only [chs,List.mem_cons,List.mem_append] at h<;>first|exact key n (Nat.le_refl _) h|skip
  ·rcases h with rfl|h
   ·exact Nat.le_refl _
   ·exact key (n+1) (Nat.le_succ _) h
  ·rcases h with h|h
   ·exact (rChs_tag _ _ _ _ h).1
   ·exact key _ (Nat.le_add_right _ _) h
theorem atoms_repL {ρ:Env} {ks:List CK} {cs:List Value} (h:KsOk ks cs):RepL ρ (atoms (fun j=>cs.getD j undef) ks 0) cs:=by
 have:=atoms_rep ρ (fun j=>cs.getD j undef) ks 0 (fun j k hk=>by
  have hj:j<cs.length:=by rw [h.len];exact (List.getElem?_eq_some_iff.1 hk).1
  rw [Nat.zero_add];refine h.ok j k _ hk ?_;simp [List.getD,List.getElem?_eq_getElem hj])
 have e:(List.range' 0 ks.length).map (fun j=>cs.getD j undef)=cs:=by
  apply List.ext_getElem
  ·simp [h.len]
  ·intro i h1 h2;simp [List.getD,List.getElem?_eq_getElem h2]
 rwa [e] at this
theorem open_args {r:Reach} {b0 d:Nat}:∀ (ts:List TypeId) (aks:List AK) (vs:List Value) (ds:List (DataW H)) (ps:List MemPlace) (ρ0:Env),argKs P d ts=some aks->DataW.TrodAll enc P w 0 (fun _=>true) held ts vs ds ps ->
 (∀ (j:Nat) (t:TypeId) (v:Value),ts[j]? = some t->vs[j]? = some v->Value.okWide P w r b0 t v)->(∀ b off,MemPlace.cell b off∈ps->w.frozen? ⟨b,off,none⟩=false) ->
 ∃ (ads:List AD) (ρ:Env),okADs aks ads/\ρ0.le ρ/\ρ.n=ρ0.n+slcs ads/\RepArgs ρ (svs ρ0.n ads) vs/\HeapSat w (fun _=>False) ρ (ros (chs ρ0.n aks ads)) w
 | [],aks,[],[],ps,ρ0,h,hA,_,_=>by
  simp [argKs] at h;subst h;exact ⟨[],ρ0,rfl,Env.le.refl _,rfl,rfl,⟨Keeps.refl _ _,fun e he=>(by cases he),.nil⟩⟩
 | t::ts,aks,v::vs,dd::ds,ps,ρ0,h,hA,hval,hz=>by
  obtain ⟨p1,p2,hT,hA',rfl⟩:=hA;simp only [argKs] at h;split at h
  ·rename_i k l e1 e2;cases h;have hv0:=hval 0 t v rfl rfl;have rec_:=fun ρ=>open_args (r:=r) (b0:=b0) (d:=d) ts l vs ds p2 ρ e2 hA' (fun j t v hj hv=>hval (j+1) t v (by simpa using hj) (by simpa using hv)) (fun b off hm=>hz b off (List.mem_append_right _ hm));have hz1:∀ b off,MemPlace.cell b off∈p1->w.frozen? ⟨b,off,none⟩=false:=fun b off hm=>hz b off (List.mem_append_left _ hm);obtain ⟨fuel,hx⟩:=hT;have one:∀ u,v.cells.toList=[u]->u.oneCell'=true->(∀ x,v≠.agg x)->v=u:=by
    intro u hv hu hna;cases v<;>simp [Value.cells] at hv<;>first|exact hv|exact hv.symm|(rename_i x;exact absurd rfl (hna x))|(subst hv;simp [Value.oneCell'] at hu)
   have nagg:∀ x:Array Value,v = .agg x->(∃ fs,P.underlying t=some (.struct fs))\/∃ n e,P.underlying t=some (.array n e):=by
    intro x hx;subst hx;unfold Value.okWide at hv0;split at hv0
    ·rename_i fs hu;exact .inl ⟨fs,hu⟩
    ·rename_i n e hu;exact .inr ⟨n,e,hu⟩
    ·rename_i h1 h2;unfold Cell.okWide at hv0;split at hv0<;>first|(cases ‹Value.agg x=_›;done)|skip
     all_goals (first|(rename_i e;cases e;done)|skip)
     unfold Cell.ok at hv0;split at hv0<;>first|(rename_i e;cases e;done)|exact hv0.elim|skip
   unfold argK at e1;split at e1
   ·rename_i hu;cases e1;obtain ⟨b,hb,_⟩:=DataW.trod_bool hu hx;have hv:=one _ hb rfl (fun x hx=>by rcases nagg x hx with ⟨_,h⟩ | ⟨_,_,h⟩<;>rw [hu] at h<;>cases h);subst hv;obtain ⟨ads,ρ,h1,h2,h3,h4,h5⟩:=rec_ ρ0;exact ⟨.a (.bool b)::ads,ρ,⟨_,_,rfl,⟨b,rfl⟩,h1⟩,h2,h3,⟨_,_,rfl,rfl,h4⟩,h5⟩
   ·rename_i kk hu;cases e1;obtain ⟨m,hb,_,hw⟩:=DataW.trod_int hu hx;have hv:=one _ hb rfl (fun x hx=>by rcases nagg x hx with ⟨_,h⟩ | ⟨_,_,h⟩<;>rw [hu] at h<;>cases h);subst hv;have hin:InR kk m:=by rw [InR_iff];simpa [Lit.wf] using hw
    obtain ⟨ads,ρ,h1,h2,h3,h4,h5⟩:=rec_ ρ0;exact ⟨.a (.int kk m)::ads,ρ,⟨_,_,rfl,⟨m,rfl,hin⟩,h1⟩,h2,h3,⟨_,_,rfl,⟨rfl,hin⟩,h4⟩,h5⟩
   ·rename_i hu;cases e1;obtain ⟨s,hb,_,hs⟩:=DataW.trod_string hu hx;have hv:=one _ hb rfl (fun x hx=>by rcases nagg x hx with ⟨_,h⟩ | ⟨_,_,h⟩<;>rw [hu] at h<;>cases h);subst hv;have hs':s.size<=lenMax:=by unfold lenMax;unfold maxLen at hs;exact hs
    obtain ⟨ads,ρ,h1,h2,h3,h4,h5⟩:=rec_ ρ0;exact ⟨.a (.str s)::ads,ρ,⟨_,_,rfl,⟨s,rfl,hs'⟩,h1⟩,h2,h3,⟨_,_,rfl,⟨rfl,hs'⟩,h4⟩,h5⟩
   ·rename_i fs hu;cases hf:flatK P d t with
    | none =>
     rw [hf] at e1;simp only at e1;split at e1
     ·rename_i tys hty;split at e1
      ·rename_i fl hfl;cases hb:(Nat.beq fl.length (P.cellsOf t)&&Nat.beq tys.length (P.cellsOf t))
       ·rw [hb] at e1;cases e1
       rw [hb] at e1;simp only [cond_true,Option.some.injEq] at e1;subst e1;simp only [Bool.and_eq_true] at hb;have hb1:=Nat.eq_of_beq_eq_true hb.1;have hb2:=Nat.eq_of_beq_eq_true hb.2;have hv:∃ cs:Array Value,v = .agg cs/\cs.size=P.cellsOf t/\Row.okWide P w r b0 t cs:=by
        unfold Value.okWide at hv0;rw [hu] at hv0;exact hv0
       obtain ⟨cs,rfl,hcs,hrow⟩:=hv;obtain ⟨tys',hty',_,hcell⟩:=hrow;rw [hty] at hty';cases hty';obtain ⟨xs,m,rfl,hxx,hl,hlen,hget⟩:=DataW.trod_struct hu hx;have hps:p1=xs.flatMap (·.2):=congrArg Prod.snd hxx;obtain ⟨rd,ρ1,g1,g2,g3,g4,g5⟩:=open_rec (r:=r) (b0:=b0) (d:=d) (n:=m) (ts:=tys) (cs:=cs.toList) (enc:=enc) (held:=held) (P:=P) (w:=w) (fun i v hi=>by
        have hi':cs[i]? = some v:=by simpa using hi
        obtain ⟨u,h1,h2⟩:=hcell i v hi';have hlt:=(Array.getElem?_eq_some_iff.1 hi').1;rw [Nat.mod_eq_of_lt (by omega)] at h1;exact ⟨u,h1,h2⟩) fs.toList 0 fl ρ0 hfl (fun f hf=>by
        obtain ⟨i,hi,e⟩:=List.getElem_of_mem hf;have hi':i<fs.size:=by simpa using hi
        have h1:=hget i f (by rw [Array.getElem?_eq_getElem hi'];congr 1);refine ⟨xs[i]'(by omega),by rw [<- List.getElem?_eq_getElem (by omega)];exact h1,fun b off hm=>hz1 b off ?_⟩;rw [hps];exact List.mem_flatMap.2 ⟨_,List.getElem_mem _,hm⟩) (by simp [hb1,hcs])
       obtain ⟨ads,ρ,h1,h2,h3,h4,h5⟩:=rec_ ρ1;rw [g3] at h4 h5;refine ⟨.rcd rd::ads,ρ,⟨_,_,rfl,⟨rd,rfl,g1⟩,h1⟩,g2.trans h2,by rw [h3,g3];simp [slcs];omega,⟨_,_,rfl,⟨cs.toList,by simp,?_⟩,h4⟩,?_⟩
       ·have:=g4.mono h2;simpa using this
       ·show HeapSat w (fun _=>False) ρ (ros (rChs ρ0.n fl rd++chs (ρ0.n+rN rd) l ads)) w;rw [show ros (rChs ρ0.n fl rd++chs (ρ0.n+rN rd) l ads)=ros (rChs ρ0.n fl rd)++ros (chs (ρ0.n+rN rd) l ads) from List.map_append ..];refine (g5.mono h2).app h5 fun x hx y hy=>⟨?_,fun h=>?_⟩
        ·obtain ⟨q,hq,rfl⟩:=List.mem_map.1 hx;obtain ⟨q',hq',rfl⟩:=List.mem_map.1 hy;have a1:=rChs_tag _ _ _ _ hq;have a2:=chs_tag _ _ _ _ hq';simp only;omega
        ·rw [ros_wr hx,ros_wr hy] at h;cases h
      ·cases e1
     ·cases e1
    | some ks =>
     rw [hf] at e1;cases e1;have hks:=flat_ok d fuel t _ _ ks hx hf;have hv:∃ cs:Array Value,v = .agg cs:=by
      unfold Value.okWide at hv0;rw [hu] at hv0;obtain ⟨cs,h,_⟩:=hv0;exact ⟨cs,h⟩
     obtain ⟨cs,rfl⟩:=hv;have hks:KsOk ks cs.toList:=hks;obtain ⟨ads,ρ,h1,h2,h3,h4,h5⟩:=rec_ ρ0;refine ⟨.agg (atoms (fun j=>cs.toList.getD j undef) ks 0)::ads,ρ,⟨_,_,rfl,⟨_,rfl,fun j k hj=>?_⟩,h1⟩,h2,h3,⟨_,_,rfl,⟨cs.toList,by simp,atoms_repL hks⟩,h4⟩,h5⟩;have hjl:j<cs.toList.length:=by rw [hks.len];exact (List.getElem?_eq_some_iff.1 hj).1
     exact hks.ok j k _ hj (by simp [List.getD,List.getElem?_eq_getElem hjl])
   ·rename_i e hu;split at e1
    ·rename_i ks hf;cases hb:(Nat.beq ks.length (P.cellsOf e)&&Nat.ble 1 ks.length)
     ·rw [hb] at e1;cases e1
     rw [hb] at e1;cases e1;simp only [Bool.and_eq_true] at hb;obtain ⟨p,n,cap,rows,hn,hc,hrows,hlt,hrep,hsat⟩:=open_slice hu hf (Nat.eq_of_beq_eq_true hb.1) (Nat.le_of_ble_eq_true hb.2) hv0 ⟨fuel,hx⟩ hz1;obtain ⟨ads,ρ,h1,h2,h3,h4,h5⟩:=rec_ (ρ0.ext p);have hpl:ρ.pl ρ0.n=p:=by rw [h2.pl _ (Nat.lt_succ_self _)];exact ρ0.ext_new p
     have hlt':ρ0.n<ρ.n:=h2.n;refine ⟨.slc ks.length n cap rows::ads,ρ,⟨_,_,rfl,⟨n,cap,rows,rfl,hn,hc,hrows⟩,h1⟩,(ρ0.le_ext p).trans h2,by rw [h3];simp [slcs,Env.ext];omega,⟨_,_,rfl,hrep ρ ρ0.n hlt' hpl,h4⟩,?_⟩;refine HeapSat.cons h5 ⟨hlt',by simp only;rw [hpl];exact hsat ρ,by simp only;rw [hpl];exact hlt,fun h=>(by cases h)⟩ fun x hx=>⟨?_,fun h=>?_⟩
     ·obtain ⟨q,hq,rfl⟩:=List.mem_map.1 hx;have:=chs_tag _ _ _ _ hq;simp only [Env.ext] at this ⊢;omega
     ·rw [ros_wr hx] at h;cases h
    ·cases e1
   ·cases e1
  ·cases h
 | [],_,[],_::_,_,_,_,h,_,_=>h.elim
 | [],_,_::_,_,_,_,_,h,_,_=>h.elim
 | _::_,_,[],_,_,_,_,h,_,_=>h.elim
 | _::_,_,_::_,[],_,_,_,h,_,_=>h.elim
theorem law_con {Y:Gx} (hY:Y.Ok) {C:Con} {ch:C.α->CallH} (hch:∀ a,HOk Y.G.X (ch a)) {lh:C.α->Nat->LH} {f:Nat} (hb:conBody Y C ch lh f) (a:C.α) (hp:C.pre a) (hhp:C.hp a=[]) (hres:∀ o,C.res a o = .a .tt) {w:World} {ρ:Env} {vs:List Value}
 (hn:ρ.n=C.m) (hh:HeapSat w (fun _=>False) ρ (ros (C.ro a)) w) (hargs:RepArgs ρ (C.args a) vs):Calls Y.G.X.P f vs.toArray w fun e w'=>e = .returned (.bool true)/\Keeps (fun _=>False) w w':=by
 refine (xbody_ok hY (hch a) (hb a hp) w (fun _=>False) ρ w vs hn ?_ hargs).mono ?_
 ·show HeapSat w (fun _=>False) ρ (wrs (C.hp a)++ros (C.ro a)) w;rw [hhp];exact hh
 ·rintro e w' ⟨v,rfl,sv,s',ρ',hK,_,_,_,_,hrep,hh'⟩;refine ⟨?_,hh'.keeps⟩;obtain ⟨o,hK⟩:=hK;obtain ⟨τ,_,_,hw,q⟩:=matchV_ok hK (Wf.nil _ _);have:=q ρ' (subEnv ρ' τ C.m') v (subEnv_fits hw) hrep;rw [hres o] at this;rw [show v = .bool true from this]
theorem law_run {Y:Gx} (hY:Y.Ok) {C:Con} {ch:C.α->CallH} (hch:∀ a,HOk Y.G.X (ch a)) {lh:C.α->Nat->LH} {f:Nat} (hb:conBody Y C ch lh f) {ts:List TypeId} {aks:List AK} {d:Nat} (hk:argKs Y.G.X.P d ts=some aks) (hhp:∀ a,C.hp a=[]) (hres:∀ a o,C.res a o = .a .tt)
 (hinst:∀ ads,okADs aks ads->∃ a,C.pre a/\C.args a=svs 0 ads/\C.ro a=chs 0 aks ads/\C.m=slcs ads) {W:World} {args:Array Value} {ds:List (DataW H)} {ps:List MemPlace} {r:Reach} {b0:Nat}
 (hA:DataW.TrodAll enc Y.G.X.P W 0 (fun _=>true) held ts args.toList ds ps) (hval:∀ (j:Nat) (t:TypeId) (v:Value),ts[j]? = some t->args.toList[j]? = some v->Value.okWide Y.G.X.P W r b0 t v)
 (hz:∀ b off,MemPlace.cell b off∈ps->W.frozen? ⟨b,off,none⟩=false):Calls Y.G.X.P f args W fun e w'=>e = .returned (.bool true)/\Keeps (fun _=>False) W w':=by
 obtain ⟨ads,ρ,h1,_,h3,h4,h5⟩:=open_args (r:=r) (b0:=b0) (d:=d) ts aks args.toList ds ps ⟨0,fun _=>nilPlace⟩ hk hA hval hz;obtain ⟨a,g1,g2,g3,g4⟩:=hinst ads h1;have:=law_con hY hch hb a g1 (hhp a) (hres a) (w:=W) (ρ:=ρ) (vs:=args.toList) (by rw [h3,g4];simp) (by rw [g3];exact h5) (by rw [g2];exact h4);simpa using this
theorem fn_run {Y:Gx} (hY:Y.Ok) {tab:List (Nat × Con)} (ht:TabOk Y.G.X tab) {f:Nat} {C:Con} {l:C.α->List (Nat × List An × List An)} (hb:fnBody Y tab f C l) {ts:List TypeId} {aks:List AK} {d:Nat} (hk:argKs Y.G.X.P d ts=some aks) (hhp:∀ a,C.hp a=[]) (hres:∀ a o,C.res a o = .a .tt)
 (hinst:∀ ads,okADs aks ads->∃ a,C.pre a/\C.args a=svs 0 ads/\C.ro a=chs 0 aks ads/\C.m=slcs ads) {W:World} {args:Array Value} {ds:List (DataW H)} {ps:List MemPlace} {r:Reach} {b0:Nat}
 (hA:DataW.TrodAll enc Y.G.X.P W 0 (fun _=>true) held ts args.toList ds ps) (hval:∀ (j:Nat) (t:TypeId) (v:Value),ts[j]? = some t->args.toList[j]? = some v->Value.okWide Y.G.X.P W r b0 t v)
 (hz:∀ b off,MemPlace.cell b off∈ps->W.frozen? ⟨b,off,none⟩=false):Calls Y.G.X.P f args W fun e w'=>e = .returned (.bool true)/\Keeps (fun _=>False) W w' :=
 law_run hY (fun _=>CHof_ok hY ht) hb.body hk hhp hres hinst hA hval hz
theorem trodAll_len:∀ {ts:List TypeId} {vs:List Value} {ds:List (DataW H)} {ps:List MemPlace},DataW.TrodAll enc P w base spare held ts vs ds ps->ds.length=ts.length
 | [],[],[],_,_=>rfl
 | _::_,_::_,_::_,_,⟨_,_,_,h,_⟩=>by simp [trodAll_len h]
 | [],[],_::_,_,h=>h.elim
 | [],_::_,_,_,h=>h.elim
 | _::_,[],_,_,h=>h.elim
 | _::_,_::_,[],_,h=>h.elim
theorem trodAll_stays (hl:laidOutB P=true) {W W':World} (hk:Keeps (fun _=>False) W W') {sp:Nat->Bool}:∀ {ts:List TypeId} {vs:List Value} {ds:List (DataW H)} {ps:List MemPlace},(∀ t∈ts,P.readableRec t=true/\t<P.types.size) ->
 DataW.TrodAll enc P W 0 (fun _=>true) true ts vs ds ps->(∀ p∈ps,p.block<W.heap.size/\sp p.block=true)->DataW.TrodAll enc P W' 0 sp true ts vs ds ps
 | [],[],[],_,_,h,_=>h
 | t::ts,v::vs,d::ds,ps,ht,⟨p1,p2,h1,h2,e⟩,hp=>by
  subst e;have hb:Below W.heap.size W W':=⟨hk.os,hk.tape,hk.output,hk.size,fun b hb=>hk.block b hb id⟩
  obtain ⟨a1,a2⟩:=ht t List.mem_cons_self;exact ⟨p1,p2,WideElems.Trod_stays hl a1 a2 h1 (fun x hx=>hb.same (hp x (List.mem_append_left _ hx)).1) (fun x hx=>(hp x (List.mem_append_left _ hx)).2),
   trodAll_stays hl hk (fun t h=>ht t (List.mem_cons_of_mem _ h)) h2 fun x hx=>hp x (List.mem_append_right _ hx),rfl⟩
 | [],[],_::_,_,_,h,_=>h.elim
 | [],_::_,_,_,_,h,_=>h.elim
 | _::_,[],_,_,_,h,_=>h.elim
 | _::_,_::_,[],_,_,h,_=>h.elim
end
end Go.Sx

namespace Go.Proofs.YtfobhkibkdmglaaGreat
open Go.Sx
set_option maxRecDepth 100000
set_option linter.unusedVariables false
set_option linter.unusedSimpArgs false
def wipeF (m:FlM):FlM:=flushF { addF m [2] with l:=[] }
structure FWipA where
 m:FlM
 p:FlP
noncomputable def cFWipe:Con where
 α:=FWipA
 β:=FlP
 m:=7
 m':=10
 pre:=fun a=>FlAt a.m a.p/\FlOk a.m 1/\(addF a.m [2]).d.n<100000/\(addF a.m [2]).d.calls<1000000000000
 args:=fun _=>[.a (.ptr 0 0 0 0)]
 hp:=fun a=>flHp 0 1 2 3 4 5 6 a.m a.p
 ro:=fun _=>[]
 post:=fun a b=>FlAt (wipeF a.m) b/\FlFr a.p b
 res:=fun _ _=>.a (.int .i64 0)
 hp':=fun a b=>flHp 0 1 2 3 7 8 9 (wipeF a.m) b
set_option maxHeartbeats 4000000 in
theorem bodyFWipe:fnBody (Y Tryz.prog) [(35,cAdd),(29,cINew),(64,cDevFlush)] 17 cFWipe fun _=>[]:=fnBody.of (p :=
 ∀ a:FWipA,FlAt a.m a.p/\FlOk a.m 1/\(addF a.m [(2:Int)]).d.n<100000/\(addF a.m [(2:Int)]).d.calls<1000000000000->∃ a_2:AddA,0=0/\(0=0/\1=a_2.body.length/\1=a_2.cap)/\0=0/\0=0/\0=0/\logQ a.m.L a_2.m.L a.p.y.lv a_2.p.y.lv (devQ a.m.d a_2.m.d (idxQ a.p.x a_2.p.x a.p.cap a_2.p.cap (a.p.H=a_2.p.H/\(a_2.body.length<=1/\RowsEq a_2.body.length 1 (flatRows 1 [Value.int IntKind.u8 (2:Int)]) (encRows encB a_2.body))/\(FlAt a_2.m a_2.p/\FlOk a_2.m a_2.body.length/\1<=a_2.body.length/\a_2.body.length<=300)/\∀ b:FlP,FlAt (addF a_2.m a_2.body) b/\FlFr a_2.p b->(false=true->∃ b_1:FlP,(0:Int)=0/\b.H=b_1.H/\0=0/\0=0/\0=0/\logQ (addF a_2.m a_2.body).L (wipeF a.m).L b.y.lv b_1.y.lv (devQ (addF a_2.m a_2.body).d (wipeF a.m).d (idxQ b.x b_1.x b.cap b_1.cap ((FlAt (wipeF a.m) b_1/\FlFr a.p b_1)/\True))))/\(false=false->∃ a_5:Unit,True/\∀ b_1:Unit,True->∃ a_7:DevM,0=0/\devQ (addF a_2.m a_2.body).d a_7 ((a_7.n<100000/\a_7.calls<1000000000000)/\∀ b_2:Unit,True->∃ b_3:FlP,(0:Int)=0/\b.H=b_3.H/\0=0/\0=0/\0=0/\logQ (addF a_2.m a_2.body).L (wipeF a.m).L b.y.lv b_3.y.lv (devQ (devFl a_7) (wipeF a.m).d ((0=0/\16=b_3.x.t.length/\16=b_3.cap)/\0=(↑b_3.x.n:Int)/\0=(↑b_3.x.used:Int)/\(b_3.x.t.length<=16/\RowsEq b_3.x.t.length 4 (encRows Ix.encP (Ix.emptyI 16).t) (encRows Ix.encP b_3.x.t))/\(FlAt (wipeF a.m) b_3/\FlFr a.p b_3)/\True)))))))) (by kernel_rfl) (by
 rintro ⟨m,p⟩ ⟨hat,hok,hw1,hw2⟩;have hr:RowsEq 1 1 (flatRows 1 [Value.int .u8 2]) (encRows encB [2]):=.of_cells fun i hi=>by
  have:i=0:=by omega
  subst this;rfl
 have h0:FlOk m ([2]:List Int).length:=hok;have h1:1<=([2]:List Int).length:=by decide
 have h2:([2]:List Int).length<=300:=by decide
 refine ⟨AddA.mk m p [2] 1,?_⟩
 (repeat' apply And.intro)<;>first|with_reducible (first|rfl|trivial|assumption)|exact hat|exact h0|exact h1|exact h2|exact hr|(intro h_;revert h_)|omega|with_reducible exact RowsEq.refl _ _ _|rfl|exact RowsEq.refl _ _ _|exact Nat.le_refl _|(dsimp only;omega)|skip
 rintro p2 ⟨hat2,hf2⟩;have e:addF (AddA.mk m p [2] 1).m (AddA.mk m p [2] 1).body=addF m [2]:=rfl;refine ⟨fun c=>absurd c (by decide),fun _=>⟨(),trivial,fun _ _=>⟨(addF m [2]).d,?_⟩⟩⟩
 (repeat' apply And.intro)<;>first|with_reducible (first|rfl|trivial|assumption)|exact hw1|exact hw2|(intro h_;revert h_)|omega|with_reducible exact RowsEq.refl _ _ _|rfl|exact RowsEq.refl _ _ _|exact Nat.le_refl _|(dsimp only;omega)|skip
 intro _ _;have h3:FlAt (wipeF m) ⟨p2.H,p2.y,Ix.emptyI 16,16⟩:=⟨hat2.log,Ix.empty_has (by omega) (by omega)⟩
 have h4:FlFr p ⟨p2.H,p2.y,Ix.emptyI 16,16⟩:=hf2;refine ⟨⟨p2.H,p2.y,Ix.emptyI 16,16⟩,?_⟩
 (repeat' apply And.intro)<;>first|with_reducible (first|rfl|trivial|assumption)|exact h3|exact h4|(intro h_;revert h_)|omega|with_reducible exact RowsEq.refl _ _ _|rfl|exact RowsEq.refl _ _ _|exact Nat.le_refl _|(dsimp only;omega)|skip)
theorem callFWipe:CallsBy (Y Tryz.prog).G.X 17 cFWipe:=fn_ok okY (tab:=[(35,cAdd),(29,cINew),(64,cDevFlush)]) ⟨callAdd,callINew,callDevFlush,trivial⟩ bodyFWipe
end Go.Proofs.YtfobhkibkdmglaaGreat

namespace Go.Proofs.YtfobhkibkdmglaaGreat
open Go.Sx
set_option maxRecDepth 100000
set_option linter.unusedVariables false
set_option linter.unusedSimpArgs false
theorem lastTo_lt {xs:List ItemM} {key:ByteArray} {i:Nat}:∀ n,lastTo xs key n=some i->i<n
 | 0,h=>by cases h
 | n+1,h=>by
  unfold lastTo at h;split at h
  ·cases h;omega
  ·have:=lastTo_lt n h;omega
structure SRgtA where
 xs:List ItemM
 cap:Nat
 m:FlM
 p:FlP
 key:ByteArray
 now:Int
 sg:Int
 r:Option ItemM
noncomputable def cSRgt:Con where
 α:=SRgtA
 β:=Unit
 m:=9
 m':=9
 pre:=fun a=>a.xs.length<1000/\(∀ x∈a.xs,costI x<=1000)/\0<=a.sg/\a.sg<=1000/\FlAt a.m a.p/\FlRd a.m/\EntIs a.m a.key a.r/\a.key.size<=lenMax
 args:=fun a=>[.a (.ptr 0 0 0 0),.a (.ptr 2 0 0 0),.a (.str a.key),.a (.int .i64 a.now),.a (.int .i64 a.sg)]
 hp:=fun _=>[]
 ro:=fun a=>sttHp 0 1 a.xs a.cap++flHp 2 3 4 5 6 7 8 a.m a.p
 post:=fun _ _=>True
 res:=fun a _=>.a (.bool (rightB a.xs a.sg a.r a.key a.now))
 hp':=fun _ _=>[]
noncomputable def tabSRgt:List (Nat × Con):=[(26,cFGet),(41,cSLast),(43,cSAft),(42,cRLive),(44,cREq)]
theorem tabSRgt_ok:TabOk (Y Tryz.prog).G.X tabSRgt:=⟨callFGet,callSLast,callSAft,callRLive,callREq,trivial⟩
set_option maxHeartbeats 4000000 in
theorem bodySRgt:fnBody (Y Tryz.prog) tabSRgt 19 cSRgt fun _=>[]:=fnBody.of (p :=
 ∀ a:SRgtA,a.xs.length<1000/\(∀ x:ItemM,x∈a.xs->costI x<=1000)/\(0:Int)<=a.sg/\a.sg<=(1000:Int)/\FlAt a.m a.p/\FlRd a.m/\EntIs a.m a.key a.r/\a.key.size<=lenMax->∃ a_2:FGetA,0=0/\a.key=a_2.key/\a.now=a_2.now/\0=0/\0=0/\0=0/\logQ a.m.L a_2.m.L a.p.y.lv a_2.p.y.lv (devQ a.m.d a_2.m.d (idxQ a.p.x a_2.p.x a.p.cap a_2.p.cap (a.p.H=a_2.p.H/\(FlAt a_2.m a_2.p/\FlRd a_2.m/\EntIs a_2.m a_2.key a_2.r/\a_2.key.size<=lenMax)/\∀ b:Unit,True->∃ a_4:SLastA,0=0/\a.key=a_4.key/\(↑a.xs.length:Int)=(↑a_4.xs.length:Int)/\(0=0/\a.xs.length=a_4.xs.length/\a.cap=a_4.cap)/\(0:Int)=0/\(a_4.xs.length<=a.xs.length/\RowsEq a_4.xs.length 6 (encRows encEnt (entsOf a.xs)) (encRows encEnt (entsOf a_4.xs)))/\a_4.xs.length<1000/\∀ b:Unit,True->((!(lastI a_4.xs a_4.key).snd.snd)=true->((!(getR a_2.r a_2.now).isSome)=true->∃ b:Unit,decide (((getR a_2.r a_2.now).getD zeroItem).key=(ByteArray.mk #[]))=rightB a.xs a.sg a.r a.key a.now/\True/\True)/\((!(getR a_2.r a_2.now).isSome)=false->∃ b:Unit,false=rightB a.xs a.sg a.r a.key a.now/\True/\True))/\((!(lastI a_4.xs a_4.key).snd.snd)=false->∃ a_7:ItemM × Int,(lastI a_4.xs a_4.key).fst.key=a_7.fst.key/\(lastI a_4.xs a_4.key).fst.val=a_7.fst.val/\(lastI a_4.xs a_4.key).fst.e=a_7.fst.e/\(lastI a_4.xs a_4.key).fst.gone=a_7.fst.gone/\a.now=a_7.snd/\True/\∀ b:Unit,True->((!liveB a_7.fst a_7.snd)=true->((!(getR a_2.r a_2.now).isSome)=true ->
 ∃ b:Unit,decide (((getR a_2.r a_2.now).getD zeroItem).key=(ByteArray.mk #[]))=rightB a.xs a.sg a.r a.key a.now/\True/\True)/\((!(getR a_2.r a_2.now).isSome)=false->∃ b:Unit,false=rightB a.xs a.sg a.r a.key a.now/\True/\True))/\((!liveB a_7.fst a_7.snd)=false->((!(getR a_2.r a_2.now).isSome)=true->∃ a_11:SAftA,0=0/\(↑(lastI a_4.xs a_4.key).snd.fst:Int)=(↑a_11.i:Int)/\(0=0/\a.xs.length=a_11.xs.length/\a.cap=a_11.cap)/\(0:Int)=0/\(a_11.xs.length<=a.xs.length/\RowsEq a_11.xs.length 6 (encRows encEnt (entsOf a.xs)) (encRows encEnt (entsOf a_11.xs)))/\(a_11.i<a_11.xs.length/\a_11.xs.length<1000/\∀ x:ItemM,x∈a_11.xs->costI x<=1000)/\∀ b:Unit,True->InR .i64 (a.sg - (2:Int))/\InR .i64 ((200:Int)*(a.sg - (2:Int)))/\∃ b:Unit,decide ((200:Int)*(a.sg - (2:Int))<(↑(afterI a_11.xs a_11.i):Int))=rightB a.xs a.sg a.r a.key a.now/\True/\True)/\((!(getR a_2.r a_2.now).isSome)=false->∃ a_11:ItemM × ItemM,((getR a_2.r a_2.now).getD zeroItem).key=a_11.fst.key/\((getR a_2.r a_2.now).getD zeroItem).val=a_11.fst.val/\((getR a_2.r a_2.now).getD zeroItem).e=a_11.fst.e/\((getR a_2.r a_2.now).getD zeroItem).gone=a_11.fst.gone/\(lastI a_4.xs a_4.key).fst.key=a_11.snd.key/\(lastI a_4.xs a_4.key).fst.val=a_11.snd.val/\(lastI a_4.xs a_4.key).fst.e=a_11.snd.e/\(lastI a_4.xs a_4.key).fst.gone=a_11.snd.gone/\True/\∀ b:Unit,True->∃ b:Unit,eqI a_11.fst a_11.snd=rightB a.xs a.sg a.r a.key a.now /\
 True/\True))))))) (by kernel_rfl) (by
 rintro ⟨xs,cap,m,p,key,now,sg,r⟩ ⟨h1,h2,h3,h4,h5,h6,h7,h8⟩;have h1:xs.length<1000:=h1;have h2:∀ x∈xs,costI x<=1000:=h2;have h3:0<=sg:=h3;have h4:sg<=1000:=h4;refine ⟨FGetA.mk m p key now r,?_⟩
 (repeat' apply And.intro)<;>first|with_reducible (first|rfl|trivial|assumption)|exact h5|exact h6|exact h7|exact h8|(intro h_;revert h_)|omega|with_reducible exact RowsEq.refl _ _ _|rfl|exact RowsEq.refl _ _ _|exact Nat.le_refl _|(dsimp only;omega)|skip
 intro _ _;refine ⟨SLastA.mk xs cap key,?_⟩
 (repeat' apply And.intro)<;>first|with_reducible (first|rfl|trivial|assumption)|exact h1|(intro h_;revert h_)|omega|with_reducible exact RowsEq.refl _ _ _|rfl|exact RowsEq.refl _ _ _|exact Nat.le_refl _|(dsimp only;omega)|skip
 intro _ _;dsimp only;cases hl:lastTo xs key xs.length with
 | none =>
  have e:lastI xs key=(zeroItem,0,false):=by unfold lastI;rw [hl]
  have hR:rightB xs sg r key now=noneB r now:=by unfold rightB;rw [hl]
  rw [e,hR];refine ⟨fun _=>⟨fun c=>⟨(),?_,trivial,trivial⟩,fun c=>⟨(),?_,trivial,trivial⟩⟩,fun c=>absurd c (by decide)⟩
  ·unfold noneB;rw [c];rfl
  ·unfold noneB;rw [c];rfl
 | some i =>
  have e:lastI xs key=(gl xs i,i,true):=by unfold lastI;rw [hl]
  have hi:=lastTo_lt _ hl;have hR:rightB xs sg r key now=if liveB (gl xs i) now then (if (getR r now).isSome then eqI ((getR r now).getD zeroItem) (gl xs i) else decide (200*(sg - 2)<(afterI xs i:Int))) else noneB r now:=by unfold rightB;rw [hl]
  rw [e,hR];refine ⟨fun c=>absurd c (by simp),fun _=>⟨(gl xs i,now),rfl,rfl,rfl,rfl,rfl,trivial,fun _ _=>⟨fun c1=>?_,fun c1=>?_⟩⟩⟩
  ·have hn:¬ liveB (gl xs i) now=true:=by simpa using c1
   rw [if_neg hn];refine ⟨fun c=>⟨(),?_,trivial,trivial⟩,fun c=>⟨(),?_,trivial,trivial⟩⟩
   ·unfold noneB;rw [c];rfl
   ·unfold noneB;rw [c];rfl
  ·have hn:liveB (gl xs i) now=true:=by simpa using c1
   rw [if_pos hn];refine ⟨fun c=>⟨SAftA.mk xs cap i,?_⟩,fun c=>⟨((getR r now).getD zeroItem,gl xs i),rfl,rfl,rfl,rfl,rfl,rfl,rfl,rfl,trivial,fun _ _=>⟨(),?_,trivial,trivial⟩⟩⟩
   ·have hs:¬ (getR r now).isSome=true:=by simpa using c
    rw [if_neg hs]
    (repeat' apply And.intro)<;>first|with_reducible (first|rfl|trivial|assumption)|exact hi|exact h1|exact h2|(intro h_;revert h_)|omega|with_reducible exact RowsEq.refl _ _ _|rfl|exact RowsEq.refl _ _ _|exact Nat.le_refl _|(dsimp only;omega)|skip
    exact fun _ _=>⟨by simp only [InR];omega,by simp only [InR];omega,(),rfl,trivial,trivial⟩
   ·have hs:(getR r now).isSome=true:=by simpa using c
    rw [if_pos hs])
theorem callSRgt:CallsBy (Y Tryz.prog).G.X 19 cSRgt:=fn_ok okY tabSRgt_ok bodySRgt
def ksOp:List CK:=[.int .i64,.str,.str,.int .i64,.bool,.int .i64,.deep]
structure FAllA where
 sg:Int
 n:Nat
 cap:Nat
 ops:Nat->Nat->Value
structure OpsOk (a:FAllA):Prop where
 ok:∀ i,i<a.n->∀ (j:Nat) (k:CK),ksOp[j]? = some k->k.ok (a.ops i j)
def opX (a:FAllA) (i:Nat):ItemM:=cutI ⟨toS (a.ops i 1),toS (a.ops i 2),toI (a.ops i 3),toB (a.ops i 4)⟩
def sgM (a:FAllA):Int:=4+(a.sg.tmod 12+12).tmod 12
def stepA (s:List ItemM × FlM) (k:Int) (x:ItemM):List ItemM × FlM :=
 if k=0 then (if putOk x then s.1++[x] else s.1,putF s.2 x)
 else if k=1 then (if keyB x.key then s.1++[itemD x.key] else s.1,dropsF s.2 [x.key])
 else if k=2 then (s.1,flushF s.2)
 else if k=3 then ([],wipeF s.2)
 else s
def m0A (a:FAllA):FlM:=newF 0 (sgM a).toNat (devNew (sgM a*8))
def runA (a:FAllA):Nat->List ItemM × FlM
 | 0=>([],m0A a)
 | i+1=>stepA (runA a i) (toI (a.ops i 0)) (opX a i)
noncomputable def cFAll:Con where
 α:=FAllA
 β:=Unit
 m:=1
 m':=1
 pre:=fun a=>InR .i64 a.sg/\a.n<=a.cap/\a.cap<=lenMax/\OpsOk a
 args:=fun a=>[.a (.int .i64 a.sg),.a (.slc 0 0 7 a.n a.cap)]
 hp:=fun _=>[]
 ro:=fun a=>[(0,.arr 38 ksOp a.n a.ops)]
 post:=fun _ _=>True
 res:=fun _ _=>.a .tt
 hp':=fun _ _=>[]
def S.stt0 (s:S) (o:Nat) (xs:List ItemM) (cap:Nat):S:=(s.new (.arr 50 ksEnt xs.length (encRows encEnt (entsOf xs)))).at_ o (.obj 33 [.slc s.nx 0 6 xs.length cap,.int .i64 0])
def S.stt (s:S) (o:Nat) (xs:List ItemM) (cap:Nat):S:=S.stt0 (s.put (s.hp.del (s.in_ o 0))) o xs cap
structure FAllS where
 i:Nat
 p:FlP
 cap:Nat
def iFAll (a:FAllA):An:=.mk 10 FAllS (fun s x=>(S.stt0 (S.fl s (s.tg 6) (runA a x.i).2 x.p) (s.tg 8) (runA a x.i).1 x.cap).int 9 x.i) (fun _ x=>x.i<=min a.n 60/\FlAt (runA a x.i).2 x.p) (fun _ x=>min a.n 60 - x.i) fun x=>.mk 1000 []
 [.mk 15 Unit (fun s _=>s.set 11 (.a (.bool (putOk (opX a x.i))))) (fun _ _=>True) (fun _ _=>0) fun _=>.mk 1000 [] [.mk 34 (FlP × Nat) (fun s y=>S.stt (S.fl s (s.tg 6) (runA a (x.i+1)).2 y.1) (s.tg 8) (runA a (x.i+1)).1 y.2) (fun _ y=>FlAt (runA a (x.i+1)).2 y.1) (fun _ _=>0) fun _=>.mk 1000 [] []]]
noncomputable def tabFAll:List (Nat × Con):=(7,cBegunF)::(10,cCutI)::(11,cRMay)::(14,cRKey)::(13,cSAdd)::(19,cSRgt)::(17,cFWipe)::tabFl
theorem tabFAll_ok:TabOk (Y Tryz.prog).G.X tabFAll:=⟨callBegunF,callCutI,callRMay,callRKey,callSAdd,callSRgt,callFWipe,tabFl_ok⟩
theorem cutB_size (s:ByteArray) {n:Int} (h:0<=n):(cutB s n).size<=n.toNat:=by
 unfold cutB;split
 ·rw [ByteArray.size_extract];omega
 ·omega
theorem cost_may {x:ItemM} (h:mayB x=true):costI x<=1000:=by
 have:=may_out h;unfold costI;omega
theorem step0 {s:List ItemM × FlM} {k:Int} {x:ItemM} (h:k=0):stepA s k x=(if putOk x then s.1++[x] else s.1,putF s.2 x):=if_pos h
theorem step1 {s:List ItemM × FlM} {k:Int} {x:ItemM} (h:k=1):stepA s k x=(if keyB x.key then s.1++[itemD x.key] else s.1,dropsF s.2 [x.key]):=by subst h;rfl
theorem step2 {s:List ItemM × FlM} {k:Int} {x:ItemM} (h:k=2):stepA s k x=(s.1,flushF s.2):=by subst h;rfl
theorem step3 {s:List ItemM × FlM} {k:Int} {x:ItemM} (h:k=3):stepA s k x=([],wipeF s.2):=by subst h;rfl
theorem step4 {s:List ItemM × FlM} {k:Int} {x:ItemM} (h0:¬ k=0) (h1:¬ k=1) (h2:¬ k=2) (h3:¬ k=3):stepA s k x=s:=by
 unfold stepA;rw [if_neg h0,if_neg h1,if_neg h2,if_neg h3]
theorem drops_one {m:FlM} {k:ByteArray} (h:keyB k=true):dropsF m [k]=flushF (stepF m (itemD k)):=if_pos (by unfold allK;simp [h])
theorem drops_no {m:FlM} {k:ByteArray} (h:keyB k=false):dropsF m [k]=m:=if_neg (by unfold allK;simp [h])
theorem stepA_ok {sg c:Nat} {s:List ItemM × FlM} (h:AllM sg c s.1 s.2) (hs:4<=sg/\sg<=15) (k:Int) (x:ItemM):AllM sg (c+2) (stepA s k x).1 (stepA s k x).2/\(stepA s k x).1.length<=s.1.length+1:=by
 by_cases h0:k=0
 ·rw [step0 h0];by_cases hp:putOk x=true
  ·have hm:mayB x=true:=by unfold putOk at hp;simp only [Bool.and_eq_true] at hp;exact hp.1
   rw [if_pos hp,putF_step hp];exact ⟨(h.add hs hm).mono (by omega),by simp⟩
  ·rw [if_neg hp,show putF s.2 x=s.2 from if_neg hp];exact ⟨h.mono (by omega),Nat.le_succ _⟩
 by_cases h1:k=1
 ·rw [step1 h1];by_cases hp:keyB x.key=true
  ·rw [if_pos hp,drops_one hp];exact ⟨(h.add hs (itemD_may hp)).flush,by simp⟩
  ·rw [if_neg hp,drops_no (by simpa using hp)];exact ⟨h.mono (by omega),Nat.le_succ _⟩
 by_cases h2:k=2
 ·rw [step2 h2];exact ⟨h.flush.mono (by omega),Nat.le_succ _⟩
 by_cases h3:k=3
 ·rw [step3 h3];exact ⟨h.wipe hs,Nat.zero_le _⟩
 rw [step4 h0 h1 h2 h3];exact ⟨h.mono (by omega),Nat.le_succ _⟩
theorem runA_ok {a:FAllA} {sg:Nat} (h:AllM sg 0 [] (m0A a)) (hs:4<=sg/\sg<=15):∀ i,AllM sg (2*i) (runA a i).1 (runA a i).2/\(runA a i).1.length<=i
 | 0=>⟨h,Nat.le_refl _⟩
 | i+1=>by
  obtain ⟨h1,h2⟩:=runA_ok h hs i;obtain ⟨h3,h4⟩:=stepA_ok h1 hs (toI (a.ops i 0)) (opX a i);exact ⟨h3,by show (stepA _ _ _).1.length<=_;omega⟩
set_option maxHeartbeats 4000000 in
theorem bodyFAll:fnBody (Y Tryz.prog) tabFAll 3 cFAll fun a=>[(3,[iFAll a],[An.newPool 2 (.mk 1000 [iFAll a] [])])]:=fnBody.of (p :=
 ∀ a:FAllA,InR .i64 a.sg/\a.n<=a.cap/\a.cap<=lenMax/\OpsOk a->∃ a_2:Unit,True/\∀ b:Unit,True->(12:Int)≠(0:Int)/\InR .i64 (a.sg.tmod (12:Int)+12)/\(12:Int)≠(0:Int)/\InR .i64 ((4:Int)+(a.sg.tmod (12:Int)+12).tmod (12:Int))/\InR .i64 (((4:Int)+(a.sg.tmod (12:Int)+12).tmod (12:Int))*(8:Int))/\∃ a_4:Int,((4:Int)+(a.sg.tmod (12:Int)+12).tmod (12:Int))*(8:Int)=a_4/\True/\∀ b:Unit,True->∃ a_6:FOpenA,0=0/\0=(↑a_6.from_:Int)/\(4:Int)+(a.sg.tmod (12:Int)+12).tmod 12=(↑a_6.segs:Int)/\(fun (x:Nat)=>none)=a_6.H/\devQ (devNew a_4) a_6.d ((OpenOk a_6.from_ a_6.segs a_6.d/\EsOk a_6.es (allR (openM a_6.from_ a_6.segs a_6.d).l)/\∀ i:Nat,i<(openM a_6.from_ a_6.segs a_6.d).l.length->(gl (openM a_6.from_ a_6.segs a_6.d).l i).recs.length<=400)/\∀ b:FlP,(FlAt (opnF a_6) b/\∀ z:Nat,a_6.H z≠none->b.H z=a_6.H z/\¬z∈fpLog b.y)->(false=true->∃ b:Unit,false=true/\True/\True)/\(false=false->(∃ a_9:FAllS,0=(↑a_9.i:Int)/\0=0/\false=false/\(0:Int)=0/\0=0/\(4:Int)+(a.sg.tmod (12:Int)+12).tmod (12:Int)=4+(a.sg.tmod (12:Int)+12).tmod (12:Int)/\false=false/\true=true/\false=false/\(0=0/\a.n=a.n/\a.cap=a.cap)/\b.H=a_9.p.H/\(0=(runA a a_9.i).fst.length/\0=a_9.cap)/\(0:Int)=0/\0=0/\0=0/\0=0/\logQ (opnF a_6).L (runA a a_9.i).snd.L b.y.lv a_9.p.y.lv ((0=0/\b.x.t.length=a_9.p.x.t.length /\
 b.cap=a_9.p.cap)/\(↑b.x.n:Int)=(↑a_9.p.x.n:Int)/\(↑b.x.used:Int)=(↑a_9.p.x.used:Int)/\devQ (devNew a_4) (runA a a_9.i).snd.d ((a.n<=a.n/\RowsEq a.n 7 a.ops a.ops)/\(runA a a_9.i).fst.length=0/\(a_9.p.x.t.length<=b.x.t.length/\RowsEq a_9.p.x.t.length 4 (encRows Ix.encP b.x.t) (encRows Ix.encP a_9.p.x.t))/\(a_9.i<=min a.n 60/\FlAt (runA a a_9.i).snd a_9.p)/\True)))/\∀ a_9:FAllS,a_9.i<=min a.n 60/\FlAt (runA a a_9.i).snd a_9.p->(decide ((↑a_9.i:Int)<(↑a.n:Int))=true->(decide ((↑a_9.i:Int)<60)=true->(0<=(↑a_9.i:Int)/\(↑a_9.i:Int)<(↑a.n:Int))/\0+(↑a_9.i:Int).toNat<a.n/\∃ a_13:ItemM,toS (a.ops (0+(↑a_9.i:Int).toNat) 1)=a_13.key/\toS (a.ops (0+(↑a_9.i:Int).toNat) 2)=a_13.val/\toI (a.ops (0+(↑a_9.i:Int).toNat) 3)=a_13.e/\toB (a.ops (0+(↑a_9.i:Int).toNat) 4)=a_13.gone/\True/\∀ b:Unit,True->(∃ a_15:ItemM,(cutI a_13).key=a_15.key/\(cutI a_13).val=a_15.val/\(cutI a_13).e=a_15.e/\(cutI a_13).gone=a_15.gone/\True/\∀ b:Unit,True->(mayB a_15=true->∃ a_18:Unit,(!(cutI a_13).gone)=putOk (opX a a_9.i)/\0=0/\decide ((↑a_9.i:Int)<60)=decide ((↑a_9.i:Int)<60)/\(↑a_9.i:Int)=(↑a_9.i:Int)/\0=0/\false=false/\(0:Int)=0/\0=0/\(4:Int)+(a.sg.tmod (12:Int)+12).tmod (12:Int)=4+(a.sg.tmod (12:Int)+12).tmod (12:Int)/\false=false/\true=true/\false=false/\(0=0/\a.n=a.n/\a.cap=a.cap)/\toI (a.ops (0+(↑a_9.i:Int).toNat) 0)=toI (a.ops (0+(↑a_9.i:Int).toNat) 0) /\
 (cutI a_13).key=(cutI a_13).key/\(cutI a_13).val=(cutI a_13).val/\(cutI a_13).e=(cutI a_13).e/\(cutI a_13).gone=(cutI a_13).gone/\toI (a.ops (0+(↑a_9.i:Int).toNat) 5)=toI (a.ops (0+(↑a_9.i:Int).toNat) 5)/\a.ops (0+(↑a_9.i:Int).toNat) 6=a.ops (0+(↑a_9.i:Int).toNat) 6/\a_9.p.H=a_9.p.H/\(0=0/\(runA a a_9.i).fst.length=(runA a a_9.i).fst.length/\a_9.cap=a_9.cap)/\(0:Int)=0/\0=0/\0=0/\0=0/\logQ (runA a a_9.i).snd.L (runA a a_9.i).snd.L a_9.p.y.lv a_9.p.y.lv ((0=0/\a_9.p.x.t.length=a_9.p.x.t.length/\a_9.p.cap=a_9.p.cap)/\(↑a_9.p.x.n:Int)=(↑a_9.p.x.n:Int)/\(↑a_9.p.x.used:Int)=(↑a_9.p.x.used:Int)/\devQ (runA a a_9.i).snd.d (runA a a_9.i).snd.d ((a.n<=a.n/\RowsEq a.n 7 a.ops a.ops)/\((runA a a_9.i).fst.length<=(runA a a_9.i).fst.length/\RowsEq (runA a a_9.i).fst.length 6 (encRows encEnt (entsOf (runA a a_9.i).fst)) (encRows encEnt (entsOf (runA a a_9.i).fst)))/\(a_9.p.x.t.length<=a_9.p.x.t.length/\RowsEq a_9.p.x.t.length 4 (encRows Ix.encP a_9.p.x.t) (encRows Ix.encP a_9.p.x.t))/\True/\True)))/\(mayB a_15=false->∃ a_18:Unit,false=putOk (opX a a_9.i)/\0=0/\decide ((↑a_9.i:Int)<60)=decide ((↑a_9.i:Int)<60)/\(↑a_9.i:Int)=(↑a_9.i:Int)/\0=0/\false=false/\(0:Int)=0/\0=0/\(4:Int)+(a.sg.tmod (12:Int)+12).tmod (12:Int)=4+(a.sg.tmod (12:Int)+12).tmod (12:Int)/\false=false/\true=true/\false=false/\(0=0/\a.n=a.n/\a.cap=a.cap) /\
 toI (a.ops (0+(↑a_9.i:Int).toNat) 0)=toI (a.ops (0+(↑a_9.i:Int).toNat) 0)/\(cutI a_13).key=(cutI a_13).key/\(cutI a_13).val=(cutI a_13).val/\(cutI a_13).e=(cutI a_13).e/\(cutI a_13).gone=(cutI a_13).gone/\toI (a.ops (0+(↑a_9.i:Int).toNat) 5)=toI (a.ops (0+(↑a_9.i:Int).toNat) 5)/\a.ops (0+(↑a_9.i:Int).toNat) 6=a.ops (0+(↑a_9.i:Int).toNat) 6/\a_9.p.H=a_9.p.H/\(0=0/\(runA a a_9.i).fst.length=(runA a a_9.i).fst.length/\a_9.cap=a_9.cap)/\(0:Int)=0/\0=0/\0=0/\0=0/\logQ (runA a a_9.i).snd.L (runA a a_9.i).snd.L a_9.p.y.lv a_9.p.y.lv ((0=0/\a_9.p.x.t.length=a_9.p.x.t.length/\a_9.p.cap=a_9.p.cap)/\(↑a_9.p.x.n:Int)=(↑a_9.p.x.n:Int)/\(↑a_9.p.x.used:Int)=(↑a_9.p.x.used:Int)/\devQ (runA a a_9.i).snd.d (runA a a_9.i).snd.d ((a.n<=a.n/\RowsEq a.n 7 a.ops a.ops)/\((runA a a_9.i).fst.length<=(runA a a_9.i).fst.length/\RowsEq (runA a a_9.i).fst.length 6 (encRows encEnt (entsOf (runA a a_9.i).fst)) (encRows encEnt (entsOf (runA a a_9.i).fst)))/\(a_9.p.x.t.length<=a_9.p.x.t.length/\RowsEq a_9.p.x.t.length 4 (encRows Ix.encP a_9.p.x.t) (encRows Ix.encP a_9.p.x.t))/\True/\True))))/\∀ a_15:Unit,True->(InR .i64 (toI (a.ops (0+(↑a_9.i:Int).toNat) 0))->((toI (a.ops (0+(↑a_9.i:Int).toNat) 0) == (0:Int))=true->∃ a_19:FPutA,0=0/\(cutI a_13).key=a_19.x.key/\(cutI a_13).val=a_19.x.val/\(cutI a_13).e=a_19.x.e/\(cutI a_13).gone=a_19.x.gone/\0=0/\0=0/\0=0/\logQ (runA a a_9.i).snd.L a_19.m.L a_9.p.y.lv a_19.p.y.lv (devQ (runA a a_9.i).snd.d a_19.m.d (idxQ a_9.p.x a_19.p.x a_9.p.cap a_19.p.cap (a_9.p.H=a_19.p.H /\
 (FlAt a_19.m a_19.p/\(putOk a_19.x=true->FlOk a_19.m (bodyOf (some a_19.x)).length))/\∀ b:FlP,FlAt (putF a_19.m a_19.x) b/\FlFr a_19.p b->((!((if putOk a_19.x=true then (0:Int) else (1:Int)) == (0:Int)) == putOk (opX a a_9.i))=true->∃ b:Unit,false=true/\True/\True)/\((!((if putOk a_19.x=true then (0:Int) else (1:Int)) == (0:Int)) == putOk (opX a a_9.i))=false->(putOk (opX a a_9.i)=true->∃ a_23:SAddA,0=0/\(cutI a_13).key=a_23.x.key/\(cutI a_13).val=a_23.x.val/\(cutI a_13).e=a_23.x.e/\(cutI a_13).gone=a_23.x.gone/\(0=0/\(runA a a_9.i).fst.length=a_23.xs.length/\a_9.cap=a_23.cap)/\(0:Int)=0/\(a_23.xs.length<=(runA a a_9.i).fst.length/\RowsEq a_23.xs.length 6 (encRows encEnt (entsOf (runA a a_9.i).fst)) (encRows encEnt (entsOf a_23.xs)))/\(a_23.xs.length<1000/\costI a_23.x<=1000)/\∀ b_1:Nat,True->∃ a_25:FlP × Nat,putOk (opX a a_9.i)=putOk (opX a a_9.i)/\0=0/\decide ((↑a_9.i:Int)<60)=decide ((↑a_9.i:Int)<60)/\(↑a_9.i:Int)=(↑a_9.i:Int)/\0=0/\false=false/\(0:Int)=0/\0=0/\(4:Int)+(a.sg.tmod (12:Int)+12).tmod (12:Int)=4+(a.sg.tmod (12:Int)+12).tmod (12:Int)/\false=false/\true=true/\false=false/\(0=0/\a.n=a.n/\a.cap=a.cap)/\b.H=a_25.fst.H/\toI (a.ops (0+(↑a_9.i:Int).toNat) 0)=toI (a.ops (0+(↑a_9.i:Int).toNat) 0)/\(cutI a_13).key=(cutI a_13).key/\(cutI a_13).val=(cutI a_13).val/\(cutI a_13).e=(cutI a_13).e /\
 (cutI a_13).gone=(cutI a_13).gone/\toI (a.ops (0+(↑a_9.i:Int).toNat) 5)=toI (a.ops (0+(↑a_9.i:Int).toNat) 5)/\a.ops (0+(↑a_9.i:Int).toNat) 6=a.ops (0+(↑a_9.i:Int).toNat) 6/\(0=0/\(a_23.xs++[a_23.x]).length=(runA a (a_9.i+1)).fst.length/\b_1=a_25.snd)/\(0:Int)=0/\0=0/\0=0/\0=0/\logQ (putF a_19.m a_19.x).L (runA a (a_9.i+1)).snd.L b.y.lv a_25.fst.y.lv ((0=0/\b.x.t.length=a_25.fst.x.t.length/\b.cap=a_25.fst.cap)/\(↑b.x.n:Int)=(↑a_25.fst.x.n:Int)/\(↑b.x.used:Int)=(↑a_25.fst.x.used:Int)/\devQ (putF a_19.m a_19.x).d (runA a (a_9.i+1)).snd.d ((a.n<=a.n/\RowsEq a.n 7 a.ops a.ops)/\((runA a (a_9.i+1)).fst.length<=(a_23.xs++[a_23.x]).length/\RowsEq (runA a (a_9.i+1)).fst.length 6 (encRows encEnt (entsOf (a_23.xs++[a_23.x]))) (encRows encEnt (entsOf (runA a (a_9.i+1)).fst)))/\(a_25.fst.x.t.length<=b.x.t.length/\RowsEq a_25.fst.x.t.length 4 (encRows Ix.encP b.x.t) (encRows Ix.encP a_25.fst.x.t))/\FlAt (runA a (a_9.i+1)).snd a_25.fst/\True)))/\(putOk (opX a a_9.i)=false->∃ a_23:FlP × Nat,putOk (opX a a_9.i)=putOk (opX a a_9.i)/\0=0/\decide ((↑a_9.i:Int)<60)=decide ((↑a_9.i:Int)<60)/\(↑a_9.i:Int)=(↑a_9.i:Int)/\0=0/\false=false/\(0:Int)=0/\0=0/\(4:Int)+(a.sg.tmod (12:Int)+12).tmod (12:Int)=4+(a.sg.tmod (12:Int)+12).tmod (12:Int)/\false=false/\true=true/\false=false/\(0=0/\a.n=a.n/\a.cap=a.cap)/\b.H=a_23.fst.H /\
 toI (a.ops (0+(↑a_9.i:Int).toNat) 0)=toI (a.ops (0+(↑a_9.i:Int).toNat) 0)/\(cutI a_13).key=(cutI a_13).key/\(cutI a_13).val=(cutI a_13).val/\(cutI a_13).e=(cutI a_13).e/\(cutI a_13).gone=(cutI a_13).gone/\toI (a.ops (0+(↑a_9.i:Int).toNat) 5)=toI (a.ops (0+(↑a_9.i:Int).toNat) 5)/\a.ops (0+(↑a_9.i:Int).toNat) 6=a.ops (0+(↑a_9.i:Int).toNat) 6/\(0=0/\(runA a a_9.i).fst.length=(runA a (a_9.i+1)).fst.length/\a_9.cap=a_23.snd)/\(0:Int)=0/\0=0/\0=0/\0=0/\logQ (putF a_19.m a_19.x).L (runA a (a_9.i+1)).snd.L b.y.lv a_23.fst.y.lv ((0=0/\b.x.t.length=a_23.fst.x.t.length/\b.cap=a_23.fst.cap)/\(↑b.x.n:Int)=(↑a_23.fst.x.n:Int)/\(↑b.x.used:Int)=(↑a_23.fst.x.used:Int)/\devQ (putF a_19.m a_19.x).d (runA a (a_9.i+1)).snd.d ((a.n<=a.n/\RowsEq a.n 7 a.ops a.ops)/\((runA a (a_9.i+1)).fst.length<=(runA a a_9.i).fst.length/\RowsEq (runA a (a_9.i+1)).fst.length 6 (encRows encEnt (entsOf (runA a a_9.i).fst)) (encRows encEnt (entsOf (runA a (a_9.i+1)).fst)))/\(a_23.fst.x.t.length<=b.x.t.length/\RowsEq a_23.fst.x.t.length 4 (encRows Ix.encP b.x.t) (encRows Ix.encP a_23.fst.x.t))/\FlAt (runA a (a_9.i+1)).snd a_23.fst/\True))))))))/\((toI (a.ops (0+(↑a_9.i:Int).toNat) 0) == (0:Int))=false->((toI (a.ops (0+(↑a_9.i:Int).toNat) 0) == (1:Int))=true->∃ a_20:ByteArray,(cutI a_13).key=a_20/\True/\∀ b:Unit,True->∃ a_22:FDropA,0=0/\(0=0/\1=a_22.ks.length/\1=a_22.cap) /\
 0=0/\0=0/\0=0/\logQ (runA a a_9.i).snd.L a_22.m.L a_9.p.y.lv a_22.p.y.lv (devQ (runA a a_9.i).snd.d a_22.m.d (idxQ a_9.p.x a_22.p.x a_9.p.cap a_22.p.cap (a_9.p.H=a_22.p.H/\(a_22.ks.length<=1/\RowsEq a_22.ks.length 1 (flatRows 1 [Value.string (cutI a_13).key]) (encRows encT a_22.ks))/\(FlAt a_22.m a_22.p/\a_22.ks.length<1000/\(allK a_22.ks=true->(∀ i:Nat,i<a_22.ks.length->FlOk (dropTo a_22.m a_22.ks i) (bodyOf (some (itemD (gl a_22.ks i)))).length)/\(dropTo a_22.m a_22.ks a_22.ks.length).d.n<100000/\(dropTo a_22.m a_22.ks a_22.ks.length).d.calls<1000000000000))/\∀ b:FlP,FlAt (dropsF a_22.m a_22.ks) b/\FlFr a_22.p b->((!((if allK a_22.ks=true then (0:Int) else (1:Int)) == (0:Int)) == keyB a_20)=true->∃ b:Unit,false=true/\True/\True)/\((!((if allK a_22.ks=true then (0:Int) else (1:Int)) == (0:Int)) == keyB a_20)=false->(keyB a_20=true->∃ a_26:SAddA,0=0/\(cutI a_13).key=a_26.x.key/\(ByteArray.mk #[])=a_26.x.val/\(0:Int)=a_26.x.e/\true=a_26.x.gone/\(0=0/\(runA a a_9.i).fst.length=a_26.xs.length/\a_9.cap=a_26.cap)/\(0:Int)=0/\(a_26.xs.length<=(runA a a_9.i).fst.length/\RowsEq a_26.xs.length 6 (encRows encEnt (entsOf (runA a a_9.i).fst)) (encRows encEnt (entsOf a_26.xs)))/\(a_26.xs.length<1000/\costI a_26.x<=1000)/\∀ b_1:Nat,True->∃ a_28:FlP × Nat,putOk (opX a a_9.i)=putOk (opX a a_9.i)/\0=0/\decide ((↑a_9.i:Int)<60)=decide ((↑a_9.i:Int)<60)/\(↑a_9.i:Int)=(↑a_9.i:Int) /\
 0=0/\false=false/\(0:Int)=0/\0=0/\(4:Int)+(a.sg.tmod (12:Int)+12).tmod (12:Int)=4+(a.sg.tmod (12:Int)+12).tmod (12:Int)/\false=false/\true=true/\false=false/\(0=0/\a.n=a.n/\a.cap=a.cap)/\b.H=a_28.fst.H/\toI (a.ops (0+(↑a_9.i:Int).toNat) 0)=toI (a.ops (0+(↑a_9.i:Int).toNat) 0)/\(cutI a_13).key=(cutI a_13).key/\(cutI a_13).val=(cutI a_13).val/\(cutI a_13).e=(cutI a_13).e/\(cutI a_13).gone=(cutI a_13).gone/\toI (a.ops (0+(↑a_9.i:Int).toNat) 5)=toI (a.ops (0+(↑a_9.i:Int).toNat) 5)/\a.ops (0+(↑a_9.i:Int).toNat) 6=a.ops (0+(↑a_9.i:Int).toNat) 6/\(0=0/\(a_26.xs++[a_26.x]).length=(runA a (a_9.i+1)).fst.length/\b_1=a_28.snd)/\(0:Int)=0/\0=0/\0=0/\0=0/\logQ (dropsF a_22.m a_22.ks).L (runA a (a_9.i+1)).snd.L b.y.lv a_28.fst.y.lv ((0=0/\b.x.t.length=a_28.fst.x.t.length/\b.cap=a_28.fst.cap)/\(↑b.x.n:Int)=(↑a_28.fst.x.n:Int)/\(↑b.x.used:Int)=(↑a_28.fst.x.used:Int)/\devQ (dropsF a_22.m a_22.ks).d (runA a (a_9.i+1)).snd.d ((a.n<=a.n/\RowsEq a.n 7 a.ops a.ops)/\((runA a (a_9.i+1)).fst.length<=(a_26.xs++[a_26.x]).length/\RowsEq (runA a (a_9.i+1)).fst.length 6 (encRows encEnt (entsOf (a_26.xs++[a_26.x]))) (encRows encEnt (entsOf (runA a (a_9.i+1)).fst)))/\(a_28.fst.x.t.length<=b.x.t.length/\RowsEq a_28.fst.x.t.length 4 (encRows Ix.encP b.x.t) (encRows Ix.encP a_28.fst.x.t))/\FlAt (runA a (a_9.i+1)).snd a_28.fst/\True))) /\
 (keyB a_20=false->∃ a_26:FlP × Nat,putOk (opX a a_9.i)=putOk (opX a a_9.i)/\0=0/\decide ((↑a_9.i:Int)<60)=decide ((↑a_9.i:Int)<60)/\(↑a_9.i:Int)=(↑a_9.i:Int)/\0=0/\false=false/\(0:Int)=0/\0=0/\(4:Int)+(a.sg.tmod (12:Int)+12).tmod (12:Int)=4+(a.sg.tmod (12:Int)+12).tmod (12:Int)/\false=false/\true=true/\false=false/\(0=0/\a.n=a.n/\a.cap=a.cap)/\b.H=a_26.fst.H/\toI (a.ops (0+(↑a_9.i:Int).toNat) 0)=toI (a.ops (0+(↑a_9.i:Int).toNat) 0)/\(cutI a_13).key=(cutI a_13).key/\(cutI a_13).val=(cutI a_13).val/\(cutI a_13).e=(cutI a_13).e/\(cutI a_13).gone=(cutI a_13).gone/\toI (a.ops (0+(↑a_9.i:Int).toNat) 5)=toI (a.ops (0+(↑a_9.i:Int).toNat) 5)/\a.ops (0+(↑a_9.i:Int).toNat) 6=a.ops (0+(↑a_9.i:Int).toNat) 6/\(0=0/\(runA a a_9.i).fst.length=(runA a (a_9.i+1)).fst.length/\a_9.cap=a_26.snd)/\(0:Int)=0/\0=0/\0=0/\0=0/\logQ (dropsF a_22.m a_22.ks).L (runA a (a_9.i+1)).snd.L b.y.lv a_26.fst.y.lv ((0=0/\b.x.t.length=a_26.fst.x.t.length/\b.cap=a_26.fst.cap)/\(↑b.x.n:Int)=(↑a_26.fst.x.n:Int)/\(↑b.x.used:Int)=(↑a_26.fst.x.used:Int)/\devQ (dropsF a_22.m a_22.ks).d (runA a (a_9.i+1)).snd.d ((a.n<=a.n/\RowsEq a.n 7 a.ops a.ops)/\((runA a (a_9.i+1)).fst.length<=(runA a a_9.i).fst.length/\RowsEq (runA a (a_9.i+1)).fst.length 6 (encRows encEnt (entsOf (runA a a_9.i).fst)) (encRows encEnt (entsOf (runA a (a_9.i+1)).fst))) /\
 (a_26.fst.x.t.length<=b.x.t.length/\RowsEq a_26.fst.x.t.length 4 (encRows Ix.encP b.x.t) (encRows Ix.encP a_26.fst.x.t))/\FlAt (runA a (a_9.i+1)).snd a_26.fst/\True))))))))/\((toI (a.ops (0+(↑a_9.i:Int).toNat) 0) == (1:Int))=false->((toI (a.ops (0+(↑a_9.i:Int).toNat) 0) == (2:Int))=true->∃ a_21:DevM,0=0/\devQ (runA a a_9.i).snd.d a_21 ((a_21.n<100000/\a_21.calls<1000000000000)/\∀ b:Unit,True->(false=true->∃ b:Unit,false=true/\True/\True)/\(false=false->∃ a_24:FlP × Nat,putOk (opX a a_9.i)=putOk (opX a a_9.i)/\0=0/\decide ((↑a_9.i:Int)<60)=decide ((↑a_9.i:Int)<60)/\(↑a_9.i:Int)=(↑a_9.i:Int)/\0=0/\false=false/\(0:Int)=0/\0=0/\(4:Int)+(a.sg.tmod (12:Int)+12).tmod (12:Int)=4+(a.sg.tmod (12:Int)+12).tmod (12:Int)/\false=false/\true=true/\false=false/\(0=0/\a.n=a.n/\a.cap=a.cap)/\a_9.p.H=a_24.fst.H/\toI (a.ops (0+(↑a_9.i:Int).toNat) 0)=toI (a.ops (0+(↑a_9.i:Int).toNat) 0)/\(cutI a_13).key=(cutI a_13).key/\(cutI a_13).val=(cutI a_13).val/\(cutI a_13).e=(cutI a_13).e/\(cutI a_13).gone=(cutI a_13).gone/\toI (a.ops (0+(↑a_9.i:Int).toNat) 5)=toI (a.ops (0+(↑a_9.i:Int).toNat) 5)/\a.ops (0+(↑a_9.i:Int).toNat) 6=a.ops (0+(↑a_9.i:Int).toNat) 6/\(0=0/\(runA a a_9.i).fst.length=(runA a (a_9.i+1)).fst.length/\a_9.cap=a_24.snd)/\(0:Int)=0/\0=0/\0=0/\0=0/\logQ (runA a a_9.i).snd.L (runA a (a_9.i+1)).snd.L a_9.p.y.lv a_24.fst.y.lv ((0=0 /\
 a_9.p.x.t.length=a_24.fst.x.t.length/\a_9.p.cap=a_24.fst.cap)/\(↑a_9.p.x.n:Int)=(↑a_24.fst.x.n:Int)/\(↑a_9.p.x.used:Int)=(↑a_24.fst.x.used:Int)/\devQ (devFl a_21) (runA a (a_9.i+1)).snd.d ((a.n<=a.n/\RowsEq a.n 7 a.ops a.ops)/\((runA a (a_9.i+1)).fst.length<=(runA a a_9.i).fst.length/\RowsEq (runA a (a_9.i+1)).fst.length 6 (encRows encEnt (entsOf (runA a a_9.i).fst)) (encRows encEnt (entsOf (runA a (a_9.i+1)).fst)))/\(a_24.fst.x.t.length<=a_9.p.x.t.length/\RowsEq a_24.fst.x.t.length 4 (encRows Ix.encP a_9.p.x.t) (encRows Ix.encP a_24.fst.x.t))/\FlAt (runA a (a_9.i+1)).snd a_24.fst/\True)))))/\((toI (a.ops (0+(↑a_9.i:Int).toNat) 0) == (2:Int))=false->((toI (a.ops (0+(↑a_9.i:Int).toNat) 0) == (3:Int))=true->∃ a_22:FWipA,0=0/\0=0/\0=0/\0=0/\logQ (runA a a_9.i).snd.L a_22.m.L a_9.p.y.lv a_22.p.y.lv (devQ (runA a a_9.i).snd.d a_22.m.d (idxQ a_9.p.x a_22.p.x a_9.p.cap a_22.p.cap (a_9.p.H=a_22.p.H/\(FlAt a_22.m a_22.p/\FlOk a_22.m 1/\(addF a_22.m [(2:Int)]).d.n<100000/\(addF a_22.m [(2:Int)]).d.calls<1000000000000)/\∀ b:FlP,FlAt (wipeF a_22.m) b/\FlFr a_22.p b->(false=true->∃ b:Unit,false=true/\True/\True)/\(false=false->∃ a_25:Ix.KeyA,0=0/\idxQ b.x a_25.x b.cap a_25.cap (a_25.x.t.length<100000/\∀ b_1:Nat,True->(((↑(Ix.keysOf a_25.x.t).length:Int) != 0)=true->∃ b:Unit,false=true/\True/\True)/\(((↑(Ix.keysOf a_25.x.t).length:Int) != 0)=false->∃ a_28:FlP × Nat,putOk (opX a a_9.i)=putOk (opX a a_9.i) /\
 0=0/\decide ((↑a_9.i:Int)<60)=decide ((↑a_9.i:Int)<60)/\(↑a_9.i:Int)=(↑a_9.i:Int)/\0=0/\false=false/\(0:Int)=0/\0=0/\(4:Int)+(a.sg.tmod (12:Int)+12).tmod (12:Int)=4+(a.sg.tmod (12:Int)+12).tmod (12:Int)/\false=false/\true=true/\false=false/\(0=0/\a.n=a.n/\a.cap=a.cap)/\b.H=a_28.fst.H/\toI (a.ops (0+(↑a_9.i:Int).toNat) 0)=toI (a.ops (0+(↑a_9.i:Int).toNat) 0)/\(cutI a_13).key=(cutI a_13).key/\(cutI a_13).val=(cutI a_13).val/\(cutI a_13).e=(cutI a_13).e/\(cutI a_13).gone=(cutI a_13).gone/\toI (a.ops (0+(↑a_9.i:Int).toNat) 5)=toI (a.ops (0+(↑a_9.i:Int).toNat) 5)/\a.ops (0+(↑a_9.i:Int).toNat) 6=a.ops (0+(↑a_9.i:Int).toNat) 6/\(0=(runA a (a_9.i+1)).fst.length/\0=a_28.snd)/\(0:Int)=0/\0=0/\0=0/\0=0/\logQ (wipeF a_22.m).L (runA a (a_9.i+1)).snd.L b.y.lv a_28.fst.y.lv ((0=0/\b.x.t.length=a_28.fst.x.t.length/\b.cap=a_28.fst.cap)/\(↑b.x.n:Int)=(↑a_28.fst.x.n:Int)/\(↑b.x.used:Int)=(↑a_28.fst.x.used:Int)/\devQ (wipeF a_22.m).d (runA a (a_9.i+1)).snd.d ((a.n<=a.n/\RowsEq a.n 7 a.ops a.ops)/\(runA a (a_9.i+1)).fst.length=0/\(a_28.fst.x.t.length<=b.x.t.length/\RowsEq a_28.fst.x.t.length 4 (encRows Ix.encP b.x.t) (encRows Ix.encP a_28.fst.x.t))/\FlAt (runA a (a_9.i+1)).snd a_28.fst/\True)))))))))/\((toI (a.ops (0+(↑a_9.i:Int).toNat) 0) == (3:Int))=false->∃ a_22:FlP × Nat,putOk (opX a a_9.i)=putOk (opX a a_9.i) /\
 0=0/\decide ((↑a_9.i:Int)<60)=decide ((↑a_9.i:Int)<60)/\(↑a_9.i:Int)=(↑a_9.i:Int)/\0=0/\false=false/\(0:Int)=0/\0=0/\(4:Int)+(a.sg.tmod (12:Int)+12).tmod (12:Int)=4+(a.sg.tmod (12:Int)+12).tmod (12:Int)/\false=false/\true=true/\false=false/\(0=0/\a.n=a.n/\a.cap=a.cap)/\a_9.p.H=a_22.fst.H/\toI (a.ops (0+(↑a_9.i:Int).toNat) 0)=toI (a.ops (0+(↑a_9.i:Int).toNat) 0)/\(cutI a_13).key=(cutI a_13).key/\(cutI a_13).val=(cutI a_13).val/\(cutI a_13).e=(cutI a_13).e/\(cutI a_13).gone=(cutI a_13).gone/\toI (a.ops (0+(↑a_9.i:Int).toNat) 5)=toI (a.ops (0+(↑a_9.i:Int).toNat) 5)/\a.ops (0+(↑a_9.i:Int).toNat) 6=a.ops (0+(↑a_9.i:Int).toNat) 6/\(0=0/\(runA a a_9.i).fst.length=(runA a (a_9.i+1)).fst.length/\a_9.cap=a_22.snd)/\(0:Int)=0/\0=0/\0=0/\0=0/\logQ (runA a a_9.i).snd.L (runA a (a_9.i+1)).snd.L a_9.p.y.lv a_22.fst.y.lv ((0=0/\a_9.p.x.t.length=a_22.fst.x.t.length/\a_9.p.cap=a_22.fst.cap)/\(↑a_9.p.x.n:Int)=(↑a_22.fst.x.n:Int)/\(↑a_9.p.x.used:Int)=(↑a_22.fst.x.used:Int)/\devQ (runA a a_9.i).snd.d (runA a (a_9.i+1)).snd.d ((a.n<=a.n/\RowsEq a.n 7 a.ops a.ops)/\((runA a (a_9.i+1)).fst.length<=(runA a a_9.i).fst.length/\RowsEq (runA a (a_9.i+1)).fst.length 6 (encRows encEnt (entsOf (runA a a_9.i).fst)) (encRows encEnt (entsOf (runA a (a_9.i+1)).fst)))/\(a_22.fst.x.t.length<=a_9.p.x.t.length/\RowsEq a_22.fst.x.t.length 4 (encRows Ix.encP a_9.p.x.t) (encRows Ix.encP a_22.fst.x.t)) /\
 FlAt (runA a (a_9.i+1)).snd a_22.fst/\True)))))))/\∀ a_17:FlP × Nat,FlAt (runA a (a_9.i+1)).snd a_17.fst->InR .i64 (toI (a.ops (0+(↑a_9.i:Int).toNat) 5))->∃ a_20:SRgtA,0=0/\0=0/\(cutI a_13).key=a_20.key/\toI (a.ops (0+(↑a_9.i:Int).toNat) 5)=a_20.now/\(4:Int)+(a.sg.tmod (12:Int)+12).tmod (12:Int)=a_20.sg/\(0=0/\(runA a (a_9.i+1)).fst.length=a_20.xs.length/\a_17.snd=a_20.cap)/\(0:Int)=0/\(a_20.xs.length<=(runA a (a_9.i+1)).fst.length/\RowsEq a_20.xs.length 6 (encRows encEnt (entsOf (runA a (a_9.i+1)).fst)) (encRows encEnt (entsOf a_20.xs)))/\0=0/\0=0/\0=0/\logQ (runA a (a_9.i+1)).snd.L a_20.m.L a_17.fst.y.lv a_20.p.y.lv (devQ (runA a (a_9.i+1)).snd.d a_20.m.d (idxQ a_17.fst.x a_20.p.x a_17.fst.cap a_20.p.cap (a_17.fst.H=a_20.p.H/\(a_20.xs.length<1000/\(∀ x:ItemM,x∈a_20.xs->costI x<=1000)/\(0:Int)<=a_20.sg/\a_20.sg<=(1000:Int)/\FlAt a_20.m a_20.p/\FlRd a_20.m/\EntIs a_20.m a_20.key a_20.r/\a_20.key.size<=lenMax)/\∀ b:Unit,True->((!rightB a_20.xs a_20.sg a_20.r a_20.key a_20.now)=true->∃ b:Unit,false=true/\True/\True)/\((!rightB a_20.xs a_20.sg a_20.r a_20.key a_20.now)=false->(decide (0<(↑(runA a (a_9.i+1)).fst.length:Int))=true->(↑(runA a (a_9.i+1)).fst.length:Int)≠(0:Int)/\(0<=(↑a_9.i:Int).tmod (↑(runA a (a_9.i+1)).fst.length:Int)/\(↑a_9.i:Int).tmod (↑(runA a (a_9.i+1)).fst.length:Int)<(↑(runA a (a_9.i+1)).fst.length:Int)) /\
 0+((↑a_9.i:Int).tmod (↑(runA a (a_9.i+1)).fst.length:Int)).toNat<(runA a (a_9.i+1)).fst.length/\(InR .i64 (toI (a.ops (0+(↑a_9.i:Int).toNat) 5))->∃ a_25:SRgtA,0=0/\0=0/\(gl (entsOf (runA a (a_9.i+1)).fst) (0+((↑a_9.i:Int).tmod (↑(runA a (a_9.i+1)).fst.length:Int)).toNat)).x.key=a_25.key/\toI (a.ops (0+(↑a_9.i:Int).toNat) 5)=a_25.now/\(4:Int)+(a.sg.tmod (12:Int)+12).tmod (12:Int)=a_25.sg/\(0=0/\(runA a (a_9.i+1)).fst.length=a_25.xs.length/\a_17.snd=a_25.cap)/\(0:Int)=0/\(a_25.xs.length<=(runA a (a_9.i+1)).fst.length/\RowsEq a_25.xs.length 6 (encRows encEnt (entsOf (runA a (a_9.i+1)).fst)) (encRows encEnt (entsOf a_25.xs)))/\0=0/\0=0/\0=0/\logQ (runA a (a_9.i+1)).snd.L a_25.m.L a_17.fst.y.lv a_25.p.y.lv (devQ (runA a (a_9.i+1)).snd.d a_25.m.d (idxQ a_17.fst.x a_25.p.x a_17.fst.cap a_25.p.cap (a_17.fst.H=a_25.p.H/\(a_25.xs.length<1000/\(∀ x:ItemM,x∈a_25.xs->costI x<=1000)/\(0:Int)<=a_25.sg/\a_25.sg<=(1000:Int)/\FlAt a_25.m a_25.p/\FlRd a_25.m/\EntIs a_25.m a_25.key a_25.r/\a_25.key.size<=lenMax)/\∀ b:Unit,True->((!rightB a_25.xs a_25.sg a_25.r a_25.key a_25.now)=true->∃ b:Unit,false=true/\True/\True)/\((!rightB a_25.xs a_25.sg a_25.r a_25.key a_25.now)=false->InR .i64 ((↑a_9.i:Int)+1)/\∃ (a':FAllS),(↑a_9.i:Int)+1=(↑a'.i:Int)/\0=0/\false=false/\(0:Int)=0/\0=0/\(4:Int)+(a.sg.tmod (12:Int)+12).tmod (12:Int)=4+(a.sg.tmod (12:Int)+12).tmod (12:Int) /\
 false=false/\true=true/\false=false/\(0=0/\a.n=a.n/\a.cap=a.cap)/\a_17.fst.H=a'.p.H/\(0=0/\(runA a (a_9.i+1)).fst.length=(runA a a'.i).fst.length/\a_17.snd=a'.cap)/\(0:Int)=0/\0=0/\0=0/\0=0/\logQ (runA a (a_9.i+1)).snd.L (runA a a'.i).snd.L a_17.fst.y.lv a'.p.y.lv ((0=0/\a_17.fst.x.t.length=a'.p.x.t.length/\a_17.fst.cap=a'.p.cap)/\(↑a_17.fst.x.n:Int)=(↑a'.p.x.n:Int)/\(↑a_17.fst.x.used:Int)=(↑a'.p.x.used:Int)/\devQ (runA a (a_9.i+1)).snd.d (runA a a'.i).snd.d ((a.n<=a.n/\RowsEq a.n 7 a.ops a.ops)/\((runA a a'.i).fst.length<=(runA a (a_9.i+1)).fst.length/\RowsEq (runA a a'.i).fst.length 6 (encRows encEnt (entsOf (runA a (a_9.i+1)).fst)) (encRows encEnt (entsOf (runA a a'.i).fst)))/\(a'.p.x.t.length<=a_17.fst.x.t.length/\RowsEq a'.p.x.t.length 4 (encRows Ix.encP a_17.fst.x.t) (encRows Ix.encP a'.p.x.t))/\(a'.i<=min a.n 60/\FlAt (runA a a'.i).snd a'.p)/\min a.n 60 - a'.i<min a.n 60 - a_9.i))))))))/\(decide (0<(↑(runA a (a_9.i+1)).fst.length:Int))=false->InR .i64 ((↑a_9.i:Int)+1)/\∃ (a':FAllS),(↑a_9.i:Int)+1=(↑a'.i:Int)/\0=0/\false=false/\(0:Int)=0/\0=0/\(4:Int)+(a.sg.tmod (12:Int)+12).tmod (12:Int)=4+(a.sg.tmod (12:Int)+12).tmod (12:Int)/\false=false/\true=true/\false=false/\(0=0/\a.n=a.n/\a.cap=a.cap)/\a_17.fst.H=a'.p.H/\(0=0/\(runA a (a_9.i+1)).fst.length=(runA a a'.i).fst.length/\a_17.snd=a'.cap) /\
 (0:Int)=0/\0=0/\0=0/\0=0/\logQ (runA a (a_9.i+1)).snd.L (runA a a'.i).snd.L a_17.fst.y.lv a'.p.y.lv ((0=0/\a_17.fst.x.t.length=a'.p.x.t.length/\a_17.fst.cap=a'.p.cap)/\(↑a_17.fst.x.n:Int)=(↑a'.p.x.n:Int)/\(↑a_17.fst.x.used:Int)=(↑a'.p.x.used:Int)/\devQ (runA a (a_9.i+1)).snd.d (runA a a'.i).snd.d ((a.n<=a.n/\RowsEq a.n 7 a.ops a.ops)/\((runA a a'.i).fst.length<=(runA a (a_9.i+1)).fst.length/\RowsEq (runA a a'.i).fst.length 6 (encRows encEnt (entsOf (runA a (a_9.i+1)).fst)) (encRows encEnt (entsOf (runA a a'.i).fst)))/\(a'.p.x.t.length<=a_17.fst.x.t.length/\RowsEq a'.p.x.t.length 4 (encRows Ix.encP a_17.fst.x.t) (encRows Ix.encP a'.p.x.t))/\(a'.i<=min a.n 60/\FlAt (runA a a'.i).snd a'.p)/\min a.n 60 - a'.i<min a.n 60 - a_9.i))))))))/\(decide ((↑a_9.i:Int)<60)=false->∃ b:Unit,true=true/\True/\True))/\(decide ((↑a_9.i:Int)<(↑a.n:Int))=false->∃ b:Unit,true=true/\True/\True)))) (by kernel_rfl) (by
 rintro a ⟨g1,g2,g3,g4⟩;have hsgm:4<=sgM a/\sgM a<=15/\-12<a.sg.tmod 12/\a.sg.tmod 12<12:=by
  have h1:=Int.lt_tmod_of_pos a.sg (show (0:Int)<12 by omega);have h2:=Int.tmod_lt_of_pos a.sg (show (0:Int)<12 by omega);have h3:=Int.tmod_nonneg 12 (show 0<=a.sg.tmod 12+12 by omega);have h4:=Int.tmod_lt_of_pos (a.sg.tmod 12+12) (show (0:Int)<12 by omega);unfold sgM;omega
 obtain ⟨sm1,sm2,sm3,sm4⟩:=hsgm;obtain ⟨sg,hsg⟩:∃ sg:Nat,sg=(sgM a).toNat:=⟨_,rfl⟩
 have hs4:4<=sg/\sg<=15:=by omega
 have hsgI:(sg:Int)=sgM a:=by omega
 have hsg0:0<=sgM a:=by omega
 have hsg1:sgM a<=1000:=by omega
 have hdn:(devNew (sgM a*8)).n=8*sg:=by simp only [devNew];omega
 have hA0:AllM sg 0 [] (m0A a):=by unfold m0A;rw [<- hsg];exact AllM.new hdn rfl
 have hAll:=runA_ok hA0 hs4;have hE:(4:Int)+(a.sg.tmod (12:Int)+12).tmod (12:Int)=sgM a:=rfl;rw [hE];obtain ⟨o1,o2⟩:=open_new (fr:=0) (sg:=sg) (n:=sgM a*8) (by omega) (by omega) (fun _=>none);obtain ⟨oa,hoa⟩:∃ oa:FOpenA,oa=⟨fun _=>none,devNew (sgM a*8),0,sg,[]⟩:=⟨_,rfl⟩
 have o2:opnF oa=m0A a:=by rw [hoa,o2,hsg];rfl
 have o1:(OpenOk oa.from_ oa.segs oa.d/\EsOk oa.es (allR (openM oa.from_ oa.segs oa.d).l)/\∀ i:Nat,i<(openM oa.from_ oa.segs oa.d).l.length->(gl (openM oa.from_ oa.segs oa.d).l i).recs.length<=400):=by rw [hoa];exact o1
 have o3:(fun _=>none)=oa.H/\0=(oa.from_:Int)/\sgM a=(oa.segs:Int)/\devNew (sgM a*8)=oa.d:=by rw [hoa];exact ⟨rfl,rfl,hsgI.symm,rfl⟩
 refine ⟨(),trivial,fun _ _=>⟨by decide,by simp only [InR];omega,by decide,by simp only [InR];omega,by simp only [InR];omega,sgM a*8,rfl,trivial,fun _ _=>⟨oa,?_⟩⟩⟩;rw [o2,<- o3.2.2.2]
 (repeat' apply And.intro)<;>first|with_reducible (first|rfl|trivial|assumption)|exact o3.1|exact o3.2.1|exact o3.2.2.1|exact o1.1|exact o1.2.1|exact o1.2.2|exact (o3.2.2.2▸o1.1)|exact (o3.2.2.2▸o1.2.1)|exact (o3.2.2.2▸o1.2.2)|(intro h_;revert h_)|omega|with_reducible exact RowsEq.refl _ _ _|rfl|exact RowsEq.refl _ _ _|exact Nat.le_refl _|(dsimp only;omega)|skip
 rintro p1 ⟨hat1,hf1⟩;clear hoa;refine ⟨fun c=>absurd c (by decide),fun _=>⟨⟨⟨0,p1,0⟩,?_⟩,?_⟩⟩
 ·(repeat' apply And.intro)<;>first|with_reducible (first|rfl|trivial|assumption)|exact hat1|exact Nat.zero_le _|(intro h_;revert h_)|omega|with_reducible exact RowsEq.refl _ _ _|rfl|exact RowsEq.refl _ _ _|exact Nat.le_refl _|(dsimp only;omega)|skip
 rintro x ⟨hi,hat⟩;refine ⟨fun c1=>⟨fun c2=>?_,fun _=>⟨(),rfl,trivial,trivial⟩⟩,fun _=>⟨(),rfl,trivial,trivial⟩⟩;have c1:=of_decide_eq_true c1;have c2:=of_decide_eq_true c2;rw [show 0+(x.i:Int).toNat=x.i by omega];obtain ⟨hA,hlen⟩:=hAll x.i;obtain ⟨hA1,hlen1⟩:=hAll (x.i+1);have hrun:runA a (x.i+1)=stepA (runA a x.i) (toI (a.ops x.i 0)) (opX a x.i):=rfl;have hxl:(runA a x.i).1.length<1000:=by omega
 have hok:∀ {k:Nat},FlOk (runA a x.i).2 k:=hA.ok hs4 (by omega);have hdn1:(runA a x.i).2.d.n<100000:=by have:=hA.run.dn;omega
 have hcl1:(runA a x.i).2.d.calls<1000000000000:=Nat.lt_of_le_of_lt hA.run.calls (by omega);obtain ⟨it0,hit0⟩:∃ it:ItemM,it=⟨toS (a.ops x.i 1),toS (a.ops x.i 2),toI (a.ops x.i 3),toB (a.ops x.i 4)⟩:=⟨_,rfl⟩
 have hX:cutI it0=opX a x.i:=by rw [hit0];rfl
 have hi0:toS (a.ops x.i 1)=it0.key/\toS (a.ops x.i 2)=it0.val/\toI (a.ops x.i 3)=it0.e/\toB (a.ops x.i 4)=it0.gone:=by rw [hit0];exact ⟨rfl,rfl,rfl,rfl⟩
 refine ⟨⟨by omega,by omega⟩,by omega,it0,hi0.1,hi0.2.1,hi0.2.2.1,hi0.2.2.2,trivial,fun _ _=>?_⟩;rw [hX];obtain ⟨X,hXX⟩:∃ X,X=opX a x.i:=⟨_,rfl⟩
 have hks:X.key.size<=lenMax:=by
  have:=cutB_size (toS (a.ops x.i 1)) (n:=50) (by omega);rw [hXX];show (cutB (toS (a.ops x.i 1)) 50).size<=lenMax;simp only [lenMax];omega
 rw [<- hXX] at hrun ⊢;refine ⟨⟨X,rfl,rfl,rfl,rfl,trivial,fun _ _=>⟨fun hm=>⟨(),?_⟩,fun hm=>⟨(),?_⟩⟩⟩,fun _ _=>⟨fun _=>⟨fun k0=>?_,fun k0=>⟨fun k1=>?_,fun k1=>⟨fun k2=>?_,fun k2=>⟨fun k3=>?_,fun k3=>?_⟩⟩⟩⟩,fun y hy=>?_⟩⟩
 ·have e:(!X.gone)=putOk X:=by unfold putOk;rw [hm];rfl
  (repeat' apply And.intro)<;>first|with_reducible (first|rfl|trivial|assumption)|exact e|(intro h_;revert h_)|omega|with_reducible exact RowsEq.refl _ _ _|rfl|exact RowsEq.refl _ _ _|exact Nat.le_refl _|(dsimp only;omega)|skip
 ·have e:false=putOk X:=by unfold putOk;rw [hm];rfl
  (repeat' apply And.intro)<;>first|with_reducible (first|rfl|trivial|assumption)|exact e|(intro h_;revert h_)|omega|with_reducible exact RowsEq.refl _ _ _|rfl|exact RowsEq.refl _ _ _|exact Nat.le_refl _|(dsimp only;omega)|skip
 ·have k0:toI (a.ops x.i 0)=0:=by simpa using k0
  rw [step0 k0] at hrun;refine ⟨FPutA.mk (runA a x.i).2 x.p X,?_⟩
  (repeat' apply And.intro)<;>first|with_reducible (first|rfl|trivial|assumption)|exact hat|exact fun _=>hok|(intro h_;revert h_)|omega|with_reducible exact RowsEq.refl _ _ _|rfl|exact RowsEq.refl _ _ _|exact Nat.le_refl _|(dsimp only;omega)|skip
  rintro p2 ⟨hat2,hf2⟩;have hat2:FlAt (putF (runA a x.i).2 X) p2:=hat2;by_cases hp:putOk X=true
  ·have hm:mayB X=true:=by unfold putOk at hp;simp only [Bool.and_eq_true] at hp;exact hp.1
   have hc:=cost_may hm;rw [if_pos hp] at hrun;rw [hp];refine ⟨fun c=>absurd c (by decide),fun _=>⟨fun _=>⟨SAddA.mk (runA a x.i).1 x.cap X,?_⟩,fun c=>absurd c (by decide)⟩⟩
   (repeat' apply And.intro)<;>first|with_reducible (first|rfl|trivial|assumption)|exact hxl|exact hc|(intro h_;revert h_)|omega|with_reducible exact RowsEq.refl _ _ _|rfl|exact RowsEq.refl _ _ _|exact Nat.le_refl _|(dsimp only;omega)|skip
   intro cap2 _;rw [hrun];refine ⟨(p2,cap2),?_⟩
   (repeat' apply And.intro)<;>first|with_reducible (first|rfl|trivial|assumption)|exact hat2|(intro h_;revert h_)|omega|with_reducible exact RowsEq.refl _ _ _|rfl|exact RowsEq.refl _ _ _|exact Nat.le_refl _|(dsimp only;omega)|skip
  ·rw [if_neg hp] at hrun;have hp:putOk X=false:=by simpa using hp
   rw [hp];refine ⟨fun c=>absurd c (by decide),fun _=>⟨fun c=>absurd c (by decide),fun _=>⟨(p2,x.cap),?_⟩⟩⟩;rw [hrun]
   (repeat' apply And.intro)<;>first|with_reducible (first|rfl|trivial|assumption)|exact hat2|(intro h_;revert h_)|omega|with_reducible exact RowsEq.refl _ _ _|rfl|exact RowsEq.refl _ _ _|exact Nat.le_refl _|(dsimp only;omega)|skip
 ·have k1:toI (a.ops x.i 0)=1:=by simpa using k1
  rw [step1 k1] at hrun;have hr:RowsEq 1 1 (flatRows 1 [Value.string X.key]) (encRows encT [X.key]):=.of_cells fun i hi=>by
   have:i=0:=by omega
   subst this;rfl
  have hpre:allK [X.key]=true->(∀ j,j<([X.key]:List ByteArray).length->FlOk (dropTo (runA a x.i).2 [X.key] j) (bodyOf (some (itemD (gl [X.key] j)))).length)/\(dropTo (runA a x.i).2 [X.key] ([X.key]:List ByteArray).length).d.n<100000/\(dropTo (runA a x.i).2 [X.key] ([X.key]:List ByteArray).length).d.calls<1000000000000:=fun hk=>by
   have hk:keyB X.key=true:=by unfold allK at hk;simpa using hk
   have hs:=hA.add hs4 (itemD_may hk);refine ⟨fun j hj=>?_,?_,?_⟩
   ·obtain rfl:j=0:=by simpa using hj
    exact hok
   ·show (stepF (runA a x.i).2 (itemD X.key)).d.n<100000;have:=hs.run.dn;omega
   ·show (stepF (runA a x.i).2 (itemD X.key)).d.calls<1000000000000;exact Nat.lt_of_le_of_lt hs.run.calls (by omega)
  have h1:([X.key]:List ByteArray).length<1000:=by show 1<1000;omega
  refine ⟨X.key,rfl,trivial,fun _ _=>⟨FDropA.mk (runA a x.i).2 x.p [X.key] 1,?_⟩⟩
  (repeat' apply And.intro)<;>first|with_reducible (first|rfl|trivial|assumption)|exact hat|exact hpre|exact h1|exact hr|(intro h_;revert h_)|omega|with_reducible exact RowsEq.refl _ _ _|rfl|exact RowsEq.refl _ _ _|exact Nat.le_refl _|(dsimp only;omega)|skip
  rintro p2 ⟨hat2,hf2⟩;have hat2:FlAt (dropsF (runA a x.i).2 [X.key]) p2:=hat2;by_cases hp:keyB X.key=true
  ·have hall:allK [X.key]=true:=by unfold allK;simp [hp]
   have hc:=cost_may (itemD_may hp);rw [if_pos hp] at hrun;rw [hall,hp];refine ⟨fun c=>absurd c (by decide),fun _=>⟨fun _=>⟨SAddA.mk (runA a x.i).1 x.cap (itemD X.key),?_⟩,fun c=>absurd c (by decide)⟩⟩
   (repeat' apply And.intro)<;>first|with_reducible (first|rfl|trivial|assumption)|exact hxl|exact hc|(intro h_;revert h_)|omega|with_reducible exact RowsEq.refl _ _ _|rfl|exact RowsEq.refl _ _ _|exact Nat.le_refl _|(dsimp only;omega)|skip
   intro cap2 _;rw [hrun];refine ⟨(p2,cap2),?_⟩
   (repeat' apply And.intro)<;>first|with_reducible (first|rfl|trivial|assumption)|exact hat2|(intro h_;revert h_)|omega|with_reducible exact RowsEq.refl _ _ _|rfl|exact RowsEq.refl _ _ _|exact Nat.le_refl _|(dsimp only;omega)|skip
  ·rw [if_neg hp] at hrun;have hp:keyB X.key=false:=by simpa using hp
   have hall:allK [X.key]=false:=by unfold allK;simp [hp]
   rw [hall,hp];refine ⟨fun c=>absurd c (by decide),fun _=>⟨fun c=>absurd c (by decide),fun _=>⟨(p2,x.cap),?_⟩⟩⟩;rw [hrun]
   (repeat' apply And.intro)<;>first|with_reducible (first|rfl|trivial|assumption)|exact hat2|(intro h_;revert h_)|omega|with_reducible exact RowsEq.refl _ _ _|rfl|exact RowsEq.refl _ _ _|exact Nat.le_refl _|(dsimp only;omega)|skip
 ·have k2:toI (a.ops x.i 0)=2:=by simpa using k2
  rw [step2 k2] at hrun;refine ⟨(runA a x.i).2.d,?_⟩
  (repeat' apply And.intro)<;>first|with_reducible (first|rfl|trivial|assumption)|exact hdn1|exact hcl1|(intro h_;revert h_)|omega|with_reducible exact RowsEq.refl _ _ _|rfl|exact RowsEq.refl _ _ _|exact Nat.le_refl _|(dsimp only;omega)|skip
  intro _ _;have hatf:FlAt (flushF (runA a x.i).2) x.p:=⟨hat.log,hat.idx⟩
  refine ⟨fun c=>absurd c (by decide),fun _=>⟨(x.p,x.cap),?_⟩⟩;rw [hrun]
  (repeat' apply And.intro)<;>first|with_reducible (first|rfl|trivial|assumption)|exact hatf|(intro h_;revert h_)|omega|with_reducible exact RowsEq.refl _ _ _|rfl|exact RowsEq.refl _ _ _|exact Nat.le_refl _|(dsimp only;omega)|skip
 ·have k3:toI (a.ops x.i 0)=3:=by simpa using k3
  rw [step3 k3] at hrun;obtain ⟨hw,_⟩:=hA.run.append hs4.1 (body:=[2]) (by decide);have hw2:(addF (runA a x.i).2 [2]).d.n<100000:=by have:=hw.dn;show (appD _ _ _).n<_;omega
  have hw3:(addF (runA a x.i).2 [2]).d.calls<1000000000000:=Nat.lt_of_le_of_lt hw.calls (by omega);have hok1:FlOk (runA a x.i).2 1:=hok;refine ⟨FWipA.mk (runA a x.i).2 x.p,?_⟩
  (repeat' apply And.intro)<;>first|with_reducible (first|rfl|trivial|assumption)|exact hat|exact hok1|exact hw2|exact hw3|(intro h_;revert h_)|omega|with_reducible exact RowsEq.refl _ _ _|rfl|exact RowsEq.refl _ _ _|exact Nat.le_refl _|(dsimp only;omega)|skip
  rintro p2 ⟨hat2,hf2⟩;have hat2:FlAt (wipeF (runA a x.i).2) p2:=hat2;have hk0:(Ix.keysOf (Ix.KeyA.mk p2.x p2.cap X.key).x.t).length=0:=keys_len hat2.idx;have hxl1:p2.x.t.length<=40000:=hat2.idx.inv.hi;have hxl2:p2.x.t.length<100000:=by omega
  refine ⟨fun c=>absurd c (by decide),fun _=>⟨Ix.KeyA.mk p2.x p2.cap X.key,?_⟩⟩
  (repeat' apply And.intro)<;>first|with_reducible (first|rfl|trivial|assumption)|exact hxl2|(intro h_;revert h_)|omega|with_reducible exact RowsEq.refl _ _ _|rfl|exact RowsEq.refl _ _ _|exact Nat.le_refl _|(dsimp only;omega)|skip
  intro _ _;rw [hk0];refine ⟨fun c=>absurd c (by decide),fun _=>⟨(p2,0),?_⟩⟩;rw [hrun]
  (repeat' apply And.intro)<;>first|with_reducible (first|rfl|trivial|assumption)|exact hat2|(intro h_;revert h_)|omega|with_reducible exact RowsEq.refl _ _ _|rfl|exact RowsEq.refl _ _ _|exact Nat.le_refl _|(dsimp only;omega)|skip
 ·have k0:¬ toI (a.ops x.i 0)=0:=by simpa using k0
  have k1:¬ toI (a.ops x.i 0)=1:=by simpa using k1
  have k2:¬ toI (a.ops x.i 0)=2:=by simpa using k2
  have k3:¬ toI (a.ops x.i 0)=3:=by simpa using k3
  rw [step4 k0 k1 k2 k3] at hrun;refine ⟨(x.p,x.cap),?_⟩;rw [hrun]
  (repeat' apply And.intro)<;>first|with_reducible (first|rfl|trivial|assumption)|exact hat|(intro h_;revert h_)|omega|with_reducible exact RowsEq.refl _ _ _|rfl|exact RowsEq.refl _ _ _|exact Nat.le_refl _|(dsimp only;omega)|skip
 ·have hy:FlAt (runA a (x.i+1)).2 y.1:=hy;have hi2:x.i+1<=min a.n 60:=by omega
  clear hrun;obtain ⟨s1,hs1⟩:∃ s,s=runA a (x.i+1):=⟨_,rfl⟩
  rw [<- hs1] at hA1 hlen1 ⊢;have hy1:=hy;rw [<- hs1] at hy1;have hxl1:s1.1.length<1000:=by omega
  have hc1:∀ z∈s1.1,costI z<=1000:=fun z hz=>cost_may (hA1.may z hz);have hrd:=hA1.flRd hs4 (by omega);have hent:=fun k=>hA1.ent hs4 (by omega) k;have hrt:=fun k n=>hA1.right hs4 k n;rw [hsgI] at hrt;intro hnow;have he1:=hent X.key;refine ⟨SRgtA.mk s1.1 y.2 s1.2 y.1 X.key (toI (a.ops x.i 5)) (sgM a) (entR s1.1 (allR s1.2.L.l).length X.key),?_⟩
  (repeat' apply And.intro)<;>first|with_reducible (first|rfl|trivial|assumption)|exact hxl1|exact hc1|exact hsg0|exact hsg1|exact hy1|exact hrd|exact he1|exact hks|(intro h_;revert h_)|omega|with_reducible exact RowsEq.refl _ _ _|rfl|exact RowsEq.refl _ _ _|exact Nat.le_refl _|(dsimp only;omega)|skip
  intro _ _;have hr1:=hrt X.key (toI (a.ops x.i 5));rw [hr1];refine ⟨fun c=>absurd c (by decide),fun _=>⟨fun c=>?_,fun c=>⟨by simp only [InR];omega,⟨x.i+1,y.1,y.2⟩,?_⟩⟩⟩
  ·have hpos:0<s1.1.length:=by have:=of_decide_eq_true c;omega
   obtain ⟨j,hj,hjl⟩:∃ j:Nat,(x.i:Int).tmod (s1.1.length:Int)=(j:Int)/\j<s1.1.length:=⟨x.i % s1.1.length,rfl,Nat.mod_lt _ hpos⟩
   have hm:=hA1.may _ (gl_mem hjl);have hks2:(gl s1.1 j).key.size<=lenMax:=by
    have:=may_out hm;simp only [lenMax];omega
   have he2:=hent (gl s1.1 j).key;rw [hj,show 0+(j:Int).toNat=j by omega,entsOf_at hjl];refine ⟨by omega,⟨by omega,by omega⟩,by omega,fun _=>⟨SRgtA.mk s1.1 y.2 s1.2 y.1 (gl s1.1 j).key (toI (a.ops x.i 5)) (sgM a) (entR s1.1 (allR s1.2.L.l).length (gl s1.1 j).key),?_⟩⟩
   (repeat' apply And.intro)<;>first|with_reducible (first|rfl|trivial|assumption)|exact hxl1|exact hc1|exact hsg0|exact hsg1|exact hy1|exact hrd|exact he2|exact hks2|(intro h_;revert h_)|omega|with_reducible exact RowsEq.refl _ _ _|rfl|exact RowsEq.refl _ _ _|exact Nat.le_refl _|(dsimp only;omega)|skip
   intro _ _;have hr2:=hrt (gl s1.1 j).key (toI (a.ops x.i 5));rw [hr2];refine ⟨fun c=>absurd c (by decide),fun _=>⟨by simp only [InR];omega,⟨x.i+1,y.1,y.2⟩,?_⟩⟩;rw [hs1]
   (repeat' apply And.intro)<;>first|with_reducible (first|rfl|trivial|assumption)|exact hi2|exact hy|(intro h_;revert h_)|omega|with_reducible exact RowsEq.refl _ _ _|rfl|exact RowsEq.refl _ _ _|exact Nat.le_refl _|(dsimp only;omega)|skip
  ·rw [hs1]
   (repeat' apply And.intro)<;>first|with_reducible (first|rfl|trivial|assumption)|exact hi2|exact hy|(intro h_;revert h_)|omega|with_reducible exact RowsEq.refl _ _ _|rfl|exact RowsEq.refl _ _ _|exact Nat.le_refl _|(dsimp only;omega)|skip)
theorem instFAll:∀ ads,okADs [.int .i64,.slc 38 ksOp] ads->∃ a:FAllA,cFAll.pre a/\cFAll.args a=svs 0 ads/\cFAll.ro a=chs 0 [.int .i64,.slc 38 ksOp] ads/\cFAll.m=slcs ads:=by
 rintro ads ⟨d2,r2,rfl,⟨i,rfl,hi⟩,d3,r3,rfl,⟨n,cap,rows,rfl,h4,h5,h6⟩,rfl⟩;exact ⟨⟨i,n,cap,rows⟩,⟨hi,h4,h5,⟨h6⟩⟩,rfl,rfl,rfl⟩
end Go.Proofs.YtfobhkibkdmglaaGreat
