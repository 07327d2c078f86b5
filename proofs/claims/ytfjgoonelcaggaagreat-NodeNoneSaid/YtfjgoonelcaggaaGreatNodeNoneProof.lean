/-
  
-/
import Derived.Test.YtfjgoonelcaggaaGreatRows
import Derived.Test.YtfjgoonelcaggaaGreatNodeNoneP6
import Derived.WalkKit
import Derived.ProofKit
import Derived.OpenShut
set_option maxRecDepth 100000
set_option maxHeartbeats 4000000
set_option linter.unusedVariables false
set_option linter.unusedSimpArgs false
namespace Go.Proofs.YtfjgoonelcaggaaGreat.nodeNone
open Go.ChangeShapes Go.WideShapes Go.ChangeAt Go.RowKit
theorem own:ownKnob Tryz.prog.godebug=none:=by kernel_rfl
theorem laid:laidOutB Tryz.prog=true:=by kernel_rfl
theorem reads:([].all fun t=>Tryz.prog.readableRec t&&decide (t<Tryz.prog.types.size))=true:=by kernel_rfl
theorem kinds:Go.Sx.CY Tryz.prog 20 []=some []:=by kernel_rfl
theorem lifted(os:Os)(started:os.Started)(H:Type)(enc:TypeId×Value->H) :
 ReturnsInHanded {} Tryz.checked os 3 .any (Rows.nodeNoneSpec.pre6 enc Tryz.prog Tryz.f3 Rows.nodeNoneRow.domain false) (Rows.nodeNoneSpec.post enc Tryz.prog Tryz.f3 false true false false):=by
 refine returnsInHanded_of_change (C:=Tryz.checked) own started (by kernel_rfl) Tryz.func3
  (ChangeSpec.witness6 (enc:=enc) (C:=Tryz.checked) false ⟨#[],#[],[]⟩ 8 (by kernel_rfl) (by kernel_rfl) (by kernel_rfl) (by kernel_rfl)) ?_
 intro W base args ds gs before hval0 hW hcnd _;have hval:∀(j:Nat) t v,Tryz.f3.params[j]? = some t->args[j]? = some v->Value.okWide Tryz.prog W .any base t v:=hval0;have hW':=hW;obtain⟨p,q,hA0,hV,rfl,hfz,hnd⟩:=hW;have hA:DataW.TrodAll enc Tryz.prog W 0 (fun _=>true) true Tryz.f3.params.toList args.toList ds p:=hA0;rw[Tryz.params3]at hA hval;obtain⟨rfl,rfl⟩:=trodVars_none hV;clear hA0 hval0;have hlen:ds.length=0:=Go.Sx.Aq hA;obtain rfl:ds=[]:=List.eq_nil_of_length_eq_zero hlen;have hlt:=hW'.lt;have hrd:=List.all_eq_true.1 reads;refine(Go.Sx.Xd (held:=true) fF MR Un kinds (fun _=>rfl) (fun _ _=>rfl) instNonN hA (fun j t v hj _=>hval j t v (by simp at hj) (by simp at hj)) (fun b off hm=>hfz b off (List.mem_append_left _ hm))).mono fun e W' ⟨he,hk⟩=>?_;subst he;exact⟨_,rfl,Go.Sx.Hr (pa:=p) hW' (fun _ _ _=>(trodAll_cons_mk (shut_bool Tryz.underlying4 _) trodAll_mk0))
  (fun sp hsp=>by rw[Tryz.params3];exact Go.Sx.vQ laid hk (fun t ht=>by have:=hrd t ht;simp only[Bool.and_eq_true,decide_eq_true_eq]at this;exact this) hA (fun x hx=>⟨hlt x (List.mem_append_left _ hx),hsp x (List.mem_append_left _ hx)⟩))
  (fun _ _=>rfl) hk (ok_one (by kernel_rfl) rfl (okWide_bool_mk Tryz.underlying4 _))⟩
theorem j0:(Rows.nodeNoneRow.wf (OpenSpec.ofChange Rows.nodeNoneSpec))=true:=by kernel_rfl
theorem j1:(laidOutB Tryz.prog)=true:=by kernel_rfl
theorem j2:(mapsRowed Tryz.prog)=true:=by kernel_rfl
theorem j3:(Tryz.f3.params.all (Tryz.prog.readableRec ·))=true:=by kernel_rfl
theorem j4:(namedTie Tryz.prog Rows.nodeNoneRow.named Rows.nodeNoneSpec.vars)=true:=by kernel_rfl
theorem j5:((Rows.nodeNoneRow.stops == []))=true:=by kernel_rfl
theorem j6:((Tryz.prog.stops == []))=true:=by kernel_rfl
theorem j7:((Rows.nodeNoneRow.knobs == []))=true:=by kernel_rfl
theorem j8:((Tryz.prog.stopKnobs == []))=true:=by kernel_rfl
theorem j9:((Rows.nodeNoneRow.inPlace == Tryz.prog.inPlace 3))=true:=by kernel_rfl
theorem Zu:((Rows.nodeNoneRow.unfollowed == Tryz.prog.unfollowed 3))=true:=by kernel_rfl
theorem Zv:((Rows.nodeNoneRow.recurses == Tryz.prog.recurses 3))=true:=by kernel_rfl
theorem Zw:((Rows.nodeNoneRow.named == Tryz.prog.varsNamed 3))=true:=by kernel_rfl
theorem Zx:((Rows.nodeNoneRow.maps == (Tryz.f3.params.toList++Rows.nodeNoneSpec.plain.varTypes Tryz.prog).any (Tryz.prog.mapsRec ·)))=true:=by kernel_rfl
theorem Zy:((Rows.nodeNoneRow.ifaces == (Tryz.f3.params.toList++Rows.nodeNoneSpec.plain.varTypes Tryz.prog).any (Tryz.prog.ifacesRec ·)))=true:=by kernel_rfl
theorem Zz:((Rows.nodeNoneRow.mapsOut == Tryz.prog.mapsAmong Tryz.f3.resultTypes.toList))=true:=by kernel_rfl
theorem ZA:((Rows.nodeNoneRow.loops == (Tryz.f3.params.toList++Rows.nodeNoneSpec.plain.varTypes Tryz.prog).any (Tryz.prog.loopsFrom ·)))=true:=by kernel_rfl
theorem ZB:((Rows.nodeNoneRow.wideKeys == (Tryz.f3.params.toList++Rows.nodeNoneSpec.plain.varTypes Tryz.prog++Tryz.f3.resultTypes.toList).any (Tryz.prog.wideKeysFrom ·)))=true:=by kernel_rfl
theorem ZC:(Rows.nodeNoneSpec.vars.all (Tryz.prog.varReadable ·))=true:=by kernel_rfl
theorem ZD:(Tryz.f3.resultTypes.all (fun t=>Tryz.prog.readableRec t&&decide (t<Tryz.prog.types.size)))=true:=by kernel_rfl
theorem ZE:((Rows.nodeNoneRow.ifacesOut == Tryz.f3.resultTypes.toList.any (Tryz.prog.ifacesRec ·)))=true:=by kernel_rfl
theorem ZF:((Rows.nodeNoneRow.loopsOut == Tryz.f3.resultTypes.toList.any (Tryz.prog.loopsFrom ·)))=true:=by kernel_rfl
theorem ZG:((Rows.nodeNoneRow.plainKeys == Tryz.prog.plainKeys))=true:=by kernel_rfl
theorem ZH:(Rows.nodeNoneRow.shortTexts.isNone)=true:=by kernel_rfl
theorem ZI:(Tryz.prog.stopsHeard)=true:=by kernel_rfl
theorem ZJ:(Tryz.prog.mayEnter)=true:=by kernel_rfl
theorem ZK:((Rows.nodeNoneRow.lifted == Tryz.prog.liftsFinal))=true:=by kernel_rfl
theorem ZL:((Tryz.prog.make == some Rows.nodeNoneRow.make))=true:=by kernel_rfl
theorem ZM:((Rows.nodeNoneRow.kinds == (if Rows.nodeNoneRow.domain.isEmpty then[]else Tryz.f3.params.toList.map fun t=>match Tryz.prog.underlying t with|some (.int k)=>some k|_=>none)))=true:=by kernel_rfl
theorem ZN:((Rows.nodeNoneRow.pinned == Rows.nodeNoneRow.pinnedBy))=true:=by kernel_rfl
theorem ZO:((Rows.nodeNoneRow.veiled == (Tryz.f3.params.toList++Rows.nodeNoneSpec.plain.varTypes Tryz.prog++Tryz.f3.resultTypes.toList).any (Tryz.prog.veiledRec ·)))=true:=by kernel_rfl
theorem ZP:(Rows.nodeNoneRow.veiledFits Tryz.prog Tryz.f3.params.toList (Tryz.f3.params.toList++Rows.nodeNoneSpec.plain.varTypes Tryz.prog++Tryz.f3.resultTypes.toList))=true:=by kernel_rfl
theorem gP{a b:Bool}(h:a=true)(k:b=true):(a&&b)=true:=by rw[h,k];rfl
theorem joined:joinedFacts Tryz.prog 3 Tryz.f3 Rows.nodeNoneSpec Rows.nodeNoneRow=true :=
 gP (gP (gP (gP (gP (gP (gP (gP (gP (gP (gP (gP (gP (gP (gP (gP (gP (gP (gP (gP (gP (gP (gP (gP (gP (gP (gP (gP (gP (gP (gP j0 j1) j2) j3) j4) j5) j6) j7) j8) j9) Zu) Zv) Zw) Zx) Zy) Zz) ZA) ZB) ZC) ZD) ZE) ZF) ZG) ZH) ZI) ZJ) ZK) ZL) ZM) ZN) ZO) ZP
theorem Zk:Rows.nodeNoneRow.holds Tryz.pinned (OpenSpec.ofChange Rows.nodeNoneSpec) :=
 OpenClaim.holds_of_wide 3 Tryz.f3 rfl rfl rfl rfl rfl rfl rfl ⟨rfl,rfl,rfl,rfl,rfl⟩ rfl rfl rfl rfl rfl (by kernel_rfl) Tryz.func3 joined
  (of_decide_eq_true (by kernel_rfl)) (by unfold Func.isWrapper;first|(rw[if_pos (by decide +kernel)];kernel_rfl)|(rw[if_neg (by decide +kernel)];exact⟨rfl,rfl⟩))
  (fun os started H enc _=>lifted os started H enc)
theorem proved:Rows.NodeNoneSaid :=
 Zk
#print axioms proved
end Go.Proofs.YtfjgoonelcaggaaGreat.nodeNone
