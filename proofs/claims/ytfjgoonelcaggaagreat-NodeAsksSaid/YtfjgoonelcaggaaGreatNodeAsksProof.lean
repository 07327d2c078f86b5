/-
  
-/
import Derived.Test.YtfjgoonelcaggaaGreatRows
import Derived.Test.YtfjgoonelcaggaaGreatNodeAsksP6
import Derived.WalkKit
import Derived.ProofKit
import Derived.OpenShut
set_option maxRecDepth 100000
set_option maxHeartbeats 4000000
set_option linter.unusedVariables false
set_option linter.unusedSimpArgs false
namespace Go.Proofs.YtfjgoonelcaggaaGreat.nodeAsks
open Go.ChangeShapes Go.WideShapes Go.ChangeAt Go.RowKit
theorem own:ownKnob Tryz.prog.godebug=none:=by kernel_rfl
theorem laid:laidOutB Tryz.prog=true:=by kernel_rfl
theorem reads:([9,3,9,4,4,2].all fun t=>Tryz.prog.readableRec t&&decide (t<Tryz.prog.types.size))=true:=by kernel_rfl
theorem kinds:Go.Sx.ED Tryz.prog 20 [9,3,9,4,4,2]=some [.str,.int .i64,.str,.bool,.bool,.int .i64]:=by kernel_rfl
theorem lifted(os:Os)(started:os.Started)(H:Type)(enc:TypeId×Value->H) :
 ReturnsInHanded {} Tryz.checked os 6 .any (Rows.nodeAsksSpec.pre6 enc Tryz.prog Tryz.f6 Rows.nodeAsksRow.domain false) (Rows.nodeAsksSpec.post enc Tryz.prog Tryz.f6 false true false false):=by
 refine returnsInHanded_of_change (C:=Tryz.checked) own started (by kernel_rfl) Tryz.func6
  (ChangeSpec.witness6 (enc:=enc) (C:=Tryz.checked) false ⟨#[],#[.string .empty,.int .i64 0,.string .empty,.bool false,.bool false,.int .i64 0],[]⟩ 8 (by kernel_rfl) (by kernel_rfl) (by kernel_rfl) (by kernel_rfl)) ?_
 intro W base args ds gs before hval0 hW hcnd _;have hval:∀(j:Nat) t v,Tryz.f6.params[j]? = some t->args[j]? = some v->Value.okWide Tryz.prog W .any base t v:=hval0;have hW':=hW;obtain⟨p,q,hA0,hV,rfl,hfz,hnd⟩:=hW;have hA:DataW.TrodAll enc Tryz.prog W 0 (fun _=>true) true Tryz.f6.params.toList args.toList ds p:=hA0;rw[Tryz.params6]at hA hval;obtain⟨rfl,rfl⟩:=trodVars_none hV;clear hA0 hval0;have hlen:ds.length=6:=Go.Sx.B5 hA;obtain⟨d1,d2,d3,d4,d5,d6,rfl⟩:∃d1 d2 d3 d4 d5 d6,ds=[d1,d2,d3,d4,d5,d6]:=by
  rcases ds with _ | ⟨d1,_ | ⟨d2,_ | ⟨d3,_ | ⟨d4,_ | ⟨d5,_ | ⟨d6,_ | ⟨x,ds⟩⟩⟩⟩⟩⟩⟩<;>first|exact⟨_,_,_,_,_,_,rfl⟩|(simp at hlen;done)|(simp at hlen;omega)
 have hlt:=hW'.lt;have hrd:=List.all_eq_true.1 reads;refine(Go.Sx.YB (held:=true) fF O5 WZ kinds (fun _=>rfl) (fun _ _=>rfl) instAsks hA (fun j t v hj hv=>hval j t v (by simpa using hj) (by simpa using hv)) (fun b off hm=>hfz b off (List.mem_append_left _ hm))).mono fun e W' ⟨he,hk⟩=>?_;subst he;exact⟨_,rfl,Go.Sx.Jw (pa:=p) hW' (fun _ _ _=>(trodAll_cons_mk (shut_bool Tryz.underlying4 _) trodAll_mk0))
  (fun sp hsp=>by rw[Tryz.params6];exact Go.Sx.xW laid hk (fun t ht=>by have:=hrd t ht;simp only[Bool.and_eq_true,decide_eq_true_eq]at this;exact this) hA (fun x hx=>⟨hlt x (List.mem_append_left _ hx),hsp x (List.mem_append_left _ hx)⟩))
  (fun _ _=>rfl) hk (ok_one (by kernel_rfl) rfl (okWide_bool_mk Tryz.underlying4 _))⟩
theorem j0:(Rows.nodeAsksRow.wf (OpenSpec.ofChange Rows.nodeAsksSpec))=true:=by kernel_rfl
theorem j1:(laidOutB Tryz.prog)=true:=by kernel_rfl
theorem j2:(mapsRowed Tryz.prog)=true:=by kernel_rfl
theorem j3:(Tryz.f6.params.all (Tryz.prog.readableRec ·))=true:=by kernel_rfl
theorem j4:(namedTie Tryz.prog Rows.nodeAsksRow.named Rows.nodeAsksSpec.vars)=true:=by kernel_rfl
theorem j5:((Rows.nodeAsksRow.stops == []))=true:=by kernel_rfl
theorem j6:((Tryz.prog.stops == []))=true:=by kernel_rfl
theorem j7:((Rows.nodeAsksRow.knobs == []))=true:=by kernel_rfl
theorem j8:((Tryz.prog.stopKnobs == []))=true:=by kernel_rfl
theorem j9:((Rows.nodeAsksRow.inPlace == Tryz.prog.inPlace 6))=true:=by kernel_rfl
theorem j10:((Rows.nodeAsksRow.unfollowed == Tryz.prog.unfollowed 6))=true:=by kernel_rfl
theorem j11:((Rows.nodeAsksRow.recurses == Tryz.prog.recurses 6))=true:=by kernel_rfl
theorem j12:((Rows.nodeAsksRow.named == Tryz.prog.varsNamed 6))=true:=by kernel_rfl
theorem j13:((Rows.nodeAsksRow.maps == (Tryz.f6.params.toList++Rows.nodeAsksSpec.plain.varTypes Tryz.prog).any (Tryz.prog.mapsRec ·)))=true:=by kernel_rfl
theorem j14:((Rows.nodeAsksRow.ifaces == (Tryz.f6.params.toList++Rows.nodeAsksSpec.plain.varTypes Tryz.prog).any (Tryz.prog.ifacesRec ·)))=true:=by kernel_rfl
theorem j15:((Rows.nodeAsksRow.mapsOut == Tryz.prog.mapsAmong Tryz.f6.resultTypes.toList))=true:=by kernel_rfl
theorem j16:((Rows.nodeAsksRow.loops == (Tryz.f6.params.toList++Rows.nodeAsksSpec.plain.varTypes Tryz.prog).any (Tryz.prog.loopsFrom ·)))=true:=by kernel_rfl
theorem j17:((Rows.nodeAsksRow.wideKeys == (Tryz.f6.params.toList++Rows.nodeAsksSpec.plain.varTypes Tryz.prog++Tryz.f6.resultTypes.toList).any (Tryz.prog.wideKeysFrom ·)))=true:=by kernel_rfl
theorem j18:(Rows.nodeAsksSpec.vars.all (Tryz.prog.varReadable ·))=true:=by kernel_rfl
theorem j19:(Tryz.f6.resultTypes.all (fun t=>Tryz.prog.readableRec t&&decide (t<Tryz.prog.types.size)))=true:=by kernel_rfl
theorem j20:((Rows.nodeAsksRow.ifacesOut == Tryz.f6.resultTypes.toList.any (Tryz.prog.ifacesRec ·)))=true:=by kernel_rfl
theorem j21:((Rows.nodeAsksRow.loopsOut == Tryz.f6.resultTypes.toList.any (Tryz.prog.loopsFrom ·)))=true:=by kernel_rfl
theorem j22:((Rows.nodeAsksRow.plainKeys == Tryz.prog.plainKeys))=true:=by kernel_rfl
theorem j23:(Rows.nodeAsksRow.shortTexts.isNone)=true:=by kernel_rfl
theorem j24:(Tryz.prog.stopsHeard)=true:=by kernel_rfl
theorem j25:(Tryz.prog.mayEnter)=true:=by kernel_rfl
theorem j26:((Rows.nodeAsksRow.lifted == Tryz.prog.liftsFinal))=true:=by kernel_rfl
theorem j27:((Tryz.prog.make == some Rows.nodeAsksRow.make))=true:=by kernel_rfl
theorem j28:((Rows.nodeAsksRow.kinds == (if Rows.nodeAsksRow.domain.isEmpty then[]else Tryz.f6.params.toList.map fun t=>match Tryz.prog.underlying t with|some (.int k)=>some k|_=>none)))=true:=by kernel_rfl
theorem j29:((Rows.nodeAsksRow.pinned == Rows.nodeAsksRow.pinnedBy))=true:=by kernel_rfl
theorem j30:((Rows.nodeAsksRow.veiled == (Tryz.f6.params.toList++Rows.nodeAsksSpec.plain.varTypes Tryz.prog++Tryz.f6.resultTypes.toList).any (Tryz.prog.veiledRec ·)))=true:=by kernel_rfl
theorem j31:(Rows.nodeAsksRow.veiledFits Tryz.prog Tryz.f6.params.toList (Tryz.f6.params.toList++Rows.nodeAsksSpec.plain.varTypes Tryz.prog++Tryz.f6.resultTypes.toList))=true:=by kernel_rfl
theorem iI{a b:Bool}(h:a=true)(k:b=true):(a&&b)=true:=by rw[h,k];rfl
theorem joined:joinedFacts Tryz.prog 6 Tryz.f6 Rows.nodeAsksSpec Rows.nodeAsksRow=true :=
 iI (iI (iI (iI (iI (iI (iI (iI (iI (iI (iI (iI (iI (iI (iI (iI (iI (iI (iI (iI (iI (iI (iI (iI (iI (iI (iI (iI (iI (iI (iI j0 j1) j2) j3) j4) j5) j6) j7) j8) j9) j10) j11) j12) j13) j14) j15) j16) j17) j18) j19) j20) j21) j22) j23) j24) j25) j26) j27) j28) j29) j30) j31
theorem abP:Rows.nodeAsksRow.holds Tryz.pinned (OpenSpec.ofChange Rows.nodeAsksSpec) :=
 OpenClaim.holds_of_wide 6 Tryz.f6 rfl rfl rfl rfl rfl rfl rfl ⟨rfl,rfl,rfl,rfl,rfl⟩ rfl rfl rfl rfl rfl (by kernel_rfl) Tryz.func6 joined
  (of_decide_eq_true (by kernel_rfl)) (by unfold Func.isWrapper;first|(rw[if_pos (by decide +kernel)];kernel_rfl)|(rw[if_neg (by decide +kernel)];exact⟨rfl,rfl⟩))
  (fun os started H enc _=>lifted os started H enc)
theorem proved:Rows.NodeAsksSaid :=
 abP
#print axioms proved
end Go.Proofs.YtfjgoonelcaggaaGreat.nodeAsks
