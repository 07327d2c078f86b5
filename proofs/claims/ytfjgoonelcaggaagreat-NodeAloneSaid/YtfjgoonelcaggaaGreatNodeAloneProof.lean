/-
  
-/
import Derived.Test.YtfjgoonelcaggaaGreatRows
import Derived.Test.YtfjgoonelcaggaaGreatNodeAloneP6
import Derived.WalkKit
import Derived.ProofKit
import Derived.OpenShut
set_option maxRecDepth 100000
set_option maxHeartbeats 4000000
set_option linter.unusedVariables false
set_option linter.unusedSimpArgs false
namespace Go.Proofs.YtfjgoonelcaggaaGreat.nodeAlone
open Go.ChangeShapes Go.WideShapes Go.ChangeAt Go.RowKit
theorem own:ownKnob Tryz.prog.godebug=none:=by kernel_rfl
theorem laid:laidOutB Tryz.prog=true:=by kernel_rfl
theorem reads:([91].all fun t=>Tryz.prog.readableRec t&&decide (t<Tryz.prog.types.size))=true:=by kernel_rfl
theorem lifted(os:Os)(started:os.Started)(H:Type)(enc:TypeId×Value->H) :
 ReturnsInHanded {} Tryz.checked os 9 .any (Rows.nodeAloneSpec.pre6 enc Tryz.prog Tryz.f9 Rows.nodeAloneRow.domain false) (Rows.nodeAloneSpec.post enc Tryz.prog Tryz.f9 false true false false):=by
 refine returnsInHanded_of_change (C:=Tryz.checked) own started (by kernel_rfl) Tryz.func9
  (ChangeSpec.witness6 (enc:=enc) (C:=Tryz.checked) false ⟨#[],#[.slice none 0 0],[]⟩ 8 (by kernel_rfl) (by kernel_rfl) (by kernel_rfl) (by kernel_rfl)) ?_
 intro W base args ds gs before hval0 hW hcnd _;have hval:∀(j:Nat) t v,Tryz.f9.params[j]? = some t->args[j]? = some v->Value.okWide Tryz.prog W .any base t v:=hval0;have hW':=hW;obtain⟨p,q,hA0,hV,rfl,hfz,hnd⟩:=hW;have hA:DataW.TrodAll enc Tryz.prog W 0 (fun _=>true) true Tryz.f9.params.toList args.toList ds p:=hA0;rw[Tryz.params9]at hA hval;obtain⟨rfl,rfl⟩:=trodVars_none hV;clear hA0 hval0;have hlen:ds.length=1:=Go.Sx.HC hA;obtain⟨d1,rfl⟩:∃d1,ds=[d1]:=by
  rcases ds with _ | ⟨d1,_ | ⟨x,ds⟩⟩<;>first|exact⟨_,rfl⟩|(simp at hlen;done)|(simp at hlen;omega)
 have hlt:=hW'.lt;have hrd:=RO.1 reads;refine(Go.Sx.afW (held:=true) gf abj aim amE amF (by kernel_rfl) (by decide) (fun _=>rfl) (fun _ _=>rfl) instAlo hA (fun j t v hj hv=>hval j t v (by simpa using hj) (by simpa using hv)) (fun b off hm=>hfz b off (CQ _ hm))).mono fun e W' ⟨he,hk⟩=>?_;subst he;exact⟨_,rfl,Go.Sx.Qp (pa:=p) hW' (fun _ _ _=>(trodAll_cons_mk (shut_bool Tryz.underlying4 _) trodAll_mk0))
  (fun sp hsp=>by rw[Tryz.params9];exact Go.Sx.CG laid hk (fun t ht=>by have:=hrd t ht;simp only[jB,tB]at this;exact this) hA (fun x hx=>⟨hlt x (CQ _ hx),hsp x (CQ _ hx)⟩))
  (fun _ _=>rfl) hk (ok_one (by kernel_rfl) rfl (okWide_bool_mk Tryz.underlying4 _))⟩
theorem j0:(Rows.nodeAloneRow.wf (OpenSpec.ofChange Rows.nodeAloneSpec))=true:=by kernel_rfl
theorem j1:(laidOutB Tryz.prog)=true:=by kernel_rfl
theorem j2:(mapsRowed Tryz.prog)=true:=by kernel_rfl
theorem j3:(Tryz.f9.params.all (Tryz.prog.readableRec ·))=true:=by kernel_rfl
theorem j4:(namedTie Tryz.prog Rows.nodeAloneRow.named Rows.nodeAloneSpec.vars)=true:=by kernel_rfl
theorem j5:((Rows.nodeAloneRow.stops == []))=true:=by kernel_rfl
theorem j6:((Tryz.prog.stops == []))=true:=by kernel_rfl
theorem j7:((Rows.nodeAloneRow.knobs == []))=true:=by kernel_rfl
theorem j8:((Tryz.prog.stopKnobs == []))=true:=by kernel_rfl
theorem j9:((Rows.nodeAloneRow.inPlace == Tryz.prog.inPlace 9))=true:=by kernel_rfl
theorem j10:((Rows.nodeAloneRow.unfollowed == Tryz.prog.unfollowed 9))=true:=by kernel_rfl
theorem j11:((Rows.nodeAloneRow.recurses == Tryz.prog.recurses 9))=true:=by kernel_rfl
theorem j12:((Rows.nodeAloneRow.named == Tryz.prog.varsNamed 9))=true:=by kernel_rfl
theorem j13:((Rows.nodeAloneRow.maps == (Tryz.f9.params.toList++Rows.nodeAloneSpec.plain.varTypes Tryz.prog).any (Tryz.prog.mapsRec ·)))=true:=by kernel_rfl
theorem j14:((Rows.nodeAloneRow.ifaces == (Tryz.f9.params.toList++Rows.nodeAloneSpec.plain.varTypes Tryz.prog).any (Tryz.prog.ifacesRec ·)))=true:=by kernel_rfl
theorem j15:((Rows.nodeAloneRow.mapsOut == Tryz.prog.mapsAmong Tryz.f9.resultTypes.toList))=true:=by kernel_rfl
theorem j16:((Rows.nodeAloneRow.loops == (Tryz.f9.params.toList++Rows.nodeAloneSpec.plain.varTypes Tryz.prog).any (Tryz.prog.loopsFrom ·)))=true:=by kernel_rfl
theorem j17:((Rows.nodeAloneRow.wideKeys == (Tryz.f9.params.toList++Rows.nodeAloneSpec.plain.varTypes Tryz.prog++Tryz.f9.resultTypes.toList).any (Tryz.prog.wideKeysFrom ·)))=true:=by kernel_rfl
theorem j18:(Rows.nodeAloneSpec.vars.all (Tryz.prog.varReadable ·))=true:=by kernel_rfl
theorem j19:(Tryz.f9.resultTypes.all (fun t=>Tryz.prog.readableRec t&&decide (t<Tryz.prog.types.size)))=true:=by kernel_rfl
theorem j20:((Rows.nodeAloneRow.ifacesOut == Tryz.f9.resultTypes.toList.any (Tryz.prog.ifacesRec ·)))=true:=by kernel_rfl
theorem j21:((Rows.nodeAloneRow.loopsOut == Tryz.f9.resultTypes.toList.any (Tryz.prog.loopsFrom ·)))=true:=by kernel_rfl
theorem j22:((Rows.nodeAloneRow.plainKeys == Tryz.prog.plainKeys))=true:=by kernel_rfl
theorem j23:(Rows.nodeAloneRow.shortTexts.isNone)=true:=by kernel_rfl
theorem j24:(Tryz.prog.stopsHeard)=true:=by kernel_rfl
theorem j25:(Tryz.prog.mayEnter)=true:=by kernel_rfl
theorem j26:((Rows.nodeAloneRow.lifted == Tryz.prog.liftsFinal))=true:=by kernel_rfl
theorem j27:((Tryz.prog.make == some Rows.nodeAloneRow.make))=true:=by kernel_rfl
theorem j28:((Rows.nodeAloneRow.kinds == (if Rows.nodeAloneRow.domain.isEmpty then[]else Tryz.f9.params.toList.map fun t=>match Tryz.prog.underlying t with|some (.int k)=>some k|_=>none)))=true:=by kernel_rfl
theorem j29:((Rows.nodeAloneRow.pinned == Rows.nodeAloneRow.pinnedBy))=true:=by kernel_rfl
theorem j30:((Rows.nodeAloneRow.veiled == (Tryz.f9.params.toList++Rows.nodeAloneSpec.plain.varTypes Tryz.prog++Tryz.f9.resultTypes.toList).any (Tryz.prog.veiledRec ·)))=true:=by kernel_rfl
theorem j31:(Rows.nodeAloneRow.veiledFits Tryz.prog Tryz.f9.params.toList (Tryz.f9.params.toList++Rows.nodeAloneSpec.plain.varTypes Tryz.prog++Tryz.f9.resultTypes.toList))=true:=by kernel_rfl
theorem k7{a b:Bool}(h:a=true)(k:b=true):(a&&b)=true:=by rw[h,k];rfl
theorem joined:joinedFacts Tryz.prog 9 Tryz.f9 Rows.nodeAloneSpec Rows.nodeAloneRow=true :=
 k7 (k7 (k7 (k7 (k7 (k7 (k7 (k7 (k7 (k7 (k7 (k7 (k7 (k7 (k7 (k7 (k7 (k7 (k7 (k7 (k7 (k7 (k7 (k7 (k7 (k7 (k7 (k7 (k7 (k7 (k7 j0 j1) j2) j3) j4) j5) j6) j7) j8) j9) j10) j11) j12) j13) j14) j15) j16) j17) j18) j19) j20) j21) j22) j23) j24) j25) j26) j27) j28) j29) j30) j31
theorem amH:Rows.nodeAloneRow.holds Tryz.pinned (OpenSpec.ofChange Rows.nodeAloneSpec) :=
 OpenClaim.holds_of_wide 9 Tryz.f9 rfl rfl rfl rfl rfl rfl rfl ⟨rfl,rfl,rfl,rfl,rfl⟩ rfl rfl rfl rfl rfl (by kernel_rfl) Tryz.func9 joined
  (qi (by kernel_rfl)) (by unfold Func.isWrapper;first|(rw[if_pos (by decide +kernel)];kernel_rfl)|(rw[if_neg (by decide +kernel)];exact⟨rfl,rfl⟩))
  (fun os started H enc _=>lifted os started H enc)
theorem proved:Rows.NodeAloneSaid :=
 amH
#print axioms proved
end Go.Proofs.YtfjgoonelcaggaaGreat.nodeAlone
