/-
  
-/
import Derived.Test.YtfjgoonelcaggaaGreatRows
import Derived.Test.YtfjgoonelcaggaaGreatNodeKillsP6
import Derived.WalkKit
import Derived.ProofKit
import Derived.OpenShut
set_option maxRecDepth 100000
set_option maxHeartbeats 4000000
set_option linter.unusedVariables false
set_option linter.unusedSimpArgs false
namespace Go.Proofs.YtfjgoonelcaggaaGreat.nodeKills
open Go.ChangeShapes Go.WideShapes Go.ChangeAt Go.RowKit
theorem own:ownKnob Tryz.prog.godebug=none:=by kernel_rfl
theorem laid:laidOutB Tryz.prog=true:=by kernel_rfl
theorem reads:([3,3].all fun t=>Tryz.prog.readableRec t&&decide (t<Tryz.prog.types.size))=true:=by kernel_rfl
theorem kinds:Go.Sx.Dl Tryz.prog 20 [3,3]=some [.int .i64,.int .i64]:=by kernel_rfl
theorem lifted(os:Os)(started:os.Started)(H:Type)(enc:TypeId×Value->H) :
 ReturnsInHanded {} Tryz.checked os 5 .any (Rows.nodeKillsSpec.pre6 enc Tryz.prog Tryz.f5 Rows.nodeKillsRow.domain false) (Rows.nodeKillsSpec.post enc Tryz.prog Tryz.f5 false true false false):=by
 refine returnsInHanded_of_change (C:=Tryz.checked) own started (by kernel_rfl) Tryz.func5
  (ChangeSpec.witness6 (enc:=enc) (C:=Tryz.checked) false ⟨#[],#[.int .i64 0,.int .i64 0],[]⟩ 8 (by kernel_rfl) (by kernel_rfl) (by kernel_rfl) (by kernel_rfl)) ?_
 intro W base args ds gs before hval0 hW hcnd _;have hval:∀(j:Nat) t v,Tryz.f5.params[j]? = some t->args[j]? = some v->Value.okWide Tryz.prog W .any base t v:=hval0;have hW':=hW;obtain⟨p,q,hA0,hV,rfl,hfz,hnd⟩:=hW;have hA:DataW.TrodAll enc Tryz.prog W 0 (fun _=>true) true Tryz.f5.params.toList args.toList ds p:=hA0;rw[Tryz.params5]at hA hval;obtain⟨rfl,rfl⟩:=trodVars_none hV;clear hA0 hval0;have hlen:ds.length=2:=Go.Sx.AX hA;obtain⟨d1,d2,rfl⟩:∃d1 d2,ds=[d1,d2]:=by
  rcases ds with _ | ⟨d1,_ | ⟨d2,_ | ⟨x,ds⟩⟩⟩<;>first|exact⟨_,_,rfl⟩|(simp at hlen;done)|(simp at hlen;omega)
 have hlt:=hW'.lt;have hrd:=List.all_eq_true.1 reads;refine(Go.Sx.Ye (held:=true) fK Q8 WL kinds (fun _=>rfl) (fun _ _=>rfl) instKil hA (fun j t v hj hv=>hval j t v (by simpa using hj) (by simpa using hv)) (fun b off hm=>hfz b off (List.mem_append_left _ hm))).mono fun e W' ⟨he,hk⟩=>?_;subst he;exact⟨_,rfl,Go.Sx.HX (pa:=p) hW' (fun _ _ _=>(trodAll_cons_mk (shut_bool Tryz.underlying4 _) trodAll_mk0))
  (fun sp hsp=>by rw[Tryz.params5];exact Go.Sx.wz laid hk (fun t ht=>by have:=hrd t ht;simp only[Bool.and_eq_true,decide_eq_true_eq]at this;exact this) hA (fun x hx=>⟨hlt x (List.mem_append_left _ hx),hsp x (List.mem_append_left _ hx)⟩))
  (fun _ _=>rfl) hk (ok_one (by kernel_rfl) rfl (okWide_bool_mk Tryz.underlying4 _))⟩
theorem j0:(Rows.nodeKillsRow.wf (OpenSpec.ofChange Rows.nodeKillsSpec))=true:=by kernel_rfl
theorem j1:(laidOutB Tryz.prog)=true:=by kernel_rfl
theorem j2:(mapsRowed Tryz.prog)=true:=by kernel_rfl
theorem j3:(Tryz.f5.params.all (Tryz.prog.readableRec ·))=true:=by kernel_rfl
theorem j4:(namedTie Tryz.prog Rows.nodeKillsRow.named Rows.nodeKillsSpec.vars)=true:=by kernel_rfl
theorem j5:((Rows.nodeKillsRow.stops == []))=true:=by kernel_rfl
theorem j6:((Tryz.prog.stops == []))=true:=by kernel_rfl
theorem j7:((Rows.nodeKillsRow.knobs == []))=true:=by kernel_rfl
theorem j8:((Tryz.prog.stopKnobs == []))=true:=by kernel_rfl
theorem j9:((Rows.nodeKillsRow.inPlace == Tryz.prog.inPlace 5))=true:=by kernel_rfl
theorem j10:((Rows.nodeKillsRow.unfollowed == Tryz.prog.unfollowed 5))=true:=by kernel_rfl
theorem j11:((Rows.nodeKillsRow.recurses == Tryz.prog.recurses 5))=true:=by kernel_rfl
theorem j12:((Rows.nodeKillsRow.named == Tryz.prog.varsNamed 5))=true:=by kernel_rfl
theorem j13:((Rows.nodeKillsRow.maps == (Tryz.f5.params.toList++Rows.nodeKillsSpec.plain.varTypes Tryz.prog).any (Tryz.prog.mapsRec ·)))=true:=by kernel_rfl
theorem j14:((Rows.nodeKillsRow.ifaces == (Tryz.f5.params.toList++Rows.nodeKillsSpec.plain.varTypes Tryz.prog).any (Tryz.prog.ifacesRec ·)))=true:=by kernel_rfl
theorem j15:((Rows.nodeKillsRow.mapsOut == Tryz.prog.mapsAmong Tryz.f5.resultTypes.toList))=true:=by kernel_rfl
theorem j16:((Rows.nodeKillsRow.loops == (Tryz.f5.params.toList++Rows.nodeKillsSpec.plain.varTypes Tryz.prog).any (Tryz.prog.loopsFrom ·)))=true:=by kernel_rfl
theorem j17:((Rows.nodeKillsRow.wideKeys == (Tryz.f5.params.toList++Rows.nodeKillsSpec.plain.varTypes Tryz.prog++Tryz.f5.resultTypes.toList).any (Tryz.prog.wideKeysFrom ·)))=true:=by kernel_rfl
theorem j18:(Rows.nodeKillsSpec.vars.all (Tryz.prog.varReadable ·))=true:=by kernel_rfl
theorem j19:(Tryz.f5.resultTypes.all (fun t=>Tryz.prog.readableRec t&&decide (t<Tryz.prog.types.size)))=true:=by kernel_rfl
theorem j20:((Rows.nodeKillsRow.ifacesOut == Tryz.f5.resultTypes.toList.any (Tryz.prog.ifacesRec ·)))=true:=by kernel_rfl
theorem j21:((Rows.nodeKillsRow.loopsOut == Tryz.f5.resultTypes.toList.any (Tryz.prog.loopsFrom ·)))=true:=by kernel_rfl
theorem j22:((Rows.nodeKillsRow.plainKeys == Tryz.prog.plainKeys))=true:=by kernel_rfl
theorem j23:(Rows.nodeKillsRow.shortTexts.isNone)=true:=by kernel_rfl
theorem j24:(Tryz.prog.stopsHeard)=true:=by kernel_rfl
theorem j25:(Tryz.prog.mayEnter)=true:=by kernel_rfl
theorem j26:((Rows.nodeKillsRow.lifted == Tryz.prog.liftsFinal))=true:=by kernel_rfl
theorem j27:((Tryz.prog.make == some Rows.nodeKillsRow.make))=true:=by kernel_rfl
theorem j28:((Rows.nodeKillsRow.kinds == (if Rows.nodeKillsRow.domain.isEmpty then[]else Tryz.f5.params.toList.map fun t=>match Tryz.prog.underlying t with|some (.int k)=>some k|_=>none)))=true:=by kernel_rfl
theorem j29:((Rows.nodeKillsRow.pinned == Rows.nodeKillsRow.pinnedBy))=true:=by kernel_rfl
theorem j30:((Rows.nodeKillsRow.veiled == (Tryz.f5.params.toList++Rows.nodeKillsSpec.plain.varTypes Tryz.prog++Tryz.f5.resultTypes.toList).any (Tryz.prog.veiledRec ·)))=true:=by kernel_rfl
theorem j31:(Rows.nodeKillsRow.veiledFits Tryz.prog Tryz.f5.params.toList (Tryz.f5.params.toList++Rows.nodeKillsSpec.plain.varTypes Tryz.prog++Tryz.f5.resultTypes.toList))=true:=by kernel_rfl
theorem gZ{a b:Bool}(h:a=true)(k:b=true):(a&&b)=true:=by rw[h,k];rfl
theorem joined:joinedFacts Tryz.prog 5 Tryz.f5 Rows.nodeKillsSpec Rows.nodeKillsRow=true :=
 gZ (gZ (gZ (gZ (gZ (gZ (gZ (gZ (gZ (gZ (gZ (gZ (gZ (gZ (gZ (gZ (gZ (gZ (gZ (gZ (gZ (gZ (gZ (gZ (gZ (gZ (gZ (gZ (gZ (gZ (gZ j0 j1) j2) j3) j4) j5) j6) j7) j8) j9) j10) j11) j12) j13) j14) j15) j16) j17) j18) j19) j20) j21) j22) j23) j24) j25) j26) j27) j28) j29) j30) j31
theorem aaa:Rows.nodeKillsRow.holds Tryz.pinned (OpenSpec.ofChange Rows.nodeKillsSpec) :=
 OpenClaim.holds_of_wide 5 Tryz.f5 rfl rfl rfl rfl rfl rfl rfl ⟨rfl,rfl,rfl,rfl,rfl⟩ rfl rfl rfl rfl rfl (by kernel_rfl) Tryz.func5 joined
  (of_decide_eq_true (by kernel_rfl)) (by unfold Func.isWrapper;first|(rw[if_pos (by decide +kernel)];kernel_rfl)|(rw[if_neg (by decide +kernel)];exact⟨rfl,rfl⟩))
  (fun os started H enc _=>lifted os started H enc)
theorem proved:Rows.NodeKillsSaid :=
 aaa
#print axioms proved
end Go.Proofs.YtfjgoonelcaggaaGreat.nodeKills
