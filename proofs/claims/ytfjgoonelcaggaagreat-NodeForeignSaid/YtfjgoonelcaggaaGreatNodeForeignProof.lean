/-
  
-/
import Derived.Test.YtfjgoonelcaggaaGreatRows
import Derived.Test.YtfjgoonelcaggaaGreatNodeForeignP6
import Derived.WalkKit
import Derived.ProofKit
import Derived.OpenShut
set_option maxRecDepth 100000
set_option maxHeartbeats 4000000
set_option linter.unusedVariables false
set_option linter.unusedSimpArgs false
namespace Go.Proofs.YtfjgoonelcaggaaGreat.nodeForeign
open Go.ChangeShapes Go.WideShapes Go.ChangeAt Go.RowKit
theorem own:ownKnob Tryz.prog.godebug=none:=by kernel_rfl
theorem laid:laidOutB Tryz.prog=true:=by kernel_rfl
theorem reads:([9,9,2,3,4].all fun t=>Tryz.prog.readableRec t&&decide (t<Tryz.prog.types.size))=true:=by kernel_rfl
theorem kinds:Go.Sx.DK Tryz.prog 20 [9,9,2,3,4]=some [.str,.str,.int .i64,.int .i64,.bool]:=by kernel_rfl
theorem lifted(os:Os)(started:os.Started)(H:Type)(enc:TypeId×Value->H) :
 ReturnsInHanded {} Tryz.checked os 4 .any (Rows.nodeForeignSpec.pre6 enc Tryz.prog Tryz.f4 Rows.nodeForeignRow.domain false) (Rows.nodeForeignSpec.post enc Tryz.prog Tryz.f4 false true false false):=by
 refine returnsInHanded_of_change (C:=Tryz.checked) own started (by kernel_rfl) Tryz.func4
  (ChangeSpec.witness6 (enc:=enc) (C:=Tryz.checked) false ⟨#[],#[.string .empty,.string .empty,.int .i64 0,.int .i64 0,.bool false],[]⟩ 8 (by kernel_rfl) (by kernel_rfl) (by kernel_rfl) (by kernel_rfl)) ?_
 intro W base args ds gs before hval0 hW hcnd _;have hval:∀(j:Nat) t v,Tryz.f4.params[j]? = some t->args[j]? = some v->Value.okWide Tryz.prog W .any base t v:=hval0;have hW':=hW;obtain⟨p,q,hA0,hV,rfl,hfz,hnd⟩:=hW;have hA:DataW.TrodAll enc Tryz.prog W 0 (fun _=>true) true Tryz.f4.params.toList args.toList ds p:=hA0;rw[Tryz.params4]at hA hval;obtain⟨rfl,rfl⟩:=trodVars_none hV;clear hA0 hval0;have hlen:ds.length=5:=Go.Sx.Bh hA;obtain⟨d1,d2,d3,d4,d5,rfl⟩:∃d1 d2 d3 d4 d5,ds=[d1,d2,d3,d4,d5]:=by
  rcases ds with _ | ⟨d1,_ | ⟨d2,_ | ⟨d3,_ | ⟨d4,_ | ⟨d5,_ | ⟨x,ds⟩⟩⟩⟩⟩⟩<;>first|exact⟨_,_,_,_,_,rfl⟩|(simp at hlen;done)|(simp at hlen;omega)
 have hlt:=hW'.lt;have hrd:=List.all_eq_true.1 reads;refine(Go.Sx.W8 (held:=true) fL NZ VD kinds (fun _=>rfl) (fun _ _=>rfl) instForL hA (fun j t v hj hv=>hval j t v (by simpa using hj) (by simpa using hv)) (fun b off hm=>hfz b off (List.mem_append_left _ hm))).mono fun e W' ⟨he,hk⟩=>?_;subst he;exact⟨_,rfl,Go.Sx.It (pa:=p) hW' (fun _ _ _=>(trodAll_cons_mk (shut_bool Tryz.underlying4 _) trodAll_mk0))
  (fun sp hsp=>by rw[Tryz.params4];exact Go.Sx.wN laid hk (fun t ht=>by have:=hrd t ht;simp only[Bool.and_eq_true,decide_eq_true_eq]at this;exact this) hA (fun x hx=>⟨hlt x (List.mem_append_left _ hx),hsp x (List.mem_append_left _ hx)⟩))
  (fun _ _=>rfl) hk (ok_one (by kernel_rfl) rfl (okWide_bool_mk Tryz.underlying4 _))⟩
theorem j0:(Rows.nodeForeignRow.wf (OpenSpec.ofChange Rows.nodeForeignSpec))=true:=by kernel_rfl
theorem j1:(laidOutB Tryz.prog)=true:=by kernel_rfl
theorem j2:(mapsRowed Tryz.prog)=true:=by kernel_rfl
theorem j3:(Tryz.f4.params.all (Tryz.prog.readableRec ·))=true:=by kernel_rfl
theorem j4:(namedTie Tryz.prog Rows.nodeForeignRow.named Rows.nodeForeignSpec.vars)=true:=by kernel_rfl
theorem j5:((Rows.nodeForeignRow.stops == []))=true:=by kernel_rfl
theorem j6:((Tryz.prog.stops == []))=true:=by kernel_rfl
theorem j7:((Rows.nodeForeignRow.knobs == []))=true:=by kernel_rfl
theorem j8:((Tryz.prog.stopKnobs == []))=true:=by kernel_rfl
theorem j9:((Rows.nodeForeignRow.inPlace == Tryz.prog.inPlace 4))=true:=by kernel_rfl
theorem j10:((Rows.nodeForeignRow.unfollowed == Tryz.prog.unfollowed 4))=true:=by kernel_rfl
theorem j11:((Rows.nodeForeignRow.recurses == Tryz.prog.recurses 4))=true:=by kernel_rfl
theorem j12:((Rows.nodeForeignRow.named == Tryz.prog.varsNamed 4))=true:=by kernel_rfl
theorem j13:((Rows.nodeForeignRow.maps == (Tryz.f4.params.toList++Rows.nodeForeignSpec.plain.varTypes Tryz.prog).any (Tryz.prog.mapsRec ·)))=true:=by kernel_rfl
theorem j14:((Rows.nodeForeignRow.ifaces == (Tryz.f4.params.toList++Rows.nodeForeignSpec.plain.varTypes Tryz.prog).any (Tryz.prog.ifacesRec ·)))=true:=by kernel_rfl
theorem j15:((Rows.nodeForeignRow.mapsOut == Tryz.prog.mapsAmong Tryz.f4.resultTypes.toList))=true:=by kernel_rfl
theorem j16:((Rows.nodeForeignRow.loops == (Tryz.f4.params.toList++Rows.nodeForeignSpec.plain.varTypes Tryz.prog).any (Tryz.prog.loopsFrom ·)))=true:=by kernel_rfl
theorem j17:((Rows.nodeForeignRow.wideKeys == (Tryz.f4.params.toList++Rows.nodeForeignSpec.plain.varTypes Tryz.prog++Tryz.f4.resultTypes.toList).any (Tryz.prog.wideKeysFrom ·)))=true:=by kernel_rfl
theorem j18:(Rows.nodeForeignSpec.vars.all (Tryz.prog.varReadable ·))=true:=by kernel_rfl
theorem j19:(Tryz.f4.resultTypes.all (fun t=>Tryz.prog.readableRec t&&decide (t<Tryz.prog.types.size)))=true:=by kernel_rfl
theorem j20:((Rows.nodeForeignRow.ifacesOut == Tryz.f4.resultTypes.toList.any (Tryz.prog.ifacesRec ·)))=true:=by kernel_rfl
theorem j21:((Rows.nodeForeignRow.loopsOut == Tryz.f4.resultTypes.toList.any (Tryz.prog.loopsFrom ·)))=true:=by kernel_rfl
theorem j22:((Rows.nodeForeignRow.plainKeys == Tryz.prog.plainKeys))=true:=by kernel_rfl
theorem j23:(Rows.nodeForeignRow.shortTexts.isNone)=true:=by kernel_rfl
theorem j24:(Tryz.prog.stopsHeard)=true:=by kernel_rfl
theorem j25:(Tryz.prog.mayEnter)=true:=by kernel_rfl
theorem j26:((Rows.nodeForeignRow.lifted == Tryz.prog.liftsFinal))=true:=by kernel_rfl
theorem j27:((Tryz.prog.make == some Rows.nodeForeignRow.make))=true:=by kernel_rfl
theorem j28:((Rows.nodeForeignRow.kinds == (if Rows.nodeForeignRow.domain.isEmpty then[]else Tryz.f4.params.toList.map fun t=>match Tryz.prog.underlying t with|some (.int k)=>some k|_=>none)))=true:=by kernel_rfl
theorem j29:((Rows.nodeForeignRow.pinned == Rows.nodeForeignRow.pinnedBy))=true:=by kernel_rfl
theorem j30:((Rows.nodeForeignRow.veiled == (Tryz.f4.params.toList++Rows.nodeForeignSpec.plain.varTypes Tryz.prog++Tryz.f4.resultTypes.toList).any (Tryz.prog.veiledRec ·)))=true:=by kernel_rfl
theorem j31:(Rows.nodeForeignRow.veiledFits Tryz.prog Tryz.f4.params.toList (Tryz.f4.params.toList++Rows.nodeForeignSpec.plain.varTypes Tryz.prog++Tryz.f4.resultTypes.toList))=true:=by kernel_rfl
theorem ij{a b:Bool}(h:a=true)(k:b=true):(a&&b)=true:=by rw[h,k];rfl
theorem joined:joinedFacts Tryz.prog 4 Tryz.f4 Rows.nodeForeignSpec Rows.nodeForeignRow=true :=
 ij (ij (ij (ij (ij (ij (ij (ij (ij (ij (ij (ij (ij (ij (ij (ij (ij (ij (ij (ij (ij (ij (ij (ij (ij (ij (ij (ij (ij (ij (ij j0 j1) j2) j3) j4) j5) j6) j7) j8) j9) j10) j11) j12) j13) j14) j15) j16) j17) j18) j19) j20) j21) j22) j23) j24) j25) j26) j27) j28) j29) j30) j31
theorem aaq:Rows.nodeForeignRow.holds Tryz.pinned (OpenSpec.ofChange Rows.nodeForeignSpec) :=
 OpenClaim.holds_of_wide 4 Tryz.f4 rfl rfl rfl rfl rfl rfl rfl ⟨rfl,rfl,rfl,rfl,rfl⟩ rfl rfl rfl rfl rfl (by kernel_rfl) Tryz.func4 joined
  (of_decide_eq_true (by kernel_rfl)) (by unfold Func.isWrapper;first|(rw[if_pos (by decide +kernel)];kernel_rfl)|(rw[if_neg (by decide +kernel)];exact⟨rfl,rfl⟩))
  (fun os started H enc _=>lifted os started H enc)
theorem proved:Rows.NodeForeignSaid :=
 aaq
#print axioms proved
end Go.Proofs.YtfjgoonelcaggaaGreat.nodeForeign
