/-
  
-/
import Derived.Test.YtfhkbihcfmbbcaaGreatRows
import Derived.Test.YtfhkbihcfmbbcaaGreatStoreNoneP7
import Derived.WalkKit
import Derived.ProofKit
import Derived.OpenShut
namespace Go.Proofs.YtfhkbihcfmbbcaaGreat.storeNone
open Go.ChangeShapes Go.WideShapes Go.ChangeAt Go.RowKit
set_option linter.unusedVariables false
set_option maxRecDepth 100000
theorem own:ownKnob Tryz.prog.godebug=none:=by kernel_rfl
theorem laid:laidOutB Tryz.prog=true:=by kernel_rfl
theorem reads:([].all fun t=>Tryz.prog.readableRec t&&decide (t<Tryz.prog.types.size))=true:=by kernel_rfl
theorem kinds:Go.Sx.argKs Tryz.prog 20 []=some []:=by kernel_rfl
theorem lifted (os:Os) (started:os.Started) (H:Type) (enc:TypeId × Value->H) :
 ReturnsInHanded {} Tryz.checked os 3 .any (Rows.storeNoneSpec.pre6 enc Tryz.prog Tryz.f3 Rows.storeNoneRow.domain false) (Rows.storeNoneSpec.post enc Tryz.prog Tryz.f3 false true false false):=by
 refine returnsInHanded_of_change (C:=Tryz.checked) own started (by kernel_rfl) Tryz.func3
  (ChangeSpec.witness6 (enc:=enc) (C:=Tryz.checked) false ⟨#[],#[],[]⟩ 8 (by kernel_rfl) (by kernel_rfl) (by kernel_rfl) (by kernel_rfl)) ?_
 intro W base args ds gs before hval0 hW hcnd _;have hval:∀ (j:Nat) t v,Tryz.f3.params[j]? = some t->args[j]? = some v->Value.okWide Tryz.prog W .any base t v:=hval0;have hW':=hW;obtain ⟨p,q,hA0,hV,rfl,hfz,hnd⟩:=hW;have hA:DataW.TrodAll enc Tryz.prog W 0 (fun _=>true) true Tryz.f3.params.toList args.toList ds p:=hA0;rw [Tryz.params3] at hA hval;obtain ⟨rfl,rfl⟩:=trodVars_none hV;clear hA0 hval0;have hlen:ds.length=0:=Go.Sx.trodAll_len hA;obtain rfl:ds=[]:=List.eq_nil_of_length_eq_zero hlen;have hlt:=hW'.lt;have hrd:=List.all_eq_true.1 reads;refine (Go.Sx.fn_run (held:=true) okY tabNonS_ok bodyNonS kinds (fun _=>rfl) (fun _ _=>rfl) instNonS hA (fun j t v hj _=>hval j t v (by simp at hj) (by simp at hj)) (fun b off hm=>hfz b off (List.mem_append_left _ hm))).mono fun e W' ⟨he,hk⟩=>?_;subst he;exact ⟨_,rfl,Go.Sx.post_of_kept (pa:=p) hW' (fun _ _ _=>(trodAll_cons_mk (shut_bool Tryz.underlying4 _) trodAll_mk0))
  (fun sp hsp=>by rw [Tryz.params3];exact Go.Sx.trodAll_stays laid hk (fun t ht=>by have:=hrd t ht;simp only [Bool.and_eq_true,decide_eq_true_eq] at this;exact this) hA (fun x hx=>⟨hlt x (List.mem_append_left _ hx),hsp x (List.mem_append_left _ hx)⟩))
  (fun _ _=>rfl) hk (ok_one (by kernel_rfl) rfl (okWide_bool_mk Tryz.underlying4 _))⟩
theorem over:Rows.storeNoneRow.holds Tryz.pinned (OpenSpec.ofChange Rows.storeNoneSpec) :=
 OpenClaim.holds_of_wide 3 Tryz.f3 rfl rfl rfl rfl rfl rfl rfl ⟨rfl,rfl,rfl,rfl,rfl⟩ rfl rfl rfl rfl rfl (by kernel_rfl) Tryz.func3 (by kernel_rfl)
  (of_decide_eq_true (by kernel_rfl)) (by unfold Func.isWrapper;first|(rw [if_pos (by decide +kernel)];kernel_rfl)|(rw [if_neg (by decide +kernel)];exact ⟨rfl,rfl⟩))
  (fun os started H enc _=>lifted os started H enc)
theorem proved:Rows.StoreNoneSaid :=
 over
#print axioms proved
end Go.Proofs.YtfhkbihcfmbbcaaGreat.storeNone
