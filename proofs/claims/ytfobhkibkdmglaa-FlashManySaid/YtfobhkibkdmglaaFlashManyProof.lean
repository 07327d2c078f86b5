/-
  The given statement 'FlashManySaid': icehouse/icehouselaw9.FlashMany returns true, whatever the input, and its input reads as it did; no condition.
-/
import Derived.Test.YtfobhkibkdmglaaRows
import Derived.Test.YtfobhkibkdmglaaFlashManyP7
import Derived.WalkKit
import Derived.ProofKit
import Derived.OpenShut
namespace Go.Proofs.Ytfobhkibkdmglaa.flashMany
open Go.ChangeShapes Go.WideShapes Go.ChangeAt Go.RowKit
set_option linter.unusedVariables false
set_option maxRecDepth 100000

theorem own : ownKnob Try.prog.godebug = none := by kernel_rfl
theorem laid : laidOutB Try.prog = true := by kernel_rfl
theorem reads : ([3, 3].all fun t => Try.prog.readableRec t && decide (t < Try.prog.types.size)) = true := by kernel_rfl
theorem kinds : Go.Sx.argKs Try.prog 20 [3, 3] = some [.int .i64, .int .i64] := by kernel_rfl

theorem lifted (os : Os) (started : os.Started) (H : Type) (enc : TypeId × Value → H) :
 ReturnsInHanded {} Try.checked os 3 .any (Rows.flashManySpec.pre6 enc Try.prog Try.f3 Rows.flashManyRow.domain false) (Rows.flashManySpec.post enc Try.prog Try.f3 false true false false) := by
 refine returnsInHanded_of_change (C := Try.checked) own started (by kernel_rfl) Try.func3
  (ChangeSpec.witness6 (enc := enc) (C := Try.checked) false ⟨#[], #[.int .i64 0, .int .i64 0], []⟩ 8 (by kernel_rfl) (by kernel_rfl) (by kernel_rfl) (by kernel_rfl)) ?_
 intro W base args ds gs before hval0 hW hcnd _
 have hval : ∀ (j : Nat) t v, Try.f3.params[j]? = some t → args[j]? = some v → Value.okWide Try.prog W .any base t v := hval0
 have hW' := hW
 obtain ⟨p, q, hA0, hV, rfl, hfz, hnd⟩ := hW
 have hA : DataW.TrodAll enc Try.prog W 0 (fun _ => true) true Try.f3.params.toList args.toList ds p := hA0
 rw [Try.params3] at hA hval
 obtain ⟨rfl, rfl⟩ := trodVars_none hV
 clear hA0 hval0
 have hlen : ds.length = 2 := Go.Sx.trodAll_len hA
 obtain ⟨d1, d2, rfl⟩ : ∃ d1 d2, ds = [d1, d2] := by
  rcases ds with _ | ⟨d1, _ | ⟨d2, _ | ⟨x, ds⟩⟩⟩ <;> first | exact ⟨_, _, rfl⟩ | (simp at hlen; done) | (simp at hlen; omega)
 have hlt := hW'.lt
 have hrd := List.all_eq_true.1 reads
 refine (Go.Sx.fn_run (held := true) okY tabMny_ok bodyFMny kinds (fun _ => rfl) (fun _ _ => rfl) instFMny hA (fun j t v hj hv => hval j t v (by simpa using hj) (by simpa using hv)) (fun b off hm => hfz b off (List.mem_append_left _ hm))).mono fun e W' ⟨he, hk⟩ => ?_
 subst he
 exact ⟨_, rfl, Go.Sx.post_of_kept (pa := p) hW' (fun _ _ _ => (trodAll_cons_mk (shut_bool Try.underlying4 _) trodAll_mk0))
  (fun sp hsp => by rw [Try.params3]; exact Go.Sx.trodAll_stays laid hk (fun t ht => by have := hrd t ht; simp only [Bool.and_eq_true, decide_eq_true_eq] at this; exact this) hA (fun x hx => ⟨hlt x (List.mem_append_left _ hx), hsp x (List.mem_append_left _ hx)⟩))
  (fun _ _ => rfl) hk (ok_one (by kernel_rfl) rfl (okWide_bool_mk Try.underlying4 _))⟩

theorem over : Rows.flashManyRow.holds Try.pinned (OpenSpec.ofChange Rows.flashManySpec) :=
 OpenClaim.holds_of_wide 3 Try.f3 rfl rfl rfl rfl rfl rfl rfl ⟨rfl, rfl, rfl, rfl, rfl⟩ rfl rfl rfl rfl rfl (by kernel_rfl) Try.func3 (by kernel_rfl)
  (of_decide_eq_true (by kernel_rfl)) (by unfold Func.isWrapper; first | (rw [if_pos (by decide +kernel)]; kernel_rfl) | (rw [if_neg (by decide +kernel)]; exact ⟨rfl, rfl⟩))
  (fun os started H enc _ => lifted os started H enc)

theorem proved : Rows.FlashManySaid :=
 over
#print axioms proved
end Go.Proofs.Ytfobhkibkdmglaa.flashMany
