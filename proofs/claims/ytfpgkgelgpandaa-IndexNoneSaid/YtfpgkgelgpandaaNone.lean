/-
  The closed statement's function, carried out; no condition.
-/
import Derived.Test.YtfpgkgelgpandaaK
import Derived.Test.YtfpgkgelgpandaaSxZ
namespace Go.Proofs.Ytfpgkgelgpandaa
open Go.Sx
set_option maxRecDepth 100000
set_option linter.unusedVariables false
noncomputable def cNone : Con where
  α := Unit
  β := Unit
  m := 0
  m' := 0
  pre := fun _ => True
  args := fun _ => []
  hp := fun _ => []
  ro := fun _ => []
  post := fun _ _ => True
  res := fun _ _ => .a .tt
  hp' := fun _ _ => []
theorem tabNone_ok : TabOk (Yf Try.prog).G.X [] := trivial
theorem instNone : ∀ ads, okADs [] ads → ∃ a : Unit, cNone.pre a ∧ cNone.args a = svs 0 ads ∧ cNone.ro a = chs 0 [] ads ∧ cNone.m = slcs ads := by
  rintro _ rfl
  exact ⟨(), trivial, rfl, rfl, rfl⟩
set_option maxHeartbeats 4000000 in
theorem bodyNone : fnBody (Yf Try.prog) [] 6 cNone fun _ => [] := fnBody.of (p :=
  ∀ (a : Unit), True →
  (0 : Int) ≤ (16 : Int) ∧
  (16 : Int) ≤ (16 : Int) ∧
  (512 : Int) ≤ (281474976710656 : Int) ∧
  ∃ (b : Unit), Bool.true = Bool.true ∧
  True ∧
  True) (by kernel_rfl) (by
  repeat' (first | intro _ | exact ⟨(), rfl, trivial, trivial⟩ | apply And.intro | decide))
end Go.Proofs.Ytfpgkgelgpandaa
