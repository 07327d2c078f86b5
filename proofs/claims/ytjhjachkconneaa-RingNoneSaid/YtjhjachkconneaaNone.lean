/-
  The closed statement's function, carried out; no condition.
-/
import Derived.Test.YtjhjachkconneaaK
import Derived.Test.YtjhjachkconneaaSxZ
namespace Go.Proofs.Ytjhjachkconneaa
open Go.Sx
set_option maxRecDepth 100000
set_option linter.unusedVariables false
noncomputable def cNone : Con where
  α := Unit
  β := Unit
  m := 0
  m' := 0
  pre := fun _ => True
  args := fun _ => []
  hp := fun _ => []
  ro := fun _ => []
  post := fun _ _ => True
  res := fun _ _ => .a .tt
  hp' := fun _ _ => []
theorem tabNone_ok : TabOk (Yf Try.prog).G.X [] := trivial
theorem instNone : ∀ ads, okADs [] ads → ∃ a : Unit, cNone.pre a ∧ cNone.args a = svs 0 ads ∧ cNone.ro a = chs 0 [] ads ∧ cNone.m = slcs ads := by
  rintro _ rfl
  exact ⟨(), trivial, rfl, rfl, rfl⟩
set_option maxHeartbeats 4000000 in
theorem bodyNone : fnBody (Yf Try.prog) [] 6 cNone fun _ => [] := fnBody.of (p :=
  ∀ (a : Unit), True →
  ∀ (cap : Nat), (1 : Nat) ≤ cap →
  cap ≤ lenMax →
  ((1 : Nat) ≤ (0 : Nat) →
  cap = (0 : Nat)) →
  ∀ (cap : Nat), (1 : Nat) ≤ cap →
  cap ≤ lenMax →
  ∀ (cap_1 : Nat), (2 : Nat) ≤ cap_1 →
  cap_1 ≤ lenMax →
  ((2 : Nat) ≤ cap →
  cap_1 = cap) →
  ∀ (cap : Nat), (3 : Nat) ≤ cap →
  cap ≤ lenMax →
  ((3 : Nat) ≤ cap_1 →
  cap = cap_1) →
  ∀ (cap_2 : Nat), (4 : Nat) ≤ cap_2 →
  cap_2 ≤ lenMax →
  ((4 : Nat) ≤ cap →
  cap_2 = cap) →
  ∀ (cap : Nat), (5 : Nat) ≤ cap →
  cap ≤ lenMax →
  ((5 : Nat) ≤ cap_2 →
  cap = cap_2) →
  ∀ (cap_3 : Nat), (6 : Nat) ≤ cap_3 →
  cap_3 ≤ lenMax →
  ((6 : Nat) ≤ cap →
  cap_3 = cap) →
  ∀ (cap : Nat), (7 : Nat) ≤ cap →
  cap ≤ lenMax →
  ((7 : Nat) ≤ cap_3 →
  cap = cap_3) →
  ∀ (cap_4 : Nat), (8 : Nat) ≤ cap_4 →
  cap_4 ≤ lenMax →
  ((8 : Nat) ≤ cap →
  cap_4 = cap) →
  ∀ (cap : Nat), (1 : Nat) ≤ cap →
  cap ≤ lenMax →
  ((1 : Nat) ≤ (0 : Nat) →
  cap = (0 : Nat)) →
  ∃ (b : Unit), Bool.true = Bool.true ∧
  True ∧
  True) (by kernel_rfl) (by
  repeat' (first | intro _ | exact ⟨(), rfl, trivial, trivial⟩ | apply And.intro | decide))
end Go.Proofs.Ytjhjachkconneaa
