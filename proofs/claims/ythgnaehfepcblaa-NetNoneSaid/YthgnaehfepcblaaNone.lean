/-
  The closed statement's function, carried out; no condition.
-/
import Derived.Test.YthgnaehfepcblaaK
import Derived.Test.YthgnaehfepcblaaSxZ
namespace Go.Proofs.Ythgnaehfepcblaa
open Go.Sx
set_option maxRecDepth 100000
set_option linter.unusedVariables false
noncomputable def cNone : Con where
  α := Unit
  β := Unit
  m := 0
  m' := 0
  pre := fun _ => True
  args := fun _ => []
  hp := fun _ => []
  ro := fun _ => []
  post := fun _ _ => True
  res := fun _ _ => .a .tt
  hp' := fun _ _ => []
theorem tabNone_ok : TabOk (Yf Try.prog).G.X [] := trivial
theorem instNone : ∀ ads, okADs [] ads → ∃ a : Unit, cNone.pre a ∧ cNone.args a = svs 0 ads ∧ cNone.ro a = chs 0 [] ads ∧ cNone.m = slcs ads := by
  rintro _ rfl
  exact ⟨(), trivial, rfl, rfl, rfl⟩
set_option maxHeartbeats 4000000 in
theorem bodyNone : fnBody (Yf Try.prog) [] 6 cNone fun _ => [] := fnBody.of (p :=
  ∀ (a : Unit), True →
  ∀ (cap : Nat), (1 : Nat) ≤ cap →
  cap ≤ lenMax →
  ∀ (cap_1 : Nat), (2 : Nat) ≤ cap_1 →
  cap_1 ≤ lenMax →
  ((2 : Nat) ≤ cap →
  cap_1 = cap) →
  ((0 : Int) ≤ (2 : Int) ∧
  (2 : Int) ≤ (↑cap_1 : Int)) ∧
  ((0 : Int) ≤ (1 : Int) ∧
  (1 : Int) ≤ (2 : Int)) ∧
  ((0 : Int) ≤ (0 : Int) ∧
  (0 : Int) ≤ (1 : Int)) ∧
  ((0 : Int) ≤ (0 : Int) ∧
  (0 : Int) ≤ (↑cap_1 : Int)) ∧
  ((0 : Int) ≤ (1 : Int) ∧
  (1 : Int) ≤ (2 : Int)) ∧
  ∀ (cap : Nat), (1 : Nat) ≤ cap →
  cap ≤ lenMax →
  ((1 : Nat) ≤ cap_1 - (0 : Nat) →
  cap = cap_1 - (0 : Nat)) →
  ((0 : Int) ≤ (2 : Int) ∧
  (2 : Int) ≤ (↑cap : Int)) ∧
  ((0 : Int) ≤ (1 : Int) ∧
  (1 : Int) ≤ (2 : Int)) ∧
  ((0 : Int) ≤ (1 : Int) ∧
  (1 : Int) ≤ (↑cap : Int)) ∧
  ((0 : Int) ≤ (1 : Int) ∧
  (1 : Int) ≤ (1 : Int)) ∧
  ((0 : Int) ≤ (0 : Int) ∧
  (0 : Int) ≤ (1 : Int)) ∧
  ((0 : Int) ≤ (0 : Int) ∧
  (0 : Int) ≤ (↑cap : Int)) ∧
  ((0 : Int) ≤ (1 : Int) ∧
  (1 : Int) ≤ (1 : Int)) ∧
  ∀ (cap_2 : Nat), (0 : Nat) ≤ cap_2 →
  cap_2 ≤ lenMax →
  ((0 : Nat) ≤ cap - (0 : Nat) →
  cap_2 = cap - (0 : Nat)) →
  ((0 : Int) ≤ (1 : Int) ∧
  (1 : Int) ≤ (↑cap_2 : Int)) ∧
  ((0 : Int) ≤ (0 : Int) ∧
  (0 : Int) ≤ (1 : Int)) ∧
  ∃ (b : Unit), Bool.true = Bool.true ∧
  True ∧
  True) (by kernel_rfl) (by
  repeat' (first | intro _ | exact ⟨(), rfl, trivial, trivial⟩ | apply And.intro | decide | omega))
end Go.Proofs.Ythgnaehfepcblaa
