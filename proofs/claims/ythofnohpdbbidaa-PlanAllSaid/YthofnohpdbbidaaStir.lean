/-
  The layer mix: a number stirred, a node's point; likewise as the document says it. No condition but that nodes are few.
-/
import Derived.Test.YthofnohpdbbidaaK
namespace Go.Proofs.Ythofnohpdbbidaa
open Go.Sx
set_option maxRecDepth 100000
set_option linter.unusedVariables false

def x64 (a b : Int) : Int := ibits .xor .u64 a b
def w64 (a : Int) : Int := uw .u64 a
def stir1 (x : Int) : Int := w64 (x64 x (x / 1073741824) * 13787848793156543929)
def stir2 (x : Int) : Int := w64 (x64 x (x / 134217728) * 10723151780598845931)
def stir3 (x : Int) : Int := x64 x (x / 2147483648)
def stirI (x : Int) : Int := stir3 (stir2 (stir1 x))
noncomputable def cStir : Con where
  α := Int
  β := Unit
  m := 0
  m' := 0
  pre := fun _ => True
  args := fun a => [.a (.int .u64 a)]
  hp := fun _ => []
  ro := fun _ => []
  post := fun _ _ => True
  res := fun a _ => .a (.int .u64 (stirI a))
  hp' := fun _ _ => []
set_option maxHeartbeats 4000000 in
theorem bodyStir : fnBody (Y Try.prog) [] 48 cStir fun _ => [] := fnBody.of (p :=
  ∀ (a : Int), True →
  (0 : Int) ≤ (30 : Int) ∧
  (0 : Int) ≤ (27 : Int) ∧
  (0 : Int) ≤ (31 : Int) ∧
  ∃ (b : Unit), ibits Go.BinOp.xor IntKind.u64 (uw IntKind.u64 (ibits Go.BinOp.xor IntKind.u64 (uw IntKind.u64 (ibits Go.BinOp.xor IntKind.u64 a (a / (1073741824 : Int)) * (13787848793156543929 : Int))) (uw IntKind.u64 (ibits Go.BinOp.xor IntKind.u64 a (a / (1073741824 : Int)) * (13787848793156543929 : Int)) / (134217728 : Int)) * (10723151780598845931 : Int))) (uw IntKind.u64 (ibits Go.BinOp.xor IntKind.u64 (uw IntKind.u64 (ibits Go.BinOp.xor IntKind.u64 a (a / (1073741824 : Int)) * (13787848793156543929 : Int))) (uw IntKind.u64 (ibits Go.BinOp.xor IntKind.u64 a (a / (1073741824 : Int)) * (13787848793156543929 : Int)) / (134217728 : Int)) * (10723151780598845931 : Int)) / (2147483648 : Int)) = stirI a ∧
  True ∧
  True) (by kernel_rfl) (by
  intro a _
  exact ⟨by decide, by decide, by decide, (), rfl, trivial, trivial⟩)
theorem callStir : CallsBy (Y Try.prog).G.X 48 cStir := fn_ok okY (tab := []) trivial bodyStir
set_option maxHeartbeats 4000000 in
theorem bodyRStir : fnBody (Y Try.prog) [] 29 cStir fun _ => [] := fnBody.of (p :=
  ∀ (a : Int), True →
  (1073741824 : Int) ≠ (0 : Int) ∧
  (134217728 : Int) ≠ (0 : Int) ∧
  (2147483648 : Int) ≠ (0 : Int) ∧
  ∃ (b : Unit), ibits Go.BinOp.xor IntKind.u64 (uw IntKind.u64 (ibits Go.BinOp.xor IntKind.u64 (uw IntKind.u64 (ibits Go.BinOp.xor IntKind.u64 a (a / (1073741824 : Int)) * (13787848793156543929 : Int))) (uw IntKind.u64 (ibits Go.BinOp.xor IntKind.u64 a (a / (1073741824 : Int)) * (13787848793156543929 : Int)) / (134217728 : Int)) * (10723151780598845931 : Int))) (uw IntKind.u64 (ibits Go.BinOp.xor IntKind.u64 (uw IntKind.u64 (ibits Go.BinOp.xor IntKind.u64 a (a / (1073741824 : Int)) * (13787848793156543929 : Int))) (uw IntKind.u64 (ibits Go.BinOp.xor IntKind.u64 a (a / (1073741824 : Int)) * (13787848793156543929 : Int)) / (134217728 : Int)) * (10723151780598845931 : Int)) / (2147483648 : Int)) = stirI a ∧
  True ∧
  True) (by kernel_rfl) (by
  intro a _
  exact ⟨by decide, by decide, by decide, (), rfl, trivial, trivial⟩)
theorem callRStir : CallsBy (Y Try.prog).G.X 29 cStir := fn_ok okY (tab := []) trivial bodyRStir
def pointI (n i : Int) : Int := stirI (w64 (n * 1000003 + i))
noncomputable def cPoint : Con where
  α := Int × Int
  β := Unit
  m := 0
  m' := 0
  pre := fun a => 0 ≤ a.1 ∧ a.1 ≤ 100 ∧ 0 ≤ a.2 ∧ a.2 ≤ 100
  args := fun a => [.a (.int .i64 a.1), .a (.int .i64 a.2)]
  hp := fun _ => []
  ro := fun _ => []
  post := fun _ _ => True
  res := fun a _ => .a (.int .u64 (pointI a.1 a.2))
  hp' := fun _ _ => []
set_option maxHeartbeats 4000000 in
theorem bodyPoint : fnBody (Y Try.prog) [(48, cStir)] 33 cPoint fun _ => [] := fnBody.of (p :=
  ∀ (a : Int × Int), (0 : Int) ≤ a.fst ∧
  a.fst ≤ (100 : Int) ∧
  (0 : Int) ≤ a.snd ∧
  a.snd ≤ (100 : Int) →
  InR IntKind.i64 (a.fst * (1000003 : Int)) ∧
  InR IntKind.i64 (a.fst * (1000003 : Int) + a.snd) ∧
  ∃ (a_2 : Int), uw IntKind.u64 (a.fst * (1000003 : Int) + a.snd) = a_2 ∧
  True ∧
  ∀ (b : Unit), True →
  ∃ (b : Unit), stirI a_2 = pointI a.fst a.snd ∧
  True ∧
  True) (by kernel_rfl) (by
  intro a h
  obtain ⟨h1, h2, h3, h4⟩ := h
  simp only [InR]
  exact ⟨by omega, by omega, _, rfl, trivial, fun _ _ => ⟨(), rfl, trivial, trivial⟩⟩)
theorem callPoint : CallsBy (Y Try.prog).G.X 33 cPoint := fn_ok okY (tab := [(48, cStir)]) ⟨callStir, trivial⟩ bodyPoint
set_option maxHeartbeats 4000000 in
theorem bodyRPoint : fnBody (Y Try.prog) [(29, cStir)] 15 cPoint fun _ => [] := fnBody.of (p :=
  ∀ (a : Int × Int), (0 : Int) ≤ a.fst ∧
  a.fst ≤ (100 : Int) ∧
  (0 : Int) ≤ a.snd ∧
  a.snd ≤ (100 : Int) →
  InR IntKind.i64 (a.fst * (1000003 : Int)) ∧
  InR IntKind.i64 (a.fst * (1000003 : Int) + a.snd) ∧
  ∃ (a_2 : Int), uw IntKind.u64 (a.fst * (1000003 : Int) + a.snd) = a_2 ∧
  True ∧
  ∀ (b : Unit), True →
  ∃ (b : Unit), stirI a_2 = pointI a.fst a.snd ∧
  True ∧
  True) (by kernel_rfl) (by
  intro a h
  obtain ⟨h1, h2, h3, h4⟩ := h
  simp only [InR]
  exact ⟨by omega, by omega, _, rfl, trivial, fun _ _ => ⟨(), rfl, trivial, trivial⟩⟩)
theorem callRPoint : CallsBy (Y Try.prog).G.X 15 cPoint := fn_ok okY (tab := [(29, cStir)]) ⟨callRStir, trivial⟩ bodyRPoint
end Go.Proofs.Ythofnohpdbbidaa
