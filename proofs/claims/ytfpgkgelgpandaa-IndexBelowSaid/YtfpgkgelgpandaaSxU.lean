/-
  What is kept, in the words of the rows.
-/
import Derived.Test.YtfpgkgelgpandaaSxT
import Derived.RowKit3
namespace Go.Sx

theorem Keeps.grown {w w' : World} (h : Keeps (fun _ => False) w w') : Go.RowKit.Grown w w' := by
  refine ⟨⟨h.os, h.output, fun i hi => ?_⟩, h.frz, h.size⟩
  rw [h.block i hi id]
  cases w.heap[i]? with
  | none => rfl
  | some o => cases o <;> simp

end Go.Sx
