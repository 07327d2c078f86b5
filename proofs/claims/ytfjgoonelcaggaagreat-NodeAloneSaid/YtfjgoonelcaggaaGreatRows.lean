/-
  No cell of these rows narrows 'for every input' (looked for: loops, veiled, ifaces, maps, wideKeys, modest, calm, conditions, laid).
  DERIVED. THE GIVEN ROWS OF THIS SEAT. 8 by the template 'for every input the law returns true; each argument reads behind the call as it read before'; 0 by the template 'total and deterministic' (their statements: YtfjgoonelcaggaaGreatTotals.lean).
  GIVEN WITH THE SEED: the statements are not yours to turn. If you find one false, say at which input.
  Laid BY PROGRAM, IN A SANDBOX (cutbox-rows.mjs): the forced cells as the released guide's own fill.sh prints them over the translation 0967115f05d8d30f… (all of the seat's roots in one cut). By AI agents, Wed Nov 11 2026. No macro, syntax, notation, axiom, sorry.
-/
import Derived.Test.YtfjgoonelcaggaaGreatChecked
import GoSem.Claim
import GoSem.ClaimJoined
import GoSem.ClaimMapViews
import Derived.JoinedTies
import Derived.KernelRfl
namespace Go.Proofs.YtfjgoonelcaggaaGreat
/- THE CELL 'sum', in the pinned program and in every row, IS THE sha256 OF THE DUMP (.gsa) THAT YtfjgoonelcaggaaGreatProg.lean LOADS. Nothing in Lean hashes anything: it is a label: what it is worth is what the hold of that sum in a sandbox is worth. -/
noncomputable def Tryz.pinned : Pinned := { name := "ytfjgoonelcaggaagreat", sum := "0967115f05d8d30f1119c8b9718bc18840a8cb0444d777f8854f88582d937176", checked := Tryz.checked }
namespace Rows
def none {H : Type} : Left H := { results := [], args := [] }

/-- 'icehouselaw24.NodeNone': WHATEVER THE INPUT: true; the input reads as it did. -/
def nodeNoneSpec : ChangeSpec := { name := "nodeNone", fn := fun _ => fun
  | [] => { results := [.lit (.bool true)], args := [] }
  | _ => none }
def nodeNoneRow : OpenClaim := { program := "ytfjgoonelcaggaagreat", sum := "0967115f05d8d30f1119c8b9718bc18840a8cb0444d777f8854f88582d937176", func := "icehouse/icehouselaw24.NodeNone", spec := "nodeNone", unfollowed := true, recurses := true, apart := false }
def NodeNoneSaid : Prop := nodeNoneRow.holds Tryz.pinned (OpenSpec.ofChange nodeNoneSpec)

/-- ITS FALSE NEIGHBOUR: 'it returns false'. Refute it at one input. -/
def nodeNoneWrong : ChangeSpec := { name := "nodeNone", fn := fun _ => fun
  | [] => { results := [.lit (.bool false)], args := [] }
  | _ => none }
def NodeNoneWrongFalsely : Prop := nodeNoneRow.holds Tryz.pinned (OpenSpec.ofChange nodeNoneWrong)

/-- 'icehouselaw24.NodeForeign': WHATEVER THE INPUT: true; the input reads as it did. -/
def nodeForeignSpec : ChangeSpec := { name := "nodeForeign", fn := fun _ => fun
  | [d1, d2, d3, d4, d5] => { results := [.lit (.bool true)], args := [d1, d2, d3, d4, d5] }
  | _ => none }
def nodeForeignRow : OpenClaim := { program := "ytfjgoonelcaggaagreat", sum := "0967115f05d8d30f1119c8b9718bc18840a8cb0444d777f8854f88582d937176", func := "icehouse/icehouselaw24.NodeForeign", spec := "nodeForeign", unfollowed := true, recurses := true, apart := false }
def NodeForeignSaid : Prop := nodeForeignRow.holds Tryz.pinned (OpenSpec.ofChange nodeForeignSpec)

/-- ITS FALSE NEIGHBOUR: 'it returns false'. Refute it at one input. -/
def nodeForeignWrong : ChangeSpec := { name := "nodeForeign", fn := fun _ => fun
  | [d1, d2, d3, d4, d5] => { results := [.lit (.bool false)], args := [d1, d2, d3, d4, d5] }
  | _ => none }
def NodeForeignWrongFalsely : Prop := nodeForeignRow.holds Tryz.pinned (OpenSpec.ofChange nodeForeignWrong)

/-- 'icehouselaw24.NodeKills': WHATEVER THE INPUT: true; the input reads as it did. -/
def nodeKillsSpec : ChangeSpec := { name := "nodeKills", fn := fun _ => fun
  | [d1, d2] => { results := [.lit (.bool true)], args := [d1, d2] }
  | _ => none }
def nodeKillsRow : OpenClaim := { program := "ytfjgoonelcaggaagreat", sum := "0967115f05d8d30f1119c8b9718bc18840a8cb0444d777f8854f88582d937176", func := "icehouse/icehouselaw24.NodeKills", spec := "nodeKills", unfollowed := true, recurses := true, apart := false }
def NodeKillsSaid : Prop := nodeKillsRow.holds Tryz.pinned (OpenSpec.ofChange nodeKillsSpec)

/-- ITS FALSE NEIGHBOUR: 'it returns false'. Refute it at one input. -/
def nodeKillsWrong : ChangeSpec := { name := "nodeKills", fn := fun _ => fun
  | [d1, d2] => { results := [.lit (.bool false)], args := [d1, d2] }
  | _ => none }
def NodeKillsWrongFalsely : Prop := nodeKillsRow.holds Tryz.pinned (OpenSpec.ofChange nodeKillsWrong)

/-- 'icehouselaw24.NodeAsks': WHATEVER THE INPUT: true; the input reads as it did. -/
def nodeAsksSpec : ChangeSpec := { name := "nodeAsks", fn := fun _ => fun
  | [d1, d2, d3, d4, d5, d6] => { results := [.lit (.bool true)], args := [d1, d2, d3, d4, d5, d6] }
  | _ => none }
def nodeAsksRow : OpenClaim := { program := "ytfjgoonelcaggaagreat", sum := "0967115f05d8d30f1119c8b9718bc18840a8cb0444d777f8854f88582d937176", func := "icehouse/icehouselaw24.NodeAsks", spec := "nodeAsks", unfollowed := true, recurses := true, apart := false }
def NodeAsksSaid : Prop := nodeAsksRow.holds Tryz.pinned (OpenSpec.ofChange nodeAsksSpec)

/-- ITS FALSE NEIGHBOUR: 'it returns false'. Refute it at one input. -/
def nodeAsksWrong : ChangeSpec := { name := "nodeAsks", fn := fun _ => fun
  | [d1, d2, d3, d4, d5, d6] => { results := [.lit (.bool false)], args := [d1, d2, d3, d4, d5, d6] }
  | _ => none }
def NodeAsksWrongFalsely : Prop := nodeAsksRow.holds Tryz.pinned (OpenSpec.ofChange nodeAsksWrong)

/-- 'icehouselaw24.NodeLease': WHATEVER THE INPUT: true; the input reads as it did. -/
def nodeLeaseSpec : ChangeSpec := { name := "nodeLease", fn := fun _ => fun
  | [d1, d2] => { results := [.lit (.bool true)], args := [d1, d2] }
  | _ => none }
def nodeLeaseRow : OpenClaim := { program := "ytfjgoonelcaggaagreat", sum := "0967115f05d8d30f1119c8b9718bc18840a8cb0444d777f8854f88582d937176", func := "icehouse/icehouselaw24.NodeLease", spec := "nodeLease", unfollowed := true, recurses := true, apart := false }
def NodeLeaseSaid : Prop := nodeLeaseRow.holds Tryz.pinned (OpenSpec.ofChange nodeLeaseSpec)

/-- ITS FALSE NEIGHBOUR: 'it returns false'. Refute it at one input. -/
def nodeLeaseWrong : ChangeSpec := { name := "nodeLease", fn := fun _ => fun
  | [d1, d2] => { results := [.lit (.bool false)], args := [d1, d2] }
  | _ => none }
def NodeLeaseWrongFalsely : Prop := nodeLeaseRow.holds Tryz.pinned (OpenSpec.ofChange nodeLeaseWrong)

/-- 'icehouselaw24.NodeFrozen': WHATEVER THE INPUT: true; the input reads as it did. -/
def nodeFrozenSpec : ChangeSpec := { name := "nodeFrozen", fn := fun _ => fun
  | [d1, d2, d3] => { results := [.lit (.bool true)], args := [d1, d2, d3] }
  | _ => none }
def nodeFrozenRow : OpenClaim := { program := "ytfjgoonelcaggaagreat", sum := "0967115f05d8d30f1119c8b9718bc18840a8cb0444d777f8854f88582d937176", func := "icehouse/icehouselaw24.NodeFrozen", spec := "nodeFrozen", unfollowed := true, recurses := true, apart := false }
def NodeFrozenSaid : Prop := nodeFrozenRow.holds Tryz.pinned (OpenSpec.ofChange nodeFrozenSpec)

/-- ITS FALSE NEIGHBOUR: 'it returns false'. Refute it at one input. -/
def nodeFrozenWrong : ChangeSpec := { name := "nodeFrozen", fn := fun _ => fun
  | [d1, d2, d3] => { results := [.lit (.bool false)], args := [d1, d2, d3] }
  | _ => none }
def NodeFrozenWrongFalsely : Prop := nodeFrozenRow.holds Tryz.pinned (OpenSpec.ofChange nodeFrozenWrong)

/-- 'icehouselaw24.NodeAlone': WHATEVER THE INPUT: true; the input reads as it did. -/
def nodeAloneSpec : ChangeSpec := { name := "nodeAlone", fn := fun _ => fun
  | [d] => { results := [.lit (.bool true)], args := [d] }
  | _ => none }
def nodeAloneRow : OpenClaim := { program := "ytfjgoonelcaggaagreat", sum := "0967115f05d8d30f1119c8b9718bc18840a8cb0444d777f8854f88582d937176", func := "icehouse/icehouselaw24.NodeAlone", spec := "nodeAlone", unfollowed := true, recurses := true, apart := false }
def NodeAloneSaid : Prop := nodeAloneRow.holds Tryz.pinned (OpenSpec.ofChange nodeAloneSpec)

/-- ITS FALSE NEIGHBOUR: 'it returns false'. Refute it at one input. -/
def nodeAloneWrong : ChangeSpec := { name := "nodeAlone", fn := fun _ => fun
  | [d] => { results := [.lit (.bool false)], args := [d] }
  | _ => none }
def NodeAloneWrongFalsely : Prop := nodeAloneRow.holds Tryz.pinned (OpenSpec.ofChange nodeAloneWrong)

/-- 'icehouselaw24.NodeEpochs': WHATEVER THE INPUT: true; the input reads as it did. -/
def nodeEpochsSpec : ChangeSpec := { name := "nodeEpochs", fn := fun _ => fun
  | [d1, d2, d3] => { results := [.lit (.bool true)], args := [d1, d2, d3] }
  | _ => none }
def nodeEpochsRow : OpenClaim := { program := "ytfjgoonelcaggaagreat", sum := "0967115f05d8d30f1119c8b9718bc18840a8cb0444d777f8854f88582d937176", func := "icehouse/icehouselaw24.NodeEpochs", spec := "nodeEpochs", unfollowed := true, recurses := true, apart := false }
def NodeEpochsSaid : Prop := nodeEpochsRow.holds Tryz.pinned (OpenSpec.ofChange nodeEpochsSpec)

/-- ITS FALSE NEIGHBOUR: 'it returns false'. Refute it at one input. -/
def nodeEpochsWrong : ChangeSpec := { name := "nodeEpochs", fn := fun _ => fun
  | [d1, d2, d3] => { results := [.lit (.bool false)], args := [d1, d2, d3] }
  | _ => none }
def NodeEpochsWrongFalsely : Prop := nodeEpochsRow.holds Tryz.pinned (OpenSpec.ofChange nodeEpochsWrong)

/- THE SECOND FORM. 'bulk': how many values and letters a reading holds, each counted each time it is reached (what is shared counts as often as it is met; a slice's spare places count too). A statement '..UptoSaid' is the law's where the arguments, and the package variables that the reading takes, are together of bulk at most 1048576: NARROWER than '..Said'. Prove '..Said' where nothing that the law and all that it calls make is longer than what came in: it says more and counts as full. Else prove '..UptoSaid'. A law counts once. -/
mutual
def uptoBulk {H : Type} : DataW H → Nat
  | .lit (.string bytes) => bytes.length + 1
  | .lit _ => 1
  | .nil => 1
  | .ptr d => uptoBulk d + 1
  | .slice elems spare => uptoBulkAll elems + uptoBulkAll spare + 1
  | .agg parts => uptoBulkAll parts + 1
  | .iface _ d => uptoBulk d + 1
  | .map entries => uptoBulkEntries entries + 1
  | .held _ => 1
def uptoBulkAll {H : Type} : List (DataW H) → Nat
  | [] => 0
  | d :: r => uptoBulk d + uptoBulkAll r
def uptoBulkEntries {H : Type} : List (Lit × DataW H) → Nat
  | [] => 0
  | x :: r => uptoBulkEntry x + uptoBulkEntries r
def uptoBulkEntry {H : Type} : Lit × DataW H → Nat
  | (.string bytes, d) => bytes.length + uptoBulk d + 1
  | (_, d) => uptoBulk d + 1
 end
def uptoSmall : (H : Type) → List (DataW H) → Bool := fun _ ds => decide (uptoBulkAll ds ≤ 1048576)
def OpenSpec.upto (s : _root_.Go.ChangeSpec) : _root_.Go.OpenSpec := { _root_.Go.OpenSpec.ofChange s with cond := some uptoSmall }

/-- 'icehouselaw24.NodeNone', WHERE WHAT IT READS IS OF BULK AT MOST 1048576: true; the input reads as it did. -/
def nodeNoneUptoRow : OpenClaim := { program := "ytfjgoonelcaggaagreat", sum := "0967115f05d8d30f1119c8b9718bc18840a8cb0444d777f8854f88582d937176", func := "icehouse/icehouselaw24.NodeNone", spec := "nodeNone", unfollowed := true, recurses := true, apart := false, narrowed := true }
def NodeNoneUptoSaid : Prop := nodeNoneUptoRow.holds Tryz.pinned (OpenSpec.upto nodeNoneSpec)

/-- 'icehouselaw24.NodeForeign', WHERE WHAT IT READS IS OF BULK AT MOST 1048576: true; the input reads as it did. -/
def nodeForeignUptoRow : OpenClaim := { program := "ytfjgoonelcaggaagreat", sum := "0967115f05d8d30f1119c8b9718bc18840a8cb0444d777f8854f88582d937176", func := "icehouse/icehouselaw24.NodeForeign", spec := "nodeForeign", unfollowed := true, recurses := true, apart := false, narrowed := true }
def NodeForeignUptoSaid : Prop := nodeForeignUptoRow.holds Tryz.pinned (OpenSpec.upto nodeForeignSpec)

/-- 'icehouselaw24.NodeKills', WHERE WHAT IT READS IS OF BULK AT MOST 1048576: true; the input reads as it did. -/
def nodeKillsUptoRow : OpenClaim := { program := "ytfjgoonelcaggaagreat", sum := "0967115f05d8d30f1119c8b9718bc18840a8cb0444d777f8854f88582d937176", func := "icehouse/icehouselaw24.NodeKills", spec := "nodeKills", unfollowed := true, recurses := true, apart := false, narrowed := true }
def NodeKillsUptoSaid : Prop := nodeKillsUptoRow.holds Tryz.pinned (OpenSpec.upto nodeKillsSpec)

/-- 'icehouselaw24.NodeAsks', WHERE WHAT IT READS IS OF BULK AT MOST 1048576: true; the input reads as it did. -/
def nodeAsksUptoRow : OpenClaim := { program := "ytfjgoonelcaggaagreat", sum := "0967115f05d8d30f1119c8b9718bc18840a8cb0444d777f8854f88582d937176", func := "icehouse/icehouselaw24.NodeAsks", spec := "nodeAsks", unfollowed := true, recurses := true, apart := false, narrowed := true }
def NodeAsksUptoSaid : Prop := nodeAsksUptoRow.holds Tryz.pinned (OpenSpec.upto nodeAsksSpec)

/-- 'icehouselaw24.NodeLease', WHERE WHAT IT READS IS OF BULK AT MOST 1048576: true; the input reads as it did. -/
def nodeLeaseUptoRow : OpenClaim := { program := "ytfjgoonelcaggaagreat", sum := "0967115f05d8d30f1119c8b9718bc18840a8cb0444d777f8854f88582d937176", func := "icehouse/icehouselaw24.NodeLease", spec := "nodeLease", unfollowed := true, recurses := true, apart := false, narrowed := true }
def NodeLeaseUptoSaid : Prop := nodeLeaseUptoRow.holds Tryz.pinned (OpenSpec.upto nodeLeaseSpec)

/-- 'icehouselaw24.NodeFrozen', WHERE WHAT IT READS IS OF BULK AT MOST 1048576: true; the input reads as it did. -/
def nodeFrozenUptoRow : OpenClaim := { program := "ytfjgoonelcaggaagreat", sum := "0967115f05d8d30f1119c8b9718bc18840a8cb0444d777f8854f88582d937176", func := "icehouse/icehouselaw24.NodeFrozen", spec := "nodeFrozen", unfollowed := true, recurses := true, apart := false, narrowed := true }
def NodeFrozenUptoSaid : Prop := nodeFrozenUptoRow.holds Tryz.pinned (OpenSpec.upto nodeFrozenSpec)

/-- 'icehouselaw24.NodeAlone', WHERE WHAT IT READS IS OF BULK AT MOST 1048576: true; the input reads as it did. -/
def nodeAloneUptoRow : OpenClaim := { program := "ytfjgoonelcaggaagreat", sum := "0967115f05d8d30f1119c8b9718bc18840a8cb0444d777f8854f88582d937176", func := "icehouse/icehouselaw24.NodeAlone", spec := "nodeAlone", unfollowed := true, recurses := true, apart := false, narrowed := true }
def NodeAloneUptoSaid : Prop := nodeAloneUptoRow.holds Tryz.pinned (OpenSpec.upto nodeAloneSpec)

/-- 'icehouselaw24.NodeEpochs', WHERE WHAT IT READS IS OF BULK AT MOST 1048576: true; the input reads as it did. -/
def nodeEpochsUptoRow : OpenClaim := { program := "ytfjgoonelcaggaagreat", sum := "0967115f05d8d30f1119c8b9718bc18840a8cb0444d777f8854f88582d937176", func := "icehouse/icehouselaw24.NodeEpochs", spec := "nodeEpochs", unfollowed := true, recurses := true, apart := false, narrowed := true }
def NodeEpochsUptoSaid : Prop := nodeEpochsUptoRow.holds Tryz.pinned (OpenSpec.upto nodeEpochsSpec)

end Rows
end Go.Proofs.YtfjgoonelcaggaaGreat
