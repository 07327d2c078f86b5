/-
  No cell of these rows narrows 'for every input' (looked for: loops, veiled, ifaces, maps, wideKeys, modest, calm, conditions, laid).
  DERIVED. THE GIVEN ROWS OF THIS SEAT. 7 by the template 'for every input the law returns true; each argument reads behind the call as it read before'; 0 by the template 'total and deterministic' (their statements: YtjhjachkconneaaTotals.lean).
  GIVEN WITH THE SEED: the statements are not yours to turn. If you find one false, say at which input.
  Laid BY PROGRAM, IN A SANDBOX (cutbox-rows.mjs): the forced cells as the released guide's own fill.sh prints them over the translation d7c2cfe927df45d7… (all of the seat's roots in one cut). By AI agents, Wed Nov 11 2026. No macro, syntax, notation, axiom, sorry.
-/
import Derived.Test.YtjhjachkconneaaChecked
import GoSem.Claim
import GoSem.ClaimJoined
import GoSem.ClaimMapViews
import Derived.JoinedTies
import Derived.KernelRfl
namespace Go.Proofs.Ytjhjachkconneaa
/- THE CELL 'sum', in the pinned program and in every row, IS THE sha256 OF THE DUMP (.gsa) THAT YtjhjachkconneaaProg.lean LOADS. Nothing in Lean hashes anything: it is a label: what it is worth is what the hold of that sum in a sandbox is worth. -/
noncomputable def Try.pinned : Pinned := { name := "ytjhjachkconneaa", sum := "d7c2cfe927df45d7300cd4d92f9d0c86bfdad4cd74457357c8350fc832d8dd0b", checked := Try.checked }
namespace Rows
def none {H : Type} : Left H := { results := [], args := [] }

/-- 'icehouselaw14.RingOwner': WHATEVER THE INPUT: true; the input reads as it did. -/
def ringOwnerSpec : ChangeSpec := { name := "ringOwner", fn := fun _ => fun
  | [d1, d2, d3, d4] => { results := [.lit (.bool true)], args := [d1, d2, d3, d4] }
  | _ => none }
def ringOwnerRow : OpenClaim := { program := "ytjhjachkconneaa", sum := "d7c2cfe927df45d7300cd4d92f9d0c86bfdad4cd74457357c8350fc832d8dd0b", func := "icehouse/icehouselaw14.RingOwner", spec := "ringOwner", unfollowed := true, recurses := true, apart := false }
def RingOwnerSaid : Prop := ringOwnerRow.holds Try.pinned (OpenSpec.ofChange ringOwnerSpec)

/-- ITS FALSE NEIGHBOUR: 'it returns false'. Refute it at one input. -/
def ringOwnerWrong : ChangeSpec := { name := "ringOwner", fn := fun _ => fun
  | [d1, d2, d3, d4] => { results := [.lit (.bool false)], args := [d1, d2, d3, d4] }
  | _ => none }
def RingOwnerWrongFalsely : Prop := ringOwnerRow.holds Try.pinned (OpenSpec.ofChange ringOwnerWrong)

/-- 'icehouselaw14.RingNear': WHATEVER THE INPUT: true; the input reads as it did. -/
def ringNearSpec : ChangeSpec := { name := "ringNear", fn := fun _ => fun
  | [d1, d2, d3, d4] => { results := [.lit (.bool true)], args := [d1, d2, d3, d4] }
  | _ => none }
def ringNearRow : OpenClaim := { program := "ytjhjachkconneaa", sum := "d7c2cfe927df45d7300cd4d92f9d0c86bfdad4cd74457357c8350fc832d8dd0b", func := "icehouse/icehouselaw14.RingNear", spec := "ringNear", unfollowed := true, recurses := true, apart := false }
def RingNearSaid : Prop := ringNearRow.holds Try.pinned (OpenSpec.ofChange ringNearSpec)

/-- ITS FALSE NEIGHBOUR: 'it returns false'. Refute it at one input. -/
def ringNearWrong : ChangeSpec := { name := "ringNear", fn := fun _ => fun
  | [d1, d2, d3, d4] => { results := [.lit (.bool false)], args := [d1, d2, d3, d4] }
  | _ => none }
def RingNearWrongFalsely : Prop := ringNearRow.holds Try.pinned (OpenSpec.ofChange ringNearWrong)

/-- 'icehouselaw14.RingJoin': WHATEVER THE INPUT: true; the input reads as it did. -/
def ringJoinSpec : ChangeSpec := { name := "ringJoin", fn := fun _ => fun
  | [d1, d2, d3] => { results := [.lit (.bool true)], args := [d1, d2, d3] }
  | _ => none }
def ringJoinRow : OpenClaim := { program := "ytjhjachkconneaa", sum := "d7c2cfe927df45d7300cd4d92f9d0c86bfdad4cd74457357c8350fc832d8dd0b", func := "icehouse/icehouselaw14.RingJoin", spec := "ringJoin", unfollowed := true, recurses := true, apart := false }
def RingJoinSaid : Prop := ringJoinRow.holds Try.pinned (OpenSpec.ofChange ringJoinSpec)

/-- ITS FALSE NEIGHBOUR: 'it returns false'. Refute it at one input. -/
def ringJoinWrong : ChangeSpec := { name := "ringJoin", fn := fun _ => fun
  | [d1, d2, d3] => { results := [.lit (.bool false)], args := [d1, d2, d3] }
  | _ => none }
def RingJoinWrongFalsely : Prop := ringJoinRow.holds Try.pinned (OpenSpec.ofChange ringJoinWrong)

/-- 'icehouselaw14.RingNone': WHATEVER THE INPUT: true; the input reads as it did. -/
def ringNoneSpec : ChangeSpec := { name := "ringNone", fn := fun _ => fun
  | [] => { results := [.lit (.bool true)], args := [] }
  | _ => none }
def ringNoneRow : OpenClaim := { program := "ytjhjachkconneaa", sum := "d7c2cfe927df45d7300cd4d92f9d0c86bfdad4cd74457357c8350fc832d8dd0b", func := "icehouse/icehouselaw14.RingNone", spec := "ringNone", unfollowed := true, recurses := true, apart := false }
def RingNoneSaid : Prop := ringNoneRow.holds Try.pinned (OpenSpec.ofChange ringNoneSpec)

/-- ITS FALSE NEIGHBOUR: 'it returns false'. Refute it at one input. -/
def ringNoneWrong : ChangeSpec := { name := "ringNone", fn := fun _ => fun
  | [] => { results := [.lit (.bool false)], args := [] }
  | _ => none }
def RingNoneWrongFalsely : Prop := ringNoneRow.holds Try.pinned (OpenSpec.ofChange ringNoneWrong)

/-- 'icehouselaw14.RingAlone': WHATEVER THE INPUT: true; the input reads as it did. -/
def ringAloneSpec : ChangeSpec := { name := "ringAlone", fn := fun _ => fun
  | [d1, d2, d3] => { results := [.lit (.bool true)], args := [d1, d2, d3] }
  | _ => none }
def ringAloneRow : OpenClaim := { program := "ytjhjachkconneaa", sum := "d7c2cfe927df45d7300cd4d92f9d0c86bfdad4cd74457357c8350fc832d8dd0b", func := "icehouse/icehouselaw14.RingAlone", spec := "ringAlone", unfollowed := true, recurses := true, apart := false }
def RingAloneSaid : Prop := ringAloneRow.holds Try.pinned (OpenSpec.ofChange ringAloneSpec)

/-- ITS FALSE NEIGHBOUR: 'it returns false'. Refute it at one input. -/
def ringAloneWrong : ChangeSpec := { name := "ringAlone", fn := fun _ => fun
  | [d1, d2, d3] => { results := [.lit (.bool false)], args := [d1, d2, d3] }
  | _ => none }
def RingAloneWrongFalsely : Prop := ringAloneRow.holds Try.pinned (OpenSpec.ofChange ringAloneWrong)

/-- 'icehouselaw14.RingEpoch': WHATEVER THE INPUT: true; the input reads as it did. -/
def ringEpochSpec : ChangeSpec := { name := "ringEpoch", fn := fun _ => fun
  | [d1, d2, d3, d4] => { results := [.lit (.bool true)], args := [d1, d2, d3, d4] }
  | _ => none }
def ringEpochRow : OpenClaim := { program := "ytjhjachkconneaa", sum := "d7c2cfe927df45d7300cd4d92f9d0c86bfdad4cd74457357c8350fc832d8dd0b", func := "icehouse/icehouselaw14.RingEpoch", spec := "ringEpoch", unfollowed := true, recurses := true, apart := false }
def RingEpochSaid : Prop := ringEpochRow.holds Try.pinned (OpenSpec.ofChange ringEpochSpec)

/-- ITS FALSE NEIGHBOUR: 'it returns false'. Refute it at one input. -/
def ringEpochWrong : ChangeSpec := { name := "ringEpoch", fn := fun _ => fun
  | [d1, d2, d3, d4] => { results := [.lit (.bool false)], args := [d1, d2, d3, d4] }
  | _ => none }
def RingEpochWrongFalsely : Prop := ringEpochRow.holds Try.pinned (OpenSpec.ofChange ringEpochWrong)

/-- 'icehouselaw14.RingOwn': WHATEVER THE INPUT: true; the input reads as it did. -/
def ringOwnSpec : ChangeSpec := { name := "ringOwn", fn := fun _ => fun
  | [d1, d2] => { results := [.lit (.bool true)], args := [d1, d2] }
  | _ => none }
def ringOwnRow : OpenClaim := { program := "ytjhjachkconneaa", sum := "d7c2cfe927df45d7300cd4d92f9d0c86bfdad4cd74457357c8350fc832d8dd0b", func := "icehouse/icehouselaw14.RingOwn", spec := "ringOwn", unfollowed := true, recurses := true, apart := false }
def RingOwnSaid : Prop := ringOwnRow.holds Try.pinned (OpenSpec.ofChange ringOwnSpec)

/-- ITS FALSE NEIGHBOUR: 'it returns false'. Refute it at one input. -/
def ringOwnWrong : ChangeSpec := { name := "ringOwn", fn := fun _ => fun
  | [d1, d2] => { results := [.lit (.bool false)], args := [d1, d2] }
  | _ => none }
def RingOwnWrongFalsely : Prop := ringOwnRow.holds Try.pinned (OpenSpec.ofChange ringOwnWrong)

/- THE SECOND FORM. 'bulk': how many values and letters a reading holds, each counted each time it is reached (what is shared counts as often as it is met; a slice's spare places count too). A statement '..UptoSaid' is the law's where the arguments, and the package variables that the reading takes, are together of bulk at most 1048576: NARROWER than '..Said'. Prove '..Said' where nothing that the law and all that it calls make is longer than what came in: it says more and counts as full. Else prove '..UptoSaid'. A law counts once. -/
mutual
def uptoBulk {H : Type} : DataW H → Nat
  | .lit (.string bytes) => bytes.length + 1
  | .lit _ => 1
  | .nil => 1
  | .ptr d => uptoBulk d + 1
  | .slice elems spare => uptoBulkAll elems + uptoBulkAll spare + 1
  | .agg parts => uptoBulkAll parts + 1
  | .iface _ d => uptoBulk d + 1
  | .map entries => uptoBulkEntries entries + 1
  | .held _ => 1
def uptoBulkAll {H : Type} : List (DataW H) → Nat
  | [] => 0
  | d :: r => uptoBulk d + uptoBulkAll r
def uptoBulkEntries {H : Type} : List (Lit × DataW H) → Nat
  | [] => 0
  | x :: r => uptoBulkEntry x + uptoBulkEntries r
def uptoBulkEntry {H : Type} : Lit × DataW H → Nat
  | (.string bytes, d) => bytes.length + uptoBulk d + 1
  | (_, d) => uptoBulk d + 1
 end
def uptoSmall : (H : Type) → List (DataW H) → Bool := fun _ ds => decide (uptoBulkAll ds ≤ 1048576)
def OpenSpec.upto (s : _root_.Go.ChangeSpec) : _root_.Go.OpenSpec := { _root_.Go.OpenSpec.ofChange s with cond := some uptoSmall }

/-- 'icehouselaw14.RingOwner', WHERE WHAT IT READS IS OF BULK AT MOST 1048576: true; the input reads as it did. -/
def ringOwnerUptoRow : OpenClaim := { program := "ytjhjachkconneaa", sum := "d7c2cfe927df45d7300cd4d92f9d0c86bfdad4cd74457357c8350fc832d8dd0b", func := "icehouse/icehouselaw14.RingOwner", spec := "ringOwner", unfollowed := true, recurses := true, apart := false, narrowed := true }
def RingOwnerUptoSaid : Prop := ringOwnerUptoRow.holds Try.pinned (OpenSpec.upto ringOwnerSpec)

/-- 'icehouselaw14.RingNear', WHERE WHAT IT READS IS OF BULK AT MOST 1048576: true; the input reads as it did. -/
def ringNearUptoRow : OpenClaim := { program := "ytjhjachkconneaa", sum := "d7c2cfe927df45d7300cd4d92f9d0c86bfdad4cd74457357c8350fc832d8dd0b", func := "icehouse/icehouselaw14.RingNear", spec := "ringNear", unfollowed := true, recurses := true, apart := false, narrowed := true }
def RingNearUptoSaid : Prop := ringNearUptoRow.holds Try.pinned (OpenSpec.upto ringNearSpec)

/-- 'icehouselaw14.RingJoin', WHERE WHAT IT READS IS OF BULK AT MOST 1048576: true; the input reads as it did. -/
def ringJoinUptoRow : OpenClaim := { program := "ytjhjachkconneaa", sum := "d7c2cfe927df45d7300cd4d92f9d0c86bfdad4cd74457357c8350fc832d8dd0b", func := "icehouse/icehouselaw14.RingJoin", spec := "ringJoin", unfollowed := true, recurses := true, apart := false, narrowed := true }
def RingJoinUptoSaid : Prop := ringJoinUptoRow.holds Try.pinned (OpenSpec.upto ringJoinSpec)

/-- 'icehouselaw14.RingNone', WHERE WHAT IT READS IS OF BULK AT MOST 1048576: true; the input reads as it did. -/
def ringNoneUptoRow : OpenClaim := { program := "ytjhjachkconneaa", sum := "d7c2cfe927df45d7300cd4d92f9d0c86bfdad4cd74457357c8350fc832d8dd0b", func := "icehouse/icehouselaw14.RingNone", spec := "ringNone", unfollowed := true, recurses := true, apart := false, narrowed := true }
def RingNoneUptoSaid : Prop := ringNoneUptoRow.holds Try.pinned (OpenSpec.upto ringNoneSpec)

/-- 'icehouselaw14.RingAlone', WHERE WHAT IT READS IS OF BULK AT MOST 1048576: true; the input reads as it did. -/
def ringAloneUptoRow : OpenClaim := { program := "ytjhjachkconneaa", sum := "d7c2cfe927df45d7300cd4d92f9d0c86bfdad4cd74457357c8350fc832d8dd0b", func := "icehouse/icehouselaw14.RingAlone", spec := "ringAlone", unfollowed := true, recurses := true, apart := false, narrowed := true }
def RingAloneUptoSaid : Prop := ringAloneUptoRow.holds Try.pinned (OpenSpec.upto ringAloneSpec)

/-- 'icehouselaw14.RingEpoch', WHERE WHAT IT READS IS OF BULK AT MOST 1048576: true; the input reads as it did. -/
def ringEpochUptoRow : OpenClaim := { program := "ytjhjachkconneaa", sum := "d7c2cfe927df45d7300cd4d92f9d0c86bfdad4cd74457357c8350fc832d8dd0b", func := "icehouse/icehouselaw14.RingEpoch", spec := "ringEpoch", unfollowed := true, recurses := true, apart := false, narrowed := true }
def RingEpochUptoSaid : Prop := ringEpochUptoRow.holds Try.pinned (OpenSpec.upto ringEpochSpec)

/-- 'icehouselaw14.RingOwn', WHERE WHAT IT READS IS OF BULK AT MOST 1048576: true; the input reads as it did. -/
def ringOwnUptoRow : OpenClaim := { program := "ytjhjachkconneaa", sum := "d7c2cfe927df45d7300cd4d92f9d0c86bfdad4cd74457357c8350fc832d8dd0b", func := "icehouse/icehouselaw14.RingOwn", spec := "ringOwn", unfollowed := true, recurses := true, apart := false, narrowed := true }
def RingOwnUptoSaid : Prop := ringOwnUptoRow.holds Try.pinned (OpenSpec.upto ringOwnSpec)

end Rows
end Go.Proofs.Ytjhjachkconneaa
