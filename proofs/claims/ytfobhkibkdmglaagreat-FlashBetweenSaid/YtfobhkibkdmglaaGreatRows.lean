/-
  No cell of these rows narrows 'for every input' (looked for: loops, veiled, ifaces, maps, wideKeys, modest, calm, conditions, laid).
  DERIVED. THE GIVEN ROWS OF THIS SEAT. 4 by the template 'for every input the law returns true; each argument reads behind the call as it read before'; 0 by the template 'total and deterministic' (their statements: YtfobhkibkdmglaaGreatTotals.lean).
  GIVEN WITH THE SEED: the statements are not yours to turn. If you find one false, say at which input.
  Laid BY PROGRAM, IN A SANDBOX (cutbox-rows.mjs): the forced cells as the released guide's own fill.sh prints them over the translation 4be095f007f870da… (all of the seat's roots in one cut). By AI agents, Wed Nov 11 2026. No macro, syntax, notation, axiom, sorry.
-/
import Derived.Test.YtfobhkibkdmglaaGreatChecked
import GoSem.Claim
import GoSem.ClaimJoined
import GoSem.ClaimMapViews
import Derived.JoinedTies
import Derived.KernelRfl
namespace Go.Proofs.YtfobhkibkdmglaaGreat
/- THE CELL 'sum', in the pinned program and in every row, IS THE sha256 OF THE DUMP (.gsa) THAT YtfobhkibkdmglaaGreatProg.lean LOADS. Nothing in Lean hashes anything: it is a label: what it is worth is what the hold of that sum in a sandbox is worth. -/
noncomputable def Tryz.pinned : Pinned := { name := "ytfobhkibkdmglaagreat", sum := "4be095f007f870da88625c5592de7eec7223307faa3f0a865d9e1ae9c51651fa", checked := Tryz.checked }
namespace Rows
def none {H : Type} : Left H := { results := [], args := [] }

/-- 'icehouselaw9.FlashAll': WHATEVER THE INPUT: true; the input reads as it did. -/
def flashAllSpec : ChangeSpec := { name := "flashAll", fn := fun _ => fun
  | [d1, d2] => { results := [.lit (.bool true)], args := [d1, d2] }
  | _ => none }
def flashAllRow : OpenClaim := { program := "ytfobhkibkdmglaagreat", sum := "4be095f007f870da88625c5592de7eec7223307faa3f0a865d9e1ae9c51651fa", func := "icehouse/icehouselaw9.FlashAll", spec := "flashAll", unfollowed := true, recurses := true, apart := false }
def FlashAllSaid : Prop := flashAllRow.holds Tryz.pinned (OpenSpec.ofChange flashAllSpec)

/-- ITS FALSE NEIGHBOUR: 'it returns false'. Refute it at one input. -/
def flashAllWrong : ChangeSpec := { name := "flashAll", fn := fun _ => fun
  | [d1, d2] => { results := [.lit (.bool false)], args := [d1, d2] }
  | _ => none }
def FlashAllWrongFalsely : Prop := flashAllRow.holds Tryz.pinned (OpenSpec.ofChange flashAllWrong)

/-- 'icehouselaw9.FlashWipe': WHATEVER THE INPUT: true; the input reads as it did. -/
def flashWipeSpec : ChangeSpec := { name := "flashWipe", fn := fun _ => fun
  | [d1, d2] => { results := [.lit (.bool true)], args := [d1, d2] }
  | _ => none }
def flashWipeRow : OpenClaim := { program := "ytfobhkibkdmglaagreat", sum := "4be095f007f870da88625c5592de7eec7223307faa3f0a865d9e1ae9c51651fa", func := "icehouse/icehouselaw9.FlashWipe", spec := "flashWipe", unfollowed := true, recurses := true, apart := false }
def FlashWipeSaid : Prop := flashWipeRow.holds Tryz.pinned (OpenSpec.ofChange flashWipeSpec)

/-- ITS FALSE NEIGHBOUR: 'it returns false'. Refute it at one input. -/
def flashWipeWrong : ChangeSpec := { name := "flashWipe", fn := fun _ => fun
  | [d1, d2] => { results := [.lit (.bool false)], args := [d1, d2] }
  | _ => none }
def FlashWipeWrongFalsely : Prop := flashWipeRow.holds Tryz.pinned (OpenSpec.ofChange flashWipeWrong)

/-- 'icehouselaw9.FlashBetween': WHATEVER THE INPUT: true; the input reads as it did. -/
def flashBetweenSpec : ChangeSpec := { name := "flashBetween", fn := fun _ => fun
  | [d1, d2, d3, d4] => { results := [.lit (.bool true)], args := [d1, d2, d3, d4] }
  | _ => none }
def flashBetweenRow : OpenClaim := { program := "ytfobhkibkdmglaagreat", sum := "4be095f007f870da88625c5592de7eec7223307faa3f0a865d9e1ae9c51651fa", func := "icehouse/icehouselaw9.FlashBetween", spec := "flashBetween", unfollowed := true, recurses := true, apart := false }
def FlashBetweenSaid : Prop := flashBetweenRow.holds Tryz.pinned (OpenSpec.ofChange flashBetweenSpec)

/-- ITS FALSE NEIGHBOUR: 'it returns false'. Refute it at one input. -/
def flashBetweenWrong : ChangeSpec := { name := "flashBetween", fn := fun _ => fun
  | [d1, d2, d3, d4] => { results := [.lit (.bool false)], args := [d1, d2, d3, d4] }
  | _ => none }
def FlashBetweenWrongFalsely : Prop := flashBetweenRow.holds Tryz.pinned (OpenSpec.ofChange flashBetweenWrong)

/-- 'icehouselaw9.FlashNone': WHATEVER THE INPUT: true; the input reads as it did. -/
def flashNoneSpec : ChangeSpec := { name := "flashNone", fn := fun _ => fun
  | [] => { results := [.lit (.bool true)], args := [] }
  | _ => none }
def flashNoneRow : OpenClaim := { program := "ytfobhkibkdmglaagreat", sum := "4be095f007f870da88625c5592de7eec7223307faa3f0a865d9e1ae9c51651fa", func := "icehouse/icehouselaw9.FlashNone", spec := "flashNone", unfollowed := true, recurses := true, apart := false }
def FlashNoneSaid : Prop := flashNoneRow.holds Tryz.pinned (OpenSpec.ofChange flashNoneSpec)

/-- ITS FALSE NEIGHBOUR: 'it returns false'. Refute it at one input. -/
def flashNoneWrong : ChangeSpec := { name := "flashNone", fn := fun _ => fun
  | [] => { results := [.lit (.bool false)], args := [] }
  | _ => none }
def FlashNoneWrongFalsely : Prop := flashNoneRow.holds Tryz.pinned (OpenSpec.ofChange flashNoneWrong)

/- THE SECOND FORM. 'bulk': how many values and letters a reading holds, each counted each time it is reached (what is shared counts as often as it is met; a slice's spare places count too). A statement '..UptoSaid' is the law's where the arguments, and the package variables that the reading takes, are together of bulk at most 1048576: NARROWER than '..Said'. Prove '..Said' where nothing that the law and all that it calls make is longer than what came in: it says more and counts as full. Else prove '..UptoSaid'. A law counts once. -/
mutual
def uptoBulk {H : Type} : DataW H → Nat
  | .lit (.string bytes) => bytes.length + 1
  | .lit _ => 1
  | .nil => 1
  | .ptr d => uptoBulk d + 1
  | .slice elems spare => uptoBulkAll elems + uptoBulkAll spare + 1
  | .agg parts => uptoBulkAll parts + 1
  | .iface _ d => uptoBulk d + 1
  | .map entries => uptoBulkEntries entries + 1
  | .held _ => 1
def uptoBulkAll {H : Type} : List (DataW H) → Nat
  | [] => 0
  | d :: r => uptoBulk d + uptoBulkAll r
def uptoBulkEntries {H : Type} : List (Lit × DataW H) → Nat
  | [] => 0
  | x :: r => uptoBulkEntry x + uptoBulkEntries r
def uptoBulkEntry {H : Type} : Lit × DataW H → Nat
  | (.string bytes, d) => bytes.length + uptoBulk d + 1
  | (_, d) => uptoBulk d + 1
 end
def uptoSmall : (H : Type) → List (DataW H) → Bool := fun _ ds => decide (uptoBulkAll ds ≤ 1048576)
def OpenSpec.upto (s : _root_.Go.ChangeSpec) : _root_.Go.OpenSpec := { _root_.Go.OpenSpec.ofChange s with cond := some uptoSmall }

/-- 'icehouselaw9.FlashAll', WHERE WHAT IT READS IS OF BULK AT MOST 1048576: true; the input reads as it did. -/
def flashAllUptoRow : OpenClaim := { program := "ytfobhkibkdmglaagreat", sum := "4be095f007f870da88625c5592de7eec7223307faa3f0a865d9e1ae9c51651fa", func := "icehouse/icehouselaw9.FlashAll", spec := "flashAll", unfollowed := true, recurses := true, apart := false, narrowed := true }
def FlashAllUptoSaid : Prop := flashAllUptoRow.holds Tryz.pinned (OpenSpec.upto flashAllSpec)

/-- 'icehouselaw9.FlashWipe', WHERE WHAT IT READS IS OF BULK AT MOST 1048576: true; the input reads as it did. -/
def flashWipeUptoRow : OpenClaim := { program := "ytfobhkibkdmglaagreat", sum := "4be095f007f870da88625c5592de7eec7223307faa3f0a865d9e1ae9c51651fa", func := "icehouse/icehouselaw9.FlashWipe", spec := "flashWipe", unfollowed := true, recurses := true, apart := false, narrowed := true }
def FlashWipeUptoSaid : Prop := flashWipeUptoRow.holds Tryz.pinned (OpenSpec.upto flashWipeSpec)

/-- 'icehouselaw9.FlashBetween', WHERE WHAT IT READS IS OF BULK AT MOST 1048576: true; the input reads as it did. -/
def flashBetweenUptoRow : OpenClaim := { program := "ytfobhkibkdmglaagreat", sum := "4be095f007f870da88625c5592de7eec7223307faa3f0a865d9e1ae9c51651fa", func := "icehouse/icehouselaw9.FlashBetween", spec := "flashBetween", unfollowed := true, recurses := true, apart := false, narrowed := true }
def FlashBetweenUptoSaid : Prop := flashBetweenUptoRow.holds Tryz.pinned (OpenSpec.upto flashBetweenSpec)

/-- 'icehouselaw9.FlashNone', WHERE WHAT IT READS IS OF BULK AT MOST 1048576: true; the input reads as it did. -/
def flashNoneUptoRow : OpenClaim := { program := "ytfobhkibkdmglaagreat", sum := "4be095f007f870da88625c5592de7eec7223307faa3f0a865d9e1ae9c51651fa", func := "icehouse/icehouselaw9.FlashNone", spec := "flashNone", unfollowed := true, recurses := true, apart := false, narrowed := true }
def FlashNoneUptoSaid : Prop := flashNoneUptoRow.holds Tryz.pinned (OpenSpec.upto flashNoneSpec)

end Rows
end Go.Proofs.YtfobhkibkdmglaaGreat
