/-
  No cell of these rows narrows 'for every input' (looked for: loops, veiled, ifaces, maps, wideKeys, modest, calm, conditions, laid).
  DERIVED. THE GIVEN ROWS OF THIS SEAT. 3 by the template 'for every input the law returns true; each argument reads behind the call as it read before'; 0 by the template 'total and deterministic' (their statements: YtfobhkibkdmglaaTotals.lean).
  GIVEN WITH THE SEED: the statements are not yours to turn. If you find one false, say at which input.
  Laid BY PROGRAM, IN A SANDBOX (cutbox-rows.mjs): the forced cells as the released guide's own fill.sh prints them over the translation 2f0e11ec3a96aa98… (all of the seat's roots in one cut). By AI agents, Wed Nov 11 2026. No macro, syntax, notation, axiom, sorry.
-/
import Derived.Test.YtfobhkibkdmglaaChecked
import GoSem.Claim
import GoSem.ClaimJoined
import GoSem.ClaimMapViews
import Derived.JoinedTies
import Derived.KernelRfl
namespace Go.Proofs.Ytfobhkibkdmglaa
/- THE CELL 'sum', in the pinned program and in every row, IS THE sha256 OF THE DUMP (.gsa) THAT YtfobhkibkdmglaaProg.lean LOADS. Nothing in Lean hashes anything: it is a label: what it is worth is what the hold of that sum in a sandbox is worth. -/
noncomputable def Try.pinned : Pinned := { name := "ytfobhkibkdmglaa", sum := "2f0e11ec3a96aa98f0df4a898d369bed8e047e8fd89b130892945c49e8599d20", checked := Try.checked }
namespace Rows
def none {H : Type} : Left H := { results := [], args := [] }

/-- 'icehouselaw9.FlashMany': WHATEVER THE INPUT: true; the input reads as it did. -/
def flashManySpec : ChangeSpec := { name := "flashMany", fn := fun _ => fun
  | [d1, d2] => { results := [.lit (.bool true)], args := [d1, d2] }
  | _ => none }
def flashManyRow : OpenClaim := { program := "ytfobhkibkdmglaa", sum := "2f0e11ec3a96aa98f0df4a898d369bed8e047e8fd89b130892945c49e8599d20", func := "icehouse/icehouselaw9.FlashMany", spec := "flashMany", unfollowed := true, recurses := true, apart := false }
def FlashManySaid : Prop := flashManyRow.holds Try.pinned (OpenSpec.ofChange flashManySpec)

/-- ITS FALSE NEIGHBOUR: 'it returns false'. Refute it at one input. -/
def flashManyWrong : ChangeSpec := { name := "flashMany", fn := fun _ => fun
  | [d1, d2] => { results := [.lit (.bool false)], args := [d1, d2] }
  | _ => none }
def FlashManyWrongFalsely : Prop := flashManyRow.holds Try.pinned (OpenSpec.ofChange flashManyWrong)

/-- 'icehouselaw9.FlashEnd': WHATEVER THE INPUT: true; the input reads as it did. -/
def flashEndSpec : ChangeSpec := { name := "flashEnd", fn := fun _ => fun
  | [d1, d2] => { results := [.lit (.bool true)], args := [d1, d2] }
  | _ => none }
def flashEndRow : OpenClaim := { program := "ytfobhkibkdmglaa", sum := "2f0e11ec3a96aa98f0df4a898d369bed8e047e8fd89b130892945c49e8599d20", func := "icehouse/icehouselaw9.FlashEnd", spec := "flashEnd", unfollowed := true, recurses := true, apart := false }
def FlashEndSaid : Prop := flashEndRow.holds Try.pinned (OpenSpec.ofChange flashEndSpec)

/-- ITS FALSE NEIGHBOUR: 'it returns false'. Refute it at one input. -/
def flashEndWrong : ChangeSpec := { name := "flashEnd", fn := fun _ => fun
  | [d1, d2] => { results := [.lit (.bool false)], args := [d1, d2] }
  | _ => none }
def FlashEndWrongFalsely : Prop := flashEndRow.holds Try.pinned (OpenSpec.ofChange flashEndWrong)

/-- 'icehouselaw9.FlashDrop': WHATEVER THE INPUT: true; the input reads as it did. -/
def flashDropSpec : ChangeSpec := { name := "flashDrop", fn := fun _ => fun
  | [d1, d2, d3] => { results := [.lit (.bool true)], args := [d1, d2, d3] }
  | _ => none }
def flashDropRow : OpenClaim := { program := "ytfobhkibkdmglaa", sum := "2f0e11ec3a96aa98f0df4a898d369bed8e047e8fd89b130892945c49e8599d20", func := "icehouse/icehouselaw9.FlashDrop", spec := "flashDrop", unfollowed := true, recurses := true, apart := false }
def FlashDropSaid : Prop := flashDropRow.holds Try.pinned (OpenSpec.ofChange flashDropSpec)

/-- ITS FALSE NEIGHBOUR: 'it returns false'. Refute it at one input. -/
def flashDropWrong : ChangeSpec := { name := "flashDrop", fn := fun _ => fun
  | [d1, d2, d3] => { results := [.lit (.bool false)], args := [d1, d2, d3] }
  | _ => none }
def FlashDropWrongFalsely : Prop := flashDropRow.holds Try.pinned (OpenSpec.ofChange flashDropWrong)

/- THE SECOND FORM. 'bulk': how many values and letters a reading holds, each counted each time it is reached (what is shared counts as often as it is met; a slice's spare places count too). A statement '..UptoSaid' is the law's where the arguments, and the package variables that the reading takes, are together of bulk at most 1048576: NARROWER than '..Said'. Prove '..Said' where nothing that the law and all that it calls make is longer than what came in: it says more and counts as full. Else prove '..UptoSaid'. A law counts once. -/
mutual
def uptoBulk {H : Type} : DataW H → Nat
  | .lit (.string bytes) => bytes.length + 1
  | .lit _ => 1
  | .nil => 1
  | .ptr d => uptoBulk d + 1
  | .slice elems spare => uptoBulkAll elems + uptoBulkAll spare + 1
  | .agg parts => uptoBulkAll parts + 1
  | .iface _ d => uptoBulk d + 1
  | .map entries => uptoBulkEntries entries + 1
  | .held _ => 1
def uptoBulkAll {H : Type} : List (DataW H) → Nat
  | [] => 0
  | d :: r => uptoBulk d + uptoBulkAll r
def uptoBulkEntries {H : Type} : List (Lit × DataW H) → Nat
  | [] => 0
  | x :: r => uptoBulkEntry x + uptoBulkEntries r
def uptoBulkEntry {H : Type} : Lit × DataW H → Nat
  | (.string bytes, d) => bytes.length + uptoBulk d + 1
  | (_, d) => uptoBulk d + 1
 end
def uptoSmall : (H : Type) → List (DataW H) → Bool := fun _ ds => decide (uptoBulkAll ds ≤ 1048576)
def OpenSpec.upto (s : _root_.Go.ChangeSpec) : _root_.Go.OpenSpec := { _root_.Go.OpenSpec.ofChange s with cond := some uptoSmall }

/-- 'icehouselaw9.FlashMany', WHERE WHAT IT READS IS OF BULK AT MOST 1048576: true; the input reads as it did. -/
def flashManyUptoRow : OpenClaim := { program := "ytfobhkibkdmglaa", sum := "2f0e11ec3a96aa98f0df4a898d369bed8e047e8fd89b130892945c49e8599d20", func := "icehouse/icehouselaw9.FlashMany", spec := "flashMany", unfollowed := true, recurses := true, apart := false, narrowed := true }
def FlashManyUptoSaid : Prop := flashManyUptoRow.holds Try.pinned (OpenSpec.upto flashManySpec)

/-- 'icehouselaw9.FlashEnd', WHERE WHAT IT READS IS OF BULK AT MOST 1048576: true; the input reads as it did. -/
def flashEndUptoRow : OpenClaim := { program := "ytfobhkibkdmglaa", sum := "2f0e11ec3a96aa98f0df4a898d369bed8e047e8fd89b130892945c49e8599d20", func := "icehouse/icehouselaw9.FlashEnd", spec := "flashEnd", unfollowed := true, recurses := true, apart := false, narrowed := true }
def FlashEndUptoSaid : Prop := flashEndUptoRow.holds Try.pinned (OpenSpec.upto flashEndSpec)

/-- 'icehouselaw9.FlashDrop', WHERE WHAT IT READS IS OF BULK AT MOST 1048576: true; the input reads as it did. -/
def flashDropUptoRow : OpenClaim := { program := "ytfobhkibkdmglaa", sum := "2f0e11ec3a96aa98f0df4a898d369bed8e047e8fd89b130892945c49e8599d20", func := "icehouse/icehouselaw9.FlashDrop", spec := "flashDrop", unfollowed := true, recurses := true, apart := false, narrowed := true }
def FlashDropUptoSaid : Prop := flashDropUptoRow.holds Try.pinned (OpenSpec.upto flashDropSpec)

end Rows
end Go.Proofs.Ytfobhkibkdmglaa
