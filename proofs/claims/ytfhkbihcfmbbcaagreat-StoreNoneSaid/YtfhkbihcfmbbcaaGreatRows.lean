/-
  No cell of these rows narrows 'for every input' (looked for: loops, veiled, ifaces, maps, wideKeys, modest, calm, conditions, laid).
  DERIVED. THE GIVEN ROWS OF THIS SEAT. 6 by the template 'for every input the law returns true; each argument reads behind the call as it read before'; 0 by the template 'total and deterministic' (their statements: YtfhkbihcfmbbcaaGreatTotals.lean).
  GIVEN WITH THE SEED: the statements are not yours to turn. If you find one false, say at which input.
  Laid BY PROGRAM, IN A SANDBOX (cutbox-rows.mjs): the forced cells as the released guide's own fill.sh prints them over the translation 3dc6237a3410c1ba… (all of the seat's roots in one cut). By AI agents, Wed Nov 11 2026. No macro, syntax, notation, axiom, sorry.
-/
import Derived.Test.YtfhkbihcfmbbcaaGreatChecked
import GoSem.Claim
import GoSem.ClaimJoined
import GoSem.ClaimMapViews
import Derived.JoinedTies
import Derived.KernelRfl
namespace Go.Proofs.YtfhkbihcfmbbcaaGreat
/- THE CELL 'sum', in the pinned program and in every row, IS THE sha256 OF THE DUMP (.gsa) THAT YtfhkbihcfmbbcaaGreatProg.lean LOADS. Nothing in Lean hashes anything: it is a label: what it is worth is what the hold of that sum in a sandbox is worth. -/
noncomputable def Tryz.pinned : Pinned := { name := "ytfhkbihcfmbbcaagreat", sum := "3dc6237a3410c1baec141319eaa7ff2cfb6b2da4c0e3ca1c542113e3afc54ddc", checked := Tryz.checked }
namespace Rows
def none {H : Type} : Left H := { results := [], args := [] }

/-- 'icehouselaw21.StoreNone': WHATEVER THE INPUT: true; the input reads as it did. -/
def storeNoneSpec : ChangeSpec := { name := "storeNone", fn := fun _ => fun
  | [] => { results := [.lit (.bool true)], args := [] }
  | _ => none }
def storeNoneRow : OpenClaim := { program := "ytfhkbihcfmbbcaagreat", sum := "3dc6237a3410c1baec141319eaa7ff2cfb6b2da4c0e3ca1c542113e3afc54ddc", func := "icehouse/icehouselaw21.StoreNone", spec := "storeNone", unfollowed := true, recurses := true, apart := false }
def StoreNoneSaid : Prop := storeNoneRow.holds Tryz.pinned (OpenSpec.ofChange storeNoneSpec)

/-- ITS FALSE NEIGHBOUR: 'it returns false'. Refute it at one input. -/
def storeNoneWrong : ChangeSpec := { name := "storeNone", fn := fun _ => fun
  | [] => { results := [.lit (.bool false)], args := [] }
  | _ => none }
def StoreNoneWrongFalsely : Prop := storeNoneRow.holds Tryz.pinned (OpenSpec.ofChange storeNoneWrong)

/-- 'icehouselaw21.StoreStarts': WHATEVER THE INPUT: true; the input reads as it did. -/
def storeStartsSpec : ChangeSpec := { name := "storeStarts", fn := fun _ => fun
  | [d1, d2] => { results := [.lit (.bool true)], args := [d1, d2] }
  | _ => none }
def storeStartsRow : OpenClaim := { program := "ytfhkbihcfmbbcaagreat", sum := "3dc6237a3410c1baec141319eaa7ff2cfb6b2da4c0e3ca1c542113e3afc54ddc", func := "icehouse/icehouselaw21.StoreStarts", spec := "storeStarts", unfollowed := true, recurses := true, apart := false }
def StoreStartsSaid : Prop := storeStartsRow.holds Tryz.pinned (OpenSpec.ofChange storeStartsSpec)

/-- ITS FALSE NEIGHBOUR: 'it returns false'. Refute it at one input. -/
def storeStartsWrong : ChangeSpec := { name := "storeStarts", fn := fun _ => fun
  | [d1, d2] => { results := [.lit (.bool false)], args := [d1, d2] }
  | _ => none }
def StoreStartsWrongFalsely : Prop := storeStartsRow.holds Tryz.pinned (OpenSpec.ofChange storeStartsWrong)

/-- 'icehouselaw21.StoreAll': WHATEVER THE INPUT: true; the input reads as it did. -/
def storeAllSpec : ChangeSpec := { name := "storeAll", fn := fun _ => fun
  | [d] => { results := [.lit (.bool true)], args := [d] }
  | _ => none }
def storeAllRow : OpenClaim := { program := "ytfhkbihcfmbbcaagreat", sum := "3dc6237a3410c1baec141319eaa7ff2cfb6b2da4c0e3ca1c542113e3afc54ddc", func := "icehouse/icehouselaw21.StoreAll", spec := "storeAll", unfollowed := true, recurses := true, apart := false }
def StoreAllSaid : Prop := storeAllRow.holds Tryz.pinned (OpenSpec.ofChange storeAllSpec)

/-- ITS FALSE NEIGHBOUR: 'it returns false'. Refute it at one input. -/
def storeAllWrong : ChangeSpec := { name := "storeAll", fn := fun _ => fun
  | [d] => { results := [.lit (.bool false)], args := [d] }
  | _ => none }
def StoreAllWrongFalsely : Prop := storeAllRow.holds Tryz.pinned (OpenSpec.ofChange storeAllWrong)

/-- 'icehouselaw21.StoreKills': WHATEVER THE INPUT: true; the input reads as it did. -/
def storeKillsSpec : ChangeSpec := { name := "storeKills", fn := fun _ => fun
  | [d1, d2] => { results := [.lit (.bool true)], args := [d1, d2] }
  | _ => none }
def storeKillsRow : OpenClaim := { program := "ytfhkbihcfmbbcaagreat", sum := "3dc6237a3410c1baec141319eaa7ff2cfb6b2da4c0e3ca1c542113e3afc54ddc", func := "icehouse/icehouselaw21.StoreKills", spec := "storeKills", unfollowed := true, recurses := true, apart := false }
def StoreKillsSaid : Prop := storeKillsRow.holds Tryz.pinned (OpenSpec.ofChange storeKillsSpec)

/-- ITS FALSE NEIGHBOUR: 'it returns false'. Refute it at one input. -/
def storeKillsWrong : ChangeSpec := { name := "storeKills", fn := fun _ => fun
  | [d1, d2] => { results := [.lit (.bool false)], args := [d1, d2] }
  | _ => none }
def StoreKillsWrongFalsely : Prop := storeKillsRow.holds Tryz.pinned (OpenSpec.ofChange storeKillsWrong)

/-- 'icehouselaw21.StoreParts': WHATEVER THE INPUT: true; the input reads as it did. -/
def storePartsSpec : ChangeSpec := { name := "storeParts", fn := fun _ => fun
  | [d1, d2] => { results := [.lit (.bool true)], args := [d1, d2] }
  | _ => none }
def storePartsRow : OpenClaim := { program := "ytfhkbihcfmbbcaagreat", sum := "3dc6237a3410c1baec141319eaa7ff2cfb6b2da4c0e3ca1c542113e3afc54ddc", func := "icehouse/icehouselaw21.StoreParts", spec := "storeParts", unfollowed := true, recurses := true, apart := false }
def StorePartsSaid : Prop := storePartsRow.holds Tryz.pinned (OpenSpec.ofChange storePartsSpec)

/-- ITS FALSE NEIGHBOUR: 'it returns false'. Refute it at one input. -/
def storePartsWrong : ChangeSpec := { name := "storeParts", fn := fun _ => fun
  | [d1, d2] => { results := [.lit (.bool false)], args := [d1, d2] }
  | _ => none }
def StorePartsWrongFalsely : Prop := storePartsRow.holds Tryz.pinned (OpenSpec.ofChange storePartsWrong)

/-- 'icehouselaw21.StoreAgain': WHATEVER THE INPUT: true; the input reads as it did. -/
def storeAgainSpec : ChangeSpec := { name := "storeAgain", fn := fun _ => fun
  | [d] => { results := [.lit (.bool true)], args := [d] }
  | _ => none }
def storeAgainRow : OpenClaim := { program := "ytfhkbihcfmbbcaagreat", sum := "3dc6237a3410c1baec141319eaa7ff2cfb6b2da4c0e3ca1c542113e3afc54ddc", func := "icehouse/icehouselaw21.StoreAgain", spec := "storeAgain", unfollowed := true, recurses := true, apart := false }
def StoreAgainSaid : Prop := storeAgainRow.holds Tryz.pinned (OpenSpec.ofChange storeAgainSpec)

/-- ITS FALSE NEIGHBOUR: 'it returns false'. Refute it at one input. -/
def storeAgainWrong : ChangeSpec := { name := "storeAgain", fn := fun _ => fun
  | [d] => { results := [.lit (.bool false)], args := [d] }
  | _ => none }
def StoreAgainWrongFalsely : Prop := storeAgainRow.holds Tryz.pinned (OpenSpec.ofChange storeAgainWrong)

/- THE SECOND FORM. 'bulk': how many values and letters a reading holds, each counted each time it is reached (what is shared counts as often as it is met; a slice's spare places count too). A statement '..UptoSaid' is the law's where the arguments, and the package variables that the reading takes, are together of bulk at most 1048576: NARROWER than '..Said'. Prove '..Said' where nothing that the law and all that it calls make is longer than what came in: it says more and counts as full. Else prove '..UptoSaid'. A law counts once. -/
mutual
def uptoBulk {H : Type} : DataW H → Nat
  | .lit (.string bytes) => bytes.length + 1
  | .lit _ => 1
  | .nil => 1
  | .ptr d => uptoBulk d + 1
  | .slice elems spare => uptoBulkAll elems + uptoBulkAll spare + 1
  | .agg parts => uptoBulkAll parts + 1
  | .iface _ d => uptoBulk d + 1
  | .map entries => uptoBulkEntries entries + 1
  | .held _ => 1
def uptoBulkAll {H : Type} : List (DataW H) → Nat
  | [] => 0
  | d :: r => uptoBulk d + uptoBulkAll r
def uptoBulkEntries {H : Type} : List (Lit × DataW H) → Nat
  | [] => 0
  | x :: r => uptoBulkEntry x + uptoBulkEntries r
def uptoBulkEntry {H : Type} : Lit × DataW H → Nat
  | (.string bytes, d) => bytes.length + uptoBulk d + 1
  | (_, d) => uptoBulk d + 1
 end
def uptoSmall : (H : Type) → List (DataW H) → Bool := fun _ ds => decide (uptoBulkAll ds ≤ 1048576)
def OpenSpec.upto (s : _root_.Go.ChangeSpec) : _root_.Go.OpenSpec := { _root_.Go.OpenSpec.ofChange s with cond := some uptoSmall }

/-- 'icehouselaw21.StoreNone', WHERE WHAT IT READS IS OF BULK AT MOST 1048576: true; the input reads as it did. -/
def storeNoneUptoRow : OpenClaim := { program := "ytfhkbihcfmbbcaagreat", sum := "3dc6237a3410c1baec141319eaa7ff2cfb6b2da4c0e3ca1c542113e3afc54ddc", func := "icehouse/icehouselaw21.StoreNone", spec := "storeNone", unfollowed := true, recurses := true, apart := false, narrowed := true }
def StoreNoneUptoSaid : Prop := storeNoneUptoRow.holds Tryz.pinned (OpenSpec.upto storeNoneSpec)

/-- 'icehouselaw21.StoreStarts', WHERE WHAT IT READS IS OF BULK AT MOST 1048576: true; the input reads as it did. -/
def storeStartsUptoRow : OpenClaim := { program := "ytfhkbihcfmbbcaagreat", sum := "3dc6237a3410c1baec141319eaa7ff2cfb6b2da4c0e3ca1c542113e3afc54ddc", func := "icehouse/icehouselaw21.StoreStarts", spec := "storeStarts", unfollowed := true, recurses := true, apart := false, narrowed := true }
def StoreStartsUptoSaid : Prop := storeStartsUptoRow.holds Tryz.pinned (OpenSpec.upto storeStartsSpec)

/-- 'icehouselaw21.StoreAll', WHERE WHAT IT READS IS OF BULK AT MOST 1048576: true; the input reads as it did. -/
def storeAllUptoRow : OpenClaim := { program := "ytfhkbihcfmbbcaagreat", sum := "3dc6237a3410c1baec141319eaa7ff2cfb6b2da4c0e3ca1c542113e3afc54ddc", func := "icehouse/icehouselaw21.StoreAll", spec := "storeAll", unfollowed := true, recurses := true, apart := false, narrowed := true }
def StoreAllUptoSaid : Prop := storeAllUptoRow.holds Tryz.pinned (OpenSpec.upto storeAllSpec)

/-- 'icehouselaw21.StoreKills', WHERE WHAT IT READS IS OF BULK AT MOST 1048576: true; the input reads as it did. -/
def storeKillsUptoRow : OpenClaim := { program := "ytfhkbihcfmbbcaagreat", sum := "3dc6237a3410c1baec141319eaa7ff2cfb6b2da4c0e3ca1c542113e3afc54ddc", func := "icehouse/icehouselaw21.StoreKills", spec := "storeKills", unfollowed := true, recurses := true, apart := false, narrowed := true }
def StoreKillsUptoSaid : Prop := storeKillsUptoRow.holds Tryz.pinned (OpenSpec.upto storeKillsSpec)

/-- 'icehouselaw21.StoreParts', WHERE WHAT IT READS IS OF BULK AT MOST 1048576: true; the input reads as it did. -/
def storePartsUptoRow : OpenClaim := { program := "ytfhkbihcfmbbcaagreat", sum := "3dc6237a3410c1baec141319eaa7ff2cfb6b2da4c0e3ca1c542113e3afc54ddc", func := "icehouse/icehouselaw21.StoreParts", spec := "storeParts", unfollowed := true, recurses := true, apart := false, narrowed := true }
def StorePartsUptoSaid : Prop := storePartsUptoRow.holds Tryz.pinned (OpenSpec.upto storePartsSpec)

/-- 'icehouselaw21.StoreAgain', WHERE WHAT IT READS IS OF BULK AT MOST 1048576: true; the input reads as it did. -/
def storeAgainUptoRow : OpenClaim := { program := "ytfhkbihcfmbbcaagreat", sum := "3dc6237a3410c1baec141319eaa7ff2cfb6b2da4c0e3ca1c542113e3afc54ddc", func := "icehouse/icehouselaw21.StoreAgain", spec := "storeAgain", unfollowed := true, recurses := true, apart := false, narrowed := true }
def StoreAgainUptoSaid : Prop := storeAgainUptoRow.holds Tryz.pinned (OpenSpec.upto storeAgainSpec)

end Rows
end Go.Proofs.YtfhkbihcfmbbcaaGreat
