/-
  No cell of these rows narrows 'for every input' (looked for: loops, veiled, ifaces, maps, wideKeys, modest, calm, conditions, laid).
  DERIVED. THE GIVEN ROWS OF THIS SEAT. 3 by the template 'for every input the law returns true; each argument reads behind the call as it read before'; 0 by the template 'total and deterministic' (their statements: YtpaonfpfalfigaaTotals.lean).
  GIVEN WITH THE SEED: the statements are not yours to turn. If you find one false, say at which input.
  Laid BY PROGRAM, IN A SANDBOX (cutbox-rows.mjs): the forced cells as the released guide's own fill.sh prints them over the translation 4b782d743e52d400… (all of the seat's roots in one cut). By AI agents, Wed Nov 11 2026. No macro, syntax, notation, axiom, sorry.
-/
import Derived.Test.YtpaonfpfalfigaaChecked
import GoSem.Claim
import GoSem.ClaimJoined
import GoSem.ClaimMapViews
import Derived.JoinedTies
import Derived.KernelRfl
namespace Go.Proofs.Ytpaonfpfalfigaa
/- THE CELL 'sum', in the pinned program and in every row, IS THE sha256 OF THE DUMP (.gsa) THAT YtpaonfpfalfigaaProg.lean LOADS. Nothing in Lean hashes anything: it is a label: what it is worth is what the hold of that sum in a sandbox is worth. -/
noncomputable def Try.pinned : Pinned := { name := "ytpaonfpfalfigaa", sum := "4b782d743e52d4004825e014367f5e1e4e6839d4889c89d8dffd2cc55ce5e5be", checked := Try.checked }
namespace Rows
def none {H : Type} : Left H := { results := [], args := [] }

/-- 'icehouselaw13.PointsAll': WHATEVER THE INPUT: true; the input reads as it did. -/
def pointsAllSpec : ChangeSpec := { name := "pointsAll", fn := fun _ => fun
  | [d] => { results := [.lit (.bool true)], args := [d] }
  | _ => none }
def pointsAllRow : OpenClaim := { program := "ytpaonfpfalfigaa", sum := "4b782d743e52d4004825e014367f5e1e4e6839d4889c89d8dffd2cc55ce5e5be", func := "icehouse/icehouselaw13.PointsAll", spec := "pointsAll", unfollowed := true, recurses := true, apart := false }
def PointsAllSaid : Prop := pointsAllRow.holds Try.pinned (OpenSpec.ofChange pointsAllSpec)

/-- ITS FALSE NEIGHBOUR: 'it returns false'. Refute it at one input. -/
def pointsAllWrong : ChangeSpec := { name := "pointsAll", fn := fun _ => fun
  | [d] => { results := [.lit (.bool false)], args := [d] }
  | _ => none }
def PointsAllWrongFalsely : Prop := pointsAllRow.holds Try.pinned (OpenSpec.ofChange pointsAllWrong)

/-- 'icehouselaw13.PointsLess': WHATEVER THE INPUT: true; the input reads as it did. -/
def pointsLessSpec : ChangeSpec := { name := "pointsLess", fn := fun _ => fun
  | [d1, d2] => { results := [.lit (.bool true)], args := [d1, d2] }
  | _ => none }
def pointsLessRow : OpenClaim := { program := "ytpaonfpfalfigaa", sum := "4b782d743e52d4004825e014367f5e1e4e6839d4889c89d8dffd2cc55ce5e5be", func := "icehouse/icehouselaw13.PointsLess", spec := "pointsLess", unfollowed := true, recurses := true, apart := false }
def PointsLessSaid : Prop := pointsLessRow.holds Try.pinned (OpenSpec.ofChange pointsLessSpec)

/-- ITS FALSE NEIGHBOUR: 'it returns false'. Refute it at one input. -/
def pointsLessWrong : ChangeSpec := { name := "pointsLess", fn := fun _ => fun
  | [d1, d2] => { results := [.lit (.bool false)], args := [d1, d2] }
  | _ => none }
def PointsLessWrongFalsely : Prop := pointsLessRow.holds Try.pinned (OpenSpec.ofChange pointsLessWrong)

/-- 'icehouselaw13.PointsPart': WHATEVER THE INPUT: true; the input reads as it did. -/
def pointsPartSpec : ChangeSpec := { name := "pointsPart", fn := fun _ => fun
  | [d1, d2] => { results := [.lit (.bool true)], args := [d1, d2] }
  | _ => none }
def pointsPartRow : OpenClaim := { program := "ytpaonfpfalfigaa", sum := "4b782d743e52d4004825e014367f5e1e4e6839d4889c89d8dffd2cc55ce5e5be", func := "icehouse/icehouselaw13.PointsPart", spec := "pointsPart", unfollowed := true, recurses := true, apart := false }
def PointsPartSaid : Prop := pointsPartRow.holds Try.pinned (OpenSpec.ofChange pointsPartSpec)

/-- ITS FALSE NEIGHBOUR: 'it returns false'. Refute it at one input. -/
def pointsPartWrong : ChangeSpec := { name := "pointsPart", fn := fun _ => fun
  | [d1, d2] => { results := [.lit (.bool false)], args := [d1, d2] }
  | _ => none }
def PointsPartWrongFalsely : Prop := pointsPartRow.holds Try.pinned (OpenSpec.ofChange pointsPartWrong)

/- THE SECOND FORM. 'bulk': how many values and letters a reading holds, each counted each time it is reached (what is shared counts as often as it is met; a slice's spare places count too). A statement '..UptoSaid' is the law's where the arguments, and the package variables that the reading takes, are together of bulk at most 1048576: NARROWER than '..Said'. Prove '..Said' where nothing that the law and all that it calls make is longer than what came in: it says more and counts as full. Else prove '..UptoSaid'. A law counts once. -/
mutual
def uptoBulk {H : Type} : DataW H → Nat
  | .lit (.string bytes) => bytes.length + 1
  | .lit _ => 1
  | .nil => 1
  | .ptr d => uptoBulk d + 1
  | .slice elems spare => uptoBulkAll elems + uptoBulkAll spare + 1
  | .agg parts => uptoBulkAll parts + 1
  | .iface _ d => uptoBulk d + 1
  | .map entries => uptoBulkEntries entries + 1
  | .held _ => 1
def uptoBulkAll {H : Type} : List (DataW H) → Nat
  | [] => 0
  | d :: r => uptoBulk d + uptoBulkAll r
def uptoBulkEntries {H : Type} : List (Lit × DataW H) → Nat
  | [] => 0
  | x :: r => uptoBulkEntry x + uptoBulkEntries r
def uptoBulkEntry {H : Type} : Lit × DataW H → Nat
  | (.string bytes, d) => bytes.length + uptoBulk d + 1
  | (_, d) => uptoBulk d + 1
 end
def uptoSmall : (H : Type) → List (DataW H) → Bool := fun _ ds => decide (uptoBulkAll ds ≤ 1048576)
def OpenSpec.upto (s : _root_.Go.ChangeSpec) : _root_.Go.OpenSpec := { _root_.Go.OpenSpec.ofChange s with cond := some uptoSmall }

/-- 'icehouselaw13.PointsAll', WHERE WHAT IT READS IS OF BULK AT MOST 1048576: true; the input reads as it did. -/
def pointsAllUptoRow : OpenClaim := { program := "ytpaonfpfalfigaa", sum := "4b782d743e52d4004825e014367f5e1e4e6839d4889c89d8dffd2cc55ce5e5be", func := "icehouse/icehouselaw13.PointsAll", spec := "pointsAll", unfollowed := true, recurses := true, apart := false, narrowed := true }
def PointsAllUptoSaid : Prop := pointsAllUptoRow.holds Try.pinned (OpenSpec.upto pointsAllSpec)

/-- 'icehouselaw13.PointsLess', WHERE WHAT IT READS IS OF BULK AT MOST 1048576: true; the input reads as it did. -/
def pointsLessUptoRow : OpenClaim := { program := "ytpaonfpfalfigaa", sum := "4b782d743e52d4004825e014367f5e1e4e6839d4889c89d8dffd2cc55ce5e5be", func := "icehouse/icehouselaw13.PointsLess", spec := "pointsLess", unfollowed := true, recurses := true, apart := false, narrowed := true }
def PointsLessUptoSaid : Prop := pointsLessUptoRow.holds Try.pinned (OpenSpec.upto pointsLessSpec)

/-- 'icehouselaw13.PointsPart', WHERE WHAT IT READS IS OF BULK AT MOST 1048576: true; the input reads as it did. -/
def pointsPartUptoRow : OpenClaim := { program := "ytpaonfpfalfigaa", sum := "4b782d743e52d4004825e014367f5e1e4e6839d4889c89d8dffd2cc55ce5e5be", func := "icehouse/icehouselaw13.PointsPart", spec := "pointsPart", unfollowed := true, recurses := true, apart := false, narrowed := true }
def PointsPartUptoSaid : Prop := pointsPartUptoRow.holds Try.pinned (OpenSpec.upto pointsPartSpec)

end Rows
end Go.Proofs.Ytpaonfpfalfigaa
