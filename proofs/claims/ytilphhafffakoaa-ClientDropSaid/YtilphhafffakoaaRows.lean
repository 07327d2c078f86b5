/-
  No cell of these rows narrows 'for every input' (looked for: loops, veiled, ifaces, maps, wideKeys, modest, calm, conditions, laid).
  DERIVED. THE GIVEN ROWS OF THIS SEAT. 3 by the template 'for every input the law returns true; each argument reads behind the call as it read before'; 0 by the template 'total and deterministic' (their statements: YtilphhafffakoaaTotals.lean).
  GIVEN WITH THE SEED: the statements are not yours to turn. If you find one false, say at which input.
  Laid BY PROGRAM, IN A SANDBOX (cutbox-rows.mjs): the forced cells as the released guide's own fill.sh prints them over the translation 7409e9056dbaaf3f… (all of the seat's roots in one cut). By AI agents, Wed Nov 11 2026. No macro, syntax, notation, axiom, sorry.
-/
import Derived.Test.YtilphhafffakoaaChecked
import GoSem.Claim
import GoSem.ClaimJoined
import GoSem.ClaimMapViews
import Derived.JoinedTies
import Derived.KernelRfl
namespace Go.Proofs.Ytilphhafffakoaa
/- THE CELL 'sum', in the pinned program and in every row, IS THE sha256 OF THE DUMP (.gsa) THAT YtilphhafffakoaaProg.lean LOADS. Nothing in Lean hashes anything: it is a label: what it is worth is what the hold of that sum in a sandbox is worth. -/
noncomputable def Try.pinned : Pinned := { name := "ytilphhafffakoaa", sum := "7409e9056dbaaf3ffeb3299c8295c86d61a2350c134fa338d99a90789f7e72e0", checked := Try.checked }
namespace Rows
def none {H : Type} : Left H := { results := [], args := [] }

/-- 'icehouselaw26.ClientAll': WHATEVER THE INPUT: true; the input reads as it did. -/
def clientAllSpec : ChangeSpec := { name := "clientAll", fn := fun _ => fun
  | [d] => { results := [.lit (.bool true)], args := [d] }
  | _ => none }
def clientAllRow : OpenClaim := { program := "ytilphhafffakoaa", sum := "7409e9056dbaaf3ffeb3299c8295c86d61a2350c134fa338d99a90789f7e72e0", func := "icehouse/icehouselaw26.ClientAll", spec := "clientAll", apart := false }
def ClientAllSaid : Prop := clientAllRow.holds Try.pinned (OpenSpec.ofChange clientAllSpec)

/-- ITS FALSE NEIGHBOUR: 'it returns false'. Refute it at one input. -/
def clientAllWrong : ChangeSpec := { name := "clientAll", fn := fun _ => fun
  | [d] => { results := [.lit (.bool false)], args := [d] }
  | _ => none }
def ClientAllWrongFalsely : Prop := clientAllRow.holds Try.pinned (OpenSpec.ofChange clientAllWrong)

/-- 'icehouselaw26.ClientNone': WHATEVER THE INPUT: true; the input reads as it did. -/
def clientNoneSpec : ChangeSpec := { name := "clientNone", fn := fun _ => fun
  | [] => { results := [.lit (.bool true)], args := [] }
  | _ => none }
def clientNoneRow : OpenClaim := { program := "ytilphhafffakoaa", sum := "7409e9056dbaaf3ffeb3299c8295c86d61a2350c134fa338d99a90789f7e72e0", func := "icehouse/icehouselaw26.ClientNone", spec := "clientNone", apart := false }
def ClientNoneSaid : Prop := clientNoneRow.holds Try.pinned (OpenSpec.ofChange clientNoneSpec)

/-- ITS FALSE NEIGHBOUR: 'it returns false'. Refute it at one input. -/
def clientNoneWrong : ChangeSpec := { name := "clientNone", fn := fun _ => fun
  | [] => { results := [.lit (.bool false)], args := [] }
  | _ => none }
def ClientNoneWrongFalsely : Prop := clientNoneRow.holds Try.pinned (OpenSpec.ofChange clientNoneWrong)

/-- 'icehouselaw26.ClientDrop': WHATEVER THE INPUT: true; the input reads as it did. -/
def clientDropSpec : ChangeSpec := { name := "clientDrop", fn := fun _ => fun
  | [d1, d2, d3] => { results := [.lit (.bool true)], args := [d1, d2, d3] }
  | _ => none }
def clientDropRow : OpenClaim := { program := "ytilphhafffakoaa", sum := "7409e9056dbaaf3ffeb3299c8295c86d61a2350c134fa338d99a90789f7e72e0", func := "icehouse/icehouselaw26.ClientDrop", spec := "clientDrop", apart := false }
def ClientDropSaid : Prop := clientDropRow.holds Try.pinned (OpenSpec.ofChange clientDropSpec)

/-- ITS FALSE NEIGHBOUR: 'it returns false'. Refute it at one input. -/
def clientDropWrong : ChangeSpec := { name := "clientDrop", fn := fun _ => fun
  | [d1, d2, d3] => { results := [.lit (.bool false)], args := [d1, d2, d3] }
  | _ => none }
def ClientDropWrongFalsely : Prop := clientDropRow.holds Try.pinned (OpenSpec.ofChange clientDropWrong)

/- THE SECOND FORM. 'bulk': how many values and letters a reading holds, each counted each time it is reached (what is shared counts as often as it is met; a slice's spare places count too). A statement '..UptoSaid' is the law's where the arguments, and the package variables that the reading takes, are together of bulk at most 1048576: NARROWER than '..Said'. Prove '..Said' where nothing that the law and all that it calls make is longer than what came in: it says more and counts as full. Else prove '..UptoSaid'. A law counts once. -/
mutual
def uptoBulk {H : Type} : DataW H → Nat
  | .lit (.string bytes) => bytes.length + 1
  | .lit _ => 1
  | .nil => 1
  | .ptr d => uptoBulk d + 1
  | .slice elems spare => uptoBulkAll elems + uptoBulkAll spare + 1
  | .agg parts => uptoBulkAll parts + 1
  | .iface _ d => uptoBulk d + 1
  | .map entries => uptoBulkEntries entries + 1
  | .held _ => 1
def uptoBulkAll {H : Type} : List (DataW H) → Nat
  | [] => 0
  | d :: r => uptoBulk d + uptoBulkAll r
def uptoBulkEntries {H : Type} : List (Lit × DataW H) → Nat
  | [] => 0
  | x :: r => uptoBulkEntry x + uptoBulkEntries r
def uptoBulkEntry {H : Type} : Lit × DataW H → Nat
  | (.string bytes, d) => bytes.length + uptoBulk d + 1
  | (_, d) => uptoBulk d + 1
 end
def uptoSmall : (H : Type) → List (DataW H) → Bool := fun _ ds => decide (uptoBulkAll ds ≤ 1048576)
def OpenSpec.upto (s : _root_.Go.ChangeSpec) : _root_.Go.OpenSpec := { _root_.Go.OpenSpec.ofChange s with cond := some uptoSmall }

/-- 'icehouselaw26.ClientAll', WHERE WHAT IT READS IS OF BULK AT MOST 1048576: true; the input reads as it did. -/
def clientAllUptoRow : OpenClaim := { program := "ytilphhafffakoaa", sum := "7409e9056dbaaf3ffeb3299c8295c86d61a2350c134fa338d99a90789f7e72e0", func := "icehouse/icehouselaw26.ClientAll", spec := "clientAll", apart := false, narrowed := true }
def ClientAllUptoSaid : Prop := clientAllUptoRow.holds Try.pinned (OpenSpec.upto clientAllSpec)

/-- 'icehouselaw26.ClientNone', WHERE WHAT IT READS IS OF BULK AT MOST 1048576: true; the input reads as it did. -/
def clientNoneUptoRow : OpenClaim := { program := "ytilphhafffakoaa", sum := "7409e9056dbaaf3ffeb3299c8295c86d61a2350c134fa338d99a90789f7e72e0", func := "icehouse/icehouselaw26.ClientNone", spec := "clientNone", apart := false, narrowed := true }
def ClientNoneUptoSaid : Prop := clientNoneUptoRow.holds Try.pinned (OpenSpec.upto clientNoneSpec)

/-- 'icehouselaw26.ClientDrop', WHERE WHAT IT READS IS OF BULK AT MOST 1048576: true; the input reads as it did. -/
def clientDropUptoRow : OpenClaim := { program := "ytilphhafffakoaa", sum := "7409e9056dbaaf3ffeb3299c8295c86d61a2350c134fa338d99a90789f7e72e0", func := "icehouse/icehouselaw26.ClientDrop", spec := "clientDrop", apart := false, narrowed := true }
def ClientDropUptoSaid : Prop := clientDropUptoRow.holds Try.pinned (OpenSpec.upto clientDropSpec)

end Rows
end Go.Proofs.Ytilphhafffakoaa
