/-
  What the closed sentence ClientNone comes to, carried out step by step over values that are known; no condition.
-/
import Derived.Test.YtilphhafffakoaaProg
import Derived.Test.YtilphhafffakoaaSxU
namespace Go.Proofs.Ytilphhafffakoaa.clientNone
open Go.Sx
set_option maxRecDepth 100000
def T : List (Nat × TI) := [(2, ⟨1, 8, false, .int .i64, [.lit .i64 0], [.int .i64]⟩),
  (3, ⟨1, 8, false, .int .i64, [.lit .i64 0], [.int .i64]⟩),
  (4, ⟨1, 1, false, .bool, [.ff], [.bool]⟩),
  (9, ⟨1, 16, false, .str, [.str ⟨#[]⟩], [.str]⟩),
  (24, ⟨1, 8, false, .ptr, [.nil], [.other]⟩),
  (29, ⟨6, 64, true, .struct [(0, 1), (1, 1), (2, 1), (3, 1), (4, 1), (5, 1)], [.lit .i64 0, .lit .i64 0, .str ⟨#[]⟩, .lit .i64 0, .str ⟨#[]⟩, .ff], [.int .i64, .int .i64, .str, .int .i64, .str, .bool]⟩),
  (42, ⟨1, 24, false, .slc 48, [.snil], [.other]⟩),
  (48, ⟨13, 128, true, .struct [(0, 1), (1, 1), (2, 1), (3, 1), (4, 1), (5, 1), (6, 1), (7, 6)], [.lit .i64 0, .lit .i64 0, .str ⟨#[]⟩, .lit .i64 0, .lit .i64 0, .lit .i64 0, .ff, .lit .i64 0, .lit .i64 0, .str ⟨#[]⟩, .lit .i64 0, .str ⟨#[]⟩, .ff], [.int .i64, .int .i64, .str, .int .i64, .int .i64, .int .i64, .bool, .int .i64, .int .i64, .str, .int .i64, .str, .bool]⟩),
  (51, ⟨1, 24, true, .struct [(0, 1)], [.snil], [.other]⟩),
  (52, ⟨1, 8, false, .ptr, [.nil], [.other]⟩)]
def ids : List Nat := [4, 6, 9, 10, 11, 15, 12, 7, 17]
def I : List (Nat × List Nat) := [(4, [0, 1]), (6, [0, 1, 2, 3, 4, 5, 6, 9]), (9, [0, 1, 2, 3, 4, 10, 11, 13]), (10, [0, 1, 2, 4, 6, 7, 24, 54]), (11, [0, 1, 2, 6, 7, 9, 11, 12, 13, 14, 32]), (15, [0, 2, 4]), (12, [0, 2, 3, 5, 7, 8, 9, 10, 15]), (7, [0]), (17, [0, 2, 4])]
def R : List (Nat × List (Nat × RG)) := [(4, []),
  (6, [(6, ⟨[(0, false), (1, false), (3, false), (4, false), (2, true), (5, true), (6, false), (7, false)], [(7, 127), (6, 63), (5, 31), (2, 3), (4, 0), (3, 0), (1, 0), (0, 0)]⟩)]),
  (9, []),
  (10, [(1, ⟨[(0, false), (1, false), (2, false), (3, false), (4, false), (5, false), (6, false), (7, false), (8, false), (9, false), (10, false), (11, false), (12, false), (13, false), (14, false), (15, false), (16, false)], [(16, 65535), (15, 32767), (14, 15615), (13, 7423), (12, 3327), (11, 1279), (10, 255), (9, 511), (8, 255), (7, 127), (6, 63), (5, 31), (4, 15), (3, 7), (2, 3), (1, 1), (0, 0)]⟩),
    (3, ⟨[(0, false), (1, false), (2, false), (3, false), (4, false), (5, false), (6, false), (7, false), (8, false)], [(8, 255), (7, 127), (6, 48), (5, 16), (4, 0), (3, 7), (2, 3), (1, 1), (0, 0)]⟩),
    (4, ⟨[(0, false), (1, false), (2, false), (3, false), (4, false), (5, false), (6, false), (7, false), (8, false), (9, false), (10, false), (11, false), (12, false), (13, false), (14, false), (15, false), (16, false), (17, false), (18, false), (19, false), (20, false), (21, false)], [(21, 2097151), (20, 1048575), (19, 278527), (18, 16383), (17, 131071), (16, 65535), (15, 32767), (14, 16383), (13, 8191), (12, 4095), (11, 2047), (10, 543), (9, 31), (8, 255), (7, 127), (6, 63), (5, 31), (4, 15), (3, 7), (2, 3), (1, 1), (0, 0)]⟩),
    (6, ⟨[(0, false), (1, false), (2, false), (3, false), (4, false), (5, false), (6, false), (7, true), (8, false), (9, false), (10, true), (11, false), (12, false), (13, true)], [(13, 8191), (12, 4095), (11, 2047), (10, 1003), (9, 491), (8, 235), (7, 97), (6, 33), (5, 1), (4, 0), (3, 0), (2, 0), (1, 0), (0, 0)]⟩)]),
  (11, []),
  (15, []),
  (12, []),
  (7, []),
  (17, [])]
def Y (P : Program) : Gx := ⟨⟨⟨P, T, true⟩, fnTab P ids, I⟩, R⟩
theorem okT : T.map (fun p => mkTI Try.prog p.1) = T.map fun p => some p.2 := by kernel_rfl
theorem okB : (fnTab Try.prog ids).all (fnB R) = true := by kernel_rfl
theorem mixed : Try.prog.follows .mixedOrders = true := by kernel_rfl
theorem okY : (Y Try.prog).Ok := gx_ok okT mixed (fnTab_ok _ _) okB
def s0 : S := ⟨0, [], [], 0, [], []⟩
def sp : Sx.Spec := fun _ => none
def CH (P : Program) : Nat → CallH := xcall (Y P) sp (fun _ => unroll 60)

theorem vc : CH Try.prog 20 4 [] s0 (fun v _ => v = .a .tt) = (1 ≤ 1 ∧
128 ≤ 140737488355328 ∧
∀ (cap : Nat),
1 ≤ cap →
cap ≤ 9223372036854775807 →
(Int.ofNat 0 ≤ Int.ofNat 0 ∧ Int.ofNat 0 < Int.ofNat 1) ∧
0 < 1 ∧
0 < 1 ∧
(InR IntKind.i64 (Int.ofNat 1) →
0 < 1 ∧
0 < 1 ∧
0 < 1 ∧
0 < 1 ∧
(Int.ofNat 0 ≤ Int.ofNat 0 ∧ Int.ofNat 0 < Int.ofNat 1) ∧
0 < 1 ∧
0 ≤ 0 ∧
1 ≤ 1 ∧
128 ≤ 140737488355328 ∧
∀ (cap : Nat),
1 ≤ cap →
cap ≤ 9223372036854775807 →
(1 ≤ 0 → cap = 0) →
(Int.ofNat 0 ≤ Int.ofNat 0 ∧ Int.ofNat 0 < Int.ofNat 1) ∧
0 < 1 ∧
(InR IntKind.i64 (Int.ofNat 5) →
(Int.ofNat 0 ≤ Int.ofNat 0 ∧ Int.ofNat 0 < Int.ofNat 1) ∧
0 < 1 ∧
(InR IntKind.i64 (Int.ofNat 7) →
(Int.ofNat 0 ≤ Int.ofNat 0 ∧ Int.ofNat 0 < Int.ofNat 1) ∧
0 < 1 ∧
(Int.ofNat 0 ≤ Int.ofNat 0 ∧ Int.ofNat 0 < Int.ofNat 1) ∧
0 < 1 ∧
0 ≤ 0 ∧
1 ≤ 1 ∧
128 ≤ 140737488355328 ∧
∀ (cap : Nat),
1 ≤ cap →
cap ≤ 9223372036854775807 →
(1 ≤ 0 → cap = 0) →
(Int.ofNat 0 ≤ Int.ofNat 0 ∧ Int.ofNat 0 < Int.ofNat 1) ∧
0 < 1 ∧ SV.a A.tt = SV.a A.tt)))) := by kernel_rfl

theorem holds : CH Try.prog 20 4 [] s0 (fun v _ => v = .a .tt) := by
  rw [vc]
  repeat' (first | exact trivial | rfl | intro _ | apply And.intro | decide)

theorem run (w : World) : Calls Try.prog 4 #[] w fun e w' => e = .returned (.bool true) ∧ Go.RowKit.Grown w w' :=
  (law_of okY (xcall_ok okY (fun _ _ h => (by cases h)) (fun _ => unroll_ok _ 60) 20) (f := 4) (args := []) (hp := []) (nx := 0) (ρ := ⟨0, fun _ => ⟨0, 0, 0, fun _ => False⟩⟩) (vs := []) holds rfl
    ⟨Keeps.refl _ w, fun _ h => (by cases h), .nil⟩ rfl).mono fun _ _ ⟨h1, h2⟩ => ⟨h1, h2.grown⟩

end Go.Proofs.Ytilphhafffakoaa.clientNone
