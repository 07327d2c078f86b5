/-
  How points are compared, walked through the program's own text; the library's sort laid at points. No condition.
-/
import Derived.Test.YthofnohpdbbidaaShelf
import Derived.ProofKit
import Derived.WalkKit
namespace Go.Proofs.Ythofnohpdbbidaa
open Go.Shelf Go.RowKit Go.Lib Go.Sort
set_option linter.unusedVariables false
def encPt (x : Int × Int) : List Value := [.int .u64 x.1, .int .i64 x.2]
def lessPt (x y : Int × Int) : Bool := decide (x.1 < y.1) || (decide (x.1 = y.1) && decide (x.2 < y.2))
def cfPt (x y : Int × Int) : Int := if lessPt x y then -1 else if lessPt y x then 1 else 0
set_option maxHeartbeats 4000000 in
theorem closureWalk (x y : Int × Int) (W : World) : Calls Try.prog 35 #[.agg #[.int .u64 x.1, .int .i64 x.2], .agg #[.int .u64 y.1, .int .i64 y.2]] W fun e w' => e = .returned (.int .i64 (cfPt x y)) ∧ ∃ q os', w' = grow (W.drewN q) os' := by
  go_enter Try.func35, Try.ntmps35
  go_wp2
  all_goals go_ret
  all_goals first
    | exact ⟨by rw [show cfPt x y = -1 by grind [cfPt, lessPt]]; rfl, 0, _, by rw [alloc_eq_grow, alloc_eq_grow, alloc_eq_grow, alloc_eq_grow, alloc_eq_grow, alloc_eq_grow, grow_grow, grow_grow, grow_grow, grow_grow, grow_grow]; rfl⟩
    | exact ⟨by rw [show cfPt x y = -1 by grind [cfPt, lessPt]]; rfl, 0, _, by rw [alloc_eq_grow, alloc_eq_grow, alloc_eq_grow, alloc_eq_grow, grow_grow, grow_grow, grow_grow]; rfl⟩
    | exact ⟨by rw [show cfPt x y = 1 by grind [cfPt, lessPt]]; rfl, 0, _, by rw [alloc_eq_grow, alloc_eq_grow, alloc_eq_grow, alloc_eq_grow, alloc_eq_grow, alloc_eq_grow, grow_grow, grow_grow, grow_grow, grow_grow, grow_grow]; rfl⟩
    | exact ⟨by rw [show cfPt x y = 1 by grind [cfPt, lessPt]]; rfl, 0, _, by rw [alloc_eq_grow, alloc_eq_grow, alloc_eq_grow, alloc_eq_grow, grow_grow, grow_grow, grow_grow]; rfl⟩
    | exact ⟨by rw [show cfPt x y = 0 by grind [cfPt, lessPt]]; rfl, 0, _, by rw [alloc_eq_grow, alloc_eq_grow, alloc_eq_grow, alloc_eq_grow, alloc_eq_grow, alloc_eq_grow, grow_grow, grow_grow, grow_grow, grow_grow, grow_grow]; rfl⟩
    | exact ⟨by rw [show cfPt x y = 0 by grind [cfPt, lessPt]]; rfl, 0, _, by rw [alloc_eq_grow, alloc_eq_grow, alloc_eq_grow, alloc_eq_grow, grow_grow, grow_grow, grow_grow]; rfl⟩
theorem cmpPt (blk off size : Nat) (w : World) : CmpLays Try.prog 35 #[] encPt 2 cfPt blk off size w := fun _ _ _ _ x y => closureWalk x y _
theorem ltPt (x y : Int × Int) : ltOf cfPt x y = lessPt x y := by unfold ltOf; grind [cfPt, lessPt]
theorem swoPt : SWO (ltOf cfPt) where
  irrefl x := by rw [ltPt]; simp [lessPt]
  trans x y z h1 h2 := by
    rw [ltPt] at *
    simp only [lessPt, Bool.or_eq_true, Bool.and_eq_true, decide_eq_true_eq] at *
    omega
  ntrans x y z h1 h2 := by
    rw [ltPt] at *
    simp only [lessPt, Bool.or_eq_false_iff, Bool.and_eq_false_iff, decide_eq_false_iff_not] at *
    omega
theorem totPt (x y : Int × Int) (h1 : ltOf cfPt x y = false) (h2 : ltOf cfPt y x = false) : x = y := by
  rw [ltPt] at h1 h2
  cases x; cases y
  simp only [lessPt, Bool.or_eq_false_iff, Bool.and_eq_false_iff, decide_eq_false_iff_not] at h1 h2
  simp only [Prod.mk.injEq]
  omega
theorem sortPt (blk off cap : Nat) (d : Array (Int × Int)) (w : World) (hH : HoldsK encPt 2 w blk off d) (hblk : blk < w.heap.size) (hsz : d.size < 4611686018427387904) :
    Calls Try.prog 34 #[.slice (some ⟨blk, off, none⟩) d.size cap, .func (.func 35) #[] #[]] w fun e w' =>
      e = .returned (.tuple #[]) ∧ ∃ n os, w' = sortWorldK encPt 2 w blk off n (d.toList.mergeSort fun x y => !(ltOf cfPt) y x).toArray os :=
  AnyQ.slices_SortFunc_total Try.laysSf 2 Try.isAgg59 Try.sizeOf59 encPt (fun _ => rfl) (fun x v hv => by simp [encPt] at hv; rcases hv with rfl | rfl <;> rfl) cfPt swoPt 35 #[] blk off cap d w
    (enters_of Try.func35 (by kernel_rfl) rfl) (cmpPt _ _ _ _) hH hblk hsz totPt
end Go.Proofs.Ythofnohpdbbidaa
