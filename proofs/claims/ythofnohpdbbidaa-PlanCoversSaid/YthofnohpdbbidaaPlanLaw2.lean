/-
  Further statements' functions over the layer plan; no condition.
-/
import Derived.Test.YthofnohpdbbidaaPlanLaw
namespace Go.Proofs.Ythofnohpdbbidaa
open Go.Sx
set_option maxRecDepth 100000
set_option linter.unusedVariables false

/-! ### PlanOne -/

noncomputable def tabPl2 : List (Nat × Con) := tabPl
noncomputable def plOne (x : TwoA) (t : Int) : List MvR := planL (ptsOf (bitsTo (ibits .andNot .i64 x.a (IntKind.i64.wrap (1 * 2 ^ min (uw .u64 (1 + t - 1)).toNat 64))) 5)) (ptsOf (bitsTo (ibits .or .i64 x.a (IntKind.i64.wrap (1 * 2 ^ min (uw .u64 (1 + t - 1)).toNat 64))) 5))
noncomputable def iOne (x : TwoA) : An := .flat 12 Nat (fun s i => s.int 10 i) (fun _ i => i ≤ (plOne x ((x.b.tmod 5 + 5).tmod 5)).length) (fun _ i => (plOne x ((x.b.tmod 5 + 5).tmod 5)).length - i)
set_option maxHeartbeats 4000000 in
theorem bodyOne : fnBody (Y Try.prog) tabPl 7 cTwo fun x => [(7, [iOne x], [])] := fnBody.of (p :=
  ∀ (a : TwoA), True →
  ∃ (a_2 : Unit), True ∧
  ∀ (b : Unit), True →
  (5 : Int) ≠ (0 : Int) ∧
  InR IntKind.i64 (a.b.tmod (5 : Int) + (5 : Int)) ∧
  (5 : Int) ≠ (0 : Int) ∧
  InR IntKind.i64 ((1 : Int) + (a.b.tmod (5 : Int) + (5 : Int)).tmod (5 : Int)) ∧
  InR IntKind.i64 ((1 : Int) + (a.b.tmod (5 : Int) + (5 : Int)).tmod (5 : Int) - (1 : Int)) ∧
  (0 : Int) ≤ uw IntKind.u64 ((1 : Int) + (a.b.tmod (5 : Int) + (5 : Int)).tmod (5 : Int) - (1 : Int)) ∧
  ∃ (a_4 : Int), ibits Go.BinOp.andNot IntKind.i64 a.a (IntKind.i64.wrap ((1 : Int) * (2 : Int) ^ Min.min (uw IntKind.u64 ((1 : Int) + (a.b.tmod (5 : Int) + (5 : Int)).tmod (5 : Int) - (1 : Int))).toNat (64 : Nat))) = a_4 ∧
  True ∧
  ∀ (b : Nat), True →
  InR IntKind.i64 ((1 : Int) + (a.b.tmod (5 : Int) + (5 : Int)).tmod (5 : Int) - (1 : Int)) ∧
  (0 : Int) ≤ uw IntKind.u64 ((1 : Int) + (a.b.tmod (5 : Int) + (5 : Int)).tmod (5 : Int) - (1 : Int)) ∧
  ∃ (a_6 : Int), ibits Go.BinOp.or IntKind.i64 a.a (IntKind.i64.wrap ((1 : Int) * (2 : Int) ^ Min.min (uw IntKind.u64 ((1 : Int) + (a.b.tmod (5 : Int) + (5 : Int)).tmod (5 : Int) - (1 : Int))).toNat (64 : Nat))) = a_6 ∧
  True ∧
  ∀ (b_1 : Nat), True →
  (((↑(bitsTo a_4 (5 : Nat)).length : Int) == (0 : Int)) = Bool.true →
  ∃ (b : Unit), Bool.true = Bool.true ∧
  True ∧
  True) ∧
  (((↑(bitsTo a_4 (5 : Nat)).length : Int) == (0 : Int)) = Bool.false →
  ∃ (a_9 : NewA), (1 : Int) = a_9.e ∧
  ((0 : Nat) = (0 : Nat) ∧
  (bitsTo a_4 (5 : Nat)).length = a_9.l.length ∧
  b = a_9.cap) ∧
  (a_9.l.length ≤ (bitsTo a_4 (5 : Nat)).length ∧
  RowsEq a_9.l.length (1 : Nat) (encRows encI (bitsTo a_4 (5 : Nat))) (encRows encI a_9.l)) ∧
  ((1 : Int) ≤ a_9.e ∧
  a_9.e ≤ (1099511627776 : Int) ∧
  mayN a_9.l = Bool.true) ∧
  ∀ (b_2 : Nat × Nat), True →
  ∃ (a_11 : NewA), (2 : Int) = a_11.e ∧
  ((0 : Nat) = (0 : Nat) ∧
  (bitsTo a_6 (5 : Nat)).length = a_11.l.length ∧
  b_1 = a_11.cap) ∧
  (a_11.l.length ≤ (bitsTo a_6 (5 : Nat)).length ∧
  RowsEq a_11.l.length (1 : Nat) (encRows encI (bitsTo a_6 (5 : Nat))) (encRows encI a_11.l)) ∧
  ((1 : Int) ≤ a_11.e ∧
  a_11.e ≤ (1099511627776 : Int) ∧
  mayN a_11.l = Bool.true) ∧
  ∀ (b_3 : Nat × Nat), True →
  ∃ (a_13 : PlanA), (0 : Nat) = (0 : Nat) ∧
  (0 : Nat) = (0 : Nat) ∧
  a_9.e = a_13.a.e ∧
  ((0 : Nat) = (0 : Nat) ∧
  a_9.l.length = a_13.a.l.length ∧
  b_2.fst = a_13.a.c1) ∧
  ((0 : Nat) = (0 : Nat) ∧
  (ptsOf a_9.l).length = a_13.a.L.length ∧
  b_2.snd = a_13.a.c2) ∧
  (a_13.a.l.length ≤ a_9.l.length ∧
  RowsEq a_13.a.l.length (1 : Nat) (encRows encI a_9.l) (encRows encI a_13.a.l)) ∧
  (a_13.a.L.length ≤ (ptsOf a_9.l).length ∧
  RowsEq a_13.a.L.length (2 : Nat) (encRows encPt (ptsOf a_9.l)) (encRows encPt a_13.a.L)) ∧
  a_11.e = a_13.b.e ∧
  ((0 : Nat) = (0 : Nat) ∧
  a_11.l.length = a_13.b.l.length ∧
  b_3.fst = a_13.b.c1) ∧
  ((0 : Nat) = (0 : Nat) ∧
  (ptsOf a_11.l).length = a_13.b.L.length ∧
  b_3.snd = a_13.b.c2) ∧
  (a_13.b.l.length ≤ a_11.l.length ∧
  RowsEq a_13.b.l.length (1 : Nat) (encRows encI a_11.l) (encRows encI a_13.b.l)) ∧
  (a_13.b.L.length ≤ (ptsOf a_11.l).length ∧
  RowsEq a_13.b.L.length (2 : Nat) (encRows encPt (ptsOf a_11.l)) (encRows encPt a_13.b.L)) ∧
  ((1 : Nat) ≤ a_13.a.L.length ∧
  a_13.a.L.length ≤ (100 : Nat) ∧
  (1 : Nat) ≤ a_13.b.L.length ∧
  a_13.b.L.length ≤ (100 : Nat)) ∧
  ∀ (b_4 : Nat), True →
  ∃ (a_15 : NewA), (1 : Int) = a_15.e ∧
  ((0 : Nat) = (0 : Nat) ∧
  (bitsTo a_6 (5 : Nat)).length = a_15.l.length ∧
  b_1 = a_15.cap) ∧
  (a_15.l.length ≤ (bitsTo a_6 (5 : Nat)).length ∧
  RowsEq a_15.l.length (1 : Nat) (encRows encI (bitsTo a_6 (5 : Nat))) (encRows encI a_15.l)) ∧
  ((1 : Int) ≤ a_15.e ∧
  a_15.e ≤ (1099511627776 : Int) ∧
  mayN a_15.l = Bool.true) ∧
  ∀ (b_5 : Nat × Nat), True →
  ∃ (a_17 : NewA), (2 : Int) = a_17.e ∧
  ((0 : Nat) = (0 : Nat) ∧
  (bitsTo a_4 (5 : Nat)).length = a_17.l.length ∧
  b = a_17.cap) ∧
  (a_17.l.length ≤ (bitsTo a_4 (5 : Nat)).length ∧
  RowsEq a_17.l.length (1 : Nat) (encRows encI (bitsTo a_4 (5 : Nat))) (encRows encI a_17.l)) ∧
  ((1 : Int) ≤ a_17.e ∧
  a_17.e ≤ (1099511627776 : Int) ∧
  mayN a_17.l = Bool.true) ∧
  ∀ (b_6 : Nat × Nat), True →
  ∃ (a_19 : PlanA), (0 : Nat) = (0 : Nat) ∧
  (0 : Nat) = (0 : Nat) ∧
  a_15.e = a_19.a.e ∧
  ((0 : Nat) = (0 : Nat) ∧
  a_15.l.length = a_19.a.l.length ∧
  b_5.fst = a_19.a.c1) ∧
  ((0 : Nat) = (0 : Nat) ∧
  (ptsOf a_15.l).length = a_19.a.L.length ∧
  b_5.snd = a_19.a.c2) ∧
  (a_19.a.l.length ≤ a_15.l.length ∧
  RowsEq a_19.a.l.length (1 : Nat) (encRows encI a_15.l) (encRows encI a_19.a.l)) ∧
  (a_19.a.L.length ≤ (ptsOf a_15.l).length ∧
  RowsEq a_19.a.L.length (2 : Nat) (encRows encPt (ptsOf a_15.l)) (encRows encPt a_19.a.L)) ∧
  a_17.e = a_19.b.e ∧
  ((0 : Nat) = (0 : Nat) ∧
  a_17.l.length = a_19.b.l.length ∧
  b_6.fst = a_19.b.c1) ∧
  ((0 : Nat) = (0 : Nat) ∧
  (ptsOf a_17.l).length = a_19.b.L.length ∧
  b_6.snd = a_19.b.c2) ∧
  (a_19.b.l.length ≤ a_17.l.length ∧
  RowsEq a_19.b.l.length (1 : Nat) (encRows encI a_17.l) (encRows encI a_19.b.l)) ∧
  (a_19.b.L.length ≤ (ptsOf a_17.l).length ∧
  RowsEq a_19.b.L.length (2 : Nat) (encRows encPt (ptsOf a_17.l)) (encRows encPt a_19.b.L)) ∧
  ((1 : Nat) ≤ a_19.a.L.length ∧
  a_19.a.L.length ≤ (100 : Nat) ∧
  (1 : Nat) ≤ a_19.b.L.length ∧
  a_19.b.L.length ≤ (100 : Nat)) ∧
  ∀ (b_7 : Nat), True →
  (((↑(planL a_13.a.L a_13.b.L).length : Int) == (0 : Int)) = Bool.true →
  ∃ (b : Unit), Bool.false = Bool.true ∧
  True ∧
  True) ∧
  (((↑(planL a_13.a.L a_13.b.L).length : Int) == (0 : Int)) = Bool.false →
  ∃ (a_22 : SideA), ((0 : Nat) = (0 : Nat) ∧
  (planL a_13.a.L a_13.b.L).length = a_22.l.length ∧
  b_4 = a_22.cap) ∧
  (1 : Int) + (a.b.tmod (5 : Int) + (5 : Int)).tmod (5 : Int) = a_22.n ∧
  (a_22.l.length ≤ (planL a_13.a.L a_13.b.L).length ∧
  RowsEq a_22.l.length (4 : Nat) (encRows encM (planL a_13.a.L a_13.b.L)) (encRows encM a_22.l)) ∧
  a_22.l.length < (100000 : Nat) ∧
  ∀ (b_8 : Nat), True →
  (((↑(toL a_22.l a_22.n).length : Int) != (↑(planL a_13.a.L a_13.b.L).length : Int)) = Bool.true →
  ∃ (b : Unit), Bool.false = Bool.true ∧
  True ∧
  True) ∧
  (((↑(toL a_22.l a_22.n).length : Int) != (↑(planL a_13.a.L a_13.b.L).length : Int)) = Bool.false →
  ∃ (a_25 : SideA), ((0 : Nat) = (0 : Nat) ∧
  (planL a_19.a.L a_19.b.L).length = a_25.l.length ∧
  b_7 = a_25.cap) ∧
  (1 : Int) + (a.b.tmod (5 : Int) + (5 : Int)).tmod (5 : Int) = a_25.n ∧
  (a_25.l.length ≤ (planL a_19.a.L a_19.b.L).length ∧
  RowsEq a_25.l.length (4 : Nat) (encRows encM (planL a_19.a.L a_19.b.L)) (encRows encM a_25.l)) ∧
  a_25.l.length < (100000 : Nat) ∧
  ∀ (b_9 : Nat), True →
  (((↑(fromL a_25.l a_25.n).length : Int) != (↑(planL a_19.a.L a_19.b.L).length : Int)) = Bool.true →
  ∃ (b : Unit), Bool.false = Bool.true ∧
  True ∧
  True) ∧
  (((↑(fromL a_25.l a_25.n).length : Int) != (↑(planL a_19.a.L a_19.b.L).length : Int)) = Bool.false →
  (∃ (a_28 : Nat), (0 : Int) = (↑a_28 : Int) ∧
  ((↑(fromL a_25.l a_25.n).length : Int) != (↑(planL a_19.a.L a_19.b.L).length : Int)) = ((↑(fromL a_25.l a_25.n).length : Int) != (↑(planL a_19.a.L a_19.b.L).length : Int)) ∧
  ((0 : Nat) = (0 : Nat) ∧
  (planL a_19.a.L a_19.b.L).length = (planL a_19.a.L a_19.b.L).length ∧
  b_7 = b_7) ∧
  ((0 : Nat) = (0 : Nat) ∧
  (planL a_13.a.L a_13.b.L).length = (planL a_13.a.L a_13.b.L).length ∧
  b_4 = b_4) ∧
  ((↑(bitsTo a_4 (5 : Nat)).length : Int) == (0 : Int)) = ((↑(bitsTo a_4 (5 : Nat)).length : Int) == (0 : Int)) ∧
  ((0 : Nat) = (0 : Nat) ∧
  (bitsTo a_6 (5 : Nat)).length = (bitsTo a_6 (5 : Nat)).length ∧
  b_1 = b_1) ∧
  ((0 : Nat) = (0 : Nat) ∧
  (bitsTo a_4 (5 : Nat)).length = (bitsTo a_4 (5 : Nat)).length ∧
  b = b) ∧
  (1 : Int) + (a.b.tmod (5 : Int) + (5 : Int)).tmod (5 : Int) = (1 : Int) + (a.b.tmod (5 : Int) + (5 : Int)).tmod (5 : Int) ∧
  Bool.false = Bool.false ∧
  Bool.true = Bool.true ∧
  Bool.false = Bool.false ∧
  a.a = a.a ∧
  ((planL a_19.a.L a_19.b.L).length ≤ (planL a_19.a.L a_19.b.L).length ∧
  RowsEq (planL a_19.a.L a_19.b.L).length (4 : Nat) (encRows encM (planL a_19.a.L a_19.b.L)) (encRows encM (planL a_19.a.L a_19.b.L))) ∧
  ((planL a_13.a.L a_13.b.L).length ≤ (planL a_13.a.L a_13.b.L).length ∧
  RowsEq (planL a_13.a.L a_13.b.L).length (4 : Nat) (encRows encM (planL a_13.a.L a_13.b.L)) (encRows encM (planL a_13.a.L a_13.b.L))) ∧
  ((bitsTo a_6 (5 : Nat)).length ≤ (bitsTo a_6 (5 : Nat)).length ∧
  RowsEq (bitsTo a_6 (5 : Nat)).length (1 : Nat) (encRows encI (bitsTo a_6 (5 : Nat))) (encRows encI (bitsTo a_6 (5 : Nat)))) ∧
  ((bitsTo a_4 (5 : Nat)).length ≤ (bitsTo a_4 (5 : Nat)).length ∧
  RowsEq (bitsTo a_4 (5 : Nat)).length (1 : Nat) (encRows encI (bitsTo a_4 (5 : Nat))) (encRows encI (bitsTo a_4 (5 : Nat)))) ∧
  a_28 ≤ (plOne a ((a.b.tmod (5 : Int) + (5 : Int)).tmod (5 : Int))).length ∧
  True) ∧
  ∀ (a_28 : Nat), a_28 ≤ (plOne a ((a.b.tmod (5 : Int) + (5 : Int)).tmod (5 : Int))).length →
  (Decidable.decide ((↑a_28 : Int) < (↑(planL a_13.a.L a_13.b.L).length : Int)) = Bool.true →
  ((0 : Int) ≤ (↑a_28 : Int) ∧
  (↑a_28 : Int) < (↑(planL a_13.a.L a_13.b.L).length : Int)) ∧
  (0 : Nat) + (↑a_28 : Int).toNat < (planL a_13.a.L a_13.b.L).length ∧
  (InR IntKind.i64 (gl (planL a_13.a.L a_13.b.L) ((0 : Nat) + (↑a_28 : Int).toNat)).s →
  ∃ (a_32 : HasA), ((0 : Nat) = (0 : Nat) ∧
  (bitsTo a_4 (5 : Nat)).length = a_32.l.length ∧
  b = a_32.cap) ∧
  (gl (planL a_13.a.L a_13.b.L) ((0 : Nat) + (↑a_28 : Int).toNat)).s = a_32.n ∧
  (a_32.l.length ≤ (bitsTo a_4 (5 : Nat)).length ∧
  RowsEq a_32.l.length (1 : Nat) (encRows encI (bitsTo a_4 (5 : Nat))) (encRows encI a_32.l)) ∧
  a_32.l.length < (100000 : Nat) ∧
  ∀ (b_10 : Unit), True →
  ((!Decidable.decide (a_32.n ∈ a_32.l)) = Bool.true →
  ∃ (b : Unit), Bool.false = Bool.true ∧
  True ∧
  True) ∧
  ((!Decidable.decide (a_32.n ∈ a_32.l)) = Bool.false →
  InR IntKind.i64 ((↑a_28 : Int) + (1 : Int)) ∧
  ∃ (a' : Nat), (↑a_28 : Int) + (1 : Int) = (↑a' : Int) ∧
  ((↑(fromL a_25.l a_25.n).length : Int) != (↑(planL a_19.a.L a_19.b.L).length : Int)) = ((↑(fromL a_25.l a_25.n).length : Int) != (↑(planL a_19.a.L a_19.b.L).length : Int)) ∧
  ((0 : Nat) = (0 : Nat) ∧
  (planL a_19.a.L a_19.b.L).length = (planL a_19.a.L a_19.b.L).length ∧
  b_7 = b_7) ∧
  ((0 : Nat) = (0 : Nat) ∧
  (planL a_13.a.L a_13.b.L).length = (planL a_13.a.L a_13.b.L).length ∧
  b_4 = b_4) ∧
  ((↑(bitsTo a_4 (5 : Nat)).length : Int) == (0 : Int)) = ((↑(bitsTo a_4 (5 : Nat)).length : Int) == (0 : Int)) ∧
  ((0 : Nat) = (0 : Nat) ∧
  (bitsTo a_6 (5 : Nat)).length = (bitsTo a_6 (5 : Nat)).length ∧
  b_1 = b_1) ∧
  ((0 : Nat) = (0 : Nat) ∧
  (bitsTo a_4 (5 : Nat)).length = (bitsTo a_4 (5 : Nat)).length ∧
  b = b) ∧
  (1 : Int) + (a.b.tmod (5 : Int) + (5 : Int)).tmod (5 : Int) = (1 : Int) + (a.b.tmod (5 : Int) + (5 : Int)).tmod (5 : Int) ∧
  Bool.false = Bool.false ∧
  Bool.true = Bool.true ∧
  Bool.false = Bool.false ∧
  a.a = a.a ∧
  ((planL a_19.a.L a_19.b.L).length ≤ (planL a_19.a.L a_19.b.L).length ∧
  RowsEq (planL a_19.a.L a_19.b.L).length (4 : Nat) (encRows encM (planL a_19.a.L a_19.b.L)) (encRows encM (planL a_19.a.L a_19.b.L))) ∧
  ((planL a_13.a.L a_13.b.L).length ≤ (planL a_13.a.L a_13.b.L).length ∧
  RowsEq (planL a_13.a.L a_13.b.L).length (4 : Nat) (encRows encM (planL a_13.a.L a_13.b.L)) (encRows encM (planL a_13.a.L a_13.b.L))) ∧
  ((bitsTo a_6 (5 : Nat)).length ≤ (bitsTo a_6 (5 : Nat)).length ∧
  RowsEq (bitsTo a_6 (5 : Nat)).length (1 : Nat) (encRows encI (bitsTo a_6 (5 : Nat))) (encRows encI (bitsTo a_6 (5 : Nat)))) ∧
  ((bitsTo a_4 (5 : Nat)).length ≤ (bitsTo a_4 (5 : Nat)).length ∧
  RowsEq (bitsTo a_4 (5 : Nat)).length (1 : Nat) (encRows encI (bitsTo a_4 (5 : Nat))) (encRows encI (bitsTo a_4 (5 : Nat)))) ∧
  a' ≤ (plOne a ((a.b.tmod (5 : Int) + (5 : Int)).tmod (5 : Int))).length ∧
  (plOne a ((a.b.tmod (5 : Int) + (5 : Int)).tmod (5 : Int))).length - a' < (plOne a ((a.b.tmod (5 : Int) + (5 : Int)).tmod (5 : Int))).length - a_28))) ∧
  (Decidable.decide ((↑a_28 : Int) < (↑(planL a_13.a.L a_13.b.L).length : Int)) = Bool.false →
  ∃ (b : Unit), Bool.true = Bool.true ∧
  True ∧
  True)))))) (by kernel_rfl) (by
  intro x _
  have t0 : 0 ≤ (x.b.tmod 5 + 5).tmod 5 ∧ (x.b.tmod 5 + 5).tmod 5 < 5 := by
    have z1 := Int.tmod_lt_of_pos x.b (show (0 : Int) < 5 by decide)
    have z2 := Int.lt_tmod_of_pos x.b (show (0 : Int) < 5 by decide)
    rw [Int.tmod_eq_emod_of_nonneg (by omega)]
    omega
  have hr : -5 < x.b.tmod 5 ∧ x.b.tmod 5 < 5 := ⟨Int.lt_tmod_of_pos x.b (by decide), Int.tmod_lt_of_pos x.b (by decide)⟩
  generalize (x.b.tmod 5 + 5).tmod 5 = t at *
  obtain ⟨j, ej, hj, es⟩ := shl_pow t0.1 t0.2
  have hx : plOne x t = planL (ptsOf (bitsTo (ibits .andNot .i64 x.a (2 ^ j)) 5)) (ptsOf (bitsTo (ibits .or .i64 x.a (2 ^ j)) 5)) := by
    unfold plOne; rw [es]
  rw [es, hx]
  have hu : 0 ≤ uw .u64 (1 + t - 1) := by simp only [uw]; omega
  obtain ⟨b1, b2⟩ := bits_join x.a hj
  generalize ibits .andNot .i64 x.a (2 ^ j) = p at *
  generalize ibits .or .i64 x.a (2 ^ j) = q at *
  simp only [InR]
  refine ⟨(), trivial, fun _ _ => ⟨by decide, by omega, by decide, by omega, by omega, hu, p, rfl, trivial, fun c1 _ => ⟨by omega, hu, q, rfl, trivial, fun c2 _ => ⟨fun _ => ⟨(), trivial, trivial, trivial⟩, fun c0 => ⟨⟨1, bitsTo p 5, c1⟩, ?_⟩⟩⟩⟩⟩
  simp only [beq_eq_false_iff_ne] at c0
  have hl := bits_len p 5
  have hl2 := bits_len q 5
  have hm := bits_may (b := p) (by omega)
  have hq0 : 0 < (bitsTo q 5).length := List.length_pos_of_mem ((b2 _).2 (.inr rfl))
  have hm2 := bits_may (b := q) hq0
  have h8 := ptsOf_length hm
  have h82 := ptsOf_length hm2
  have hmore := plan_more hm hm2 b1 b2
  have hnode := plan_nodes hm hm2
  have hll := plan_len (ptsOf (bitsTo p 5)) (ptsOf (bitsTo q 5))
  ((repeat' apply And.intro) <;> first | with_reducible rfl | omega | (dsimp only; omega) | exact RowsEq.refl _ _ _ | assumption | rfl | trivial | exact Nat.le_refl _ | skip)
  refine fun r1 _ => ⟨⟨2, bitsTo q 5, c2⟩, ?_⟩
  ((repeat' apply And.intro) <;> first | with_reducible rfl | omega | (dsimp only; omega) | exact RowsEq.refl _ _ _ | assumption | rfl | trivial | exact Nat.le_refl _ | skip)
  refine fun r2 _ => ⟨⟨⟨1, bitsTo p 5, r1.1, ptsOf (bitsTo p 5), r1.2⟩, ⟨2, bitsTo q 5, r2.1, ptsOf (bitsTo q 5), r2.2⟩⟩, ?_⟩
  ((repeat' apply And.intro) <;> first | with_reducible rfl | omega | (dsimp only; omega) | exact RowsEq.refl _ _ _ | assumption | rfl | trivial | exact Nat.le_refl _ | skip)
  refine fun c3 _ => ⟨⟨1, bitsTo q 5, c2⟩, ?_⟩
  ((repeat' apply And.intro) <;> first | with_reducible rfl | omega | (dsimp only; omega) | exact RowsEq.refl _ _ _ | assumption | rfl | trivial | exact Nat.le_refl _ | skip)
  refine fun r3 _ => ⟨⟨2, bitsTo p 5, c1⟩, ?_⟩
  ((repeat' apply And.intro) <;> first | with_reducible rfl | omega | (dsimp only; omega) | exact RowsEq.refl _ _ _ | assumption | rfl | trivial | exact Nat.le_refl _ | skip)
  refine fun r4 _ => ⟨⟨⟨1, bitsTo q 5, r3.1, ptsOf (bitsTo q 5), r3.2⟩, ⟨2, bitsTo p 5, r4.1, ptsOf (bitsTo p 5), r4.2⟩⟩, ?_⟩
  ((repeat' apply And.intro) <;> first | with_reducible rfl | omega | (dsimp only; omega) | exact RowsEq.refl _ _ _ | assumption | rfl | trivial | exact Nat.le_refl _ | skip)
  dsimp only
  rw [plan_swap (ptsOf (bitsTo p 5)) (ptsOf (bitsTo q 5))]
  clear hx
  generalize planL (ptsOf (bitsTo p 5)) (ptsOf (bitsTo q 5)) = l at *
  obtain ⟨l0, ld⟩ := hmore
  have en : 1 + t = (j : Int) + 1 := by omega
  rw [en]
  have w1 : toL l ((j : Int) + 1) = l := List.filter_eq_self.2 fun m hm => by simpa using ld m hm
  have w2 : fromL (l.map swapM) ((j : Int) + 1) = l.map swapM := List.filter_eq_self.2 fun m hm => by
    obtain ⟨m', hm', rfl⟩ := List.mem_map.1 hm
    exact decide_eq_true (ld m' hm')
  have wm : (l.map swapM).length = l.length := List.length_map _
  refine fun c4 _ => ⟨fun g => (by exfalso; simp only [beq_iff_eq] at g; omega), fun _ => ⟨⟨l, c3, (j : Int) + 1⟩, ?_⟩⟩
  ((repeat' apply And.intro) <;> first | with_reducible rfl | omega | (dsimp only; omega) | exact RowsEq.refl _ _ _ | assumption | rfl | trivial | exact Nat.le_refl _ | skip)
  dsimp only
  rw [w1]
  refine fun c5 _ => ⟨fun g => (by simp at g), fun _ => ⟨⟨l.map swapM, c4, (j : Int) + 1⟩, ?_⟩⟩
  ((repeat' apply And.intro) <;> first | with_reducible rfl | omega | (dsimp only; omega) | exact RowsEq.refl _ _ _ | assumption | rfl | trivial | exact Nat.le_refl _ | skip)
  dsimp only
  rw [w2]
  refine fun c6 _ => ⟨fun g => (by simp at g), fun _ => ⟨⟨0, ?_⟩, fun i hi => ⟨fun d1 => ?_, fun _ => ⟨(), trivial, trivial, trivial⟩⟩⟩⟩
  · ((repeat' apply And.intro) <;> first | with_reducible rfl | omega | (dsimp only; omega) | exact RowsEq.refl _ _ _ | assumption | rfl | trivial | exact Nat.le_refl _ | skip)
  · simp only [decide_eq_true_eq] at d1
    have hi : i < l.length := by omega
    simp only [Nat.zero_add, Int.toNat_natCast]
    have hin := (hnode _ (gl_mem hi)).1
    ((repeat' apply And.intro) <;> first | with_reducible rfl | omega | (dsimp only; omega) | exact RowsEq.refl _ _ _ | assumption | rfl | trivial | exact Nat.le_refl _ | skip)
    refine fun _ => ⟨⟨bitsTo p 5, c1, (gl l i).s⟩, ?_⟩
    ((repeat' apply And.intro) <;> first | with_reducible rfl | omega | (dsimp only; omega) | exact RowsEq.refl _ _ _ | assumption | rfl | trivial | exact Nat.le_refl _ | skip)
    dsimp only
    refine fun _ _ => ⟨fun g => (by simp [hin] at g), fun _ => ⟨by omega, i + 1, ?_⟩⟩
    ((repeat' apply And.intro) <;> first | with_reducible rfl | omega | (dsimp only; omega) | exact RowsEq.refl _ _ _ | assumption | rfl | trivial | exact Nat.le_refl _ | skip))

/-! ### PlanCovers -/

structure CvA where
  n : Nat
  cap : Nat
  rows : Nat → Nat → Value
  h : Int
structure CvS where
  l : List MvR
  cap : Nat
  last : Int
  first : Bool
  i : Nat
noncomputable def cCv : Con where
  α := CvA
  β := Unit
  m := 1
  m' := 1
  pre := fun a => a.n ≤ a.cap ∧ a.cap ≤ lenMax
  args := fun a => [.a (.slc 0 0 1 a.n a.cap), .a (.int .u64 a.h)]
  hp := fun _ => []
  ro := fun a => [(0, .arr 30 [.int .u64] a.n a.rows)]
  post := fun _ _ => True
  res := fun _ _ => .a .tt
  hp' := fun _ _ => []
def jCv (s : S) (y : CvS) : S := ((((s.new (arrM y.l)).set 6 (.a (.slc s.nx 0 4 y.l.length y.cap))).set 7 (.a (.int .u64 y.last))).set 8 (.a (.bool y.first))).int 9 y.i
def iCv2 (a : CvA) (y : CvS) : An := .flat 15 Nat (fun s i => s.int 13 i) (fun _ i => i ≤ y.l.length ∧ (y.l.take i).find? (inM a.h) = none) (fun _ i => y.l.length - i)
def iCv1 (a : CvA) : An := .flat 7 CvS (fun s y => jCv s y) (fun _ y => y.l.length ≤ y.i ∧ y.i ≤ 12) (fun _ y => 12 - y.i)
def cCv1 (a : CvA) : An := .mk 13 CvS (fun s y => jCv s y) (fun _ y => y.l.length ≤ y.i ∧ y.i ≤ 12) (fun _ _ => 0) fun y => .mk 60 [iCv2 a y] []
set_option maxHeartbeats 4000000 in
theorem bodyCv : fnBody (Y Try.prog) tabPl 8 cCv fun a => [(8, [iCv1 a], [cCv1 a])] := fnBody.of (p :=
  ∀ (a : CvA), a.n ≤ a.cap ∧
  a.cap ≤ lenMax →
  ∃ (a_2 : Unit), True ∧
  ∀ (b : Unit), True →
  ((∃ (a_4 : CvS), (0 : Int) = (↑a_4.i : Int) ∧
  Bool.true = a_4.first ∧
  (0 : Int) = a_4.last ∧
  ((0 : Nat) = a_4.l.length ∧
  (0 : Nat) = a_4.cap) ∧
  Bool.false = Bool.false ∧
  Bool.true = Bool.true ∧
  Bool.false = Bool.false ∧
  ((0 : Nat) = (0 : Nat) ∧
  a.n = a.n ∧
  a.cap = a.cap) ∧
  a.h = a.h ∧
  a_4.l.length = (0 : Nat) ∧
  (a.n ≤ a.n ∧
  RowsEq a.n (1 : Nat) a.rows a.rows) ∧
  (a_4.l.length ≤ a_4.i ∧
  a_4.i ≤ (12 : Nat)) ∧
  True) ∧
  ∀ (a_4 : CvS), a_4.l.length ≤ a_4.i ∧
  a_4.i ≤ (12 : Nat) →
  (Decidable.decide ((↑a_4.i : Int) < (↑a.n : Int)) = Bool.true →
  (Decidable.decide ((↑a_4.i : Int) < (12 : Int)) = Bool.true →
  ((0 : Int) ≤ (↑a_4.i : Int) ∧
  (↑a_4.i : Int) < (↑a.n : Int)) ∧
  (0 : Nat) + (↑a_4.i : Int).toNat < a.n ∧
  (InR IntKind.u64 (toI (a.rows ((0 : Nat) + (↑a_4.i : Int).toNat) (0 : Nat))) →
  ((!a_4.first) = Bool.true →
  (Decidable.decide (toI (a.rows ((0 : Nat) + (↑a_4.i : Int).toNat) (0 : Nat)) ≤ a_4.last) = Bool.true →
  InR IntKind.i64 ((↑a_4.i : Int) + (1 : Int)) ∧
  ∃ (a' : CvS), (↑a_4.i : Int) + (1 : Int) = (↑a'.i : Int) ∧
  a_4.first = a'.first ∧
  a_4.last = a'.last ∧
  ((0 : Nat) = (0 : Nat) ∧
  a_4.l.length = a'.l.length ∧
  a_4.cap = a'.cap) ∧
  Bool.false = Bool.false ∧
  Bool.true = Bool.true ∧
  Bool.false = Bool.false ∧
  ((0 : Nat) = (0 : Nat) ∧
  a.n = a.n ∧
  a.cap = a.cap) ∧
  a.h = a.h ∧
  (a'.l.length ≤ a_4.l.length ∧
  RowsEq a'.l.length (4 : Nat) (encRows encM a_4.l) (encRows encM a'.l)) ∧
  (a.n ≤ a.n ∧
  RowsEq a.n (1 : Nat) a.rows a.rows) ∧
  (a'.l.length ≤ a'.i ∧
  a'.i ≤ (12 : Nat)) ∧
  (12 : Nat) - a'.i < (12 : Nat) - a_4.i) ∧
  (Decidable.decide (toI (a.rows ((0 : Nat) + (↑a_4.i : Int).toNat) (0 : Nat)) ≤ a_4.last) = Bool.false →
  (Decidable.decide ((9223372036854775808 : Int) < toI (a.rows ((0 : Nat) + (↑a_4.i : Int).toNat) (0 : Nat))) = Bool.true →
  InR IntKind.i64 ((↑a_4.i : Int) + (1 : Int)) ∧
  ∃ (a' : CvS), (↑a_4.i : Int) + (1 : Int) = (↑a'.i : Int) ∧
  a_4.first = a'.first ∧
  a_4.last = a'.last ∧
  ((0 : Nat) = (0 : Nat) ∧
  a_4.l.length = a'.l.length ∧
  a_4.cap = a'.cap) ∧
  Bool.false = Bool.false ∧
  Bool.true = Bool.true ∧
  Bool.false = Bool.false ∧
  ((0 : Nat) = (0 : Nat) ∧
  a.n = a.n ∧
  a.cap = a.cap) ∧
  a.h = a.h ∧
  (a'.l.length ≤ a_4.l.length ∧
  RowsEq a'.l.length (4 : Nat) (encRows encM a_4.l) (encRows encM a'.l)) ∧
  (a.n ≤ a.n ∧
  RowsEq a.n (1 : Nat) a.rows a.rows) ∧
  (a'.l.length ≤ a'.i ∧
  a'.i ≤ (12 : Nat)) ∧
  (12 : Nat) - a'.i < (12 : Nat) - a_4.i) ∧
  (Decidable.decide ((9223372036854775808 : Int) < toI (a.rows ((0 : Nat) + (↑a_4.i : Int).toNat) (0 : Nat))) = Bool.false →
  (4 : Int) ≠ (0 : Int) ∧
  InR IntKind.i64 ((1 : Int) + (↑a_4.i : Int).tmod (4 : Int)) ∧
  (0 : Nat) + a_4.l.length ≤ a_4.l.length ∧
  (1 : Nat) ≤ (1 : Nat) ∧
  (a_4.l.length + (1 : Nat)) * (32 : Nat) ≤ (140737488355328 : Nat) ∧
  ∀ (cap : Nat), a_4.l.length + (1 : Nat) ≤ cap →
  cap ≤ lenMax →
  (a_4.l.length + (1 : Nat) ≤ a_4.cap →
  cap = a_4.cap) →
  InR IntKind.i64 ((↑a_4.i : Int) + (1 : Int)) ∧
  ∃ (a' : CvS), (↑a_4.i : Int) + (1 : Int) = (↑a'.i : Int) ∧
  Bool.false = a'.first ∧
  uw IntKind.u64 (toI (a.rows ((0 : Nat) + (↑a_4.i : Int).toNat) (0 : Nat)) + uw IntKind.u64 (↑a_4.i : Int)) = a'.last ∧
  ((0 : Nat) = (0 : Nat) ∧
  a_4.l.length + (1 : Nat) = a'.l.length ∧
  cap = a'.cap) ∧
  Bool.false = Bool.false ∧
  Bool.true = Bool.true ∧
  Bool.false = Bool.false ∧
  ((0 : Nat) = (0 : Nat) ∧
  a.n = a.n ∧
  a.cap = a.cap) ∧
  a.h = a.h ∧
  (a'.l.length ≤ a_4.l.length + (1 : Nat) ∧
  RowsEq a'.l.length (4 : Nat) (appRows (encRows encM a_4.l) (0 : Nat) a_4.l.length fun (i j : Nat) => flatRows (4 : Nat) [Value.int IntKind.u64 (toI (a.rows ((0 : Nat) + (↑a_4.i : Int).toNat) (0 : Nat))), Value.int IntKind.u64 (uw IntKind.u64 (toI (a.rows ((0 : Nat) + (↑a_4.i : Int).toNat) (0 : Nat)) + uw IntKind.u64 (↑a_4.i : Int))), Value.int IntKind.i64 ((1 : Int) + (↑a_4.i : Int).tmod (4 : Int)), Value.int IntKind.i64 (5 : Int)] ((0 : Nat) + i) j) (encRows encM a'.l)) ∧
  (a.n ≤ a.n ∧
  RowsEq a.n (1 : Nat) a.rows a.rows) ∧
  (a'.l.length ≤ a'.i ∧
  a'.i ≤ (12 : Nat)) ∧
  (12 : Nat) - a'.i < (12 : Nat) - a_4.i))) ∧
  ((!a_4.first) = Bool.false →
  (Decidable.decide ((9223372036854775808 : Int) < toI (a.rows ((0 : Nat) + (↑a_4.i : Int).toNat) (0 : Nat))) = Bool.true →
  InR IntKind.i64 ((↑a_4.i : Int) + (1 : Int)) ∧
  ∃ (a' : CvS), (↑a_4.i : Int) + (1 : Int) = (↑a'.i : Int) ∧
  a_4.first = a'.first ∧
  a_4.last = a'.last ∧
  ((0 : Nat) = (0 : Nat) ∧
  a_4.l.length = a'.l.length ∧
  a_4.cap = a'.cap) ∧
  Bool.false = Bool.false ∧
  Bool.true = Bool.true ∧
  Bool.false = Bool.false ∧
  ((0 : Nat) = (0 : Nat) ∧
  a.n = a.n ∧
  a.cap = a.cap) ∧
  a.h = a.h ∧
  (a'.l.length ≤ a_4.l.length ∧
  RowsEq a'.l.length (4 : Nat) (encRows encM a_4.l) (encRows encM a'.l)) ∧
  (a.n ≤ a.n ∧
  RowsEq a.n (1 : Nat) a.rows a.rows) ∧
  (a'.l.length ≤ a'.i ∧
  a'.i ≤ (12 : Nat)) ∧
  (12 : Nat) - a'.i < (12 : Nat) - a_4.i) ∧
  (Decidable.decide ((9223372036854775808 : Int) < toI (a.rows ((0 : Nat) + (↑a_4.i : Int).toNat) (0 : Nat))) = Bool.false →
  (4 : Int) ≠ (0 : Int) ∧
  InR IntKind.i64 ((1 : Int) + (↑a_4.i : Int).tmod (4 : Int)) ∧
  (0 : Nat) + a_4.l.length ≤ a_4.l.length ∧
  (1 : Nat) ≤ (1 : Nat) ∧
  (a_4.l.length + (1 : Nat)) * (32 : Nat) ≤ (140737488355328 : Nat) ∧
  ∀ (cap : Nat), a_4.l.length + (1 : Nat) ≤ cap →
  cap ≤ lenMax →
  (a_4.l.length + (1 : Nat) ≤ a_4.cap →
  cap = a_4.cap) →
  InR IntKind.i64 ((↑a_4.i : Int) + (1 : Int)) ∧
  ∃ (a' : CvS), (↑a_4.i : Int) + (1 : Int) = (↑a'.i : Int) ∧
  Bool.false = a'.first ∧
  uw IntKind.u64 (toI (a.rows ((0 : Nat) + (↑a_4.i : Int).toNat) (0 : Nat)) + uw IntKind.u64 (↑a_4.i : Int)) = a'.last ∧
  ((0 : Nat) = (0 : Nat) ∧
  a_4.l.length + (1 : Nat) = a'.l.length ∧
  cap = a'.cap) ∧
  Bool.false = Bool.false ∧
  Bool.true = Bool.true ∧
  Bool.false = Bool.false ∧
  ((0 : Nat) = (0 : Nat) ∧
  a.n = a.n ∧
  a.cap = a.cap) ∧
  a.h = a.h ∧
  (a'.l.length ≤ a_4.l.length + (1 : Nat) ∧
  RowsEq a'.l.length (4 : Nat) (appRows (encRows encM a_4.l) (0 : Nat) a_4.l.length fun (i j : Nat) => flatRows (4 : Nat) [Value.int IntKind.u64 (toI (a.rows ((0 : Nat) + (↑a_4.i : Int).toNat) (0 : Nat))), Value.int IntKind.u64 (uw IntKind.u64 (toI (a.rows ((0 : Nat) + (↑a_4.i : Int).toNat) (0 : Nat)) + uw IntKind.u64 (↑a_4.i : Int))), Value.int IntKind.i64 ((1 : Int) + (↑a_4.i : Int).tmod (4 : Int)), Value.int IntKind.i64 (5 : Int)] ((0 : Nat) + i) j) (encRows encM a'.l)) ∧
  (a.n ≤ a.n ∧
  RowsEq a.n (1 : Nat) a.rows a.rows) ∧
  (a'.l.length ≤ a'.i ∧
  a'.i ≤ (12 : Nat)) ∧
  (12 : Nat) - a'.i < (12 : Nat) - a_4.i)))) ∧
  (Decidable.decide ((↑a_4.i : Int) < (12 : Int)) = Bool.false →
  ∃ (a_8 : CvS), (↑a_4.i : Int) = (↑a_8.i : Int) ∧
  a_4.first = a_8.first ∧
  a_4.last = a_8.last ∧
  ((0 : Nat) = (0 : Nat) ∧
  a_4.l.length = a_8.l.length ∧
  a_4.cap = a_8.cap) ∧
  Bool.false = Bool.false ∧
  Bool.true = Bool.true ∧
  Bool.false = Bool.false ∧
  ((0 : Nat) = (0 : Nat) ∧
  a.n = a.n ∧
  a.cap = a.cap) ∧
  a.h = a.h ∧
  (a_8.l.length ≤ a_4.l.length ∧
  RowsEq a_8.l.length (4 : Nat) (encRows encM a_4.l) (encRows encM a_8.l)) ∧
  (a.n ≤ a.n ∧
  RowsEq a.n (1 : Nat) a.rows a.rows) ∧
  (a_8.l.length ≤ a_8.i ∧
  a_8.i ≤ (12 : Nat)) ∧
  True)) ∧
  (Decidable.decide ((↑a_4.i : Int) < (↑a.n : Int)) = Bool.false →
  ∃ (a_7 : CvS), (↑a_4.i : Int) = (↑a_7.i : Int) ∧
  a_4.first = a_7.first ∧
  a_4.last = a_7.last ∧
  ((0 : Nat) = (0 : Nat) ∧
  a_4.l.length = a_7.l.length ∧
  a_4.cap = a_7.cap) ∧
  Bool.false = Bool.false ∧
  Bool.true = Bool.true ∧
  Bool.false = Bool.false ∧
  ((0 : Nat) = (0 : Nat) ∧
  a.n = a.n ∧
  a.cap = a.cap) ∧
  a.h = a.h ∧
  (a_7.l.length ≤ a_4.l.length ∧
  RowsEq a_7.l.length (4 : Nat) (encRows encM a_4.l) (encRows encM a_7.l)) ∧
  (a.n ≤ a.n ∧
  RowsEq a.n (1 : Nat) a.rows a.rows) ∧
  (a_7.l.length ≤ a_7.i ∧
  a_7.i ≤ (12 : Nat)) ∧
  True)) ∧
  ∀ (a_4 : CvS), a_4.l.length ≤ a_4.i ∧
  a_4.i ≤ (12 : Nat) →
  ∃ (a_6 : CovA), ((0 : Nat) = (0 : Nat) ∧
  a_4.l.length = a_6.l.length ∧
  a_4.cap = a_6.cap) ∧
  a.h = a_6.h ∧
  (a_6.l.length ≤ a_4.l.length ∧
  RowsEq a_6.l.length (4 : Nat) (encRows encM a_4.l) (encRows encM a_6.l)) ∧
  a_6.l.length < (100000 : Nat) ∧
  ∀ (b : Unit), True →
  (∃ (a_8 : Nat), (0 : Int) = (↑a_8 : Int) ∧
  covB a_6.l a_6.h = covB a_6.l a_6.h ∧
  (0 : Nat) = (0 : Nat) ∧
  (↑a_4.i : Int) = (↑a_4.i : Int) ∧
  a_4.first = a_4.first ∧
  a_4.last = a_4.last ∧
  ((0 : Nat) = (0 : Nat) ∧
  a_4.l.length = a_4.l.length ∧
  a_4.cap = a_4.cap) ∧
  Bool.false = Bool.false ∧
  Bool.true = Bool.true ∧
  Bool.false = Bool.false ∧
  ((0 : Nat) = (0 : Nat) ∧
  a.n = a.n ∧
  a.cap = a.cap) ∧
  a.h = a.h ∧
  (covM a_6.l a_6.h).f = (covM a_6.l a_6.h).f ∧
  (covM a_6.l a_6.h).t = (covM a_6.l a_6.h).t ∧
  (covM a_6.l a_6.h).s = (covM a_6.l a_6.h).s ∧
  (covM a_6.l a_6.h).d = (covM a_6.l a_6.h).d ∧
  (a_4.l.length ≤ a_4.l.length ∧
  RowsEq a_4.l.length (4 : Nat) (encRows encM a_4.l) (encRows encM a_4.l)) ∧
  (a.n ≤ a.n ∧
  RowsEq a.n (1 : Nat) a.rows a.rows) ∧
  (a_8 ≤ a_4.l.length ∧
  List.find? (inM a.h) (List.take a_8 a_4.l) = Option.none) ∧
  True) ∧
  ∀ (a_8 : Nat), a_8 ≤ a_4.l.length ∧
  List.find? (inM a.h) (List.take a_8 a_4.l) = Option.none →
  (Decidable.decide ((↑a_8 : Int) < (↑a_4.l.length : Int)) = Bool.true →
  ((0 : Int) ≤ (↑a_8 : Int) ∧
  (↑a_8 : Int) < (↑a_4.l.length : Int)) ∧
  (0 : Nat) + (↑a_8 : Int).toNat < a_4.l.length ∧
  (InR IntKind.u64 (gl a_4.l ((0 : Nat) + (↑a_8 : Int).toNat)).f →
  (Decidable.decide ((gl a_4.l ((0 : Nat) + (↑a_8 : Int).toNat)).f ≤ a.h) = Bool.true →
  ((0 : Int) ≤ (↑a_8 : Int) ∧
  (↑a_8 : Int) < (↑a_4.l.length : Int)) ∧
  (0 : Nat) + (↑a_8 : Int).toNat < a_4.l.length ∧
  (InR IntKind.u64 (gl a_4.l ((0 : Nat) + (↑a_8 : Int).toNat)).t →
  (Decidable.decide (a.h ≤ (gl a_4.l ((0 : Nat) + (↑a_8 : Int).toNat)).t) = Bool.true →
  (covB a_6.l a_6.h = Bool.true →
  InR IntKind.u64 (covM a_6.l a_6.h).f →
  ((0 : Int) ≤ (↑a_8 : Int) ∧
  (↑a_8 : Int) < (↑a_4.l.length : Int)) ∧
  (0 : Nat) + (↑a_8 : Int).toNat < a_4.l.length ∧
  (InR IntKind.u64 (gl a_4.l ((0 : Nat) + (↑a_8 : Int).toNat)).f →
  (((covM a_6.l a_6.h).f == (gl a_4.l ((0 : Nat) + (↑a_8 : Int).toNat)).f) = Bool.true →
  InR IntKind.i64 (covM a_6.l a_6.h).s →
  ((0 : Int) ≤ (↑a_8 : Int) ∧
  (↑a_8 : Int) < (↑a_4.l.length : Int)) ∧
  (0 : Nat) + (↑a_8 : Int).toNat < a_4.l.length ∧
  (InR IntKind.i64 (gl a_4.l ((0 : Nat) + (↑a_8 : Int).toNat)).s →
  ∃ (b : Unit), ((covM a_6.l a_6.h).s == (gl a_4.l ((0 : Nat) + (↑a_8 : Int).toNat)).s) = Bool.true ∧
  True ∧
  True)) ∧
  (((covM a_6.l a_6.h).f == (gl a_4.l ((0 : Nat) + (↑a_8 : Int).toNat)).f) = Bool.false →
  ∃ (b : Unit), Bool.false = Bool.true ∧
  True ∧
  True))) ∧
  (covB a_6.l a_6.h = Bool.false →
  ∃ (b : Unit), Bool.false = Bool.true ∧
  True ∧
  True)) ∧
  (Decidable.decide (a.h ≤ (gl a_4.l ((0 : Nat) + (↑a_8 : Int).toNat)).t) = Bool.false →
  InR IntKind.i64 ((↑a_8 : Int) + (1 : Int)) ∧
  ∃ (a' : Nat), (↑a_8 : Int) + (1 : Int) = (↑a' : Int) ∧
  covB a_6.l a_6.h = covB a_6.l a_6.h ∧
  (0 : Nat) = (0 : Nat) ∧
  (↑a_4.i : Int) = (↑a_4.i : Int) ∧
  a_4.first = a_4.first ∧
  a_4.last = a_4.last ∧
  ((0 : Nat) = (0 : Nat) ∧
  a_4.l.length = a_4.l.length ∧
  a_4.cap = a_4.cap) ∧
  Bool.false = Bool.false ∧
  Bool.true = Bool.true ∧
  Bool.false = Bool.false ∧
  ((0 : Nat) = (0 : Nat) ∧
  a.n = a.n ∧
  a.cap = a.cap) ∧
  a.h = a.h ∧
  (covM a_6.l a_6.h).f = (covM a_6.l a_6.h).f ∧
  (covM a_6.l a_6.h).t = (covM a_6.l a_6.h).t ∧
  (covM a_6.l a_6.h).s = (covM a_6.l a_6.h).s ∧
  (covM a_6.l a_6.h).d = (covM a_6.l a_6.h).d ∧
  (a_4.l.length ≤ a_4.l.length ∧
  RowsEq a_4.l.length (4 : Nat) (encRows encM a_4.l) (encRows encM a_4.l)) ∧
  (a.n ≤ a.n ∧
  RowsEq a.n (1 : Nat) a.rows a.rows) ∧
  (a' ≤ a_4.l.length ∧
  List.find? (inM a.h) (List.take a' a_4.l) = Option.none) ∧
  a_4.l.length - a' < a_4.l.length - a_8))) ∧
  (Decidable.decide ((gl a_4.l ((0 : Nat) + (↑a_8 : Int).toNat)).f ≤ a.h) = Bool.false →
  InR IntKind.i64 ((↑a_8 : Int) + (1 : Int)) ∧
  ∃ (a' : Nat), (↑a_8 : Int) + (1 : Int) = (↑a' : Int) ∧
  covB a_6.l a_6.h = covB a_6.l a_6.h ∧
  (0 : Nat) = (0 : Nat) ∧
  (↑a_4.i : Int) = (↑a_4.i : Int) ∧
  a_4.first = a_4.first ∧
  a_4.last = a_4.last ∧
  ((0 : Nat) = (0 : Nat) ∧
  a_4.l.length = a_4.l.length ∧
  a_4.cap = a_4.cap) ∧
  Bool.false = Bool.false ∧
  Bool.true = Bool.true ∧
  Bool.false = Bool.false ∧
  ((0 : Nat) = (0 : Nat) ∧
  a.n = a.n ∧
  a.cap = a.cap) ∧
  a.h = a.h ∧
  (covM a_6.l a_6.h).f = (covM a_6.l a_6.h).f ∧
  (covM a_6.l a_6.h).t = (covM a_6.l a_6.h).t ∧
  (covM a_6.l a_6.h).s = (covM a_6.l a_6.h).s ∧
  (covM a_6.l a_6.h).d = (covM a_6.l a_6.h).d ∧
  (a_4.l.length ≤ a_4.l.length ∧
  RowsEq a_4.l.length (4 : Nat) (encRows encM a_4.l) (encRows encM a_4.l)) ∧
  (a.n ≤ a.n ∧
  RowsEq a.n (1 : Nat) a.rows a.rows) ∧
  (a' ≤ a_4.l.length ∧
  List.find? (inM a.h) (List.take a' a_4.l) = Option.none) ∧
  a_4.l.length - a' < a_4.l.length - a_8))) ∧
  (Decidable.decide ((↑a_8 : Int) < (↑a_4.l.length : Int)) = Bool.false →
  ((!covB a_6.l a_6.h) = Bool.true →
  InR IntKind.i64 (covM a_6.l a_6.h).s →
  ∃ (b : Unit), ((covM a_6.l a_6.h).s == (0 : Int)) = Bool.true ∧
  True ∧
  True) ∧
  ((!covB a_6.l a_6.h) = Bool.false →
  ∃ (b : Unit), Bool.false = Bool.true ∧
  True ∧
  True))) (by kernel_rfl) (by
  rintro ⟨n, cap, rows, h⟩ ⟨h1, h2⟩
  dsimp only at h1 h2 ⊢
  simp only [Nat.zero_add, Int.toNat_natCast, InR]
  refine ⟨(), trivial, fun _ _ => ⟨⟨⟨⟨[], 0, 0, true, 0⟩, ?_⟩, fun y hy => ?_⟩, fun y hy => ?_⟩⟩
  · ((repeat' apply And.intro) <;> first | with_reducible rfl | omega | (dsimp only; omega) | exact RowsEq.refl _ _ _ | assumption | rfl | trivial | exact Nat.le_refl _ | skip)
  · obtain ⟨y1, y2⟩ := hy
    have app : ∀ (v : Int) (c : Nat), RowsEq (y.l ++ [(⟨v, uw .u64 (v + uw .u64 (y.i : Int)), 1 + (y.i : Int).tmod 4, 5⟩ : MvR)]).length 4 (appRows (encRows encM y.l) 0 y.l.length fun (i j : Nat) => flatRows 4 [Go.Value.int .u64 v, Go.Value.int .u64 (uw .u64 (v + uw .u64 (y.i : Int))), Go.Value.int .i64 (1 + (y.i : Int).tmod 4), Go.Value.int .i64 5] i j) (encRows encM (y.l ++ [(⟨v, uw .u64 (v + uw .u64 (y.i : Int)), 1 + (y.i : Int).tmod 4, 5⟩ : MvR)])) := fun v c => .push rfl (by simp) rfl
    have hn : ∀ v : Int, (y.l ++ [(⟨v, uw .u64 (v + uw .u64 (y.i : Int)), 1 + (y.i : Int).tmod 4, 5⟩ : MvR)]).length = y.l.length + 1 := fun v => by simp
    have t4 : -4 < (y.i : Int).tmod 4 ∧ (y.i : Int).tmod 4 < 4 := ⟨Int.lt_tmod_of_pos _ (by decide), Int.tmod_lt_of_pos _ (by decide)⟩
    generalize (y.i : Int).tmod 4 = t at *
    refine ⟨fun c1 => ⟨fun c2 => ?_, fun c2 => ⟨y, ?_⟩⟩, fun c1 => ⟨y, ?_⟩⟩
    · simp only [decide_eq_true_eq] at c1 c2
      generalize toI (rows y.i 0) = v at *
      have app := app v
      have hn := hn v
      ((repeat' apply And.intro) <;> first | with_reducible rfl | omega | (dsimp only; omega) | exact RowsEq.refl _ _ _ | assumption | rfl | trivial | exact Nat.le_refl _ | skip)
      refine fun _ => ⟨fun c3 => ⟨fun c4 => ⟨by omega, ⟨y.l, y.cap, y.last, y.first, y.i + 1⟩, ?_⟩, fun c4 => ⟨fun c5 => ⟨by omega, ⟨y.l, y.cap, y.last, y.first, y.i + 1⟩, ?_⟩, fun c5 => ?_⟩⟩, fun c3 => ⟨fun c5 => ⟨by omega, ⟨y.l, y.cap, y.last, y.first, y.i + 1⟩, ?_⟩, fun c5 => ?_⟩⟩
      · ((repeat' apply And.intro) <;> first | with_reducible rfl | omega | (dsimp only; omega) | exact RowsEq.refl _ _ _ | assumption | rfl | trivial | exact Nat.le_refl _ | skip)
      · ((repeat' apply And.intro) <;> first | with_reducible rfl | omega | (dsimp only; omega) | exact RowsEq.refl _ _ _ | assumption | rfl | trivial | exact Nat.le_refl _ | skip)
      · ((repeat' apply And.intro) <;> first | with_reducible rfl | omega | (dsimp only; omega) | exact RowsEq.refl _ _ _ | assumption | rfl | trivial | exact Nat.le_refl _ | skip)
        refine fun c _ _ _ => ⟨by omega, ⟨y.l ++ [⟨v, uw .u64 (v + uw .u64 (y.i : Int)), 1 + t, 5⟩], c, uw .u64 (v + uw .u64 (y.i : Int)), false, y.i + 1⟩, ?_⟩
        dsimp only
        have app := app c
        ((repeat' apply And.intro) <;> first | with_reducible rfl | omega | (dsimp only; omega) | exact RowsEq.refl _ _ _ | assumption | rfl | trivial | exact Nat.le_refl _ | skip)
      · ((repeat' apply And.intro) <;> first | with_reducible rfl | omega | (dsimp only; omega) | exact RowsEq.refl _ _ _ | assumption | rfl | trivial | exact Nat.le_refl _ | skip)
      · ((repeat' apply And.intro) <;> first | with_reducible rfl | omega | (dsimp only; omega) | exact RowsEq.refl _ _ _ | assumption | rfl | trivial | exact Nat.le_refl _ | skip)
        refine fun c _ _ _ => ⟨by omega, ⟨y.l ++ [⟨v, uw .u64 (v + uw .u64 (y.i : Int)), 1 + t, 5⟩], c, uw .u64 (v + uw .u64 (y.i : Int)), false, y.i + 1⟩, ?_⟩
        dsimp only
        have app := app c
        ((repeat' apply And.intro) <;> first | with_reducible rfl | omega | (dsimp only; omega) | exact RowsEq.refl _ _ _ | assumption | rfl | trivial | exact Nat.le_refl _ | skip)
    · ((repeat' apply And.intro) <;> first | with_reducible rfl | omega | (dsimp only; omega) | exact RowsEq.refl _ _ _ | assumption | rfl | trivial | exact Nat.le_refl _ | skip)
    · ((repeat' apply And.intro) <;> first | with_reducible rfl | omega | (dsimp only; omega) | exact RowsEq.refl _ _ _ | assumption | rfl | trivial | exact Nat.le_refl _ | skip)
  · obtain ⟨y1, y2⟩ := hy
    refine ⟨⟨y.l, y.cap, h⟩, ?_⟩
    ((repeat' apply And.intro) <;> first | with_reducible rfl | omega | (dsimp only; omega) | exact RowsEq.refl _ _ _ | assumption | rfl | trivial | exact Nat.le_refl _ | skip)
    dsimp only
    refine fun _ _ => ⟨⟨0, ?_⟩, fun i ⟨i1, i2⟩ => ⟨fun c1 => ?_, fun c1 => ?_⟩⟩
    · ((repeat' apply And.intro) <;> first | with_reducible rfl | omega | (dsimp only; omega) | exact RowsEq.refl _ _ _ | assumption | rfl | trivial | exact Nat.le_refl _ | skip)
    · simp only [decide_eq_true_eq] at c1
      have hi : i < y.l.length := by omega
      have hit : inM h (gl y.l i) = true → y.l.find? (inM h) = some (gl y.l i) := fun g => by
        refine find_take (k := i + 1) ?_
        rw [take_succ_gl hi, List.find?_append, i2]
        simp [g]
      have mis : inM h (gl y.l i) = false → (y.l.take (i + 1)).find? (inM h) = none := fun g => by
        rw [take_succ_gl hi, List.find?_append, i2]
        simp [g]
      ((repeat' apply And.intro) <;> first | with_reducible rfl | omega | (dsimp only; omega) | exact RowsEq.refl _ _ _ | assumption | rfl | trivial | exact Nat.le_refl _ | skip)
      refine fun _ => ⟨fun c2 => ?_, fun c2 => ⟨by omega, i + 1, ?_⟩⟩
      · ((repeat' apply And.intro) <;> first | with_reducible rfl | omega | (dsimp only; omega) | exact RowsEq.refl _ _ _ | assumption | rfl | trivial | exact Nat.le_refl _ | skip)
        refine fun _ => ⟨fun c3 => ?_, fun c3 => ⟨by omega, i + 1, ?_⟩⟩
        · obtain ⟨e1, e2⟩ := cov_some (hit (by unfold inM; rw [c2, c3]; rfl))
          rw [e1, e2]
          refine ⟨fun _ _ => ?_, fun g => (by simp at g)⟩
          ((repeat' apply And.intro) <;> first | with_reducible rfl | omega | (dsimp only; omega) | exact RowsEq.refl _ _ _ | assumption | rfl | trivial | exact Nat.le_refl _ | skip)
          refine fun _ => ⟨fun _ _ => ?_, fun g => (by simp at g)⟩
          ((repeat' apply And.intro) <;> first | with_reducible rfl | omega | (dsimp only; omega) | exact RowsEq.refl _ _ _ | assumption | rfl | trivial | exact Nat.le_refl _ | skip)
          exact fun _ => ⟨(), by simp, trivial, trivial⟩
        · have e := mis (by unfold inM; rw [c3]; simp)
          ((repeat' apply And.intro) <;> first | with_reducible rfl | omega | (dsimp only; omega) | exact RowsEq.refl _ _ _ | assumption | rfl | trivial | exact Nat.le_refl _ | skip)
      · have e := mis (by unfold inM; rw [c2]; simp)
        ((repeat' apply And.intro) <;> first | with_reducible rfl | omega | (dsimp only; omega) | exact RowsEq.refl _ _ _ | assumption | rfl | trivial | exact Nat.le_refl _ | skip)
    · simp only [decide_eq_false_iff_not] at c1
      have hi : i = y.l.length := by omega
      rw [hi, List.take_length] at i2
      obtain ⟨e1, e2⟩ := cov_none i2
      rw [e1, e2]
      refine ⟨fun _ _ => ⟨(), by simp, trivial, trivial⟩, fun g => (by simp at g)⟩)

/-! ### PlanAll -/

structure AllA where
  a : Int
  b : Int
  n : Nat
  cap : Nat
  rows : Nat → Nat → Value
noncomputable def cAll : Con where
  α := AllA
  β := Unit
  m := 1
  m' := 1
  pre := fun a => a.n ≤ a.cap ∧ a.cap ≤ lenMax
  args := fun a => [.a (.int .i64 a.a), .a (.int .i64 a.b), .a (.slc 0 0 1 a.n a.cap)]
  hp := fun _ => []
  ro := fun a => [(0, .arr 30 [.int .u64] a.n a.rows)]
  post := fun _ _ => True
  res := fun _ _ => .a .tt
  hp' := fun _ _ => []
noncomputable def plA (x : AllA) : List MvR := planL (ptsOf (bitsTo x.a 5)) (ptsOf (bitsTo x.b 5))
def cStay (key : Nat) (lo cu : List An) : An := .mk key Unit (fun s _ => s) (fun _ _ => True) (fun _ _ => 0) fun _ => .mk 60 lo cu
def iAll3 : An := .flat 15 Nat (fun s i => s.int 127 i) (fun _ i => i ≤ 3) (fun _ i => 3 - i)
noncomputable def iAll1 (x : AllA) : An := .mk 9 Nat (fun s i => s.int 11 i) (fun _ i => i ≤ (plA x).length) (fun _ i => (plA x).length - i) fun _ => .mk 60 [] [cStay 14 [iAll3] []]
noncomputable def iAll2 (x : AllA) : An := .mk 21 Nat (fun s i => s.int 15 i) (fun _ i => i ≤ x.n ∧ i ≤ 20) (fun _ i => 20 - i) fun _ => .mk 60 [] [cStay 22 [] []]
set_option maxHeartbeats 4000000 in
theorem bodyAll : fnBody (Y Try.prog) tabPl 3 cAll fun x => [(3, [iAll1 x, iAll2 x], [])] := fnBody.of (p :=
  ∀ (a : AllA), a.n ≤ a.cap ∧
  a.cap ≤ lenMax →
  ∃ (a_2 : Unit), True ∧
  ∀ (b : Unit), True →
  ∃ (a_4 : Int), a.a = a_4 ∧
  True ∧
  ∀ (b : Nat), True →
  ∃ (a_6 : Int), a.b = a_6 ∧
  True ∧
  ∀ (b_1 : Nat), True →
  (((↑(bitsTo a_4 (5 : Nat)).length : Int) == (0 : Int)) = Bool.true →
  ∃ (b : Unit), Bool.true = Bool.true ∧
  True ∧
  True) ∧
  (((↑(bitsTo a_4 (5 : Nat)).length : Int) == (0 : Int)) = Bool.false →
  (((↑(bitsTo a_6 (5 : Nat)).length : Int) == (0 : Int)) = Bool.true →
  ∃ (b : Unit), Bool.true = Bool.true ∧
  True ∧
  True) ∧
  (((↑(bitsTo a_6 (5 : Nat)).length : Int) == (0 : Int)) = Bool.false →
  ∃ (a_10 : NewA), (1 : Int) = a_10.e ∧
  ((0 : Nat) = (0 : Nat) ∧
  (bitsTo a_4 (5 : Nat)).length = a_10.l.length ∧
  b = a_10.cap) ∧
  (a_10.l.length ≤ (bitsTo a_4 (5 : Nat)).length ∧
  RowsEq a_10.l.length (1 : Nat) (encRows encI (bitsTo a_4 (5 : Nat))) (encRows encI a_10.l)) ∧
  ((1 : Int) ≤ a_10.e ∧
  a_10.e ≤ (1099511627776 : Int) ∧
  mayN a_10.l = Bool.true) ∧
  ∀ (b_2 : Nat × Nat), True →
  ∃ (a_12 : NewA), (2 : Int) = a_12.e ∧
  ((0 : Nat) = (0 : Nat) ∧
  (bitsTo a_6 (5 : Nat)).length = a_12.l.length ∧
  b_1 = a_12.cap) ∧
  (a_12.l.length ≤ (bitsTo a_6 (5 : Nat)).length ∧
  RowsEq a_12.l.length (1 : Nat) (encRows encI (bitsTo a_6 (5 : Nat))) (encRows encI a_12.l)) ∧
  ((1 : Int) ≤ a_12.e ∧
  a_12.e ≤ (1099511627776 : Int) ∧
  mayN a_12.l = Bool.true) ∧
  ∀ (b_3 : Nat × Nat), True →
  ∃ (a_14 : PlanA), (0 : Nat) = (0 : Nat) ∧
  (0 : Nat) = (0 : Nat) ∧
  a_10.e = a_14.a.e ∧
  ((0 : Nat) = (0 : Nat) ∧
  a_10.l.length = a_14.a.l.length ∧
  b_2.fst = a_14.a.c1) ∧
  ((0 : Nat) = (0 : Nat) ∧
  (ptsOf a_10.l).length = a_14.a.L.length ∧
  b_2.snd = a_14.a.c2) ∧
  (a_14.a.l.length ≤ a_10.l.length ∧
  RowsEq a_14.a.l.length (1 : Nat) (encRows encI a_10.l) (encRows encI a_14.a.l)) ∧
  (a_14.a.L.length ≤ (ptsOf a_10.l).length ∧
  RowsEq a_14.a.L.length (2 : Nat) (encRows encPt (ptsOf a_10.l)) (encRows encPt a_14.a.L)) ∧
  a_12.e = a_14.b.e ∧
  ((0 : Nat) = (0 : Nat) ∧
  a_12.l.length = a_14.b.l.length ∧
  b_3.fst = a_14.b.c1) ∧
  ((0 : Nat) = (0 : Nat) ∧
  (ptsOf a_12.l).length = a_14.b.L.length ∧
  b_3.snd = a_14.b.c2) ∧
  (a_14.b.l.length ≤ a_12.l.length ∧
  RowsEq a_14.b.l.length (1 : Nat) (encRows encI a_12.l) (encRows encI a_14.b.l)) ∧
  (a_14.b.L.length ≤ (ptsOf a_12.l).length ∧
  RowsEq a_14.b.L.length (2 : Nat) (encRows encPt (ptsOf a_12.l)) (encRows encPt a_14.b.L)) ∧
  ((1 : Nat) ≤ a_14.a.L.length ∧
  a_14.a.L.length ≤ (100 : Nat) ∧
  (1 : Nat) ≤ a_14.b.L.length ∧
  a_14.b.L.length ≤ (100 : Nat)) ∧
  ∀ (b_4 : Nat), True →
  (∃ (a_16 : Nat), (0 : Int) = (↑a_16 : Int) ∧
  ((0 : Nat) = (0 : Nat) ∧
  (planL a_14.a.L a_14.b.L).length = (planL a_14.a.L a_14.b.L).length ∧
  b_4 = b_4) ∧
  ((↑(bitsTo a_6 (5 : Nat)).length : Int) == (0 : Int)) = ((↑(bitsTo a_6 (5 : Nat)).length : Int) == (0 : Int)) ∧
  ((0 : Nat) = (0 : Nat) ∧
  (bitsTo a_6 (5 : Nat)).length = (bitsTo a_6 (5 : Nat)).length ∧
  b_1 = b_1) ∧
  ((0 : Nat) = (0 : Nat) ∧
  (bitsTo a_4 (5 : Nat)).length = (bitsTo a_4 (5 : Nat)).length ∧
  b = b) ∧
  Bool.false = Bool.false ∧
  Bool.true = Bool.true ∧
  Bool.false = Bool.false ∧
  a.a = a.a ∧
  a.b = a.b ∧
  ((0 : Nat) = (0 : Nat) ∧
  a.n = a.n ∧
  a.cap = a.cap) ∧
  ((planL a_14.a.L a_14.b.L).length ≤ (planL a_14.a.L a_14.b.L).length ∧
  RowsEq (planL a_14.a.L a_14.b.L).length (4 : Nat) (encRows encM (planL a_14.a.L a_14.b.L)) (encRows encM (planL a_14.a.L a_14.b.L))) ∧
  ((bitsTo a_6 (5 : Nat)).length ≤ (bitsTo a_6 (5 : Nat)).length ∧
  RowsEq (bitsTo a_6 (5 : Nat)).length (1 : Nat) (encRows encI (bitsTo a_6 (5 : Nat))) (encRows encI (bitsTo a_6 (5 : Nat)))) ∧
  ((bitsTo a_4 (5 : Nat)).length ≤ (bitsTo a_4 (5 : Nat)).length ∧
  RowsEq (bitsTo a_4 (5 : Nat)).length (1 : Nat) (encRows encI (bitsTo a_4 (5 : Nat))) (encRows encI (bitsTo a_4 (5 : Nat)))) ∧
  (a.n ≤ a.n ∧
  RowsEq a.n (1 : Nat) a.rows a.rows) ∧
  a_16 ≤ (plA a).length ∧
  True) ∧
  ∀ (a_16 : Nat), a_16 ≤ (plA a).length →
  (Decidable.decide ((↑a_16 : Int) < (↑(planL a_14.a.L a_14.b.L).length : Int)) = Bool.true →
  ((0 : Int) ≤ (↑a_16 : Int) ∧
  (↑a_16 : Int) < (↑(planL a_14.a.L a_14.b.L).length : Int)) ∧
  (0 : Nat) + (↑a_16 : Int).toNat < (planL a_14.a.L a_14.b.L).length ∧
  (InR IntKind.u64 (gl (planL a_14.a.L a_14.b.L) ((0 : Nat) + (↑a_16 : Int).toNat)).f →
  InR IntKind.u64 (gl (planL a_14.a.L a_14.b.L) ((0 : Nat) + (↑a_16 : Int).toNat)).t →
  (Decidable.decide ((gl (planL a_14.a.L a_14.b.L) ((0 : Nat) + (↑a_16 : Int).toNat)).t < (gl (planL a_14.a.L a_14.b.L) ((0 : Nat) + (↑a_16 : Int).toNat)).f) = Bool.true →
  ∃ (b : Unit), Bool.false = Bool.true ∧
  True ∧
  True) ∧
  (Decidable.decide ((gl (planL a_14.a.L a_14.b.L) ((0 : Nat) + (↑a_16 : Int).toNat)).t < (gl (planL a_14.a.L a_14.b.L) ((0 : Nat) + (↑a_16 : Int).toNat)).f) = Bool.false →
  (Decidable.decide ((0 : Int) < (↑a_16 : Int)) = Bool.true →
  InR IntKind.u64 (gl (planL a_14.a.L a_14.b.L) ((0 : Nat) + (↑a_16 : Int).toNat)).f →
  InR IntKind.i64 ((↑a_16 : Int) - (1 : Int)) ∧
  ((0 : Int) ≤ (↑a_16 : Int) - (1 : Int) ∧
  (↑a_16 : Int) - (1 : Int) < (↑(planL a_14.a.L a_14.b.L).length : Int)) ∧
  (0 : Nat) + ((↑a_16 : Int) - (1 : Int)).toNat < (planL a_14.a.L a_14.b.L).length ∧
  (InR IntKind.u64 (gl (planL a_14.a.L a_14.b.L) ((0 : Nat) + ((↑a_16 : Int) - (1 : Int)).toNat)).t →
  (Decidable.decide ((gl (planL a_14.a.L a_14.b.L) ((0 : Nat) + (↑a_16 : Int).toNat)).f ≤ (gl (planL a_14.a.L a_14.b.L) ((0 : Nat) + ((↑a_16 : Int) - (1 : Int)).toNat)).t) = Bool.true →
  ∃ (b : Unit), Bool.false = Bool.true ∧
  True ∧
  True) ∧
  (Decidable.decide ((gl (planL a_14.a.L a_14.b.L) ((0 : Nat) + (↑a_16 : Int).toNat)).f ≤ (gl (planL a_14.a.L a_14.b.L) ((0 : Nat) + ((↑a_16 : Int) - (1 : Int)).toNat)).t) = Bool.false →
  InR IntKind.u64 (gl (planL a_14.a.L a_14.b.L) ((0 : Nat) + (↑a_16 : Int).toNat)).f →
  InR IntKind.i64 ((↑a_16 : Int) - (1 : Int)) ∧
  ((0 : Int) ≤ (↑a_16 : Int) - (1 : Int) ∧
  (↑a_16 : Int) - (1 : Int) < (↑(planL a_14.a.L a_14.b.L).length : Int)) ∧
  (0 : Nat) + ((↑a_16 : Int) - (1 : Int)).toNat < (planL a_14.a.L a_14.b.L).length ∧
  (InR IntKind.u64 (gl (planL a_14.a.L a_14.b.L) ((0 : Nat) + ((↑a_16 : Int) - (1 : Int)).toNat)).t →
  ((uw IntKind.u64 ((gl (planL a_14.a.L a_14.b.L) ((0 : Nat) + (↑a_16 : Int).toNat)).f - (1 : Int)) == (gl (planL a_14.a.L a_14.b.L) ((0 : Nat) + ((↑a_16 : Int) - (1 : Int)).toNat)).t) = Bool.true →
  InR IntKind.i64 (gl (planL a_14.a.L a_14.b.L) ((0 : Nat) + (↑a_16 : Int).toNat)).s →
  InR IntKind.i64 ((↑a_16 : Int) - (1 : Int)) ∧
  ((0 : Int) ≤ (↑a_16 : Int) - (1 : Int) ∧
  (↑a_16 : Int) - (1 : Int) < (↑(planL a_14.a.L a_14.b.L).length : Int)) ∧
  (0 : Nat) + ((↑a_16 : Int) - (1 : Int)).toNat < (planL a_14.a.L a_14.b.L).length ∧
  (InR IntKind.i64 (gl (planL a_14.a.L a_14.b.L) ((0 : Nat) + ((↑a_16 : Int) - (1 : Int)).toNat)).s →
  (((gl (planL a_14.a.L a_14.b.L) ((0 : Nat) + (↑a_16 : Int).toNat)).s == (gl (planL a_14.a.L a_14.b.L) ((0 : Nat) + ((↑a_16 : Int) - (1 : Int)).toNat)).s) = Bool.true →
  InR IntKind.i64 (gl (planL a_14.a.L a_14.b.L) ((0 : Nat) + (↑a_16 : Int).toNat)).d →
  InR IntKind.i64 ((↑a_16 : Int) - (1 : Int)) ∧
  ((0 : Int) ≤ (↑a_16 : Int) - (1 : Int) ∧
  (↑a_16 : Int) - (1 : Int) < (↑(planL a_14.a.L a_14.b.L).length : Int)) ∧
  (0 : Nat) + ((↑a_16 : Int) - (1 : Int)).toNat < (planL a_14.a.L a_14.b.L).length ∧
  (InR IntKind.i64 (gl (planL a_14.a.L a_14.b.L) ((0 : Nat) + ((↑a_16 : Int) - (1 : Int)).toNat)).d →
  (((gl (planL a_14.a.L a_14.b.L) ((0 : Nat) + (↑a_16 : Int).toNat)).d == (gl (planL a_14.a.L a_14.b.L) ((0 : Nat) + ((↑a_16 : Int) - (1 : Int)).toNat)).d) = Bool.true →
  ∃ (b : Unit), Bool.false = Bool.true ∧
  True ∧
  True) ∧
  (((gl (planL a_14.a.L a_14.b.L) ((0 : Nat) + (↑a_16 : Int).toNat)).d == (gl (planL a_14.a.L a_14.b.L) ((0 : Nat) + ((↑a_16 : Int) - (1 : Int)).toNat)).d) = Bool.false →
  InR IntKind.i64 (gl (planL a_14.a.L a_14.b.L) ((0 : Nat) + (↑a_16 : Int).toNat)).s →
  InR IntKind.i64 (gl (planL a_14.a.L a_14.b.L) ((0 : Nat) + (↑a_16 : Int).toNat)).d →
  (((gl (planL a_14.a.L a_14.b.L) ((0 : Nat) + (↑a_16 : Int).toNat)).s == (gl (planL a_14.a.L a_14.b.L) ((0 : Nat) + (↑a_16 : Int).toNat)).d) = Bool.true →
  ∃ (b : Unit), Bool.false = Bool.true ∧
  True ∧
  True) ∧
  (((gl (planL a_14.a.L a_14.b.L) ((0 : Nat) + (↑a_16 : Int).toNat)).s == (gl (planL a_14.a.L a_14.b.L) ((0 : Nat) + (↑a_16 : Int).toNat)).d) = Bool.false →
  ∃ (a_38 : Unit), (0 : Nat) = (0 : Nat) ∧
  Decidable.decide ((↑a_16 : Int) < (↑(planL a_14.a.L a_14.b.L).length : Int)) = Decidable.decide ((↑a_16 : Int) < (↑(planL a_14.a.L a_14.b.L).length : Int)) ∧
  (↑a_16 : Int) = (↑a_16 : Int) ∧
  ((0 : Nat) = (0 : Nat) ∧
  (planL a_14.a.L a_14.b.L).length = (planL a_14.a.L a_14.b.L).length ∧
  b_4 = b_4) ∧
  ((↑(bitsTo a_6 (5 : Nat)).length : Int) == (0 : Int)) = ((↑(bitsTo a_6 (5 : Nat)).length : Int) == (0 : Int)) ∧
  ((0 : Nat) = (0 : Nat) ∧
  (bitsTo a_6 (5 : Nat)).length = (bitsTo a_6 (5 : Nat)).length ∧
  b_1 = b_1) ∧
  ((0 : Nat) = (0 : Nat) ∧
  (bitsTo a_4 (5 : Nat)).length = (bitsTo a_4 (5 : Nat)).length ∧
  b = b) ∧
  Bool.false = Bool.false ∧
  Bool.true = Bool.true ∧
  Bool.false = Bool.false ∧
  a.a = a.a ∧
  a.b = a.b ∧
  ((0 : Nat) = (0 : Nat) ∧
  a.n = a.n ∧
  a.cap = a.cap) ∧
  (gl (planL a_14.a.L a_14.b.L) ((0 : Nat) + (↑a_16 : Int).toNat)).f = (gl (planL a_14.a.L a_14.b.L) ((0 : Nat) + (↑a_16 : Int).toNat)).f ∧
  (gl (planL a_14.a.L a_14.b.L) ((0 : Nat) + (↑a_16 : Int).toNat)).t = (gl (planL a_14.a.L a_14.b.L) ((0 : Nat) + (↑a_16 : Int).toNat)).t ∧
  (gl (planL a_14.a.L a_14.b.L) ((0 : Nat) + (↑a_16 : Int).toNat)).s = (gl (planL a_14.a.L a_14.b.L) ((0 : Nat) + (↑a_16 : Int).toNat)).s ∧
  (gl (planL a_14.a.L a_14.b.L) ((0 : Nat) + (↑a_16 : Int).toNat)).d = (gl (planL a_14.a.L a_14.b.L) ((0 : Nat) + (↑a_16 : Int).toNat)).d ∧
  ((planL a_14.a.L a_14.b.L).length ≤ (planL a_14.a.L a_14.b.L).length ∧
  RowsEq (planL a_14.a.L a_14.b.L).length (4 : Nat) (encRows encM (planL a_14.a.L a_14.b.L)) (encRows encM (planL a_14.a.L a_14.b.L))) ∧
  ((bitsTo a_6 (5 : Nat)).length ≤ (bitsTo a_6 (5 : Nat)).length ∧
  RowsEq (bitsTo a_6 (5 : Nat)).length (1 : Nat) (encRows encI (bitsTo a_6 (5 : Nat))) (encRows encI (bitsTo a_6 (5 : Nat)))) ∧
  ((bitsTo a_4 (5 : Nat)).length ≤ (bitsTo a_4 (5 : Nat)).length ∧
  RowsEq (bitsTo a_4 (5 : Nat)).length (1 : Nat) (encRows encI (bitsTo a_4 (5 : Nat))) (encRows encI (bitsTo a_4 (5 : Nat)))) ∧
  (a.n ≤ a.n ∧
  RowsEq a.n (1 : Nat) a.rows a.rows) ∧
  True ∧
  True)))) ∧
  (((gl (planL a_14.a.L a_14.b.L) ((0 : Nat) + (↑a_16 : Int).toNat)).s == (gl (planL a_14.a.L a_14.b.L) ((0 : Nat) + ((↑a_16 : Int) - (1 : Int)).toNat)).s) = Bool.false →
  InR IntKind.i64 (gl (planL a_14.a.L a_14.b.L) ((0 : Nat) + (↑a_16 : Int).toNat)).s →
  InR IntKind.i64 (gl (planL a_14.a.L a_14.b.L) ((0 : Nat) + (↑a_16 : Int).toNat)).d →
  (((gl (planL a_14.a.L a_14.b.L) ((0 : Nat) + (↑a_16 : Int).toNat)).s == (gl (planL a_14.a.L a_14.b.L) ((0 : Nat) + (↑a_16 : Int).toNat)).d) = Bool.true →
  ∃ (b : Unit), Bool.false = Bool.true ∧
  True ∧
  True) ∧
  (((gl (planL a_14.a.L a_14.b.L) ((0 : Nat) + (↑a_16 : Int).toNat)).s == (gl (planL a_14.a.L a_14.b.L) ((0 : Nat) + (↑a_16 : Int).toNat)).d) = Bool.false →
  ∃ (a_35 : Unit), (0 : Nat) = (0 : Nat) ∧
  Decidable.decide ((↑a_16 : Int) < (↑(planL a_14.a.L a_14.b.L).length : Int)) = Decidable.decide ((↑a_16 : Int) < (↑(planL a_14.a.L a_14.b.L).length : Int)) ∧
  (↑a_16 : Int) = (↑a_16 : Int) ∧
  ((0 : Nat) = (0 : Nat) ∧
  (planL a_14.a.L a_14.b.L).length = (planL a_14.a.L a_14.b.L).length ∧
  b_4 = b_4) ∧
  ((↑(bitsTo a_6 (5 : Nat)).length : Int) == (0 : Int)) = ((↑(bitsTo a_6 (5 : Nat)).length : Int) == (0 : Int)) ∧
  ((0 : Nat) = (0 : Nat) ∧
  (bitsTo a_6 (5 : Nat)).length = (bitsTo a_6 (5 : Nat)).length ∧
  b_1 = b_1) ∧
  ((0 : Nat) = (0 : Nat) ∧
  (bitsTo a_4 (5 : Nat)).length = (bitsTo a_4 (5 : Nat)).length ∧
  b = b) ∧
  Bool.false = Bool.false ∧
  Bool.true = Bool.true ∧
  Bool.false = Bool.false ∧
  a.a = a.a ∧
  a.b = a.b ∧
  ((0 : Nat) = (0 : Nat) ∧
  a.n = a.n ∧
  a.cap = a.cap) ∧
  (gl (planL a_14.a.L a_14.b.L) ((0 : Nat) + (↑a_16 : Int).toNat)).f = (gl (planL a_14.a.L a_14.b.L) ((0 : Nat) + (↑a_16 : Int).toNat)).f ∧
  (gl (planL a_14.a.L a_14.b.L) ((0 : Nat) + (↑a_16 : Int).toNat)).t = (gl (planL a_14.a.L a_14.b.L) ((0 : Nat) + (↑a_16 : Int).toNat)).t ∧
  (gl (planL a_14.a.L a_14.b.L) ((0 : Nat) + (↑a_16 : Int).toNat)).s = (gl (planL a_14.a.L a_14.b.L) ((0 : Nat) + (↑a_16 : Int).toNat)).s ∧
  (gl (planL a_14.a.L a_14.b.L) ((0 : Nat) + (↑a_16 : Int).toNat)).d = (gl (planL a_14.a.L a_14.b.L) ((0 : Nat) + (↑a_16 : Int).toNat)).d ∧
  ((planL a_14.a.L a_14.b.L).length ≤ (planL a_14.a.L a_14.b.L).length ∧
  RowsEq (planL a_14.a.L a_14.b.L).length (4 : Nat) (encRows encM (planL a_14.a.L a_14.b.L)) (encRows encM (planL a_14.a.L a_14.b.L))) ∧
  ((bitsTo a_6 (5 : Nat)).length ≤ (bitsTo a_6 (5 : Nat)).length ∧
  RowsEq (bitsTo a_6 (5 : Nat)).length (1 : Nat) (encRows encI (bitsTo a_6 (5 : Nat))) (encRows encI (bitsTo a_6 (5 : Nat)))) ∧
  ((bitsTo a_4 (5 : Nat)).length ≤ (bitsTo a_4 (5 : Nat)).length ∧
  RowsEq (bitsTo a_4 (5 : Nat)).length (1 : Nat) (encRows encI (bitsTo a_4 (5 : Nat))) (encRows encI (bitsTo a_4 (5 : Nat)))) ∧
  (a.n ≤ a.n ∧
  RowsEq a.n (1 : Nat) a.rows a.rows) ∧
  True ∧
  True)))) ∧
  ((uw IntKind.u64 ((gl (planL a_14.a.L a_14.b.L) ((0 : Nat) + (↑a_16 : Int).toNat)).f - (1 : Int)) == (gl (planL a_14.a.L a_14.b.L) ((0 : Nat) + ((↑a_16 : Int) - (1 : Int)).toNat)).t) = Bool.false →
  InR IntKind.i64 (gl (planL a_14.a.L a_14.b.L) ((0 : Nat) + (↑a_16 : Int).toNat)).s →
  InR IntKind.i64 (gl (planL a_14.a.L a_14.b.L) ((0 : Nat) + (↑a_16 : Int).toNat)).d →
  (((gl (planL a_14.a.L a_14.b.L) ((0 : Nat) + (↑a_16 : Int).toNat)).s == (gl (planL a_14.a.L a_14.b.L) ((0 : Nat) + (↑a_16 : Int).toNat)).d) = Bool.true →
  ∃ (b : Unit), Bool.false = Bool.true ∧
  True ∧
  True) ∧
  (((gl (planL a_14.a.L a_14.b.L) ((0 : Nat) + (↑a_16 : Int).toNat)).s == (gl (planL a_14.a.L a_14.b.L) ((0 : Nat) + (↑a_16 : Int).toNat)).d) = Bool.false →
  ∃ (a_32 : Unit), (0 : Nat) = (0 : Nat) ∧
  Decidable.decide ((↑a_16 : Int) < (↑(planL a_14.a.L a_14.b.L).length : Int)) = Decidable.decide ((↑a_16 : Int) < (↑(planL a_14.a.L a_14.b.L).length : Int)) ∧
  (↑a_16 : Int) = (↑a_16 : Int) ∧
  ((0 : Nat) = (0 : Nat) ∧
  (planL a_14.a.L a_14.b.L).length = (planL a_14.a.L a_14.b.L).length ∧
  b_4 = b_4) ∧
  ((↑(bitsTo a_6 (5 : Nat)).length : Int) == (0 : Int)) = ((↑(bitsTo a_6 (5 : Nat)).length : Int) == (0 : Int)) ∧
  ((0 : Nat) = (0 : Nat) ∧
  (bitsTo a_6 (5 : Nat)).length = (bitsTo a_6 (5 : Nat)).length ∧
  b_1 = b_1) ∧
  ((0 : Nat) = (0 : Nat) ∧
  (bitsTo a_4 (5 : Nat)).length = (bitsTo a_4 (5 : Nat)).length ∧
  b = b) ∧
  Bool.false = Bool.false ∧
  Bool.true = Bool.true ∧
  Bool.false = Bool.false ∧
  a.a = a.a ∧
  a.b = a.b ∧
  ((0 : Nat) = (0 : Nat) ∧
  a.n = a.n ∧
  a.cap = a.cap) ∧
  (gl (planL a_14.a.L a_14.b.L) ((0 : Nat) + (↑a_16 : Int).toNat)).f = (gl (planL a_14.a.L a_14.b.L) ((0 : Nat) + (↑a_16 : Int).toNat)).f ∧
  (gl (planL a_14.a.L a_14.b.L) ((0 : Nat) + (↑a_16 : Int).toNat)).t = (gl (planL a_14.a.L a_14.b.L) ((0 : Nat) + (↑a_16 : Int).toNat)).t ∧
  (gl (planL a_14.a.L a_14.b.L) ((0 : Nat) + (↑a_16 : Int).toNat)).s = (gl (planL a_14.a.L a_14.b.L) ((0 : Nat) + (↑a_16 : Int).toNat)).s ∧
  (gl (planL a_14.a.L a_14.b.L) ((0 : Nat) + (↑a_16 : Int).toNat)).d = (gl (planL a_14.a.L a_14.b.L) ((0 : Nat) + (↑a_16 : Int).toNat)).d ∧
  ((planL a_14.a.L a_14.b.L).length ≤ (planL a_14.a.L a_14.b.L).length ∧
  RowsEq (planL a_14.a.L a_14.b.L).length (4 : Nat) (encRows encM (planL a_14.a.L a_14.b.L)) (encRows encM (planL a_14.a.L a_14.b.L))) ∧
  ((bitsTo a_6 (5 : Nat)).length ≤ (bitsTo a_6 (5 : Nat)).length ∧
  RowsEq (bitsTo a_6 (5 : Nat)).length (1 : Nat) (encRows encI (bitsTo a_6 (5 : Nat))) (encRows encI (bitsTo a_6 (5 : Nat)))) ∧
  ((bitsTo a_4 (5 : Nat)).length ≤ (bitsTo a_4 (5 : Nat)).length ∧
  RowsEq (bitsTo a_4 (5 : Nat)).length (1 : Nat) (encRows encI (bitsTo a_4 (5 : Nat))) (encRows encI (bitsTo a_4 (5 : Nat)))) ∧
  (a.n ≤ a.n ∧
  RowsEq a.n (1 : Nat) a.rows a.rows) ∧
  True ∧
  True)))))) ∧
  (Decidable.decide ((0 : Int) < (↑a_16 : Int)) = Bool.false →
  InR IntKind.i64 (gl (planL a_14.a.L a_14.b.L) ((0 : Nat) + (↑a_16 : Int).toNat)).s →
  InR IntKind.i64 (gl (planL a_14.a.L a_14.b.L) ((0 : Nat) + (↑a_16 : Int).toNat)).d →
  (((gl (planL a_14.a.L a_14.b.L) ((0 : Nat) + (↑a_16 : Int).toNat)).s == (gl (planL a_14.a.L a_14.b.L) ((0 : Nat) + (↑a_16 : Int).toNat)).d) = Bool.true →
  ∃ (b : Unit), Bool.false = Bool.true ∧
  True ∧
  True) ∧
  (((gl (planL a_14.a.L a_14.b.L) ((0 : Nat) + (↑a_16 : Int).toNat)).s == (gl (planL a_14.a.L a_14.b.L) ((0 : Nat) + (↑a_16 : Int).toNat)).d) = Bool.false →
  ∃ (a_26 : Unit), (0 : Nat) = (0 : Nat) ∧
  Decidable.decide ((↑a_16 : Int) < (↑(planL a_14.a.L a_14.b.L).length : Int)) = Decidable.decide ((↑a_16 : Int) < (↑(planL a_14.a.L a_14.b.L).length : Int)) ∧
  (↑a_16 : Int) = (↑a_16 : Int) ∧
  ((0 : Nat) = (0 : Nat) ∧
  (planL a_14.a.L a_14.b.L).length = (planL a_14.a.L a_14.b.L).length ∧
  b_4 = b_4) ∧
  ((↑(bitsTo a_6 (5 : Nat)).length : Int) == (0 : Int)) = ((↑(bitsTo a_6 (5 : Nat)).length : Int) == (0 : Int)) ∧
  ((0 : Nat) = (0 : Nat) ∧
  (bitsTo a_6 (5 : Nat)).length = (bitsTo a_6 (5 : Nat)).length ∧
  b_1 = b_1) ∧
  ((0 : Nat) = (0 : Nat) ∧
  (bitsTo a_4 (5 : Nat)).length = (bitsTo a_4 (5 : Nat)).length ∧
  b = b) ∧
  Bool.false = Bool.false ∧
  Bool.true = Bool.true ∧
  Bool.false = Bool.false ∧
  a.a = a.a ∧
  a.b = a.b ∧
  ((0 : Nat) = (0 : Nat) ∧
  a.n = a.n ∧
  a.cap = a.cap) ∧
  (gl (planL a_14.a.L a_14.b.L) ((0 : Nat) + (↑a_16 : Int).toNat)).f = (gl (planL a_14.a.L a_14.b.L) ((0 : Nat) + (↑a_16 : Int).toNat)).f ∧
  (gl (planL a_14.a.L a_14.b.L) ((0 : Nat) + (↑a_16 : Int).toNat)).t = (gl (planL a_14.a.L a_14.b.L) ((0 : Nat) + (↑a_16 : Int).toNat)).t ∧
  (gl (planL a_14.a.L a_14.b.L) ((0 : Nat) + (↑a_16 : Int).toNat)).s = (gl (planL a_14.a.L a_14.b.L) ((0 : Nat) + (↑a_16 : Int).toNat)).s ∧
  (gl (planL a_14.a.L a_14.b.L) ((0 : Nat) + (↑a_16 : Int).toNat)).d = (gl (planL a_14.a.L a_14.b.L) ((0 : Nat) + (↑a_16 : Int).toNat)).d ∧
  ((planL a_14.a.L a_14.b.L).length ≤ (planL a_14.a.L a_14.b.L).length ∧
  RowsEq (planL a_14.a.L a_14.b.L).length (4 : Nat) (encRows encM (planL a_14.a.L a_14.b.L)) (encRows encM (planL a_14.a.L a_14.b.L))) ∧
  ((bitsTo a_6 (5 : Nat)).length ≤ (bitsTo a_6 (5 : Nat)).length ∧
  RowsEq (bitsTo a_6 (5 : Nat)).length (1 : Nat) (encRows encI (bitsTo a_6 (5 : Nat))) (encRows encI (bitsTo a_6 (5 : Nat)))) ∧
  ((bitsTo a_4 (5 : Nat)).length ≤ (bitsTo a_4 (5 : Nat)).length ∧
  RowsEq (bitsTo a_4 (5 : Nat)).length (1 : Nat) (encRows encI (bitsTo a_4 (5 : Nat))) (encRows encI (bitsTo a_4 (5 : Nat)))) ∧
  (a.n ≤ a.n ∧
  RowsEq a.n (1 : Nat) a.rows a.rows) ∧
  True ∧
  True)))) ∧
  ∀ (a_19 : Unit), True →
  InR IntKind.u64 (gl (planL a_14.a.L a_14.b.L) ((0 : Nat) + (↑a_16 : Int).toNat)).f →
  InR IntKind.u64 (gl (planL a_14.a.L a_14.b.L) ((0 : Nat) + (↑a_16 : Int).toNat)).t →
  InR IntKind.u64 (gl (planL a_14.a.L a_14.b.L) ((0 : Nat) + (↑a_16 : Int).toNat)).f →
  InR IntKind.u64 (gl (planL a_14.a.L a_14.b.L) ((0 : Nat) + (↑a_16 : Int).toNat)).t →
  InR IntKind.u64 (gl (planL a_14.a.L a_14.b.L) ((0 : Nat) + (↑a_16 : Int).toNat)).f →
  (2 : Int) ≠ (0 : Int) ∧
  (∃ (a_26 : Nat), (0 : Int) = (↑a_26 : Int) ∧
  (3 : Int) = (3 : Int) ∧
  ((0 : Nat) = (0 : Nat) ∧
  (3 : Nat) = (3 : Nat) ∧
  (3 : Nat) = (3 : Nat)) ∧
  (0 : Nat) = (0 : Nat) ∧
  Decidable.decide ((↑a_16 : Int) < (↑(planL a_14.a.L a_14.b.L).length : Int)) = Decidable.decide ((↑a_16 : Int) < (↑(planL a_14.a.L a_14.b.L).length : Int)) ∧
  (↑a_16 : Int) = (↑a_16 : Int) ∧
  ((0 : Nat) = (0 : Nat) ∧
  (planL a_14.a.L a_14.b.L).length = (planL a_14.a.L a_14.b.L).length ∧
  b_4 = b_4) ∧
  ((↑(bitsTo a_6 (5 : Nat)).length : Int) == (0 : Int)) = ((↑(bitsTo a_6 (5 : Nat)).length : Int) == (0 : Int)) ∧
  ((0 : Nat) = (0 : Nat) ∧
  (bitsTo a_6 (5 : Nat)).length = (bitsTo a_6 (5 : Nat)).length ∧
  b_1 = b_1) ∧
  ((0 : Nat) = (0 : Nat) ∧
  (bitsTo a_4 (5 : Nat)).length = (bitsTo a_4 (5 : Nat)).length ∧
  b = b) ∧
  Bool.false = Bool.false ∧
  Bool.true = Bool.true ∧
  Bool.false = Bool.false ∧
  a.a = a.a ∧
  a.b = a.b ∧
  ((0 : Nat) = (0 : Nat) ∧
  a.n = a.n ∧
  a.cap = a.cap) ∧
  ((3 : Nat) ≤ (3 : Nat) ∧
  RowsEq (3 : Nat) (1 : Nat) (flatRows (1 : Nat) [Value.int IntKind.u64 (gl (planL a_14.a.L a_14.b.L) ((0 : Nat) + (↑a_16 : Int).toNat)).f, Value.int IntKind.u64 (gl (planL a_14.a.L a_14.b.L) ((0 : Nat) + (↑a_16 : Int).toNat)).t, Value.int IntKind.u64 (uw IntKind.u64 ((gl (planL a_14.a.L a_14.b.L) ((0 : Nat) + (↑a_16 : Int).toNat)).f + uw IntKind.u64 ((gl (planL a_14.a.L a_14.b.L) ((0 : Nat) + (↑a_16 : Int).toNat)).t - (gl (planL a_14.a.L a_14.b.L) ((0 : Nat) + (↑a_16 : Int).toNat)).f) / (2 : Int)))]) (flatRows (1 : Nat) [Value.int IntKind.u64 (gl (planL a_14.a.L a_14.b.L) ((0 : Nat) + (↑a_16 : Int).toNat)).f, Value.int IntKind.u64 (gl (planL a_14.a.L a_14.b.L) ((0 : Nat) + (↑a_16 : Int).toNat)).t, Value.int IntKind.u64 (uw IntKind.u64 ((gl (planL a_14.a.L a_14.b.L) ((0 : Nat) + (↑a_16 : Int).toNat)).f + uw IntKind.u64 ((gl (planL a_14.a.L a_14.b.L) ((0 : Nat) + (↑a_16 : Int).toNat)).t - (gl (planL a_14.a.L a_14.b.L) ((0 : Nat) + (↑a_16 : Int).toNat)).f) / (2 : Int)))])) ∧
  (gl (planL a_14.a.L a_14.b.L) ((0 : Nat) + (↑a_16 : Int).toNat)).f = (gl (planL a_14.a.L a_14.b.L) ((0 : Nat) + (↑a_16 : Int).toNat)).f ∧
  (gl (planL a_14.a.L a_14.b.L) ((0 : Nat) + (↑a_16 : Int).toNat)).t = (gl (planL a_14.a.L a_14.b.L) ((0 : Nat) + (↑a_16 : Int).toNat)).t ∧
  (gl (planL a_14.a.L a_14.b.L) ((0 : Nat) + (↑a_16 : Int).toNat)).s = (gl (planL a_14.a.L a_14.b.L) ((0 : Nat) + (↑a_16 : Int).toNat)).s ∧
  (gl (planL a_14.a.L a_14.b.L) ((0 : Nat) + (↑a_16 : Int).toNat)).d = (gl (planL a_14.a.L a_14.b.L) ((0 : Nat) + (↑a_16 : Int).toNat)).d ∧
  ((planL a_14.a.L a_14.b.L).length ≤ (planL a_14.a.L a_14.b.L).length ∧
  RowsEq (planL a_14.a.L a_14.b.L).length (4 : Nat) (encRows encM (planL a_14.a.L a_14.b.L)) (encRows encM (planL a_14.a.L a_14.b.L))) ∧
  ((bitsTo a_6 (5 : Nat)).length ≤ (bitsTo a_6 (5 : Nat)).length ∧
  RowsEq (bitsTo a_6 (5 : Nat)).length (1 : Nat) (encRows encI (bitsTo a_6 (5 : Nat))) (encRows encI (bitsTo a_6 (5 : Nat)))) ∧
  ((bitsTo a_4 (5 : Nat)).length ≤ (bitsTo a_4 (5 : Nat)).length ∧
  RowsEq (bitsTo a_4 (5 : Nat)).length (1 : Nat) (encRows encI (bitsTo a_4 (5 : Nat))) (encRows encI (bitsTo a_4 (5 : Nat)))) ∧
  (a.n ≤ a.n ∧
  RowsEq a.n (1 : Nat) a.rows a.rows) ∧
  a_26 ≤ (3 : Nat) ∧
  True) ∧
  ∀ (a_26 : Nat), a_26 ≤ (3 : Nat) →
  (Decidable.decide ((↑a_26 : Int) < (3 : Int)) = Bool.true →
  ((0 : Int) ≤ (↑a_26 : Int) ∧
  (↑a_26 : Int) < (3 : Int)) ∧
  (0 : Nat) + (↑a_26 : Int).toNat < (3 : Nat) ∧
  (InR IntKind.u64 (toI (flatRows (1 : Nat) [Value.int IntKind.u64 (gl (planL a_14.a.L a_14.b.L) ((0 : Nat) + (↑a_16 : Int).toNat)).f, Value.int IntKind.u64 (gl (planL a_14.a.L a_14.b.L) ((0 : Nat) + (↑a_16 : Int).toNat)).t, Value.int IntKind.u64 (uw IntKind.u64 ((gl (planL a_14.a.L a_14.b.L) ((0 : Nat) + (↑a_16 : Int).toNat)).f + uw IntKind.u64 ((gl (planL a_14.a.L a_14.b.L) ((0 : Nat) + (↑a_16 : Int).toNat)).t - (gl (planL a_14.a.L a_14.b.L) ((0 : Nat) + (↑a_16 : Int).toNat)).f) / (2 : Int)))] ((0 : Nat) + (↑a_26 : Int).toNat) (0 : Nat))) →
  InR IntKind.i64 (gl (planL a_14.a.L a_14.b.L) ((0 : Nat) + (↑a_16 : Int).toNat)).s →
  ∃ (a_31 : ROwnA), ((0 : Nat) = (0 : Nat) ∧
  (bitsTo a_4 (5 : Nat)).length = a_31.l.length ∧
  b = a_31.cap) ∧
  toI (flatRows (1 : Nat) [Value.int IntKind.u64 (gl (planL a_14.a.L a_14.b.L) ((0 : Nat) + (↑a_16 : Int).toNat)).f, Value.int IntKind.u64 (gl (planL a_14.a.L a_14.b.L) ((0 : Nat) + (↑a_16 : Int).toNat)).t, Value.int IntKind.u64 (uw IntKind.u64 ((gl (planL a_14.a.L a_14.b.L) ((0 : Nat) + (↑a_16 : Int).toNat)).f + uw IntKind.u64 ((gl (planL a_14.a.L a_14.b.L) ((0 : Nat) + (↑a_16 : Int).toNat)).t - (gl (planL a_14.a.L a_14.b.L) ((0 : Nat) + (↑a_16 : Int).toNat)).f) / (2 : Int)))] ((0 : Nat) + (↑a_26 : Int).toNat) (0 : Nat)) = a_31.h ∧
  (a_31.l.length ≤ (bitsTo a_4 (5 : Nat)).length ∧
  RowsEq a_31.l.length (1 : Nat) (encRows encI (bitsTo a_4 (5 : Nat))) (encRows encI a_31.l)) ∧
  a_31.l.length < (100000 : Nat) ∧
  ∀ (b_5 : Unit), True →
  ((refOwner a_31.l a_31.h != (gl (planL a_14.a.L a_14.b.L) ((0 : Nat) + (↑a_16 : Int).toNat)).s) = Bool.true →
  ∃ (b : Unit), Bool.false = Bool.true ∧
  True ∧
  True) ∧
  ((refOwner a_31.l a_31.h != (gl (planL a_14.a.L a_14.b.L) ((0 : Nat) + (↑a_16 : Int).toNat)).s) = Bool.false →
  InR IntKind.i64 (gl (planL a_14.a.L a_14.b.L) ((0 : Nat) + (↑a_16 : Int).toNat)).d →
  ∃ (a_35 : ROwnA), ((0 : Nat) = (0 : Nat) ∧
  (bitsTo a_6 (5 : Nat)).length = a_35.l.length ∧
  b_1 = a_35.cap) ∧
  toI (flatRows (1 : Nat) [Value.int IntKind.u64 (gl (planL a_14.a.L a_14.b.L) ((0 : Nat) + (↑a_16 : Int).toNat)).f, Value.int IntKind.u64 (gl (planL a_14.a.L a_14.b.L) ((0 : Nat) + (↑a_16 : Int).toNat)).t, Value.int IntKind.u64 (uw IntKind.u64 ((gl (planL a_14.a.L a_14.b.L) ((0 : Nat) + (↑a_16 : Int).toNat)).f + uw IntKind.u64 ((gl (planL a_14.a.L a_14.b.L) ((0 : Nat) + (↑a_16 : Int).toNat)).t - (gl (planL a_14.a.L a_14.b.L) ((0 : Nat) + (↑a_16 : Int).toNat)).f) / (2 : Int)))] ((0 : Nat) + (↑a_26 : Int).toNat) (0 : Nat)) = a_35.h ∧
  (a_35.l.length ≤ (bitsTo a_6 (5 : Nat)).length ∧
  RowsEq a_35.l.length (1 : Nat) (encRows encI (bitsTo a_6 (5 : Nat))) (encRows encI a_35.l)) ∧
  a_35.l.length < (100000 : Nat) ∧
  ∀ (b_6 : Unit), True →
  ((refOwner a_35.l a_35.h != (gl (planL a_14.a.L a_14.b.L) ((0 : Nat) + (↑a_16 : Int).toNat)).d) = Bool.true →
  ∃ (b : Unit), Bool.false = Bool.true ∧
  True ∧
  True) ∧
  ((refOwner a_35.l a_35.h != (gl (planL a_14.a.L a_14.b.L) ((0 : Nat) + (↑a_16 : Int).toNat)).d) = Bool.false →
  InR IntKind.i64 ((↑a_26 : Int) + (1 : Int)) ∧
  ∃ (a' : Nat), (↑a_26 : Int) + (1 : Int) = (↑a' : Int) ∧
  (3 : Int) = (3 : Int) ∧
  ((0 : Nat) = (0 : Nat) ∧
  (3 : Nat) = (3 : Nat) ∧
  (3 : Nat) = (3 : Nat)) ∧
  (0 : Nat) = (0 : Nat) ∧
  Decidable.decide ((↑a_16 : Int) < (↑(planL a_14.a.L a_14.b.L).length : Int)) = Decidable.decide ((↑a_16 : Int) < (↑(planL a_14.a.L a_14.b.L).length : Int)) ∧
  (↑a_16 : Int) = (↑a_16 : Int) ∧
  ((0 : Nat) = (0 : Nat) ∧
  (planL a_14.a.L a_14.b.L).length = (planL a_14.a.L a_14.b.L).length ∧
  b_4 = b_4) ∧
  ((↑(bitsTo a_6 (5 : Nat)).length : Int) == (0 : Int)) = ((↑(bitsTo a_6 (5 : Nat)).length : Int) == (0 : Int)) ∧
  ((0 : Nat) = (0 : Nat) ∧
  (bitsTo a_6 (5 : Nat)).length = (bitsTo a_6 (5 : Nat)).length ∧
  b_1 = b_1) ∧
  ((0 : Nat) = (0 : Nat) ∧
  (bitsTo a_4 (5 : Nat)).length = (bitsTo a_4 (5 : Nat)).length ∧
  b = b) ∧
  Bool.false = Bool.false ∧
  Bool.true = Bool.true ∧
  Bool.false = Bool.false ∧
  a.a = a.a ∧
  a.b = a.b ∧
  ((0 : Nat) = (0 : Nat) ∧
  a.n = a.n ∧
  a.cap = a.cap) ∧
  ((3 : Nat) ≤ (3 : Nat) ∧
  RowsEq (3 : Nat) (1 : Nat) (flatRows (1 : Nat) [Value.int IntKind.u64 (gl (planL a_14.a.L a_14.b.L) ((0 : Nat) + (↑a_16 : Int).toNat)).f, Value.int IntKind.u64 (gl (planL a_14.a.L a_14.b.L) ((0 : Nat) + (↑a_16 : Int).toNat)).t, Value.int IntKind.u64 (uw IntKind.u64 ((gl (planL a_14.a.L a_14.b.L) ((0 : Nat) + (↑a_16 : Int).toNat)).f + uw IntKind.u64 ((gl (planL a_14.a.L a_14.b.L) ((0 : Nat) + (↑a_16 : Int).toNat)).t - (gl (planL a_14.a.L a_14.b.L) ((0 : Nat) + (↑a_16 : Int).toNat)).f) / (2 : Int)))]) (flatRows (1 : Nat) [Value.int IntKind.u64 (gl (planL a_14.a.L a_14.b.L) ((0 : Nat) + (↑a_16 : Int).toNat)).f, Value.int IntKind.u64 (gl (planL a_14.a.L a_14.b.L) ((0 : Nat) + (↑a_16 : Int).toNat)).t, Value.int IntKind.u64 (uw IntKind.u64 ((gl (planL a_14.a.L a_14.b.L) ((0 : Nat) + (↑a_16 : Int).toNat)).f + uw IntKind.u64 ((gl (planL a_14.a.L a_14.b.L) ((0 : Nat) + (↑a_16 : Int).toNat)).t - (gl (planL a_14.a.L a_14.b.L) ((0 : Nat) + (↑a_16 : Int).toNat)).f) / (2 : Int)))])) ∧
  (gl (planL a_14.a.L a_14.b.L) ((0 : Nat) + (↑a_16 : Int).toNat)).f = (gl (planL a_14.a.L a_14.b.L) ((0 : Nat) + (↑a_16 : Int).toNat)).f ∧
  (gl (planL a_14.a.L a_14.b.L) ((0 : Nat) + (↑a_16 : Int).toNat)).t = (gl (planL a_14.a.L a_14.b.L) ((0 : Nat) + (↑a_16 : Int).toNat)).t ∧
  (gl (planL a_14.a.L a_14.b.L) ((0 : Nat) + (↑a_16 : Int).toNat)).s = (gl (planL a_14.a.L a_14.b.L) ((0 : Nat) + (↑a_16 : Int).toNat)).s ∧
  (gl (planL a_14.a.L a_14.b.L) ((0 : Nat) + (↑a_16 : Int).toNat)).d = (gl (planL a_14.a.L a_14.b.L) ((0 : Nat) + (↑a_16 : Int).toNat)).d ∧
  ((planL a_14.a.L a_14.b.L).length ≤ (planL a_14.a.L a_14.b.L).length ∧
  RowsEq (planL a_14.a.L a_14.b.L).length (4 : Nat) (encRows encM (planL a_14.a.L a_14.b.L)) (encRows encM (planL a_14.a.L a_14.b.L))) ∧
  ((bitsTo a_6 (5 : Nat)).length ≤ (bitsTo a_6 (5 : Nat)).length ∧
  RowsEq (bitsTo a_6 (5 : Nat)).length (1 : Nat) (encRows encI (bitsTo a_6 (5 : Nat))) (encRows encI (bitsTo a_6 (5 : Nat)))) ∧
  ((bitsTo a_4 (5 : Nat)).length ≤ (bitsTo a_4 (5 : Nat)).length ∧
  RowsEq (bitsTo a_4 (5 : Nat)).length (1 : Nat) (encRows encI (bitsTo a_4 (5 : Nat))) (encRows encI (bitsTo a_4 (5 : Nat)))) ∧
  (a.n ≤ a.n ∧
  RowsEq a.n (1 : Nat) a.rows a.rows) ∧
  a' ≤ (3 : Nat) ∧
  (3 : Nat) - a' < (3 : Nat) - a_26)))) ∧
  (Decidable.decide ((↑a_26 : Int) < (3 : Int)) = Bool.false →
  InR IntKind.i64 ((↑a_16 : Int) + (1 : Int)) ∧
  ∃ (a' : Nat), (↑a_16 : Int) + (1 : Int) = (↑a' : Int) ∧
  ((0 : Nat) = (0 : Nat) ∧
  (planL a_14.a.L a_14.b.L).length = (planL a_14.a.L a_14.b.L).length ∧
  b_4 = b_4) ∧
  ((↑(bitsTo a_6 (5 : Nat)).length : Int) == (0 : Int)) = ((↑(bitsTo a_6 (5 : Nat)).length : Int) == (0 : Int)) ∧
  ((0 : Nat) = (0 : Nat) ∧
  (bitsTo a_6 (5 : Nat)).length = (bitsTo a_6 (5 : Nat)).length ∧
  b_1 = b_1) ∧
  ((0 : Nat) = (0 : Nat) ∧
  (bitsTo a_4 (5 : Nat)).length = (bitsTo a_4 (5 : Nat)).length ∧
  b = b) ∧
  Bool.false = Bool.false ∧
  Bool.true = Bool.true ∧
  Bool.false = Bool.false ∧
  a.a = a.a ∧
  a.b = a.b ∧
  ((0 : Nat) = (0 : Nat) ∧
  a.n = a.n ∧
  a.cap = a.cap) ∧
  ((planL a_14.a.L a_14.b.L).length ≤ (planL a_14.a.L a_14.b.L).length ∧
  RowsEq (planL a_14.a.L a_14.b.L).length (4 : Nat) (encRows encM (planL a_14.a.L a_14.b.L)) (encRows encM (planL a_14.a.L a_14.b.L))) ∧
  ((bitsTo a_6 (5 : Nat)).length ≤ (bitsTo a_6 (5 : Nat)).length ∧
  RowsEq (bitsTo a_6 (5 : Nat)).length (1 : Nat) (encRows encI (bitsTo a_6 (5 : Nat))) (encRows encI (bitsTo a_6 (5 : Nat)))) ∧
  ((bitsTo a_4 (5 : Nat)).length ≤ (bitsTo a_4 (5 : Nat)).length ∧
  RowsEq (bitsTo a_4 (5 : Nat)).length (1 : Nat) (encRows encI (bitsTo a_4 (5 : Nat))) (encRows encI (bitsTo a_4 (5 : Nat)))) ∧
  (a.n ≤ a.n ∧
  RowsEq a.n (1 : Nat) a.rows a.rows) ∧
  a' ≤ (plA a).length ∧
  (plA a).length - a' < (plA a).length - a_16)) ∧
  (Decidable.decide ((↑a_16 : Int) < (↑(planL a_14.a.L a_14.b.L).length : Int)) = Bool.false →
  (∃ (a_19 : Nat), (0 : Int) = (↑a_19 : Int) ∧
  Decidable.decide ((↑a_16 : Int) < (↑(planL a_14.a.L a_14.b.L).length : Int)) = Decidable.decide ((↑a_16 : Int) < (↑(planL a_14.a.L a_14.b.L).length : Int)) ∧
  (↑a_16 : Int) = (↑a_16 : Int) ∧
  ((0 : Nat) = (0 : Nat) ∧
  (planL a_14.a.L a_14.b.L).length = (planL a_14.a.L a_14.b.L).length ∧
  b_4 = b_4) ∧
  ((↑(bitsTo a_6 (5 : Nat)).length : Int) == (0 : Int)) = ((↑(bitsTo a_6 (5 : Nat)).length : Int) == (0 : Int)) ∧
  ((0 : Nat) = (0 : Nat) ∧
  (bitsTo a_6 (5 : Nat)).length = (bitsTo a_6 (5 : Nat)).length ∧
  b_1 = b_1) ∧
  ((0 : Nat) = (0 : Nat) ∧
  (bitsTo a_4 (5 : Nat)).length = (bitsTo a_4 (5 : Nat)).length ∧
  b = b) ∧
  Bool.false = Bool.false ∧
  Bool.true = Bool.true ∧
  Bool.false = Bool.false ∧
  a.a = a.a ∧
  a.b = a.b ∧
  ((0 : Nat) = (0 : Nat) ∧
  a.n = a.n ∧
  a.cap = a.cap) ∧
  ((planL a_14.a.L a_14.b.L).length ≤ (planL a_14.a.L a_14.b.L).length ∧
  RowsEq (planL a_14.a.L a_14.b.L).length (4 : Nat) (encRows encM (planL a_14.a.L a_14.b.L)) (encRows encM (planL a_14.a.L a_14.b.L))) ∧
  ((bitsTo a_6 (5 : Nat)).length ≤ (bitsTo a_6 (5 : Nat)).length ∧
  RowsEq (bitsTo a_6 (5 : Nat)).length (1 : Nat) (encRows encI (bitsTo a_6 (5 : Nat))) (encRows encI (bitsTo a_6 (5 : Nat)))) ∧
  ((bitsTo a_4 (5 : Nat)).length ≤ (bitsTo a_4 (5 : Nat)).length ∧
  RowsEq (bitsTo a_4 (5 : Nat)).length (1 : Nat) (encRows encI (bitsTo a_4 (5 : Nat))) (encRows encI (bitsTo a_4 (5 : Nat)))) ∧
  (a.n ≤ a.n ∧
  RowsEq a.n (1 : Nat) a.rows a.rows) ∧
  (a_19 ≤ a.n ∧
  a_19 ≤ (20 : Nat)) ∧
  True) ∧
  ∀ (a_19 : Nat), a_19 ≤ a.n ∧
  a_19 ≤ (20 : Nat) →
  (Decidable.decide ((↑a_19 : Int) < (↑a.n : Int)) = Bool.true →
  (Decidable.decide ((↑a_19 : Int) < (20 : Int)) = Bool.true →
  (((0 : Int) ≤ (↑a_19 : Int) ∧
  (↑a_19 : Int) < (↑a.n : Int)) ∧
  (0 : Nat) + (↑a_19 : Int).toNat < a.n ∧
  (InR IntKind.u64 (toI (a.rows ((0 : Nat) + (↑a_19 : Int).toNat) (0 : Nat))) →
  ∃ (a_24 : CovA), ((0 : Nat) = (0 : Nat) ∧
  (planL a_14.a.L a_14.b.L).length = a_24.l.length ∧
  b_4 = a_24.cap) ∧
  toI (a.rows ((0 : Nat) + (↑a_19 : Int).toNat) (0 : Nat)) = a_24.h ∧
  (a_24.l.length ≤ (planL a_14.a.L a_14.b.L).length ∧
  RowsEq a_24.l.length (4 : Nat) (encRows encM (planL a_14.a.L a_14.b.L)) (encRows encM a_24.l)) ∧
  a_24.l.length < (100000 : Nat) ∧
  ∀ (b_5 : Unit), True →
  ∃ (a_26 : ROwnA), ((0 : Nat) = (0 : Nat) ∧
  (bitsTo a_4 (5 : Nat)).length = a_26.l.length ∧
  b = a_26.cap) ∧
  toI (a.rows ((0 : Nat) + (↑a_19 : Int).toNat) (0 : Nat)) = a_26.h ∧
  (a_26.l.length ≤ (bitsTo a_4 (5 : Nat)).length ∧
  RowsEq a_26.l.length (1 : Nat) (encRows encI (bitsTo a_4 (5 : Nat))) (encRows encI a_26.l)) ∧
  a_26.l.length < (100000 : Nat) ∧
  ∀ (b_6 : Unit), True →
  ∃ (a_28 : ROwnA), ((0 : Nat) = (0 : Nat) ∧
  (bitsTo a_6 (5 : Nat)).length = a_28.l.length ∧
  b_1 = a_28.cap) ∧
  toI (a.rows ((0 : Nat) + (↑a_19 : Int).toNat) (0 : Nat)) = a_28.h ∧
  (a_28.l.length ≤ (bitsTo a_6 (5 : Nat)).length ∧
  RowsEq a_28.l.length (1 : Nat) (encRows encI (bitsTo a_6 (5 : Nat))) (encRows encI a_28.l)) ∧
  a_28.l.length < (100000 : Nat) ∧
  ∀ (b_7 : Unit), True →
  ((!covB a_24.l a_24.h == (refOwner a_26.l a_26.h != refOwner a_28.l a_28.h)) = Bool.true →
  ∃ (b : Unit), Bool.false = Bool.true ∧
  True ∧
  True) ∧
  ((!covB a_24.l a_24.h == (refOwner a_26.l a_26.h != refOwner a_28.l a_28.h)) = Bool.false →
  (covB a_24.l a_24.h = Bool.true →
  InR IntKind.i64 (covM a_24.l a_24.h).s →
  (((covM a_24.l a_24.h).s != refOwner a_26.l a_26.h) = Bool.true →
  ∃ (b : Unit), Bool.false = Bool.true ∧
  True ∧
  True) ∧
  (((covM a_24.l a_24.h).s != refOwner a_26.l a_26.h) = Bool.false →
  InR IntKind.i64 (covM a_24.l a_24.h).d →
  (((covM a_24.l a_24.h).d != refOwner a_28.l a_28.h) = Bool.true →
  ∃ (b : Unit), Bool.false = Bool.true ∧
  True ∧
  True) ∧
  (((covM a_24.l a_24.h).d != refOwner a_28.l a_28.h) = Bool.false →
  InR IntKind.u64 (covM a_24.l a_24.h).f →
  (Decidable.decide (toI (a.rows ((0 : Nat) + (↑a_19 : Int).toNat) (0 : Nat)) < (covM a_24.l a_24.h).f) = Bool.true →
  ∃ (b : Unit), Bool.false = Bool.true ∧
  True ∧
  True) ∧
  (Decidable.decide (toI (a.rows ((0 : Nat) + (↑a_19 : Int).toNat) (0 : Nat)) < (covM a_24.l a_24.h).f) = Bool.false →
  InR IntKind.u64 (covM a_24.l a_24.h).t →
  (Decidable.decide ((covM a_24.l a_24.h).t < toI (a.rows ((0 : Nat) + (↑a_19 : Int).toNat) (0 : Nat))) = Bool.true →
  ∃ (b : Unit), Bool.false = Bool.true ∧
  True ∧
  True) ∧
  (Decidable.decide ((covM a_24.l a_24.h).t < toI (a.rows ((0 : Nat) + (↑a_19 : Int).toNat) (0 : Nat))) = Bool.false →
  ∃ (a_40 : Unit), Decidable.decide ((↑a_19 : Int) < (20 : Int)) = Decidable.decide ((↑a_19 : Int) < (20 : Int)) ∧
  (↑a_19 : Int) = (↑a_19 : Int) ∧
  Decidable.decide ((↑a_16 : Int) < (↑(planL a_14.a.L a_14.b.L).length : Int)) = Decidable.decide ((↑a_16 : Int) < (↑(planL a_14.a.L a_14.b.L).length : Int)) ∧
  (↑a_16 : Int) = (↑a_16 : Int) ∧
  ((0 : Nat) = (0 : Nat) ∧
  (planL a_14.a.L a_14.b.L).length = (planL a_14.a.L a_14.b.L).length ∧
  b_4 = b_4) ∧
  ((↑(bitsTo a_6 (5 : Nat)).length : Int) == (0 : Int)) = ((↑(bitsTo a_6 (5 : Nat)).length : Int) == (0 : Int)) ∧
  ((0 : Nat) = (0 : Nat) ∧
  (bitsTo a_6 (5 : Nat)).length = (bitsTo a_6 (5 : Nat)).length ∧
  b_1 = b_1) ∧
  ((0 : Nat) = (0 : Nat) ∧
  (bitsTo a_4 (5 : Nat)).length = (bitsTo a_4 (5 : Nat)).length ∧
  b = b) ∧
  Bool.false = Bool.false ∧
  Bool.true = Bool.true ∧
  Bool.false = Bool.false ∧
  a.a = a.a ∧
  a.b = a.b ∧
  ((0 : Nat) = (0 : Nat) ∧
  a.n = a.n ∧
  a.cap = a.cap) ∧
  ((planL a_14.a.L a_14.b.L).length ≤ (planL a_14.a.L a_14.b.L).length ∧
  RowsEq (planL a_14.a.L a_14.b.L).length (4 : Nat) (encRows encM (planL a_14.a.L a_14.b.L)) (encRows encM (planL a_14.a.L a_14.b.L))) ∧
  ((bitsTo a_6 (5 : Nat)).length ≤ (bitsTo a_6 (5 : Nat)).length ∧
  RowsEq (bitsTo a_6 (5 : Nat)).length (1 : Nat) (encRows encI (bitsTo a_6 (5 : Nat))) (encRows encI (bitsTo a_6 (5 : Nat)))) ∧
  ((bitsTo a_4 (5 : Nat)).length ≤ (bitsTo a_4 (5 : Nat)).length ∧
  RowsEq (bitsTo a_4 (5 : Nat)).length (1 : Nat) (encRows encI (bitsTo a_4 (5 : Nat))) (encRows encI (bitsTo a_4 (5 : Nat)))) ∧
  (a.n ≤ a.n ∧
  RowsEq a.n (1 : Nat) a.rows a.rows) ∧
  True ∧
  True))))) ∧
  (covB a_24.l a_24.h = Bool.false →
  ∃ (a_32 : Unit), Decidable.decide ((↑a_19 : Int) < (20 : Int)) = Decidable.decide ((↑a_19 : Int) < (20 : Int)) ∧
  (↑a_19 : Int) = (↑a_19 : Int) ∧
  Decidable.decide ((↑a_16 : Int) < (↑(planL a_14.a.L a_14.b.L).length : Int)) = Decidable.decide ((↑a_16 : Int) < (↑(planL a_14.a.L a_14.b.L).length : Int)) ∧
  (↑a_16 : Int) = (↑a_16 : Int) ∧
  ((0 : Nat) = (0 : Nat) ∧
  (planL a_14.a.L a_14.b.L).length = (planL a_14.a.L a_14.b.L).length ∧
  b_4 = b_4) ∧
  ((↑(bitsTo a_6 (5 : Nat)).length : Int) == (0 : Int)) = ((↑(bitsTo a_6 (5 : Nat)).length : Int) == (0 : Int)) ∧
  ((0 : Nat) = (0 : Nat) ∧
  (bitsTo a_6 (5 : Nat)).length = (bitsTo a_6 (5 : Nat)).length ∧
  b_1 = b_1) ∧
  ((0 : Nat) = (0 : Nat) ∧
  (bitsTo a_4 (5 : Nat)).length = (bitsTo a_4 (5 : Nat)).length ∧
  b = b) ∧
  Bool.false = Bool.false ∧
  Bool.true = Bool.true ∧
  Bool.false = Bool.false ∧
  a.a = a.a ∧
  a.b = a.b ∧
  ((0 : Nat) = (0 : Nat) ∧
  a.n = a.n ∧
  a.cap = a.cap) ∧
  ((planL a_14.a.L a_14.b.L).length ≤ (planL a_14.a.L a_14.b.L).length ∧
  RowsEq (planL a_14.a.L a_14.b.L).length (4 : Nat) (encRows encM (planL a_14.a.L a_14.b.L)) (encRows encM (planL a_14.a.L a_14.b.L))) ∧
  ((bitsTo a_6 (5 : Nat)).length ≤ (bitsTo a_6 (5 : Nat)).length ∧
  RowsEq (bitsTo a_6 (5 : Nat)).length (1 : Nat) (encRows encI (bitsTo a_6 (5 : Nat))) (encRows encI (bitsTo a_6 (5 : Nat)))) ∧
  ((bitsTo a_4 (5 : Nat)).length ≤ (bitsTo a_4 (5 : Nat)).length ∧
  RowsEq (bitsTo a_4 (5 : Nat)).length (1 : Nat) (encRows encI (bitsTo a_4 (5 : Nat))) (encRows encI (bitsTo a_4 (5 : Nat)))) ∧
  (a.n ≤ a.n ∧
  RowsEq a.n (1 : Nat) a.rows a.rows) ∧
  True ∧
  True)))) ∧
  ∀ (a_23 : Unit), True →
  InR IntKind.i64 ((↑a_19 : Int) + (1 : Int)) ∧
  ∃ (a' : Nat), (↑a_19 : Int) + (1 : Int) = (↑a' : Int) ∧
  Decidable.decide ((↑a_16 : Int) < (↑(planL a_14.a.L a_14.b.L).length : Int)) = Decidable.decide ((↑a_16 : Int) < (↑(planL a_14.a.L a_14.b.L).length : Int)) ∧
  (↑a_16 : Int) = (↑a_16 : Int) ∧
  ((0 : Nat) = (0 : Nat) ∧
  (planL a_14.a.L a_14.b.L).length = (planL a_14.a.L a_14.b.L).length ∧
  b_4 = b_4) ∧
  ((↑(bitsTo a_6 (5 : Nat)).length : Int) == (0 : Int)) = ((↑(bitsTo a_6 (5 : Nat)).length : Int) == (0 : Int)) ∧
  ((0 : Nat) = (0 : Nat) ∧
  (bitsTo a_6 (5 : Nat)).length = (bitsTo a_6 (5 : Nat)).length ∧
  b_1 = b_1) ∧
  ((0 : Nat) = (0 : Nat) ∧
  (bitsTo a_4 (5 : Nat)).length = (bitsTo a_4 (5 : Nat)).length ∧
  b = b) ∧
  Bool.false = Bool.false ∧
  Bool.true = Bool.true ∧
  Bool.false = Bool.false ∧
  a.a = a.a ∧
  a.b = a.b ∧
  ((0 : Nat) = (0 : Nat) ∧
  a.n = a.n ∧
  a.cap = a.cap) ∧
  ((planL a_14.a.L a_14.b.L).length ≤ (planL a_14.a.L a_14.b.L).length ∧
  RowsEq (planL a_14.a.L a_14.b.L).length (4 : Nat) (encRows encM (planL a_14.a.L a_14.b.L)) (encRows encM (planL a_14.a.L a_14.b.L))) ∧
  ((bitsTo a_6 (5 : Nat)).length ≤ (bitsTo a_6 (5 : Nat)).length ∧
  RowsEq (bitsTo a_6 (5 : Nat)).length (1 : Nat) (encRows encI (bitsTo a_6 (5 : Nat))) (encRows encI (bitsTo a_6 (5 : Nat)))) ∧
  ((bitsTo a_4 (5 : Nat)).length ≤ (bitsTo a_4 (5 : Nat)).length ∧
  RowsEq (bitsTo a_4 (5 : Nat)).length (1 : Nat) (encRows encI (bitsTo a_4 (5 : Nat))) (encRows encI (bitsTo a_4 (5 : Nat)))) ∧
  (a.n ≤ a.n ∧
  RowsEq a.n (1 : Nat) a.rows a.rows) ∧
  (a' ≤ a.n ∧
  a' ≤ (20 : Nat)) ∧
  (20 : Nat) - a' < (20 : Nat) - a_19) ∧
  (Decidable.decide ((↑a_19 : Int) < (20 : Int)) = Bool.false →
  ∃ (b : Unit), Bool.true = Bool.true ∧
  True ∧
  True)) ∧
  (Decidable.decide ((↑a_19 : Int) < (↑a.n : Int)) = Bool.false →
  ∃ (b : Unit), Bool.true = Bool.true ∧
  True ∧
  True))))) (by kernel_rfl) (by
  rintro x ⟨h1, h2⟩
  refine ⟨(), trivial, fun _ _ => ⟨x.a, ?_⟩⟩
  ((repeat' apply And.intro) <;> first | with_reducible rfl | omega | (dsimp only; omega) | exact RowsEq.refl _ _ _ | assumption | rfl | trivial | exact Nat.le_refl _ | skip)
  refine fun ba _ => ⟨x.b, ?_⟩
  ((repeat' apply And.intro) <;> first | with_reducible rfl | omega | (dsimp only; omega) | exact RowsEq.refl _ _ _ | assumption | rfl | trivial | exact Nat.le_refl _ | skip)
  refine fun bb _ => ⟨fun _ => ⟨(), rfl, trivial, trivial⟩, fun k1 => ⟨fun _ => ⟨(), rfl, trivial, trivial⟩, fun k2 => ⟨⟨1, bitsTo x.a 5, ba⟩, ?_⟩⟩⟩
  simp only [beq_eq_false_iff_ne] at k1 k2
  have la := bits_len x.a 5
  have lb := bits_len x.b 5
  have ma := bits_may (b := x.a) (by omega)
  have mb := bits_may (b := x.b) (by omega)
  have pa := ptsOf_length ma
  have pb := ptsOf_length mb
  have hg := plan_good (pts_in ma) (pts_in mb)
  have hx : plA x = planL (ptsOf (bitsTo x.a 5)) (ptsOf (bitsTo x.b 5)) := rfl
  have hll := plan_len (ptsOf (bitsTo x.a 5)) (ptsOf (bitsTo x.b 5))
  ((repeat' apply And.intro) <;> first | with_reducible rfl | omega | (dsimp only; omega) | exact RowsEq.refl _ _ _ | assumption | rfl | trivial | exact Nat.le_refl _ | skip)
  refine fun ra _ => ⟨⟨2, bitsTo x.b 5, bb⟩, ?_⟩
  ((repeat' apply And.intro) <;> first | with_reducible rfl | omega | (dsimp only; omega) | exact RowsEq.refl _ _ _ | assumption | rfl | trivial | exact Nat.le_refl _ | skip)
  refine fun rb _ => ⟨⟨⟨1, bitsTo x.a 5, ra.1, ptsOf (bitsTo x.a 5), ra.2⟩, ⟨2, bitsTo x.b 5, rb.1, ptsOf (bitsTo x.b 5), rb.2⟩⟩, ?_⟩
  ((repeat' apply And.intro) <;> first | with_reducible rfl | omega | (dsimp only; omega) | exact RowsEq.refl _ _ _ | assumption | rfl | trivial | exact Nat.le_refl _ | skip)
  refine fun pc _ => ?_
  dsimp only
  rw [hx]
  clear hx
  generalize planL (ptsOf (bitsTo x.a 5)) (ptsOf (bitsTo x.b 5)) = l at *
  simp only [Nat.zero_add, Int.toNat_natCast, InR]
  refine ⟨⟨0, ?_⟩, fun i hi => ⟨fun c1 => ?_, fun c1 => ⟨⟨0, ?_⟩, fun k hk => ⟨fun c2 => ⟨fun c3 => ?_, fun _ => ⟨(), trivial, trivial, trivial⟩⟩, fun _ => ⟨(), trivial, trivial, trivial⟩⟩⟩⟩⟩
  · ((repeat' apply And.intro) <;> first | with_reducible rfl | omega | (dsimp only; omega) | exact RowsEq.refl _ _ _ | assumption | rfl | trivial | exact Nat.le_refl _ | skip)
  · simp only [decide_eq_true_eq] at c1
    have hi : i < l.length := by omega
    have hgi := hg.le i hi
    have ho := hg.own i hi
    have hmax : maxU = 18446744073709551615 := rfl
    generalize em : gl l i = m at *
    obtain ⟨e1, e2, e3, e4⟩ := hgi
    refine ⟨by omega, by omega, fun _ _ => ⟨fun g => (by exfalso; simp only [decide_eq_true_eq] at g; omega), fun _ => ⟨fun g => ?_, fun _ _ _ => ⟨fun g => (by exfalso; simp only [beq_iff_eq] at g; omega), fun _ => ⟨(), ?_⟩⟩⟩⟩, fun _ _ _ _ _ _ _ => ?_⟩
    · simp only [decide_eq_true_eq] at g
      have ej : ((i : Int) - 1).toNat = i - 1 := by omega
      rw [ej]
      have hp := hg.ap (i - 1) (by omega)
      rw [show i - 1 + 1 = i by omega, em] at hp
      have hb := hg.le (i - 1) (by omega)
      generalize gl l (i - 1) = p at *
      have ew : uw .u64 (m.f - 1) = m.f - 1 := w64_id (by omega) (by omega)
      rw [ew]
      refine fun _ => ⟨by omega, by omega, by omega, fun _ => ⟨fun g => (by exfalso; simp only [decide_eq_true_eq] at g; omega), fun _ _ => ⟨by omega, by omega, by omega, fun _ => ⟨fun g1 _ => ⟨by omega, by omega, by omega, fun _ => ⟨fun g2 _ => ⟨by omega, by omega, by omega, fun _ => ⟨fun g3 => (by exfalso; simp only [beq_iff_eq] at g1 g2 g3; omega), fun _ _ _ => ⟨fun g => (by exfalso; simp only [beq_iff_eq] at g; omega), fun _ => ⟨(), ?_⟩⟩⟩⟩, fun _ _ _ => ⟨fun g => (by exfalso; simp only [beq_iff_eq] at g; omega), fun _ => ⟨(), ?_⟩⟩⟩⟩, fun _ _ _ => ⟨fun g => (by exfalso; simp only [beq_iff_eq] at g; omega), fun _ => ⟨(), ?_⟩⟩⟩⟩⟩⟩
      · ((repeat' apply And.intro) <;> first | with_reducible rfl | omega | (dsimp only; omega) | exact RowsEq.refl _ _ _ | assumption | rfl | trivial | exact Nat.le_refl _ | skip)
      · ((repeat' apply And.intro) <;> first | with_reducible rfl | omega | (dsimp only; omega) | exact RowsEq.refl _ _ _ | assumption | rfl | trivial | exact Nat.le_refl _ | skip)
      · ((repeat' apply And.intro) <;> first | with_reducible rfl | omega | (dsimp only; omega) | exact RowsEq.refl _ _ _ | assumption | rfl | trivial | exact Nat.le_refl _ | skip)
    · ((repeat' apply And.intro) <;> first | with_reducible rfl | omega | (dsimp only; omega) | exact RowsEq.refl _ _ _ | assumption | rfl | trivial | exact Nat.le_refl _ | skip)
    · have em : 0 ≤ uw .u64 (m.f + uw .u64 (m.t - m.f) / 2) ∧ m.f ≤ uw .u64 (m.f + uw .u64 (m.t - m.f) / 2) ∧ uw .u64 (m.f + uw .u64 (m.t - m.f) / 2) ≤ m.t := by
        rw [show uw .u64 (m.t - m.f) = m.t - m.f from w64_id (by omega) (by omega), show uw .u64 (m.f + (m.t - m.f) / 2) = m.f + (m.t - m.f) / 2 from w64_id (by omega) (by omega)]
        omega
      generalize uw .u64 (m.f + uw .u64 (m.t - m.f) / 2) = w at *
      refine ⟨by omega, ⟨0, ?_⟩, fun k hk => ⟨fun c2 => ?_, fun c2 => ?_⟩⟩
      · ((repeat' apply And.intro) <;> first | with_reducible rfl | omega | (dsimp only; omega) | exact RowsEq.refl _ _ _ | assumption | rfl | trivial | exact Nat.le_refl _ | skip)
      · simp only [decide_eq_true_eq] at c2
        have hv : m.f ≤ toI (flatRows 1 [.int .u64 m.f, .int .u64 m.t, .int .u64 w] k 0) ∧ toI (flatRows 1 [.int .u64 m.f, .int .u64 m.t, .int .u64 w] k 0) ≤ m.t := by
          match k, (show k < 3 by omega) with
          | 0, _ => exact ⟨Int.le_refl _, e2⟩
          | 1, _ => exact ⟨e2, Int.le_refl _⟩
          | 2, _ => exact em.2
        generalize toI (flatRows 1 [.int .u64 m.f, .int .u64 m.t, .int .u64 w] k 0) = v at *
        obtain ⟨o1, o2⟩ := ho v hv.1 hv.2
        refine ⟨by omega, by omega, fun _ _ => ⟨⟨bitsTo x.a 5, ba, v⟩, ?_⟩⟩
        ((repeat' apply And.intro) <;> first | with_reducible rfl | omega | (dsimp only; omega) | exact RowsEq.refl _ _ _ | assumption | rfl | trivial | exact Nat.le_refl _ | skip)
        dsimp only
        rw [← own_law ma, o1]
        refine fun _ _ => ⟨fun g => (by simp at g), fun _ _ => ⟨⟨bitsTo x.b 5, bb, v⟩, ?_⟩⟩
        ((repeat' apply And.intro) <;> first | with_reducible rfl | omega | (dsimp only; omega) | exact RowsEq.refl _ _ _ | assumption | rfl | trivial | exact Nat.le_refl _ | skip)
        dsimp only
        rw [← own_law mb, o2]
        refine fun _ _ => ⟨fun g => (by simp at g), fun _ => ⟨by omega, k + 1, ?_⟩⟩
        ((repeat' apply And.intro) <;> first | with_reducible rfl | omega | (dsimp only; omega) | exact RowsEq.refl _ _ _ | assumption | rfl | trivial | exact Nat.le_refl _ | skip)
      · refine ⟨by omega, i + 1, ?_⟩
        ((repeat' apply And.intro) <;> first | with_reducible rfl | omega | (dsimp only; omega) | exact RowsEq.refl _ _ _ | assumption | rfl | trivial | exact Nat.le_refl _ | skip)
  · ((repeat' apply And.intro) <;> first | with_reducible rfl | omega | (dsimp only; omega) | exact RowsEq.refl _ _ _ | assumption | rfl | trivial | exact Nat.le_refl _ | skip)
  · simp only [decide_eq_true_eq] at c2 c3
    refine ⟨⟨by omega, by omega, fun hh => ⟨⟨l, pc, toI (x.rows k 0)⟩, ?_⟩⟩, ?_⟩
    · generalize toI (x.rows k 0) = h at *
      ((repeat' apply And.intro) <;> first | with_reducible rfl | omega | (dsimp only; omega) | exact RowsEq.refl _ _ _ | assumption | rfl | trivial | exact Nat.le_refl _ | skip)
      refine fun _ _ => ⟨⟨bitsTo x.a 5, ba, h⟩, ?_⟩
      ((repeat' apply And.intro) <;> first | with_reducible rfl | omega | (dsimp only; omega) | exact RowsEq.refl _ _ _ | assumption | rfl | trivial | exact Nat.le_refl _ | skip)
      refine fun _ _ => ⟨⟨bitsTo x.b 5, bb, h⟩, ?_⟩
      ((repeat' apply And.intro) <;> first | with_reducible rfl | omega | (dsimp only; omega) | exact RowsEq.refl _ _ _ | assumption | rfl | trivial | exact Nat.le_refl _ | skip)
      dsimp only
      rw [← own_law ma, ← own_law mb]
      rcases cov_law hg hh.1 hh.2 with ⟨v1, v2, v3, v4, v5, v6⟩ | ⟨v1, v2, v3⟩
      · rw [v1, v5, v6]
        refine fun _ _ => ⟨fun g => absurd (by simpa using g) v2, fun _ => ⟨fun _ _ => ⟨fun g => (by simp at g), fun _ _ => ⟨fun g => (by simp at g), fun _ _ => ⟨fun g => (by exfalso; simp only [decide_eq_true_eq] at g; omega), fun _ _ => ⟨fun g => (by exfalso; simp only [decide_eq_true_eq] at g; omega), fun _ => ⟨(), ?_⟩⟩⟩⟩⟩, fun g => (by simp at g)⟩⟩
        ((repeat' apply And.intro) <;> first | with_reducible rfl | omega | (dsimp only; omega) | exact RowsEq.refl _ _ _ | assumption | rfl | trivial | exact Nat.le_refl _ | skip)
      · rw [v1, v2]
        refine fun _ _ => ⟨fun g => (by simp at g), fun _ => ⟨fun g => (by simp at g), fun _ => ⟨(), ?_⟩⟩⟩
        ((repeat' apply And.intro) <;> first | with_reducible rfl | omega | (dsimp only; omega) | exact RowsEq.refl _ _ _ | assumption | rfl | trivial | exact Nat.le_refl _ | skip)
    · refine fun _ _ => ⟨by omega, k + 1, ?_⟩
      ((repeat' apply And.intro) <;> first | with_reducible rfl | omega | (dsimp only; omega) | exact RowsEq.refl _ _ _ | assumption | rfl | trivial | exact Nat.le_refl _ | skip))

theorem instCv : ∀ ads, okADs [.slc 30 [.int .u64], .int .u64] ads → ∃ a : CvA, cCv.pre a ∧ cCv.args a = svs 0 ads ∧ cCv.ro a = chs 0 [.slc 30 [.int .u64], .int .u64] ads ∧ cCv.m = slcs ads := by
  rintro ads ⟨d, r, rfl, ⟨n, cap, rows, rfl, h1, h2, h3⟩, d2, r2, rfl, ⟨m, rfl, hm⟩, rfl⟩
  exact ⟨⟨n, cap, rows, m⟩, ⟨h1, h2⟩, rfl, rfl, rfl⟩
theorem instAll : ∀ ads, okADs [.int .i64, .int .i64, .slc 30 [.int .u64]] ads → ∃ a : AllA, cAll.pre a ∧ cAll.args a = svs 0 ads ∧ cAll.ro a = chs 0 [.int .i64, .int .i64, .slc 30 [.int .u64]] ads ∧ cAll.m = slcs ads := by
  rintro ads ⟨_, _, rfl, ⟨a, rfl, _⟩, _, _, rfl, ⟨b, rfl, _⟩, d, r, rfl, ⟨n, cap, rows, rfl, h1, h2, h3⟩, rfl⟩
  exact ⟨⟨a, b, n, cap, rows⟩, ⟨h1, h2⟩, rfl, rfl, rfl⟩
end Go.Proofs.Ythofnohpdbbidaa
