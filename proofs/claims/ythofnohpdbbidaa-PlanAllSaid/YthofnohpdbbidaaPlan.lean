/-
  The layer plan: what two rings' difference is told as. No condition but that lists are short.
-/
import Derived.Test.YthofnohpdbbidaaPlanC
namespace Go.Proofs.Ythofnohpdbbidaa
open Go.Sx
set_option maxRecDepth 100000
set_option linter.unusedVariables false

def maxU : Int := 18446744073709551615
structure PlS where
  l : List MvR
  from_ : Int
/-- the last one -/
def lastM (l : List MvR) : MvR := gl l (l.length - 1)
def joins (A B : List (Int × Int)) (y : PlS) (to : Int) : Prop := 0 < y.l.length ∧ w64 ((lastM y.l).t + 1) = y.from_ ∧ (lastM y.l).s = ownP A to ∧ (lastM y.l).d = ownP B to
instance (A B : List (Int × Int)) (y : PlS) (to : Int) : Decidable (joins A B y to) := by unfold joins; infer_instance
def stepP (A B : List (Int × Int)) (y : PlS) (to : Int) : PlS :=
  if ownP A to = ownP B to then ⟨y.l, w64 (to + 1)⟩
  else if joins A B y to then ⟨y.l.set (y.l.length - 1) ⟨(lastM y.l).f, to, (lastM y.l).s, (lastM y.l).d⟩, w64 (to + 1)⟩
  else ⟨y.l ++ [⟨y.from_, to, ownP A to, ownP B to⟩], w64 (to + 1)⟩
def planTo (A B : List (Int × Int)) (C : List Int) : Nat → PlS
  | 0 => ⟨[], 0⟩
  | i + 1 => stepP A B (planTo A B C i) (gl C i)
theorem planTo_len (A B : List (Int × Int)) (C : List Int) : ∀ i, (planTo A B C i).l.length ≤ i
  | 0 => Nat.le_refl _
  | i + 1 => by
    have := planTo_len A B C i
    show (stepP A B _ _).l.length ≤ _
    unfold stepP
    split
    · dsimp only; omega
    · split
      · dsimp only; rw [List.length_set]; omega
      · dsimp only; rw [List.length_append]; simp; omega
def cutsOf (A B : List (Int × Int)) : List Int := compL (sortU (A.map Prod.fst ++ B.map Prod.fst ++ [maxU]))
theorem compTo_len (l : List Int) : ∀ q, (compTo l q).length ≤ q
  | 0 => Nat.le_refl _
  | q + 1 => by
    have := compTo_len l q
    unfold compTo
    split
    · omega
    · rw [List.length_append]; simp; omega
theorem cutsOf_len (A B : List (Int × Int)) : (cutsOf A B).length ≤ A.length + B.length + 1 := by
  have := compTo_len (sortU (A.map Prod.fst ++ B.map Prod.fst ++ [maxU])) (sortU (A.map Prod.fst ++ B.map Prod.fst ++ [maxU])).length
  rw [sortU_length] at this
  unfold cutsOf compL
  rw [sortU_length]
  refine Nat.le_trans this ?_
  simp; omega
def planL (A B : List (Int × Int)) : List MvR := (planTo A B (cutsOf A B) (cutsOf A B).length).l
structure PlanA where
  a : RingA
  b : RingA
noncomputable def cPlan : Con where
  α := PlanA
  β := Nat
  m := 6
  m' := 7
  pre := fun x => 1 ≤ x.a.L.length ∧ x.a.L.length ≤ 100 ∧ 1 ≤ x.b.L.length ∧ x.b.L.length ≤ 100
  args := fun _ => [.a (.ptr 0 0 0 0), .a (.ptr 3 0 0 0)]
  hp := fun _ => []
  ro := fun x => roRing x.a ++ [(3, .obj 54 [.int .i64 x.b.e, .slc 4 0 1 x.b.l.length x.b.c1, .slc 5 0 2 x.b.L.length x.b.c2]), (4, .arr 3 [.int .i64] x.b.l.length (encRows encI x.b.l)), (5, .arr 59 ksPt x.b.L.length (encRows encPt x.b.L))]
  post := fun _ _ => True
  res := fun x cap => .a (.slc 6 0 4 (planL x.a.L x.b.L).length cap)
  hp' := fun x _ => [(6, arrM (planL x.a.L x.b.L))]
def iPlan (A B : List (Int × Int)) : An := .flat 8 (Nat × Nat) (fun s x => (((s.new (arrM (planTo A B (cutsOf A B) x.1).l)).set 6 (.a (.slc s.nx 0 4 (planTo A B (cutsOf A B) x.1).l.length x.2))).set 7 (.a (.int .u64 (planTo A B (cutsOf A B) x.1).from_))).int 30 x.1)
  (fun _ x => x.1 ≤ (cutsOf A B).length) (fun _ x => (cutsOf A B).length - x.1)
noncomputable def tabPlanOf : List (Nat × Con) := [(21, cCuts), (20, cCat), (22, cSortU), (23, cComp), (24, cOwner)]
theorem tabPlanOf_ok : TabOk (Y Try.prog).G.X tabPlanOf := ⟨callCuts, callCat, callSortU, callComp, callOwner, trivial⟩
set_option maxHeartbeats 4000000 in
theorem bodyPlan : fnBody (Y Try.prog) tabPlanOf 11 cPlan fun x => [(11, [iPlan x.a.L x.b.L], [])] := fnBody.of (p :=
  ∀ (a : PlanA), (1 : Nat) ≤ a.a.L.length ∧
  a.a.L.length ≤ (100 : Nat) ∧
  (1 : Nat) ≤ a.b.L.length ∧
  a.b.L.length ≤ (100 : Nat) →
  ∃ (a_2 : RingA), (0 : Nat) = (0 : Nat) ∧
  a.a.e = a_2.e ∧
  ((0 : Nat) = (0 : Nat) ∧
  a.a.l.length = a_2.l.length ∧
  a.a.c1 = a_2.c1) ∧
  ((0 : Nat) = (0 : Nat) ∧
  a.a.L.length = a_2.L.length ∧
  a.a.c2 = a_2.c2) ∧
  (a_2.l.length ≤ a.a.l.length ∧
  RowsEq a_2.l.length (1 : Nat) (encRows encI a.a.l) (encRows encI a_2.l)) ∧
  (a_2.L.length ≤ a.a.L.length ∧
  RowsEq a_2.L.length (2 : Nat) (encRows encPt a.a.L) (encRows encPt a_2.L)) ∧
  a_2.L.length < (100000 : Nat) ∧
  ∀ (b : Nat), True →
  ∃ (a_4 : RingA), (0 : Nat) = (0 : Nat) ∧
  a.b.e = a_4.e ∧
  ((0 : Nat) = (0 : Nat) ∧
  a.b.l.length = a_4.l.length ∧
  a.b.c1 = a_4.c1) ∧
  ((0 : Nat) = (0 : Nat) ∧
  a.b.L.length = a_4.L.length ∧
  a.b.c2 = a_4.c2) ∧
  (a_4.l.length ≤ a.b.l.length ∧
  RowsEq a_4.l.length (1 : Nat) (encRows encI a.b.l) (encRows encI a_4.l)) ∧
  (a_4.L.length ≤ a.b.L.length ∧
  RowsEq a_4.L.length (2 : Nat) (encRows encPt a.b.L) (encRows encPt a_4.L)) ∧
  a_4.L.length < (100000 : Nat) ∧
  ∀ (b_1 : Nat), True →
  ∃ (a_6 : CatA), ((0 : Nat) = (0 : Nat) ∧
  (3 : Nat) = (3 : Nat) ∧
  (3 : Nat) = (3 : Nat)) ∧
  ((0 : Nat) = (0 : Nat) ∧
  (List.map Prod.fst a_2.L).length = a_6.l1.length ∧
  b = a_6.c1) ∧
  ((0 : Nat) = (0 : Nat) ∧
  (List.map Prod.fst a_4.L).length = a_6.l2.length ∧
  b_1 = a_6.c2) ∧
  ((0 : Nat) = (0 : Nat) ∧
  (1 : Nat) = a_6.l3.length ∧
  (1 : Nat) = a_6.c3) ∧
  (a_6.l1.length ≤ (List.map Prod.fst a_2.L).length ∧
  RowsEq a_6.l1.length (1 : Nat) (encRows encU (List.map Prod.fst a_2.L)) (encRows encU a_6.l1)) ∧
  (a_6.l2.length ≤ (List.map Prod.fst a_4.L).length ∧
  RowsEq a_6.l2.length (1 : Nat) (encRows encU (List.map Prod.fst a_4.L)) (encRows encU a_6.l2)) ∧
  (a_6.l3.length ≤ (1 : Nat) ∧
  RowsEq a_6.l3.length (1 : Nat) (flatRows (1 : Nat) [Value.int IntKind.u64 (18446744073709551615 : Int)]) (encRows encU a_6.l3)) ∧
  ((1 : Nat) ≤ a_6.l1.length ∧
  a_6.l1.length < (1000 : Nat) ∧
  a_6.l2.length < (1000 : Nat) ∧
  a_6.l3.length < (1000 : Nat)) ∧
  ∀ (b : Nat), (a_6.l1 ++ a_6.l2 ++ a_6.l3).length ≤ b →
  ∃ (a_8 : ListA), ((0 : Nat) = (0 : Nat) ∧
  (a_6.l1 ++ a_6.l2 ++ a_6.l3).length = a_8.l.length ∧
  b = a_8.cap) ∧
  (a_8.l.length ≤ (a_6.l1 ++ a_6.l2 ++ a_6.l3).length ∧
  RowsEq a_8.l.length (1 : Nat) (encRows encU (a_6.l1 ++ a_6.l2 ++ a_6.l3)) (encRows encU a_8.l)) ∧
  ((1 : Nat) ≤ a_8.l.length ∧
  a_8.l.length < (256 : Nat)) ∧
  ∀ (b_2 : Unit), True →
  ∃ (a_10 : ListA), ((0 : Nat) = (0 : Nat) ∧
  (a_6.l1 ++ a_6.l2 ++ a_6.l3).length = a_10.l.length ∧
  b = a_10.cap) ∧
  (a_10.l.length ≤ a_8.l.length ∧
  RowsEq a_10.l.length (1 : Nat) (encRows encU (sortU a_8.l)) (encRows encU a_10.l)) ∧
  ((1 : Nat) ≤ a_10.l.length ∧
  a_10.l.length < (100000 : Nat) ∧
  a_10.l.length ≤ a_10.cap) ∧
  ∀ (b_3 : Unit), True →
  (∃ (a_12 : Nat × Nat), (0 : Int) = (↑a_12.fst : Int) ∧
  (0 : Int) = (planTo a.a.L a.b.L (cutsOf a.a.L a.b.L) a_12.fst).from_ ∧
  ((0 : Nat) = (planTo a.a.L a.b.L (cutsOf a.a.L a.b.L) a_12.fst).l.length ∧
  (0 : Nat) = a_12.snd) ∧
  (↑(compL a_10.l).length : Int) = (↑(compL a_10.l).length : Int) ∧
  ((0 : Nat) = (0 : Nat) ∧
  (compL a_10.l).length = (compL a_10.l).length ∧
  a_10.cap = a_10.cap) ∧
  ((0 : Nat) = (0 : Nat) ∧
  (a_6.l1 ++ a_6.l2 ++ a_6.l3).length = (a_6.l1 ++ a_6.l2 ++ a_6.l3).length ∧
  b = b) ∧
  Bool.false = Bool.false ∧
  (0 : Nat) = (0 : Nat) ∧
  (0 : Nat) = (0 : Nat) ∧
  (planTo a.a.L a.b.L (cutsOf a.a.L a.b.L) a_12.fst).l.length = (0 : Nat) ∧
  ((compL a_10.l).length ≤ (compL a_10.l).length ∧
  RowsEq (compL a_10.l).length (1 : Nat) (encRows encU (compL a_10.l)) (encRows encU (compL a_10.l))) ∧
  a.a.e = a.a.e ∧
  ((0 : Nat) = (0 : Nat) ∧
  a.a.l.length = a.a.l.length ∧
  a.a.c1 = a.a.c1) ∧
  ((0 : Nat) = (0 : Nat) ∧
  a.a.L.length = a.a.L.length ∧
  a.a.c2 = a.a.c2) ∧
  (a.a.l.length ≤ a.a.l.length ∧
  RowsEq a.a.l.length (1 : Nat) (encRows encI a.a.l) (encRows encI a.a.l)) ∧
  (a.a.L.length ≤ a.a.L.length ∧
  RowsEq a.a.L.length (2 : Nat) (encRows encPt a.a.L) (encRows encPt a.a.L)) ∧
  a.b.e = a.b.e ∧
  ((0 : Nat) = (0 : Nat) ∧
  a.b.l.length = a.b.l.length ∧
  a.b.c1 = a.b.c1) ∧
  ((0 : Nat) = (0 : Nat) ∧
  a.b.L.length = a.b.L.length ∧
  a.b.c2 = a.b.c2) ∧
  (a.b.l.length ≤ a.b.l.length ∧
  RowsEq a.b.l.length (1 : Nat) (encRows encI a.b.l) (encRows encI a.b.l)) ∧
  (a.b.L.length ≤ a.b.L.length ∧
  RowsEq a.b.L.length (2 : Nat) (encRows encPt a.b.L) (encRows encPt a.b.L)) ∧
  a_12.fst ≤ (cutsOf a.a.L a.b.L).length ∧
  True) ∧
  ∀ (a_12 : Nat × Nat), a_12.fst ≤ (cutsOf a.a.L a.b.L).length →
  (Decidable.decide ((↑a_12.fst : Int) < (↑(compL a_10.l).length : Int)) = Bool.true →
  ((0 : Int) ≤ (↑a_12.fst : Int) ∧
  (↑a_12.fst : Int) < (↑(compL a_10.l).length : Int)) ∧
  (0 : Nat) + (↑a_12.fst : Int).toNat < (compL a_10.l).length ∧
  (InR IntKind.u64 (gl (compL a_10.l) ((0 : Nat) + (↑a_12.fst : Int).toNat)) →
  ∃ (a_16 : OwnerA), (0 : Nat) = (0 : Nat) ∧
  gl (compL a_10.l) ((0 : Nat) + (↑a_12.fst : Int).toNat) = a_16.h ∧
  a.a.e = a_16.r.e ∧
  ((0 : Nat) = (0 : Nat) ∧
  a.a.l.length = a_16.r.l.length ∧
  a.a.c1 = a_16.r.c1) ∧
  ((0 : Nat) = (0 : Nat) ∧
  a.a.L.length = a_16.r.L.length ∧
  a.a.c2 = a_16.r.c2) ∧
  (a_16.r.l.length ≤ a.a.l.length ∧
  RowsEq a_16.r.l.length (1 : Nat) (encRows encI a.a.l) (encRows encI a_16.r.l)) ∧
  (a_16.r.L.length ≤ a.a.L.length ∧
  RowsEq a_16.r.L.length (2 : Nat) (encRows encPt a.a.L) (encRows encPt a_16.r.L)) ∧
  (a_16.r.L.length < (100000 : Nat) ∧
  (0 : Nat) < a_16.r.L.length) ∧
  ∀ (b_4 : Unit), True →
  ∃ (a_18 : OwnerA), (0 : Nat) = (0 : Nat) ∧
  gl (compL a_10.l) ((0 : Nat) + (↑a_12.fst : Int).toNat) = a_18.h ∧
  a.b.e = a_18.r.e ∧
  ((0 : Nat) = (0 : Nat) ∧
  a.b.l.length = a_18.r.l.length ∧
  a.b.c1 = a_18.r.c1) ∧
  ((0 : Nat) = (0 : Nat) ∧
  a.b.L.length = a_18.r.L.length ∧
  a.b.c2 = a_18.r.c2) ∧
  (a_18.r.l.length ≤ a.b.l.length ∧
  RowsEq a_18.r.l.length (1 : Nat) (encRows encI a.b.l) (encRows encI a_18.r.l)) ∧
  (a_18.r.L.length ≤ a.b.L.length ∧
  RowsEq a_18.r.L.length (2 : Nat) (encRows encPt a.b.L) (encRows encPt a_18.r.L)) ∧
  (a_18.r.L.length < (100000 : Nat) ∧
  (0 : Nat) < a_18.r.L.length) ∧
  ∀ (b_5 : Unit), True →
  InR IntKind.i64 (ownP a_16.r.L a_16.h) →
  InR IntKind.i64 (ownP a_18.r.L a_18.h) →
  ((ownP a_16.r.L a_16.h == ownP a_18.r.L a_18.h) = Bool.true →
  InR IntKind.i64 ((↑a_12.fst : Int) + (1 : Int)) ∧
  ∃ (a' : Nat × Nat), (↑a_12.fst : Int) + (1 : Int) = (↑a'.fst : Int) ∧
  uw IntKind.u64 (gl (compL a_10.l) ((0 : Nat) + (↑a_12.fst : Int).toNat) + (1 : Int)) = (planTo a.a.L a.b.L (cutsOf a.a.L a.b.L) a'.fst).from_ ∧
  ((0 : Nat) = (0 : Nat) ∧
  (planTo a.a.L a.b.L (cutsOf a.a.L a.b.L) a_12.fst).l.length = (planTo a.a.L a.b.L (cutsOf a.a.L a.b.L) a'.fst).l.length ∧
  a_12.snd = a'.snd) ∧
  (↑(compL a_10.l).length : Int) = (↑(compL a_10.l).length : Int) ∧
  ((0 : Nat) = (0 : Nat) ∧
  (compL a_10.l).length = (compL a_10.l).length ∧
  a_10.cap = a_10.cap) ∧
  ((0 : Nat) = (0 : Nat) ∧
  (a_6.l1 ++ a_6.l2 ++ a_6.l3).length = (a_6.l1 ++ a_6.l2 ++ a_6.l3).length ∧
  b = b) ∧
  Bool.false = Bool.false ∧
  (0 : Nat) = (0 : Nat) ∧
  (0 : Nat) = (0 : Nat) ∧
  ((planTo a.a.L a.b.L (cutsOf a.a.L a.b.L) a'.fst).l.length ≤ (planTo a.a.L a.b.L (cutsOf a.a.L a.b.L) a_12.fst).l.length ∧
  RowsEq (planTo a.a.L a.b.L (cutsOf a.a.L a.b.L) a'.fst).l.length (4 : Nat) (encRows encM (planTo a.a.L a.b.L (cutsOf a.a.L a.b.L) a_12.fst).l) (encRows encM (planTo a.a.L a.b.L (cutsOf a.a.L a.b.L) a'.fst).l)) ∧
  ((compL a_10.l).length ≤ (compL a_10.l).length ∧
  RowsEq (compL a_10.l).length (1 : Nat) (encRows encU (compL a_10.l)) (encRows encU (compL a_10.l))) ∧
  a.a.e = a.a.e ∧
  ((0 : Nat) = (0 : Nat) ∧
  a.a.l.length = a.a.l.length ∧
  a.a.c1 = a.a.c1) ∧
  ((0 : Nat) = (0 : Nat) ∧
  a.a.L.length = a.a.L.length ∧
  a.a.c2 = a.a.c2) ∧
  (a.a.l.length ≤ a.a.l.length ∧
  RowsEq a.a.l.length (1 : Nat) (encRows encI a.a.l) (encRows encI a.a.l)) ∧
  (a.a.L.length ≤ a.a.L.length ∧
  RowsEq a.a.L.length (2 : Nat) (encRows encPt a.a.L) (encRows encPt a.a.L)) ∧
  a.b.e = a.b.e ∧
  ((0 : Nat) = (0 : Nat) ∧
  a.b.l.length = a.b.l.length ∧
  a.b.c1 = a.b.c1) ∧
  ((0 : Nat) = (0 : Nat) ∧
  a.b.L.length = a.b.L.length ∧
  a.b.c2 = a.b.c2) ∧
  (a.b.l.length ≤ a.b.l.length ∧
  RowsEq a.b.l.length (1 : Nat) (encRows encI a.b.l) (encRows encI a.b.l)) ∧
  (a.b.L.length ≤ a.b.L.length ∧
  RowsEq a.b.L.length (2 : Nat) (encRows encPt a.b.L) (encRows encPt a.b.L)) ∧
  a'.fst ≤ (cutsOf a.a.L a.b.L).length ∧
  (cutsOf a.a.L a.b.L).length - a'.fst < (cutsOf a.a.L a.b.L).length - a_12.fst) ∧
  ((ownP a_16.r.L a_16.h == ownP a_18.r.L a_18.h) = Bool.false →
  (Decidable.decide ((0 : Int) < (↑(planTo a.a.L a.b.L (cutsOf a.a.L a.b.L) a_12.fst).l.length : Int)) = Bool.true →
  InR IntKind.i64 ((↑(planTo a.a.L a.b.L (cutsOf a.a.L a.b.L) a_12.fst).l.length : Int) - (1 : Int)) ∧
  ((0 : Int) ≤ (↑(planTo a.a.L a.b.L (cutsOf a.a.L a.b.L) a_12.fst).l.length : Int) - (1 : Int) ∧
  (↑(planTo a.a.L a.b.L (cutsOf a.a.L a.b.L) a_12.fst).l.length : Int) - (1 : Int) < (↑(planTo a.a.L a.b.L (cutsOf a.a.L a.b.L) a_12.fst).l.length : Int)) ∧
  (0 : Nat) + ((↑(planTo a.a.L a.b.L (cutsOf a.a.L a.b.L) a_12.fst).l.length : Int) - (1 : Int)).toNat < (planTo a.a.L a.b.L (cutsOf a.a.L a.b.L) a_12.fst).l.length ∧
  (InR IntKind.u64 (gl (planTo a.a.L a.b.L (cutsOf a.a.L a.b.L) a_12.fst).l ((0 : Nat) + ((↑(planTo a.a.L a.b.L (cutsOf a.a.L a.b.L) a_12.fst).l.length : Int) - (1 : Int)).toNat)).t →
  InR IntKind.u64 (planTo a.a.L a.b.L (cutsOf a.a.L a.b.L) a_12.fst).from_ →
  ((uw IntKind.u64 ((gl (planTo a.a.L a.b.L (cutsOf a.a.L a.b.L) a_12.fst).l ((0 : Nat) + ((↑(planTo a.a.L a.b.L (cutsOf a.a.L a.b.L) a_12.fst).l.length : Int) - (1 : Int)).toNat)).t + (1 : Int)) == (planTo a.a.L a.b.L (cutsOf a.a.L a.b.L) a_12.fst).from_) = Bool.true →
  InR IntKind.i64 ((↑(planTo a.a.L a.b.L (cutsOf a.a.L a.b.L) a_12.fst).l.length : Int) - (1 : Int)) ∧
  ((0 : Int) ≤ (↑(planTo a.a.L a.b.L (cutsOf a.a.L a.b.L) a_12.fst).l.length : Int) - (1 : Int) ∧
  (↑(planTo a.a.L a.b.L (cutsOf a.a.L a.b.L) a_12.fst).l.length : Int) - (1 : Int) < (↑(planTo a.a.L a.b.L (cutsOf a.a.L a.b.L) a_12.fst).l.length : Int)) ∧
  (0 : Nat) + ((↑(planTo a.a.L a.b.L (cutsOf a.a.L a.b.L) a_12.fst).l.length : Int) - (1 : Int)).toNat < (planTo a.a.L a.b.L (cutsOf a.a.L a.b.L) a_12.fst).l.length ∧
  (InR IntKind.i64 (gl (planTo a.a.L a.b.L (cutsOf a.a.L a.b.L) a_12.fst).l ((0 : Nat) + ((↑(planTo a.a.L a.b.L (cutsOf a.a.L a.b.L) a_12.fst).l.length : Int) - (1 : Int)).toNat)).s →
  InR IntKind.i64 (ownP a_16.r.L a_16.h) →
  (((gl (planTo a.a.L a.b.L (cutsOf a.a.L a.b.L) a_12.fst).l ((0 : Nat) + ((↑(planTo a.a.L a.b.L (cutsOf a.a.L a.b.L) a_12.fst).l.length : Int) - (1 : Int)).toNat)).s == ownP a_16.r.L a_16.h) = Bool.true →
  InR IntKind.i64 ((↑(planTo a.a.L a.b.L (cutsOf a.a.L a.b.L) a_12.fst).l.length : Int) - (1 : Int)) ∧
  ((0 : Int) ≤ (↑(planTo a.a.L a.b.L (cutsOf a.a.L a.b.L) a_12.fst).l.length : Int) - (1 : Int) ∧
  (↑(planTo a.a.L a.b.L (cutsOf a.a.L a.b.L) a_12.fst).l.length : Int) - (1 : Int) < (↑(planTo a.a.L a.b.L (cutsOf a.a.L a.b.L) a_12.fst).l.length : Int)) ∧
  (0 : Nat) + ((↑(planTo a.a.L a.b.L (cutsOf a.a.L a.b.L) a_12.fst).l.length : Int) - (1 : Int)).toNat < (planTo a.a.L a.b.L (cutsOf a.a.L a.b.L) a_12.fst).l.length ∧
  (InR IntKind.i64 (gl (planTo a.a.L a.b.L (cutsOf a.a.L a.b.L) a_12.fst).l ((0 : Nat) + ((↑(planTo a.a.L a.b.L (cutsOf a.a.L a.b.L) a_12.fst).l.length : Int) - (1 : Int)).toNat)).d →
  InR IntKind.i64 (ownP a_18.r.L a_18.h) →
  (((gl (planTo a.a.L a.b.L (cutsOf a.a.L a.b.L) a_12.fst).l ((0 : Nat) + ((↑(planTo a.a.L a.b.L (cutsOf a.a.L a.b.L) a_12.fst).l.length : Int) - (1 : Int)).toNat)).d == ownP a_18.r.L a_18.h) = Bool.true →
  InR IntKind.i64 ((↑(planTo a.a.L a.b.L (cutsOf a.a.L a.b.L) a_12.fst).l.length : Int) - (1 : Int)) ∧
  ((0 : Int) ≤ (↑(planTo a.a.L a.b.L (cutsOf a.a.L a.b.L) a_12.fst).l.length : Int) - (1 : Int) ∧
  (↑(planTo a.a.L a.b.L (cutsOf a.a.L a.b.L) a_12.fst).l.length : Int) - (1 : Int) < (↑(planTo a.a.L a.b.L (cutsOf a.a.L a.b.L) a_12.fst).l.length : Int)) ∧
  (0 : Nat) + ((↑(planTo a.a.L a.b.L (cutsOf a.a.L a.b.L) a_12.fst).l.length : Int) - (1 : Int)).toNat < (planTo a.a.L a.b.L (cutsOf a.a.L a.b.L) a_12.fst).l.length ∧
  InR IntKind.i64 ((↑a_12.fst : Int) + (1 : Int)) ∧
  ∃ (a' : Nat × Nat), (↑a_12.fst : Int) + (1 : Int) = (↑a'.fst : Int) ∧
  uw IntKind.u64 (gl (compL a_10.l) ((0 : Nat) + (↑a_12.fst : Int).toNat) + (1 : Int)) = (planTo a.a.L a.b.L (cutsOf a.a.L a.b.L) a'.fst).from_ ∧
  ((0 : Nat) = (0 : Nat) ∧
  (planTo a.a.L a.b.L (cutsOf a.a.L a.b.L) a_12.fst).l.length = (planTo a.a.L a.b.L (cutsOf a.a.L a.b.L) a'.fst).l.length ∧
  a_12.snd = a'.snd) ∧
  (↑(compL a_10.l).length : Int) = (↑(compL a_10.l).length : Int) ∧
  ((0 : Nat) = (0 : Nat) ∧
  (compL a_10.l).length = (compL a_10.l).length ∧
  a_10.cap = a_10.cap) ∧
  ((0 : Nat) = (0 : Nat) ∧
  (a_6.l1 ++ a_6.l2 ++ a_6.l3).length = (a_6.l1 ++ a_6.l2 ++ a_6.l3).length ∧
  b = b) ∧
  Bool.false = Bool.false ∧
  (0 : Nat) = (0 : Nat) ∧
  (0 : Nat) = (0 : Nat) ∧
  ((planTo a.a.L a.b.L (cutsOf a.a.L a.b.L) a'.fst).l.length ≤ (planTo a.a.L a.b.L (cutsOf a.a.L a.b.L) a_12.fst).l.length ∧
  RowsEq (planTo a.a.L a.b.L (cutsOf a.a.L a.b.L) a'.fst).l.length (4 : Nat) (updR (encRows encM (planTo a.a.L a.b.L (cutsOf a.a.L a.b.L) a_12.fst).l) ((0 : Nat) + ((↑(planTo a.a.L a.b.L (cutsOf a.a.L a.b.L) a_12.fst).l.length : Int) - (1 : Int)).toNat) (1 : Nat) [Value.int IntKind.u64 (gl (compL a_10.l) ((0 : Nat) + (↑a_12.fst : Int).toNat))]) (encRows encM (planTo a.a.L a.b.L (cutsOf a.a.L a.b.L) a'.fst).l)) ∧
  ((compL a_10.l).length ≤ (compL a_10.l).length ∧
  RowsEq (compL a_10.l).length (1 : Nat) (encRows encU (compL a_10.l)) (encRows encU (compL a_10.l))) ∧
  a.a.e = a.a.e ∧
  ((0 : Nat) = (0 : Nat) ∧
  a.a.l.length = a.a.l.length ∧
  a.a.c1 = a.a.c1) ∧
  ((0 : Nat) = (0 : Nat) ∧
  a.a.L.length = a.a.L.length ∧
  a.a.c2 = a.a.c2) ∧
  (a.a.l.length ≤ a.a.l.length ∧
  RowsEq a.a.l.length (1 : Nat) (encRows encI a.a.l) (encRows encI a.a.l)) ∧
  (a.a.L.length ≤ a.a.L.length ∧
  RowsEq a.a.L.length (2 : Nat) (encRows encPt a.a.L) (encRows encPt a.a.L)) ∧
  a.b.e = a.b.e ∧
  ((0 : Nat) = (0 : Nat) ∧
  a.b.l.length = a.b.l.length ∧
  a.b.c1 = a.b.c1) ∧
  ((0 : Nat) = (0 : Nat) ∧
  a.b.L.length = a.b.L.length ∧
  a.b.c2 = a.b.c2) ∧
  (a.b.l.length ≤ a.b.l.length ∧
  RowsEq a.b.l.length (1 : Nat) (encRows encI a.b.l) (encRows encI a.b.l)) ∧
  (a.b.L.length ≤ a.b.L.length ∧
  RowsEq a.b.L.length (2 : Nat) (encRows encPt a.b.L) (encRows encPt a.b.L)) ∧
  a'.fst ≤ (cutsOf a.a.L a.b.L).length ∧
  (cutsOf a.a.L a.b.L).length - a'.fst < (cutsOf a.a.L a.b.L).length - a_12.fst) ∧
  (((gl (planTo a.a.L a.b.L (cutsOf a.a.L a.b.L) a_12.fst).l ((0 : Nat) + ((↑(planTo a.a.L a.b.L (cutsOf a.a.L a.b.L) a_12.fst).l.length : Int) - (1 : Int)).toNat)).d == ownP a_18.r.L a_18.h) = Bool.false →
  (0 : Nat) + (planTo a.a.L a.b.L (cutsOf a.a.L a.b.L) a_12.fst).l.length ≤ (planTo a.a.L a.b.L (cutsOf a.a.L a.b.L) a_12.fst).l.length ∧
  (1 : Nat) ≤ (1 : Nat) ∧
  ((planTo a.a.L a.b.L (cutsOf a.a.L a.b.L) a_12.fst).l.length + (1 : Nat)) * (32 : Nat) ≤ (140737488355328 : Nat) ∧
  ∀ (cap : Nat), (planTo a.a.L a.b.L (cutsOf a.a.L a.b.L) a_12.fst).l.length + (1 : Nat) ≤ cap →
  cap ≤ lenMax →
  ((planTo a.a.L a.b.L (cutsOf a.a.L a.b.L) a_12.fst).l.length + (1 : Nat) ≤ a_12.snd →
  cap = a_12.snd) →
  InR IntKind.i64 ((↑a_12.fst : Int) + (1 : Int)) ∧
  ∃ (a' : Nat × Nat), (↑a_12.fst : Int) + (1 : Int) = (↑a'.fst : Int) ∧
  uw IntKind.u64 (gl (compL a_10.l) ((0 : Nat) + (↑a_12.fst : Int).toNat) + (1 : Int)) = (planTo a.a.L a.b.L (cutsOf a.a.L a.b.L) a'.fst).from_ ∧
  ((0 : Nat) = (0 : Nat) ∧
  (planTo a.a.L a.b.L (cutsOf a.a.L a.b.L) a_12.fst).l.length + (1 : Nat) = (planTo a.a.L a.b.L (cutsOf a.a.L a.b.L) a'.fst).l.length ∧
  cap = a'.snd) ∧
  (↑(compL a_10.l).length : Int) = (↑(compL a_10.l).length : Int) ∧
  ((0 : Nat) = (0 : Nat) ∧
  (compL a_10.l).length = (compL a_10.l).length ∧
  a_10.cap = a_10.cap) ∧
  ((0 : Nat) = (0 : Nat) ∧
  (a_6.l1 ++ a_6.l2 ++ a_6.l3).length = (a_6.l1 ++ a_6.l2 ++ a_6.l3).length ∧
  b = b) ∧
  Bool.false = Bool.false ∧
  (0 : Nat) = (0 : Nat) ∧
  (0 : Nat) = (0 : Nat) ∧
  ((planTo a.a.L a.b.L (cutsOf a.a.L a.b.L) a'.fst).l.length ≤ (planTo a.a.L a.b.L (cutsOf a.a.L a.b.L) a_12.fst).l.length + (1 : Nat) ∧
  RowsEq (planTo a.a.L a.b.L (cutsOf a.a.L a.b.L) a'.fst).l.length (4 : Nat) (appRows (encRows encM (planTo a.a.L a.b.L (cutsOf a.a.L a.b.L) a_12.fst).l) (0 : Nat) (planTo a.a.L a.b.L (cutsOf a.a.L a.b.L) a_12.fst).l.length fun (i j : Nat) => flatRows (4 : Nat) [Value.int IntKind.u64 (planTo a.a.L a.b.L (cutsOf a.a.L a.b.L) a_12.fst).from_, Value.int IntKind.u64 (gl (compL a_10.l) ((0 : Nat) + (↑a_12.fst : Int).toNat)), Value.int IntKind.i64 (ownP a_16.r.L a_16.h), Value.int IntKind.i64 (ownP a_18.r.L a_18.h)] ((0 : Nat) + i) j) (encRows encM (planTo a.a.L a.b.L (cutsOf a.a.L a.b.L) a'.fst).l)) ∧
  ((compL a_10.l).length ≤ (compL a_10.l).length ∧
  RowsEq (compL a_10.l).length (1 : Nat) (encRows encU (compL a_10.l)) (encRows encU (compL a_10.l))) ∧
  a.a.e = a.a.e ∧
  ((0 : Nat) = (0 : Nat) ∧
  a.a.l.length = a.a.l.length ∧
  a.a.c1 = a.a.c1) ∧
  ((0 : Nat) = (0 : Nat) ∧
  a.a.L.length = a.a.L.length ∧
  a.a.c2 = a.a.c2) ∧
  (a.a.l.length ≤ a.a.l.length ∧
  RowsEq a.a.l.length (1 : Nat) (encRows encI a.a.l) (encRows encI a.a.l)) ∧
  (a.a.L.length ≤ a.a.L.length ∧
  RowsEq a.a.L.length (2 : Nat) (encRows encPt a.a.L) (encRows encPt a.a.L)) ∧
  a.b.e = a.b.e ∧
  ((0 : Nat) = (0 : Nat) ∧
  a.b.l.length = a.b.l.length ∧
  a.b.c1 = a.b.c1) ∧
  ((0 : Nat) = (0 : Nat) ∧
  a.b.L.length = a.b.L.length ∧
  a.b.c2 = a.b.c2) ∧
  (a.b.l.length ≤ a.b.l.length ∧
  RowsEq a.b.l.length (1 : Nat) (encRows encI a.b.l) (encRows encI a.b.l)) ∧
  (a.b.L.length ≤ a.b.L.length ∧
  RowsEq a.b.L.length (2 : Nat) (encRows encPt a.b.L) (encRows encPt a.b.L)) ∧
  a'.fst ≤ (cutsOf a.a.L a.b.L).length ∧
  (cutsOf a.a.L a.b.L).length - a'.fst < (cutsOf a.a.L a.b.L).length - a_12.fst))) ∧
  (((gl (planTo a.a.L a.b.L (cutsOf a.a.L a.b.L) a_12.fst).l ((0 : Nat) + ((↑(planTo a.a.L a.b.L (cutsOf a.a.L a.b.L) a_12.fst).l.length : Int) - (1 : Int)).toNat)).s == ownP a_16.r.L a_16.h) = Bool.false →
  (0 : Nat) + (planTo a.a.L a.b.L (cutsOf a.a.L a.b.L) a_12.fst).l.length ≤ (planTo a.a.L a.b.L (cutsOf a.a.L a.b.L) a_12.fst).l.length ∧
  (1 : Nat) ≤ (1 : Nat) ∧
  ((planTo a.a.L a.b.L (cutsOf a.a.L a.b.L) a_12.fst).l.length + (1 : Nat)) * (32 : Nat) ≤ (140737488355328 : Nat) ∧
  ∀ (cap : Nat), (planTo a.a.L a.b.L (cutsOf a.a.L a.b.L) a_12.fst).l.length + (1 : Nat) ≤ cap →
  cap ≤ lenMax →
  ((planTo a.a.L a.b.L (cutsOf a.a.L a.b.L) a_12.fst).l.length + (1 : Nat) ≤ a_12.snd →
  cap = a_12.snd) →
  InR IntKind.i64 ((↑a_12.fst : Int) + (1 : Int)) ∧
  ∃ (a' : Nat × Nat), (↑a_12.fst : Int) + (1 : Int) = (↑a'.fst : Int) ∧
  uw IntKind.u64 (gl (compL a_10.l) ((0 : Nat) + (↑a_12.fst : Int).toNat) + (1 : Int)) = (planTo a.a.L a.b.L (cutsOf a.a.L a.b.L) a'.fst).from_ ∧
  ((0 : Nat) = (0 : Nat) ∧
  (planTo a.a.L a.b.L (cutsOf a.a.L a.b.L) a_12.fst).l.length + (1 : Nat) = (planTo a.a.L a.b.L (cutsOf a.a.L a.b.L) a'.fst).l.length ∧
  cap = a'.snd) ∧
  (↑(compL a_10.l).length : Int) = (↑(compL a_10.l).length : Int) ∧
  ((0 : Nat) = (0 : Nat) ∧
  (compL a_10.l).length = (compL a_10.l).length ∧
  a_10.cap = a_10.cap) ∧
  ((0 : Nat) = (0 : Nat) ∧
  (a_6.l1 ++ a_6.l2 ++ a_6.l3).length = (a_6.l1 ++ a_6.l2 ++ a_6.l3).length ∧
  b = b) ∧
  Bool.false = Bool.false ∧
  (0 : Nat) = (0 : Nat) ∧
  (0 : Nat) = (0 : Nat) ∧
  ((planTo a.a.L a.b.L (cutsOf a.a.L a.b.L) a'.fst).l.length ≤ (planTo a.a.L a.b.L (cutsOf a.a.L a.b.L) a_12.fst).l.length + (1 : Nat) ∧
  RowsEq (planTo a.a.L a.b.L (cutsOf a.a.L a.b.L) a'.fst).l.length (4 : Nat) (appRows (encRows encM (planTo a.a.L a.b.L (cutsOf a.a.L a.b.L) a_12.fst).l) (0 : Nat) (planTo a.a.L a.b.L (cutsOf a.a.L a.b.L) a_12.fst).l.length fun (i j : Nat) => flatRows (4 : Nat) [Value.int IntKind.u64 (planTo a.a.L a.b.L (cutsOf a.a.L a.b.L) a_12.fst).from_, Value.int IntKind.u64 (gl (compL a_10.l) ((0 : Nat) + (↑a_12.fst : Int).toNat)), Value.int IntKind.i64 (ownP a_16.r.L a_16.h), Value.int IntKind.i64 (ownP a_18.r.L a_18.h)] ((0 : Nat) + i) j) (encRows encM (planTo a.a.L a.b.L (cutsOf a.a.L a.b.L) a'.fst).l)) ∧
  ((compL a_10.l).length ≤ (compL a_10.l).length ∧
  RowsEq (compL a_10.l).length (1 : Nat) (encRows encU (compL a_10.l)) (encRows encU (compL a_10.l))) ∧
  a.a.e = a.a.e ∧
  ((0 : Nat) = (0 : Nat) ∧
  a.a.l.length = a.a.l.length ∧
  a.a.c1 = a.a.c1) ∧
  ((0 : Nat) = (0 : Nat) ∧
  a.a.L.length = a.a.L.length ∧
  a.a.c2 = a.a.c2) ∧
  (a.a.l.length ≤ a.a.l.length ∧
  RowsEq a.a.l.length (1 : Nat) (encRows encI a.a.l) (encRows encI a.a.l)) ∧
  (a.a.L.length ≤ a.a.L.length ∧
  RowsEq a.a.L.length (2 : Nat) (encRows encPt a.a.L) (encRows encPt a.a.L)) ∧
  a.b.e = a.b.e ∧
  ((0 : Nat) = (0 : Nat) ∧
  a.b.l.length = a.b.l.length ∧
  a.b.c1 = a.b.c1) ∧
  ((0 : Nat) = (0 : Nat) ∧
  a.b.L.length = a.b.L.length ∧
  a.b.c2 = a.b.c2) ∧
  (a.b.l.length ≤ a.b.l.length ∧
  RowsEq a.b.l.length (1 : Nat) (encRows encI a.b.l) (encRows encI a.b.l)) ∧
  (a.b.L.length ≤ a.b.L.length ∧
  RowsEq a.b.L.length (2 : Nat) (encRows encPt a.b.L) (encRows encPt a.b.L)) ∧
  a'.fst ≤ (cutsOf a.a.L a.b.L).length ∧
  (cutsOf a.a.L a.b.L).length - a'.fst < (cutsOf a.a.L a.b.L).length - a_12.fst))) ∧
  ((uw IntKind.u64 ((gl (planTo a.a.L a.b.L (cutsOf a.a.L a.b.L) a_12.fst).l ((0 : Nat) + ((↑(planTo a.a.L a.b.L (cutsOf a.a.L a.b.L) a_12.fst).l.length : Int) - (1 : Int)).toNat)).t + (1 : Int)) == (planTo a.a.L a.b.L (cutsOf a.a.L a.b.L) a_12.fst).from_) = Bool.false →
  (0 : Nat) + (planTo a.a.L a.b.L (cutsOf a.a.L a.b.L) a_12.fst).l.length ≤ (planTo a.a.L a.b.L (cutsOf a.a.L a.b.L) a_12.fst).l.length ∧
  (1 : Nat) ≤ (1 : Nat) ∧
  ((planTo a.a.L a.b.L (cutsOf a.a.L a.b.L) a_12.fst).l.length + (1 : Nat)) * (32 : Nat) ≤ (140737488355328 : Nat) ∧
  ∀ (cap : Nat), (planTo a.a.L a.b.L (cutsOf a.a.L a.b.L) a_12.fst).l.length + (1 : Nat) ≤ cap →
  cap ≤ lenMax →
  ((planTo a.a.L a.b.L (cutsOf a.a.L a.b.L) a_12.fst).l.length + (1 : Nat) ≤ a_12.snd →
  cap = a_12.snd) →
  InR IntKind.i64 ((↑a_12.fst : Int) + (1 : Int)) ∧
  ∃ (a' : Nat × Nat), (↑a_12.fst : Int) + (1 : Int) = (↑a'.fst : Int) ∧
  uw IntKind.u64 (gl (compL a_10.l) ((0 : Nat) + (↑a_12.fst : Int).toNat) + (1 : Int)) = (planTo a.a.L a.b.L (cutsOf a.a.L a.b.L) a'.fst).from_ ∧
  ((0 : Nat) = (0 : Nat) ∧
  (planTo a.a.L a.b.L (cutsOf a.a.L a.b.L) a_12.fst).l.length + (1 : Nat) = (planTo a.a.L a.b.L (cutsOf a.a.L a.b.L) a'.fst).l.length ∧
  cap = a'.snd) ∧
  (↑(compL a_10.l).length : Int) = (↑(compL a_10.l).length : Int) ∧
  ((0 : Nat) = (0 : Nat) ∧
  (compL a_10.l).length = (compL a_10.l).length ∧
  a_10.cap = a_10.cap) ∧
  ((0 : Nat) = (0 : Nat) ∧
  (a_6.l1 ++ a_6.l2 ++ a_6.l3).length = (a_6.l1 ++ a_6.l2 ++ a_6.l3).length ∧
  b = b) ∧
  Bool.false = Bool.false ∧
  (0 : Nat) = (0 : Nat) ∧
  (0 : Nat) = (0 : Nat) ∧
  ((planTo a.a.L a.b.L (cutsOf a.a.L a.b.L) a'.fst).l.length ≤ (planTo a.a.L a.b.L (cutsOf a.a.L a.b.L) a_12.fst).l.length + (1 : Nat) ∧
  RowsEq (planTo a.a.L a.b.L (cutsOf a.a.L a.b.L) a'.fst).l.length (4 : Nat) (appRows (encRows encM (planTo a.a.L a.b.L (cutsOf a.a.L a.b.L) a_12.fst).l) (0 : Nat) (planTo a.a.L a.b.L (cutsOf a.a.L a.b.L) a_12.fst).l.length fun (i j : Nat) => flatRows (4 : Nat) [Value.int IntKind.u64 (planTo a.a.L a.b.L (cutsOf a.a.L a.b.L) a_12.fst).from_, Value.int IntKind.u64 (gl (compL a_10.l) ((0 : Nat) + (↑a_12.fst : Int).toNat)), Value.int IntKind.i64 (ownP a_16.r.L a_16.h), Value.int IntKind.i64 (ownP a_18.r.L a_18.h)] ((0 : Nat) + i) j) (encRows encM (planTo a.a.L a.b.L (cutsOf a.a.L a.b.L) a'.fst).l)) ∧
  ((compL a_10.l).length ≤ (compL a_10.l).length ∧
  RowsEq (compL a_10.l).length (1 : Nat) (encRows encU (compL a_10.l)) (encRows encU (compL a_10.l))) ∧
  a.a.e = a.a.e ∧
  ((0 : Nat) = (0 : Nat) ∧
  a.a.l.length = a.a.l.length ∧
  a.a.c1 = a.a.c1) ∧
  ((0 : Nat) = (0 : Nat) ∧
  a.a.L.length = a.a.L.length ∧
  a.a.c2 = a.a.c2) ∧
  (a.a.l.length ≤ a.a.l.length ∧
  RowsEq a.a.l.length (1 : Nat) (encRows encI a.a.l) (encRows encI a.a.l)) ∧
  (a.a.L.length ≤ a.a.L.length ∧
  RowsEq a.a.L.length (2 : Nat) (encRows encPt a.a.L) (encRows encPt a.a.L)) ∧
  a.b.e = a.b.e ∧
  ((0 : Nat) = (0 : Nat) ∧
  a.b.l.length = a.b.l.length ∧
  a.b.c1 = a.b.c1) ∧
  ((0 : Nat) = (0 : Nat) ∧
  a.b.L.length = a.b.L.length ∧
  a.b.c2 = a.b.c2) ∧
  (a.b.l.length ≤ a.b.l.length ∧
  RowsEq a.b.l.length (1 : Nat) (encRows encI a.b.l) (encRows encI a.b.l)) ∧
  (a.b.L.length ≤ a.b.L.length ∧
  RowsEq a.b.L.length (2 : Nat) (encRows encPt a.b.L) (encRows encPt a.b.L)) ∧
  a'.fst ≤ (cutsOf a.a.L a.b.L).length ∧
  (cutsOf a.a.L a.b.L).length - a'.fst < (cutsOf a.a.L a.b.L).length - a_12.fst))) ∧
  (Decidable.decide ((0 : Int) < (↑(planTo a.a.L a.b.L (cutsOf a.a.L a.b.L) a_12.fst).l.length : Int)) = Bool.false →
  (0 : Nat) + (planTo a.a.L a.b.L (cutsOf a.a.L a.b.L) a_12.fst).l.length ≤ (planTo a.a.L a.b.L (cutsOf a.a.L a.b.L) a_12.fst).l.length ∧
  (1 : Nat) ≤ (1 : Nat) ∧
  ((planTo a.a.L a.b.L (cutsOf a.a.L a.b.L) a_12.fst).l.length + (1 : Nat)) * (32 : Nat) ≤ (140737488355328 : Nat) ∧
  ∀ (cap : Nat), (planTo a.a.L a.b.L (cutsOf a.a.L a.b.L) a_12.fst).l.length + (1 : Nat) ≤ cap →
  cap ≤ lenMax →
  ((planTo a.a.L a.b.L (cutsOf a.a.L a.b.L) a_12.fst).l.length + (1 : Nat) ≤ a_12.snd →
  cap = a_12.snd) →
  InR IntKind.i64 ((↑a_12.fst : Int) + (1 : Int)) ∧
  ∃ (a' : Nat × Nat), (↑a_12.fst : Int) + (1 : Int) = (↑a'.fst : Int) ∧
  uw IntKind.u64 (gl (compL a_10.l) ((0 : Nat) + (↑a_12.fst : Int).toNat) + (1 : Int)) = (planTo a.a.L a.b.L (cutsOf a.a.L a.b.L) a'.fst).from_ ∧
  ((0 : Nat) = (0 : Nat) ∧
  (planTo a.a.L a.b.L (cutsOf a.a.L a.b.L) a_12.fst).l.length + (1 : Nat) = (planTo a.a.L a.b.L (cutsOf a.a.L a.b.L) a'.fst).l.length ∧
  cap = a'.snd) ∧
  (↑(compL a_10.l).length : Int) = (↑(compL a_10.l).length : Int) ∧
  ((0 : Nat) = (0 : Nat) ∧
  (compL a_10.l).length = (compL a_10.l).length ∧
  a_10.cap = a_10.cap) ∧
  ((0 : Nat) = (0 : Nat) ∧
  (a_6.l1 ++ a_6.l2 ++ a_6.l3).length = (a_6.l1 ++ a_6.l2 ++ a_6.l3).length ∧
  b = b) ∧
  Bool.false = Bool.false ∧
  (0 : Nat) = (0 : Nat) ∧
  (0 : Nat) = (0 : Nat) ∧
  ((planTo a.a.L a.b.L (cutsOf a.a.L a.b.L) a'.fst).l.length ≤ (planTo a.a.L a.b.L (cutsOf a.a.L a.b.L) a_12.fst).l.length + (1 : Nat) ∧
  RowsEq (planTo a.a.L a.b.L (cutsOf a.a.L a.b.L) a'.fst).l.length (4 : Nat) (appRows (encRows encM (planTo a.a.L a.b.L (cutsOf a.a.L a.b.L) a_12.fst).l) (0 : Nat) (planTo a.a.L a.b.L (cutsOf a.a.L a.b.L) a_12.fst).l.length fun (i j : Nat) => flatRows (4 : Nat) [Value.int IntKind.u64 (planTo a.a.L a.b.L (cutsOf a.a.L a.b.L) a_12.fst).from_, Value.int IntKind.u64 (gl (compL a_10.l) ((0 : Nat) + (↑a_12.fst : Int).toNat)), Value.int IntKind.i64 (ownP a_16.r.L a_16.h), Value.int IntKind.i64 (ownP a_18.r.L a_18.h)] ((0 : Nat) + i) j) (encRows encM (planTo a.a.L a.b.L (cutsOf a.a.L a.b.L) a'.fst).l)) ∧
  ((compL a_10.l).length ≤ (compL a_10.l).length ∧
  RowsEq (compL a_10.l).length (1 : Nat) (encRows encU (compL a_10.l)) (encRows encU (compL a_10.l))) ∧
  a.a.e = a.a.e ∧
  ((0 : Nat) = (0 : Nat) ∧
  a.a.l.length = a.a.l.length ∧
  a.a.c1 = a.a.c1) ∧
  ((0 : Nat) = (0 : Nat) ∧
  a.a.L.length = a.a.L.length ∧
  a.a.c2 = a.a.c2) ∧
  (a.a.l.length ≤ a.a.l.length ∧
  RowsEq a.a.l.length (1 : Nat) (encRows encI a.a.l) (encRows encI a.a.l)) ∧
  (a.a.L.length ≤ a.a.L.length ∧
  RowsEq a.a.L.length (2 : Nat) (encRows encPt a.a.L) (encRows encPt a.a.L)) ∧
  a.b.e = a.b.e ∧
  ((0 : Nat) = (0 : Nat) ∧
  a.b.l.length = a.b.l.length ∧
  a.b.c1 = a.b.c1) ∧
  ((0 : Nat) = (0 : Nat) ∧
  a.b.L.length = a.b.L.length ∧
  a.b.c2 = a.b.c2) ∧
  (a.b.l.length ≤ a.b.l.length ∧
  RowsEq a.b.l.length (1 : Nat) (encRows encI a.b.l) (encRows encI a.b.l)) ∧
  (a.b.L.length ≤ a.b.L.length ∧
  RowsEq a.b.L.length (2 : Nat) (encRows encPt a.b.L) (encRows encPt a.b.L)) ∧
  a'.fst ≤ (cutsOf a.a.L a.b.L).length ∧
  (cutsOf a.a.L a.b.L).length - a'.fst < (cutsOf a.a.L a.b.L).length - a_12.fst)))) ∧
  (Decidable.decide ((↑a_12.fst : Int) < (↑(compL a_10.l).length : Int)) = Bool.false →
  ∃ (b : Nat), ((0 : Nat) = (0 : Nat) ∧
  (planTo a.a.L a.b.L (cutsOf a.a.L a.b.L) a_12.fst).l.length = (planL a.a.L a.b.L).length ∧
  a_12.snd = b) ∧
  ((planL a.a.L a.b.L).length ≤ (planTo a.a.L a.b.L (cutsOf a.a.L a.b.L) a_12.fst).l.length ∧
  RowsEq (planL a.a.L a.b.L).length (4 : Nat) (encRows encM (planTo a.a.L a.b.L (cutsOf a.a.L a.b.L) a_12.fst).l) (encRows encM (planL a.a.L a.b.L))) ∧
  True ∧
  True)) (by kernel_rfl) (by
  rintro x ⟨h1, h2, h3, h4⟩
  have hC := cutsOf_len x.a.L x.b.L
  have m1 : (x.a.L.map Prod.fst).length = x.a.L.length := List.length_map _
  have m2 : (x.b.L.map Prod.fst).length = x.b.L.length := List.length_map _
  have mr : RowsEq 1 1 (flatRows 1 [Go.Value.int Go.IntKind.u64 18446744073709551615]) (encRows encU [maxU]) := .of_cells fun i hi => by
    have : i = 0 := by omega
    subst this; rfl
  have ml : [maxU].length = 1 := rfl
  have mc : (x.a.L.map Prod.fst ++ x.b.L.map Prod.fst ++ [maxU]).length = x.a.L.length + x.b.L.length + 1 := by
    rw [List.length_append, List.length_append, m1, m2, ml]
  have ms := sortU_length (x.a.L.map Prod.fst ++ x.b.L.map Prod.fst ++ [maxU])
  refine ⟨x.a, ?_⟩
  ((repeat' apply And.intro) <;> first | with_reducible rfl | omega | (dsimp only; omega) | exact RowsEq.refl _ _ _ | assumption | rfl | trivial | exact Nat.le_refl _ | skip)
  refine fun c1 _ => ⟨x.b, ?_⟩
  ((repeat' apply And.intro) <;> first | with_reducible rfl | omega | (dsimp only; omega) | exact RowsEq.refl _ _ _ | assumption | rfl | trivial | exact Nat.le_refl _ | skip)
  refine fun c2 _ => ⟨⟨x.a.L.map Prod.fst, c1, x.b.L.map Prod.fst, c2, [maxU], 1⟩, ?_⟩
  ((repeat' apply And.intro) <;> first | with_reducible rfl | omega | (dsimp only; omega) | exact RowsEq.refl _ _ _ | assumption | rfl | trivial | exact Nat.le_refl _ | skip)
  refine fun c3 hc3 => ⟨⟨x.a.L.map Prod.fst ++ x.b.L.map Prod.fst ++ [maxU], c3⟩, ?_⟩
  dsimp only at hc3
  ((repeat' apply And.intro) <;> first | with_reducible rfl | omega | (dsimp only; omega) | exact RowsEq.refl _ _ _ | assumption | rfl | trivial | exact Nat.le_refl _ | skip)
  refine fun _ _ => ⟨⟨sortU (x.a.L.map Prod.fst ++ x.b.L.map Prod.fst ++ [maxU]), c3⟩, ?_⟩
  ((repeat' apply And.intro) <;> first | with_reducible rfl | omega | (dsimp only; omega) | exact RowsEq.refl _ _ _ | assumption | rfl | trivial | exact Nat.le_refl _ | skip)
  dsimp only
  have eC : compL (sortU (x.a.L.map Prod.fst ++ x.b.L.map Prod.fst ++ [maxU])) = cutsOf x.a.L x.b.L := rfl
  rw [eC]
  clear eC ms mc ml mr hc3
  simp only [Nat.zero_add, Int.toNat_natCast, InR]
  refine fun _ _ => ⟨⟨(0, 0), ?_⟩, fun z hz => ⟨fun d1 => ?_, fun d1 => ?_⟩⟩
  · have e0 : planTo x.a.L x.b.L (cutsOf x.a.L x.b.L) 0 = ⟨[], 0⟩ := rfl
    dsimp only
    rw [e0]
    ((repeat' apply And.intro) <;> first | with_reducible rfl | omega | (dsimp only; omega) | exact RowsEq.refl _ _ _ | assumption | rfl | trivial | exact Nat.le_refl _ | skip)
  · obtain ⟨i, c⟩ := z
    dsimp only at d1 hz ⊢
    simp only [decide_eq_true_eq] at d1
    have hi : i < (cutsOf x.a.L x.b.L).length := by omega
    have hyl := planTo_len x.a.L x.b.L (cutsOf x.a.L x.b.L) i
    have e' : planTo x.a.L x.b.L (cutsOf x.a.L x.b.L) (i + 1) = stepP x.a.L x.b.L (planTo x.a.L x.b.L (cutsOf x.a.L x.b.L) i) (gl (cutsOf x.a.L x.b.L) i) := rfl
    generalize gl (cutsOf x.a.L x.b.L) i = to at *
    generalize planTo x.a.L x.b.L (cutsOf x.a.L x.b.L) i = y at *
    have el : gl y.l (y.l.length - 1) = lastM y.l := rfl
    have ej : ((y.l.length : Int) - 1).toNat = y.l.length - 1 := by omega
    rw [ej, el]
    ((repeat' apply And.intro) <;> first | with_reducible rfl | omega | (dsimp only; omega) | exact RowsEq.refl _ _ _ | assumption | rfl | trivial | exact Nat.le_refl _ | skip)
    refine fun _ => ⟨⟨x.a, to⟩, ?_⟩
    ((repeat' apply And.intro) <;> first | with_reducible rfl | omega | (dsimp only; omega) | exact RowsEq.refl _ _ _ | assumption | rfl | trivial | exact Nat.le_refl _ | skip)
    refine fun _ _ => ⟨⟨x.b, to⟩, ?_⟩
    ((repeat' apply And.intro) <;> first | with_reducible rfl | omega | (dsimp only; omega) | exact RowsEq.refl _ _ _ | assumption | rfl | trivial | exact Nat.le_refl _ | skip)
    dsimp only
    refine fun _ _ _ _ => ⟨fun d2 => ⟨by omega, (i + 1, c), ?_⟩, fun d2 => ?_⟩
    · have d2 : ownP x.a.L to = ownP x.b.L to := by simpa using d2
      have e2 : stepP x.a.L x.b.L y to = ⟨y.l, w64 (to + 1)⟩ := if_pos d2
      dsimp only
      rw [e', e2]
      ((repeat' apply And.intro) <;> first | with_reducible rfl | omega | (dsimp only; omega) | exact RowsEq.refl _ _ _ | assumption | rfl | trivial | exact Nat.le_refl _ | skip)
    have d2 : ¬ ownP x.a.L to = ownP x.b.L to := by simpa using d2
    refine ⟨fun d3 => ?_, fun d3 => ?_⟩
    · simp only [decide_eq_true_eq] at d3
      ((repeat' apply And.intro) <;> first | with_reducible rfl | omega | (dsimp only; omega) | exact RowsEq.refl _ _ _ | assumption | rfl | trivial | exact Nat.le_refl _ | skip)
      refine fun _ _ => ⟨fun d4 => ?_, fun d4 => ?_⟩
      · have d4 : w64 ((lastM y.l).t + 1) = y.from_ := by simpa [w64] using d4
        ((repeat' apply And.intro) <;> first | with_reducible rfl | omega | (dsimp only; omega) | exact RowsEq.refl _ _ _ | assumption | rfl | trivial | exact Nat.le_refl _ | skip)
        refine fun _ _ => ⟨fun d5 => ?_, fun d5 => ?_⟩
        · have d5 : (lastM y.l).s = ownP x.a.L to := by simpa using d5
          ((repeat' apply And.intro) <;> first | with_reducible rfl | omega | (dsimp only; omega) | exact RowsEq.refl _ _ _ | assumption | rfl | trivial | exact Nat.le_refl _ | skip)
          refine fun _ _ => ⟨fun d6 => ?_, fun d6 => ?_⟩
          · have d6 : (lastM y.l).d = ownP x.b.L to := by simpa using d6
            have e2 : stepP x.a.L x.b.L y to = ⟨y.l.set (y.l.length - 1) ⟨(lastM y.l).f, to, (lastM y.l).s, (lastM y.l).d⟩, w64 (to + 1)⟩ := by
              unfold stepP
              rw [if_neg d2, if_pos (show joins x.a.L x.b.L y to from ⟨by omega, d4, d5, d6⟩)]
            ((repeat' apply And.intro) <;> first | with_reducible rfl | omega | (dsimp only; omega) | exact RowsEq.refl _ _ _ | assumption | rfl | trivial | exact Nat.le_refl _ | skip)
            refine ⟨(i + 1, c), ?_⟩
            dsimp only
            rw [e', e2]
            dsimp only
            have hn1 : (y.l.set (y.l.length - 1) (⟨(lastM y.l).f, to, (lastM y.l).s, (lastM y.l).d⟩ : MvR)).length = y.l.length := List.length_set
            have r1 : RowsEq y.l.length 4 (updR (encRows encM y.l) (y.l.length - 1) 1 [Go.Value.int Go.IntKind.u64 to]) (encRows encM (y.l.set (y.l.length - 1) (⟨(lastM y.l).f, to, (lastM y.l).s, (lastM y.l).d⟩ : MvR))) := by
              refine .set _ (by omega) (fun k hk => by simp only [updR_other hk]) ?_
              simp only [updR_self]; rfl
            rw [hn1]
            ((repeat' apply And.intro) <;> first | with_reducible rfl | omega | (dsimp only; omega) | exact RowsEq.refl _ _ _ | assumption | rfl | trivial | exact Nat.le_refl _ | skip)
          · have d6 : ¬ (lastM y.l).d = ownP x.b.L to := by simpa using d6
            have e2 : stepP x.a.L x.b.L y to = ⟨y.l ++ [⟨y.from_, to, ownP x.a.L to, ownP x.b.L to⟩], w64 (to + 1)⟩ := by
              unfold stepP
              rw [if_neg d2, if_neg (fun g => d6 g.2.2.2)]
            have hn1 : (y.l ++ [(⟨y.from_, to, ownP x.a.L to, ownP x.b.L to⟩ : MvR)]).length = y.l.length + 1 := by simp
            ((repeat' apply And.intro) <;> first | with_reducible rfl | omega | (dsimp only; omega) | exact RowsEq.refl _ _ _ | assumption | rfl | trivial | exact Nat.le_refl _ | skip)
            refine fun c3 _ _ _ => ⟨by omega, (i + 1, c3), ?_⟩
            dsimp only
            rw [e', e2]
            dsimp only
            rw [hn1]
            ((repeat' apply And.intro) <;> first | with_reducible rfl | omega | (dsimp only; omega) | exact RowsEq.refl _ _ _ | exact .push rfl (by omega) rfl | rfl | trivial)
        · have d5 : ¬ (lastM y.l).s = ownP x.a.L to := by simpa using d5
          have e2 : stepP x.a.L x.b.L y to = ⟨y.l ++ [⟨y.from_, to, ownP x.a.L to, ownP x.b.L to⟩], w64 (to + 1)⟩ := by
            unfold stepP
            rw [if_neg d2, if_neg (fun g => d5 g.2.2.1)]
          have hn1 : (y.l ++ [(⟨y.from_, to, ownP x.a.L to, ownP x.b.L to⟩ : MvR)]).length = y.l.length + 1 := by simp
          ((repeat' apply And.intro) <;> first | with_reducible rfl | omega | (dsimp only; omega) | exact RowsEq.refl _ _ _ | assumption | rfl | trivial | exact Nat.le_refl _ | skip)
          refine fun c3 _ _ _ => ⟨by omega, (i + 1, c3), ?_⟩
          dsimp only
          rw [e', e2]
          dsimp only
          rw [hn1]
          ((repeat' apply And.intro) <;> first | with_reducible rfl | omega | (dsimp only; omega) | exact RowsEq.refl _ _ _ | exact .push rfl (by omega) rfl | rfl | trivial)
      · have d4 : ¬ w64 ((lastM y.l).t + 1) = y.from_ := by simpa [w64] using d4
        have e2 : stepP x.a.L x.b.L y to = ⟨y.l ++ [⟨y.from_, to, ownP x.a.L to, ownP x.b.L to⟩], w64 (to + 1)⟩ := by
          unfold stepP
          rw [if_neg d2, if_neg (fun g => d4 g.2.1)]
        have hn1 : (y.l ++ [(⟨y.from_, to, ownP x.a.L to, ownP x.b.L to⟩ : MvR)]).length = y.l.length + 1 := by simp
        ((repeat' apply And.intro) <;> first | with_reducible rfl | omega | (dsimp only; omega) | exact RowsEq.refl _ _ _ | assumption | rfl | trivial | exact Nat.le_refl _ | skip)
        refine fun c3 _ _ _ => ⟨by omega, (i + 1, c3), ?_⟩
        dsimp only
        rw [e', e2]
        dsimp only
        rw [hn1]
        ((repeat' apply And.intro) <;> first | with_reducible rfl | omega | (dsimp only; omega) | exact RowsEq.refl _ _ _ | exact .push rfl (by omega) rfl | rfl | trivial)
    · simp only [decide_eq_false_iff_not] at d3
      have e2 : stepP x.a.L x.b.L y to = ⟨y.l ++ [⟨y.from_, to, ownP x.a.L to, ownP x.b.L to⟩], w64 (to + 1)⟩ := by
        unfold stepP
        rw [if_neg d2, if_neg (fun g => d3 (by have := g.1; omega))]
      have hn1 : (y.l ++ [(⟨y.from_, to, ownP x.a.L to, ownP x.b.L to⟩ : MvR)]).length = y.l.length + 1 := by simp
      ((repeat' apply And.intro) <;> first | with_reducible rfl | omega | (dsimp only; omega) | exact RowsEq.refl _ _ _ | assumption | rfl | trivial | exact Nat.le_refl _ | skip)
      refine fun c3 _ _ _ => ⟨by omega, (i + 1, c3), ?_⟩
      dsimp only
      rw [e', e2]
      dsimp only
      rw [hn1]
      ((repeat' apply And.intro) <;> first | with_reducible rfl | omega | (dsimp only; omega) | exact RowsEq.refl _ _ _ | exact .push rfl (by omega) rfl | rfl | trivial)
  · obtain ⟨i, c⟩ := z
    dsimp only at d1 hz ⊢
    simp only [decide_eq_false_iff_not] at d1
    have hi : i = (cutsOf x.a.L x.b.L).length := by omega
    subst hi
    refine ⟨c, ?_⟩
    ((repeat' apply And.intro) <;> first | with_reducible rfl | omega | (dsimp only; omega) | exact RowsEq.refl _ _ _ | assumption | rfl | trivial | exact Nat.le_refl _ | skip))
theorem callPlan : CallsBy (Y Try.prog).G.X 11 cPlan := fn_ok okY tabPlanOf_ok bodyPlan
end Go.Proofs.Ythofnohpdbbidaa
