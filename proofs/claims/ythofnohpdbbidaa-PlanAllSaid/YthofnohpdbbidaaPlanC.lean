/-
  Points' hashes of rings, one list behind another, doubles struck; parts of a plan told. No condition but that lists are short.
-/
import Derived.Test.YthofnohpdbbidaaRingl
import Derived.Test.YthofnohpdbbidaaSortU3
namespace Go.Proofs.Ythofnohpdbbidaa
open Go.Sx
set_option maxRecDepth 100000
set_option linter.unusedVariables false

/-! ### a ring's cuts -/

noncomputable def cCuts : Con where
  α := RingA
  β := Nat
  m := 3
  m' := 4
  pre := fun a => a.L.length < 100000
  args := fun a => [.a (.ptr 0 0 0 0)]
  hp := fun _ => []
  ro := fun a => roRing a
  post := fun _ _ => True
  res := fun a cap => .a (.slc 3 0 1 (a.L.map Prod.fst).length cap)
  hp' := fun a _ => [(3, arrU (a.L.map Prod.fst))]
def iCuts (a : RingA) : An := .flat 3 (Nat × Nat) (fun s x => ((s.new (arrU ((a.L.take x.1).map Prod.fst))).set 3 (.a (.slc s.nx 0 1 ((a.L.take x.1).map Prod.fst).length x.2))).int 11 x.1)
  (fun _ x => x.1 ≤ a.L.length) (fun _ x => a.L.length - x.1)
set_option maxHeartbeats 4000000 in
theorem bodyCuts : fnBody (Y Try.prog) [] 21 cCuts fun a => [(21, [iCuts a], [])] := fnBody.of (p :=
  ∀ (a : RingA), a.L.length < (100000 : Nat) →
  (∃ (a_2 : Nat × Nat), (0 : Int) = (↑a_2.fst : Int) ∧
  ((0 : Nat) = (List.map Prod.fst (List.take a_2.fst a.L)).length ∧
  (0 : Nat) = a_2.snd) ∧
  (↑a.L.length : Int) = (↑a.L.length : Int) ∧
  ((0 : Nat) = (0 : Nat) ∧
  a.L.length = a.L.length ∧
  a.c2 = a.c2) ∧
  (0 : Nat) = (0 : Nat) ∧
  (List.map Prod.fst (List.take a_2.fst a.L)).length = (0 : Nat) ∧
  a.e = a.e ∧
  ((0 : Nat) = (0 : Nat) ∧
  a.l.length = a.l.length ∧
  a.c1 = a.c1) ∧
  ((0 : Nat) = (0 : Nat) ∧
  a.L.length = a.L.length ∧
  a.c2 = a.c2) ∧
  (a.l.length ≤ a.l.length ∧
  RowsEq a.l.length (1 : Nat) (encRows encI a.l) (encRows encI a.l)) ∧
  (a.L.length ≤ a.L.length ∧
  RowsEq a.L.length (2 : Nat) (encRows encPt a.L) (encRows encPt a.L)) ∧
  a_2.fst ≤ a.L.length ∧
  True) ∧
  ∀ (a_2 : Nat × Nat), a_2.fst ≤ a.L.length →
  (Decidable.decide ((↑a_2.fst : Int) < (↑a.L.length : Int)) = Bool.true →
  ((0 : Int) ≤ (↑a_2.fst : Int) ∧
  (↑a_2.fst : Int) < (↑a.L.length : Int)) ∧
  (0 : Nat) + (↑a_2.fst : Int).toNat < a.L.length ∧
  (InR IntKind.u64 (gl a.L ((0 : Nat) + (↑a_2.fst : Int).toNat)).fst →
  (0 : Nat) + (List.map Prod.fst (List.take a_2.fst a.L)).length ≤ (List.map Prod.fst (List.take a_2.fst a.L)).length ∧
  (1 : Nat) ≤ (1 : Nat) ∧
  ((List.map Prod.fst (List.take a_2.fst a.L)).length + (1 : Nat)) * (8 : Nat) ≤ (140737488355328 : Nat) ∧
  ∀ (cap : Nat), (List.map Prod.fst (List.take a_2.fst a.L)).length + (1 : Nat) ≤ cap →
  cap ≤ lenMax →
  ((List.map Prod.fst (List.take a_2.fst a.L)).length + (1 : Nat) ≤ a_2.snd →
  cap = a_2.snd) →
  InR IntKind.i64 ((↑a_2.fst : Int) + (1 : Int)) ∧
  ∃ (a' : Nat × Nat), (↑a_2.fst : Int) + (1 : Int) = (↑a'.fst : Int) ∧
  ((0 : Nat) = (0 : Nat) ∧
  (List.map Prod.fst (List.take a_2.fst a.L)).length + (1 : Nat) = (List.map Prod.fst (List.take a'.fst a.L)).length ∧
  cap = a'.snd) ∧
  (↑a.L.length : Int) = (↑a.L.length : Int) ∧
  ((0 : Nat) = (0 : Nat) ∧
  a.L.length = a.L.length ∧
  a.c2 = a.c2) ∧
  (0 : Nat) = (0 : Nat) ∧
  ((List.map Prod.fst (List.take a'.fst a.L)).length ≤ (List.map Prod.fst (List.take a_2.fst a.L)).length + (1 : Nat) ∧
  RowsEq (List.map Prod.fst (List.take a'.fst a.L)).length (1 : Nat) (appRows (encRows encU (List.map Prod.fst (List.take a_2.fst a.L))) (0 : Nat) (List.map Prod.fst (List.take a_2.fst a.L)).length fun (i j : Nat) => flatRows (1 : Nat) [Value.int IntKind.u64 (gl a.L ((0 : Nat) + (↑a_2.fst : Int).toNat)).fst] ((0 : Nat) + i) j) (encRows encU (List.map Prod.fst (List.take a'.fst a.L)))) ∧
  a.e = a.e ∧
  ((0 : Nat) = (0 : Nat) ∧
  a.l.length = a.l.length ∧
  a.c1 = a.c1) ∧
  ((0 : Nat) = (0 : Nat) ∧
  a.L.length = a.L.length ∧
  a.c2 = a.c2) ∧
  (a.l.length ≤ a.l.length ∧
  RowsEq a.l.length (1 : Nat) (encRows encI a.l) (encRows encI a.l)) ∧
  (a.L.length ≤ a.L.length ∧
  RowsEq a.L.length (2 : Nat) (encRows encPt a.L) (encRows encPt a.L)) ∧
  a'.fst ≤ a.L.length ∧
  a.L.length - a'.fst < a.L.length - a_2.fst)) ∧
  (Decidable.decide ((↑a_2.fst : Int) < (↑a.L.length : Int)) = Bool.false →
  ∃ (b : Nat), ((0 : Nat) = (0 : Nat) ∧
  (List.map Prod.fst (List.take a_2.fst a.L)).length = (List.map Prod.fst a.L).length ∧
  a_2.snd = b) ∧
  ((List.map Prod.fst a.L).length ≤ (List.map Prod.fst (List.take a_2.fst a.L)).length ∧
  RowsEq (List.map Prod.fst a.L).length (1 : Nat) (encRows encU (List.map Prod.fst (List.take a_2.fst a.L))) (encRows encU (List.map Prod.fst a.L))) ∧
  True ∧
  True)) (by kernel_rfl) (by
  rintro ⟨e, l, c1, L, c2⟩ h
  dsimp only at h ⊢
  have hn : ∀ i, (List.map Prod.fst (List.take i L)).length = min i L.length := fun i => by simp
  simp only [Nat.zero_add, Int.toNat_natCast, InR]
  refine ⟨⟨(0, 0), ?_⟩, fun x hx => ⟨fun d1 => ?_, fun d1 => ?_⟩⟩
  · have e0 : (L.take 0).map Prod.fst = [] := rfl
    dsimp only
    rw [e0]
    ((repeat' apply And.intro) <;> first | with_reducible rfl | omega | (dsimp only; omega) | exact RowsEq.refl _ _ _ | assumption | rfl | trivial | exact Nat.le_refl _ | skip)
  · obtain ⟨i, cap⟩ := x
    dsimp only at d1 hx ⊢
    simp only [decide_eq_true_eq] at d1
    have hi : i < L.length := by omega
    have h1 := hn i
    have es : (L.take (i + 1)).map Prod.fst = (L.take i).map Prod.fst ++ [(gl L i).1] := by
      rw [take_succ_gl hi, List.map_append]; rfl
    have h2 : ((L.take i).map Prod.fst ++ [(gl L i).1]).length = ((L.take i).map Prod.fst).length + 1 := by simp
    ((repeat' apply And.intro) <;> first | with_reducible rfl | omega | (dsimp only; omega) | exact RowsEq.refl _ _ _ | assumption | rfl | trivial | exact Nat.le_refl _ | skip)
    intro _
    ((repeat' apply And.intro) <;> first | with_reducible rfl | omega | (dsimp only; omega) | exact RowsEq.refl _ _ _ | assumption | rfl | trivial | exact Nat.le_refl _ | skip)
    refine fun c _ _ _ => ⟨by omega, (i + 1, c), ?_⟩
    dsimp only
    rw [es, h2]
    ((repeat' apply And.intro) <;> first | with_reducible rfl | omega | (dsimp only; omega) | exact RowsEq.refl _ _ _ | exact .push rfl (by omega) rfl | rfl | trivial)
  · obtain ⟨i, cap⟩ := x
    dsimp only at d1 hx ⊢
    simp only [decide_eq_false_iff_not] at d1
    have hi : i = L.length := by omega
    subst hi
    rw [List.take_length]
    refine ⟨cap, ?_⟩
    ((repeat' apply And.intro) <;> first | with_reducible rfl | omega | (dsimp only; omega) | exact RowsEq.refl _ _ _ | assumption | rfl | trivial | exact Nat.le_refl _ | skip))
theorem callCuts : CallsBy (Y Try.prog).G.X 21 cCuts := fn_ok okY (tab := []) trivial bodyCuts

/-! ### three lists, one behind another -/

structure CatA where
  l1 : List Int
  c1 : Nat
  l2 : List Int
  c2 : Nat
  l3 : List Int
  c3 : Nat
noncomputable def cCat : Con where
  α := CatA
  β := Nat
  m := 4
  m' := 5
  pre := fun a => 1 ≤ a.l1.length ∧ a.l1.length < 1000 ∧ a.l2.length < 1000 ∧ a.l3.length < 1000
  args := fun _ => [.a (.slc 0 0 1 3 3)]
  hp := fun _ => []
  ro := fun a => [(0, .obj 22 [.slc 1 0 1 a.l1.length a.c1, .slc 2 0 1 a.l2.length a.c2, .slc 3 0 1 a.l3.length a.c3]), (1, arrU a.l1), (2, arrU a.l2), (3, arrU a.l3)]
  post := fun a cap => (a.l1 ++ a.l2 ++ a.l3).length ≤ cap
  res := fun a cap => .a (.slc 4 0 1 (a.l1 ++ a.l2 ++ a.l3).length cap)
  hp' := fun a _ => [(4, arrU (a.l1 ++ a.l2 ++ a.l3))]
def cCat1 (a : CatA) : An := .flat 9 Unit (fun s _ => s.int 3 ((a.l1.length + a.l2.length + a.l3.length : Nat) : Int)) (fun _ _ => True) (fun _ _ => 0)
def cCat2 (a : CatA) : An := .flat 10 Nat (fun s cap => (s.new (arrU [])).set 6 (.a (.slc s.nx 0 1 0 cap))) (fun _ _ => True) (fun _ _ => 0)
def cCat3 (a : CatA) : An := .flat 15 Nat (fun s cap => (s.new (arrU (a.l1 ++ a.l2 ++ a.l3))).set 6 (.a (.slc s.nx 0 1 (a.l1 ++ a.l2 ++ a.l3).length cap))) (fun _ _ => True) (fun _ _ => 0)
set_option maxHeartbeats 4000000 in
theorem bodyCat : fnBody (Y Try.prog) [] 20 cCat fun a => [(20, [], [cCat1 a])] := fnBody.of (p :=
  ∀ (a : CatA), (1 : Nat) ≤ a.l1.length ∧
  a.l1.length < (1000 : Nat) ∧
  a.l2.length < (1000 : Nat) ∧
  a.l3.length < (1000 : Nat) →
  ((Bool.true = Bool.true →
  ((0 : Int) ≤ (0 : Int) ∧
  (0 : Int) < (3 : Int)) ∧
  InR IntKind.i64 ((0 : Int) + (↑a.l1.length : Int)) ∧
  (Decidable.decide ((0 : Int) + (↑a.l1.length : Int) < (0 : Int)) = Bool.true →
  False) ∧
  (Decidable.decide ((0 : Int) + (↑a.l1.length : Int) < (0 : Int)) = Bool.false →
  (Bool.true = Bool.true →
  ((0 : Int) ≤ (1 : Int) ∧
  (1 : Int) < (3 : Int)) ∧
  InR IntKind.i64 ((0 : Int) + (↑a.l1.length : Int) + (↑a.l2.length : Int)) ∧
  (Decidable.decide ((0 : Int) + (↑a.l1.length : Int) + (↑a.l2.length : Int) < (0 : Int)) = Bool.true →
  False) ∧
  (Decidable.decide ((0 : Int) + (↑a.l1.length : Int) + (↑a.l2.length : Int) < (0 : Int)) = Bool.false →
  (Bool.true = Bool.true →
  ((0 : Int) ≤ (2 : Int) ∧
  (2 : Int) < (3 : Int)) ∧
  InR IntKind.i64 ((0 : Int) + (↑a.l1.length : Int) + (↑a.l2.length : Int) + (↑a.l3.length : Int)) ∧
  (Decidable.decide ((0 : Int) + (↑a.l1.length : Int) + (↑a.l2.length : Int) + (↑a.l3.length : Int) < (0 : Int)) = Bool.true →
  False) ∧
  (Decidable.decide ((0 : Int) + (↑a.l1.length : Int) + (↑a.l2.length : Int) + (↑a.l3.length : Int) < (0 : Int)) = Bool.false →
  (Bool.false = Bool.true →
  ((0 : Int) ≤ (3 : Int) ∧
  (3 : Int) < (3 : Int)) ∧
  False) ∧
  (Bool.false = Bool.false →
  ∃ (a_9 : Unit), (0 : Int) + (↑a.l1.length : Int) + (↑a.l2.length : Int) + (↑a.l3.length : Int) = (↑(a.l1.length + a.l2.length + a.l3.length) : Int) ∧
  ((0 : Nat) = (0 : Nat) ∧
  (3 : Nat) = (3 : Nat) ∧
  (3 : Nat) = (3 : Nat)) ∧
  ((0 : Nat) = (0 : Nat) ∧
  a.l1.length = a.l1.length ∧
  a.c1 = a.c1) ∧
  ((0 : Nat) = (0 : Nat) ∧
  a.l2.length = a.l2.length ∧
  a.c2 = a.c2) ∧
  ((0 : Nat) = (0 : Nat) ∧
  a.l3.length = a.l3.length ∧
  a.c3 = a.c3) ∧
  (a.l1.length ≤ a.l1.length ∧
  RowsEq a.l1.length (1 : Nat) (encRows encU a.l1) (encRows encU a.l1)) ∧
  (a.l2.length ≤ a.l2.length ∧
  RowsEq a.l2.length (1 : Nat) (encRows encU a.l2) (encRows encU a.l2)) ∧
  (a.l3.length ≤ a.l3.length ∧
  RowsEq a.l3.length (1 : Nat) (encRows encU a.l3) (encRows encU a.l3)) ∧
  True ∧
  True))) ∧
  (Bool.true = Bool.false →
  ∃ (a_7 : Unit), (0 : Int) + (↑a.l1.length : Int) + (↑a.l2.length : Int) = (↑(a.l1.length + a.l2.length + a.l3.length) : Int) ∧
  ((0 : Nat) = (0 : Nat) ∧
  (3 : Nat) = (3 : Nat) ∧
  (3 : Nat) = (3 : Nat)) ∧
  ((0 : Nat) = (0 : Nat) ∧
  a.l1.length = a.l1.length ∧
  a.c1 = a.c1) ∧
  ((0 : Nat) = (0 : Nat) ∧
  a.l2.length = a.l2.length ∧
  a.c2 = a.c2) ∧
  ((0 : Nat) = (0 : Nat) ∧
  a.l3.length = a.l3.length ∧
  a.c3 = a.c3) ∧
  (a.l1.length ≤ a.l1.length ∧
  RowsEq a.l1.length (1 : Nat) (encRows encU a.l1) (encRows encU a.l1)) ∧
  (a.l2.length ≤ a.l2.length ∧
  RowsEq a.l2.length (1 : Nat) (encRows encU a.l2) (encRows encU a.l2)) ∧
  (a.l3.length ≤ a.l3.length ∧
  RowsEq a.l3.length (1 : Nat) (encRows encU a.l3) (encRows encU a.l3)) ∧
  True ∧
  True))) ∧
  (Bool.true = Bool.false →
  ∃ (a_5 : Unit), (0 : Int) + (↑a.l1.length : Int) = (↑(a.l1.length + a.l2.length + a.l3.length) : Int) ∧
  ((0 : Nat) = (0 : Nat) ∧
  (3 : Nat) = (3 : Nat) ∧
  (3 : Nat) = (3 : Nat)) ∧
  ((0 : Nat) = (0 : Nat) ∧
  a.l1.length = a.l1.length ∧
  a.c1 = a.c1) ∧
  ((0 : Nat) = (0 : Nat) ∧
  a.l2.length = a.l2.length ∧
  a.c2 = a.c2) ∧
  ((0 : Nat) = (0 : Nat) ∧
  a.l3.length = a.l3.length ∧
  a.c3 = a.c3) ∧
  (a.l1.length ≤ a.l1.length ∧
  RowsEq a.l1.length (1 : Nat) (encRows encU a.l1) (encRows encU a.l1)) ∧
  (a.l2.length ≤ a.l2.length ∧
  RowsEq a.l2.length (1 : Nat) (encRows encU a.l2) (encRows encU a.l2)) ∧
  (a.l3.length ≤ a.l3.length ∧
  RowsEq a.l3.length (1 : Nat) (encRows encU a.l3) (encRows encU a.l3)) ∧
  True ∧
  True))) ∧
  (Bool.true = Bool.false →
  ∃ (a_3 : Unit), (0 : Int) = (↑(a.l1.length + a.l2.length + a.l3.length) : Int) ∧
  ((0 : Nat) = (0 : Nat) ∧
  (3 : Nat) = (3 : Nat) ∧
  (3 : Nat) = (3 : Nat)) ∧
  ((0 : Nat) = (0 : Nat) ∧
  a.l1.length = a.l1.length ∧
  a.c1 = a.c1) ∧
  ((0 : Nat) = (0 : Nat) ∧
  a.l2.length = a.l2.length ∧
  a.c2 = a.c2) ∧
  ((0 : Nat) = (0 : Nat) ∧
  a.l3.length = a.l3.length ∧
  a.c3 = a.c3) ∧
  (a.l1.length ≤ a.l1.length ∧
  RowsEq a.l1.length (1 : Nat) (encRows encU a.l1) (encRows encU a.l1)) ∧
  (a.l2.length ≤ a.l2.length ∧
  RowsEq a.l2.length (1 : Nat) (encRows encU a.l2) (encRows encU a.l2)) ∧
  (a.l3.length ≤ a.l3.length ∧
  RowsEq a.l3.length (1 : Nat) (encRows encU a.l3) (encRows encU a.l3)) ∧
  True ∧
  True)) ∧
  ∀ (a_2 : Unit), True →
  (Decidable.decide ((↑(a.l1.length + a.l2.length + a.l3.length) : Int) < (0 : Int)) = Bool.true →
  False) ∧
  (Decidable.decide ((↑(a.l1.length + a.l2.length + a.l3.length) : Int) < (0 : Int)) = Bool.false →
  InR IntKind.i64 ((↑(a.l1.length + a.l2.length + a.l3.length) : Int) - (0 : Int)) ∧
  (Decidable.decide ((0 : Int) < (↑(a.l1.length + a.l2.length + a.l3.length) : Int) - (0 : Int)) = Bool.true →
  ((0 : Int) ≤ (0 : Int) ∧
  (0 : Int) ≤ (0 : Int)) ∧
  ((1 : Int) ≤ (↑(a.l1.length + a.l2.length + a.l3.length) : Int) - (0 : Int) ∧
  ((↑(a.l1.length + a.l2.length + a.l3.length) : Int) - (0 : Int)) * (8 : Int) ≤ (140737488355328 : Int)) ∧
  ∀ (cap : Nat), ((↑(a.l1.length + a.l2.length + a.l3.length) : Int) - (0 : Int)).toNat ≤ cap →
  cap ≤ lenMax →
  ((0 : Int) ≤ (0 : Int) ∧
  (0 : Int) ≤ (↑cap : Int)) ∧
  (Bool.true = Bool.true →
  ((0 : Int) ≤ (0 : Int) ∧
  (0 : Int) < (3 : Int)) ∧
  (0 : Nat) ≤ ((↑(a.l1.length + a.l2.length + a.l3.length) : Int) - (0 : Int)).toNat ∧
  (0 : Nat) + a.l1.length ≤ a.l1.length ∧
  ((0 : Nat) + a.l1.length) * (8 : Nat) ≤ (140737488355328 : Nat) ∧
  ∀ (cap_1 : Nat), (0 : Nat) + a.l1.length ≤ cap_1 →
  cap_1 ≤ lenMax →
  ((0 : Nat) + a.l1.length ≤ cap - (0 : Nat) →
  cap_1 = cap - (0 : Nat)) →
  (Bool.true = Bool.true →
  ((0 : Int) ≤ (1 : Int) ∧
  (1 : Int) < (3 : Int)) ∧
  (0 : Nat) + ((0 : Nat) + a.l1.length) ≤ (0 : Nat) + a.l1.length ∧
  (0 : Nat) + a.l2.length ≤ a.l2.length ∧
  ((0 : Nat) + a.l1.length + a.l2.length) * (8 : Nat) ≤ (140737488355328 : Nat) ∧
  ∀ (cap : Nat), (0 : Nat) + a.l1.length + a.l2.length ≤ cap →
  cap ≤ lenMax →
  ((0 : Nat) + a.l1.length + a.l2.length ≤ cap_1 →
  cap = cap_1) →
  (Bool.true = Bool.true →
  ((0 : Int) ≤ (2 : Int) ∧
  (2 : Int) < (3 : Int)) ∧
  (0 : Nat) + ((0 : Nat) + a.l1.length + a.l2.length) ≤ (0 : Nat) + a.l1.length + a.l2.length ∧
  (0 : Nat) + a.l3.length ≤ a.l3.length ∧
  ((0 : Nat) + a.l1.length + a.l2.length + a.l3.length) * (8 : Nat) ≤ (140737488355328 : Nat) ∧
  ∀ (cap_2 : Nat), (0 : Nat) + a.l1.length + a.l2.length + a.l3.length ≤ cap_2 →
  cap_2 ≤ lenMax →
  ((0 : Nat) + a.l1.length + a.l2.length + a.l3.length ≤ cap →
  cap_2 = cap) →
  (Bool.false = Bool.true →
  ((0 : Int) ≤ (3 : Int) ∧
  (3 : Int) < (3 : Int)) ∧
  False) ∧
  (Bool.false = Bool.false →
  ∃ (b : Nat), ((0 : Nat) = (0 : Nat) ∧
  (0 : Nat) + a.l1.length + a.l2.length + a.l3.length = (a.l1 ++ a.l2 ++ a.l3).length ∧
  cap_2 = b) ∧
  ((a.l1 ++ a.l2 ++ a.l3).length ≤ (0 : Nat) + a.l1.length + a.l2.length + a.l3.length ∧
  RowsEq (a.l1 ++ a.l2 ++ a.l3).length (1 : Nat) (appRows (appRows (appRows (fun (x j : Nat) => [Value.int IntKind.u64 (0 : Int)].getD j (Value.tuple #[])) (0 : Nat) (0 : Nat) fun (i j : Nat) => encRows encU a.l1 ((0 : Nat) + i) j) (0 : Nat) ((0 : Nat) + a.l1.length) fun (i j : Nat) => encRows encU a.l2 ((0 : Nat) + i) j) (0 : Nat) ((0 : Nat) + a.l1.length + a.l2.length) fun (i j : Nat) => encRows encU a.l3 ((0 : Nat) + i) j) (encRows encU (a.l1 ++ a.l2 ++ a.l3))) ∧
  (a.l1 ++ a.l2 ++ a.l3).length ≤ b ∧
  True)) ∧
  (Bool.true = Bool.false →
  ∃ (b : Nat), ((0 : Nat) = (0 : Nat) ∧
  (0 : Nat) + a.l1.length + a.l2.length = (a.l1 ++ a.l2 ++ a.l3).length ∧
  cap = b) ∧
  ((a.l1 ++ a.l2 ++ a.l3).length ≤ (0 : Nat) + a.l1.length + a.l2.length ∧
  RowsEq (a.l1 ++ a.l2 ++ a.l3).length (1 : Nat) (appRows (appRows (fun (x j : Nat) => [Value.int IntKind.u64 (0 : Int)].getD j (Value.tuple #[])) (0 : Nat) (0 : Nat) fun (i j : Nat) => encRows encU a.l1 ((0 : Nat) + i) j) (0 : Nat) ((0 : Nat) + a.l1.length) fun (i j : Nat) => encRows encU a.l2 ((0 : Nat) + i) j) (encRows encU (a.l1 ++ a.l2 ++ a.l3))) ∧
  (a.l1 ++ a.l2 ++ a.l3).length ≤ b ∧
  True)) ∧
  (Bool.true = Bool.false →
  ∃ (b : Nat), ((0 : Nat) = (0 : Nat) ∧
  (0 : Nat) + a.l1.length = (a.l1 ++ a.l2 ++ a.l3).length ∧
  cap_1 = b) ∧
  ((a.l1 ++ a.l2 ++ a.l3).length ≤ (0 : Nat) + a.l1.length ∧
  RowsEq (a.l1 ++ a.l2 ++ a.l3).length (1 : Nat) (appRows (fun (x j : Nat) => [Value.int IntKind.u64 (0 : Int)].getD j (Value.tuple #[])) (0 : Nat) (0 : Nat) fun (i j : Nat) => encRows encU a.l1 ((0 : Nat) + i) j) (encRows encU (a.l1 ++ a.l2 ++ a.l3))) ∧
  (a.l1 ++ a.l2 ++ a.l3).length ≤ b ∧
  True)) ∧
  (Bool.true = Bool.false →
  ∃ (b : Nat), ((0 : Nat) = (0 : Nat) ∧
  (0 : Nat) = (a.l1 ++ a.l2 ++ a.l3).length ∧
  cap - (0 : Nat) = b) ∧
  ((a.l1 ++ a.l2 ++ a.l3).length ≤ ((↑(a.l1.length + a.l2.length + a.l3.length) : Int) - (0 : Int)).toNat ∧
  RowsEq (a.l1 ++ a.l2 ++ a.l3).length (1 : Nat) (fun (x j : Nat) => [Value.int IntKind.u64 (0 : Int)].getD j (Value.tuple #[])) (encRows encU (a.l1 ++ a.l2 ++ a.l3))) ∧
  (a.l1 ++ a.l2 ++ a.l3).length ≤ b ∧
  True)) ∧
  (Decidable.decide ((0 : Int) < (↑(a.l1.length + a.l2.length + a.l3.length) : Int) - (0 : Int)) = Bool.false →
  (Bool.true = Bool.true →
  ((0 : Int) ≤ (0 : Int) ∧
  (0 : Int) < (3 : Int)) ∧
  (0 : Nat) + a.l1.length ≤ a.l1.length ∧
  a.l1.length * (8 : Nat) ≤ (140737488355328 : Nat) ∧
  ∀ (cap : Nat), a.l1.length ≤ cap →
  cap ≤ lenMax →
  (Bool.true = Bool.true →
  ((0 : Int) ≤ (1 : Int) ∧
  (1 : Int) < (3 : Int)) ∧
  (0 : Nat) + a.l1.length ≤ a.l1.length ∧
  (0 : Nat) + a.l2.length ≤ a.l2.length ∧
  (a.l1.length + a.l2.length) * (8 : Nat) ≤ (140737488355328 : Nat) ∧
  ∀ (cap_1 : Nat), a.l1.length + a.l2.length ≤ cap_1 →
  cap_1 ≤ lenMax →
  (a.l1.length + a.l2.length ≤ cap →
  cap_1 = cap) →
  (Bool.true = Bool.true →
  ((0 : Int) ≤ (2 : Int) ∧
  (2 : Int) < (3 : Int)) ∧
  (0 : Nat) + (a.l1.length + a.l2.length) ≤ a.l1.length + a.l2.length ∧
  (0 : Nat) + a.l3.length ≤ a.l3.length ∧
  (a.l1.length + a.l2.length + a.l3.length) * (8 : Nat) ≤ (140737488355328 : Nat) ∧
  ∀ (cap : Nat), a.l1.length + a.l2.length + a.l3.length ≤ cap →
  cap ≤ lenMax →
  (a.l1.length + a.l2.length + a.l3.length ≤ cap_1 →
  cap = cap_1) →
  (Bool.false = Bool.true →
  ((0 : Int) ≤ (3 : Int) ∧
  (3 : Int) < (3 : Int)) ∧
  False) ∧
  (Bool.false = Bool.false →
  ∃ (b : Nat), ((0 : Nat) = (0 : Nat) ∧
  a.l1.length + a.l2.length + a.l3.length = (a.l1 ++ a.l2 ++ a.l3).length ∧
  cap = b) ∧
  ((a.l1 ++ a.l2 ++ a.l3).length ≤ a.l1.length + a.l2.length + a.l3.length ∧
  RowsEq (a.l1 ++ a.l2 ++ a.l3).length (1 : Nat) (appRows (appRows (fun (i j : Nat) => encRows encU a.l1 ((0 : Nat) + i) j) (0 : Nat) a.l1.length fun (i j : Nat) => encRows encU a.l2 ((0 : Nat) + i) j) (0 : Nat) (a.l1.length + a.l2.length) fun (i j : Nat) => encRows encU a.l3 ((0 : Nat) + i) j) (encRows encU (a.l1 ++ a.l2 ++ a.l3))) ∧
  (a.l1 ++ a.l2 ++ a.l3).length ≤ b ∧
  True)) ∧
  (Bool.true = Bool.false →
  ∃ (b : Nat), ((0 : Nat) = (0 : Nat) ∧
  a.l1.length + a.l2.length = (a.l1 ++ a.l2 ++ a.l3).length ∧
  cap_1 = b) ∧
  ((a.l1 ++ a.l2 ++ a.l3).length ≤ a.l1.length + a.l2.length ∧
  RowsEq (a.l1 ++ a.l2 ++ a.l3).length (1 : Nat) (appRows (fun (i j : Nat) => encRows encU a.l1 ((0 : Nat) + i) j) (0 : Nat) a.l1.length fun (i j : Nat) => encRows encU a.l2 ((0 : Nat) + i) j) (encRows encU (a.l1 ++ a.l2 ++ a.l3))) ∧
  (a.l1 ++ a.l2 ++ a.l3).length ≤ b ∧
  True)) ∧
  (Bool.true = Bool.false →
  ∃ (b : Nat), ((0 : Nat) = (0 : Nat) ∧
  a.l1.length = (a.l1 ++ a.l2 ++ a.l3).length ∧
  cap = b) ∧
  ((a.l1 ++ a.l2 ++ a.l3).length ≤ a.l1.length ∧
  RowsEq (a.l1 ++ a.l2 ++ a.l3).length (1 : Nat) (fun (i j : Nat) => encRows encU a.l1 ((0 : Nat) + i) j) (encRows encU (a.l1 ++ a.l2 ++ a.l3))) ∧
  (a.l1 ++ a.l2 ++ a.l3).length ≤ b ∧
  True)) ∧
  (Bool.true = Bool.false →
  ∃ (b : Nat), ((0 : Nat) = (a.l1 ++ a.l2 ++ a.l3).length ∧
  (0 : Nat) = b) ∧
  (a.l1 ++ a.l2 ++ a.l3).length = (0 : Nat) ∧
  (a.l1 ++ a.l2 ++ a.l3).length ≤ b ∧
  True)))) (by kernel_rfl) (by
  rintro ⟨l1, c1, l2, c2, l3, c3⟩ ⟨h1, h2, h3, h4⟩
  dsimp only at h1 h2 h3 h4 ⊢
  have hn : (l1 ++ l2 ++ l3).length = l1.length + l2.length + l3.length := by simp only [List.length_append]
  have hrow : RowsEq (l1.length + l2.length + l3.length) 1 (appRows (appRows (appRows (fun (x j : Nat) => [Go.Value.int Go.IntKind.u64 0].getD j (Go.Value.tuple #[])) 0 0 fun (i j : Nat) => encRows encU l1 i j) 0 l1.length fun (i j : Nat) => encRows encU l2 i j) 0 (l1.length + l2.length) fun (i j : Nat) => encRows encU l3 i j) (encRows encU (l1 ++ l2 ++ l3)) := by
    refine .app (by simp) ?_ (.of_eq rfl)
    simp only [Nat.zero_add]
    refine .app rfl ?_ (.of_eq rfl)
    simp only [Nat.zero_add]
    refine .of_eq ?_
    funext i j
    simp [appRows]
  generalize l1 ++ l2 ++ l3 = l at *
  simp only [Nat.zero_add, Nat.sub_zero, Int.sub_zero, Int.zero_add, Int.toNat_natCast, InR, hn]
  repeat' (first | intro _ | apply And.intro | apply Exists.intro ())
  all_goals (try (exfalso; rename_i hx; exact Bool.noConfusion hx))
  all_goals (try trivial)
  all_goals (try omega)
  all_goals first
    | exact RowsEq.refl _ _ _
    | exact ⟨_, ⟨trivial, trivial, rfl⟩, ⟨Nat.le_refl _, hrow⟩, by assumption, trivial⟩
    | (exfalso; simp only [decide_eq_false_iff_not] at *; omega))
theorem callCat : CallsBy (Y Try.prog).G.X 20 cCat := fn_ok okY (tab := []) trivial bodyCat

/-! ### doubles are struck -/

def compTo (l : List Int) : Nat → List Int
  | 0 => []
  | q + 1 => if q ≠ 0 ∧ gl l q = gl l (q - 1) then compTo l q else compTo l q ++ [gl l q]
def compL (l : List Int) : List Int := compTo l l.length
theorem comp_same {l : List Int} {q : Nat} (h0 : q ≠ 0) (h : gl l q = gl l (q - 1)) : compTo l (q + 1) = compTo l q := if_pos ⟨h0, h⟩
theorem comp_new {l : List Int} {q : Nat} (h : gl l q ≠ gl l (q - 1)) : compTo l (q + 1) = compTo l q ++ [gl l q] := if_neg fun g => h g.2
theorem comp_one {l : List Int} (h : 0 < l.length) : compTo l 1 = l.take 1 := by
  rw [take_succ_gl h]; rfl
structure CompS where
  m : List Int
  k : Nat
  j : Nat
noncomputable def cComp : Con where
  α := ListA
  β := Unit
  m := 1
  m' := 1
  pre := fun x => 1 ≤ x.l.length ∧ x.l.length < 100000 ∧ x.l.length ≤ x.cap
  args := fun x => [.a (.slc 0 0 1 x.l.length x.cap)]
  hp := fun x => [(0, arrU x.l)]
  ro := fun _ => []
  post := fun _ _ => True
  res := fun x _ => .a (.slc 0 0 1 (compL x.l).length x.cap)
  hp' := fun x _ => [(0, arrU (compL x.l))]
def iComp2 (x : ListA) (k : Nat) : An := .flat 9 CompS (fun s y => ((S.dat s y.m).int 3 y.k).int 5 y.j)
  (fun _ y => y.m.length = x.l.length ∧ 1 ≤ y.j ∧ k + y.j ≤ x.l.length ∧ y.k < k + y.j ∧ compTo x.l (k + y.j) = y.m.take y.k ∧ ∀ i, k + y.j ≤ i + 1 → gl y.m i = gl x.l i) (fun _ y => x.l.length - y.j)
def iComp (x : ListA) : An := .mk 4 Nat (fun s k => s.int 3 k) (fun _ k => 1 ≤ k ∧ k ≤ x.l.length ∧ compTo x.l k = x.l.take k) (fun _ k => x.l.length - k) fun k => .mk 60 [iComp2 x k] []
set_option maxHeartbeats 4000000 in
theorem bodyComp : fnBody (Y Try.prog) [] 23 cComp fun x => [(23, [iComp x], [])] := fnBody.of (p :=
  ∀ (a : ListA), (1 : Nat) ≤ a.l.length ∧
  a.l.length < (100000 : Nat) ∧
  a.l.length ≤ a.cap →
  (Decidable.decide ((↑a.l.length : Int) < (2 : Int)) = Bool.true →
  ∃ (b : Unit), ((0 : Nat) = (0 : Nat) ∧
  a.l.length = (compL a.l).length ∧
  a.cap = a.cap) ∧
  ((compL a.l).length ≤ a.l.length ∧
  RowsEq (compL a.l).length (1 : Nat) (encRows encU a.l) (encRows encU (compL a.l))) ∧
  True ∧
  True) ∧
  (Decidable.decide ((↑a.l.length : Int) < (2 : Int)) = Bool.false →
  (∃ (a_3 : Nat), (1 : Int) = (↑a_3 : Int) ∧
  Decidable.decide ((↑a.l.length : Int) < (2 : Int)) = Decidable.decide ((↑a.l.length : Int) < (2 : Int)) ∧
  ((0 : Nat) = (0 : Nat) ∧
  a.l.length = a.l.length ∧
  a.cap = a.cap) ∧
  (a.l.length ≤ a.l.length ∧
  RowsEq a.l.length (1 : Nat) (encRows encU a.l) (encRows encU a.l)) ∧
  ((1 : Nat) ≤ a_3 ∧
  a_3 ≤ a.l.length ∧
  compTo a.l a_3 = List.take a_3 a.l) ∧
  True) ∧
  ∀ (a_3 : Nat), (1 : Nat) ≤ a_3 ∧
  a_3 ≤ a.l.length ∧
  compTo a.l a_3 = List.take a_3 a.l →
  (Decidable.decide ((↑a_3 : Int) < (↑a.l.length : Int)) = Bool.true →
  ((0 : Int) ≤ (↑a_3 : Int) ∧
  (↑a_3 : Int) < (↑a.l.length : Int)) ∧
  (0 : Nat) + (↑a_3 : Int).toNat < a.l.length ∧
  (InR IntKind.u64 (gl a.l ((0 : Nat) + (↑a_3 : Int).toNat)) →
  InR IntKind.i64 ((↑a_3 : Int) - (1 : Int)) ∧
  ((0 : Int) ≤ (↑a_3 : Int) - (1 : Int) ∧
  (↑a_3 : Int) - (1 : Int) < (↑a.l.length : Int)) ∧
  (0 : Nat) + ((↑a_3 : Int) - (1 : Int)).toNat < a.l.length ∧
  (InR IntKind.u64 (gl a.l ((0 : Nat) + ((↑a_3 : Int) - (1 : Int)).toNat)) →
  ((gl a.l ((0 : Nat) + (↑a_3 : Int).toNat) == gl a.l ((0 : Nat) + ((↑a_3 : Int) - (1 : Int)).toNat)) = Bool.true →
  ((0 : Int) ≤ (↑a_3 : Int) ∧
  (↑a_3 : Int) ≤ (↑a.l.length : Int)) ∧
  (∃ (a_9 : CompS), (1 : Int) = (↑a_9.j : Int) ∧
  (↑a_3 : Int) = (↑a_9.k : Int) ∧
  ((0 : Nat) + (↑a_3 : Int).toNat = (0 : Nat) + (↑a_3 : Int).toNat ∧
  a.l.length - (↑a_3 : Int).toNat = a.l.length - (↑a_3 : Int).toNat ∧
  a.cap - (↑a_3 : Int).toNat = a.cap - (↑a_3 : Int).toNat) ∧
  (gl a.l ((0 : Nat) + (↑a_3 : Int).toNat) == gl a.l ((0 : Nat) + ((↑a_3 : Int) - (1 : Int)).toNat)) = (gl a.l ((0 : Nat) + (↑a_3 : Int).toNat) == gl a.l ((0 : Nat) + ((↑a_3 : Int) - (1 : Int)).toNat)) ∧
  Decidable.decide ((↑a_3 : Int) < (↑a.l.length : Int)) = Decidable.decide ((↑a_3 : Int) < (↑a.l.length : Int)) ∧
  Decidable.decide ((↑a.l.length : Int) < (2 : Int)) = Decidable.decide ((↑a.l.length : Int) < (2 : Int)) ∧
  ((0 : Nat) = (0 : Nat) ∧
  a.l.length = a.l.length ∧
  a.cap = a.cap) ∧
  (a_9.m.length ≤ a.l.length ∧
  RowsEq a_9.m.length (1 : Nat) (encRows encU a.l) (encRows encU a_9.m)) ∧
  (a_9.m.length = a.l.length ∧
  (1 : Nat) ≤ a_9.j ∧
  a_3 + a_9.j ≤ a.l.length ∧
  a_9.k < a_3 + a_9.j ∧
  compTo a.l (a_3 + a_9.j) = List.take a_9.k a_9.m ∧
  ∀ (i : Nat), a_3 + a_9.j ≤ i + (1 : Nat) →
  gl a_9.m i = gl a.l i) ∧
  True) ∧
  ∀ (a_9 : CompS), (a_9.m.length = a.l.length ∧
  (1 : Nat) ≤ a_9.j ∧
  a_3 + a_9.j ≤ a.l.length ∧
  a_9.k < a_3 + a_9.j ∧
  compTo a.l (a_3 + a_9.j) = List.take a_9.k a_9.m ∧
  ∀ (i : Nat), a_3 + a_9.j ≤ i + (1 : Nat) →
  gl a_9.m i = gl a.l i) →
  (Decidable.decide ((↑a_9.j : Int) < (↑(a.l.length - (↑a_3 : Int).toNat) : Int)) = Bool.true →
  ((0 : Int) ≤ (↑a_9.j : Int) ∧
  (↑a_9.j : Int) < (↑(a.l.length - (↑a_3 : Int).toNat) : Int)) ∧
  (0 : Nat) + (↑a_3 : Int).toNat + (↑a_9.j : Int).toNat < a_9.m.length ∧
  (InR IntKind.u64 (gl a_9.m ((0 : Nat) + (↑a_3 : Int).toNat + (↑a_9.j : Int).toNat)) →
  InR IntKind.i64 ((↑a_9.j : Int) - (1 : Int)) ∧
  ((0 : Int) ≤ (↑a_9.j : Int) - (1 : Int) ∧
  (↑a_9.j : Int) - (1 : Int) < (↑(a.l.length - (↑a_3 : Int).toNat) : Int)) ∧
  (0 : Nat) + (↑a_3 : Int).toNat + ((↑a_9.j : Int) - (1 : Int)).toNat < a_9.m.length ∧
  (InR IntKind.u64 (gl a_9.m ((0 : Nat) + (↑a_3 : Int).toNat + ((↑a_9.j : Int) - (1 : Int)).toNat)) →
  ((gl a_9.m ((0 : Nat) + (↑a_3 : Int).toNat + (↑a_9.j : Int).toNat) != gl a_9.m ((0 : Nat) + (↑a_3 : Int).toNat + ((↑a_9.j : Int) - (1 : Int)).toNat)) = Bool.true →
  ((0 : Int) ≤ (↑a_9.j : Int) ∧
  (↑a_9.j : Int) < (↑(a.l.length - (↑a_3 : Int).toNat) : Int)) ∧
  (0 : Nat) + (↑a_3 : Int).toNat + (↑a_9.j : Int).toNat < a_9.m.length ∧
  (InR IntKind.u64 (gl a_9.m ((0 : Nat) + (↑a_3 : Int).toNat + (↑a_9.j : Int).toNat)) →
  ((0 : Int) ≤ (↑a_9.k : Int) ∧
  (↑a_9.k : Int) < (↑a.l.length : Int)) ∧
  (0 : Nat) + (↑a_9.k : Int).toNat < a_9.m.length ∧
  InR IntKind.i64 ((↑a_9.k : Int) + (1 : Int)) ∧
  InR IntKind.i64 ((↑a_9.j : Int) + (1 : Int)) ∧
  ∃ (a' : CompS), (↑a_9.j : Int) + (1 : Int) = (↑a'.j : Int) ∧
  (↑a_9.k : Int) + (1 : Int) = (↑a'.k : Int) ∧
  ((0 : Nat) + (↑a_3 : Int).toNat = (0 : Nat) + (↑a_3 : Int).toNat ∧
  a.l.length - (↑a_3 : Int).toNat = a.l.length - (↑a_3 : Int).toNat ∧
  a.cap - (↑a_3 : Int).toNat = a.cap - (↑a_3 : Int).toNat) ∧
  (gl a.l ((0 : Nat) + (↑a_3 : Int).toNat) == gl a.l ((0 : Nat) + ((↑a_3 : Int) - (1 : Int)).toNat)) = (gl a.l ((0 : Nat) + (↑a_3 : Int).toNat) == gl a.l ((0 : Nat) + ((↑a_3 : Int) - (1 : Int)).toNat)) ∧
  Decidable.decide ((↑a_3 : Int) < (↑a.l.length : Int)) = Decidable.decide ((↑a_3 : Int) < (↑a.l.length : Int)) ∧
  Decidable.decide ((↑a.l.length : Int) < (2 : Int)) = Decidable.decide ((↑a.l.length : Int) < (2 : Int)) ∧
  ((0 : Nat) = (0 : Nat) ∧
  a.l.length = a.l.length ∧
  a.cap = a.cap) ∧
  (a'.m.length ≤ a_9.m.length ∧
  RowsEq a'.m.length (1 : Nat) (updR (encRows encU a_9.m) ((0 : Nat) + (↑a_9.k : Int).toNat) (0 : Nat) [Value.int IntKind.u64 (gl a_9.m ((0 : Nat) + (↑a_3 : Int).toNat + (↑a_9.j : Int).toNat))]) (encRows encU a'.m)) ∧
  (a'.m.length = a.l.length ∧
  (1 : Nat) ≤ a'.j ∧
  a_3 + a'.j ≤ a.l.length ∧
  a'.k < a_3 + a'.j ∧
  compTo a.l (a_3 + a'.j) = List.take a'.k a'.m ∧
  ∀ (i : Nat), a_3 + a'.j ≤ i + (1 : Nat) →
  gl a'.m i = gl a.l i) ∧
  a.l.length - a'.j < a.l.length - a_9.j)) ∧
  ((gl a_9.m ((0 : Nat) + (↑a_3 : Int).toNat + (↑a_9.j : Int).toNat) != gl a_9.m ((0 : Nat) + (↑a_3 : Int).toNat + ((↑a_9.j : Int) - (1 : Int)).toNat)) = Bool.false →
  InR IntKind.i64 ((↑a_9.j : Int) + (1 : Int)) ∧
  ∃ (a' : CompS), (↑a_9.j : Int) + (1 : Int) = (↑a'.j : Int) ∧
  (↑a_9.k : Int) = (↑a'.k : Int) ∧
  ((0 : Nat) + (↑a_3 : Int).toNat = (0 : Nat) + (↑a_3 : Int).toNat ∧
  a.l.length - (↑a_3 : Int).toNat = a.l.length - (↑a_3 : Int).toNat ∧
  a.cap - (↑a_3 : Int).toNat = a.cap - (↑a_3 : Int).toNat) ∧
  (gl a.l ((0 : Nat) + (↑a_3 : Int).toNat) == gl a.l ((0 : Nat) + ((↑a_3 : Int) - (1 : Int)).toNat)) = (gl a.l ((0 : Nat) + (↑a_3 : Int).toNat) == gl a.l ((0 : Nat) + ((↑a_3 : Int) - (1 : Int)).toNat)) ∧
  Decidable.decide ((↑a_3 : Int) < (↑a.l.length : Int)) = Decidable.decide ((↑a_3 : Int) < (↑a.l.length : Int)) ∧
  Decidable.decide ((↑a.l.length : Int) < (2 : Int)) = Decidable.decide ((↑a.l.length : Int) < (2 : Int)) ∧
  ((0 : Nat) = (0 : Nat) ∧
  a.l.length = a.l.length ∧
  a.cap = a.cap) ∧
  (a'.m.length ≤ a_9.m.length ∧
  RowsEq a'.m.length (1 : Nat) (encRows encU a_9.m) (encRows encU a'.m)) ∧
  (a'.m.length = a.l.length ∧
  (1 : Nat) ≤ a'.j ∧
  a_3 + a'.j ≤ a.l.length ∧
  a'.k < a_3 + a'.j ∧
  compTo a.l (a_3 + a'.j) = List.take a'.k a'.m ∧
  ∀ (i : Nat), a_3 + a'.j ≤ i + (1 : Nat) →
  gl a'.m i = gl a.l i) ∧
  a.l.length - a'.j < a.l.length - a_9.j)))) ∧
  (Decidable.decide ((↑a_9.j : Int) < (↑(a.l.length - (↑a_3 : Int).toNat) : Int)) = Bool.false →
  ((0 : Int) ≤ (↑a_9.k : Int) ∧
  (↑a_9.k : Int) ≤ (↑a.l.length : Int)) ∧
  ((0 : Int) ≤ (↑a_9.k : Int) ∧
  (↑a_9.k : Int) ≤ (↑a.cap : Int)) ∧
  ∃ (b : Unit), ((0 : Nat) = (0 : Nat) ∧
  (↑a_9.k : Int).toNat - (0 : Nat) = (compL a.l).length ∧
  a.cap - (0 : Nat) = a.cap) ∧
  ((compL a.l).length ≤ a_9.m.length ∧
  RowsEq (compL a.l).length (1 : Nat) (fun (i j : Nat) => if (0 : Nat) + (↑a_9.k : Int).toNat ≤ i ∧
  i < (0 : Nat) + (↑a_9.k : Int).toNat + (a.l.length - (↑a_9.k : Int).toNat) then [Value.int IntKind.u64 (0 : Int)].getD j (Value.tuple #[]) else encRows encU a_9.m i j) (encRows encU (compL a.l))) ∧
  True ∧
  True)) ∧
  ((gl a.l ((0 : Nat) + (↑a_3 : Int).toNat) == gl a.l ((0 : Nat) + ((↑a_3 : Int) - (1 : Int)).toNat)) = Bool.false →
  InR IntKind.i64 ((↑a_3 : Int) + (1 : Int)) ∧
  ∃ (a' : Nat), (↑a_3 : Int) + (1 : Int) = (↑a' : Int) ∧
  Decidable.decide ((↑a.l.length : Int) < (2 : Int)) = Decidable.decide ((↑a.l.length : Int) < (2 : Int)) ∧
  ((0 : Nat) = (0 : Nat) ∧
  a.l.length = a.l.length ∧
  a.cap = a.cap) ∧
  (a.l.length ≤ a.l.length ∧
  RowsEq a.l.length (1 : Nat) (encRows encU a.l) (encRows encU a.l)) ∧
  ((1 : Nat) ≤ a' ∧
  a' ≤ a.l.length ∧
  compTo a.l a' = List.take a' a.l) ∧
  a.l.length - a' < a.l.length - a_3)))) ∧
  (Decidable.decide ((↑a_3 : Int) < (↑a.l.length : Int)) = Bool.false →
  ∃ (b : Unit), ((0 : Nat) = (0 : Nat) ∧
  a.l.length = (compL a.l).length ∧
  a.cap = a.cap) ∧
  ((compL a.l).length ≤ a.l.length ∧
  RowsEq (compL a.l).length (1 : Nat) (encRows encU a.l) (encRows encU (compL a.l))) ∧
  True ∧
  True))) (by kernel_rfl) (by
  rintro ⟨l, cap⟩ ⟨h1, h2, h3⟩
  dsimp only at h1 h2 h3 ⊢
  have c1 := comp_one (l := l) (by omega)
  simp only [Nat.zero_add, Nat.sub_zero, Int.toNat_natCast, InR]
  refine ⟨fun d1 => ⟨(), ?_⟩, fun d1 => ⟨⟨1, ?_⟩, fun k hk => ⟨fun d2 => ?_, fun d2 => ⟨(), ?_⟩⟩⟩⟩
  · simp only [decide_eq_true_eq] at d1
    have hl : l.length = 1 := by omega
    have e : compL l = l := by unfold compL; rw [hl, c1, ← hl, List.take_length]
    rw [e]
    ((repeat' apply And.intro) <;> first | with_reducible rfl | omega | (dsimp only; omega) | exact RowsEq.refl _ _ _ | assumption | rfl | trivial | exact Nat.le_refl _ | skip)
  · ((repeat' apply And.intro) <;> first | with_reducible rfl | omega | (dsimp only; omega) | exact RowsEq.refl _ _ _ | assumption | rfl | trivial | exact Nat.le_refl _ | skip)
  · obtain ⟨k1, k2, k3⟩ := hk
    simp only [decide_eq_true_eq] at d2
    have hk : k < l.length := by omega
    have ek : ((k : Int) - 1).toNat = k - 1 := by omega
    rw [ek]
    ((repeat' apply And.intro) <;> first | with_reducible rfl | omega | (dsimp only; omega) | exact RowsEq.refl _ _ _ | assumption | rfl | trivial | exact Nat.le_refl _ | skip)
    intro _
    ((repeat' apply And.intro) <;> first | with_reducible rfl | omega | (dsimp only; omega) | exact RowsEq.refl _ _ _ | assumption | rfl | trivial | exact Nat.le_refl _ | skip)
    refine fun _ => ⟨fun d3 => ?_, fun d3 => ⟨by omega, k + 1, ?_⟩⟩
    · simp only [beq_iff_eq] at d3
      ((repeat' apply And.intro) <;> first | with_reducible rfl | omega | (dsimp only; omega) | exact RowsEq.refl _ _ _ | assumption | rfl | trivial | exact Nat.le_refl _ | skip)
      · refine ⟨⟨l, k, 1⟩, ?_⟩
        have c2 : compTo l (k + 1) = l.take k := by rw [comp_same (by omega) d3, k3]
        have c3 : ∀ i, k + 1 ≤ i + 1 → gl l i = gl l i := fun _ _ => rfl
        ((repeat' apply And.intro) <;> first | with_reducible rfl | omega | (dsimp only; omega) | exact RowsEq.refl _ _ _ | assumption | rfl | trivial | exact Nat.le_refl _ | skip)
      · intro y hy
        obtain ⟨y1, y2, y3, y4, y5, y6⟩ := hy
        have hlen : (compTo l (k + y.j)).length = min y.k y.m.length := by rw [y5, List.length_take]
        refine ⟨fun d4 => ?_, fun d4 => ?_⟩
        · simp only [decide_eq_true_eq] at d4
          have hq : k + y.j < l.length := by omega
          have ej : ((y.j : Int) - 1).toNat = y.j - 1 := by omega
          rw [ej]
          have g1 := y6 (k + y.j) (by omega)
          have g2 := y6 (k + (y.j - 1)) (by omega)
          rw [g1, g2]
          have eq1 : k + (y.j - 1) = k + y.j - 1 := by omega
          rw [eq1]
          ((repeat' apply And.intro) <;> first | with_reducible rfl | omega | (dsimp only; omega) | exact RowsEq.refl _ _ _ | assumption | rfl | trivial | exact Nat.le_refl _ | skip)
          intro _
          ((repeat' apply And.intro) <;> first | with_reducible rfl | omega | (dsimp only; omega) | exact RowsEq.refl _ _ _ | assumption | rfl | trivial | exact Nat.le_refl _ | skip)
          refine fun _ => ⟨fun d5 => ?_, fun d5 => ⟨by omega, ⟨y.m, y.k, y.j + 1⟩, ?_⟩⟩
          · have d5 : gl l (k + y.j) ≠ gl l (k + y.j - 1) := by simpa using d5
            ((repeat' apply And.intro) <;> first | with_reducible rfl | omega | (dsimp only; omega) | exact RowsEq.refl _ _ _ | assumption | rfl | trivial | exact Nat.le_refl _ | skip)
            intro _
            ((repeat' apply And.intro) <;> first | with_reducible rfl | omega | (dsimp only; omega) | exact RowsEq.refl _ _ _ | assumption | rfl | trivial | exact Nat.le_refl _ | skip)
            refine ⟨⟨y.m.set y.k (gl l (k + y.j)), y.k + 1, y.j + 1⟩, ?_⟩
            have hn : (y.m.set y.k (gl l (k + y.j))).length = y.m.length := List.length_set
            have c2 : compTo l (k + (y.j + 1)) = (y.m.set y.k (gl l (k + y.j))).take (y.k + 1) := by
              rw [← Nat.add_assoc, comp_new d5, y5, take_succ_gl (by omega), gl_set_self (by omega)]
              congr 1
              rw [List.take_set, List.set_eq_of_length_le]
              rw [List.length_take]; omega
            have c3 : ∀ i, k + (y.j + 1) ≤ i + 1 → gl (y.m.set y.k (gl l (k + y.j))) i = gl l i := fun i hi => by
              rw [gl_set_ne (by omega)]; exact y6 i (by omega)
            have r1 : RowsEq (y.m.set y.k (gl l (k + y.j))).length 1 (updR (encRows encU y.m) y.k 0 [Go.Value.int Go.IntKind.u64 (gl l (k + y.j))]) (encRows encU (y.m.set y.k (gl l (k + y.j)))) := by
              refine .set _ (by omega) (fun i hi => by simp only [updR_other hi]) ?_
              simp only [updR_self]; rfl
            ((repeat' apply And.intro) <;> first | with_reducible rfl | omega | (dsimp only; omega) | exact RowsEq.refl _ _ _ | assumption | rfl | trivial | exact Nat.le_refl _ | skip)
          · have d5 : gl l (k + y.j) = gl l (k + y.j - 1) := by simpa using d5
            have c2 : compTo l (k + (y.j + 1)) = y.m.take y.k := by
              rw [← Nat.add_assoc, comp_same (by omega) d5, y5]
            have c3 : ∀ i, k + (y.j + 1) ≤ i + 1 → gl y.m i = gl l i := fun i hi => y6 i (by omega)
            ((repeat' apply And.intro) <;> first | with_reducible rfl | omega | (dsimp only; omega) | exact RowsEq.refl _ _ _ | assumption | rfl | trivial | exact Nat.le_refl _ | skip)
        · simp only [decide_eq_false_iff_not] at d4
          have hq : k + y.j = l.length := by omega
          have e : compL l = y.m.take y.k := by unfold compL; rw [← hq, y5]
          have en : (y.m.take y.k).length = y.k := by rw [List.length_take]; omega
          rw [e, en]
          have r1 : RowsEq y.k 1 (fun (i j : Nat) => if y.k ≤ i ∧ i < y.k + (l.length - y.k) then [Go.Value.int Go.IntKind.u64 0].getD j (Go.Value.tuple #[]) else encRows encU y.m i j) (encRows encU (y.m.take y.k)) := by
            refine ⟨fun i hi j hj => ?_⟩
            rw [if_neg (by omega)]
            unfold encRows
            rw [gl_take hi]
          ((repeat' apply And.intro) <;> first | with_reducible rfl | omega | (dsimp only; omega) | exact RowsEq.refl _ _ _ | assumption | rfl | trivial | exact Nat.le_refl _ | skip)
          refine ⟨(), ?_⟩
          ((repeat' apply And.intro) <;> first | with_reducible rfl | omega | (dsimp only; omega) | exact RowsEq.refl _ _ _ | assumption | rfl | trivial | exact Nat.le_refl _ | skip)
    · have d3 : gl l k ≠ gl l (k - 1) := by simpa using d3
      have c2 : compTo l (k + 1) = l.take (k + 1) := by rw [comp_new d3, k3, take_succ_gl hk]
      ((repeat' apply And.intro) <;> first | with_reducible rfl | omega | (dsimp only; omega) | exact RowsEq.refl _ _ _ | assumption | rfl | trivial | exact Nat.le_refl _ | skip)
  · obtain ⟨k1, k2, k3⟩ := hk
    simp only [decide_eq_false_iff_not] at d2
    have hk : k = l.length := by omega
    have e : compL l = l := by unfold compL; rw [← hk, k3, hk, List.take_length]
    rw [e]
    ((repeat' apply And.intro) <;> first | with_reducible rfl | omega | (dsimp only; omega) | exact RowsEq.refl _ _ _ | assumption | rfl | trivial | exact Nat.le_refl _ | skip))
theorem callComp : CallsBy (Y Try.prog).G.X 23 cComp := fn_ok okY (tab := []) trivial bodyComp

/-! ### parts of a plan -/

structure MvR where
  f : Int
  t : Int
  s : Int
  d : Int
deriving Inhabited
def ksM : List CK := [.int .u64, .int .u64, .int .i64, .int .i64]
def encM (m : MvR) : List Value := [.int .u64 m.f, .int .u64 m.t, .int .i64 m.s, .int .i64 m.d]
def arrM (l : List MvR) : Chunk := .arr 32 ksM l.length (encRows encM l)
def inM (h : Int) (m : MvR) : Bool := decide (m.f ≤ h) && decide (h ≤ m.t)
def covM (l : List MvR) (h : Int) : MvR := (l.find? (inM h)).getD ⟨0, 0, 0, 0⟩
def covB (l : List MvR) (h : Int) : Bool := (l.find? (inM h)).isSome
structure CovA where
  l : List MvR
  cap : Nat
  h : Int
noncomputable def cCov : Con where
  α := CovA
  β := Unit
  m := 1
  m' := 1
  pre := fun x => x.l.length < 100000
  args := fun x => [.a (.slc 0 0 4 x.l.length x.cap), .a (.int .u64 x.h)]
  hp := fun _ => []
  ro := fun x => [(0, arrM x.l)]
  post := fun _ _ => True
  res := fun x _ => .tup [.agg [.int .u64 (covM x.l x.h).f, .int .u64 (covM x.l x.h).t, .int .i64 (covM x.l x.h).s, .int .i64 (covM x.l x.h).d], .a (.bool (covB x.l x.h))]
  hp' := fun _ _ => []
def iCov (x : CovA) : An := .flat 2 Nat (fun s i => s.int 10 i) (fun _ i => i ≤ x.l.length ∧ (x.l.take i).find? (inM x.h) = none) (fun _ i => x.l.length - i)
set_option maxHeartbeats 4000000 in
theorem bodyCov : fnBody (Y Try.prog) [] 14 cCov fun x => [(14, [iCov x], [])] := fnBody.of (p :=
  ∀ (a : CovA), a.l.length < (100000 : Nat) →
  (∃ (a_2 : Nat), (0 : Int) = (↑a_2 : Int) ∧
  (↑a.l.length : Int) = (↑a.l.length : Int) ∧
  ((0 : Nat) = (0 : Nat) ∧
  a.l.length = a.l.length ∧
  a.cap = a.cap) ∧
  Bool.false = Bool.false ∧
  (0 : Nat) = (0 : Nat) ∧
  ((0 : Nat) = (0 : Nat) ∧
  a.l.length = a.l.length ∧
  a.cap = a.cap) ∧
  a.h = a.h ∧
  (0 : Int) = (0 : Int) ∧
  (0 : Int) = (0 : Int) ∧
  (0 : Int) = (0 : Int) ∧
  (0 : Int) = (0 : Int) ∧
  (a.l.length ≤ a.l.length ∧
  RowsEq a.l.length (4 : Nat) (encRows encM a.l) (encRows encM a.l)) ∧
  (a_2 ≤ a.l.length ∧
  List.find? (inM a.h) (List.take a_2 a.l) = Option.none) ∧
  True) ∧
  ∀ (a_2 : Nat), a_2 ≤ a.l.length ∧
  List.find? (inM a.h) (List.take a_2 a.l) = Option.none →
  (Decidable.decide ((↑a_2 : Int) < (↑a.l.length : Int)) = Bool.true →
  ((0 : Int) ≤ (↑a_2 : Int) ∧
  (↑a_2 : Int) < (↑a.l.length : Int)) ∧
  (0 : Nat) + (↑a_2 : Int).toNat < a.l.length ∧
  (InR IntKind.u64 (gl a.l ((0 : Nat) + (↑a_2 : Int).toNat)).f →
  (Decidable.decide ((gl a.l ((0 : Nat) + (↑a_2 : Int).toNat)).f ≤ a.h) = Bool.true →
  InR IntKind.u64 (gl a.l ((0 : Nat) + (↑a_2 : Int).toNat)).t →
  (Decidable.decide (a.h ≤ (gl a.l ((0 : Nat) + (↑a_2 : Int).toNat)).t) = Bool.true →
  ∃ (b : Unit), (gl a.l ((0 : Nat) + (↑a_2 : Int).toNat)).f = (covM a.l a.h).f ∧
  (gl a.l ((0 : Nat) + (↑a_2 : Int).toNat)).t = (covM a.l a.h).t ∧
  (gl a.l ((0 : Nat) + (↑a_2 : Int).toNat)).s = (covM a.l a.h).s ∧
  (gl a.l ((0 : Nat) + (↑a_2 : Int).toNat)).d = (covM a.l a.h).d ∧
  Bool.true = covB a.l a.h ∧
  True ∧
  True) ∧
  (Decidable.decide (a.h ≤ (gl a.l ((0 : Nat) + (↑a_2 : Int).toNat)).t) = Bool.false →
  InR IntKind.i64 ((↑a_2 : Int) + (1 : Int)) ∧
  ∃ (a' : Nat), (↑a_2 : Int) + (1 : Int) = (↑a' : Int) ∧
  (↑a.l.length : Int) = (↑a.l.length : Int) ∧
  ((0 : Nat) = (0 : Nat) ∧
  a.l.length = a.l.length ∧
  a.cap = a.cap) ∧
  Bool.false = Bool.false ∧
  (0 : Nat) = (0 : Nat) ∧
  ((0 : Nat) = (0 : Nat) ∧
  a.l.length = a.l.length ∧
  a.cap = a.cap) ∧
  a.h = a.h ∧
  (0 : Int) = (0 : Int) ∧
  (0 : Int) = (0 : Int) ∧
  (0 : Int) = (0 : Int) ∧
  (0 : Int) = (0 : Int) ∧
  (a.l.length ≤ a.l.length ∧
  RowsEq a.l.length (4 : Nat) (encRows encM a.l) (encRows encM a.l)) ∧
  (a' ≤ a.l.length ∧
  List.find? (inM a.h) (List.take a' a.l) = Option.none) ∧
  a.l.length - a' < a.l.length - a_2)) ∧
  (Decidable.decide ((gl a.l ((0 : Nat) + (↑a_2 : Int).toNat)).f ≤ a.h) = Bool.false →
  InR IntKind.i64 ((↑a_2 : Int) + (1 : Int)) ∧
  ∃ (a' : Nat), (↑a_2 : Int) + (1 : Int) = (↑a' : Int) ∧
  (↑a.l.length : Int) = (↑a.l.length : Int) ∧
  ((0 : Nat) = (0 : Nat) ∧
  a.l.length = a.l.length ∧
  a.cap = a.cap) ∧
  Bool.false = Bool.false ∧
  (0 : Nat) = (0 : Nat) ∧
  ((0 : Nat) = (0 : Nat) ∧
  a.l.length = a.l.length ∧
  a.cap = a.cap) ∧
  a.h = a.h ∧
  (0 : Int) = (0 : Int) ∧
  (0 : Int) = (0 : Int) ∧
  (0 : Int) = (0 : Int) ∧
  (0 : Int) = (0 : Int) ∧
  (a.l.length ≤ a.l.length ∧
  RowsEq a.l.length (4 : Nat) (encRows encM a.l) (encRows encM a.l)) ∧
  (a' ≤ a.l.length ∧
  List.find? (inM a.h) (List.take a' a.l) = Option.none) ∧
  a.l.length - a' < a.l.length - a_2))) ∧
  (Decidable.decide ((↑a_2 : Int) < (↑a.l.length : Int)) = Bool.false →
  ∃ (b : Unit), (0 : Int) = (covM a.l a.h).f ∧
  (0 : Int) = (covM a.l a.h).t ∧
  (0 : Int) = (covM a.l a.h).s ∧
  (0 : Int) = (covM a.l a.h).d ∧
  Bool.false = covB a.l a.h ∧
  True ∧
  True)) (by kernel_rfl) (by
  rintro ⟨l, cap, h⟩ hl
  dsimp only at hl ⊢
  simp only [Nat.zero_add, Int.toNat_natCast, InR]
  refine ⟨⟨0, ?_⟩, fun i ⟨i1, i2⟩ => ⟨fun c1 => ?_, fun c1 => ?_⟩⟩
  · ((repeat' apply And.intro) <;> first | with_reducible rfl | omega | (dsimp only; omega) | exact RowsEq.refl _ _ _ | assumption | rfl | trivial | exact Nat.le_refl _ | skip)
  · simp only [decide_eq_true_eq] at c1
    have hi : i < l.length := by omega
    have hit : inM h (gl l i) = true → l.find? (inM h) = some (gl l i) := fun g => by
      refine find_take (k := i + 1) ?_
      rw [take_succ_gl hi, List.find?_append, i2]
      simp [g]
    have mis : inM h (gl l i) = false → (l.take (i + 1)).find? (inM h) = none := fun g => by
      rw [take_succ_gl hi, List.find?_append, i2]
      simp [g]
    refine ⟨by omega, hi, fun _ => ⟨fun c2 _ => ⟨fun c3 => ⟨(), ?_⟩, fun c3 => ⟨by omega, i + 1, ?_⟩⟩, fun c2 => ⟨by omega, i + 1, ?_⟩⟩⟩
    · have e := hit (by unfold inM; rw [c2, c3]; rfl)
      unfold covM covB
      rw [e]
      ((repeat' apply And.intro) <;> first | with_reducible rfl | omega | (dsimp only; omega) | exact RowsEq.refl _ _ _ | assumption | rfl | trivial | exact Nat.le_refl _ | skip)
    · have e := mis (by unfold inM; rw [c3]; simp)
      ((repeat' apply And.intro) <;> first | with_reducible rfl | omega | (dsimp only; omega) | exact RowsEq.refl _ _ _ | assumption | rfl | trivial | exact Nat.le_refl _ | skip)
    · have e := mis (by unfold inM; rw [c2]; simp)
      ((repeat' apply And.intro) <;> first | with_reducible rfl | omega | (dsimp only; omega) | exact RowsEq.refl _ _ _ | assumption | rfl | trivial | exact Nat.le_refl _ | skip)
  · simp only [decide_eq_false_iff_not] at c1
    have hi : i = l.length := by omega
    subst hi
    rw [List.take_length] at i2
    unfold covM covB
    rw [i2]
    refine ⟨(), ?_⟩
    ((repeat' apply And.intro) <;> first | with_reducible rfl | omega | (dsimp only; omega) | exact RowsEq.refl _ _ _ | assumption | rfl | trivial | exact Nat.le_refl _ | skip))
theorem callCov : CallsBy (Y Try.prog).G.X 14 cCov := fn_ok okY (tab := []) trivial bodyCov
structure SideA where
  l : List MvR
  cap : Nat
  n : Int
def fromL (l : List MvR) (n : Int) : List MvR := l.filter fun m => decide (m.s = n)
def toL (l : List MvR) (n : Int) : List MvR := l.filter fun m => decide (m.d = n)
noncomputable def cSide (g : List MvR → Int → List MvR) : Con where
  α := SideA
  β := Nat
  m := 1
  m' := 2
  pre := fun x => x.l.length < 100000
  args := fun x => [.a (.slc 0 0 4 x.l.length x.cap), .a (.int .i64 x.n)]
  hp := fun _ => []
  ro := fun x => [(0, arrM x.l)]
  post := fun _ _ => True
  res := fun x cap => .a (.slc 1 0 4 (g x.l x.n).length cap)
  hp' := fun x _ => [(1, arrM (g x.l x.n))]
def iSide (g : List MvR → Int → List MvR) (x : SideA) : An := .flat 3 (Nat × Nat) (fun s y => ((s.new (arrM (g (x.l.take y.1) x.n))).set 5 (.a (.slc s.nx 0 4 (g (x.l.take y.1) x.n).length y.2))).int 10 y.1)
  (fun _ y => y.1 ≤ x.l.length) (fun _ y => x.l.length - y.1)
set_option maxHeartbeats 4000000 in
theorem bodyFrom : fnBody (Y Try.prog) [] 16 (cSide fromL) fun x => [(16, [iSide fromL x], [])] := fnBody.of (p :=
  ∀ (a : SideA), a.l.length < (100000 : Nat) →
  (∃ (a_2 : Nat × Nat), (0 : Int) = (↑a_2.fst : Int) ∧
  ((0 : Nat) = (fromL (List.take a_2.fst a.l) a.n).length ∧
  (0 : Nat) = a_2.snd) ∧
  (↑a.l.length : Int) = (↑a.l.length : Int) ∧
  ((0 : Nat) = (0 : Nat) ∧
  a.l.length = a.l.length ∧
  a.cap = a.cap) ∧
  ((0 : Nat) = (0 : Nat) ∧
  a.l.length = a.l.length ∧
  a.cap = a.cap) ∧
  a.n = a.n ∧
  (fromL (List.take a_2.fst a.l) a.n).length = (0 : Nat) ∧
  (a.l.length ≤ a.l.length ∧
  RowsEq a.l.length (4 : Nat) (encRows encM a.l) (encRows encM a.l)) ∧
  a_2.fst ≤ a.l.length ∧
  True) ∧
  ∀ (a_2 : Nat × Nat), a_2.fst ≤ a.l.length →
  (Decidable.decide ((↑a_2.fst : Int) < (↑a.l.length : Int)) = Bool.true →
  ((0 : Int) ≤ (↑a_2.fst : Int) ∧
  (↑a_2.fst : Int) < (↑a.l.length : Int)) ∧
  (0 : Nat) + (↑a_2.fst : Int).toNat < a.l.length ∧
  (InR IntKind.i64 (gl a.l ((0 : Nat) + (↑a_2.fst : Int).toNat)).s →
  (((gl a.l ((0 : Nat) + (↑a_2.fst : Int).toNat)).s == a.n) = Bool.true →
  (0 : Nat) + (fromL (List.take a_2.fst a.l) a.n).length ≤ (fromL (List.take a_2.fst a.l) a.n).length ∧
  (1 : Nat) ≤ (1 : Nat) ∧
  ((fromL (List.take a_2.fst a.l) a.n).length + (1 : Nat)) * (32 : Nat) ≤ (140737488355328 : Nat) ∧
  ∀ (cap : Nat), (fromL (List.take a_2.fst a.l) a.n).length + (1 : Nat) ≤ cap →
  cap ≤ lenMax →
  ((fromL (List.take a_2.fst a.l) a.n).length + (1 : Nat) ≤ a_2.snd →
  cap = a_2.snd) →
  InR IntKind.i64 ((↑a_2.fst : Int) + (1 : Int)) ∧
  ∃ (a' : Nat × Nat), (↑a_2.fst : Int) + (1 : Int) = (↑a'.fst : Int) ∧
  ((0 : Nat) = (0 : Nat) ∧
  (fromL (List.take a_2.fst a.l) a.n).length + (1 : Nat) = (fromL (List.take a'.fst a.l) a.n).length ∧
  cap = a'.snd) ∧
  (↑a.l.length : Int) = (↑a.l.length : Int) ∧
  ((0 : Nat) = (0 : Nat) ∧
  a.l.length = a.l.length ∧
  a.cap = a.cap) ∧
  ((0 : Nat) = (0 : Nat) ∧
  a.l.length = a.l.length ∧
  a.cap = a.cap) ∧
  a.n = a.n ∧
  ((fromL (List.take a'.fst a.l) a.n).length ≤ (fromL (List.take a_2.fst a.l) a.n).length + (1 : Nat) ∧
  RowsEq (fromL (List.take a'.fst a.l) a.n).length (4 : Nat) (appRows (encRows encM (fromL (List.take a_2.fst a.l) a.n)) (0 : Nat) (fromL (List.take a_2.fst a.l) a.n).length fun (i j : Nat) => flatRows (4 : Nat) [Value.int IntKind.u64 (gl a.l ((0 : Nat) + (↑a_2.fst : Int).toNat)).f, Value.int IntKind.u64 (gl a.l ((0 : Nat) + (↑a_2.fst : Int).toNat)).t, Value.int IntKind.i64 (gl a.l ((0 : Nat) + (↑a_2.fst : Int).toNat)).s, Value.int IntKind.i64 (gl a.l ((0 : Nat) + (↑a_2.fst : Int).toNat)).d] ((0 : Nat) + i) j) (encRows encM (fromL (List.take a'.fst a.l) a.n))) ∧
  (a.l.length ≤ a.l.length ∧
  RowsEq a.l.length (4 : Nat) (encRows encM a.l) (encRows encM a.l)) ∧
  a'.fst ≤ a.l.length ∧
  a.l.length - a'.fst < a.l.length - a_2.fst) ∧
  (((gl a.l ((0 : Nat) + (↑a_2.fst : Int).toNat)).s == a.n) = Bool.false →
  InR IntKind.i64 ((↑a_2.fst : Int) + (1 : Int)) ∧
  ∃ (a' : Nat × Nat), (↑a_2.fst : Int) + (1 : Int) = (↑a'.fst : Int) ∧
  ((0 : Nat) = (0 : Nat) ∧
  (fromL (List.take a_2.fst a.l) a.n).length = (fromL (List.take a'.fst a.l) a.n).length ∧
  a_2.snd = a'.snd) ∧
  (↑a.l.length : Int) = (↑a.l.length : Int) ∧
  ((0 : Nat) = (0 : Nat) ∧
  a.l.length = a.l.length ∧
  a.cap = a.cap) ∧
  ((0 : Nat) = (0 : Nat) ∧
  a.l.length = a.l.length ∧
  a.cap = a.cap) ∧
  a.n = a.n ∧
  ((fromL (List.take a'.fst a.l) a.n).length ≤ (fromL (List.take a_2.fst a.l) a.n).length ∧
  RowsEq (fromL (List.take a'.fst a.l) a.n).length (4 : Nat) (encRows encM (fromL (List.take a_2.fst a.l) a.n)) (encRows encM (fromL (List.take a'.fst a.l) a.n))) ∧
  (a.l.length ≤ a.l.length ∧
  RowsEq a.l.length (4 : Nat) (encRows encM a.l) (encRows encM a.l)) ∧
  a'.fst ≤ a.l.length ∧
  a.l.length - a'.fst < a.l.length - a_2.fst))) ∧
  (Decidable.decide ((↑a_2.fst : Int) < (↑a.l.length : Int)) = Bool.false →
  ∃ (b : Nat), ((0 : Nat) = (0 : Nat) ∧
  (fromL (List.take a_2.fst a.l) a.n).length = (fromL a.l a.n).length ∧
  a_2.snd = b) ∧
  ((fromL a.l a.n).length ≤ (fromL (List.take a_2.fst a.l) a.n).length ∧
  RowsEq (fromL a.l a.n).length (4 : Nat) (encRows encM (fromL (List.take a_2.fst a.l) a.n)) (encRows encM (fromL a.l a.n))) ∧
  True ∧
  True)) (by kernel_rfl) (by
  rintro ⟨l, cap, n⟩ hl
  dsimp only at hl ⊢
  simp only [Nat.zero_add, Int.toNat_natCast, InR]
  have hle : ∀ i, (fromL (l.take i) n).length ≤ l.length := fun i => Nat.le_trans (List.length_filter_le _ _) (by rw [List.length_take]; omega)
  refine ⟨⟨(0, 0), ?_⟩, fun x hx => ⟨fun c1 => ?_, fun c1 => ⟨x.2, ?_⟩⟩⟩
  · have e0 : fromL (l.take 0) n = [] := rfl
    dsimp only
    rw [e0]
    ((repeat' apply And.intro) <;> first | with_reducible rfl | omega | (dsimp only; omega) | exact RowsEq.refl _ _ _ | assumption | rfl | trivial | exact Nat.le_refl _ | skip)
  · obtain ⟨i, c⟩ := x
    dsimp only at c1 hx ⊢
    simp only [decide_eq_true_eq] at c1
    have hi : i < l.length := by omega
    have hn := hle i
    ((repeat' apply And.intro) <;> first | with_reducible rfl | omega | (dsimp only; omega) | exact RowsEq.refl _ _ _ | assumption | rfl | trivial | exact Nat.le_refl _ | skip)
    refine fun _ => ⟨fun c2 => ?_, fun c2 => ⟨by omega, (i + 1, c), ?_⟩⟩
    · have es : fromL (l.take (i + 1)) n = fromL (l.take i) n ++ [gl l i] := by
        unfold fromL
        rw [take_succ_gl hi, List.filter_append, List.filter_cons_of_pos (by simpa using c2), List.filter_nil]
      have hn1 : (fromL (l.take i) n ++ [gl l i]).length = (fromL (l.take i) n).length + 1 := by simp
      ((repeat' apply And.intro) <;> first | with_reducible rfl | omega | (dsimp only; omega) | exact RowsEq.refl _ _ _ | assumption | rfl | trivial | exact Nat.le_refl _ | skip)
      refine fun c3 _ _ _ => ⟨by omega, (i + 1, c3), ?_⟩
      dsimp only
      rw [es, hn1]
      ((repeat' apply And.intro) <;> first | with_reducible rfl | omega | (dsimp only; omega) | exact RowsEq.refl _ _ _ | exact .push rfl (by omega) rfl | rfl | trivial)
    · have es : fromL (l.take (i + 1)) n = fromL (l.take i) n := by
        unfold fromL
        rw [take_succ_gl hi, List.filter_append, List.filter_cons_of_neg (by simpa using c2), List.filter_nil, List.append_nil]
      dsimp only
      rw [es]
      ((repeat' apply And.intro) <;> first | with_reducible rfl | omega | (dsimp only; omega) | exact RowsEq.refl _ _ _ | assumption | rfl | trivial | exact Nat.le_refl _ | skip)
  · obtain ⟨i, c⟩ := x
    dsimp only at c1 hx ⊢
    simp only [decide_eq_false_iff_not] at c1
    have hi : i = l.length := by omega
    subst hi
    rw [List.take_length]
    ((repeat' apply And.intro) <;> first | with_reducible rfl | omega | (dsimp only; omega) | exact RowsEq.refl _ _ _ | assumption | rfl | trivial | exact Nat.le_refl _ | skip))
theorem callFrom : CallsBy (Y Try.prog).G.X 16 (cSide fromL) := fn_ok okY (tab := []) trivial bodyFrom
set_option maxHeartbeats 4000000 in
theorem bodyTo : fnBody (Y Try.prog) [] 17 (cSide toL) fun x => [(17, [iSide toL x], [])] := fnBody.of (p :=
  ∀ (a : SideA), a.l.length < (100000 : Nat) →
  (∃ (a_2 : Nat × Nat), (0 : Int) = (↑a_2.fst : Int) ∧
  ((0 : Nat) = (toL (List.take a_2.fst a.l) a.n).length ∧
  (0 : Nat) = a_2.snd) ∧
  (↑a.l.length : Int) = (↑a.l.length : Int) ∧
  ((0 : Nat) = (0 : Nat) ∧
  a.l.length = a.l.length ∧
  a.cap = a.cap) ∧
  ((0 : Nat) = (0 : Nat) ∧
  a.l.length = a.l.length ∧
  a.cap = a.cap) ∧
  a.n = a.n ∧
  (toL (List.take a_2.fst a.l) a.n).length = (0 : Nat) ∧
  (a.l.length ≤ a.l.length ∧
  RowsEq a.l.length (4 : Nat) (encRows encM a.l) (encRows encM a.l)) ∧
  a_2.fst ≤ a.l.length ∧
  True) ∧
  ∀ (a_2 : Nat × Nat), a_2.fst ≤ a.l.length →
  (Decidable.decide ((↑a_2.fst : Int) < (↑a.l.length : Int)) = Bool.true →
  ((0 : Int) ≤ (↑a_2.fst : Int) ∧
  (↑a_2.fst : Int) < (↑a.l.length : Int)) ∧
  (0 : Nat) + (↑a_2.fst : Int).toNat < a.l.length ∧
  (InR IntKind.i64 (gl a.l ((0 : Nat) + (↑a_2.fst : Int).toNat)).d →
  (((gl a.l ((0 : Nat) + (↑a_2.fst : Int).toNat)).d == a.n) = Bool.true →
  (0 : Nat) + (toL (List.take a_2.fst a.l) a.n).length ≤ (toL (List.take a_2.fst a.l) a.n).length ∧
  (1 : Nat) ≤ (1 : Nat) ∧
  ((toL (List.take a_2.fst a.l) a.n).length + (1 : Nat)) * (32 : Nat) ≤ (140737488355328 : Nat) ∧
  ∀ (cap : Nat), (toL (List.take a_2.fst a.l) a.n).length + (1 : Nat) ≤ cap →
  cap ≤ lenMax →
  ((toL (List.take a_2.fst a.l) a.n).length + (1 : Nat) ≤ a_2.snd →
  cap = a_2.snd) →
  InR IntKind.i64 ((↑a_2.fst : Int) + (1 : Int)) ∧
  ∃ (a' : Nat × Nat), (↑a_2.fst : Int) + (1 : Int) = (↑a'.fst : Int) ∧
  ((0 : Nat) = (0 : Nat) ∧
  (toL (List.take a_2.fst a.l) a.n).length + (1 : Nat) = (toL (List.take a'.fst a.l) a.n).length ∧
  cap = a'.snd) ∧
  (↑a.l.length : Int) = (↑a.l.length : Int) ∧
  ((0 : Nat) = (0 : Nat) ∧
  a.l.length = a.l.length ∧
  a.cap = a.cap) ∧
  ((0 : Nat) = (0 : Nat) ∧
  a.l.length = a.l.length ∧
  a.cap = a.cap) ∧
  a.n = a.n ∧
  ((toL (List.take a'.fst a.l) a.n).length ≤ (toL (List.take a_2.fst a.l) a.n).length + (1 : Nat) ∧
  RowsEq (toL (List.take a'.fst a.l) a.n).length (4 : Nat) (appRows (encRows encM (toL (List.take a_2.fst a.l) a.n)) (0 : Nat) (toL (List.take a_2.fst a.l) a.n).length fun (i j : Nat) => flatRows (4 : Nat) [Value.int IntKind.u64 (gl a.l ((0 : Nat) + (↑a_2.fst : Int).toNat)).f, Value.int IntKind.u64 (gl a.l ((0 : Nat) + (↑a_2.fst : Int).toNat)).t, Value.int IntKind.i64 (gl a.l ((0 : Nat) + (↑a_2.fst : Int).toNat)).s, Value.int IntKind.i64 (gl a.l ((0 : Nat) + (↑a_2.fst : Int).toNat)).d] ((0 : Nat) + i) j) (encRows encM (toL (List.take a'.fst a.l) a.n))) ∧
  (a.l.length ≤ a.l.length ∧
  RowsEq a.l.length (4 : Nat) (encRows encM a.l) (encRows encM a.l)) ∧
  a'.fst ≤ a.l.length ∧
  a.l.length - a'.fst < a.l.length - a_2.fst) ∧
  (((gl a.l ((0 : Nat) + (↑a_2.fst : Int).toNat)).d == a.n) = Bool.false →
  InR IntKind.i64 ((↑a_2.fst : Int) + (1 : Int)) ∧
  ∃ (a' : Nat × Nat), (↑a_2.fst : Int) + (1 : Int) = (↑a'.fst : Int) ∧
  ((0 : Nat) = (0 : Nat) ∧
  (toL (List.take a_2.fst a.l) a.n).length = (toL (List.take a'.fst a.l) a.n).length ∧
  a_2.snd = a'.snd) ∧
  (↑a.l.length : Int) = (↑a.l.length : Int) ∧
  ((0 : Nat) = (0 : Nat) ∧
  a.l.length = a.l.length ∧
  a.cap = a.cap) ∧
  ((0 : Nat) = (0 : Nat) ∧
  a.l.length = a.l.length ∧
  a.cap = a.cap) ∧
  a.n = a.n ∧
  ((toL (List.take a'.fst a.l) a.n).length ≤ (toL (List.take a_2.fst a.l) a.n).length ∧
  RowsEq (toL (List.take a'.fst a.l) a.n).length (4 : Nat) (encRows encM (toL (List.take a_2.fst a.l) a.n)) (encRows encM (toL (List.take a'.fst a.l) a.n))) ∧
  (a.l.length ≤ a.l.length ∧
  RowsEq a.l.length (4 : Nat) (encRows encM a.l) (encRows encM a.l)) ∧
  a'.fst ≤ a.l.length ∧
  a.l.length - a'.fst < a.l.length - a_2.fst))) ∧
  (Decidable.decide ((↑a_2.fst : Int) < (↑a.l.length : Int)) = Bool.false →
  ∃ (b : Nat), ((0 : Nat) = (0 : Nat) ∧
  (toL (List.take a_2.fst a.l) a.n).length = (toL a.l a.n).length ∧
  a_2.snd = b) ∧
  ((toL a.l a.n).length ≤ (toL (List.take a_2.fst a.l) a.n).length ∧
  RowsEq (toL a.l a.n).length (4 : Nat) (encRows encM (toL (List.take a_2.fst a.l) a.n)) (encRows encM (toL a.l a.n))) ∧
  True ∧
  True)) (by kernel_rfl) (by
  rintro ⟨l, cap, n⟩ hl
  dsimp only at hl ⊢
  simp only [Nat.zero_add, Int.toNat_natCast, InR]
  have hle : ∀ i, (toL (l.take i) n).length ≤ l.length := fun i => Nat.le_trans (List.length_filter_le _ _) (by rw [List.length_take]; omega)
  refine ⟨⟨(0, 0), ?_⟩, fun x hx => ⟨fun c1 => ?_, fun c1 => ⟨x.2, ?_⟩⟩⟩
  · have e0 : toL (l.take 0) n = [] := rfl
    dsimp only
    rw [e0]
    ((repeat' apply And.intro) <;> first | with_reducible rfl | omega | (dsimp only; omega) | exact RowsEq.refl _ _ _ | assumption | rfl | trivial | exact Nat.le_refl _ | skip)
  · obtain ⟨i, c⟩ := x
    dsimp only at c1 hx ⊢
    simp only [decide_eq_true_eq] at c1
    have hi : i < l.length := by omega
    have hn := hle i
    ((repeat' apply And.intro) <;> first | with_reducible rfl | omega | (dsimp only; omega) | exact RowsEq.refl _ _ _ | assumption | rfl | trivial | exact Nat.le_refl _ | skip)
    refine fun _ => ⟨fun c2 => ?_, fun c2 => ⟨by omega, (i + 1, c), ?_⟩⟩
    · have es : toL (l.take (i + 1)) n = toL (l.take i) n ++ [gl l i] := by
        unfold toL
        rw [take_succ_gl hi, List.filter_append, List.filter_cons_of_pos (by simpa using c2), List.filter_nil]
      have hn1 : (toL (l.take i) n ++ [gl l i]).length = (toL (l.take i) n).length + 1 := by simp
      ((repeat' apply And.intro) <;> first | with_reducible rfl | omega | (dsimp only; omega) | exact RowsEq.refl _ _ _ | assumption | rfl | trivial | exact Nat.le_refl _ | skip)
      refine fun c3 _ _ _ => ⟨by omega, (i + 1, c3), ?_⟩
      dsimp only
      rw [es, hn1]
      ((repeat' apply And.intro) <;> first | with_reducible rfl | omega | (dsimp only; omega) | exact RowsEq.refl _ _ _ | exact .push rfl (by omega) rfl | rfl | trivial)
    · have es : toL (l.take (i + 1)) n = toL (l.take i) n := by
        unfold toL
        rw [take_succ_gl hi, List.filter_append, List.filter_cons_of_neg (by simpa using c2), List.filter_nil, List.append_nil]
      dsimp only
      rw [es]
      ((repeat' apply And.intro) <;> first | with_reducible rfl | omega | (dsimp only; omega) | exact RowsEq.refl _ _ _ | assumption | rfl | trivial | exact Nat.le_refl _ | skip)
  · obtain ⟨i, c⟩ := x
    dsimp only at c1 hx ⊢
    simp only [decide_eq_false_iff_not] at c1
    have hi : i = l.length := by omega
    subst hi
    rw [List.take_length]
    ((repeat' apply And.intro) <;> first | with_reducible rfl | omega | (dsimp only; omega) | exact RowsEq.refl _ _ _ | assumption | rfl | trivial | exact Nat.le_refl _ | skip))
theorem callTo : CallsBy (Y Try.prog).G.X 17 (cSide toL) := fn_ok okY (tab := []) trivial bodyTo
end Go.Proofs.Ythofnohpdbbidaa
