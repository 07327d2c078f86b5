/-
  The statements' functions over the layer plan; no condition.
-/
import Derived.Test.YthofnohpdbbidaaPlanl
namespace Go.Proofs.Ythofnohpdbbidaa
open Go.Sx
set_option maxRecDepth 100000
set_option linter.unusedVariables false

noncomputable def cBits : Con where
  α := Int
  β := Nat
  m := 0
  m' := 1
  pre := fun _ => True
  args := fun b => [.a (.int .i64 b)]
  hp := fun _ => []
  ro := fun _ => []
  post := fun _ _ => True
  res := fun b cap => .a (.slc 0 0 1 (bitsTo b 5).length cap)
  hp' := fun b _ => [(0, .arr 3 [.int .i64] (bitsTo b 5).length (encRows encI (bitsTo b 5)))]
def iBits (b : Int) : An := .flat 3 (Nat × Nat) (fun s x => ((s.new (.arr 3 [.int .i64] (bitsTo b x.1).length (encRows encI (bitsTo b x.1)))).set 3 (.a (.slc s.nx 0 1 (bitsTo b x.1).length x.2))).int 4 x.1)
  (fun _ x => x.1 ≤ 5) (fun _ x => 5 - x.1)
set_option maxHeartbeats 4000000 in
theorem bodyBits : fnBody (Y Try.prog) [] 10 cBits fun b => [(10, [iBits b], [])] := fnBody.of (p :=
  ∀ (a : Int), True →
  (∃ (a_2 : Nat × Nat), (0 : Int) = (↑a_2.fst : Int) ∧
  ((0 : Nat) = (bitsTo a a_2.fst).length ∧
  (0 : Nat) = a_2.snd) ∧
  a = a ∧
  (bitsTo a a_2.fst).length = (0 : Nat) ∧
  a_2.fst ≤ (5 : Nat) ∧
  True) ∧
  ∀ (a_2 : Nat × Nat), a_2.fst ≤ (5 : Nat) →
  (Decidable.decide ((↑a_2.fst : Int) < (5 : Int)) = Bool.true →
  (0 : Int) ≤ uw IntKind.u64 (↑a_2.fst : Int) ∧
  (2 : Int) ≠ (0 : Int) ∧
  (((a / (2 : Int) ^ Min.min (uw IntKind.u64 (↑a_2.fst : Int)).toNat (64 : Nat)).tmod (2 : Int) != (0 : Int)) = Bool.true →
  InR IntKind.i64 ((↑a_2.fst : Int) + (1 : Int)) ∧
  (0 : Nat) + (bitsTo a a_2.fst).length ≤ (bitsTo a a_2.fst).length ∧
  (1 : Nat) ≤ (1 : Nat) ∧
  ((bitsTo a a_2.fst).length + (1 : Nat)) * (8 : Nat) ≤ (140737488355328 : Nat) ∧
  ∀ (cap : Nat), (bitsTo a a_2.fst).length + (1 : Nat) ≤ cap →
  cap ≤ lenMax →
  ((bitsTo a a_2.fst).length + (1 : Nat) ≤ a_2.snd →
  cap = a_2.snd) →
  InR IntKind.i64 ((↑a_2.fst : Int) + (1 : Int)) ∧
  ∃ (a' : Nat × Nat), (↑a_2.fst : Int) + (1 : Int) = (↑a'.fst : Int) ∧
  ((0 : Nat) = (0 : Nat) ∧
  (bitsTo a a_2.fst).length + (1 : Nat) = (bitsTo a a'.fst).length ∧
  cap = a'.snd) ∧
  a = a ∧
  ((bitsTo a a'.fst).length ≤ (bitsTo a a_2.fst).length + (1 : Nat) ∧
  RowsEq (bitsTo a a'.fst).length (1 : Nat) (appRows (encRows encI (bitsTo a a_2.fst)) (0 : Nat) (bitsTo a a_2.fst).length fun (i j : Nat) => flatRows (1 : Nat) [Value.int IntKind.i64 ((↑a_2.fst : Int) + (1 : Int))] ((0 : Nat) + i) j) (encRows encI (bitsTo a a'.fst))) ∧
  a'.fst ≤ (5 : Nat) ∧
  (5 : Nat) - a'.fst < (5 : Nat) - a_2.fst) ∧
  (((a / (2 : Int) ^ Min.min (uw IntKind.u64 (↑a_2.fst : Int)).toNat (64 : Nat)).tmod (2 : Int) != (0 : Int)) = Bool.false →
  InR IntKind.i64 ((↑a_2.fst : Int) + (1 : Int)) ∧
  ∃ (a' : Nat × Nat), (↑a_2.fst : Int) + (1 : Int) = (↑a'.fst : Int) ∧
  ((0 : Nat) = (0 : Nat) ∧
  (bitsTo a a_2.fst).length = (bitsTo a a'.fst).length ∧
  a_2.snd = a'.snd) ∧
  a = a ∧
  ((bitsTo a a'.fst).length ≤ (bitsTo a a_2.fst).length ∧
  RowsEq (bitsTo a a'.fst).length (1 : Nat) (encRows encI (bitsTo a a_2.fst)) (encRows encI (bitsTo a a'.fst))) ∧
  a'.fst ≤ (5 : Nat) ∧
  (5 : Nat) - a'.fst < (5 : Nat) - a_2.fst)) ∧
  (Decidable.decide ((↑a_2.fst : Int) < (5 : Int)) = Bool.false →
  ∃ (b : Nat), ((0 : Nat) = (0 : Nat) ∧
  (bitsTo a a_2.fst).length = (bitsTo a (5 : Nat)).length ∧
  a_2.snd = b) ∧
  ((bitsTo a (5 : Nat)).length ≤ (bitsTo a a_2.fst).length ∧
  RowsEq (bitsTo a (5 : Nat)).length (1 : Nat) (encRows encI (bitsTo a a_2.fst)) (encRows encI (bitsTo a (5 : Nat)))) ∧
  True ∧
  True)) (by kernel_rfl) (by
  intro b _
  have hlen := bits_len b
  have hex : ∀ k : Nat, k < 5 → (b / 2 ^ min (uw .u64 (k : Int)).toNat 64) = b / 2 ^ k := fun k hk => by
    have : min (uw .u64 (k : Int)).toNat 64 = k := by simp only [uw]; omega
    rw [this]
  refine ⟨⟨(0, 0), ?_⟩, fun x hx => ⟨fun c1 => ?_, fun c1 => ?_⟩⟩
  · have e0 : bitsTo b 0 = [] := rfl
    dsimp only
    rw [e0]
    ((repeat' apply And.intro) <;> first | with_reducible rfl | omega | (dsimp only; omega) | exact RowsEq.refl _ _ _ | assumption | rfl | trivial | exact Nat.le_refl _ | skip)
  · obtain ⟨k, cap⟩ := x
    dsimp only at c1 hx ⊢
    simp only [decide_eq_true_eq] at c1
    have hk : k < 5 := by omega
    have hl := hlen k
    rw [hex k hk]
    have h0 : 0 ≤ uw .u64 (k : Int) := by simp only [uw]; omega
    simp only [Nat.zero_add, InR]
    refine ⟨h0, by decide, fun c2 => ?_, fun c2 => ?_⟩
    · have es : bitsTo b (k + 1) = bitsTo b k ++ [(k : Int) + 1] := by
        show bitsTo b k ++ (if bitQ b k = true then _ else _) = _
        rw [if_pos (show bitQ b k = true from c2)]
      have hn : (bitsTo b k ++ [(k : Int) + 1]).length = (bitsTo b k).length + 1 := by simp
      ((repeat' apply And.intro) <;> first | with_reducible rfl | omega | (dsimp only; omega) | exact RowsEq.refl _ _ _ | assumption | rfl | trivial | exact Nat.le_refl _ | skip)
      refine fun c _ _ _ => ⟨by omega, (k + 1, c), ?_⟩
      dsimp only
      rw [es, hn]
      ((repeat' apply And.intro) <;> first | rfl | trivial | exact Nat.le_refl _ | omega | (dsimp only; omega) | exact RowsEq.refl _ _ _ | exact .push rfl (by omega) rfl)
    · have es : bitsTo b (k + 1) = bitsTo b k := by
        show bitsTo b k ++ (if bitQ b k = true then _ else _) = _
        rw [if_neg (by rw [show bitQ b k = false from c2]; simp), List.append_nil]
      refine ⟨by omega, (k + 1, cap), ?_⟩
      dsimp only
      rw [es]
      ((repeat' apply And.intro) <;> first | with_reducible rfl | omega | (dsimp only; omega) | exact RowsEq.refl _ _ _ | assumption | rfl | trivial | exact Nat.le_refl _ | skip)
  · obtain ⟨k, cap⟩ := x
    dsimp only at c1 hx ⊢
    simp only [decide_eq_false_iff_not] at c1
    have hk : k = 5 := by omega
    subst hk
    refine ⟨cap, ?_⟩
    ((repeat' apply And.intro) <;> first | with_reducible rfl | omega | (dsimp only; omega) | exact RowsEq.refl _ _ _ | assumption | rfl | trivial | exact Nat.le_refl _ | skip))
theorem callBits : CallsBy (Y Try.prog).G.X 10 cBits := fn_ok okY (tab := []) trivial bodyBits

structure NewA where
  e : Int
  l : List Int
  cap : Nat
noncomputable def cNew : Con where
  α := NewA
  β := Nat × Nat
  m := 1
  m' := 4
  pre := fun a => 1 ≤ a.e ∧ a.e ≤ 1099511627776 ∧ mayN a.l = true
  args := fun a => [.a (.int .i64 a.e), .a (.slc 0 0 1 a.l.length a.cap)]
  hp := fun _ => []
  ro := fun a => [(0, .arr 3 [.int .i64] a.l.length (encRows encI a.l))]
  post := fun _ _ => True
  res := fun _ _ => .a (.ptr 1 0 0 0)
  hp' := fun a c => [(1, .obj 54 [.int .i64 a.e, .slc 2 0 1 a.l.length c.1, .slc 3 0 2 (ptsOf a.l).length c.2]), (2, .arr 3 [.int .i64] a.l.length (encRows encI a.l)), (3, .arr 59 ksPt (ptsOf a.l).length (encRows encPt (ptsOf a.l)))]
set_option maxHeartbeats 4000000 in
theorem bodyNew : fnBody (Y Try.prog) [(25, cMay), (26, cClone), (27, cPtsOf)] 12 cNew fun _ => [] := fnBody.of (p :=
  ∀ (a : NewA), (1 : Int) ≤ a.e ∧
  a.e ≤ (1099511627776 : Int) ∧
  mayN a.l = Bool.true →
  (Decidable.decide (a.e < (1 : Int)) = Bool.true →
  ∃ (b : Nat × Nat), False) ∧
  (Decidable.decide (a.e < (1 : Int)) = Bool.false →
  (Decidable.decide ((1099511627776 : Int) < a.e) = Bool.true →
  ∃ (b : Nat × Nat), False) ∧
  (Decidable.decide ((1099511627776 : Int) < a.e) = Bool.false →
  ∃ (a_4 : NodesA), ((0 : Nat) = (0 : Nat) ∧
  a.l.length = a_4.l.length ∧
  a.cap = a_4.cap) ∧
  (a_4.l.length ≤ a.l.length ∧
  RowsEq a_4.l.length (1 : Nat) (encRows encI a.l) (encRows encI a_4.l)) ∧
  a_4.l.length < (100000 : Nat) ∧
  ∀ (b : Unit), True →
  ((!mayN a_4.l) = Bool.true →
  ∃ (b : Nat × Nat), False) ∧
  ((!mayN a_4.l) = Bool.false →
  ∃ (a_7 : NodesA), ((0 : Nat) = (0 : Nat) ∧
  a.l.length = a_7.l.length ∧
  a.cap = a_7.cap) ∧
  (a_7.l.length ≤ a.l.length ∧
  RowsEq a_7.l.length (1 : Nat) (encRows encI a.l) (encRows encI a_7.l)) ∧
  a_7.l.length < (100000 : Nat) ∧
  ∀ (b : Nat), True →
  ∃ (a_9 : NodesA), ((0 : Nat) = (0 : Nat) ∧
  a.l.length = a_9.l.length ∧
  a.cap = a_9.cap) ∧
  (a_9.l.length ≤ a.l.length ∧
  RowsEq a_9.l.length (1 : Nat) (encRows encI a.l) (encRows encI a_9.l)) ∧
  a_9.l.length < (100000 : Nat) ∧
  ∀ (b_1 : Nat), True →
  ∃ (b_2 : Nat × Nat), (0 : Nat) = (0 : Nat) ∧
  a.e = a.e ∧
  ((0 : Nat) = (0 : Nat) ∧
  a_7.l.length = a.l.length ∧
  b = b_2.fst) ∧
  ((0 : Nat) = (0 : Nat) ∧
  (ptsOf a_9.l).length = (ptsOf a.l).length ∧
  b_1 = b_2.snd) ∧
  (a.l.length ≤ a_7.l.length ∧
  RowsEq a.l.length (1 : Nat) (encRows encI a_7.l) (encRows encI a.l)) ∧
  ((ptsOf a.l).length ≤ (ptsOf a_9.l).length ∧
  RowsEq (ptsOf a.l).length (2 : Nat) (encRows encPt (ptsOf a_9.l)) (encRows encPt (ptsOf a.l))) ∧
  True ∧
  True)))) (by kernel_rfl) (by
  rintro ⟨e, l, cap⟩ ⟨h1, h2, h3⟩
  dsimp only at h1 h2 h3 ⊢
  have hl := mayN_len h3
  refine ⟨fun c => (by simp at c; omega), fun _ => ⟨fun c => (by simp at c; omega), fun _ => ⟨⟨l, cap⟩, ?_⟩⟩⟩
  ((repeat' apply And.intro) <;> first | with_reducible rfl | omega | (dsimp only; omega) | exact RowsEq.refl _ _ _ | assumption | rfl | trivial | exact Nat.le_refl _ | skip)
  refine fun _ _ => ⟨fun c => (by dsimp only at c; rw [h3] at c; simp at c), fun _ => ⟨⟨l, cap⟩, ?_⟩⟩
  ((repeat' apply And.intro) <;> first | with_reducible rfl | omega | (dsimp only; omega) | exact RowsEq.refl _ _ _ | assumption | rfl | trivial | exact Nat.le_refl _ | skip)
  refine fun c1 _ => ⟨⟨l, cap⟩, ?_⟩
  ((repeat' apply And.intro) <;> first | with_reducible rfl | omega | (dsimp only; omega) | exact RowsEq.refl _ _ _ | assumption | rfl | trivial | exact Nat.le_refl _ | skip)
  refine fun c2 _ => ⟨(c1, c2), ?_⟩
  ((repeat' apply And.intro) <;> first | with_reducible rfl | omega | (dsimp only; omega) | exact RowsEq.refl _ _ _ | assumption | rfl | trivial | exact Nat.le_refl _ | skip))
theorem callNew : CallsBy (Y Try.prog).G.X 12 cNew := fn_ok okY (tab := [(25, cMay), (26, cClone), (27, cPtsOf)]) ⟨callMay, callClone, callPtsOf, trivial⟩ bodyNew


/-! ### one node more -/

noncomputable def cBegun : Con where
  α := Unit
  β := Unit
  m := 0
  m' := 0
  pre := fun _ => True
  args := fun _ => []
  hp := fun _ => []
  ro := fun _ => []
  post := fun _ _ => True
  res := fun _ _ => .a .tt
  hp' := fun _ _ => []
def oneL (_ : Unit) : List Int := [1]
def twoL (_ : Unit) : List Int := [1, 2]
noncomputable def tabBeg : List (Nat × Con) := [(12, cNew), (21, cCuts), (20, cCat), (22, cSortU), (23, cComp), (24, cOwner), (14, cCov), (16, cSide fromL), (17, cSide toL)]
theorem tabBeg_ok : TabOk (Y Try.prog).G.X tabBeg := ⟨callNew, callCuts, callCat, callSortU, callComp, callOwner, callCov, callFrom, callTo, trivial⟩
set_option maxHeartbeats 4000000 in
theorem bodyBegun : fnBody (Y Try.prog) tabBeg 9 cBegun fun u => [(11, [iPlan (ptsOf (oneL u)) (ptsOf (twoL u))], [])] := fnBody.of (p :=
  ∀ (a : Unit), True →
  ∃ (a_2 : NewA), (1 : Int) = a_2.e ∧
  ((0 : Nat) = (0 : Nat) ∧
  (1 : Nat) = a_2.l.length ∧
  (1 : Nat) = a_2.cap) ∧
  (a_2.l.length ≤ (1 : Nat) ∧
  RowsEq a_2.l.length (1 : Nat) (flatRows (1 : Nat) [Value.int IntKind.i64 (1 : Int)]) (encRows encI a_2.l)) ∧
  ((1 : Int) ≤ a_2.e ∧
  a_2.e ≤ (1099511627776 : Int) ∧
  mayN a_2.l = Bool.true) ∧
  ∀ (b : Nat × Nat), True →
  ∃ (a_4 : NewA), (2 : Int) = a_4.e ∧
  ((0 : Nat) = (0 : Nat) ∧
  (2 : Nat) = a_4.l.length ∧
  (2 : Nat) = a_4.cap) ∧
  (a_4.l.length ≤ (2 : Nat) ∧
  RowsEq a_4.l.length (1 : Nat) (flatRows (1 : Nat) [Value.int IntKind.i64 (1 : Int), Value.int IntKind.i64 (2 : Int)]) (encRows encI a_4.l)) ∧
  ((1 : Int) ≤ a_4.e ∧
  a_4.e ≤ (1099511627776 : Int) ∧
  mayN a_4.l = Bool.true) ∧
  ∀ (b_1 : Nat × Nat), True →
  ∃ (a_6 : RingA), (0 : Nat) = (0 : Nat) ∧
  a_2.e = a_6.e ∧
  ((0 : Nat) = (0 : Nat) ∧
  a_2.l.length = a_6.l.length ∧
  b.fst = a_6.c1) ∧
  ((0 : Nat) = (0 : Nat) ∧
  (ptsOf a_2.l).length = a_6.L.length ∧
  b.snd = a_6.c2) ∧
  (a_6.l.length ≤ a_2.l.length ∧
  RowsEq a_6.l.length (1 : Nat) (encRows encI a_2.l) (encRows encI a_6.l)) ∧
  (a_6.L.length ≤ (ptsOf a_2.l).length ∧
  RowsEq a_6.L.length (2 : Nat) (encRows encPt (ptsOf a_2.l)) (encRows encPt a_6.L)) ∧
  a_6.L.length < (100000 : Nat) ∧
  ∀ (b_2 : Nat), True →
  ∃ (a_8 : RingA), (0 : Nat) = (0 : Nat) ∧
  a_4.e = a_8.e ∧
  ((0 : Nat) = (0 : Nat) ∧
  a_4.l.length = a_8.l.length ∧
  b_1.fst = a_8.c1) ∧
  ((0 : Nat) = (0 : Nat) ∧
  (ptsOf a_4.l).length = a_8.L.length ∧
  b_1.snd = a_8.c2) ∧
  (a_8.l.length ≤ a_4.l.length ∧
  RowsEq a_8.l.length (1 : Nat) (encRows encI a_4.l) (encRows encI a_8.l)) ∧
  (a_8.L.length ≤ (ptsOf a_4.l).length ∧
  RowsEq a_8.L.length (2 : Nat) (encRows encPt (ptsOf a_4.l)) (encRows encPt a_8.L)) ∧
  a_8.L.length < (100000 : Nat) ∧
  ∀ (b_3 : Nat), True →
  ∃ (a_10 : CatA), ((0 : Nat) = (0 : Nat) ∧
  (3 : Nat) = (3 : Nat) ∧
  (3 : Nat) = (3 : Nat)) ∧
  ((0 : Nat) = (0 : Nat) ∧
  (List.map Prod.fst a_6.L).length = a_10.l1.length ∧
  b_2 = a_10.c1) ∧
  ((0 : Nat) = (0 : Nat) ∧
  (List.map Prod.fst a_8.L).length = a_10.l2.length ∧
  b_3 = a_10.c2) ∧
  ((0 : Nat) = (0 : Nat) ∧
  (1 : Nat) = a_10.l3.length ∧
  (1 : Nat) = a_10.c3) ∧
  (a_10.l1.length ≤ (List.map Prod.fst a_6.L).length ∧
  RowsEq a_10.l1.length (1 : Nat) (encRows encU (List.map Prod.fst a_6.L)) (encRows encU a_10.l1)) ∧
  (a_10.l2.length ≤ (List.map Prod.fst a_8.L).length ∧
  RowsEq a_10.l2.length (1 : Nat) (encRows encU (List.map Prod.fst a_8.L)) (encRows encU a_10.l2)) ∧
  (a_10.l3.length ≤ (1 : Nat) ∧
  RowsEq a_10.l3.length (1 : Nat) (flatRows (1 : Nat) [Value.int IntKind.u64 (18446744073709551615 : Int)]) (encRows encU a_10.l3)) ∧
  ((1 : Nat) ≤ a_10.l1.length ∧
  a_10.l1.length < (1000 : Nat) ∧
  a_10.l2.length < (1000 : Nat) ∧
  a_10.l3.length < (1000 : Nat)) ∧
  ∀ (b_4 : Nat), (a_10.l1 ++ a_10.l2 ++ a_10.l3).length ≤ b_4 →
  ∃ (a_12 : ListA), ((0 : Nat) = (0 : Nat) ∧
  (a_10.l1 ++ a_10.l2 ++ a_10.l3).length = a_12.l.length ∧
  b_4 = a_12.cap) ∧
  (a_12.l.length ≤ (a_10.l1 ++ a_10.l2 ++ a_10.l3).length ∧
  RowsEq a_12.l.length (1 : Nat) (encRows encU (a_10.l1 ++ a_10.l2 ++ a_10.l3)) (encRows encU a_12.l)) ∧
  ((1 : Nat) ≤ a_12.l.length ∧
  a_12.l.length < (256 : Nat)) ∧
  ∀ (b_5 : Unit), True →
  ∃ (a_14 : ListA), ((0 : Nat) = (0 : Nat) ∧
  (a_10.l1 ++ a_10.l2 ++ a_10.l3).length = a_14.l.length ∧
  b_4 = a_14.cap) ∧
  (a_14.l.length ≤ a_12.l.length ∧
  RowsEq a_14.l.length (1 : Nat) (encRows encU (sortU a_12.l)) (encRows encU a_14.l)) ∧
  ((1 : Nat) ≤ a_14.l.length ∧
  a_14.l.length < (100000 : Nat) ∧
  a_14.l.length ≤ a_14.cap) ∧
  ∀ (b_6 : Unit), True →
  (∃ (a_16 : Nat × Nat), (0 : Int) = (↑a_16.fst : Int) ∧
  (0 : Int) = (planTo (ptsOf (oneL a)) (ptsOf (twoL a)) (cutsOf (ptsOf (oneL a)) (ptsOf (twoL a))) a_16.fst).from_ ∧
  ((0 : Nat) = (planTo (ptsOf (oneL a)) (ptsOf (twoL a)) (cutsOf (ptsOf (oneL a)) (ptsOf (twoL a))) a_16.fst).l.length ∧
  (0 : Nat) = a_16.snd) ∧
  (↑(compL a_14.l).length : Int) = (↑(compL a_14.l).length : Int) ∧
  ((0 : Nat) = (0 : Nat) ∧
  (compL a_14.l).length = (compL a_14.l).length ∧
  a_14.cap = a_14.cap) ∧
  ((0 : Nat) = (0 : Nat) ∧
  (a_10.l1 ++ a_10.l2 ++ a_10.l3).length = (a_10.l1 ++ a_10.l2 ++ a_10.l3).length ∧
  b_4 = b_4) ∧
  Bool.false = Bool.false ∧
  (0 : Nat) = (0 : Nat) ∧
  (0 : Nat) = (0 : Nat) ∧
  (planTo (ptsOf (oneL a)) (ptsOf (twoL a)) (cutsOf (ptsOf (oneL a)) (ptsOf (twoL a))) a_16.fst).l.length = (0 : Nat) ∧
  ((compL a_14.l).length ≤ (compL a_14.l).length ∧
  RowsEq (compL a_14.l).length (1 : Nat) (encRows encU (compL a_14.l)) (encRows encU (compL a_14.l))) ∧
  a_4.e = a_4.e ∧
  ((0 : Nat) = (0 : Nat) ∧
  a_4.l.length = a_4.l.length ∧
  b_1.fst = b_1.fst) ∧
  ((0 : Nat) = (0 : Nat) ∧
  (ptsOf a_4.l).length = (ptsOf a_4.l).length ∧
  b_1.snd = b_1.snd) ∧
  (a_4.l.length ≤ a_4.l.length ∧
  RowsEq a_4.l.length (1 : Nat) (encRows encI a_4.l) (encRows encI a_4.l)) ∧
  ((ptsOf a_4.l).length ≤ (ptsOf a_4.l).length ∧
  RowsEq (ptsOf a_4.l).length (2 : Nat) (encRows encPt (ptsOf a_4.l)) (encRows encPt (ptsOf a_4.l))) ∧
  a_2.e = a_2.e ∧
  ((0 : Nat) = (0 : Nat) ∧
  a_2.l.length = a_2.l.length ∧
  b.fst = b.fst) ∧
  ((0 : Nat) = (0 : Nat) ∧
  (ptsOf a_2.l).length = (ptsOf a_2.l).length ∧
  b.snd = b.snd) ∧
  (a_2.l.length ≤ a_2.l.length ∧
  RowsEq a_2.l.length (1 : Nat) (encRows encI a_2.l) (encRows encI a_2.l)) ∧
  ((ptsOf a_2.l).length ≤ (ptsOf a_2.l).length ∧
  RowsEq (ptsOf a_2.l).length (2 : Nat) (encRows encPt (ptsOf a_2.l)) (encRows encPt (ptsOf a_2.l))) ∧
  ((1 : Nat) ≤ (1 : Nat) ∧
  RowsEq (1 : Nat) (1 : Nat) (flatRows (1 : Nat) [Value.int IntKind.i64 (1 : Int)]) (flatRows (1 : Nat) [Value.int IntKind.i64 (1 : Int)])) ∧
  ((2 : Nat) ≤ (2 : Nat) ∧
  RowsEq (2 : Nat) (1 : Nat) (flatRows (1 : Nat) [Value.int IntKind.i64 (1 : Int), Value.int IntKind.i64 (2 : Int)]) (flatRows (1 : Nat) [Value.int IntKind.i64 (1 : Int), Value.int IntKind.i64 (2 : Int)])) ∧
  a_16.fst ≤ (cutsOf (ptsOf (oneL a)) (ptsOf (twoL a))).length ∧
  True) ∧
  ∀ (a_16 : Nat × Nat), a_16.fst ≤ (cutsOf (ptsOf (oneL a)) (ptsOf (twoL a))).length →
  (Decidable.decide ((↑a_16.fst : Int) < (↑(compL a_14.l).length : Int)) = Bool.true →
  ((0 : Int) ≤ (↑a_16.fst : Int) ∧
  (↑a_16.fst : Int) < (↑(compL a_14.l).length : Int)) ∧
  (0 : Nat) + (↑a_16.fst : Int).toNat < (compL a_14.l).length ∧
  (InR IntKind.u64 (gl (compL a_14.l) ((0 : Nat) + (↑a_16.fst : Int).toNat)) →
  ∃ (a_20 : OwnerA), (0 : Nat) = (0 : Nat) ∧
  gl (compL a_14.l) ((0 : Nat) + (↑a_16.fst : Int).toNat) = a_20.h ∧
  a_2.e = a_20.r.e ∧
  ((0 : Nat) = (0 : Nat) ∧
  a_2.l.length = a_20.r.l.length ∧
  b.fst = a_20.r.c1) ∧
  ((0 : Nat) = (0 : Nat) ∧
  (ptsOf a_2.l).length = a_20.r.L.length ∧
  b.snd = a_20.r.c2) ∧
  (a_20.r.l.length ≤ a_2.l.length ∧
  RowsEq a_20.r.l.length (1 : Nat) (encRows encI a_2.l) (encRows encI a_20.r.l)) ∧
  (a_20.r.L.length ≤ (ptsOf a_2.l).length ∧
  RowsEq a_20.r.L.length (2 : Nat) (encRows encPt (ptsOf a_2.l)) (encRows encPt a_20.r.L)) ∧
  (a_20.r.L.length < (100000 : Nat) ∧
  (0 : Nat) < a_20.r.L.length) ∧
  ∀ (b_7 : Unit), True →
  ∃ (a_22 : OwnerA), (0 : Nat) = (0 : Nat) ∧
  gl (compL a_14.l) ((0 : Nat) + (↑a_16.fst : Int).toNat) = a_22.h ∧
  a_4.e = a_22.r.e ∧
  ((0 : Nat) = (0 : Nat) ∧
  a_4.l.length = a_22.r.l.length ∧
  b_1.fst = a_22.r.c1) ∧
  ((0 : Nat) = (0 : Nat) ∧
  (ptsOf a_4.l).length = a_22.r.L.length ∧
  b_1.snd = a_22.r.c2) ∧
  (a_22.r.l.length ≤ a_4.l.length ∧
  RowsEq a_22.r.l.length (1 : Nat) (encRows encI a_4.l) (encRows encI a_22.r.l)) ∧
  (a_22.r.L.length ≤ (ptsOf a_4.l).length ∧
  RowsEq a_22.r.L.length (2 : Nat) (encRows encPt (ptsOf a_4.l)) (encRows encPt a_22.r.L)) ∧
  (a_22.r.L.length < (100000 : Nat) ∧
  (0 : Nat) < a_22.r.L.length) ∧
  ∀ (b_8 : Unit), True →
  InR IntKind.i64 (ownP a_20.r.L a_20.h) →
  InR IntKind.i64 (ownP a_22.r.L a_22.h) →
  ((ownP a_20.r.L a_20.h == ownP a_22.r.L a_22.h) = Bool.true →
  InR IntKind.i64 ((↑a_16.fst : Int) + (1 : Int)) ∧
  ∃ (a' : Nat × Nat), (↑a_16.fst : Int) + (1 : Int) = (↑a'.fst : Int) ∧
  uw IntKind.u64 (gl (compL a_14.l) ((0 : Nat) + (↑a_16.fst : Int).toNat) + (1 : Int)) = (planTo (ptsOf (oneL a)) (ptsOf (twoL a)) (cutsOf (ptsOf (oneL a)) (ptsOf (twoL a))) a'.fst).from_ ∧
  ((0 : Nat) = (0 : Nat) ∧
  (planTo (ptsOf (oneL a)) (ptsOf (twoL a)) (cutsOf (ptsOf (oneL a)) (ptsOf (twoL a))) a_16.fst).l.length = (planTo (ptsOf (oneL a)) (ptsOf (twoL a)) (cutsOf (ptsOf (oneL a)) (ptsOf (twoL a))) a'.fst).l.length ∧
  a_16.snd = a'.snd) ∧
  (↑(compL a_14.l).length : Int) = (↑(compL a_14.l).length : Int) ∧
  ((0 : Nat) = (0 : Nat) ∧
  (compL a_14.l).length = (compL a_14.l).length ∧
  a_14.cap = a_14.cap) ∧
  ((0 : Nat) = (0 : Nat) ∧
  (a_10.l1 ++ a_10.l2 ++ a_10.l3).length = (a_10.l1 ++ a_10.l2 ++ a_10.l3).length ∧
  b_4 = b_4) ∧
  Bool.false = Bool.false ∧
  (0 : Nat) = (0 : Nat) ∧
  (0 : Nat) = (0 : Nat) ∧
  ((planTo (ptsOf (oneL a)) (ptsOf (twoL a)) (cutsOf (ptsOf (oneL a)) (ptsOf (twoL a))) a'.fst).l.length ≤ (planTo (ptsOf (oneL a)) (ptsOf (twoL a)) (cutsOf (ptsOf (oneL a)) (ptsOf (twoL a))) a_16.fst).l.length ∧
  RowsEq (planTo (ptsOf (oneL a)) (ptsOf (twoL a)) (cutsOf (ptsOf (oneL a)) (ptsOf (twoL a))) a'.fst).l.length (4 : Nat) (encRows encM (planTo (ptsOf (oneL a)) (ptsOf (twoL a)) (cutsOf (ptsOf (oneL a)) (ptsOf (twoL a))) a_16.fst).l) (encRows encM (planTo (ptsOf (oneL a)) (ptsOf (twoL a)) (cutsOf (ptsOf (oneL a)) (ptsOf (twoL a))) a'.fst).l)) ∧
  ((compL a_14.l).length ≤ (compL a_14.l).length ∧
  RowsEq (compL a_14.l).length (1 : Nat) (encRows encU (compL a_14.l)) (encRows encU (compL a_14.l))) ∧
  a_4.e = a_4.e ∧
  ((0 : Nat) = (0 : Nat) ∧
  a_4.l.length = a_4.l.length ∧
  b_1.fst = b_1.fst) ∧
  ((0 : Nat) = (0 : Nat) ∧
  (ptsOf a_4.l).length = (ptsOf a_4.l).length ∧
  b_1.snd = b_1.snd) ∧
  (a_4.l.length ≤ a_4.l.length ∧
  RowsEq a_4.l.length (1 : Nat) (encRows encI a_4.l) (encRows encI a_4.l)) ∧
  ((ptsOf a_4.l).length ≤ (ptsOf a_4.l).length ∧
  RowsEq (ptsOf a_4.l).length (2 : Nat) (encRows encPt (ptsOf a_4.l)) (encRows encPt (ptsOf a_4.l))) ∧
  a_2.e = a_2.e ∧
  ((0 : Nat) = (0 : Nat) ∧
  a_2.l.length = a_2.l.length ∧
  b.fst = b.fst) ∧
  ((0 : Nat) = (0 : Nat) ∧
  (ptsOf a_2.l).length = (ptsOf a_2.l).length ∧
  b.snd = b.snd) ∧
  (a_2.l.length ≤ a_2.l.length ∧
  RowsEq a_2.l.length (1 : Nat) (encRows encI a_2.l) (encRows encI a_2.l)) ∧
  ((ptsOf a_2.l).length ≤ (ptsOf a_2.l).length ∧
  RowsEq (ptsOf a_2.l).length (2 : Nat) (encRows encPt (ptsOf a_2.l)) (encRows encPt (ptsOf a_2.l))) ∧
  ((1 : Nat) ≤ (1 : Nat) ∧
  RowsEq (1 : Nat) (1 : Nat) (flatRows (1 : Nat) [Value.int IntKind.i64 (1 : Int)]) (flatRows (1 : Nat) [Value.int IntKind.i64 (1 : Int)])) ∧
  ((2 : Nat) ≤ (2 : Nat) ∧
  RowsEq (2 : Nat) (1 : Nat) (flatRows (1 : Nat) [Value.int IntKind.i64 (1 : Int), Value.int IntKind.i64 (2 : Int)]) (flatRows (1 : Nat) [Value.int IntKind.i64 (1 : Int), Value.int IntKind.i64 (2 : Int)])) ∧
  a'.fst ≤ (cutsOf (ptsOf (oneL a)) (ptsOf (twoL a))).length ∧
  (cutsOf (ptsOf (oneL a)) (ptsOf (twoL a))).length - a'.fst < (cutsOf (ptsOf (oneL a)) (ptsOf (twoL a))).length - a_16.fst) ∧
  ((ownP a_20.r.L a_20.h == ownP a_22.r.L a_22.h) = Bool.false →
  (Decidable.decide ((0 : Int) < (↑(planTo (ptsOf (oneL a)) (ptsOf (twoL a)) (cutsOf (ptsOf (oneL a)) (ptsOf (twoL a))) a_16.fst).l.length : Int)) = Bool.true →
  InR IntKind.i64 ((↑(planTo (ptsOf (oneL a)) (ptsOf (twoL a)) (cutsOf (ptsOf (oneL a)) (ptsOf (twoL a))) a_16.fst).l.length : Int) - (1 : Int)) ∧
  ((0 : Int) ≤ (↑(planTo (ptsOf (oneL a)) (ptsOf (twoL a)) (cutsOf (ptsOf (oneL a)) (ptsOf (twoL a))) a_16.fst).l.length : Int) - (1 : Int) ∧
  (↑(planTo (ptsOf (oneL a)) (ptsOf (twoL a)) (cutsOf (ptsOf (oneL a)) (ptsOf (twoL a))) a_16.fst).l.length : Int) - (1 : Int) < (↑(planTo (ptsOf (oneL a)) (ptsOf (twoL a)) (cutsOf (ptsOf (oneL a)) (ptsOf (twoL a))) a_16.fst).l.length : Int)) ∧
  (0 : Nat) + ((↑(planTo (ptsOf (oneL a)) (ptsOf (twoL a)) (cutsOf (ptsOf (oneL a)) (ptsOf (twoL a))) a_16.fst).l.length : Int) - (1 : Int)).toNat < (planTo (ptsOf (oneL a)) (ptsOf (twoL a)) (cutsOf (ptsOf (oneL a)) (ptsOf (twoL a))) a_16.fst).l.length ∧
  (InR IntKind.u64 (gl (planTo (ptsOf (oneL a)) (ptsOf (twoL a)) (cutsOf (ptsOf (oneL a)) (ptsOf (twoL a))) a_16.fst).l ((0 : Nat) + ((↑(planTo (ptsOf (oneL a)) (ptsOf (twoL a)) (cutsOf (ptsOf (oneL a)) (ptsOf (twoL a))) a_16.fst).l.length : Int) - (1 : Int)).toNat)).t →
  InR IntKind.u64 (planTo (ptsOf (oneL a)) (ptsOf (twoL a)) (cutsOf (ptsOf (oneL a)) (ptsOf (twoL a))) a_16.fst).from_ →
  ((uw IntKind.u64 ((gl (planTo (ptsOf (oneL a)) (ptsOf (twoL a)) (cutsOf (ptsOf (oneL a)) (ptsOf (twoL a))) a_16.fst).l ((0 : Nat) + ((↑(planTo (ptsOf (oneL a)) (ptsOf (twoL a)) (cutsOf (ptsOf (oneL a)) (ptsOf (twoL a))) a_16.fst).l.length : Int) - (1 : Int)).toNat)).t + (1 : Int)) == (planTo (ptsOf (oneL a)) (ptsOf (twoL a)) (cutsOf (ptsOf (oneL a)) (ptsOf (twoL a))) a_16.fst).from_) = Bool.true →
  InR IntKind.i64 ((↑(planTo (ptsOf (oneL a)) (ptsOf (twoL a)) (cutsOf (ptsOf (oneL a)) (ptsOf (twoL a))) a_16.fst).l.length : Int) - (1 : Int)) ∧
  ((0 : Int) ≤ (↑(planTo (ptsOf (oneL a)) (ptsOf (twoL a)) (cutsOf (ptsOf (oneL a)) (ptsOf (twoL a))) a_16.fst).l.length : Int) - (1 : Int) ∧
  (↑(planTo (ptsOf (oneL a)) (ptsOf (twoL a)) (cutsOf (ptsOf (oneL a)) (ptsOf (twoL a))) a_16.fst).l.length : Int) - (1 : Int) < (↑(planTo (ptsOf (oneL a)) (ptsOf (twoL a)) (cutsOf (ptsOf (oneL a)) (ptsOf (twoL a))) a_16.fst).l.length : Int)) ∧
  (0 : Nat) + ((↑(planTo (ptsOf (oneL a)) (ptsOf (twoL a)) (cutsOf (ptsOf (oneL a)) (ptsOf (twoL a))) a_16.fst).l.length : Int) - (1 : Int)).toNat < (planTo (ptsOf (oneL a)) (ptsOf (twoL a)) (cutsOf (ptsOf (oneL a)) (ptsOf (twoL a))) a_16.fst).l.length ∧
  (InR IntKind.i64 (gl (planTo (ptsOf (oneL a)) (ptsOf (twoL a)) (cutsOf (ptsOf (oneL a)) (ptsOf (twoL a))) a_16.fst).l ((0 : Nat) + ((↑(planTo (ptsOf (oneL a)) (ptsOf (twoL a)) (cutsOf (ptsOf (oneL a)) (ptsOf (twoL a))) a_16.fst).l.length : Int) - (1 : Int)).toNat)).s →
  InR IntKind.i64 (ownP a_20.r.L a_20.h) →
  (((gl (planTo (ptsOf (oneL a)) (ptsOf (twoL a)) (cutsOf (ptsOf (oneL a)) (ptsOf (twoL a))) a_16.fst).l ((0 : Nat) + ((↑(planTo (ptsOf (oneL a)) (ptsOf (twoL a)) (cutsOf (ptsOf (oneL a)) (ptsOf (twoL a))) a_16.fst).l.length : Int) - (1 : Int)).toNat)).s == ownP a_20.r.L a_20.h) = Bool.true →
  InR IntKind.i64 ((↑(planTo (ptsOf (oneL a)) (ptsOf (twoL a)) (cutsOf (ptsOf (oneL a)) (ptsOf (twoL a))) a_16.fst).l.length : Int) - (1 : Int)) ∧
  ((0 : Int) ≤ (↑(planTo (ptsOf (oneL a)) (ptsOf (twoL a)) (cutsOf (ptsOf (oneL a)) (ptsOf (twoL a))) a_16.fst).l.length : Int) - (1 : Int) ∧
  (↑(planTo (ptsOf (oneL a)) (ptsOf (twoL a)) (cutsOf (ptsOf (oneL a)) (ptsOf (twoL a))) a_16.fst).l.length : Int) - (1 : Int) < (↑(planTo (ptsOf (oneL a)) (ptsOf (twoL a)) (cutsOf (ptsOf (oneL a)) (ptsOf (twoL a))) a_16.fst).l.length : Int)) ∧
  (0 : Nat) + ((↑(planTo (ptsOf (oneL a)) (ptsOf (twoL a)) (cutsOf (ptsOf (oneL a)) (ptsOf (twoL a))) a_16.fst).l.length : Int) - (1 : Int)).toNat < (planTo (ptsOf (oneL a)) (ptsOf (twoL a)) (cutsOf (ptsOf (oneL a)) (ptsOf (twoL a))) a_16.fst).l.length ∧
  (InR IntKind.i64 (gl (planTo (ptsOf (oneL a)) (ptsOf (twoL a)) (cutsOf (ptsOf (oneL a)) (ptsOf (twoL a))) a_16.fst).l ((0 : Nat) + ((↑(planTo (ptsOf (oneL a)) (ptsOf (twoL a)) (cutsOf (ptsOf (oneL a)) (ptsOf (twoL a))) a_16.fst).l.length : Int) - (1 : Int)).toNat)).d →
  InR IntKind.i64 (ownP a_22.r.L a_22.h) →
  (((gl (planTo (ptsOf (oneL a)) (ptsOf (twoL a)) (cutsOf (ptsOf (oneL a)) (ptsOf (twoL a))) a_16.fst).l ((0 : Nat) + ((↑(planTo (ptsOf (oneL a)) (ptsOf (twoL a)) (cutsOf (ptsOf (oneL a)) (ptsOf (twoL a))) a_16.fst).l.length : Int) - (1 : Int)).toNat)).d == ownP a_22.r.L a_22.h) = Bool.true →
  InR IntKind.i64 ((↑(planTo (ptsOf (oneL a)) (ptsOf (twoL a)) (cutsOf (ptsOf (oneL a)) (ptsOf (twoL a))) a_16.fst).l.length : Int) - (1 : Int)) ∧
  ((0 : Int) ≤ (↑(planTo (ptsOf (oneL a)) (ptsOf (twoL a)) (cutsOf (ptsOf (oneL a)) (ptsOf (twoL a))) a_16.fst).l.length : Int) - (1 : Int) ∧
  (↑(planTo (ptsOf (oneL a)) (ptsOf (twoL a)) (cutsOf (ptsOf (oneL a)) (ptsOf (twoL a))) a_16.fst).l.length : Int) - (1 : Int) < (↑(planTo (ptsOf (oneL a)) (ptsOf (twoL a)) (cutsOf (ptsOf (oneL a)) (ptsOf (twoL a))) a_16.fst).l.length : Int)) ∧
  (0 : Nat) + ((↑(planTo (ptsOf (oneL a)) (ptsOf (twoL a)) (cutsOf (ptsOf (oneL a)) (ptsOf (twoL a))) a_16.fst).l.length : Int) - (1 : Int)).toNat < (planTo (ptsOf (oneL a)) (ptsOf (twoL a)) (cutsOf (ptsOf (oneL a)) (ptsOf (twoL a))) a_16.fst).l.length ∧
  InR IntKind.i64 ((↑a_16.fst : Int) + (1 : Int)) ∧
  ∃ (a' : Nat × Nat), (↑a_16.fst : Int) + (1 : Int) = (↑a'.fst : Int) ∧
  uw IntKind.u64 (gl (compL a_14.l) ((0 : Nat) + (↑a_16.fst : Int).toNat) + (1 : Int)) = (planTo (ptsOf (oneL a)) (ptsOf (twoL a)) (cutsOf (ptsOf (oneL a)) (ptsOf (twoL a))) a'.fst).from_ ∧
  ((0 : Nat) = (0 : Nat) ∧
  (planTo (ptsOf (oneL a)) (ptsOf (twoL a)) (cutsOf (ptsOf (oneL a)) (ptsOf (twoL a))) a_16.fst).l.length = (planTo (ptsOf (oneL a)) (ptsOf (twoL a)) (cutsOf (ptsOf (oneL a)) (ptsOf (twoL a))) a'.fst).l.length ∧
  a_16.snd = a'.snd) ∧
  (↑(compL a_14.l).length : Int) = (↑(compL a_14.l).length : Int) ∧
  ((0 : Nat) = (0 : Nat) ∧
  (compL a_14.l).length = (compL a_14.l).length ∧
  a_14.cap = a_14.cap) ∧
  ((0 : Nat) = (0 : Nat) ∧
  (a_10.l1 ++ a_10.l2 ++ a_10.l3).length = (a_10.l1 ++ a_10.l2 ++ a_10.l3).length ∧
  b_4 = b_4) ∧
  Bool.false = Bool.false ∧
  (0 : Nat) = (0 : Nat) ∧
  (0 : Nat) = (0 : Nat) ∧
  ((planTo (ptsOf (oneL a)) (ptsOf (twoL a)) (cutsOf (ptsOf (oneL a)) (ptsOf (twoL a))) a'.fst).l.length ≤ (planTo (ptsOf (oneL a)) (ptsOf (twoL a)) (cutsOf (ptsOf (oneL a)) (ptsOf (twoL a))) a_16.fst).l.length ∧
  RowsEq (planTo (ptsOf (oneL a)) (ptsOf (twoL a)) (cutsOf (ptsOf (oneL a)) (ptsOf (twoL a))) a'.fst).l.length (4 : Nat) (updR (encRows encM (planTo (ptsOf (oneL a)) (ptsOf (twoL a)) (cutsOf (ptsOf (oneL a)) (ptsOf (twoL a))) a_16.fst).l) ((0 : Nat) + ((↑(planTo (ptsOf (oneL a)) (ptsOf (twoL a)) (cutsOf (ptsOf (oneL a)) (ptsOf (twoL a))) a_16.fst).l.length : Int) - (1 : Int)).toNat) (1 : Nat) [Value.int IntKind.u64 (gl (compL a_14.l) ((0 : Nat) + (↑a_16.fst : Int).toNat))]) (encRows encM (planTo (ptsOf (oneL a)) (ptsOf (twoL a)) (cutsOf (ptsOf (oneL a)) (ptsOf (twoL a))) a'.fst).l)) ∧
  ((compL a_14.l).length ≤ (compL a_14.l).length ∧
  RowsEq (compL a_14.l).length (1 : Nat) (encRows encU (compL a_14.l)) (encRows encU (compL a_14.l))) ∧
  a_4.e = a_4.e ∧
  ((0 : Nat) = (0 : Nat) ∧
  a_4.l.length = a_4.l.length ∧
  b_1.fst = b_1.fst) ∧
  ((0 : Nat) = (0 : Nat) ∧
  (ptsOf a_4.l).length = (ptsOf a_4.l).length ∧
  b_1.snd = b_1.snd) ∧
  (a_4.l.length ≤ a_4.l.length ∧
  RowsEq a_4.l.length (1 : Nat) (encRows encI a_4.l) (encRows encI a_4.l)) ∧
  ((ptsOf a_4.l).length ≤ (ptsOf a_4.l).length ∧
  RowsEq (ptsOf a_4.l).length (2 : Nat) (encRows encPt (ptsOf a_4.l)) (encRows encPt (ptsOf a_4.l))) ∧
  a_2.e = a_2.e ∧
  ((0 : Nat) = (0 : Nat) ∧
  a_2.l.length = a_2.l.length ∧
  b.fst = b.fst) ∧
  ((0 : Nat) = (0 : Nat) ∧
  (ptsOf a_2.l).length = (ptsOf a_2.l).length ∧
  b.snd = b.snd) ∧
  (a_2.l.length ≤ a_2.l.length ∧
  RowsEq a_2.l.length (1 : Nat) (encRows encI a_2.l) (encRows encI a_2.l)) ∧
  ((ptsOf a_2.l).length ≤ (ptsOf a_2.l).length ∧
  RowsEq (ptsOf a_2.l).length (2 : Nat) (encRows encPt (ptsOf a_2.l)) (encRows encPt (ptsOf a_2.l))) ∧
  ((1 : Nat) ≤ (1 : Nat) ∧
  RowsEq (1 : Nat) (1 : Nat) (flatRows (1 : Nat) [Value.int IntKind.i64 (1 : Int)]) (flatRows (1 : Nat) [Value.int IntKind.i64 (1 : Int)])) ∧
  ((2 : Nat) ≤ (2 : Nat) ∧
  RowsEq (2 : Nat) (1 : Nat) (flatRows (1 : Nat) [Value.int IntKind.i64 (1 : Int), Value.int IntKind.i64 (2 : Int)]) (flatRows (1 : Nat) [Value.int IntKind.i64 (1 : Int), Value.int IntKind.i64 (2 : Int)])) ∧
  a'.fst ≤ (cutsOf (ptsOf (oneL a)) (ptsOf (twoL a))).length ∧
  (cutsOf (ptsOf (oneL a)) (ptsOf (twoL a))).length - a'.fst < (cutsOf (ptsOf (oneL a)) (ptsOf (twoL a))).length - a_16.fst) ∧
  (((gl (planTo (ptsOf (oneL a)) (ptsOf (twoL a)) (cutsOf (ptsOf (oneL a)) (ptsOf (twoL a))) a_16.fst).l ((0 : Nat) + ((↑(planTo (ptsOf (oneL a)) (ptsOf (twoL a)) (cutsOf (ptsOf (oneL a)) (ptsOf (twoL a))) a_16.fst).l.length : Int) - (1 : Int)).toNat)).d == ownP a_22.r.L a_22.h) = Bool.false →
  (0 : Nat) + (planTo (ptsOf (oneL a)) (ptsOf (twoL a)) (cutsOf (ptsOf (oneL a)) (ptsOf (twoL a))) a_16.fst).l.length ≤ (planTo (ptsOf (oneL a)) (ptsOf (twoL a)) (cutsOf (ptsOf (oneL a)) (ptsOf (twoL a))) a_16.fst).l.length ∧
  (1 : Nat) ≤ (1 : Nat) ∧
  ((planTo (ptsOf (oneL a)) (ptsOf (twoL a)) (cutsOf (ptsOf (oneL a)) (ptsOf (twoL a))) a_16.fst).l.length + (1 : Nat)) * (32 : Nat) ≤ (140737488355328 : Nat) ∧
  ∀ (cap : Nat), (planTo (ptsOf (oneL a)) (ptsOf (twoL a)) (cutsOf (ptsOf (oneL a)) (ptsOf (twoL a))) a_16.fst).l.length + (1 : Nat) ≤ cap →
  cap ≤ lenMax →
  ((planTo (ptsOf (oneL a)) (ptsOf (twoL a)) (cutsOf (ptsOf (oneL a)) (ptsOf (twoL a))) a_16.fst).l.length + (1 : Nat) ≤ a_16.snd →
  cap = a_16.snd) →
  InR IntKind.i64 ((↑a_16.fst : Int) + (1 : Int)) ∧
  ∃ (a' : Nat × Nat), (↑a_16.fst : Int) + (1 : Int) = (↑a'.fst : Int) ∧
  uw IntKind.u64 (gl (compL a_14.l) ((0 : Nat) + (↑a_16.fst : Int).toNat) + (1 : Int)) = (planTo (ptsOf (oneL a)) (ptsOf (twoL a)) (cutsOf (ptsOf (oneL a)) (ptsOf (twoL a))) a'.fst).from_ ∧
  ((0 : Nat) = (0 : Nat) ∧
  (planTo (ptsOf (oneL a)) (ptsOf (twoL a)) (cutsOf (ptsOf (oneL a)) (ptsOf (twoL a))) a_16.fst).l.length + (1 : Nat) = (planTo (ptsOf (oneL a)) (ptsOf (twoL a)) (cutsOf (ptsOf (oneL a)) (ptsOf (twoL a))) a'.fst).l.length ∧
  cap = a'.snd) ∧
  (↑(compL a_14.l).length : Int) = (↑(compL a_14.l).length : Int) ∧
  ((0 : Nat) = (0 : Nat) ∧
  (compL a_14.l).length = (compL a_14.l).length ∧
  a_14.cap = a_14.cap) ∧
  ((0 : Nat) = (0 : Nat) ∧
  (a_10.l1 ++ a_10.l2 ++ a_10.l3).length = (a_10.l1 ++ a_10.l2 ++ a_10.l3).length ∧
  b_4 = b_4) ∧
  Bool.false = Bool.false ∧
  (0 : Nat) = (0 : Nat) ∧
  (0 : Nat) = (0 : Nat) ∧
  ((planTo (ptsOf (oneL a)) (ptsOf (twoL a)) (cutsOf (ptsOf (oneL a)) (ptsOf (twoL a))) a'.fst).l.length ≤ (planTo (ptsOf (oneL a)) (ptsOf (twoL a)) (cutsOf (ptsOf (oneL a)) (ptsOf (twoL a))) a_16.fst).l.length + (1 : Nat) ∧
  RowsEq (planTo (ptsOf (oneL a)) (ptsOf (twoL a)) (cutsOf (ptsOf (oneL a)) (ptsOf (twoL a))) a'.fst).l.length (4 : Nat) (appRows (encRows encM (planTo (ptsOf (oneL a)) (ptsOf (twoL a)) (cutsOf (ptsOf (oneL a)) (ptsOf (twoL a))) a_16.fst).l) (0 : Nat) (planTo (ptsOf (oneL a)) (ptsOf (twoL a)) (cutsOf (ptsOf (oneL a)) (ptsOf (twoL a))) a_16.fst).l.length fun (i j : Nat) => flatRows (4 : Nat) [Value.int IntKind.u64 (planTo (ptsOf (oneL a)) (ptsOf (twoL a)) (cutsOf (ptsOf (oneL a)) (ptsOf (twoL a))) a_16.fst).from_, Value.int IntKind.u64 (gl (compL a_14.l) ((0 : Nat) + (↑a_16.fst : Int).toNat)), Value.int IntKind.i64 (ownP a_20.r.L a_20.h), Value.int IntKind.i64 (ownP a_22.r.L a_22.h)] ((0 : Nat) + i) j) (encRows encM (planTo (ptsOf (oneL a)) (ptsOf (twoL a)) (cutsOf (ptsOf (oneL a)) (ptsOf (twoL a))) a'.fst).l)) ∧
  ((compL a_14.l).length ≤ (compL a_14.l).length ∧
  RowsEq (compL a_14.l).length (1 : Nat) (encRows encU (compL a_14.l)) (encRows encU (compL a_14.l))) ∧
  a_4.e = a_4.e ∧
  ((0 : Nat) = (0 : Nat) ∧
  a_4.l.length = a_4.l.length ∧
  b_1.fst = b_1.fst) ∧
  ((0 : Nat) = (0 : Nat) ∧
  (ptsOf a_4.l).length = (ptsOf a_4.l).length ∧
  b_1.snd = b_1.snd) ∧
  (a_4.l.length ≤ a_4.l.length ∧
  RowsEq a_4.l.length (1 : Nat) (encRows encI a_4.l) (encRows encI a_4.l)) ∧
  ((ptsOf a_4.l).length ≤ (ptsOf a_4.l).length ∧
  RowsEq (ptsOf a_4.l).length (2 : Nat) (encRows encPt (ptsOf a_4.l)) (encRows encPt (ptsOf a_4.l))) ∧
  a_2.e = a_2.e ∧
  ((0 : Nat) = (0 : Nat) ∧
  a_2.l.length = a_2.l.length ∧
  b.fst = b.fst) ∧
  ((0 : Nat) = (0 : Nat) ∧
  (ptsOf a_2.l).length = (ptsOf a_2.l).length ∧
  b.snd = b.snd) ∧
  (a_2.l.length ≤ a_2.l.length ∧
  RowsEq a_2.l.length (1 : Nat) (encRows encI a_2.l) (encRows encI a_2.l)) ∧
  ((ptsOf a_2.l).length ≤ (ptsOf a_2.l).length ∧
  RowsEq (ptsOf a_2.l).length (2 : Nat) (encRows encPt (ptsOf a_2.l)) (encRows encPt (ptsOf a_2.l))) ∧
  ((1 : Nat) ≤ (1 : Nat) ∧
  RowsEq (1 : Nat) (1 : Nat) (flatRows (1 : Nat) [Value.int IntKind.i64 (1 : Int)]) (flatRows (1 : Nat) [Value.int IntKind.i64 (1 : Int)])) ∧
  ((2 : Nat) ≤ (2 : Nat) ∧
  RowsEq (2 : Nat) (1 : Nat) (flatRows (1 : Nat) [Value.int IntKind.i64 (1 : Int), Value.int IntKind.i64 (2 : Int)]) (flatRows (1 : Nat) [Value.int IntKind.i64 (1 : Int), Value.int IntKind.i64 (2 : Int)])) ∧
  a'.fst ≤ (cutsOf (ptsOf (oneL a)) (ptsOf (twoL a))).length ∧
  (cutsOf (ptsOf (oneL a)) (ptsOf (twoL a))).length - a'.fst < (cutsOf (ptsOf (oneL a)) (ptsOf (twoL a))).length - a_16.fst))) ∧
  (((gl (planTo (ptsOf (oneL a)) (ptsOf (twoL a)) (cutsOf (ptsOf (oneL a)) (ptsOf (twoL a))) a_16.fst).l ((0 : Nat) + ((↑(planTo (ptsOf (oneL a)) (ptsOf (twoL a)) (cutsOf (ptsOf (oneL a)) (ptsOf (twoL a))) a_16.fst).l.length : Int) - (1 : Int)).toNat)).s == ownP a_20.r.L a_20.h) = Bool.false →
  (0 : Nat) + (planTo (ptsOf (oneL a)) (ptsOf (twoL a)) (cutsOf (ptsOf (oneL a)) (ptsOf (twoL a))) a_16.fst).l.length ≤ (planTo (ptsOf (oneL a)) (ptsOf (twoL a)) (cutsOf (ptsOf (oneL a)) (ptsOf (twoL a))) a_16.fst).l.length ∧
  (1 : Nat) ≤ (1 : Nat) ∧
  ((planTo (ptsOf (oneL a)) (ptsOf (twoL a)) (cutsOf (ptsOf (oneL a)) (ptsOf (twoL a))) a_16.fst).l.length + (1 : Nat)) * (32 : Nat) ≤ (140737488355328 : Nat) ∧
  ∀ (cap : Nat), (planTo (ptsOf (oneL a)) (ptsOf (twoL a)) (cutsOf (ptsOf (oneL a)) (ptsOf (twoL a))) a_16.fst).l.length + (1 : Nat) ≤ cap →
  cap ≤ lenMax →
  ((planTo (ptsOf (oneL a)) (ptsOf (twoL a)) (cutsOf (ptsOf (oneL a)) (ptsOf (twoL a))) a_16.fst).l.length + (1 : Nat) ≤ a_16.snd →
  cap = a_16.snd) →
  InR IntKind.i64 ((↑a_16.fst : Int) + (1 : Int)) ∧
  ∃ (a' : Nat × Nat), (↑a_16.fst : Int) + (1 : Int) = (↑a'.fst : Int) ∧
  uw IntKind.u64 (gl (compL a_14.l) ((0 : Nat) + (↑a_16.fst : Int).toNat) + (1 : Int)) = (planTo (ptsOf (oneL a)) (ptsOf (twoL a)) (cutsOf (ptsOf (oneL a)) (ptsOf (twoL a))) a'.fst).from_ ∧
  ((0 : Nat) = (0 : Nat) ∧
  (planTo (ptsOf (oneL a)) (ptsOf (twoL a)) (cutsOf (ptsOf (oneL a)) (ptsOf (twoL a))) a_16.fst).l.length + (1 : Nat) = (planTo (ptsOf (oneL a)) (ptsOf (twoL a)) (cutsOf (ptsOf (oneL a)) (ptsOf (twoL a))) a'.fst).l.length ∧
  cap = a'.snd) ∧
  (↑(compL a_14.l).length : Int) = (↑(compL a_14.l).length : Int) ∧
  ((0 : Nat) = (0 : Nat) ∧
  (compL a_14.l).length = (compL a_14.l).length ∧
  a_14.cap = a_14.cap) ∧
  ((0 : Nat) = (0 : Nat) ∧
  (a_10.l1 ++ a_10.l2 ++ a_10.l3).length = (a_10.l1 ++ a_10.l2 ++ a_10.l3).length ∧
  b_4 = b_4) ∧
  Bool.false = Bool.false ∧
  (0 : Nat) = (0 : Nat) ∧
  (0 : Nat) = (0 : Nat) ∧
  ((planTo (ptsOf (oneL a)) (ptsOf (twoL a)) (cutsOf (ptsOf (oneL a)) (ptsOf (twoL a))) a'.fst).l.length ≤ (planTo (ptsOf (oneL a)) (ptsOf (twoL a)) (cutsOf (ptsOf (oneL a)) (ptsOf (twoL a))) a_16.fst).l.length + (1 : Nat) ∧
  RowsEq (planTo (ptsOf (oneL a)) (ptsOf (twoL a)) (cutsOf (ptsOf (oneL a)) (ptsOf (twoL a))) a'.fst).l.length (4 : Nat) (appRows (encRows encM (planTo (ptsOf (oneL a)) (ptsOf (twoL a)) (cutsOf (ptsOf (oneL a)) (ptsOf (twoL a))) a_16.fst).l) (0 : Nat) (planTo (ptsOf (oneL a)) (ptsOf (twoL a)) (cutsOf (ptsOf (oneL a)) (ptsOf (twoL a))) a_16.fst).l.length fun (i j : Nat) => flatRows (4 : Nat) [Value.int IntKind.u64 (planTo (ptsOf (oneL a)) (ptsOf (twoL a)) (cutsOf (ptsOf (oneL a)) (ptsOf (twoL a))) a_16.fst).from_, Value.int IntKind.u64 (gl (compL a_14.l) ((0 : Nat) + (↑a_16.fst : Int).toNat)), Value.int IntKind.i64 (ownP a_20.r.L a_20.h), Value.int IntKind.i64 (ownP a_22.r.L a_22.h)] ((0 : Nat) + i) j) (encRows encM (planTo (ptsOf (oneL a)) (ptsOf (twoL a)) (cutsOf (ptsOf (oneL a)) (ptsOf (twoL a))) a'.fst).l)) ∧
  ((compL a_14.l).length ≤ (compL a_14.l).length ∧
  RowsEq (compL a_14.l).length (1 : Nat) (encRows encU (compL a_14.l)) (encRows encU (compL a_14.l))) ∧
  a_4.e = a_4.e ∧
  ((0 : Nat) = (0 : Nat) ∧
  a_4.l.length = a_4.l.length ∧
  b_1.fst = b_1.fst) ∧
  ((0 : Nat) = (0 : Nat) ∧
  (ptsOf a_4.l).length = (ptsOf a_4.l).length ∧
  b_1.snd = b_1.snd) ∧
  (a_4.l.length ≤ a_4.l.length ∧
  RowsEq a_4.l.length (1 : Nat) (encRows encI a_4.l) (encRows encI a_4.l)) ∧
  ((ptsOf a_4.l).length ≤ (ptsOf a_4.l).length ∧
  RowsEq (ptsOf a_4.l).length (2 : Nat) (encRows encPt (ptsOf a_4.l)) (encRows encPt (ptsOf a_4.l))) ∧
  a_2.e = a_2.e ∧
  ((0 : Nat) = (0 : Nat) ∧
  a_2.l.length = a_2.l.length ∧
  b.fst = b.fst) ∧
  ((0 : Nat) = (0 : Nat) ∧
  (ptsOf a_2.l).length = (ptsOf a_2.l).length ∧
  b.snd = b.snd) ∧
  (a_2.l.length ≤ a_2.l.length ∧
  RowsEq a_2.l.length (1 : Nat) (encRows encI a_2.l) (encRows encI a_2.l)) ∧
  ((ptsOf a_2.l).length ≤ (ptsOf a_2.l).length ∧
  RowsEq (ptsOf a_2.l).length (2 : Nat) (encRows encPt (ptsOf a_2.l)) (encRows encPt (ptsOf a_2.l))) ∧
  ((1 : Nat) ≤ (1 : Nat) ∧
  RowsEq (1 : Nat) (1 : Nat) (flatRows (1 : Nat) [Value.int IntKind.i64 (1 : Int)]) (flatRows (1 : Nat) [Value.int IntKind.i64 (1 : Int)])) ∧
  ((2 : Nat) ≤ (2 : Nat) ∧
  RowsEq (2 : Nat) (1 : Nat) (flatRows (1 : Nat) [Value.int IntKind.i64 (1 : Int), Value.int IntKind.i64 (2 : Int)]) (flatRows (1 : Nat) [Value.int IntKind.i64 (1 : Int), Value.int IntKind.i64 (2 : Int)])) ∧
  a'.fst ≤ (cutsOf (ptsOf (oneL a)) (ptsOf (twoL a))).length ∧
  (cutsOf (ptsOf (oneL a)) (ptsOf (twoL a))).length - a'.fst < (cutsOf (ptsOf (oneL a)) (ptsOf (twoL a))).length - a_16.fst))) ∧
  ((uw IntKind.u64 ((gl (planTo (ptsOf (oneL a)) (ptsOf (twoL a)) (cutsOf (ptsOf (oneL a)) (ptsOf (twoL a))) a_16.fst).l ((0 : Nat) + ((↑(planTo (ptsOf (oneL a)) (ptsOf (twoL a)) (cutsOf (ptsOf (oneL a)) (ptsOf (twoL a))) a_16.fst).l.length : Int) - (1 : Int)).toNat)).t + (1 : Int)) == (planTo (ptsOf (oneL a)) (ptsOf (twoL a)) (cutsOf (ptsOf (oneL a)) (ptsOf (twoL a))) a_16.fst).from_) = Bool.false →
  (0 : Nat) + (planTo (ptsOf (oneL a)) (ptsOf (twoL a)) (cutsOf (ptsOf (oneL a)) (ptsOf (twoL a))) a_16.fst).l.length ≤ (planTo (ptsOf (oneL a)) (ptsOf (twoL a)) (cutsOf (ptsOf (oneL a)) (ptsOf (twoL a))) a_16.fst).l.length ∧
  (1 : Nat) ≤ (1 : Nat) ∧
  ((planTo (ptsOf (oneL a)) (ptsOf (twoL a)) (cutsOf (ptsOf (oneL a)) (ptsOf (twoL a))) a_16.fst).l.length + (1 : Nat)) * (32 : Nat) ≤ (140737488355328 : Nat) ∧
  ∀ (cap : Nat), (planTo (ptsOf (oneL a)) (ptsOf (twoL a)) (cutsOf (ptsOf (oneL a)) (ptsOf (twoL a))) a_16.fst).l.length + (1 : Nat) ≤ cap →
  cap ≤ lenMax →
  ((planTo (ptsOf (oneL a)) (ptsOf (twoL a)) (cutsOf (ptsOf (oneL a)) (ptsOf (twoL a))) a_16.fst).l.length + (1 : Nat) ≤ a_16.snd →
  cap = a_16.snd) →
  InR IntKind.i64 ((↑a_16.fst : Int) + (1 : Int)) ∧
  ∃ (a' : Nat × Nat), (↑a_16.fst : Int) + (1 : Int) = (↑a'.fst : Int) ∧
  uw IntKind.u64 (gl (compL a_14.l) ((0 : Nat) + (↑a_16.fst : Int).toNat) + (1 : Int)) = (planTo (ptsOf (oneL a)) (ptsOf (twoL a)) (cutsOf (ptsOf (oneL a)) (ptsOf (twoL a))) a'.fst).from_ ∧
  ((0 : Nat) = (0 : Nat) ∧
  (planTo (ptsOf (oneL a)) (ptsOf (twoL a)) (cutsOf (ptsOf (oneL a)) (ptsOf (twoL a))) a_16.fst).l.length + (1 : Nat) = (planTo (ptsOf (oneL a)) (ptsOf (twoL a)) (cutsOf (ptsOf (oneL a)) (ptsOf (twoL a))) a'.fst).l.length ∧
  cap = a'.snd) ∧
  (↑(compL a_14.l).length : Int) = (↑(compL a_14.l).length : Int) ∧
  ((0 : Nat) = (0 : Nat) ∧
  (compL a_14.l).length = (compL a_14.l).length ∧
  a_14.cap = a_14.cap) ∧
  ((0 : Nat) = (0 : Nat) ∧
  (a_10.l1 ++ a_10.l2 ++ a_10.l3).length = (a_10.l1 ++ a_10.l2 ++ a_10.l3).length ∧
  b_4 = b_4) ∧
  Bool.false = Bool.false ∧
  (0 : Nat) = (0 : Nat) ∧
  (0 : Nat) = (0 : Nat) ∧
  ((planTo (ptsOf (oneL a)) (ptsOf (twoL a)) (cutsOf (ptsOf (oneL a)) (ptsOf (twoL a))) a'.fst).l.length ≤ (planTo (ptsOf (oneL a)) (ptsOf (twoL a)) (cutsOf (ptsOf (oneL a)) (ptsOf (twoL a))) a_16.fst).l.length + (1 : Nat) ∧
  RowsEq (planTo (ptsOf (oneL a)) (ptsOf (twoL a)) (cutsOf (ptsOf (oneL a)) (ptsOf (twoL a))) a'.fst).l.length (4 : Nat) (appRows (encRows encM (planTo (ptsOf (oneL a)) (ptsOf (twoL a)) (cutsOf (ptsOf (oneL a)) (ptsOf (twoL a))) a_16.fst).l) (0 : Nat) (planTo (ptsOf (oneL a)) (ptsOf (twoL a)) (cutsOf (ptsOf (oneL a)) (ptsOf (twoL a))) a_16.fst).l.length fun (i j : Nat) => flatRows (4 : Nat) [Value.int IntKind.u64 (planTo (ptsOf (oneL a)) (ptsOf (twoL a)) (cutsOf (ptsOf (oneL a)) (ptsOf (twoL a))) a_16.fst).from_, Value.int IntKind.u64 (gl (compL a_14.l) ((0 : Nat) + (↑a_16.fst : Int).toNat)), Value.int IntKind.i64 (ownP a_20.r.L a_20.h), Value.int IntKind.i64 (ownP a_22.r.L a_22.h)] ((0 : Nat) + i) j) (encRows encM (planTo (ptsOf (oneL a)) (ptsOf (twoL a)) (cutsOf (ptsOf (oneL a)) (ptsOf (twoL a))) a'.fst).l)) ∧
  ((compL a_14.l).length ≤ (compL a_14.l).length ∧
  RowsEq (compL a_14.l).length (1 : Nat) (encRows encU (compL a_14.l)) (encRows encU (compL a_14.l))) ∧
  a_4.e = a_4.e ∧
  ((0 : Nat) = (0 : Nat) ∧
  a_4.l.length = a_4.l.length ∧
  b_1.fst = b_1.fst) ∧
  ((0 : Nat) = (0 : Nat) ∧
  (ptsOf a_4.l).length = (ptsOf a_4.l).length ∧
  b_1.snd = b_1.snd) ∧
  (a_4.l.length ≤ a_4.l.length ∧
  RowsEq a_4.l.length (1 : Nat) (encRows encI a_4.l) (encRows encI a_4.l)) ∧
  ((ptsOf a_4.l).length ≤ (ptsOf a_4.l).length ∧
  RowsEq (ptsOf a_4.l).length (2 : Nat) (encRows encPt (ptsOf a_4.l)) (encRows encPt (ptsOf a_4.l))) ∧
  a_2.e = a_2.e ∧
  ((0 : Nat) = (0 : Nat) ∧
  a_2.l.length = a_2.l.length ∧
  b.fst = b.fst) ∧
  ((0 : Nat) = (0 : Nat) ∧
  (ptsOf a_2.l).length = (ptsOf a_2.l).length ∧
  b.snd = b.snd) ∧
  (a_2.l.length ≤ a_2.l.length ∧
  RowsEq a_2.l.length (1 : Nat) (encRows encI a_2.l) (encRows encI a_2.l)) ∧
  ((ptsOf a_2.l).length ≤ (ptsOf a_2.l).length ∧
  RowsEq (ptsOf a_2.l).length (2 : Nat) (encRows encPt (ptsOf a_2.l)) (encRows encPt (ptsOf a_2.l))) ∧
  ((1 : Nat) ≤ (1 : Nat) ∧
  RowsEq (1 : Nat) (1 : Nat) (flatRows (1 : Nat) [Value.int IntKind.i64 (1 : Int)]) (flatRows (1 : Nat) [Value.int IntKind.i64 (1 : Int)])) ∧
  ((2 : Nat) ≤ (2 : Nat) ∧
  RowsEq (2 : Nat) (1 : Nat) (flatRows (1 : Nat) [Value.int IntKind.i64 (1 : Int), Value.int IntKind.i64 (2 : Int)]) (flatRows (1 : Nat) [Value.int IntKind.i64 (1 : Int), Value.int IntKind.i64 (2 : Int)])) ∧
  a'.fst ≤ (cutsOf (ptsOf (oneL a)) (ptsOf (twoL a))).length ∧
  (cutsOf (ptsOf (oneL a)) (ptsOf (twoL a))).length - a'.fst < (cutsOf (ptsOf (oneL a)) (ptsOf (twoL a))).length - a_16.fst))) ∧
  (Decidable.decide ((0 : Int) < (↑(planTo (ptsOf (oneL a)) (ptsOf (twoL a)) (cutsOf (ptsOf (oneL a)) (ptsOf (twoL a))) a_16.fst).l.length : Int)) = Bool.false →
  (0 : Nat) + (planTo (ptsOf (oneL a)) (ptsOf (twoL a)) (cutsOf (ptsOf (oneL a)) (ptsOf (twoL a))) a_16.fst).l.length ≤ (planTo (ptsOf (oneL a)) (ptsOf (twoL a)) (cutsOf (ptsOf (oneL a)) (ptsOf (twoL a))) a_16.fst).l.length ∧
  (1 : Nat) ≤ (1 : Nat) ∧
  ((planTo (ptsOf (oneL a)) (ptsOf (twoL a)) (cutsOf (ptsOf (oneL a)) (ptsOf (twoL a))) a_16.fst).l.length + (1 : Nat)) * (32 : Nat) ≤ (140737488355328 : Nat) ∧
  ∀ (cap : Nat), (planTo (ptsOf (oneL a)) (ptsOf (twoL a)) (cutsOf (ptsOf (oneL a)) (ptsOf (twoL a))) a_16.fst).l.length + (1 : Nat) ≤ cap →
  cap ≤ lenMax →
  ((planTo (ptsOf (oneL a)) (ptsOf (twoL a)) (cutsOf (ptsOf (oneL a)) (ptsOf (twoL a))) a_16.fst).l.length + (1 : Nat) ≤ a_16.snd →
  cap = a_16.snd) →
  InR IntKind.i64 ((↑a_16.fst : Int) + (1 : Int)) ∧
  ∃ (a' : Nat × Nat), (↑a_16.fst : Int) + (1 : Int) = (↑a'.fst : Int) ∧
  uw IntKind.u64 (gl (compL a_14.l) ((0 : Nat) + (↑a_16.fst : Int).toNat) + (1 : Int)) = (planTo (ptsOf (oneL a)) (ptsOf (twoL a)) (cutsOf (ptsOf (oneL a)) (ptsOf (twoL a))) a'.fst).from_ ∧
  ((0 : Nat) = (0 : Nat) ∧
  (planTo (ptsOf (oneL a)) (ptsOf (twoL a)) (cutsOf (ptsOf (oneL a)) (ptsOf (twoL a))) a_16.fst).l.length + (1 : Nat) = (planTo (ptsOf (oneL a)) (ptsOf (twoL a)) (cutsOf (ptsOf (oneL a)) (ptsOf (twoL a))) a'.fst).l.length ∧
  cap = a'.snd) ∧
  (↑(compL a_14.l).length : Int) = (↑(compL a_14.l).length : Int) ∧
  ((0 : Nat) = (0 : Nat) ∧
  (compL a_14.l).length = (compL a_14.l).length ∧
  a_14.cap = a_14.cap) ∧
  ((0 : Nat) = (0 : Nat) ∧
  (a_10.l1 ++ a_10.l2 ++ a_10.l3).length = (a_10.l1 ++ a_10.l2 ++ a_10.l3).length ∧
  b_4 = b_4) ∧
  Bool.false = Bool.false ∧
  (0 : Nat) = (0 : Nat) ∧
  (0 : Nat) = (0 : Nat) ∧
  ((planTo (ptsOf (oneL a)) (ptsOf (twoL a)) (cutsOf (ptsOf (oneL a)) (ptsOf (twoL a))) a'.fst).l.length ≤ (planTo (ptsOf (oneL a)) (ptsOf (twoL a)) (cutsOf (ptsOf (oneL a)) (ptsOf (twoL a))) a_16.fst).l.length + (1 : Nat) ∧
  RowsEq (planTo (ptsOf (oneL a)) (ptsOf (twoL a)) (cutsOf (ptsOf (oneL a)) (ptsOf (twoL a))) a'.fst).l.length (4 : Nat) (appRows (encRows encM (planTo (ptsOf (oneL a)) (ptsOf (twoL a)) (cutsOf (ptsOf (oneL a)) (ptsOf (twoL a))) a_16.fst).l) (0 : Nat) (planTo (ptsOf (oneL a)) (ptsOf (twoL a)) (cutsOf (ptsOf (oneL a)) (ptsOf (twoL a))) a_16.fst).l.length fun (i j : Nat) => flatRows (4 : Nat) [Value.int IntKind.u64 (planTo (ptsOf (oneL a)) (ptsOf (twoL a)) (cutsOf (ptsOf (oneL a)) (ptsOf (twoL a))) a_16.fst).from_, Value.int IntKind.u64 (gl (compL a_14.l) ((0 : Nat) + (↑a_16.fst : Int).toNat)), Value.int IntKind.i64 (ownP a_20.r.L a_20.h), Value.int IntKind.i64 (ownP a_22.r.L a_22.h)] ((0 : Nat) + i) j) (encRows encM (planTo (ptsOf (oneL a)) (ptsOf (twoL a)) (cutsOf (ptsOf (oneL a)) (ptsOf (twoL a))) a'.fst).l)) ∧
  ((compL a_14.l).length ≤ (compL a_14.l).length ∧
  RowsEq (compL a_14.l).length (1 : Nat) (encRows encU (compL a_14.l)) (encRows encU (compL a_14.l))) ∧
  a_4.e = a_4.e ∧
  ((0 : Nat) = (0 : Nat) ∧
  a_4.l.length = a_4.l.length ∧
  b_1.fst = b_1.fst) ∧
  ((0 : Nat) = (0 : Nat) ∧
  (ptsOf a_4.l).length = (ptsOf a_4.l).length ∧
  b_1.snd = b_1.snd) ∧
  (a_4.l.length ≤ a_4.l.length ∧
  RowsEq a_4.l.length (1 : Nat) (encRows encI a_4.l) (encRows encI a_4.l)) ∧
  ((ptsOf a_4.l).length ≤ (ptsOf a_4.l).length ∧
  RowsEq (ptsOf a_4.l).length (2 : Nat) (encRows encPt (ptsOf a_4.l)) (encRows encPt (ptsOf a_4.l))) ∧
  a_2.e = a_2.e ∧
  ((0 : Nat) = (0 : Nat) ∧
  a_2.l.length = a_2.l.length ∧
  b.fst = b.fst) ∧
  ((0 : Nat) = (0 : Nat) ∧
  (ptsOf a_2.l).length = (ptsOf a_2.l).length ∧
  b.snd = b.snd) ∧
  (a_2.l.length ≤ a_2.l.length ∧
  RowsEq a_2.l.length (1 : Nat) (encRows encI a_2.l) (encRows encI a_2.l)) ∧
  ((ptsOf a_2.l).length ≤ (ptsOf a_2.l).length ∧
  RowsEq (ptsOf a_2.l).length (2 : Nat) (encRows encPt (ptsOf a_2.l)) (encRows encPt (ptsOf a_2.l))) ∧
  ((1 : Nat) ≤ (1 : Nat) ∧
  RowsEq (1 : Nat) (1 : Nat) (flatRows (1 : Nat) [Value.int IntKind.i64 (1 : Int)]) (flatRows (1 : Nat) [Value.int IntKind.i64 (1 : Int)])) ∧
  ((2 : Nat) ≤ (2 : Nat) ∧
  RowsEq (2 : Nat) (1 : Nat) (flatRows (1 : Nat) [Value.int IntKind.i64 (1 : Int), Value.int IntKind.i64 (2 : Int)]) (flatRows (1 : Nat) [Value.int IntKind.i64 (1 : Int), Value.int IntKind.i64 (2 : Int)])) ∧
  a'.fst ≤ (cutsOf (ptsOf (oneL a)) (ptsOf (twoL a))).length ∧
  (cutsOf (ptsOf (oneL a)) (ptsOf (twoL a))).length - a'.fst < (cutsOf (ptsOf (oneL a)) (ptsOf (twoL a))).length - a_16.fst)))) ∧
  (Decidable.decide ((↑a_16.fst : Int) < (↑(compL a_14.l).length : Int)) = Bool.false →
  (((↑(planTo (ptsOf (oneL a)) (ptsOf (twoL a)) (cutsOf (ptsOf (oneL a)) (ptsOf (twoL a))) a_16.fst).l.length : Int) == (0 : Int)) = Bool.true →
  ∃ (a_20 : CovA), ((0 : Nat) = (0 : Nat) ∧
  (planTo (ptsOf (oneL a)) (ptsOf (twoL a)) (cutsOf (ptsOf (oneL a)) (ptsOf (twoL a))) a_16.fst).l.length = a_20.l.length ∧
  a_16.snd = a_20.cap) ∧
  (0 : Int) = a_20.h ∧
  (a_20.l.length ≤ (planTo (ptsOf (oneL a)) (ptsOf (twoL a)) (cutsOf (ptsOf (oneL a)) (ptsOf (twoL a))) a_16.fst).l.length ∧
  RowsEq a_20.l.length (4 : Nat) (encRows encM (planTo (ptsOf (oneL a)) (ptsOf (twoL a)) (cutsOf (ptsOf (oneL a)) (ptsOf (twoL a))) a_16.fst).l) (encRows encM a_20.l)) ∧
  a_20.l.length < (100000 : Nat) ∧
  ∀ (b : Unit), True →
  (Decidable.decide ((0 : Int) < (↑(planTo (ptsOf (oneL a)) (ptsOf (twoL a)) (cutsOf (ptsOf (oneL a)) (ptsOf (twoL a))) a_16.fst).l.length : Int)) = Bool.true →
  ((0 : Int) ≤ (0 : Int) ∧
  (0 : Int) < (↑(planTo (ptsOf (oneL a)) (ptsOf (twoL a)) (cutsOf (ptsOf (oneL a)) (ptsOf (twoL a))) a_16.fst).l.length : Int)) ∧
  (0 : Nat) < (planTo (ptsOf (oneL a)) (ptsOf (twoL a)) (cutsOf (ptsOf (oneL a)) (ptsOf (twoL a))) a_16.fst).l.length ∧
  (InR IntKind.i64 (gl (planTo (ptsOf (oneL a)) (ptsOf (twoL a)) (cutsOf (ptsOf (oneL a)) (ptsOf (twoL a))) a_16.fst).l (0 : Nat)).s →
  (((gl (planTo (ptsOf (oneL a)) (ptsOf (twoL a)) (cutsOf (ptsOf (oneL a)) (ptsOf (twoL a))) a_16.fst).l (0 : Nat)).s == (1 : Int)) = Bool.true →
  ((0 : Int) ≤ (0 : Int) ∧
  (0 : Int) < (↑(planTo (ptsOf (oneL a)) (ptsOf (twoL a)) (cutsOf (ptsOf (oneL a)) (ptsOf (twoL a))) a_16.fst).l.length : Int)) ∧
  (0 : Nat) < (planTo (ptsOf (oneL a)) (ptsOf (twoL a)) (cutsOf (ptsOf (oneL a)) (ptsOf (twoL a))) a_16.fst).l.length ∧
  (InR IntKind.i64 (gl (planTo (ptsOf (oneL a)) (ptsOf (twoL a)) (cutsOf (ptsOf (oneL a)) (ptsOf (twoL a))) a_16.fst).l (0 : Nat)).d →
  (((gl (planTo (ptsOf (oneL a)) (ptsOf (twoL a)) (cutsOf (ptsOf (oneL a)) (ptsOf (twoL a))) a_16.fst).l (0 : Nat)).d == (2 : Int)) = Bool.true →
  (covB a_20.l a_20.h = Bool.true →
  InR IntKind.i64 (covM a_20.l a_20.h).s →
  (((covM a_20.l a_20.h).s == (1 : Int)) = Bool.true →
  ∃ (a_30 : SideA), ((0 : Nat) = (0 : Nat) ∧
  (planTo (ptsOf (oneL a)) (ptsOf (twoL a)) (cutsOf (ptsOf (oneL a)) (ptsOf (twoL a))) a_16.fst).l.length = a_30.l.length ∧
  a_16.snd = a_30.cap) ∧
  (1 : Int) = a_30.n ∧
  (a_30.l.length ≤ (planTo (ptsOf (oneL a)) (ptsOf (twoL a)) (cutsOf (ptsOf (oneL a)) (ptsOf (twoL a))) a_16.fst).l.length ∧
  RowsEq a_30.l.length (4 : Nat) (encRows encM (planTo (ptsOf (oneL a)) (ptsOf (twoL a)) (cutsOf (ptsOf (oneL a)) (ptsOf (twoL a))) a_16.fst).l) (encRows encM a_30.l)) ∧
  a_30.l.length < (100000 : Nat) ∧
  ∀ (b : Nat), True →
  (((↑(fromL a_30.l a_30.n).length : Int) == (↑(planTo (ptsOf (oneL a)) (ptsOf (twoL a)) (cutsOf (ptsOf (oneL a)) (ptsOf (twoL a))) a_16.fst).l.length : Int)) = Bool.true →
  ∃ (a_33 : SideA), ((0 : Nat) = (0 : Nat) ∧
  (planTo (ptsOf (oneL a)) (ptsOf (twoL a)) (cutsOf (ptsOf (oneL a)) (ptsOf (twoL a))) a_16.fst).l.length = a_33.l.length ∧
  a_16.snd = a_33.cap) ∧
  (1 : Int) = a_33.n ∧
  (a_33.l.length ≤ (planTo (ptsOf (oneL a)) (ptsOf (twoL a)) (cutsOf (ptsOf (oneL a)) (ptsOf (twoL a))) a_16.fst).l.length ∧
  RowsEq a_33.l.length (4 : Nat) (encRows encM (planTo (ptsOf (oneL a)) (ptsOf (twoL a)) (cutsOf (ptsOf (oneL a)) (ptsOf (twoL a))) a_16.fst).l) (encRows encM a_33.l)) ∧
  a_33.l.length < (100000 : Nat) ∧
  ∀ (b : Nat), True →
  (((↑(toL a_33.l a_33.n).length : Int) == (0 : Int)) = Bool.true →
  ∃ (b : Unit), Bool.true = Bool.true ∧
  True ∧
  True) ∧
  (((↑(toL a_33.l a_33.n).length : Int) == (0 : Int)) = Bool.false →
  ∃ (b : Unit), Bool.false = Bool.true ∧
  True ∧
  True)) ∧
  (((↑(fromL a_30.l a_30.n).length : Int) == (↑(planTo (ptsOf (oneL a)) (ptsOf (twoL a)) (cutsOf (ptsOf (oneL a)) (ptsOf (twoL a))) a_16.fst).l.length : Int)) = Bool.false →
  ∃ (b : Unit), Bool.false = Bool.true ∧
  True ∧
  True)) ∧
  (((covM a_20.l a_20.h).s == (1 : Int)) = Bool.false →
  ∃ (b : Unit), Bool.false = Bool.true ∧
  True ∧
  True)) ∧
  (covB a_20.l a_20.h = Bool.false →
  ∃ (b : Unit), Bool.false = Bool.true ∧
  True ∧
  True)) ∧
  (((gl (planTo (ptsOf (oneL a)) (ptsOf (twoL a)) (cutsOf (ptsOf (oneL a)) (ptsOf (twoL a))) a_16.fst).l (0 : Nat)).d == (2 : Int)) = Bool.false →
  ∃ (b : Unit), Bool.false = Bool.true ∧
  True ∧
  True))) ∧
  (((gl (planTo (ptsOf (oneL a)) (ptsOf (twoL a)) (cutsOf (ptsOf (oneL a)) (ptsOf (twoL a))) a_16.fst).l (0 : Nat)).s == (1 : Int)) = Bool.false →
  ∃ (b : Unit), Bool.false = Bool.true ∧
  True ∧
  True))) ∧
  (Decidable.decide ((0 : Int) < (↑(planTo (ptsOf (oneL a)) (ptsOf (twoL a)) (cutsOf (ptsOf (oneL a)) (ptsOf (twoL a))) a_16.fst).l.length : Int)) = Bool.false →
  ∃ (b : Unit), Bool.false = Bool.true ∧
  True ∧
  True)) ∧
  (((↑(planTo (ptsOf (oneL a)) (ptsOf (twoL a)) (cutsOf (ptsOf (oneL a)) (ptsOf (twoL a))) a_16.fst).l.length : Int) == (0 : Int)) = Bool.false →
  ((0 : Int) ≤ (0 : Int) ∧
  (0 : Int) < (↑(planTo (ptsOf (oneL a)) (ptsOf (twoL a)) (cutsOf (ptsOf (oneL a)) (ptsOf (twoL a))) a_16.fst).l.length : Int)) ∧
  (0 : Nat) < (planTo (ptsOf (oneL a)) (ptsOf (twoL a)) (cutsOf (ptsOf (oneL a)) (ptsOf (twoL a))) a_16.fst).l.length ∧
  (InR IntKind.u64 (gl (planTo (ptsOf (oneL a)) (ptsOf (twoL a)) (cutsOf (ptsOf (oneL a)) (ptsOf (twoL a))) a_16.fst).l (0 : Nat)).f →
  ∃ (a_21 : CovA), ((0 : Nat) = (0 : Nat) ∧
  (planTo (ptsOf (oneL a)) (ptsOf (twoL a)) (cutsOf (ptsOf (oneL a)) (ptsOf (twoL a))) a_16.fst).l.length = a_21.l.length ∧
  a_16.snd = a_21.cap) ∧
  (gl (planTo (ptsOf (oneL a)) (ptsOf (twoL a)) (cutsOf (ptsOf (oneL a)) (ptsOf (twoL a))) a_16.fst).l (0 : Nat)).f = a_21.h ∧
  (a_21.l.length ≤ (planTo (ptsOf (oneL a)) (ptsOf (twoL a)) (cutsOf (ptsOf (oneL a)) (ptsOf (twoL a))) a_16.fst).l.length ∧
  RowsEq a_21.l.length (4 : Nat) (encRows encM (planTo (ptsOf (oneL a)) (ptsOf (twoL a)) (cutsOf (ptsOf (oneL a)) (ptsOf (twoL a))) a_16.fst).l) (encRows encM a_21.l)) ∧
  a_21.l.length < (100000 : Nat) ∧
  ∀ (b : Unit), True →
  (Decidable.decide ((0 : Int) < (↑(planTo (ptsOf (oneL a)) (ptsOf (twoL a)) (cutsOf (ptsOf (oneL a)) (ptsOf (twoL a))) a_16.fst).l.length : Int)) = Bool.true →
  ((0 : Int) ≤ (0 : Int) ∧
  (0 : Int) < (↑(planTo (ptsOf (oneL a)) (ptsOf (twoL a)) (cutsOf (ptsOf (oneL a)) (ptsOf (twoL a))) a_16.fst).l.length : Int)) ∧
  (0 : Nat) < (planTo (ptsOf (oneL a)) (ptsOf (twoL a)) (cutsOf (ptsOf (oneL a)) (ptsOf (twoL a))) a_16.fst).l.length ∧
  (InR IntKind.i64 (gl (planTo (ptsOf (oneL a)) (ptsOf (twoL a)) (cutsOf (ptsOf (oneL a)) (ptsOf (twoL a))) a_16.fst).l (0 : Nat)).s →
  (((gl (planTo (ptsOf (oneL a)) (ptsOf (twoL a)) (cutsOf (ptsOf (oneL a)) (ptsOf (twoL a))) a_16.fst).l (0 : Nat)).s == (1 : Int)) = Bool.true →
  ((0 : Int) ≤ (0 : Int) ∧
  (0 : Int) < (↑(planTo (ptsOf (oneL a)) (ptsOf (twoL a)) (cutsOf (ptsOf (oneL a)) (ptsOf (twoL a))) a_16.fst).l.length : Int)) ∧
  (0 : Nat) < (planTo (ptsOf (oneL a)) (ptsOf (twoL a)) (cutsOf (ptsOf (oneL a)) (ptsOf (twoL a))) a_16.fst).l.length ∧
  (InR IntKind.i64 (gl (planTo (ptsOf (oneL a)) (ptsOf (twoL a)) (cutsOf (ptsOf (oneL a)) (ptsOf (twoL a))) a_16.fst).l (0 : Nat)).d →
  (((gl (planTo (ptsOf (oneL a)) (ptsOf (twoL a)) (cutsOf (ptsOf (oneL a)) (ptsOf (twoL a))) a_16.fst).l (0 : Nat)).d == (2 : Int)) = Bool.true →
  (covB a_21.l a_21.h = Bool.true →
  InR IntKind.i64 (covM a_21.l a_21.h).s →
  (((covM a_21.l a_21.h).s == (1 : Int)) = Bool.true →
  ∃ (a_31 : SideA), ((0 : Nat) = (0 : Nat) ∧
  (planTo (ptsOf (oneL a)) (ptsOf (twoL a)) (cutsOf (ptsOf (oneL a)) (ptsOf (twoL a))) a_16.fst).l.length = a_31.l.length ∧
  a_16.snd = a_31.cap) ∧
  (1 : Int) = a_31.n ∧
  (a_31.l.length ≤ (planTo (ptsOf (oneL a)) (ptsOf (twoL a)) (cutsOf (ptsOf (oneL a)) (ptsOf (twoL a))) a_16.fst).l.length ∧
  RowsEq a_31.l.length (4 : Nat) (encRows encM (planTo (ptsOf (oneL a)) (ptsOf (twoL a)) (cutsOf (ptsOf (oneL a)) (ptsOf (twoL a))) a_16.fst).l) (encRows encM a_31.l)) ∧
  a_31.l.length < (100000 : Nat) ∧
  ∀ (b : Nat), True →
  (((↑(fromL a_31.l a_31.n).length : Int) == (↑(planTo (ptsOf (oneL a)) (ptsOf (twoL a)) (cutsOf (ptsOf (oneL a)) (ptsOf (twoL a))) a_16.fst).l.length : Int)) = Bool.true →
  ∃ (a_34 : SideA), ((0 : Nat) = (0 : Nat) ∧
  (planTo (ptsOf (oneL a)) (ptsOf (twoL a)) (cutsOf (ptsOf (oneL a)) (ptsOf (twoL a))) a_16.fst).l.length = a_34.l.length ∧
  a_16.snd = a_34.cap) ∧
  (1 : Int) = a_34.n ∧
  (a_34.l.length ≤ (planTo (ptsOf (oneL a)) (ptsOf (twoL a)) (cutsOf (ptsOf (oneL a)) (ptsOf (twoL a))) a_16.fst).l.length ∧
  RowsEq a_34.l.length (4 : Nat) (encRows encM (planTo (ptsOf (oneL a)) (ptsOf (twoL a)) (cutsOf (ptsOf (oneL a)) (ptsOf (twoL a))) a_16.fst).l) (encRows encM a_34.l)) ∧
  a_34.l.length < (100000 : Nat) ∧
  ∀ (b : Nat), True →
  (((↑(toL a_34.l a_34.n).length : Int) == (0 : Int)) = Bool.true →
  ∃ (b : Unit), Bool.true = Bool.true ∧
  True ∧
  True) ∧
  (((↑(toL a_34.l a_34.n).length : Int) == (0 : Int)) = Bool.false →
  ∃ (b : Unit), Bool.false = Bool.true ∧
  True ∧
  True)) ∧
  (((↑(fromL a_31.l a_31.n).length : Int) == (↑(planTo (ptsOf (oneL a)) (ptsOf (twoL a)) (cutsOf (ptsOf (oneL a)) (ptsOf (twoL a))) a_16.fst).l.length : Int)) = Bool.false →
  ∃ (b : Unit), Bool.false = Bool.true ∧
  True ∧
  True)) ∧
  (((covM a_21.l a_21.h).s == (1 : Int)) = Bool.false →
  ∃ (b : Unit), Bool.false = Bool.true ∧
  True ∧
  True)) ∧
  (covB a_21.l a_21.h = Bool.false →
  ∃ (b : Unit), Bool.false = Bool.true ∧
  True ∧
  True)) ∧
  (((gl (planTo (ptsOf (oneL a)) (ptsOf (twoL a)) (cutsOf (ptsOf (oneL a)) (ptsOf (twoL a))) a_16.fst).l (0 : Nat)).d == (2 : Int)) = Bool.false →
  ∃ (b : Unit), Bool.false = Bool.true ∧
  True ∧
  True))) ∧
  (((gl (planTo (ptsOf (oneL a)) (ptsOf (twoL a)) (cutsOf (ptsOf (oneL a)) (ptsOf (twoL a))) a_16.fst).l (0 : Nat)).s == (1 : Int)) = Bool.false →
  ∃ (b : Unit), Bool.false = Bool.true ∧
  True ∧
  True))) ∧
  (Decidable.decide ((0 : Int) < (↑(planTo (ptsOf (oneL a)) (ptsOf (twoL a)) (cutsOf (ptsOf (oneL a)) (ptsOf (twoL a))) a_16.fst).l.length : Int)) = Bool.false →
  ∃ (b : Unit), Bool.false = Bool.true ∧
  True ∧
  True))))) (by kernel_rfl) (by
  intro u _
  have e1 : oneL u = [1] := rfl
  have e2 : twoL u = [1, 2] := rfl
  have hm1 : mayN (oneL u) = true := by rw [e1]; decide
  have hm2 : mayN (twoL u) = true := by rw [e2]; decide
  have n1 : (oneL u).length = 1 := rfl
  have n2 : (twoL u).length = 2 := rfl
  have r1 : RowsEq 1 1 (flatRows 1 [Go.Value.int Go.IntKind.i64 1]) (encRows encI (oneL u)) := .of_cells fun i hi => by
    have : i = 0 := by omega
    subst this; rfl
  have r2 : RowsEq 2 1 (flatRows 1 [Go.Value.int Go.IntKind.i64 1, Go.Value.int Go.IntKind.i64 2]) (encRows encI (twoL u)) := .of_cells fun i hi => by
    have : i = 0 ∨ i = 1 := by omega
    rcases this with rfl | rfl <;> rfl
  have p1 := ptsOf_length hm1
  have p2 := ptsOf_length hm2
  have h1 : 1 ≤ (ptsOf (oneL u)).length := by omega
  have h2 : (ptsOf (oneL u)).length ≤ 100 := by omega
  have h3 : 1 ≤ (ptsOf (twoL u)).length := by omega
  have h4 : (ptsOf (twoL u)).length ≤ 100 := by omega
  have hg := plan_good (pts_in hm1) (pts_in hm2)
  have hmore := plan_more (node := 2) hm1 hm2 (by rw [e1]; decide) (fun n => by rw [e1, e2]; simp)
  have hnode := plan_nodes hm1 hm2
  refine ⟨⟨1, oneL u, 1⟩, ?_⟩
  ((repeat' apply And.intro) <;> first | with_reducible rfl | omega | (dsimp only; omega) | exact RowsEq.refl _ _ _ | assumption | rfl | trivial | exact Nat.le_refl _ | skip)
  refine fun ca _ => ⟨⟨2, twoL u, 2⟩, ?_⟩
  ((repeat' apply And.intro) <;> first | with_reducible rfl | omega | (dsimp only; omega) | exact RowsEq.refl _ _ _ | assumption | rfl | trivial | exact Nat.le_refl _ | skip)
  refine fun cb _ => ?_
  have hC := cutsOf_len (ptsOf (oneL u)) (ptsOf (twoL u))
  have m1 : ((ptsOf (oneL u)).map Prod.fst).length = (ptsOf (oneL u)).length := List.length_map _
  have m2 : ((ptsOf (twoL u)).map Prod.fst).length = (ptsOf (twoL u)).length := List.length_map _
  have mr : RowsEq 1 1 (flatRows 1 [Go.Value.int Go.IntKind.u64 18446744073709551615]) (encRows encU [maxU]) := .of_cells fun i hi => by
    have : i = 0 := by omega
    subst this; rfl
  have ml : [maxU].length = 1 := rfl
  have mc : ((ptsOf (oneL u)).map Prod.fst ++ (ptsOf (twoL u)).map Prod.fst ++ [maxU]).length = (ptsOf (oneL u)).length + (ptsOf (twoL u)).length + 1 := by
    rw [List.length_append, List.length_append, m1, m2, ml]
  have ms := sortU_length ((ptsOf (oneL u)).map Prod.fst ++ (ptsOf (twoL u)).map Prod.fst ++ [maxU])
  refine ⟨(⟨1, oneL u, ca.1, ptsOf (oneL u), ca.2⟩ : RingA), ?_⟩
  ((repeat' apply And.intro) <;> first | with_reducible rfl | omega | (dsimp only; omega) | exact RowsEq.refl _ _ _ | assumption | rfl | trivial | exact Nat.le_refl _ | skip)
  refine fun c1 _ => ⟨(⟨2, twoL u, cb.1, ptsOf (twoL u), cb.2⟩ : RingA), ?_⟩
  ((repeat' apply And.intro) <;> first | with_reducible rfl | omega | (dsimp only; omega) | exact RowsEq.refl _ _ _ | assumption | rfl | trivial | exact Nat.le_refl _ | skip)
  refine fun c2 _ => ⟨⟨(ptsOf (oneL u)).map Prod.fst, c1, (ptsOf (twoL u)).map Prod.fst, c2, [maxU], 1⟩, ?_⟩
  ((repeat' apply And.intro) <;> first | with_reducible rfl | omega | (dsimp only; omega) | exact RowsEq.refl _ _ _ | assumption | rfl | trivial | exact Nat.le_refl _ | skip)
  refine fun c3 hc3 => ⟨⟨(ptsOf (oneL u)).map Prod.fst ++ (ptsOf (twoL u)).map Prod.fst ++ [maxU], c3⟩, ?_⟩
  dsimp only at hc3
  ((repeat' apply And.intro) <;> first | with_reducible rfl | omega | (dsimp only; omega) | exact RowsEq.refl _ _ _ | assumption | rfl | trivial | exact Nat.le_refl _ | skip)
  refine fun _ _ => ⟨⟨sortU ((ptsOf (oneL u)).map Prod.fst ++ (ptsOf (twoL u)).map Prod.fst ++ [maxU]), c3⟩, ?_⟩
  ((repeat' apply And.intro) <;> first | with_reducible rfl | omega | (dsimp only; omega) | exact RowsEq.refl _ _ _ | assumption | rfl | trivial | exact Nat.le_refl _ | skip)
  dsimp only
  have eC : compL (sortU ((ptsOf (oneL u)).map Prod.fst ++ (ptsOf (twoL u)).map Prod.fst ++ [maxU])) = cutsOf (ptsOf (oneL u)) (ptsOf (twoL u)) := rfl
  rw [eC]
  clear eC ms mc ml mr hc3
  simp only [Nat.zero_add, Int.toNat_natCast, InR]
  refine fun _ _ => ⟨⟨(0, 0), ?_⟩, fun z hz => ⟨fun d1 => ?_, fun d1 => ?_⟩⟩
  · have e0 : planTo (ptsOf (oneL u)) (ptsOf (twoL u)) (cutsOf (ptsOf (oneL u)) (ptsOf (twoL u))) 0 = ⟨[], 0⟩ := rfl
    dsimp only
    rw [e0]
    ((repeat' apply And.intro) <;> first | with_reducible rfl | omega | (dsimp only; omega) | exact RowsEq.refl _ _ _ | assumption | rfl | trivial | exact Nat.le_refl _ | skip)
  · obtain ⟨i, c⟩ := z
    dsimp only at d1 hz ⊢
    simp only [decide_eq_true_eq] at d1
    have hi : i < (cutsOf (ptsOf (oneL u)) (ptsOf (twoL u))).length := by omega
    have hyl := planTo_len (ptsOf (oneL u)) (ptsOf (twoL u)) (cutsOf (ptsOf (oneL u)) (ptsOf (twoL u))) i
    have e' : planTo (ptsOf (oneL u)) (ptsOf (twoL u)) (cutsOf (ptsOf (oneL u)) (ptsOf (twoL u))) (i + 1) = stepP (ptsOf (oneL u)) (ptsOf (twoL u)) (planTo (ptsOf (oneL u)) (ptsOf (twoL u)) (cutsOf (ptsOf (oneL u)) (ptsOf (twoL u))) i) (gl (cutsOf (ptsOf (oneL u)) (ptsOf (twoL u))) i) := rfl
    generalize gl (cutsOf (ptsOf (oneL u)) (ptsOf (twoL u))) i = to at *
    generalize planTo (ptsOf (oneL u)) (ptsOf (twoL u)) (cutsOf (ptsOf (oneL u)) (ptsOf (twoL u))) i = y at *
    have el : gl y.l (y.l.length - 1) = lastM y.l := rfl
    have ej : ((y.l.length : Int) - 1).toNat = y.l.length - 1 := by omega
    rw [ej, el]
    ((repeat' apply And.intro) <;> first | with_reducible rfl | omega | (dsimp only; omega) | exact RowsEq.refl _ _ _ | assumption | rfl | trivial | exact Nat.le_refl _ | skip)
    refine fun _ => ⟨⟨(⟨1, oneL u, ca.1, ptsOf (oneL u), ca.2⟩ : RingA), to⟩, ?_⟩
    ((repeat' apply And.intro) <;> first | with_reducible rfl | omega | (dsimp only; omega) | exact RowsEq.refl _ _ _ | assumption | rfl | trivial | exact Nat.le_refl _ | skip)
    refine fun _ _ => ⟨⟨(⟨2, twoL u, cb.1, ptsOf (twoL u), cb.2⟩ : RingA), to⟩, ?_⟩
    ((repeat' apply And.intro) <;> first | with_reducible rfl | omega | (dsimp only; omega) | exact RowsEq.refl _ _ _ | assumption | rfl | trivial | exact Nat.le_refl _ | skip)
    dsimp only
    refine fun _ _ _ _ => ⟨fun d2 => ⟨by omega, (i + 1, c), ?_⟩, fun d2 => ?_⟩
    · have d2 : ownP (ptsOf (oneL u)) to = ownP (ptsOf (twoL u)) to := by simpa using d2
      have e2 : stepP (ptsOf (oneL u)) (ptsOf (twoL u)) y to = ⟨y.l, w64 (to + 1)⟩ := if_pos d2
      dsimp only
      rw [e', e2]
      ((repeat' apply And.intro) <;> first | with_reducible rfl | omega | (dsimp only; omega) | exact RowsEq.refl _ _ _ | assumption | rfl | trivial | exact Nat.le_refl _ | skip)
    have d2 : ¬ ownP (ptsOf (oneL u)) to = ownP (ptsOf (twoL u)) to := by simpa using d2
    refine ⟨fun d3 => ?_, fun d3 => ?_⟩
    · simp only [decide_eq_true_eq] at d3
      ((repeat' apply And.intro) <;> first | with_reducible rfl | omega | (dsimp only; omega) | exact RowsEq.refl _ _ _ | assumption | rfl | trivial | exact Nat.le_refl _ | skip)
      refine fun _ _ => ⟨fun d4 => ?_, fun d4 => ?_⟩
      · have d4 : w64 ((lastM y.l).t + 1) = y.from_ := by simpa [w64] using d4
        ((repeat' apply And.intro) <;> first | with_reducible rfl | omega | (dsimp only; omega) | exact RowsEq.refl _ _ _ | assumption | rfl | trivial | exact Nat.le_refl _ | skip)
        refine fun _ _ => ⟨fun d5 => ?_, fun d5 => ?_⟩
        · have d5 : (lastM y.l).s = ownP (ptsOf (oneL u)) to := by simpa using d5
          ((repeat' apply And.intro) <;> first | with_reducible rfl | omega | (dsimp only; omega) | exact RowsEq.refl _ _ _ | assumption | rfl | trivial | exact Nat.le_refl _ | skip)
          refine fun _ _ => ⟨fun d6 => ?_, fun d6 => ?_⟩
          · have d6 : (lastM y.l).d = ownP (ptsOf (twoL u)) to := by simpa using d6
            have e2 : stepP (ptsOf (oneL u)) (ptsOf (twoL u)) y to = ⟨y.l.set (y.l.length - 1) ⟨(lastM y.l).f, to, (lastM y.l).s, (lastM y.l).d⟩, w64 (to + 1)⟩ := by
              unfold stepP
              rw [if_neg d2, if_pos (show joins (ptsOf (oneL u)) (ptsOf (twoL u)) y to from ⟨by omega, d4, d5, d6⟩)]
            ((repeat' apply And.intro) <;> first | with_reducible rfl | omega | (dsimp only; omega) | exact RowsEq.refl _ _ _ | assumption | rfl | trivial | exact Nat.le_refl _ | skip)
            refine ⟨(i + 1, c), ?_⟩
            dsimp only
            rw [e', e2]
            dsimp only
            have hn1 : (y.l.set (y.l.length - 1) (⟨(lastM y.l).f, to, (lastM y.l).s, (lastM y.l).d⟩ : MvR)).length = y.l.length := List.length_set
            have r1 : RowsEq y.l.length 4 (updR (encRows encM y.l) (y.l.length - 1) 1 [Go.Value.int Go.IntKind.u64 to]) (encRows encM (y.l.set (y.l.length - 1) (⟨(lastM y.l).f, to, (lastM y.l).s, (lastM y.l).d⟩ : MvR))) := by
              refine .set _ (by omega) (fun k hk => by simp only [updR_other hk]) ?_
              simp only [updR_self]; rfl
            rw [hn1]
            ((repeat' apply And.intro) <;> first | with_reducible rfl | omega | (dsimp only; omega) | exact RowsEq.refl _ _ _ | assumption | rfl | trivial | exact Nat.le_refl _ | skip)
          · have d6 : ¬ (lastM y.l).d = ownP (ptsOf (twoL u)) to := by simpa using d6
            have e2 : stepP (ptsOf (oneL u)) (ptsOf (twoL u)) y to = ⟨y.l ++ [⟨y.from_, to, ownP (ptsOf (oneL u)) to, ownP (ptsOf (twoL u)) to⟩], w64 (to + 1)⟩ := by
              unfold stepP
              rw [if_neg d2, if_neg (fun g => d6 g.2.2.2)]
            have hn1 : (y.l ++ [(⟨y.from_, to, ownP (ptsOf (oneL u)) to, ownP (ptsOf (twoL u)) to⟩ : MvR)]).length = y.l.length + 1 := by simp
            ((repeat' apply And.intro) <;> first | with_reducible rfl | omega | (dsimp only; omega) | exact RowsEq.refl _ _ _ | assumption | rfl | trivial | exact Nat.le_refl _ | skip)
            refine fun c3 _ _ _ => ⟨by omega, (i + 1, c3), ?_⟩
            dsimp only
            rw [e', e2]
            dsimp only
            rw [hn1]
            ((repeat' apply And.intro) <;> first | with_reducible rfl | omega | (dsimp only; omega) | exact RowsEq.refl _ _ _ | exact .push rfl (by omega) rfl | rfl | trivial)
        · have d5 : ¬ (lastM y.l).s = ownP (ptsOf (oneL u)) to := by simpa using d5
          have e2 : stepP (ptsOf (oneL u)) (ptsOf (twoL u)) y to = ⟨y.l ++ [⟨y.from_, to, ownP (ptsOf (oneL u)) to, ownP (ptsOf (twoL u)) to⟩], w64 (to + 1)⟩ := by
            unfold stepP
            rw [if_neg d2, if_neg (fun g => d5 g.2.2.1)]
          have hn1 : (y.l ++ [(⟨y.from_, to, ownP (ptsOf (oneL u)) to, ownP (ptsOf (twoL u)) to⟩ : MvR)]).length = y.l.length + 1 := by simp
          ((repeat' apply And.intro) <;> first | with_reducible rfl | omega | (dsimp only; omega) | exact RowsEq.refl _ _ _ | assumption | rfl | trivial | exact Nat.le_refl _ | skip)
          refine fun c3 _ _ _ => ⟨by omega, (i + 1, c3), ?_⟩
          dsimp only
          rw [e', e2]
          dsimp only
          rw [hn1]
          ((repeat' apply And.intro) <;> first | with_reducible rfl | omega | (dsimp only; omega) | exact RowsEq.refl _ _ _ | exact .push rfl (by omega) rfl | rfl | trivial)
      · have d4 : ¬ w64 ((lastM y.l).t + 1) = y.from_ := by simpa [w64] using d4
        have e2 : stepP (ptsOf (oneL u)) (ptsOf (twoL u)) y to = ⟨y.l ++ [⟨y.from_, to, ownP (ptsOf (oneL u)) to, ownP (ptsOf (twoL u)) to⟩], w64 (to + 1)⟩ := by
          unfold stepP
          rw [if_neg d2, if_neg (fun g => d4 g.2.1)]
        have hn1 : (y.l ++ [(⟨y.from_, to, ownP (ptsOf (oneL u)) to, ownP (ptsOf (twoL u)) to⟩ : MvR)]).length = y.l.length + 1 := by simp
        ((repeat' apply And.intro) <;> first | with_reducible rfl | omega | (dsimp only; omega) | exact RowsEq.refl _ _ _ | assumption | rfl | trivial | exact Nat.le_refl _ | skip)
        refine fun c3 _ _ _ => ⟨by omega, (i + 1, c3), ?_⟩
        dsimp only
        rw [e', e2]
        dsimp only
        rw [hn1]
        ((repeat' apply And.intro) <;> first | with_reducible rfl | omega | (dsimp only; omega) | exact RowsEq.refl _ _ _ | exact .push rfl (by omega) rfl | rfl | trivial)
    · simp only [decide_eq_false_iff_not] at d3
      have e2 : stepP (ptsOf (oneL u)) (ptsOf (twoL u)) y to = ⟨y.l ++ [⟨y.from_, to, ownP (ptsOf (oneL u)) to, ownP (ptsOf (twoL u)) to⟩], w64 (to + 1)⟩ := by
        unfold stepP
        rw [if_neg d2, if_neg (fun g => d3 (by have := g.1; omega))]
      have hn1 : (y.l ++ [(⟨y.from_, to, ownP (ptsOf (oneL u)) to, ownP (ptsOf (twoL u)) to⟩ : MvR)]).length = y.l.length + 1 := by simp
      ((repeat' apply And.intro) <;> first | with_reducible rfl | omega | (dsimp only; omega) | exact RowsEq.refl _ _ _ | assumption | rfl | trivial | exact Nat.le_refl _ | skip)
      refine fun c3 _ _ _ => ⟨by omega, (i + 1, c3), ?_⟩
      dsimp only
      rw [e', e2]
      dsimp only
      rw [hn1]
      ((repeat' apply And.intro) <;> first | with_reducible rfl | omega | (dsimp only; omega) | exact RowsEq.refl _ _ _ | exact .push rfl (by omega) rfl | rfl | trivial)
  · obtain ⟨i, c⟩ := z
    dsimp only at d1 hz ⊢
    simp only [decide_eq_false_iff_not] at d1
    have hi : i = (cutsOf (ptsOf (oneL u)) (ptsOf (twoL u))).length := by omega
    subst hi
    have hl : (planTo (ptsOf (oneL u)) (ptsOf (twoL u)) (cutsOf (ptsOf (oneL u)) (ptsOf (twoL u))) (cutsOf (ptsOf (oneL u)) (ptsOf (twoL u))).length).l = planL (ptsOf (oneL u)) (ptsOf (twoL u)) := rfl
    have hll := planTo_len (ptsOf (oneL u)) (ptsOf (twoL u)) (cutsOf (ptsOf (oneL u)) (ptsOf (twoL u))) (cutsOf (ptsOf (oneL u)) (ptsOf (twoL u))).length
    rw [hl] at hll ⊢
    generalize planL (ptsOf (oneL u)) (ptsOf (twoL u)) = l at *
    have h0 := hmore.1
    have hs : ∀ x ∈ l, x.s = 1 := fun x hx => by have := (hnode x hx).1; rw [e1] at this; simpa using this
    have hf := hg.le 0 h0
    have hfind : l.find? (inM (gl l 0).f) = some (gl l 0) := by
      cases l with
      | nil => simp at h0
      | cons a r =>
        rw [List.find?_cons]
        have : inM (gl (a :: r) 0).f a = true := inM_iff.2 ⟨Int.le_refl _, hf.2.1⟩
        rw [this]; rfl
    obtain ⟨v1, v2⟩ := cov_some hfind
    have s0 := hs _ (gl_mem h0)
    have d0 := hmore.2 _ (gl_mem h0)
    have w1 : fromL l 1 = l := List.filter_eq_self.2 fun x hx => by simpa using hs x hx
    have w2 : toL l 1 = [] := List.filter_eq_nil_iff.2 fun x hx => by have := hmore.2 x hx; simp [this]
    refine ⟨fun g => (by exfalso; simp only [beq_iff_eq] at g; omega), fun _ => ?_⟩
    ((repeat' apply And.intro) <;> first | with_reducible rfl | omega | (dsimp only; omega) | exact RowsEq.refl _ _ _ | assumption | rfl | trivial | exact Nat.le_refl _ | skip)
    refine fun _ => ⟨⟨l, c, (gl l 0).f⟩, ?_⟩
    ((repeat' apply And.intro) <;> first | with_reducible rfl | omega | (dsimp only; omega) | exact RowsEq.refl _ _ _ | assumption | rfl | trivial | exact Nat.le_refl _ | skip)
    dsimp only
    rw [v1, v2, s0, d0]
    refine fun _ _ => ⟨fun _ => ?_, fun g => (by exfalso; simp only [decide_eq_false_iff_not] at g; omega)⟩
    ((repeat' apply And.intro) <;> first | with_reducible rfl | omega | (dsimp only; omega) | exact RowsEq.refl _ _ _ | assumption | rfl | trivial | exact Nat.le_refl _ | skip)
    refine fun _ => ⟨fun _ => ?_, fun g => (by simp at g)⟩
    ((repeat' apply And.intro) <;> first | with_reducible rfl | omega | (dsimp only; omega) | exact RowsEq.refl _ _ _ | assumption | rfl | trivial | exact Nat.le_refl _ | skip)
    refine fun _ => ⟨fun _ => ⟨fun _ _ => ⟨fun _ => ⟨⟨l, c, 1⟩, ?_⟩, fun g => (by simp at g)⟩, fun g => (by simp at g)⟩, fun g => (by simp at g)⟩
    ((repeat' apply And.intro) <;> first | with_reducible rfl | omega | (dsimp only; omega) | exact RowsEq.refl _ _ _ | assumption | rfl | trivial | exact Nat.le_refl _ | skip)
    dsimp only
    rw [w1]
    refine fun _ _ => ⟨fun _ => ⟨⟨l, c, 1⟩, ?_⟩, fun g => (by simp at g)⟩
    ((repeat' apply And.intro) <;> first | with_reducible rfl | omega | (dsimp only; omega) | exact RowsEq.refl _ _ _ | assumption | rfl | trivial | exact Nat.le_refl _ | skip)
    dsimp only
    rw [w2]
    exact fun _ _ => ⟨fun _ => ⟨(), trivial, trivial, trivial⟩, fun g => (by simp at g)⟩)
theorem callBegun : CallsBy (Y Try.prog).G.X 9 cBegun := fn_ok okY tabBeg_ok bodyBegun

/-! ### the statements' functions -/

structure TwoA where
  a : Int
  b : Int
noncomputable def cTwo : Con where
  α := TwoA
  β := Unit
  m := 0
  m' := 0
  pre := fun _ => True
  args := fun a => [.a (.int .i64 a.a), .a (.int .i64 a.b)]
  hp := fun _ => []
  ro := fun _ => []
  post := fun _ _ => True
  res := fun _ _ => .a .tt
  hp' := fun _ _ => []
noncomputable def tabPl : List (Nat × Con) := [(9, cBegun), (10, cBits), (12, cNew), (11, cPlan), (14, cCov), (16, cSide fromL), (17, cSide toL), (13, cROwner), (18, cHas), (15, cPoint)]
theorem tabPl_ok : TabOk (Y Try.prog).G.X tabPl := ⟨callBegun, callBits, callNew, callPlan, callCov, callFrom, callTo, callROwner, callHas, callRPoint, trivial⟩
noncomputable def plB (a : TwoA) : List MvR := planL (ptsOf (bitsTo a.a 5)) (ptsOf (bitsTo a.b 5))
noncomputable def iBack (a : TwoA) : An := .flat 11 Nat (fun s i => s.int 10 i) (fun _ i => i ≤ (plB a).length) (fun _ i => (plB a).length - i)
set_option maxHeartbeats 4000000 in
theorem bodyBack : fnBody (Y Try.prog) tabPl 6 cTwo fun a => [(6, [iBack a], [])] := fnBody.of (p :=
  ∀ (a : TwoA), True →
  ∃ (a_2 : Unit), True ∧
  ∀ (b : Unit), True →
  ∃ (a_4 : Int), a.a = a_4 ∧
  True ∧
  ∀ (b : Nat), True →
  ∃ (a_6 : Int), a.b = a_6 ∧
  True ∧
  ∀ (b_1 : Nat), True →
  (((↑(bitsTo a_4 (5 : Nat)).length : Int) == (0 : Int)) = Bool.true →
  ∃ (b : Unit), Bool.true = Bool.true ∧
  True ∧
  True) ∧
  (((↑(bitsTo a_4 (5 : Nat)).length : Int) == (0 : Int)) = Bool.false →
  (((↑(bitsTo a_6 (5 : Nat)).length : Int) == (0 : Int)) = Bool.true →
  ∃ (b : Unit), Bool.true = Bool.true ∧
  True ∧
  True) ∧
  (((↑(bitsTo a_6 (5 : Nat)).length : Int) == (0 : Int)) = Bool.false →
  ∃ (a_10 : NewA), (1 : Int) = a_10.e ∧
  ((0 : Nat) = (0 : Nat) ∧
  (bitsTo a_4 (5 : Nat)).length = a_10.l.length ∧
  b = a_10.cap) ∧
  (a_10.l.length ≤ (bitsTo a_4 (5 : Nat)).length ∧
  RowsEq a_10.l.length (1 : Nat) (encRows encI (bitsTo a_4 (5 : Nat))) (encRows encI a_10.l)) ∧
  ((1 : Int) ≤ a_10.e ∧
  a_10.e ≤ (1099511627776 : Int) ∧
  mayN a_10.l = Bool.true) ∧
  ∀ (b_2 : Nat × Nat), True →
  ∃ (a_12 : NewA), (2 : Int) = a_12.e ∧
  ((0 : Nat) = (0 : Nat) ∧
  (bitsTo a_6 (5 : Nat)).length = a_12.l.length ∧
  b_1 = a_12.cap) ∧
  (a_12.l.length ≤ (bitsTo a_6 (5 : Nat)).length ∧
  RowsEq a_12.l.length (1 : Nat) (encRows encI (bitsTo a_6 (5 : Nat))) (encRows encI a_12.l)) ∧
  ((1 : Int) ≤ a_12.e ∧
  a_12.e ≤ (1099511627776 : Int) ∧
  mayN a_12.l = Bool.true) ∧
  ∀ (b_3 : Nat × Nat), True →
  ∃ (a_14 : PlanA), (0 : Nat) = (0 : Nat) ∧
  (0 : Nat) = (0 : Nat) ∧
  a_10.e = a_14.a.e ∧
  ((0 : Nat) = (0 : Nat) ∧
  a_10.l.length = a_14.a.l.length ∧
  b_2.fst = a_14.a.c1) ∧
  ((0 : Nat) = (0 : Nat) ∧
  (ptsOf a_10.l).length = a_14.a.L.length ∧
  b_2.snd = a_14.a.c2) ∧
  (a_14.a.l.length ≤ a_10.l.length ∧
  RowsEq a_14.a.l.length (1 : Nat) (encRows encI a_10.l) (encRows encI a_14.a.l)) ∧
  (a_14.a.L.length ≤ (ptsOf a_10.l).length ∧
  RowsEq a_14.a.L.length (2 : Nat) (encRows encPt (ptsOf a_10.l)) (encRows encPt a_14.a.L)) ∧
  a_12.e = a_14.b.e ∧
  ((0 : Nat) = (0 : Nat) ∧
  a_12.l.length = a_14.b.l.length ∧
  b_3.fst = a_14.b.c1) ∧
  ((0 : Nat) = (0 : Nat) ∧
  (ptsOf a_12.l).length = a_14.b.L.length ∧
  b_3.snd = a_14.b.c2) ∧
  (a_14.b.l.length ≤ a_12.l.length ∧
  RowsEq a_14.b.l.length (1 : Nat) (encRows encI a_12.l) (encRows encI a_14.b.l)) ∧
  (a_14.b.L.length ≤ (ptsOf a_12.l).length ∧
  RowsEq a_14.b.L.length (2 : Nat) (encRows encPt (ptsOf a_12.l)) (encRows encPt a_14.b.L)) ∧
  ((1 : Nat) ≤ a_14.a.L.length ∧
  a_14.a.L.length ≤ (100 : Nat) ∧
  (1 : Nat) ≤ a_14.b.L.length ∧
  a_14.b.L.length ≤ (100 : Nat)) ∧
  ∀ (b_4 : Nat), True →
  ∃ (a_16 : NewA), (1 : Int) = a_16.e ∧
  ((0 : Nat) = (0 : Nat) ∧
  (bitsTo a_6 (5 : Nat)).length = a_16.l.length ∧
  b_1 = a_16.cap) ∧
  (a_16.l.length ≤ (bitsTo a_6 (5 : Nat)).length ∧
  RowsEq a_16.l.length (1 : Nat) (encRows encI (bitsTo a_6 (5 : Nat))) (encRows encI a_16.l)) ∧
  ((1 : Int) ≤ a_16.e ∧
  a_16.e ≤ (1099511627776 : Int) ∧
  mayN a_16.l = Bool.true) ∧
  ∀ (b_5 : Nat × Nat), True →
  ∃ (a_18 : NewA), (2 : Int) = a_18.e ∧
  ((0 : Nat) = (0 : Nat) ∧
  (bitsTo a_4 (5 : Nat)).length = a_18.l.length ∧
  b = a_18.cap) ∧
  (a_18.l.length ≤ (bitsTo a_4 (5 : Nat)).length ∧
  RowsEq a_18.l.length (1 : Nat) (encRows encI (bitsTo a_4 (5 : Nat))) (encRows encI a_18.l)) ∧
  ((1 : Int) ≤ a_18.e ∧
  a_18.e ≤ (1099511627776 : Int) ∧
  mayN a_18.l = Bool.true) ∧
  ∀ (b_6 : Nat × Nat), True →
  ∃ (a_20 : PlanA), (0 : Nat) = (0 : Nat) ∧
  (0 : Nat) = (0 : Nat) ∧
  a_16.e = a_20.a.e ∧
  ((0 : Nat) = (0 : Nat) ∧
  a_16.l.length = a_20.a.l.length ∧
  b_5.fst = a_20.a.c1) ∧
  ((0 : Nat) = (0 : Nat) ∧
  (ptsOf a_16.l).length = a_20.a.L.length ∧
  b_5.snd = a_20.a.c2) ∧
  (a_20.a.l.length ≤ a_16.l.length ∧
  RowsEq a_20.a.l.length (1 : Nat) (encRows encI a_16.l) (encRows encI a_20.a.l)) ∧
  (a_20.a.L.length ≤ (ptsOf a_16.l).length ∧
  RowsEq a_20.a.L.length (2 : Nat) (encRows encPt (ptsOf a_16.l)) (encRows encPt a_20.a.L)) ∧
  a_18.e = a_20.b.e ∧
  ((0 : Nat) = (0 : Nat) ∧
  a_18.l.length = a_20.b.l.length ∧
  b_6.fst = a_20.b.c1) ∧
  ((0 : Nat) = (0 : Nat) ∧
  (ptsOf a_18.l).length = a_20.b.L.length ∧
  b_6.snd = a_20.b.c2) ∧
  (a_20.b.l.length ≤ a_18.l.length ∧
  RowsEq a_20.b.l.length (1 : Nat) (encRows encI a_18.l) (encRows encI a_20.b.l)) ∧
  (a_20.b.L.length ≤ (ptsOf a_18.l).length ∧
  RowsEq a_20.b.L.length (2 : Nat) (encRows encPt (ptsOf a_18.l)) (encRows encPt a_20.b.L)) ∧
  ((1 : Nat) ≤ a_20.a.L.length ∧
  a_20.a.L.length ≤ (100 : Nat) ∧
  (1 : Nat) ≤ a_20.b.L.length ∧
  a_20.b.L.length ≤ (100 : Nat)) ∧
  ∀ (b_7 : Nat), True →
  (((↑(planL a_14.a.L a_14.b.L).length : Int) != (↑(planL a_20.a.L a_20.b.L).length : Int)) = Bool.true →
  ∃ (b : Unit), Bool.false = Bool.true ∧
  True ∧
  True) ∧
  (((↑(planL a_14.a.L a_14.b.L).length : Int) != (↑(planL a_20.a.L a_20.b.L).length : Int)) = Bool.false →
  (∃ (a_23 : Nat), (0 : Int) = (↑a_23 : Int) ∧
  ((↑(planL a_14.a.L a_14.b.L).length : Int) != (↑(planL a_20.a.L a_20.b.L).length : Int)) = ((↑(planL a_14.a.L a_14.b.L).length : Int) != (↑(planL a_20.a.L a_20.b.L).length : Int)) ∧
  ((0 : Nat) = (0 : Nat) ∧
  (planL a_20.a.L a_20.b.L).length = (planL a_20.a.L a_20.b.L).length ∧
  b_7 = b_7) ∧
  ((0 : Nat) = (0 : Nat) ∧
  (planL a_14.a.L a_14.b.L).length = (planL a_14.a.L a_14.b.L).length ∧
  b_4 = b_4) ∧
  ((↑(bitsTo a_6 (5 : Nat)).length : Int) == (0 : Int)) = ((↑(bitsTo a_6 (5 : Nat)).length : Int) == (0 : Int)) ∧
  ((0 : Nat) = (0 : Nat) ∧
  (bitsTo a_6 (5 : Nat)).length = (bitsTo a_6 (5 : Nat)).length ∧
  b_1 = b_1) ∧
  ((0 : Nat) = (0 : Nat) ∧
  (bitsTo a_4 (5 : Nat)).length = (bitsTo a_4 (5 : Nat)).length ∧
  b = b) ∧
  Bool.false = Bool.false ∧
  Bool.true = Bool.true ∧
  Bool.false = Bool.false ∧
  a.a = a.a ∧
  a.b = a.b ∧
  ((planL a_20.a.L a_20.b.L).length ≤ (planL a_20.a.L a_20.b.L).length ∧
  RowsEq (planL a_20.a.L a_20.b.L).length (4 : Nat) (encRows encM (planL a_20.a.L a_20.b.L)) (encRows encM (planL a_20.a.L a_20.b.L))) ∧
  ((planL a_14.a.L a_14.b.L).length ≤ (planL a_14.a.L a_14.b.L).length ∧
  RowsEq (planL a_14.a.L a_14.b.L).length (4 : Nat) (encRows encM (planL a_14.a.L a_14.b.L)) (encRows encM (planL a_14.a.L a_14.b.L))) ∧
  ((bitsTo a_6 (5 : Nat)).length ≤ (bitsTo a_6 (5 : Nat)).length ∧
  RowsEq (bitsTo a_6 (5 : Nat)).length (1 : Nat) (encRows encI (bitsTo a_6 (5 : Nat))) (encRows encI (bitsTo a_6 (5 : Nat)))) ∧
  ((bitsTo a_4 (5 : Nat)).length ≤ (bitsTo a_4 (5 : Nat)).length ∧
  RowsEq (bitsTo a_4 (5 : Nat)).length (1 : Nat) (encRows encI (bitsTo a_4 (5 : Nat))) (encRows encI (bitsTo a_4 (5 : Nat)))) ∧
  a_23 ≤ (plB a).length ∧
  True) ∧
  ∀ (a_23 : Nat), a_23 ≤ (plB a).length →
  (Decidable.decide ((↑a_23 : Int) < (↑(planL a_14.a.L a_14.b.L).length : Int)) = Bool.true →
  ((0 : Int) ≤ (↑a_23 : Int) ∧
  (↑a_23 : Int) < (↑(planL a_14.a.L a_14.b.L).length : Int)) ∧
  (0 : Nat) + (↑a_23 : Int).toNat < (planL a_14.a.L a_14.b.L).length ∧
  (InR IntKind.u64 (gl (planL a_14.a.L a_14.b.L) ((0 : Nat) + (↑a_23 : Int).toNat)).f →
  ((0 : Int) ≤ (↑a_23 : Int) ∧
  (↑a_23 : Int) < (↑(planL a_20.a.L a_20.b.L).length : Int)) ∧
  (0 : Nat) + (↑a_23 : Int).toNat < (planL a_20.a.L a_20.b.L).length ∧
  (InR IntKind.u64 (gl (planL a_20.a.L a_20.b.L) ((0 : Nat) + (↑a_23 : Int).toNat)).f →
  (((gl (planL a_14.a.L a_14.b.L) ((0 : Nat) + (↑a_23 : Int).toNat)).f != (gl (planL a_20.a.L a_20.b.L) ((0 : Nat) + (↑a_23 : Int).toNat)).f) = Bool.true →
  ∃ (b : Unit), Bool.false = Bool.true ∧
  True ∧
  True) ∧
  (((gl (planL a_14.a.L a_14.b.L) ((0 : Nat) + (↑a_23 : Int).toNat)).f != (gl (planL a_20.a.L a_20.b.L) ((0 : Nat) + (↑a_23 : Int).toNat)).f) = Bool.false →
  ((0 : Int) ≤ (↑a_23 : Int) ∧
  (↑a_23 : Int) < (↑(planL a_14.a.L a_14.b.L).length : Int)) ∧
  (0 : Nat) + (↑a_23 : Int).toNat < (planL a_14.a.L a_14.b.L).length ∧
  (InR IntKind.u64 (gl (planL a_14.a.L a_14.b.L) ((0 : Nat) + (↑a_23 : Int).toNat)).t →
  ((0 : Int) ≤ (↑a_23 : Int) ∧
  (↑a_23 : Int) < (↑(planL a_20.a.L a_20.b.L).length : Int)) ∧
  (0 : Nat) + (↑a_23 : Int).toNat < (planL a_20.a.L a_20.b.L).length ∧
  (InR IntKind.u64 (gl (planL a_20.a.L a_20.b.L) ((0 : Nat) + (↑a_23 : Int).toNat)).t →
  (((gl (planL a_14.a.L a_14.b.L) ((0 : Nat) + (↑a_23 : Int).toNat)).t != (gl (planL a_20.a.L a_20.b.L) ((0 : Nat) + (↑a_23 : Int).toNat)).t) = Bool.true →
  ∃ (b : Unit), Bool.false = Bool.true ∧
  True ∧
  True) ∧
  (((gl (planL a_14.a.L a_14.b.L) ((0 : Nat) + (↑a_23 : Int).toNat)).t != (gl (planL a_20.a.L a_20.b.L) ((0 : Nat) + (↑a_23 : Int).toNat)).t) = Bool.false →
  ((0 : Int) ≤ (↑a_23 : Int) ∧
  (↑a_23 : Int) < (↑(planL a_14.a.L a_14.b.L).length : Int)) ∧
  (0 : Nat) + (↑a_23 : Int).toNat < (planL a_14.a.L a_14.b.L).length ∧
  (InR IntKind.i64 (gl (planL a_14.a.L a_14.b.L) ((0 : Nat) + (↑a_23 : Int).toNat)).s →
  ((0 : Int) ≤ (↑a_23 : Int) ∧
  (↑a_23 : Int) < (↑(planL a_20.a.L a_20.b.L).length : Int)) ∧
  (0 : Nat) + (↑a_23 : Int).toNat < (planL a_20.a.L a_20.b.L).length ∧
  (InR IntKind.i64 (gl (planL a_20.a.L a_20.b.L) ((0 : Nat) + (↑a_23 : Int).toNat)).d →
  (((gl (planL a_14.a.L a_14.b.L) ((0 : Nat) + (↑a_23 : Int).toNat)).s != (gl (planL a_20.a.L a_20.b.L) ((0 : Nat) + (↑a_23 : Int).toNat)).d) = Bool.true →
  ∃ (b : Unit), Bool.false = Bool.true ∧
  True ∧
  True) ∧
  (((gl (planL a_14.a.L a_14.b.L) ((0 : Nat) + (↑a_23 : Int).toNat)).s != (gl (planL a_20.a.L a_20.b.L) ((0 : Nat) + (↑a_23 : Int).toNat)).d) = Bool.false →
  ((0 : Int) ≤ (↑a_23 : Int) ∧
  (↑a_23 : Int) < (↑(planL a_14.a.L a_14.b.L).length : Int)) ∧
  (0 : Nat) + (↑a_23 : Int).toNat < (planL a_14.a.L a_14.b.L).length ∧
  (InR IntKind.i64 (gl (planL a_14.a.L a_14.b.L) ((0 : Nat) + (↑a_23 : Int).toNat)).d →
  ((0 : Int) ≤ (↑a_23 : Int) ∧
  (↑a_23 : Int) < (↑(planL a_20.a.L a_20.b.L).length : Int)) ∧
  (0 : Nat) + (↑a_23 : Int).toNat < (planL a_20.a.L a_20.b.L).length ∧
  (InR IntKind.i64 (gl (planL a_20.a.L a_20.b.L) ((0 : Nat) + (↑a_23 : Int).toNat)).s →
  (((gl (planL a_14.a.L a_14.b.L) ((0 : Nat) + (↑a_23 : Int).toNat)).d != (gl (planL a_20.a.L a_20.b.L) ((0 : Nat) + (↑a_23 : Int).toNat)).s) = Bool.true →
  ∃ (b : Unit), Bool.false = Bool.true ∧
  True ∧
  True) ∧
  (((gl (planL a_14.a.L a_14.b.L) ((0 : Nat) + (↑a_23 : Int).toNat)).d != (gl (planL a_20.a.L a_20.b.L) ((0 : Nat) + (↑a_23 : Int).toNat)).s) = Bool.false →
  InR IntKind.i64 ((↑a_23 : Int) + (1 : Int)) ∧
  ∃ (a' : Nat), (↑a_23 : Int) + (1 : Int) = (↑a' : Int) ∧
  ((↑(planL a_14.a.L a_14.b.L).length : Int) != (↑(planL a_20.a.L a_20.b.L).length : Int)) = ((↑(planL a_14.a.L a_14.b.L).length : Int) != (↑(planL a_20.a.L a_20.b.L).length : Int)) ∧
  ((0 : Nat) = (0 : Nat) ∧
  (planL a_20.a.L a_20.b.L).length = (planL a_20.a.L a_20.b.L).length ∧
  b_7 = b_7) ∧
  ((0 : Nat) = (0 : Nat) ∧
  (planL a_14.a.L a_14.b.L).length = (planL a_14.a.L a_14.b.L).length ∧
  b_4 = b_4) ∧
  ((↑(bitsTo a_6 (5 : Nat)).length : Int) == (0 : Int)) = ((↑(bitsTo a_6 (5 : Nat)).length : Int) == (0 : Int)) ∧
  ((0 : Nat) = (0 : Nat) ∧
  (bitsTo a_6 (5 : Nat)).length = (bitsTo a_6 (5 : Nat)).length ∧
  b_1 = b_1) ∧
  ((0 : Nat) = (0 : Nat) ∧
  (bitsTo a_4 (5 : Nat)).length = (bitsTo a_4 (5 : Nat)).length ∧
  b = b) ∧
  Bool.false = Bool.false ∧
  Bool.true = Bool.true ∧
  Bool.false = Bool.false ∧
  a.a = a.a ∧
  a.b = a.b ∧
  ((planL a_20.a.L a_20.b.L).length ≤ (planL a_20.a.L a_20.b.L).length ∧
  RowsEq (planL a_20.a.L a_20.b.L).length (4 : Nat) (encRows encM (planL a_20.a.L a_20.b.L)) (encRows encM (planL a_20.a.L a_20.b.L))) ∧
  ((planL a_14.a.L a_14.b.L).length ≤ (planL a_14.a.L a_14.b.L).length ∧
  RowsEq (planL a_14.a.L a_14.b.L).length (4 : Nat) (encRows encM (planL a_14.a.L a_14.b.L)) (encRows encM (planL a_14.a.L a_14.b.L))) ∧
  ((bitsTo a_6 (5 : Nat)).length ≤ (bitsTo a_6 (5 : Nat)).length ∧
  RowsEq (bitsTo a_6 (5 : Nat)).length (1 : Nat) (encRows encI (bitsTo a_6 (5 : Nat))) (encRows encI (bitsTo a_6 (5 : Nat)))) ∧
  ((bitsTo a_4 (5 : Nat)).length ≤ (bitsTo a_4 (5 : Nat)).length ∧
  RowsEq (bitsTo a_4 (5 : Nat)).length (1 : Nat) (encRows encI (bitsTo a_4 (5 : Nat))) (encRows encI (bitsTo a_4 (5 : Nat)))) ∧
  a' ≤ (plB a).length ∧
  (plB a).length - a' < (plB a).length - a_23))))))))))))) ∧
  (Decidable.decide ((↑a_23 : Int) < (↑(planL a_14.a.L a_14.b.L).length : Int)) = Bool.false →
  ∃ (b : Unit), Bool.true = Bool.true ∧
  True ∧
  True))))) (by kernel_rfl) (by
  intro x _
  refine ⟨(), trivial, fun _ _ => ⟨x.a, ?_⟩⟩
  ((repeat' apply And.intro) <;> first | with_reducible rfl | omega | (dsimp only; omega) | exact RowsEq.refl _ _ _ | assumption | rfl | trivial | exact Nat.le_refl _ | skip)
  refine fun ba _ => ⟨x.b, ?_⟩
  ((repeat' apply And.intro) <;> first | with_reducible rfl | omega | (dsimp only; omega) | exact RowsEq.refl _ _ _ | assumption | rfl | trivial | exact Nat.le_refl _ | skip)
  refine fun bb _ => ⟨fun _ => ⟨(), rfl, trivial, trivial⟩, fun k1 => ⟨fun _ => ⟨(), rfl, trivial, trivial⟩, fun k2 => ⟨⟨1, bitsTo x.a 5, ba⟩, ?_⟩⟩⟩
  simp only [beq_eq_false_iff_ne] at k1 k2
  have la := bits_len x.a 5
  have lb := bits_len x.b 5
  have ma := bits_may (b := x.a) (by omega)
  have mb := bits_may (b := x.b) (by omega)
  have pa := ptsOf_length ma
  have pb := ptsOf_length mb
  have hg := plan_good (pts_in ma) (pts_in mb)
  have hx : plB x = planL (ptsOf (bitsTo x.a 5)) (ptsOf (bitsTo x.b 5)) := rfl
  have hll := plan_len (ptsOf (bitsTo x.a 5)) (ptsOf (bitsTo x.b 5))
  ((repeat' apply And.intro) <;> first | with_reducible rfl | omega | (dsimp only; omega) | exact RowsEq.refl _ _ _ | assumption | rfl | trivial | exact Nat.le_refl _ | skip)
  refine fun ra _ => ⟨⟨2, bitsTo x.b 5, bb⟩, ?_⟩
  ((repeat' apply And.intro) <;> first | with_reducible rfl | omega | (dsimp only; omega) | exact RowsEq.refl _ _ _ | assumption | rfl | trivial | exact Nat.le_refl _ | skip)
  refine fun rb _ => ⟨⟨⟨1, bitsTo x.a 5, ra.1, ptsOf (bitsTo x.a 5), ra.2⟩, ⟨2, bitsTo x.b 5, rb.1, ptsOf (bitsTo x.b 5), rb.2⟩⟩, ?_⟩
  ((repeat' apply And.intro) <;> first | with_reducible rfl | omega | (dsimp only; omega) | exact RowsEq.refl _ _ _ | assumption | rfl | trivial | exact Nat.le_refl _ | skip)
  refine fun pc _ => ⟨⟨1, bitsTo x.b 5, bb⟩, ?_⟩
  ((repeat' apply And.intro) <;> first | with_reducible rfl | omega | (dsimp only; omega) | exact RowsEq.refl _ _ _ | assumption | rfl | trivial | exact Nat.le_refl _ | skip)
  refine fun rc _ => ⟨⟨2, bitsTo x.a 5, ba⟩, ?_⟩
  ((repeat' apply And.intro) <;> first | with_reducible rfl | omega | (dsimp only; omega) | exact RowsEq.refl _ _ _ | assumption | rfl | trivial | exact Nat.le_refl _ | skip)
  refine fun rd _ => ⟨⟨⟨1, bitsTo x.b 5, rc.1, ptsOf (bitsTo x.b 5), rc.2⟩, ⟨2, bitsTo x.a 5, rd.1, ptsOf (bitsTo x.a 5), rd.2⟩⟩, ?_⟩
  ((repeat' apply And.intro) <;> first | with_reducible rfl | omega | (dsimp only; omega) | exact RowsEq.refl _ _ _ | assumption | rfl | trivial | exact Nat.le_refl _ | skip)
  dsimp only
  rw [plan_swap (ptsOf (bitsTo x.a 5)) (ptsOf (bitsTo x.b 5)), hx]
  generalize planL (ptsOf (bitsTo x.a 5)) (ptsOf (bitsTo x.b 5)) = l at *
  have hm : (l.map swapM).length = l.length := List.length_map _
  simp only [hm, Nat.zero_add, Int.toNat_natCast, InR]
  refine fun pd _ => ⟨fun c => (by simp at c), fun _ => ⟨⟨0, ?_⟩, fun i hi => ⟨fun c1 => ?_, fun _ => ⟨(), trivial, trivial, trivial⟩⟩⟩⟩
  · ((repeat' apply And.intro) <;> first | with_reducible rfl | omega | (dsimp only; omega) | exact RowsEq.refl _ _ _ | assumption | rfl | trivial | exact Nat.le_refl _ | skip)
  · simp only [decide_eq_true_eq] at c1
    have hi : i < l.length := by omega
    rw [gl_swapM hi]
    dsimp only [swapM]
    ((repeat' apply And.intro) <;> first | with_reducible rfl | omega | (dsimp only; omega) | exact RowsEq.refl _ _ _ | assumption | rfl | trivial | exact Nat.le_refl _ | skip)
    intro _
    ((repeat' apply And.intro) <;> first | with_reducible rfl | omega | (dsimp only; omega) | exact RowsEq.refl _ _ _ | assumption | rfl | trivial | exact Nat.le_refl _ | skip)
    refine fun _ => ⟨fun g => (by simp at g), fun _ => ?_⟩
    ((repeat' apply And.intro) <;> first | with_reducible rfl | omega | (dsimp only; omega) | exact RowsEq.refl _ _ _ | assumption | rfl | trivial | exact Nat.le_refl _ | skip)
    intro _
    ((repeat' apply And.intro) <;> first | with_reducible rfl | omega | (dsimp only; omega) | exact RowsEq.refl _ _ _ | assumption | rfl | trivial | exact Nat.le_refl _ | skip)
    refine fun _ => ⟨fun g => (by simp at g), fun _ => ?_⟩
    ((repeat' apply And.intro) <;> first | with_reducible rfl | omega | (dsimp only; omega) | exact RowsEq.refl _ _ _ | assumption | rfl | trivial | exact Nat.le_refl _ | skip)
    intro _
    ((repeat' apply And.intro) <;> first | with_reducible rfl | omega | (dsimp only; omega) | exact RowsEq.refl _ _ _ | assumption | rfl | trivial | exact Nat.le_refl _ | skip)
    refine fun _ => ⟨fun g => (by simp at g), fun _ => ?_⟩
    ((repeat' apply And.intro) <;> first | with_reducible rfl | omega | (dsimp only; omega) | exact RowsEq.refl _ _ _ | assumption | rfl | trivial | exact Nat.le_refl _ | skip)
    intro _
    ((repeat' apply And.intro) <;> first | with_reducible rfl | omega | (dsimp only; omega) | exact RowsEq.refl _ _ _ | assumption | rfl | trivial | exact Nat.le_refl _ | skip)
    refine fun _ => ⟨fun g => (by simp at g), fun _ => ?_⟩
    refine ⟨by omega, i + 1, ?_⟩
    ((repeat' apply And.intro) <;> first | with_reducible rfl | omega | (dsimp only; omega) | exact RowsEq.refl _ _ _ | assumption | rfl | trivial | exact Nat.le_refl _ | skip))
def iPp3 : An := .flat 15 Nat (fun s i => s.int 11 i) (fun _ i => i ≤ 3) (fun _ i => 3 - i)
def iPp2 : An := .mk 12 Nat (fun s i => s.int 10 i) (fun _ i => i ≤ 8) (fun _ i => 8 - i) fun _ => .mk 60 [iPp3] []
def iPp1 : An := .mk 9 Nat (fun s i => s.int 9 i) (fun _ i => 1 ≤ i ∧ i ≤ 6) (fun _ i => 6 - i) fun _ => .mk 60 [iPp2] []
set_option maxHeartbeats 4000000 in
theorem bodyPoints : fnBody (Y Try.prog) tabPl 4 cTwo fun _ => [(4, [iPp1], [])] := fnBody.of (p :=
  ∀ (a : TwoA), True →
  ∃ (a_2 : Unit), True ∧
  ∀ (b : Unit), True →
  ∃ (a_4 : Int), a.a = a_4 ∧
  True ∧
  ∀ (b : Nat), True →
  ∃ (a_6 : Int), a.b = a_6 ∧
  True ∧
  ∀ (b_1 : Nat), True →
  (((↑(bitsTo a_4 (5 : Nat)).length : Int) == (0 : Int)) = Bool.true →
  ∃ (b : Unit), Bool.true = Bool.true ∧
  True ∧
  True) ∧
  (((↑(bitsTo a_4 (5 : Nat)).length : Int) == (0 : Int)) = Bool.false →
  (((↑(bitsTo a_6 (5 : Nat)).length : Int) == (0 : Int)) = Bool.true →
  ∃ (b : Unit), Bool.true = Bool.true ∧
  True ∧
  True) ∧
  (((↑(bitsTo a_6 (5 : Nat)).length : Int) == (0 : Int)) = Bool.false →
  ∃ (a_10 : NewA), (1 : Int) = a_10.e ∧
  ((0 : Nat) = (0 : Nat) ∧
  (bitsTo a_4 (5 : Nat)).length = a_10.l.length ∧
  b = a_10.cap) ∧
  (a_10.l.length ≤ (bitsTo a_4 (5 : Nat)).length ∧
  RowsEq a_10.l.length (1 : Nat) (encRows encI (bitsTo a_4 (5 : Nat))) (encRows encI a_10.l)) ∧
  ((1 : Int) ≤ a_10.e ∧
  a_10.e ≤ (1099511627776 : Int) ∧
  mayN a_10.l = Bool.true) ∧
  ∀ (b_2 : Nat × Nat), True →
  ∃ (a_12 : NewA), (2 : Int) = a_12.e ∧
  ((0 : Nat) = (0 : Nat) ∧
  (bitsTo a_6 (5 : Nat)).length = a_12.l.length ∧
  b_1 = a_12.cap) ∧
  (a_12.l.length ≤ (bitsTo a_6 (5 : Nat)).length ∧
  RowsEq a_12.l.length (1 : Nat) (encRows encI (bitsTo a_6 (5 : Nat))) (encRows encI a_12.l)) ∧
  ((1 : Int) ≤ a_12.e ∧
  a_12.e ≤ (1099511627776 : Int) ∧
  mayN a_12.l = Bool.true) ∧
  ∀ (b_3 : Nat × Nat), True →
  ∃ (a_14 : PlanA), (0 : Nat) = (0 : Nat) ∧
  (0 : Nat) = (0 : Nat) ∧
  a_10.e = a_14.a.e ∧
  ((0 : Nat) = (0 : Nat) ∧
  a_10.l.length = a_14.a.l.length ∧
  b_2.fst = a_14.a.c1) ∧
  ((0 : Nat) = (0 : Nat) ∧
  (ptsOf a_10.l).length = a_14.a.L.length ∧
  b_2.snd = a_14.a.c2) ∧
  (a_14.a.l.length ≤ a_10.l.length ∧
  RowsEq a_14.a.l.length (1 : Nat) (encRows encI a_10.l) (encRows encI a_14.a.l)) ∧
  (a_14.a.L.length ≤ (ptsOf a_10.l).length ∧
  RowsEq a_14.a.L.length (2 : Nat) (encRows encPt (ptsOf a_10.l)) (encRows encPt a_14.a.L)) ∧
  a_12.e = a_14.b.e ∧
  ((0 : Nat) = (0 : Nat) ∧
  a_12.l.length = a_14.b.l.length ∧
  b_3.fst = a_14.b.c1) ∧
  ((0 : Nat) = (0 : Nat) ∧
  (ptsOf a_12.l).length = a_14.b.L.length ∧
  b_3.snd = a_14.b.c2) ∧
  (a_14.b.l.length ≤ a_12.l.length ∧
  RowsEq a_14.b.l.length (1 : Nat) (encRows encI a_12.l) (encRows encI a_14.b.l)) ∧
  (a_14.b.L.length ≤ (ptsOf a_12.l).length ∧
  RowsEq a_14.b.L.length (2 : Nat) (encRows encPt (ptsOf a_12.l)) (encRows encPt a_14.b.L)) ∧
  ((1 : Nat) ≤ a_14.a.L.length ∧
  a_14.a.L.length ≤ (100 : Nat) ∧
  (1 : Nat) ≤ a_14.b.L.length ∧
  a_14.b.L.length ≤ (100 : Nat)) ∧
  ∀ (b_4 : Nat), True →
  (∃ (a_16 : Nat), (1 : Int) = (↑a_16 : Int) ∧
  ((0 : Nat) = (0 : Nat) ∧
  (planL a_14.a.L a_14.b.L).length = (planL a_14.a.L a_14.b.L).length ∧
  b_4 = b_4) ∧
  ((↑(bitsTo a_6 (5 : Nat)).length : Int) == (0 : Int)) = ((↑(bitsTo a_6 (5 : Nat)).length : Int) == (0 : Int)) ∧
  ((0 : Nat) = (0 : Nat) ∧
  (bitsTo a_6 (5 : Nat)).length = (bitsTo a_6 (5 : Nat)).length ∧
  b_1 = b_1) ∧
  ((0 : Nat) = (0 : Nat) ∧
  (bitsTo a_4 (5 : Nat)).length = (bitsTo a_4 (5 : Nat)).length ∧
  b = b) ∧
  Bool.false = Bool.false ∧
  Bool.true = Bool.true ∧
  Bool.false = Bool.false ∧
  a.a = a.a ∧
  a.b = a.b ∧
  ((planL a_14.a.L a_14.b.L).length ≤ (planL a_14.a.L a_14.b.L).length ∧
  RowsEq (planL a_14.a.L a_14.b.L).length (4 : Nat) (encRows encM (planL a_14.a.L a_14.b.L)) (encRows encM (planL a_14.a.L a_14.b.L))) ∧
  ((bitsTo a_6 (5 : Nat)).length ≤ (bitsTo a_6 (5 : Nat)).length ∧
  RowsEq (bitsTo a_6 (5 : Nat)).length (1 : Nat) (encRows encI (bitsTo a_6 (5 : Nat))) (encRows encI (bitsTo a_6 (5 : Nat)))) ∧
  ((bitsTo a_4 (5 : Nat)).length ≤ (bitsTo a_4 (5 : Nat)).length ∧
  RowsEq (bitsTo a_4 (5 : Nat)).length (1 : Nat) (encRows encI (bitsTo a_4 (5 : Nat))) (encRows encI (bitsTo a_4 (5 : Nat)))) ∧
  ((1 : Nat) ≤ a_16 ∧
  a_16 ≤ (6 : Nat)) ∧
  True) ∧
  ∀ (a_16 : Nat), (1 : Nat) ≤ a_16 ∧
  a_16 ≤ (6 : Nat) →
  (Decidable.decide ((↑a_16 : Int) ≤ (5 : Int)) = Bool.true →
  (∃ (a_19 : Nat), (0 : Int) = (↑a_19 : Int) ∧
  Decidable.decide ((↑a_16 : Int) ≤ (5 : Int)) = Decidable.decide ((↑a_16 : Int) ≤ (5 : Int)) ∧
  (↑a_16 : Int) = (↑a_16 : Int) ∧
  ((0 : Nat) = (0 : Nat) ∧
  (planL a_14.a.L a_14.b.L).length = (planL a_14.a.L a_14.b.L).length ∧
  b_4 = b_4) ∧
  ((↑(bitsTo a_6 (5 : Nat)).length : Int) == (0 : Int)) = ((↑(bitsTo a_6 (5 : Nat)).length : Int) == (0 : Int)) ∧
  ((0 : Nat) = (0 : Nat) ∧
  (bitsTo a_6 (5 : Nat)).length = (bitsTo a_6 (5 : Nat)).length ∧
  b_1 = b_1) ∧
  ((0 : Nat) = (0 : Nat) ∧
  (bitsTo a_4 (5 : Nat)).length = (bitsTo a_4 (5 : Nat)).length ∧
  b = b) ∧
  Bool.false = Bool.false ∧
  Bool.true = Bool.true ∧
  Bool.false = Bool.false ∧
  a.a = a.a ∧
  a.b = a.b ∧
  ((planL a_14.a.L a_14.b.L).length ≤ (planL a_14.a.L a_14.b.L).length ∧
  RowsEq (planL a_14.a.L a_14.b.L).length (4 : Nat) (encRows encM (planL a_14.a.L a_14.b.L)) (encRows encM (planL a_14.a.L a_14.b.L))) ∧
  ((bitsTo a_6 (5 : Nat)).length ≤ (bitsTo a_6 (5 : Nat)).length ∧
  RowsEq (bitsTo a_6 (5 : Nat)).length (1 : Nat) (encRows encI (bitsTo a_6 (5 : Nat))) (encRows encI (bitsTo a_6 (5 : Nat)))) ∧
  ((bitsTo a_4 (5 : Nat)).length ≤ (bitsTo a_4 (5 : Nat)).length ∧
  RowsEq (bitsTo a_4 (5 : Nat)).length (1 : Nat) (encRows encI (bitsTo a_4 (5 : Nat))) (encRows encI (bitsTo a_4 (5 : Nat)))) ∧
  a_19 ≤ (8 : Nat) ∧
  True) ∧
  ∀ (a_19 : Nat), a_19 ≤ (8 : Nat) →
  (Decidable.decide ((↑a_19 : Int) < (8 : Int)) = Bool.true →
  (∃ (a_22 : Nat), (0 : Int) = (↑a_22 : Int) ∧
  Decidable.decide ((↑a_19 : Int) < (8 : Int)) = Decidable.decide ((↑a_19 : Int) < (8 : Int)) ∧
  (↑a_19 : Int) = (↑a_19 : Int) ∧
  Decidable.decide ((↑a_16 : Int) ≤ (5 : Int)) = Decidable.decide ((↑a_16 : Int) ≤ (5 : Int)) ∧
  (↑a_16 : Int) = (↑a_16 : Int) ∧
  ((0 : Nat) = (0 : Nat) ∧
  (planL a_14.a.L a_14.b.L).length = (planL a_14.a.L a_14.b.L).length ∧
  b_4 = b_4) ∧
  ((↑(bitsTo a_6 (5 : Nat)).length : Int) == (0 : Int)) = ((↑(bitsTo a_6 (5 : Nat)).length : Int) == (0 : Int)) ∧
  ((0 : Nat) = (0 : Nat) ∧
  (bitsTo a_6 (5 : Nat)).length = (bitsTo a_6 (5 : Nat)).length ∧
  b_1 = b_1) ∧
  ((0 : Nat) = (0 : Nat) ∧
  (bitsTo a_4 (5 : Nat)).length = (bitsTo a_4 (5 : Nat)).length ∧
  b = b) ∧
  Bool.false = Bool.false ∧
  Bool.true = Bool.true ∧
  Bool.false = Bool.false ∧
  a.a = a.a ∧
  a.b = a.b ∧
  ((planL a_14.a.L a_14.b.L).length ≤ (planL a_14.a.L a_14.b.L).length ∧
  RowsEq (planL a_14.a.L a_14.b.L).length (4 : Nat) (encRows encM (planL a_14.a.L a_14.b.L)) (encRows encM (planL a_14.a.L a_14.b.L))) ∧
  ((bitsTo a_6 (5 : Nat)).length ≤ (bitsTo a_6 (5 : Nat)).length ∧
  RowsEq (bitsTo a_6 (5 : Nat)).length (1 : Nat) (encRows encI (bitsTo a_6 (5 : Nat))) (encRows encI (bitsTo a_6 (5 : Nat)))) ∧
  ((bitsTo a_4 (5 : Nat)).length ≤ (bitsTo a_4 (5 : Nat)).length ∧
  RowsEq (bitsTo a_4 (5 : Nat)).length (1 : Nat) (encRows encI (bitsTo a_4 (5 : Nat))) (encRows encI (bitsTo a_4 (5 : Nat)))) ∧
  a_22 ≤ (3 : Nat) ∧
  True) ∧
  ∀ (a_22 : Nat), a_22 ≤ (3 : Nat) →
  (Decidable.decide ((↑a_22 : Int) < (3 : Int)) = Bool.true →
  ∃ (a_25 : Int × Int), (↑a_16 : Int) = a_25.fst ∧
  (↑a_19 : Int) = a_25.snd ∧
  ((0 : Int) ≤ a_25.fst ∧
  a_25.fst ≤ (100 : Int) ∧
  (0 : Int) ≤ a_25.snd ∧
  a_25.snd ≤ (100 : Int)) ∧
  ∀ (b_5 : Unit), True →
  ∃ (a_27 : CovA), ((0 : Nat) = (0 : Nat) ∧
  (planL a_14.a.L a_14.b.L).length = a_27.l.length ∧
  b_4 = a_27.cap) ∧
  uw IntKind.u64 (uw IntKind.u64 (pointI a_25.fst a_25.snd + uw IntKind.u64 (↑a_22 : Int)) - (1 : Int)) = a_27.h ∧
  (a_27.l.length ≤ (planL a_14.a.L a_14.b.L).length ∧
  RowsEq a_27.l.length (4 : Nat) (encRows encM (planL a_14.a.L a_14.b.L)) (encRows encM a_27.l)) ∧
  a_27.l.length < (100000 : Nat) ∧
  ∀ (b_6 : Unit), True →
  ∃ (a_29 : ROwnA), ((0 : Nat) = (0 : Nat) ∧
  (bitsTo a_4 (5 : Nat)).length = a_29.l.length ∧
  b = a_29.cap) ∧
  uw IntKind.u64 (uw IntKind.u64 (pointI a_25.fst a_25.snd + uw IntKind.u64 (↑a_22 : Int)) - (1 : Int)) = a_29.h ∧
  (a_29.l.length ≤ (bitsTo a_4 (5 : Nat)).length ∧
  RowsEq a_29.l.length (1 : Nat) (encRows encI (bitsTo a_4 (5 : Nat))) (encRows encI a_29.l)) ∧
  a_29.l.length < (100000 : Nat) ∧
  ∀ (b_7 : Unit), True →
  ∃ (a_31 : ROwnA), ((0 : Nat) = (0 : Nat) ∧
  (bitsTo a_6 (5 : Nat)).length = a_31.l.length ∧
  b_1 = a_31.cap) ∧
  uw IntKind.u64 (uw IntKind.u64 (pointI a_25.fst a_25.snd + uw IntKind.u64 (↑a_22 : Int)) - (1 : Int)) = a_31.h ∧
  (a_31.l.length ≤ (bitsTo a_6 (5 : Nat)).length ∧
  RowsEq a_31.l.length (1 : Nat) (encRows encI (bitsTo a_6 (5 : Nat))) (encRows encI a_31.l)) ∧
  a_31.l.length < (100000 : Nat) ∧
  ∀ (b_8 : Unit), True →
  ((!covB a_27.l a_27.h == (refOwner a_29.l a_29.h != refOwner a_31.l a_31.h)) = Bool.true →
  ∃ (b : Unit), Bool.false = Bool.true ∧
  True ∧
  True) ∧
  ((!covB a_27.l a_27.h == (refOwner a_29.l a_29.h != refOwner a_31.l a_31.h)) = Bool.false →
  (covB a_27.l a_27.h = Bool.true →
  InR IntKind.i64 (covM a_27.l a_27.h).s →
  (((covM a_27.l a_27.h).s != refOwner a_29.l a_29.h) = Bool.true →
  ∃ (b : Unit), Bool.false = Bool.true ∧
  True ∧
  True) ∧
  (((covM a_27.l a_27.h).s != refOwner a_29.l a_29.h) = Bool.false →
  InR IntKind.i64 (covM a_27.l a_27.h).d →
  (((covM a_27.l a_27.h).d != refOwner a_31.l a_31.h) = Bool.true →
  ∃ (b : Unit), Bool.false = Bool.true ∧
  True ∧
  True) ∧
  (((covM a_27.l a_27.h).d != refOwner a_31.l a_31.h) = Bool.false →
  InR IntKind.i64 ((↑a_22 : Int) + (1 : Int)) ∧
  ∃ (a' : Nat), (↑a_22 : Int) + (1 : Int) = (↑a' : Int) ∧
  Decidable.decide ((↑a_19 : Int) < (8 : Int)) = Decidable.decide ((↑a_19 : Int) < (8 : Int)) ∧
  (↑a_19 : Int) = (↑a_19 : Int) ∧
  Decidable.decide ((↑a_16 : Int) ≤ (5 : Int)) = Decidable.decide ((↑a_16 : Int) ≤ (5 : Int)) ∧
  (↑a_16 : Int) = (↑a_16 : Int) ∧
  ((0 : Nat) = (0 : Nat) ∧
  (planL a_14.a.L a_14.b.L).length = (planL a_14.a.L a_14.b.L).length ∧
  b_4 = b_4) ∧
  ((↑(bitsTo a_6 (5 : Nat)).length : Int) == (0 : Int)) = ((↑(bitsTo a_6 (5 : Nat)).length : Int) == (0 : Int)) ∧
  ((0 : Nat) = (0 : Nat) ∧
  (bitsTo a_6 (5 : Nat)).length = (bitsTo a_6 (5 : Nat)).length ∧
  b_1 = b_1) ∧
  ((0 : Nat) = (0 : Nat) ∧
  (bitsTo a_4 (5 : Nat)).length = (bitsTo a_4 (5 : Nat)).length ∧
  b = b) ∧
  Bool.false = Bool.false ∧
  Bool.true = Bool.true ∧
  Bool.false = Bool.false ∧
  a.a = a.a ∧
  a.b = a.b ∧
  ((planL a_14.a.L a_14.b.L).length ≤ (planL a_14.a.L a_14.b.L).length ∧
  RowsEq (planL a_14.a.L a_14.b.L).length (4 : Nat) (encRows encM (planL a_14.a.L a_14.b.L)) (encRows encM (planL a_14.a.L a_14.b.L))) ∧
  ((bitsTo a_6 (5 : Nat)).length ≤ (bitsTo a_6 (5 : Nat)).length ∧
  RowsEq (bitsTo a_6 (5 : Nat)).length (1 : Nat) (encRows encI (bitsTo a_6 (5 : Nat))) (encRows encI (bitsTo a_6 (5 : Nat)))) ∧
  ((bitsTo a_4 (5 : Nat)).length ≤ (bitsTo a_4 (5 : Nat)).length ∧
  RowsEq (bitsTo a_4 (5 : Nat)).length (1 : Nat) (encRows encI (bitsTo a_4 (5 : Nat))) (encRows encI (bitsTo a_4 (5 : Nat)))) ∧
  a' ≤ (3 : Nat) ∧
  (3 : Nat) - a' < (3 : Nat) - a_22))) ∧
  (covB a_27.l a_27.h = Bool.false →
  InR IntKind.i64 ((↑a_22 : Int) + (1 : Int)) ∧
  ∃ (a' : Nat), (↑a_22 : Int) + (1 : Int) = (↑a' : Int) ∧
  Decidable.decide ((↑a_19 : Int) < (8 : Int)) = Decidable.decide ((↑a_19 : Int) < (8 : Int)) ∧
  (↑a_19 : Int) = (↑a_19 : Int) ∧
  Decidable.decide ((↑a_16 : Int) ≤ (5 : Int)) = Decidable.decide ((↑a_16 : Int) ≤ (5 : Int)) ∧
  (↑a_16 : Int) = (↑a_16 : Int) ∧
  ((0 : Nat) = (0 : Nat) ∧
  (planL a_14.a.L a_14.b.L).length = (planL a_14.a.L a_14.b.L).length ∧
  b_4 = b_4) ∧
  ((↑(bitsTo a_6 (5 : Nat)).length : Int) == (0 : Int)) = ((↑(bitsTo a_6 (5 : Nat)).length : Int) == (0 : Int)) ∧
  ((0 : Nat) = (0 : Nat) ∧
  (bitsTo a_6 (5 : Nat)).length = (bitsTo a_6 (5 : Nat)).length ∧
  b_1 = b_1) ∧
  ((0 : Nat) = (0 : Nat) ∧
  (bitsTo a_4 (5 : Nat)).length = (bitsTo a_4 (5 : Nat)).length ∧
  b = b) ∧
  Bool.false = Bool.false ∧
  Bool.true = Bool.true ∧
  Bool.false = Bool.false ∧
  a.a = a.a ∧
  a.b = a.b ∧
  ((planL a_14.a.L a_14.b.L).length ≤ (planL a_14.a.L a_14.b.L).length ∧
  RowsEq (planL a_14.a.L a_14.b.L).length (4 : Nat) (encRows encM (planL a_14.a.L a_14.b.L)) (encRows encM (planL a_14.a.L a_14.b.L))) ∧
  ((bitsTo a_6 (5 : Nat)).length ≤ (bitsTo a_6 (5 : Nat)).length ∧
  RowsEq (bitsTo a_6 (5 : Nat)).length (1 : Nat) (encRows encI (bitsTo a_6 (5 : Nat))) (encRows encI (bitsTo a_6 (5 : Nat)))) ∧
  ((bitsTo a_4 (5 : Nat)).length ≤ (bitsTo a_4 (5 : Nat)).length ∧
  RowsEq (bitsTo a_4 (5 : Nat)).length (1 : Nat) (encRows encI (bitsTo a_4 (5 : Nat))) (encRows encI (bitsTo a_4 (5 : Nat)))) ∧
  a' ≤ (3 : Nat) ∧
  (3 : Nat) - a' < (3 : Nat) - a_22))) ∧
  (Decidable.decide ((↑a_22 : Int) < (3 : Int)) = Bool.false →
  InR IntKind.i64 ((↑a_19 : Int) + (1 : Int)) ∧
  ∃ (a' : Nat), (↑a_19 : Int) + (1 : Int) = (↑a' : Int) ∧
  Decidable.decide ((↑a_16 : Int) ≤ (5 : Int)) = Decidable.decide ((↑a_16 : Int) ≤ (5 : Int)) ∧
  (↑a_16 : Int) = (↑a_16 : Int) ∧
  ((0 : Nat) = (0 : Nat) ∧
  (planL a_14.a.L a_14.b.L).length = (planL a_14.a.L a_14.b.L).length ∧
  b_4 = b_4) ∧
  ((↑(bitsTo a_6 (5 : Nat)).length : Int) == (0 : Int)) = ((↑(bitsTo a_6 (5 : Nat)).length : Int) == (0 : Int)) ∧
  ((0 : Nat) = (0 : Nat) ∧
  (bitsTo a_6 (5 : Nat)).length = (bitsTo a_6 (5 : Nat)).length ∧
  b_1 = b_1) ∧
  ((0 : Nat) = (0 : Nat) ∧
  (bitsTo a_4 (5 : Nat)).length = (bitsTo a_4 (5 : Nat)).length ∧
  b = b) ∧
  Bool.false = Bool.false ∧
  Bool.true = Bool.true ∧
  Bool.false = Bool.false ∧
  a.a = a.a ∧
  a.b = a.b ∧
  ((planL a_14.a.L a_14.b.L).length ≤ (planL a_14.a.L a_14.b.L).length ∧
  RowsEq (planL a_14.a.L a_14.b.L).length (4 : Nat) (encRows encM (planL a_14.a.L a_14.b.L)) (encRows encM (planL a_14.a.L a_14.b.L))) ∧
  ((bitsTo a_6 (5 : Nat)).length ≤ (bitsTo a_6 (5 : Nat)).length ∧
  RowsEq (bitsTo a_6 (5 : Nat)).length (1 : Nat) (encRows encI (bitsTo a_6 (5 : Nat))) (encRows encI (bitsTo a_6 (5 : Nat)))) ∧
  ((bitsTo a_4 (5 : Nat)).length ≤ (bitsTo a_4 (5 : Nat)).length ∧
  RowsEq (bitsTo a_4 (5 : Nat)).length (1 : Nat) (encRows encI (bitsTo a_4 (5 : Nat))) (encRows encI (bitsTo a_4 (5 : Nat)))) ∧
  a' ≤ (8 : Nat) ∧
  (8 : Nat) - a' < (8 : Nat) - a_19)) ∧
  (Decidable.decide ((↑a_19 : Int) < (8 : Int)) = Bool.false →
  InR IntKind.i64 ((↑a_16 : Int) + (1 : Int)) ∧
  ∃ (a' : Nat), (↑a_16 : Int) + (1 : Int) = (↑a' : Int) ∧
  ((0 : Nat) = (0 : Nat) ∧
  (planL a_14.a.L a_14.b.L).length = (planL a_14.a.L a_14.b.L).length ∧
  b_4 = b_4) ∧
  ((↑(bitsTo a_6 (5 : Nat)).length : Int) == (0 : Int)) = ((↑(bitsTo a_6 (5 : Nat)).length : Int) == (0 : Int)) ∧
  ((0 : Nat) = (0 : Nat) ∧
  (bitsTo a_6 (5 : Nat)).length = (bitsTo a_6 (5 : Nat)).length ∧
  b_1 = b_1) ∧
  ((0 : Nat) = (0 : Nat) ∧
  (bitsTo a_4 (5 : Nat)).length = (bitsTo a_4 (5 : Nat)).length ∧
  b = b) ∧
  Bool.false = Bool.false ∧
  Bool.true = Bool.true ∧
  Bool.false = Bool.false ∧
  a.a = a.a ∧
  a.b = a.b ∧
  ((planL a_14.a.L a_14.b.L).length ≤ (planL a_14.a.L a_14.b.L).length ∧
  RowsEq (planL a_14.a.L a_14.b.L).length (4 : Nat) (encRows encM (planL a_14.a.L a_14.b.L)) (encRows encM (planL a_14.a.L a_14.b.L))) ∧
  ((bitsTo a_6 (5 : Nat)).length ≤ (bitsTo a_6 (5 : Nat)).length ∧
  RowsEq (bitsTo a_6 (5 : Nat)).length (1 : Nat) (encRows encI (bitsTo a_6 (5 : Nat))) (encRows encI (bitsTo a_6 (5 : Nat)))) ∧
  ((bitsTo a_4 (5 : Nat)).length ≤ (bitsTo a_4 (5 : Nat)).length ∧
  RowsEq (bitsTo a_4 (5 : Nat)).length (1 : Nat) (encRows encI (bitsTo a_4 (5 : Nat))) (encRows encI (bitsTo a_4 (5 : Nat)))) ∧
  ((1 : Nat) ≤ a' ∧
  a' ≤ (6 : Nat)) ∧
  (6 : Nat) - a' < (6 : Nat) - a_16)) ∧
  (Decidable.decide ((↑a_16 : Int) ≤ (5 : Int)) = Bool.false →
  ∃ (b : Unit), Bool.true = Bool.true ∧
  True ∧
  True)))) (by kernel_rfl) (by
  intro x _
  refine ⟨(), trivial, fun _ _ => ⟨x.a, ?_⟩⟩
  ((repeat' apply And.intro) <;> first | with_reducible rfl | omega | (dsimp only; omega) | exact RowsEq.refl _ _ _ | assumption | rfl | trivial | exact Nat.le_refl _ | skip)
  refine fun ba _ => ⟨x.b, ?_⟩
  ((repeat' apply And.intro) <;> first | with_reducible rfl | omega | (dsimp only; omega) | exact RowsEq.refl _ _ _ | assumption | rfl | trivial | exact Nat.le_refl _ | skip)
  refine fun bb _ => ⟨fun _ => ⟨(), rfl, trivial, trivial⟩, fun k1 => ⟨fun _ => ⟨(), rfl, trivial, trivial⟩, fun k2 => ⟨⟨1, bitsTo x.a 5, ba⟩, ?_⟩⟩⟩
  simp only [beq_eq_false_iff_ne] at k1 k2
  have la := bits_len x.a 5
  have lb := bits_len x.b 5
  have ma := bits_may (b := x.a) (by omega)
  have mb := bits_may (b := x.b) (by omega)
  have pa := ptsOf_length ma
  have pb := ptsOf_length mb
  have hg := plan_good (pts_in ma) (pts_in mb)
  have hx : plB x = planL (ptsOf (bitsTo x.a 5)) (ptsOf (bitsTo x.b 5)) := rfl
  have hll := plan_len (ptsOf (bitsTo x.a 5)) (ptsOf (bitsTo x.b 5))
  ((repeat' apply And.intro) <;> first | with_reducible rfl | omega | (dsimp only; omega) | exact RowsEq.refl _ _ _ | assumption | rfl | trivial | exact Nat.le_refl _ | skip)
  refine fun ra _ => ⟨⟨2, bitsTo x.b 5, bb⟩, ?_⟩
  ((repeat' apply And.intro) <;> first | with_reducible rfl | omega | (dsimp only; omega) | exact RowsEq.refl _ _ _ | assumption | rfl | trivial | exact Nat.le_refl _ | skip)
  refine fun rb _ => ⟨⟨⟨1, bitsTo x.a 5, ra.1, ptsOf (bitsTo x.a 5), ra.2⟩, ⟨2, bitsTo x.b 5, rb.1, ptsOf (bitsTo x.b 5), rb.2⟩⟩, ?_⟩
  ((repeat' apply And.intro) <;> first | with_reducible rfl | omega | (dsimp only; omega) | exact RowsEq.refl _ _ _ | assumption | rfl | trivial | exact Nat.le_refl _ | skip)
  refine fun pc _ => ?_
  dsimp only
  generalize planL (ptsOf (bitsTo x.a 5)) (ptsOf (bitsTo x.b 5)) = l at *
  refine ⟨⟨1, ?_⟩, fun n hn => ⟨fun c1 => ⟨⟨0, ?_⟩, fun k hk => ⟨fun c2 => ⟨⟨0, ?_⟩, fun o ho => ⟨fun c3 => ⟨((n : Int), (k : Int)), ?_⟩, fun c3 => ?_⟩⟩, fun c2 => ?_⟩⟩, fun _ => ⟨(), rfl, trivial, trivial⟩⟩⟩
  · ((repeat' apply And.intro) <;> first | with_reducible rfl | omega | (dsimp only; omega) | exact RowsEq.refl _ _ _ | assumption | rfl | trivial | exact Nat.le_refl _ | skip)
  · ((repeat' apply And.intro) <;> first | with_reducible rfl | omega | (dsimp only; omega) | exact RowsEq.refl _ _ _ | assumption | rfl | trivial | exact Nat.le_refl _ | skip)
  · ((repeat' apply And.intro) <;> first | with_reducible rfl | omega | (dsimp only; omega) | exact RowsEq.refl _ _ _ | assumption | rfl | trivial | exact Nat.le_refl _ | skip)
  · simp only [decide_eq_true_eq] at c1 c2 c3
    ((repeat' apply And.intro) <;> first | with_reducible rfl | omega | (dsimp only; omega) | exact RowsEq.refl _ _ _ | assumption | rfl | trivial | exact Nat.le_refl _ | skip)
    dsimp only
    have hh := InR_uw .u64 (uw .u64 (pointI (n : Int) (k : Int) + uw .u64 (o : Int)) - 1)
    generalize uw .u64 (uw .u64 (pointI (n : Int) (k : Int) + uw .u64 (o : Int)) - 1) = h at *
    refine fun _ _ => ⟨⟨l, pc, h⟩, ?_⟩
    ((repeat' apply And.intro) <;> first | with_reducible rfl | omega | (dsimp only; omega) | exact RowsEq.refl _ _ _ | assumption | rfl | trivial | exact Nat.le_refl _ | skip)
    refine fun _ _ => ⟨⟨bitsTo x.a 5, ba, h⟩, ?_⟩
    ((repeat' apply And.intro) <;> first | with_reducible rfl | omega | (dsimp only; omega) | exact RowsEq.refl _ _ _ | assumption | rfl | trivial | exact Nat.le_refl _ | skip)
    refine fun _ _ => ⟨⟨bitsTo x.b 5, bb, h⟩, ?_⟩
    ((repeat' apply And.intro) <;> first | with_reducible rfl | omega | (dsimp only; omega) | exact RowsEq.refl _ _ _ | assumption | rfl | trivial | exact Nat.le_refl _ | skip)
    dsimp only
    simp only [InR]
    rw [← own_law ma, ← own_law mb]
    rcases cov_law hg hh.1 hh.2 with ⟨v1, v2, v3, v4, v5, v6⟩ | ⟨v1, v2, v3⟩
    · rw [v1, v5, v6]
      refine fun _ _ => ⟨fun g => absurd (by simpa using g) v2, fun _ => ⟨fun _ _ => ⟨fun g => (by simp at g), fun _ _ => ⟨fun g => (by simp at g), fun _ => ⟨by omega, o + 1, ?_⟩⟩⟩, fun g => (by simp at g)⟩⟩
      ((repeat' apply And.intro) <;> first | with_reducible rfl | omega | (dsimp only; omega) | exact RowsEq.refl _ _ _ | assumption | rfl | trivial | exact Nat.le_refl _ | skip)
    · rw [v1, v2]
      refine fun _ _ => ⟨fun g => (by simp at g), fun _ => ⟨fun g => (by simp at g), fun _ => ⟨by omega, o + 1, ?_⟩⟩⟩
      ((repeat' apply And.intro) <;> first | with_reducible rfl | omega | (dsimp only; omega) | exact RowsEq.refl _ _ _ | assumption | rfl | trivial | exact Nat.le_refl _ | skip)
  · simp only [decide_eq_true_eq, decide_eq_false_iff_not] at c1 c2 c3
    refine ⟨⟨by omega, by omega⟩, k + 1, ?_⟩
    ((repeat' apply And.intro) <;> first | with_reducible rfl | omega | (dsimp only; omega) | exact RowsEq.refl _ _ _ | assumption | rfl | trivial | exact Nat.le_refl _ | skip)
  · simp only [decide_eq_true_eq, decide_eq_false_iff_not] at c1 c2
    refine ⟨⟨by omega, by omega⟩, n + 1, ?_⟩
    ((repeat' apply And.intro) <;> first | with_reducible rfl | omega | (dsimp only; omega) | exact RowsEq.refl _ _ _ | assumption | rfl | trivial | exact Nat.le_refl _ | skip))
noncomputable def iSd1 (a : TwoA) (n : Nat) : An := .flat 14 Nat (fun s i => s.int 14 i) (fun _ i => i ≤ (fromL (plB a) n).length) (fun _ i => (fromL (plB a) n).length - i)
noncomputable def iSd2 (a : TwoA) (n : Nat) : An := .flat 19 Nat (fun s i => s.int 15 i) (fun _ i => i ≤ (toL (plB a) n).length) (fun _ i => (toL (plB a) n).length - i)
noncomputable def iSds (a : TwoA) : An := .mk 10 Nat (fun s n => ((s.int 9 (cntS (plB a) n)).int 10 (cntD (plB a) n)).int 11 n) (fun _ n => n ≤ 7) (fun _ n => 7 - n) fun n => .mk 60 [iSd1 a n, iSd2 a n] []
set_option maxHeartbeats 4000000 in
theorem bodySides : fnBody (Y Try.prog) tabPl 5 cTwo fun a => [(5, [iSds a], [])] := fnBody.of (p :=
  ∀ (a : TwoA), True →
  ∃ (a_2 : Unit), True ∧
  ∀ (b : Unit), True →
  ∃ (a_4 : Int), a.a = a_4 ∧
  True ∧
  ∀ (b : Nat), True →
  ∃ (a_6 : Int), a.b = a_6 ∧
  True ∧
  ∀ (b_1 : Nat), True →
  (((↑(bitsTo a_4 (5 : Nat)).length : Int) == (0 : Int)) = Bool.true →
  ∃ (b : Unit), Bool.true = Bool.true ∧
  True ∧
  True) ∧
  (((↑(bitsTo a_4 (5 : Nat)).length : Int) == (0 : Int)) = Bool.false →
  (((↑(bitsTo a_6 (5 : Nat)).length : Int) == (0 : Int)) = Bool.true →
  ∃ (b : Unit), Bool.true = Bool.true ∧
  True ∧
  True) ∧
  (((↑(bitsTo a_6 (5 : Nat)).length : Int) == (0 : Int)) = Bool.false →
  ∃ (a_10 : NewA), (1 : Int) = a_10.e ∧
  ((0 : Nat) = (0 : Nat) ∧
  (bitsTo a_4 (5 : Nat)).length = a_10.l.length ∧
  b = a_10.cap) ∧
  (a_10.l.length ≤ (bitsTo a_4 (5 : Nat)).length ∧
  RowsEq a_10.l.length (1 : Nat) (encRows encI (bitsTo a_4 (5 : Nat))) (encRows encI a_10.l)) ∧
  ((1 : Int) ≤ a_10.e ∧
  a_10.e ≤ (1099511627776 : Int) ∧
  mayN a_10.l = Bool.true) ∧
  ∀ (b_2 : Nat × Nat), True →
  ∃ (a_12 : NewA), (2 : Int) = a_12.e ∧
  ((0 : Nat) = (0 : Nat) ∧
  (bitsTo a_6 (5 : Nat)).length = a_12.l.length ∧
  b_1 = a_12.cap) ∧
  (a_12.l.length ≤ (bitsTo a_6 (5 : Nat)).length ∧
  RowsEq a_12.l.length (1 : Nat) (encRows encI (bitsTo a_6 (5 : Nat))) (encRows encI a_12.l)) ∧
  ((1 : Int) ≤ a_12.e ∧
  a_12.e ≤ (1099511627776 : Int) ∧
  mayN a_12.l = Bool.true) ∧
  ∀ (b_3 : Nat × Nat), True →
  ∃ (a_14 : PlanA), (0 : Nat) = (0 : Nat) ∧
  (0 : Nat) = (0 : Nat) ∧
  a_10.e = a_14.a.e ∧
  ((0 : Nat) = (0 : Nat) ∧
  a_10.l.length = a_14.a.l.length ∧
  b_2.fst = a_14.a.c1) ∧
  ((0 : Nat) = (0 : Nat) ∧
  (ptsOf a_10.l).length = a_14.a.L.length ∧
  b_2.snd = a_14.a.c2) ∧
  (a_14.a.l.length ≤ a_10.l.length ∧
  RowsEq a_14.a.l.length (1 : Nat) (encRows encI a_10.l) (encRows encI a_14.a.l)) ∧
  (a_14.a.L.length ≤ (ptsOf a_10.l).length ∧
  RowsEq a_14.a.L.length (2 : Nat) (encRows encPt (ptsOf a_10.l)) (encRows encPt a_14.a.L)) ∧
  a_12.e = a_14.b.e ∧
  ((0 : Nat) = (0 : Nat) ∧
  a_12.l.length = a_14.b.l.length ∧
  b_3.fst = a_14.b.c1) ∧
  ((0 : Nat) = (0 : Nat) ∧
  (ptsOf a_12.l).length = a_14.b.L.length ∧
  b_3.snd = a_14.b.c2) ∧
  (a_14.b.l.length ≤ a_12.l.length ∧
  RowsEq a_14.b.l.length (1 : Nat) (encRows encI a_12.l) (encRows encI a_14.b.l)) ∧
  (a_14.b.L.length ≤ (ptsOf a_12.l).length ∧
  RowsEq a_14.b.L.length (2 : Nat) (encRows encPt (ptsOf a_12.l)) (encRows encPt a_14.b.L)) ∧
  ((1 : Nat) ≤ a_14.a.L.length ∧
  a_14.a.L.length ≤ (100 : Nat) ∧
  (1 : Nat) ≤ a_14.b.L.length ∧
  a_14.b.L.length ≤ (100 : Nat)) ∧
  ∀ (b_4 : Nat), True →
  (∃ (a_16 : Nat), (0 : Int) = (↑a_16 : Int) ∧
  (0 : Int) = (↑(cntD (plB a) (↑a_16 : Int)) : Int) ∧
  (0 : Int) = (↑(cntS (plB a) (↑a_16 : Int)) : Int) ∧
  ((0 : Nat) = (0 : Nat) ∧
  (planL a_14.a.L a_14.b.L).length = (planL a_14.a.L a_14.b.L).length ∧
  b_4 = b_4) ∧
  ((↑(bitsTo a_6 (5 : Nat)).length : Int) == (0 : Int)) = ((↑(bitsTo a_6 (5 : Nat)).length : Int) == (0 : Int)) ∧
  ((0 : Nat) = (0 : Nat) ∧
  (bitsTo a_6 (5 : Nat)).length = (bitsTo a_6 (5 : Nat)).length ∧
  b_1 = b_1) ∧
  ((0 : Nat) = (0 : Nat) ∧
  (bitsTo a_4 (5 : Nat)).length = (bitsTo a_4 (5 : Nat)).length ∧
  b = b) ∧
  Bool.false = Bool.false ∧
  Bool.true = Bool.true ∧
  Bool.false = Bool.false ∧
  a.a = a.a ∧
  a.b = a.b ∧
  ((planL a_14.a.L a_14.b.L).length ≤ (planL a_14.a.L a_14.b.L).length ∧
  RowsEq (planL a_14.a.L a_14.b.L).length (4 : Nat) (encRows encM (planL a_14.a.L a_14.b.L)) (encRows encM (planL a_14.a.L a_14.b.L))) ∧
  ((bitsTo a_6 (5 : Nat)).length ≤ (bitsTo a_6 (5 : Nat)).length ∧
  RowsEq (bitsTo a_6 (5 : Nat)).length (1 : Nat) (encRows encI (bitsTo a_6 (5 : Nat))) (encRows encI (bitsTo a_6 (5 : Nat)))) ∧
  ((bitsTo a_4 (5 : Nat)).length ≤ (bitsTo a_4 (5 : Nat)).length ∧
  RowsEq (bitsTo a_4 (5 : Nat)).length (1 : Nat) (encRows encI (bitsTo a_4 (5 : Nat))) (encRows encI (bitsTo a_4 (5 : Nat)))) ∧
  a_16 ≤ (7 : Nat) ∧
  True) ∧
  ∀ (a_16 : Nat), a_16 ≤ (7 : Nat) →
  (Decidable.decide ((↑a_16 : Int) ≤ (6 : Int)) = Bool.true →
  ∃ (a_19 : SideA), ((0 : Nat) = (0 : Nat) ∧
  (planL a_14.a.L a_14.b.L).length = a_19.l.length ∧
  b_4 = a_19.cap) ∧
  (↑a_16 : Int) = a_19.n ∧
  (a_19.l.length ≤ (planL a_14.a.L a_14.b.L).length ∧
  RowsEq a_19.l.length (4 : Nat) (encRows encM (planL a_14.a.L a_14.b.L)) (encRows encM a_19.l)) ∧
  a_19.l.length < (100000 : Nat) ∧
  ∀ (b_5 : Nat), True →
  ∃ (a_21 : SideA), ((0 : Nat) = (0 : Nat) ∧
  (planL a_14.a.L a_14.b.L).length = a_21.l.length ∧
  b_4 = a_21.cap) ∧
  (↑a_16 : Int) = a_21.n ∧
  (a_21.l.length ≤ (planL a_14.a.L a_14.b.L).length ∧
  RowsEq a_21.l.length (4 : Nat) (encRows encM (planL a_14.a.L a_14.b.L)) (encRows encM a_21.l)) ∧
  a_21.l.length < (100000 : Nat) ∧
  ∀ (b_6 : Nat), True →
  (∃ (a_23 : Nat), (0 : Int) = (↑a_23 : Int) ∧
  ((0 : Nat) = (0 : Nat) ∧
  (toL a_21.l a_21.n).length = (toL a_21.l a_21.n).length ∧
  b_6 = b_6) ∧
  ((0 : Nat) = (0 : Nat) ∧
  (fromL a_19.l a_19.n).length = (fromL a_19.l a_19.n).length ∧
  b_5 = b_5) ∧
  Decidable.decide ((↑a_16 : Int) ≤ (6 : Int)) = Decidable.decide ((↑a_16 : Int) ≤ (6 : Int)) ∧
  (↑a_16 : Int) = (↑a_16 : Int) ∧
  (↑(cntD (plB a) (↑a_16 : Int)) : Int) = (↑(cntD (plB a) (↑a_16 : Int)) : Int) ∧
  (↑(cntS (plB a) (↑a_16 : Int)) : Int) = (↑(cntS (plB a) (↑a_16 : Int)) : Int) ∧
  ((0 : Nat) = (0 : Nat) ∧
  (planL a_14.a.L a_14.b.L).length = (planL a_14.a.L a_14.b.L).length ∧
  b_4 = b_4) ∧
  ((↑(bitsTo a_6 (5 : Nat)).length : Int) == (0 : Int)) = ((↑(bitsTo a_6 (5 : Nat)).length : Int) == (0 : Int)) ∧
  ((0 : Nat) = (0 : Nat) ∧
  (bitsTo a_6 (5 : Nat)).length = (bitsTo a_6 (5 : Nat)).length ∧
  b_1 = b_1) ∧
  ((0 : Nat) = (0 : Nat) ∧
  (bitsTo a_4 (5 : Nat)).length = (bitsTo a_4 (5 : Nat)).length ∧
  b = b) ∧
  Bool.false = Bool.false ∧
  Bool.true = Bool.true ∧
  Bool.false = Bool.false ∧
  a.a = a.a ∧
  a.b = a.b ∧
  ((toL a_21.l a_21.n).length ≤ (toL a_21.l a_21.n).length ∧
  RowsEq (toL a_21.l a_21.n).length (4 : Nat) (encRows encM (toL a_21.l a_21.n)) (encRows encM (toL a_21.l a_21.n))) ∧
  ((fromL a_19.l a_19.n).length ≤ (fromL a_19.l a_19.n).length ∧
  RowsEq (fromL a_19.l a_19.n).length (4 : Nat) (encRows encM (fromL a_19.l a_19.n)) (encRows encM (fromL a_19.l a_19.n))) ∧
  ((planL a_14.a.L a_14.b.L).length ≤ (planL a_14.a.L a_14.b.L).length ∧
  RowsEq (planL a_14.a.L a_14.b.L).length (4 : Nat) (encRows encM (planL a_14.a.L a_14.b.L)) (encRows encM (planL a_14.a.L a_14.b.L))) ∧
  ((bitsTo a_6 (5 : Nat)).length ≤ (bitsTo a_6 (5 : Nat)).length ∧
  RowsEq (bitsTo a_6 (5 : Nat)).length (1 : Nat) (encRows encI (bitsTo a_6 (5 : Nat))) (encRows encI (bitsTo a_6 (5 : Nat)))) ∧
  ((bitsTo a_4 (5 : Nat)).length ≤ (bitsTo a_4 (5 : Nat)).length ∧
  RowsEq (bitsTo a_4 (5 : Nat)).length (1 : Nat) (encRows encI (bitsTo a_4 (5 : Nat))) (encRows encI (bitsTo a_4 (5 : Nat)))) ∧
  a_23 ≤ (fromL (plB a) (↑a_16 : Int)).length ∧
  True) ∧
  ∀ (a_23 : Nat), a_23 ≤ (fromL (plB a) (↑a_16 : Int)).length →
  (Decidable.decide ((↑a_23 : Int) < (↑(fromL a_19.l a_19.n).length : Int)) = Bool.true →
  ((0 : Int) ≤ (↑a_23 : Int) ∧
  (↑a_23 : Int) < (↑(fromL a_19.l a_19.n).length : Int)) ∧
  (0 : Nat) + (↑a_23 : Int).toNat < (fromL a_19.l a_19.n).length ∧
  (InR IntKind.i64 (gl (fromL a_19.l a_19.n) ((0 : Nat) + (↑a_23 : Int).toNat)).s →
  (((gl (fromL a_19.l a_19.n) ((0 : Nat) + (↑a_23 : Int).toNat)).s != (↑a_16 : Int)) = Bool.true →
  ∃ (b : Unit), Bool.false = Bool.true ∧
  True ∧
  True) ∧
  (((gl (fromL a_19.l a_19.n) ((0 : Nat) + (↑a_23 : Int).toNat)).s != (↑a_16 : Int)) = Bool.false →
  InR IntKind.i64 ((↑a_23 : Int) + (1 : Int)) ∧
  ∃ (a' : Nat), (↑a_23 : Int) + (1 : Int) = (↑a' : Int) ∧
  ((0 : Nat) = (0 : Nat) ∧
  (toL a_21.l a_21.n).length = (toL a_21.l a_21.n).length ∧
  b_6 = b_6) ∧
  ((0 : Nat) = (0 : Nat) ∧
  (fromL a_19.l a_19.n).length = (fromL a_19.l a_19.n).length ∧
  b_5 = b_5) ∧
  Decidable.decide ((↑a_16 : Int) ≤ (6 : Int)) = Decidable.decide ((↑a_16 : Int) ≤ (6 : Int)) ∧
  (↑a_16 : Int) = (↑a_16 : Int) ∧
  (↑(cntD (plB a) (↑a_16 : Int)) : Int) = (↑(cntD (plB a) (↑a_16 : Int)) : Int) ∧
  (↑(cntS (plB a) (↑a_16 : Int)) : Int) = (↑(cntS (plB a) (↑a_16 : Int)) : Int) ∧
  ((0 : Nat) = (0 : Nat) ∧
  (planL a_14.a.L a_14.b.L).length = (planL a_14.a.L a_14.b.L).length ∧
  b_4 = b_4) ∧
  ((↑(bitsTo a_6 (5 : Nat)).length : Int) == (0 : Int)) = ((↑(bitsTo a_6 (5 : Nat)).length : Int) == (0 : Int)) ∧
  ((0 : Nat) = (0 : Nat) ∧
  (bitsTo a_6 (5 : Nat)).length = (bitsTo a_6 (5 : Nat)).length ∧
  b_1 = b_1) ∧
  ((0 : Nat) = (0 : Nat) ∧
  (bitsTo a_4 (5 : Nat)).length = (bitsTo a_4 (5 : Nat)).length ∧
  b = b) ∧
  Bool.false = Bool.false ∧
  Bool.true = Bool.true ∧
  Bool.false = Bool.false ∧
  a.a = a.a ∧
  a.b = a.b ∧
  ((toL a_21.l a_21.n).length ≤ (toL a_21.l a_21.n).length ∧
  RowsEq (toL a_21.l a_21.n).length (4 : Nat) (encRows encM (toL a_21.l a_21.n)) (encRows encM (toL a_21.l a_21.n))) ∧
  ((fromL a_19.l a_19.n).length ≤ (fromL a_19.l a_19.n).length ∧
  RowsEq (fromL a_19.l a_19.n).length (4 : Nat) (encRows encM (fromL a_19.l a_19.n)) (encRows encM (fromL a_19.l a_19.n))) ∧
  ((planL a_14.a.L a_14.b.L).length ≤ (planL a_14.a.L a_14.b.L).length ∧
  RowsEq (planL a_14.a.L a_14.b.L).length (4 : Nat) (encRows encM (planL a_14.a.L a_14.b.L)) (encRows encM (planL a_14.a.L a_14.b.L))) ∧
  ((bitsTo a_6 (5 : Nat)).length ≤ (bitsTo a_6 (5 : Nat)).length ∧
  RowsEq (bitsTo a_6 (5 : Nat)).length (1 : Nat) (encRows encI (bitsTo a_6 (5 : Nat))) (encRows encI (bitsTo a_6 (5 : Nat)))) ∧
  ((bitsTo a_4 (5 : Nat)).length ≤ (bitsTo a_4 (5 : Nat)).length ∧
  RowsEq (bitsTo a_4 (5 : Nat)).length (1 : Nat) (encRows encI (bitsTo a_4 (5 : Nat))) (encRows encI (bitsTo a_4 (5 : Nat)))) ∧
  a' ≤ (fromL (plB a) (↑a_16 : Int)).length ∧
  (fromL (plB a) (↑a_16 : Int)).length - a' < (fromL (plB a) (↑a_16 : Int)).length - a_23))) ∧
  (Decidable.decide ((↑a_23 : Int) < (↑(fromL a_19.l a_19.n).length : Int)) = Bool.false →
  (∃ (a_26 : Nat), (0 : Int) = (↑a_26 : Int) ∧
  Decidable.decide ((↑a_23 : Int) < (↑(fromL a_19.l a_19.n).length : Int)) = Decidable.decide ((↑a_23 : Int) < (↑(fromL a_19.l a_19.n).length : Int)) ∧
  (↑a_23 : Int) = (↑a_23 : Int) ∧
  ((0 : Nat) = (0 : Nat) ∧
  (toL a_21.l a_21.n).length = (toL a_21.l a_21.n).length ∧
  b_6 = b_6) ∧
  ((0 : Nat) = (0 : Nat) ∧
  (fromL a_19.l a_19.n).length = (fromL a_19.l a_19.n).length ∧
  b_5 = b_5) ∧
  Decidable.decide ((↑a_16 : Int) ≤ (6 : Int)) = Decidable.decide ((↑a_16 : Int) ≤ (6 : Int)) ∧
  (↑a_16 : Int) = (↑a_16 : Int) ∧
  (↑(cntD (plB a) (↑a_16 : Int)) : Int) = (↑(cntD (plB a) (↑a_16 : Int)) : Int) ∧
  (↑(cntS (plB a) (↑a_16 : Int)) : Int) = (↑(cntS (plB a) (↑a_16 : Int)) : Int) ∧
  ((0 : Nat) = (0 : Nat) ∧
  (planL a_14.a.L a_14.b.L).length = (planL a_14.a.L a_14.b.L).length ∧
  b_4 = b_4) ∧
  ((↑(bitsTo a_6 (5 : Nat)).length : Int) == (0 : Int)) = ((↑(bitsTo a_6 (5 : Nat)).length : Int) == (0 : Int)) ∧
  ((0 : Nat) = (0 : Nat) ∧
  (bitsTo a_6 (5 : Nat)).length = (bitsTo a_6 (5 : Nat)).length ∧
  b_1 = b_1) ∧
  ((0 : Nat) = (0 : Nat) ∧
  (bitsTo a_4 (5 : Nat)).length = (bitsTo a_4 (5 : Nat)).length ∧
  b = b) ∧
  Bool.false = Bool.false ∧
  Bool.true = Bool.true ∧
  Bool.false = Bool.false ∧
  a.a = a.a ∧
  a.b = a.b ∧
  ((toL a_21.l a_21.n).length ≤ (toL a_21.l a_21.n).length ∧
  RowsEq (toL a_21.l a_21.n).length (4 : Nat) (encRows encM (toL a_21.l a_21.n)) (encRows encM (toL a_21.l a_21.n))) ∧
  ((fromL a_19.l a_19.n).length ≤ (fromL a_19.l a_19.n).length ∧
  RowsEq (fromL a_19.l a_19.n).length (4 : Nat) (encRows encM (fromL a_19.l a_19.n)) (encRows encM (fromL a_19.l a_19.n))) ∧
  ((planL a_14.a.L a_14.b.L).length ≤ (planL a_14.a.L a_14.b.L).length ∧
  RowsEq (planL a_14.a.L a_14.b.L).length (4 : Nat) (encRows encM (planL a_14.a.L a_14.b.L)) (encRows encM (planL a_14.a.L a_14.b.L))) ∧
  ((bitsTo a_6 (5 : Nat)).length ≤ (bitsTo a_6 (5 : Nat)).length ∧
  RowsEq (bitsTo a_6 (5 : Nat)).length (1 : Nat) (encRows encI (bitsTo a_6 (5 : Nat))) (encRows encI (bitsTo a_6 (5 : Nat)))) ∧
  ((bitsTo a_4 (5 : Nat)).length ≤ (bitsTo a_4 (5 : Nat)).length ∧
  RowsEq (bitsTo a_4 (5 : Nat)).length (1 : Nat) (encRows encI (bitsTo a_4 (5 : Nat))) (encRows encI (bitsTo a_4 (5 : Nat)))) ∧
  a_26 ≤ (toL (plB a) (↑a_16 : Int)).length ∧
  True) ∧
  ∀ (a_26 : Nat), a_26 ≤ (toL (plB a) (↑a_16 : Int)).length →
  (Decidable.decide ((↑a_26 : Int) < (↑(toL a_21.l a_21.n).length : Int)) = Bool.true →
  ((0 : Int) ≤ (↑a_26 : Int) ∧
  (↑a_26 : Int) < (↑(toL a_21.l a_21.n).length : Int)) ∧
  (0 : Nat) + (↑a_26 : Int).toNat < (toL a_21.l a_21.n).length ∧
  (InR IntKind.i64 (gl (toL a_21.l a_21.n) ((0 : Nat) + (↑a_26 : Int).toNat)).d →
  (((gl (toL a_21.l a_21.n) ((0 : Nat) + (↑a_26 : Int).toNat)).d != (↑a_16 : Int)) = Bool.true →
  ∃ (b : Unit), Bool.false = Bool.true ∧
  True ∧
  True) ∧
  (((gl (toL a_21.l a_21.n) ((0 : Nat) + (↑a_26 : Int).toNat)).d != (↑a_16 : Int)) = Bool.false →
  (Decidable.decide ((0 : Int) < (↑a_26 : Int)) = Bool.true →
  ((0 : Int) ≤ (↑a_26 : Int) ∧
  (↑a_26 : Int) < (↑(toL a_21.l a_21.n).length : Int)) ∧
  (0 : Nat) + (↑a_26 : Int).toNat < (toL a_21.l a_21.n).length ∧
  (InR IntKind.u64 (gl (toL a_21.l a_21.n) ((0 : Nat) + (↑a_26 : Int).toNat)).f →
  InR IntKind.i64 ((↑a_26 : Int) - (1 : Int)) ∧
  ((0 : Int) ≤ (↑a_26 : Int) - (1 : Int) ∧
  (↑a_26 : Int) - (1 : Int) < (↑(toL a_21.l a_21.n).length : Int)) ∧
  (0 : Nat) + ((↑a_26 : Int) - (1 : Int)).toNat < (toL a_21.l a_21.n).length ∧
  (InR IntKind.u64 (gl (toL a_21.l a_21.n) ((0 : Nat) + ((↑a_26 : Int) - (1 : Int)).toNat)).t →
  (Decidable.decide ((gl (toL a_21.l a_21.n) ((0 : Nat) + (↑a_26 : Int).toNat)).f ≤ (gl (toL a_21.l a_21.n) ((0 : Nat) + ((↑a_26 : Int) - (1 : Int)).toNat)).t) = Bool.true →
  ∃ (b : Unit), Bool.false = Bool.true ∧
  True ∧
  True) ∧
  (Decidable.decide ((gl (toL a_21.l a_21.n) ((0 : Nat) + (↑a_26 : Int).toNat)).f ≤ (gl (toL a_21.l a_21.n) ((0 : Nat) + ((↑a_26 : Int) - (1 : Int)).toNat)).t) = Bool.false →
  InR IntKind.i64 ((↑a_26 : Int) + (1 : Int)) ∧
  ∃ (a' : Nat), (↑a_26 : Int) + (1 : Int) = (↑a' : Int) ∧
  Decidable.decide ((↑a_23 : Int) < (↑(fromL a_19.l a_19.n).length : Int)) = Decidable.decide ((↑a_23 : Int) < (↑(fromL a_19.l a_19.n).length : Int)) ∧
  (↑a_23 : Int) = (↑a_23 : Int) ∧
  ((0 : Nat) = (0 : Nat) ∧
  (toL a_21.l a_21.n).length = (toL a_21.l a_21.n).length ∧
  b_6 = b_6) ∧
  ((0 : Nat) = (0 : Nat) ∧
  (fromL a_19.l a_19.n).length = (fromL a_19.l a_19.n).length ∧
  b_5 = b_5) ∧
  Decidable.decide ((↑a_16 : Int) ≤ (6 : Int)) = Decidable.decide ((↑a_16 : Int) ≤ (6 : Int)) ∧
  (↑a_16 : Int) = (↑a_16 : Int) ∧
  (↑(cntD (plB a) (↑a_16 : Int)) : Int) = (↑(cntD (plB a) (↑a_16 : Int)) : Int) ∧
  (↑(cntS (plB a) (↑a_16 : Int)) : Int) = (↑(cntS (plB a) (↑a_16 : Int)) : Int) ∧
  ((0 : Nat) = (0 : Nat) ∧
  (planL a_14.a.L a_14.b.L).length = (planL a_14.a.L a_14.b.L).length ∧
  b_4 = b_4) ∧
  ((↑(bitsTo a_6 (5 : Nat)).length : Int) == (0 : Int)) = ((↑(bitsTo a_6 (5 : Nat)).length : Int) == (0 : Int)) ∧
  ((0 : Nat) = (0 : Nat) ∧
  (bitsTo a_6 (5 : Nat)).length = (bitsTo a_6 (5 : Nat)).length ∧
  b_1 = b_1) ∧
  ((0 : Nat) = (0 : Nat) ∧
  (bitsTo a_4 (5 : Nat)).length = (bitsTo a_4 (5 : Nat)).length ∧
  b = b) ∧
  Bool.false = Bool.false ∧
  Bool.true = Bool.true ∧
  Bool.false = Bool.false ∧
  a.a = a.a ∧
  a.b = a.b ∧
  ((toL a_21.l a_21.n).length ≤ (toL a_21.l a_21.n).length ∧
  RowsEq (toL a_21.l a_21.n).length (4 : Nat) (encRows encM (toL a_21.l a_21.n)) (encRows encM (toL a_21.l a_21.n))) ∧
  ((fromL a_19.l a_19.n).length ≤ (fromL a_19.l a_19.n).length ∧
  RowsEq (fromL a_19.l a_19.n).length (4 : Nat) (encRows encM (fromL a_19.l a_19.n)) (encRows encM (fromL a_19.l a_19.n))) ∧
  ((planL a_14.a.L a_14.b.L).length ≤ (planL a_14.a.L a_14.b.L).length ∧
  RowsEq (planL a_14.a.L a_14.b.L).length (4 : Nat) (encRows encM (planL a_14.a.L a_14.b.L)) (encRows encM (planL a_14.a.L a_14.b.L))) ∧
  ((bitsTo a_6 (5 : Nat)).length ≤ (bitsTo a_6 (5 : Nat)).length ∧
  RowsEq (bitsTo a_6 (5 : Nat)).length (1 : Nat) (encRows encI (bitsTo a_6 (5 : Nat))) (encRows encI (bitsTo a_6 (5 : Nat)))) ∧
  ((bitsTo a_4 (5 : Nat)).length ≤ (bitsTo a_4 (5 : Nat)).length ∧
  RowsEq (bitsTo a_4 (5 : Nat)).length (1 : Nat) (encRows encI (bitsTo a_4 (5 : Nat))) (encRows encI (bitsTo a_4 (5 : Nat)))) ∧
  a' ≤ (toL (plB a) (↑a_16 : Int)).length ∧
  (toL (plB a) (↑a_16 : Int)).length - a' < (toL (plB a) (↑a_16 : Int)).length - a_26)))) ∧
  (Decidable.decide ((0 : Int) < (↑a_26 : Int)) = Bool.false →
  InR IntKind.i64 ((↑a_26 : Int) + (1 : Int)) ∧
  ∃ (a' : Nat), (↑a_26 : Int) + (1 : Int) = (↑a' : Int) ∧
  Decidable.decide ((↑a_23 : Int) < (↑(fromL a_19.l a_19.n).length : Int)) = Decidable.decide ((↑a_23 : Int) < (↑(fromL a_19.l a_19.n).length : Int)) ∧
  (↑a_23 : Int) = (↑a_23 : Int) ∧
  ((0 : Nat) = (0 : Nat) ∧
  (toL a_21.l a_21.n).length = (toL a_21.l a_21.n).length ∧
  b_6 = b_6) ∧
  ((0 : Nat) = (0 : Nat) ∧
  (fromL a_19.l a_19.n).length = (fromL a_19.l a_19.n).length ∧
  b_5 = b_5) ∧
  Decidable.decide ((↑a_16 : Int) ≤ (6 : Int)) = Decidable.decide ((↑a_16 : Int) ≤ (6 : Int)) ∧
  (↑a_16 : Int) = (↑a_16 : Int) ∧
  (↑(cntD (plB a) (↑a_16 : Int)) : Int) = (↑(cntD (plB a) (↑a_16 : Int)) : Int) ∧
  (↑(cntS (plB a) (↑a_16 : Int)) : Int) = (↑(cntS (plB a) (↑a_16 : Int)) : Int) ∧
  ((0 : Nat) = (0 : Nat) ∧
  (planL a_14.a.L a_14.b.L).length = (planL a_14.a.L a_14.b.L).length ∧
  b_4 = b_4) ∧
  ((↑(bitsTo a_6 (5 : Nat)).length : Int) == (0 : Int)) = ((↑(bitsTo a_6 (5 : Nat)).length : Int) == (0 : Int)) ∧
  ((0 : Nat) = (0 : Nat) ∧
  (bitsTo a_6 (5 : Nat)).length = (bitsTo a_6 (5 : Nat)).length ∧
  b_1 = b_1) ∧
  ((0 : Nat) = (0 : Nat) ∧
  (bitsTo a_4 (5 : Nat)).length = (bitsTo a_4 (5 : Nat)).length ∧
  b = b) ∧
  Bool.false = Bool.false ∧
  Bool.true = Bool.true ∧
  Bool.false = Bool.false ∧
  a.a = a.a ∧
  a.b = a.b ∧
  ((toL a_21.l a_21.n).length ≤ (toL a_21.l a_21.n).length ∧
  RowsEq (toL a_21.l a_21.n).length (4 : Nat) (encRows encM (toL a_21.l a_21.n)) (encRows encM (toL a_21.l a_21.n))) ∧
  ((fromL a_19.l a_19.n).length ≤ (fromL a_19.l a_19.n).length ∧
  RowsEq (fromL a_19.l a_19.n).length (4 : Nat) (encRows encM (fromL a_19.l a_19.n)) (encRows encM (fromL a_19.l a_19.n))) ∧
  ((planL a_14.a.L a_14.b.L).length ≤ (planL a_14.a.L a_14.b.L).length ∧
  RowsEq (planL a_14.a.L a_14.b.L).length (4 : Nat) (encRows encM (planL a_14.a.L a_14.b.L)) (encRows encM (planL a_14.a.L a_14.b.L))) ∧
  ((bitsTo a_6 (5 : Nat)).length ≤ (bitsTo a_6 (5 : Nat)).length ∧
  RowsEq (bitsTo a_6 (5 : Nat)).length (1 : Nat) (encRows encI (bitsTo a_6 (5 : Nat))) (encRows encI (bitsTo a_6 (5 : Nat)))) ∧
  ((bitsTo a_4 (5 : Nat)).length ≤ (bitsTo a_4 (5 : Nat)).length ∧
  RowsEq (bitsTo a_4 (5 : Nat)).length (1 : Nat) (encRows encI (bitsTo a_4 (5 : Nat))) (encRows encI (bitsTo a_4 (5 : Nat)))) ∧
  a' ≤ (toL (plB a) (↑a_16 : Int)).length ∧
  (toL (plB a) (↑a_16 : Int)).length - a' < (toL (plB a) (↑a_16 : Int)).length - a_26)))) ∧
  (Decidable.decide ((↑a_26 : Int) < (↑(toL a_21.l a_21.n).length : Int)) = Bool.false →
  InR IntKind.i64 ((↑(cntS (plB a) (↑a_16 : Int)) : Int) + (↑(fromL a_19.l a_19.n).length : Int)) ∧
  InR IntKind.i64 ((↑(cntD (plB a) (↑a_16 : Int)) : Int) + (↑(toL a_21.l a_21.n).length : Int)) ∧
  InR IntKind.i64 ((↑a_16 : Int) + (1 : Int)) ∧
  ∃ (a' : Nat), (↑a_16 : Int) + (1 : Int) = (↑a' : Int) ∧
  (↑(cntD (plB a) (↑a_16 : Int)) : Int) + (↑(toL a_21.l a_21.n).length : Int) = (↑(cntD (plB a) (↑a' : Int)) : Int) ∧
  (↑(cntS (plB a) (↑a_16 : Int)) : Int) + (↑(fromL a_19.l a_19.n).length : Int) = (↑(cntS (plB a) (↑a' : Int)) : Int) ∧
  ((0 : Nat) = (0 : Nat) ∧
  (planL a_14.a.L a_14.b.L).length = (planL a_14.a.L a_14.b.L).length ∧
  b_4 = b_4) ∧
  ((↑(bitsTo a_6 (5 : Nat)).length : Int) == (0 : Int)) = ((↑(bitsTo a_6 (5 : Nat)).length : Int) == (0 : Int)) ∧
  ((0 : Nat) = (0 : Nat) ∧
  (bitsTo a_6 (5 : Nat)).length = (bitsTo a_6 (5 : Nat)).length ∧
  b_1 = b_1) ∧
  ((0 : Nat) = (0 : Nat) ∧
  (bitsTo a_4 (5 : Nat)).length = (bitsTo a_4 (5 : Nat)).length ∧
  b = b) ∧
  Bool.false = Bool.false ∧
  Bool.true = Bool.true ∧
  Bool.false = Bool.false ∧
  a.a = a.a ∧
  a.b = a.b ∧
  ((planL a_14.a.L a_14.b.L).length ≤ (planL a_14.a.L a_14.b.L).length ∧
  RowsEq (planL a_14.a.L a_14.b.L).length (4 : Nat) (encRows encM (planL a_14.a.L a_14.b.L)) (encRows encM (planL a_14.a.L a_14.b.L))) ∧
  ((bitsTo a_6 (5 : Nat)).length ≤ (bitsTo a_6 (5 : Nat)).length ∧
  RowsEq (bitsTo a_6 (5 : Nat)).length (1 : Nat) (encRows encI (bitsTo a_6 (5 : Nat))) (encRows encI (bitsTo a_6 (5 : Nat)))) ∧
  ((bitsTo a_4 (5 : Nat)).length ≤ (bitsTo a_4 (5 : Nat)).length ∧
  RowsEq (bitsTo a_4 (5 : Nat)).length (1 : Nat) (encRows encI (bitsTo a_4 (5 : Nat))) (encRows encI (bitsTo a_4 (5 : Nat)))) ∧
  a' ≤ (7 : Nat) ∧
  (7 : Nat) - a' < (7 : Nat) - a_16))) ∧
  (Decidable.decide ((↑a_16 : Int) ≤ (6 : Int)) = Bool.false →
  (((↑(cntS (plB a) (↑a_16 : Int)) : Int) == (↑(planL a_14.a.L a_14.b.L).length : Int)) = Bool.true →
  (((↑(cntD (plB a) (↑a_16 : Int)) : Int) == (↑(planL a_14.a.L a_14.b.L).length : Int)) = Bool.true →
  ∃ (a : NewA), (1 : Int) = a.e ∧
  ((0 : Nat) = (0 : Nat) ∧
  (bitsTo a_4 (5 : Nat)).length = a.l.length ∧
  b = a.cap) ∧
  (a.l.length ≤ (bitsTo a_4 (5 : Nat)).length ∧
  RowsEq a.l.length (1 : Nat) (encRows encI (bitsTo a_4 (5 : Nat))) (encRows encI a.l)) ∧
  ((1 : Int) ≤ a.e ∧
  a.e ≤ (1099511627776 : Int) ∧
  mayN a.l = Bool.true) ∧
  ∀ (b_5 : Nat × Nat), True →
  ∃ (a_21 : NewA), (9 : Int) = a_21.e ∧
  ((0 : Nat) = (0 : Nat) ∧
  (bitsTo a_4 (5 : Nat)).length = a_21.l.length ∧
  b = a_21.cap) ∧
  (a_21.l.length ≤ (bitsTo a_4 (5 : Nat)).length ∧
  RowsEq a_21.l.length (1 : Nat) (encRows encI (bitsTo a_4 (5 : Nat))) (encRows encI a_21.l)) ∧
  ((1 : Int) ≤ a_21.e ∧
  a_21.e ≤ (1099511627776 : Int) ∧
  mayN a_21.l = Bool.true) ∧
  ∀ (b : Nat × Nat), True →
  ∃ (a_23 : PlanA), (0 : Nat) = (0 : Nat) ∧
  (0 : Nat) = (0 : Nat) ∧
  a.e = a_23.a.e ∧
  ((0 : Nat) = (0 : Nat) ∧
  a.l.length = a_23.a.l.length ∧
  b_5.fst = a_23.a.c1) ∧
  ((0 : Nat) = (0 : Nat) ∧
  (ptsOf a.l).length = a_23.a.L.length ∧
  b_5.snd = a_23.a.c2) ∧
  (a_23.a.l.length ≤ a.l.length ∧
  RowsEq a_23.a.l.length (1 : Nat) (encRows encI a.l) (encRows encI a_23.a.l)) ∧
  (a_23.a.L.length ≤ (ptsOf a.l).length ∧
  RowsEq a_23.a.L.length (2 : Nat) (encRows encPt (ptsOf a.l)) (encRows encPt a_23.a.L)) ∧
  a_21.e = a_23.b.e ∧
  ((0 : Nat) = (0 : Nat) ∧
  a_21.l.length = a_23.b.l.length ∧
  b.fst = a_23.b.c1) ∧
  ((0 : Nat) = (0 : Nat) ∧
  (ptsOf a_21.l).length = a_23.b.L.length ∧
  b.snd = a_23.b.c2) ∧
  (a_23.b.l.length ≤ a_21.l.length ∧
  RowsEq a_23.b.l.length (1 : Nat) (encRows encI a_21.l) (encRows encI a_23.b.l)) ∧
  (a_23.b.L.length ≤ (ptsOf a_21.l).length ∧
  RowsEq a_23.b.L.length (2 : Nat) (encRows encPt (ptsOf a_21.l)) (encRows encPt a_23.b.L)) ∧
  ((1 : Nat) ≤ a_23.a.L.length ∧
  a_23.a.L.length ≤ (100 : Nat) ∧
  (1 : Nat) ≤ a_23.b.L.length ∧
  a_23.b.L.length ≤ (100 : Nat)) ∧
  ∀ (b : Nat), True →
  ∃ (b : Unit), ((↑(planL a_23.a.L a_23.b.L).length : Int) == (0 : Int)) = Bool.true ∧
  True ∧
  True) ∧
  (((↑(cntD (plB a) (↑a_16 : Int)) : Int) == (↑(planL a_14.a.L a_14.b.L).length : Int)) = Bool.false →
  ∃ (b : Unit), Bool.false = Bool.true ∧
  True ∧
  True)) ∧
  (((↑(cntS (plB a) (↑a_16 : Int)) : Int) == (↑(planL a_14.a.L a_14.b.L).length : Int)) = Bool.false →
  ∃ (b : Unit), Bool.false = Bool.true ∧
  True ∧
  True))))) (by kernel_rfl) (by
  intro x _
  refine ⟨(), trivial, fun _ _ => ⟨x.a, ?_⟩⟩
  ((repeat' apply And.intro) <;> first | with_reducible rfl | omega | (dsimp only; omega) | exact RowsEq.refl _ _ _ | assumption | rfl | trivial | exact Nat.le_refl _ | skip)
  refine fun ba _ => ⟨x.b, ?_⟩
  ((repeat' apply And.intro) <;> first | with_reducible rfl | omega | (dsimp only; omega) | exact RowsEq.refl _ _ _ | assumption | rfl | trivial | exact Nat.le_refl _ | skip)
  refine fun bb _ => ⟨fun _ => ⟨(), rfl, trivial, trivial⟩, fun k1 => ⟨fun _ => ⟨(), rfl, trivial, trivial⟩, fun k2 => ⟨⟨1, bitsTo x.a 5, ba⟩, ?_⟩⟩⟩
  simp only [beq_eq_false_iff_ne] at k1 k2
  have la := bits_len x.a 5
  have lb := bits_len x.b 5
  have ma := bits_may (b := x.a) (by omega)
  have mb := bits_may (b := x.b) (by omega)
  have pa := ptsOf_length ma
  have pb := ptsOf_length mb
  have hg := plan_good (pts_in ma) (pts_in mb)
  have hx : plB x = planL (ptsOf (bitsTo x.a 5)) (ptsOf (bitsTo x.b 5)) := rfl
  have hll := plan_len (ptsOf (bitsTo x.a 5)) (ptsOf (bitsTo x.b 5))
  ((repeat' apply And.intro) <;> first | with_reducible rfl | omega | (dsimp only; omega) | exact RowsEq.refl _ _ _ | assumption | rfl | trivial | exact Nat.le_refl _ | skip)
  refine fun ra _ => ⟨⟨2, bitsTo x.b 5, bb⟩, ?_⟩
  ((repeat' apply And.intro) <;> first | with_reducible rfl | omega | (dsimp only; omega) | exact RowsEq.refl _ _ _ | assumption | rfl | trivial | exact Nat.le_refl _ | skip)
  refine fun rb _ => ⟨⟨⟨1, bitsTo x.a 5, ra.1, ptsOf (bitsTo x.a 5), ra.2⟩, ⟨2, bitsTo x.b 5, rb.1, ptsOf (bitsTo x.b 5), rb.2⟩⟩, ?_⟩
  ((repeat' apply And.intro) <;> first | with_reducible rfl | omega | (dsimp only; omega) | exact RowsEq.refl _ _ _ | assumption | rfl | trivial | exact Nat.le_refl _ | skip)
  refine fun pc _ => ?_
  dsimp only
  rw [hx]
  have hnode := plan_nodes ma mb
  have hbnd : ∀ m ∈ planL (ptsOf (bitsTo x.a 5)) (ptsOf (bitsTo x.b 5)), (1 ≤ m.s ∧ m.s ≤ 5) ∧ 1 ≤ m.d ∧ m.d ≤ 5 := fun m hm => ⟨mayN_mem ma (hnode m hm).1, mayN_mem mb (hnode m hm).2⟩
  have hp := good_pair hg
  have hsame := plan_same (ptsOf (bitsTo x.a 5))
  clear hg hnode hx
  generalize planL (ptsOf (bitsTo x.a 5)) (ptsOf (bitsTo x.b 5)) = l at *
  have z0 : cntS l ((0 : Nat) : Int) = 0 := cnt_none fun v hv => by
    obtain ⟨m, hm, rfl⟩ := List.mem_map.1 hv
    have := (hbnd m hm).1; omega
  have z1 : cntD l ((0 : Nat) : Int) = 0 := cnt_none fun v hv => by
    obtain ⟨m, hm, rfl⟩ := List.mem_map.1 hv
    have := (hbnd m hm).2; omega
  have z2 : cntS l ((7 : Nat) : Int) = l.length := by
    have : cntS l ((7 : Nat) : Int) = (l.map MvR.s).length := cnt_all fun v hv => by
      obtain ⟨m, hm, rfl⟩ := List.mem_map.1 hv
      have := (hbnd m hm).1; omega
    rw [this, List.length_map]
  have z3 : cntD l ((7 : Nat) : Int) = l.length := by
    have : cntD l ((7 : Nat) : Int) = (l.map MvR.d).length := cnt_all fun v hv => by
      obtain ⟨m, hm, rfl⟩ := List.mem_map.1 hv
      have := (hbnd m hm).2; omega
    rw [this, List.length_map]
  have b1 : ∀ n, cntS l n ≤ l.length := fun n => by
    have := List.length_filter_le (fun x => decide (x < n)) (l.map MvR.s)
    rwa [List.length_map] at this
  have b2 : ∀ n, cntD l n ≤ l.length := fun n => by
    have := List.length_filter_le (fun x => decide (x < n)) (l.map MvR.d)
    rwa [List.length_map] at this
  simp only [Nat.zero_add, Int.toNat_natCast, InR]
  refine ⟨⟨0, ?_⟩, fun n hn => ⟨fun c1 => ⟨⟨l, pc, (n : Int)⟩, ?_⟩, fun c1 => ?_⟩⟩
  · ((repeat' apply And.intro) <;> first | with_reducible rfl | omega | (dsimp only; omega) | exact RowsEq.refl _ _ _ | assumption | rfl | trivial | exact Nat.le_refl _ | skip)
  · simp only [decide_eq_true_eq] at c1
    ((repeat' apply And.intro) <;> first | with_reducible rfl | omega | (dsimp only; omega) | exact RowsEq.refl _ _ _ | assumption | rfl | trivial | exact Nat.le_refl _ | skip)
    refine fun c2 _ => ⟨⟨l, pc, (n : Int)⟩, ?_⟩
    ((repeat' apply And.intro) <;> first | with_reducible rfl | omega | (dsimp only; omega) | exact RowsEq.refl _ _ _ | assumption | rfl | trivial | exact Nat.le_refl _ | skip)
    dsimp only
    have f1 : (fromL l (n : Int)).length ≤ l.length := List.length_filter_le _ _
    have f2 : (toL l (n : Int)).length ≤ l.length := List.length_filter_le _ _
    refine fun c3 _ => ⟨⟨0, ?_⟩, fun i hi => ⟨fun d1 => ?_, fun d1 => ⟨⟨0, ?_⟩, fun j hj => ⟨fun d2 => ?_, fun d2 => ?_⟩⟩⟩⟩
    · ((repeat' apply And.intro) <;> first | with_reducible rfl | omega | (dsimp only; omega) | exact RowsEq.refl _ _ _ | assumption | rfl | trivial | exact Nat.le_refl _ | skip)
    · simp only [decide_eq_true_eq] at d1
      have hi : i < (fromL l (n : Int)).length := by omega
      have es : (gl (fromL l (n : Int)) i).s = (n : Int) := by
        exact of_decide_eq_true (List.mem_filter.1 (gl_mem hi)).2
      rw [es]
      ((repeat' apply And.intro) <;> first | with_reducible rfl | omega | (dsimp only; omega) | exact RowsEq.refl _ _ _ | assumption | rfl | trivial | exact Nat.le_refl _ | skip)
      refine fun _ => ⟨fun g => (by simp at g), fun _ => ⟨by omega, i + 1, ?_⟩⟩
      ((repeat' apply And.intro) <;> first | with_reducible rfl | omega | (dsimp only; omega) | exact RowsEq.refl _ _ _ | assumption | rfl | trivial | exact Nat.le_refl _ | skip)
    · ((repeat' apply And.intro) <;> first | with_reducible rfl | omega | (dsimp only; omega) | exact RowsEq.refl _ _ _ | assumption | rfl | trivial | exact Nat.le_refl _ | skip)
    · simp only [decide_eq_true_eq] at d2
      have hj : j < (toL l (n : Int)).length := by omega
      have es : (gl (toL l (n : Int)) j).d = (n : Int) := by
        exact of_decide_eq_true (List.mem_filter.1 (gl_mem hj)).2
      rw [es]
      ((repeat' apply And.intro) <;> first | with_reducible rfl | omega | (dsimp only; omega) | exact RowsEq.refl _ _ _ | assumption | rfl | trivial | exact Nat.le_refl _ | skip)
      refine fun _ => ⟨fun g => (by simp at g), fun _ => ⟨fun d3 => ?_, fun d3 => ⟨by omega, j + 1, ?_⟩⟩⟩
      · simp only [decide_eq_true_eq] at d3
        have ej : ((j : Int) - 1).toNat = j - 1 := by omega
        rw [ej]
        have hpr : (gl (toL l (n : Int)) (j - 1)).t < (gl (toL l (n : Int)) j).f := by
          have := List.pairwise_iff_getElem.1 (hp.filter fun m => decide (m.d = (n : Int))) (j - 1) j (show j - 1 < (toL l (n : Int)).length by omega) hj (by omega)
          rw [gl_eq hj, gl_eq (show j - 1 < (toL l (n : Int)).length by omega)]
          exact this
        ((repeat' apply And.intro) <;> first | with_reducible rfl | omega | (dsimp only; omega) | exact RowsEq.refl _ _ _ | assumption | rfl | trivial | exact Nat.le_refl _ | skip)
        intro _
        ((repeat' apply And.intro) <;> first | with_reducible rfl | omega | (dsimp only; omega) | exact RowsEq.refl _ _ _ | assumption | rfl | trivial | exact Nat.le_refl _ | skip)
        refine fun _ => ⟨fun g => (by exfalso; simp only [decide_eq_true_eq] at g; omega), fun _ => ⟨by omega, j + 1, ?_⟩⟩
        ((repeat' apply And.intro) <;> first | with_reducible rfl | omega | (dsimp only; omega) | exact RowsEq.refl _ _ _ | assumption | rfl | trivial | exact Nat.le_refl _ | skip)
      · ((repeat' apply And.intro) <;> first | with_reducible rfl | omega | (dsimp only; omega) | exact RowsEq.refl _ _ _ | assumption | rfl | trivial | exact Nat.le_refl _ | skip)
    · have q1 : cntS l ((n + 1 : Nat) : Int) = cntS l (n : Int) + (fromL l (n : Int)).length := cntS_next l n
      have q2 : cntD l ((n + 1 : Nat) : Int) = cntD l (n : Int) + (toL l (n : Int)).length := cntD_next l n
      have y1 := b1 (n : Int)
      have y2 := b2 (n : Int)
      refine ⟨by omega, by omega, by omega, n + 1, ?_⟩
      ((repeat' apply And.intro) <;> first | with_reducible rfl | omega | (dsimp only; omega) | exact RowsEq.refl _ _ _ | assumption | rfl | trivial | exact Nat.le_refl _ | skip)
  · simp only [decide_eq_false_iff_not] at c1
    have hn : n = 7 := by omega
    subst hn
    rw [z2, z3]
    refine ⟨fun _ => ⟨fun _ => ⟨⟨1, bitsTo x.a 5, ba⟩, ?_⟩, fun g => (by simp at g)⟩, fun g => (by simp at g)⟩
    ((repeat' apply And.intro) <;> first | with_reducible rfl | omega | (dsimp only; omega) | exact RowsEq.refl _ _ _ | assumption | rfl | trivial | exact Nat.le_refl _ | skip)
    refine fun rc _ => ⟨⟨9, bitsTo x.a 5, ba⟩, ?_⟩
    ((repeat' apply And.intro) <;> first | with_reducible rfl | omega | (dsimp only; omega) | exact RowsEq.refl _ _ _ | assumption | rfl | trivial | exact Nat.le_refl _ | skip)
    refine fun rd _ => ⟨⟨⟨1, bitsTo x.a 5, rc.1, ptsOf (bitsTo x.a 5), rc.2⟩, ⟨9, bitsTo x.a 5, rd.1, ptsOf (bitsTo x.a 5), rd.2⟩⟩, ?_⟩
    ((repeat' apply And.intro) <;> first | with_reducible rfl | omega | (dsimp only; omega) | exact RowsEq.refl _ _ _ | assumption | rfl | trivial | exact Nat.le_refl _ | skip)
    dsimp only
    rw [hsame]
    exact fun _ _ => ⟨(), rfl, trivial, trivial⟩)

theorem instTwo : ∀ ads, okADs [.int .i64, .int .i64] ads → ∃ a : TwoA, cTwo.pre a ∧ cTwo.args a = svs 0 ads ∧ cTwo.ro a = chs 0 [.int .i64, .int .i64] ads ∧ cTwo.m = slcs ads := by
  rintro ads ⟨_, _, rfl, ⟨a, rfl, _⟩, _, _, rfl, ⟨b, rfl, _⟩, rfl⟩
  exact ⟨⟨a, b⟩, trivial, rfl, rfl, rfl⟩
end Go.Proofs.Ythofnohpdbbidaa
