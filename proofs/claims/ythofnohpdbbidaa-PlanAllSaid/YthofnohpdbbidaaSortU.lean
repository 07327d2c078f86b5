/-
  The library's sort at numbers, function by function: what each does to a range. No condition but that lists are short.
-/
import Derived.Test.YthofnohpdbbidaaSortL
namespace Go.Proofs.Ythofnohpdbbidaa
open Go.Sx
set_option maxRecDepth 100000
set_option linter.unusedVariables false

noncomputable def cULess : Con where
  α := Int × Int
  β := Unit
  m := 0
  m' := 0
  pre := fun _ => True
  args := fun a => [.a (.int .u64 a.1), .a (.int .u64 a.2)]
  hp := fun _ => []
  ro := fun _ => []
  post := fun _ _ => True
  res := fun a _ => .a (.bool (decide (a.1 < a.2)))
  hp' := fun _ _ => []
set_option maxHeartbeats 4000000 in
theorem bodyULess : fnBody (Y Try.prog) [] 43 cULess fun _ => [] := fnBody.of (p :=
  ∀ (a : Int × Int), True →
  ((a.fst != a.fst) = Bool.true →
  ((!a.snd != a.snd) = Bool.true →
  ∃ (b : Unit), Bool.true = Decidable.decide (a.fst < a.snd) ∧
  True ∧
  True) ∧
  ((!a.snd != a.snd) = Bool.false →
  ∃ (b : Unit), Decidable.decide (a.fst < a.snd) = Decidable.decide (a.fst < a.snd) ∧
  True ∧
  True)) ∧
  ((a.fst != a.fst) = Bool.false →
  ∃ (b : Unit), Decidable.decide (a.fst < a.snd) = Decidable.decide (a.fst < a.snd) ∧
  True ∧
  True)) (by kernel_rfl) (by
  rintro ⟨x, y⟩ _
  dsimp only
  exact ⟨fun h => (by simp at h), fun _ => ⟨(), rfl, trivial, trivial⟩⟩)
theorem callULess : CallsBy (Y Try.prog).G.X 43 cULess := fn_ok okY (tab := []) trivial bodyULess
noncomputable def tabU : List (Nat × Con) := [(43, cULess)]
theorem tabU_ok : TabOk (Y Try.prog).G.X tabU := ⟨callULess, trivial⟩

/-- a range of a list -/
structure RngA where
  l : List Int
  cap : Nat
  a : Nat
  b : Nat
def RngA.ok (x : RngA) : Prop := x.a < x.b ∧ x.b ≤ x.l.length ∧ x.l.length < 100000
/-- what has been done with it -/
structure RngS where
  m : List Int
  i : Nat
  j : Nat
def arrU (l : List Int) : Chunk := .arr 30 [.int .u64] l.length (encRows encU l)
def S.dat (s : S) (m : List Int) : S := s.at_ (s.tg 0) (arrU m)

/-! ### in order, by insertion -/

noncomputable def cIns : Con where
  α := RngA
  β := List Int
  m := 1
  m' := 1
  pre := fun x => x.a ≤ x.b ∧ x.b ≤ x.l.length ∧ x.l.length < 100000
  args := fun x => [.a (.slc 0 0 1 x.l.length x.cap), .a (.int .i64 x.a), .a (.int .i64 x.b)]
  hp := fun x => [(0, arrU x.l)]
  ro := fun _ => []
  post := fun x m => PR x.a x.b x.l m ∧ Srt m x.a x.b
  res := fun _ _ => .tup []
  hp' := fun _ m => [(0, arrU m)]
def iIns2 (x : RngA) (y : RngS) : An := .flat 4 RngS (fun s z => (S.dat s z.m).int 7 z.j)
  (fun _ z => PR x.a x.b x.l z.m ∧ x.a ≤ z.j ∧ z.j ≤ y.i ∧ ∀ p q, x.a ≤ p → p < q → q ≤ y.i → q ≠ z.j → gl z.m p ≤ gl z.m q) (fun _ z => z.j)
def iIns (x : RngA) : An := .mk 1 RngS (fun s y => (S.dat s y.m).int 6 y.i) (fun _ y => PR x.a x.b x.l y.m ∧ x.a < y.i ∧ y.i ≤ x.b + 1 ∧ Srt y.m x.a y.i) (fun _ y => x.b + 1 - y.i) fun y => .mk 60 [iIns2 x y] []
set_option maxHeartbeats 4000000 in
theorem bodyIns : fnBody (Y Try.prog) tabU 37 cIns fun x => [(37, [iIns x], [])] := fnBody.of (p :=
  ∀ (a : RngA), a.a ≤ a.b ∧
  a.b ≤ a.l.length ∧
  a.l.length < (100000 : Nat) →
  InR IntKind.i64 ((↑a.a : Int) + (1 : Int)) ∧
  (∃ (a_2 : RngS), (↑a.a : Int) + (1 : Int) = (↑a_2.i : Int) ∧
  ((0 : Nat) = (0 : Nat) ∧
  a.l.length = a.l.length ∧
  a.cap = a.cap) ∧
  (↑a.a : Int) = (↑a.a : Int) ∧
  (↑a.b : Int) = (↑a.b : Int) ∧
  (a_2.m.length ≤ a.l.length ∧
  RowsEq a_2.m.length (1 : Nat) (encRows encU a.l) (encRows encU a_2.m)) ∧
  (PR a.a a.b a.l a_2.m ∧
  a.a < a_2.i ∧
  a_2.i ≤ a.b + (1 : Nat) ∧
  Srt a_2.m a.a a_2.i) ∧
  True) ∧
  ∀ (a_2 : RngS), PR a.a a.b a.l a_2.m ∧
  a.a < a_2.i ∧
  a_2.i ≤ a.b + (1 : Nat) ∧
  Srt a_2.m a.a a_2.i →
  (Decidable.decide ((↑a_2.i : Int) < (↑a.b : Int)) = Bool.true →
  (∃ (a_5 : RngS), (↑a_2.i : Int) = (↑a_5.j : Int) ∧
  Decidable.decide ((↑a_2.i : Int) < (↑a.b : Int)) = Decidable.decide ((↑a_2.i : Int) < (↑a.b : Int)) ∧
  (↑a_2.i : Int) = (↑a_2.i : Int) ∧
  ((0 : Nat) = (0 : Nat) ∧
  a.l.length = a.l.length ∧
  a.cap = a.cap) ∧
  (↑a.a : Int) = (↑a.a : Int) ∧
  (↑a.b : Int) = (↑a.b : Int) ∧
  (a_5.m.length ≤ a_2.m.length ∧
  RowsEq a_5.m.length (1 : Nat) (encRows encU a_2.m) (encRows encU a_5.m)) ∧
  (PR a.a a.b a.l a_5.m ∧
  a.a ≤ a_5.j ∧
  a_5.j ≤ a_2.i ∧
  ∀ (p q : Nat), a.a ≤ p →
  p < q →
  q ≤ a_2.i →
  q ≠ a_5.j →
  gl a_5.m p ≤ gl a_5.m q) ∧
  True) ∧
  ∀ (a_5 : RngS), (PR a.a a.b a.l a_5.m ∧
  a.a ≤ a_5.j ∧
  a_5.j ≤ a_2.i ∧
  ∀ (p q : Nat), a.a ≤ p →
  p < q →
  q ≤ a_2.i →
  q ≠ a_5.j →
  gl a_5.m p ≤ gl a_5.m q) →
  (Decidable.decide ((↑a.a : Int) < (↑a_5.j : Int)) = Bool.true →
  ((0 : Int) ≤ (↑a_5.j : Int) ∧
  (↑a_5.j : Int) < (↑a.l.length : Int)) ∧
  (0 : Nat) + (↑a_5.j : Int).toNat < a_5.m.length ∧
  (InR IntKind.u64 (gl a_5.m ((0 : Nat) + (↑a_5.j : Int).toNat)) →
  InR IntKind.i64 ((↑a_5.j : Int) - (1 : Int)) ∧
  ((0 : Int) ≤ (↑a_5.j : Int) - (1 : Int) ∧
  (↑a_5.j : Int) - (1 : Int) < (↑a.l.length : Int)) ∧
  (0 : Nat) + ((↑a_5.j : Int) - (1 : Int)).toNat < a_5.m.length ∧
  (InR IntKind.u64 (gl a_5.m ((0 : Nat) + ((↑a_5.j : Int) - (1 : Int)).toNat)) →
  ∃ (a_10 : Int × Int), gl a_5.m ((0 : Nat) + (↑a_5.j : Int).toNat) = a_10.fst ∧
  gl a_5.m ((0 : Nat) + ((↑a_5.j : Int) - (1 : Int)).toNat) = a_10.snd ∧
  True ∧
  ∀ (b : Unit), True →
  (Decidable.decide (a_10.fst < a_10.snd) = Bool.true →
  InR IntKind.i64 ((↑a_5.j : Int) - (1 : Int)) ∧
  InR IntKind.i64 ((↑a_5.j : Int) - (1 : Int)) ∧
  ((0 : Int) ≤ (↑a_5.j : Int) - (1 : Int) ∧
  (↑a_5.j : Int) - (1 : Int) < (↑a.l.length : Int)) ∧
  (0 : Nat) + ((↑a_5.j : Int) - (1 : Int)).toNat < a_5.m.length ∧
  (InR IntKind.u64 (gl a_5.m ((0 : Nat) + ((↑a_5.j : Int) - (1 : Int)).toNat)) →
  ((0 : Int) ≤ (↑a_5.j : Int) ∧
  (↑a_5.j : Int) < (↑a.l.length : Int)) ∧
  (0 : Nat) + (↑a_5.j : Int).toNat < a_5.m.length ∧
  (InR IntKind.u64 (gl a_5.m ((0 : Nat) + (↑a_5.j : Int).toNat)) →
  ((0 : Int) ≤ (↑a_5.j : Int) ∧
  (↑a_5.j : Int) < (↑a.l.length : Int)) ∧
  (0 : Nat) + (↑a_5.j : Int).toNat < a_5.m.length ∧
  ((0 : Int) ≤ (↑a_5.j : Int) - (1 : Int) ∧
  (↑a_5.j : Int) - (1 : Int) < (↑a.l.length : Int)) ∧
  (0 : Nat) + ((↑a_5.j : Int) - (1 : Int)).toNat < a_5.m.length ∧
  InR IntKind.i64 ((↑a_5.j : Int) - (1 : Int)) ∧
  ∃ (a' : RngS), (↑a_5.j : Int) - (1 : Int) = (↑a'.j : Int) ∧
  Decidable.decide ((↑a_2.i : Int) < (↑a.b : Int)) = Decidable.decide ((↑a_2.i : Int) < (↑a.b : Int)) ∧
  (↑a_2.i : Int) = (↑a_2.i : Int) ∧
  ((0 : Nat) = (0 : Nat) ∧
  a.l.length = a.l.length ∧
  a.cap = a.cap) ∧
  (↑a.a : Int) = (↑a.a : Int) ∧
  (↑a.b : Int) = (↑a.b : Int) ∧
  (a'.m.length ≤ a_5.m.length ∧
  RowsEq a'.m.length (1 : Nat) (updR (updR (encRows encU a_5.m) ((0 : Nat) + (↑a_5.j : Int).toNat) (0 : Nat) [Value.int IntKind.u64 (gl a_5.m ((0 : Nat) + ((↑a_5.j : Int) - (1 : Int)).toNat))]) ((0 : Nat) + ((↑a_5.j : Int) - (1 : Int)).toNat) (0 : Nat) [Value.int IntKind.u64 (gl a_5.m ((0 : Nat) + (↑a_5.j : Int).toNat))]) (encRows encU a'.m)) ∧
  (PR a.a a.b a.l a'.m ∧
  a.a ≤ a'.j ∧
  a'.j ≤ a_2.i ∧
  ∀ (p q : Nat), a.a ≤ p →
  p < q →
  q ≤ a_2.i →
  q ≠ a'.j →
  gl a'.m p ≤ gl a'.m q) ∧
  a'.j < a_5.j))) ∧
  (Decidable.decide (a_10.fst < a_10.snd) = Bool.false →
  InR IntKind.i64 ((↑a_2.i : Int) + (1 : Int)) ∧
  ∃ (a' : RngS), (↑a_2.i : Int) + (1 : Int) = (↑a'.i : Int) ∧
  ((0 : Nat) = (0 : Nat) ∧
  a.l.length = a.l.length ∧
  a.cap = a.cap) ∧
  (↑a.a : Int) = (↑a.a : Int) ∧
  (↑a.b : Int) = (↑a.b : Int) ∧
  (a'.m.length ≤ a_5.m.length ∧
  RowsEq a'.m.length (1 : Nat) (encRows encU a_5.m) (encRows encU a'.m)) ∧
  (PR a.a a.b a.l a'.m ∧
  a.a < a'.i ∧
  a'.i ≤ a.b + (1 : Nat) ∧
  Srt a'.m a.a a'.i) ∧
  a.b + (1 : Nat) - a'.i < a.b + (1 : Nat) - a_2.i)))) ∧
  (Decidable.decide ((↑a.a : Int) < (↑a_5.j : Int)) = Bool.false →
  InR IntKind.i64 ((↑a_2.i : Int) + (1 : Int)) ∧
  ∃ (a' : RngS), (↑a_2.i : Int) + (1 : Int) = (↑a'.i : Int) ∧
  ((0 : Nat) = (0 : Nat) ∧
  a.l.length = a.l.length ∧
  a.cap = a.cap) ∧
  (↑a.a : Int) = (↑a.a : Int) ∧
  (↑a.b : Int) = (↑a.b : Int) ∧
  (a'.m.length ≤ a_5.m.length ∧
  RowsEq a'.m.length (1 : Nat) (encRows encU a_5.m) (encRows encU a'.m)) ∧
  (PR a.a a.b a.l a'.m ∧
  a.a < a'.i ∧
  a'.i ≤ a.b + (1 : Nat) ∧
  Srt a'.m a.a a'.i) ∧
  a.b + (1 : Nat) - a'.i < a.b + (1 : Nat) - a_2.i)) ∧
  (Decidable.decide ((↑a_2.i : Int) < (↑a.b : Int)) = Bool.false →
  ∃ (b : List Int), (b.length ≤ a_2.m.length ∧
  RowsEq b.length (1 : Nat) (encRows encU a_2.m) (encRows encU b)) ∧
  (PR a.a a.b a.l b ∧
  Srt b a.a a.b) ∧
  True)) (by kernel_rfl) (by
  rintro ⟨l, cap, a, b⟩ ⟨h1, h2, h3⟩
  dsimp only at h1 h2 h3 ⊢
  simp only [Nat.zero_add, Int.toNat_natCast, InR]
  refine ⟨by omega, ⟨⟨l, a + 1, 0⟩, ?_⟩, fun y hy => ?_⟩
  · have p0 := PR.refl (a := a) (b := b) l
    have s0 : Srt l a (a + 1) := fun p q _ _ _ => by omega
    ((repeat' apply And.intro) <;> first | with_reducible rfl | omega | (dsimp only; omega) | exact RowsEq.refl _ _ _ | assumption | rfl | trivial | exact Nat.le_refl _ | skip)
  obtain ⟨m, i, j0⟩ := y
  obtain ⟨y1, y2, y3, y4⟩ := hy
  dsimp only at y1 y2 y3 y4 ⊢
  have hm := y1.length
  refine ⟨fun c1 => ⟨⟨⟨m, 0, i⟩, ?_⟩, fun z hz => ?_⟩, fun c1 => ⟨m, ?_⟩⟩
  rotate_left 2
  · simp only [decide_eq_false_iff_not] at c1
    have s0 : Srt m a b := fun p q h5 h6 h7 => y4 p q h5 h6 (by omega)
    ((repeat' apply And.intro) <;> first | with_reducible rfl | omega | (dsimp only; omega) | exact RowsEq.refl _ _ _ | assumption | rfl | trivial | exact Nat.le_refl _ | skip)
  all_goals simp only [decide_eq_true_eq] at c1
  · have s0 : ∀ p q : Nat, a ≤ p → p < q → q ≤ i → q ≠ i → gl m p ≤ gl m q := fun p q h5 h6 h7 h8 => y4 p q h5 h6 (by omega)
    ((repeat' apply And.intro) <;> first | with_reducible rfl | omega | (dsimp only; omega) | exact RowsEq.refl _ _ _ | assumption | rfl | trivial | exact Nat.le_refl _ | skip)
  obtain ⟨m2, i0, j⟩ := z
  obtain ⟨z1, z2, z3, z4⟩ := hz
  dsimp only at z1 z2 z3 z4 ⊢
  have hm2 := z1.length
  refine ⟨fun c2 => ?_, fun c2 => ⟨by omega, ⟨m2, i + 1, 0⟩, ?_⟩⟩
  · simp only [decide_eq_true_eq] at c2
    have ej : ((j : Int) - 1).toNat = j - 1 := by omega
    rw [ej]
    ((repeat' apply And.intro) <;> first | with_reducible rfl | omega | (dsimp only; omega) | exact RowsEq.refl _ _ _ | assumption | rfl | trivial | exact Nat.le_refl _ | skip)
    intro _
    ((repeat' apply And.intro) <;> first | with_reducible rfl | omega | (dsimp only; omega) | exact RowsEq.refl _ _ _ | assumption | rfl | trivial | exact Nat.le_refl _ | skip)
    refine fun _ => ⟨(gl m2 j, gl m2 (j - 1)), ?_⟩
    ((repeat' apply And.intro) <;> first | with_reducible rfl | omega | (dsimp only; omega) | exact RowsEq.refl _ _ _ | assumption | rfl | trivial | exact Nat.le_refl _ | skip)
    refine fun _ _ => ⟨fun c3 => ?_, fun c3 => ⟨by omega, ⟨m2, i + 1, 0⟩, ?_⟩⟩
    · simp only [decide_eq_true_eq] at c3
      ((repeat' apply And.intro) <;> first | with_reducible rfl | omega | (dsimp only; omega) | exact RowsEq.refl _ _ _ | assumption | rfl | trivial | exact Nat.le_refl _ | skip)
      intro _
      ((repeat' apply And.intro) <;> first | with_reducible rfl | omega | (dsimp only; omega) | exact RowsEq.refl _ _ _ | assumption | rfl | trivial | exact Nat.le_refl _ | skip)
      intro _
      ((repeat' apply And.intro) <;> first | with_reducible rfl | omega | (dsimp only; omega) | exact RowsEq.refl _ _ _ | assumption | rfl | trivial | exact Nat.le_refl _ | skip)
      refine ⟨⟨swpL m2 j (j - 1), 0, j - 1⟩, ?_⟩
      have p1 : PR a b l (swpL m2 j (j - 1)) := .step z1 (by omega) (by omega) (by omega) (by omega) (by omega)
      have r1 : RowsEq (swpL m2 j (j - 1)).length 1 (updR (updR (encRows encU m2) j 0 [Go.Value.int Go.IntKind.u64 (gl m2 (j - 1))]) (j - 1) 0 [Go.Value.int Go.IntKind.u64 (gl m2 j)]) (encRows encU (swpL m2 j (j - 1))) := rows_swap (by omega) (by omega) rfl rfl
      have n1 := swpL_length m2 j (j - 1)
      have s1 : ∀ p q : Nat, a ≤ p → p < q → q ≤ i → q ≠ j - 1 → gl (swpL m2 j (j - 1)) p ≤ gl (swpL m2 j (j - 1)) q := fun p q h5 h6 h7 h8 => by
        rw [gl_swp (by omega) (by omega), gl_swp (by omega) (by omega)]
        have a1 := z4 p (j - 1)
        have a2 := z4 j q
        have a3 := z4 (j - 1) q
        have a4 := z4 p q
        grind
      ((repeat' apply And.intro) <;> first | with_reducible rfl | omega | (dsimp only; omega) | exact RowsEq.refl _ _ _ | assumption | rfl | trivial | exact Nat.le_refl _ | skip)
    · simp only [decide_eq_false_iff_not] at c3
      have s0 : Srt m2 a (i + 1) := fun p q h5 h6 h7 => by
        by_cases e : q = j
        · subst e
          by_cases e2 : p = q - 1
          · subst e2; omega
          · have := z4 p (q - 1) h5 (by omega) (by omega) (by omega)
            omega
        · exact z4 p q h5 h6 (by omega) e
      ((repeat' apply And.intro) <;> first | with_reducible rfl | omega | (dsimp only; omega) | exact RowsEq.refl _ _ _ | assumption | rfl | trivial | exact Nat.le_refl _ | skip)
  · simp only [decide_eq_false_iff_not] at c2
    have s0 : Srt m2 a (i + 1) := fun p q h5 h6 h7 => z4 p q h5 h6 (by omega) (by omega)
    ((repeat' apply And.intro) <;> first | with_reducible rfl | omega | (dsimp only; omega) | exact RowsEq.refl _ _ _ | assumption | rfl | trivial | exact Nat.le_refl _ | skip))
theorem callIns : CallsBy (Y Try.prog).G.X 37 cIns := fn_ok okY tabU_ok bodyIns

/-! ### the other way round -/

noncomputable def cRev : Con where
  α := RngA
  β := List Int
  m := 1
  m' := 1
  pre := fun x => x.ok
  args := fun x => [.a (.slc 0 0 1 x.l.length x.cap), .a (.int .i64 x.a), .a (.int .i64 x.b)]
  hp := fun x => [(0, arrU x.l)]
  ro := fun _ => []
  post := fun x m => PR x.a x.b x.l m
  res := fun _ _ => .tup []
  hp' := fun _ m => [(0, arrU m)]
def iRev (x : RngA) : An := .flat 2 RngS (fun s y => ((S.dat s y.m).int 6 y.i).int 7 y.j) (fun _ y => PR x.a x.b x.l y.m ∧ x.a ≤ y.i ∧ y.j < x.b ∧ y.i ≤ y.j + 1) (fun _ y => y.j + 1 - y.i)
set_option maxHeartbeats 4000000 in
theorem bodyRev : fnBody (Y Try.prog) tabU 41 cRev fun x => [(41, [iRev x], [])] := fnBody.of (p :=
  ∀ (a : RngA), a.ok →
  InR IntKind.i64 ((↑a.b : Int) - (1 : Int)) ∧
  (∃ (a_2 : RngS), (↑a.b : Int) - (1 : Int) = (↑a_2.j : Int) ∧
  (↑a.a : Int) = (↑a_2.i : Int) ∧
  ((0 : Nat) = (0 : Nat) ∧
  a.l.length = a.l.length ∧
  a.cap = a.cap) ∧
  (↑a.a : Int) = (↑a.a : Int) ∧
  (↑a.b : Int) = (↑a.b : Int) ∧
  (a_2.m.length ≤ a.l.length ∧
  RowsEq a_2.m.length (1 : Nat) (encRows encU a.l) (encRows encU a_2.m)) ∧
  (PR a.a a.b a.l a_2.m ∧
  a.a ≤ a_2.i ∧
  a_2.j < a.b ∧
  a_2.i ≤ a_2.j + (1 : Nat)) ∧
  True) ∧
  ∀ (a_2 : RngS), PR a.a a.b a.l a_2.m ∧
  a.a ≤ a_2.i ∧
  a_2.j < a.b ∧
  a_2.i ≤ a_2.j + (1 : Nat) →
  (Decidable.decide ((↑a_2.i : Int) < (↑a_2.j : Int)) = Bool.true →
  ((0 : Int) ≤ (↑a_2.j : Int) ∧
  (↑a_2.j : Int) < (↑a.l.length : Int)) ∧
  (0 : Nat) + (↑a_2.j : Int).toNat < a_2.m.length ∧
  (InR IntKind.u64 (gl a_2.m ((0 : Nat) + (↑a_2.j : Int).toNat)) →
  ((0 : Int) ≤ (↑a_2.i : Int) ∧
  (↑a_2.i : Int) < (↑a.l.length : Int)) ∧
  (0 : Nat) + (↑a_2.i : Int).toNat < a_2.m.length ∧
  (InR IntKind.u64 (gl a_2.m ((0 : Nat) + (↑a_2.i : Int).toNat)) →
  ((0 : Int) ≤ (↑a_2.i : Int) ∧
  (↑a_2.i : Int) < (↑a.l.length : Int)) ∧
  (0 : Nat) + (↑a_2.i : Int).toNat < a_2.m.length ∧
  ((0 : Int) ≤ (↑a_2.j : Int) ∧
  (↑a_2.j : Int) < (↑a.l.length : Int)) ∧
  (0 : Nat) + (↑a_2.j : Int).toNat < a_2.m.length ∧
  InR IntKind.i64 ((↑a_2.i : Int) + (1 : Int)) ∧
  InR IntKind.i64 ((↑a_2.j : Int) - (1 : Int)) ∧
  ∃ (a' : RngS), (↑a_2.j : Int) - (1 : Int) = (↑a'.j : Int) ∧
  (↑a_2.i : Int) + (1 : Int) = (↑a'.i : Int) ∧
  ((0 : Nat) = (0 : Nat) ∧
  a.l.length = a.l.length ∧
  a.cap = a.cap) ∧
  (↑a.a : Int) = (↑a.a : Int) ∧
  (↑a.b : Int) = (↑a.b : Int) ∧
  (a'.m.length ≤ a_2.m.length ∧
  RowsEq a'.m.length (1 : Nat) (updR (updR (encRows encU a_2.m) ((0 : Nat) + (↑a_2.i : Int).toNat) (0 : Nat) [Value.int IntKind.u64 (gl a_2.m ((0 : Nat) + (↑a_2.j : Int).toNat))]) ((0 : Nat) + (↑a_2.j : Int).toNat) (0 : Nat) [Value.int IntKind.u64 (gl a_2.m ((0 : Nat) + (↑a_2.i : Int).toNat))]) (encRows encU a'.m)) ∧
  (PR a.a a.b a.l a'.m ∧
  a.a ≤ a'.i ∧
  a'.j < a.b ∧
  a'.i ≤ a'.j + (1 : Nat)) ∧
  a'.j + (1 : Nat) - a'.i < a_2.j + (1 : Nat) - a_2.i))) ∧
  (Decidable.decide ((↑a_2.i : Int) < (↑a_2.j : Int)) = Bool.false →
  ∃ (b : List Int), (b.length ≤ a_2.m.length ∧
  RowsEq b.length (1 : Nat) (encRows encU a_2.m) (encRows encU b)) ∧
  PR a.a a.b a.l b ∧
  True)) (by kernel_rfl) (by
  rintro ⟨l, cap, a, b⟩ ⟨h1, h2, h3⟩
  dsimp only at h1 h2 h3 ⊢
  simp only [Nat.zero_add, Int.toNat_natCast, InR]
  refine ⟨by omega, ⟨⟨l, a, b - 1⟩, ?_⟩, fun y hy => ?_⟩
  · have p0 := PR.refl (a := a) (b := b) l
    ((repeat' apply And.intro) <;> first | with_reducible rfl | omega | (dsimp only; omega) | exact RowsEq.refl _ _ _ | assumption | rfl | trivial | exact Nat.le_refl _ | skip)
  obtain ⟨m, i, j⟩ := y
  obtain ⟨y1, y2, y3, y4⟩ := hy
  dsimp only at y1 y2 y3 y4 ⊢
  have hm := y1.length
  refine ⟨fun c1 => ?_, fun c1 => ⟨m, ?_⟩⟩
  · simp only [decide_eq_true_eq] at c1
    ((repeat' apply And.intro) <;> first | with_reducible rfl | omega | (dsimp only; omega) | exact RowsEq.refl _ _ _ | assumption | rfl | trivial | exact Nat.le_refl _ | skip)
    intro _
    ((repeat' apply And.intro) <;> first | with_reducible rfl | omega | (dsimp only; omega) | exact RowsEq.refl _ _ _ | assumption | rfl | trivial | exact Nat.le_refl _ | skip)
    intro _
    ((repeat' apply And.intro) <;> first | with_reducible rfl | omega | (dsimp only; omega) | exact RowsEq.refl _ _ _ | assumption | rfl | trivial | exact Nat.le_refl _ | skip)
    refine ⟨⟨swpL m i j, i + 1, j - 1⟩, ?_⟩
    have p1 : PR a b l (swpL m i j) := .step y1 (by omega) (by omega) (by omega) (by omega) (by omega)
    have r1 : RowsEq (swpL m i j).length 1 (updR (updR (encRows encU m) i 0 [Go.Value.int Go.IntKind.u64 (gl m j)]) j 0 [Go.Value.int Go.IntKind.u64 (gl m i)]) (encRows encU (swpL m i j)) := rows_swap (by omega) (by omega) rfl rfl
    have n1 := swpL_length m i j
    ((repeat' apply And.intro) <;> first | with_reducible rfl | omega | (dsimp only; omega) | exact RowsEq.refl _ _ _ | assumption | rfl | trivial | exact Nat.le_refl _ | skip)
  · ((repeat' apply And.intro) <;> first | with_reducible rfl | omega | (dsimp only; omega) | exact RowsEq.refl _ _ _ | assumption | rfl | trivial | exact Nat.le_refl _ | skip))
theorem callRev : CallsBy (Y Try.prog).G.X 41 cRev := fn_ok okY tabU_ok bodyRev

/-! ### parted by one of them -/

structure PivA where
  l : List Int
  cap : Nat
  a : Nat
  b : Nat
  p : Nat
def PivA.ok (x : PivA) : Prop := x.a ≤ x.p ∧ x.p < x.b ∧ x.b ≤ x.l.length ∧ x.l.length < 100000
def PivA.v (x : PivA) : Int := gl x.l x.p
noncomputable def cPartEq : Con where
  α := PivA
  β := List Int × Nat
  m := 1
  m' := 1
  pre := fun x => x.ok
  args := fun x => [.a (.slc 0 0 1 x.l.length x.cap), .a (.int .i64 x.a), .a (.int .i64 x.b), .a (.int .i64 x.p)]
  hp := fun x => [(0, arrU x.l)]
  ro := fun _ => []
  post := fun x y => PR x.a x.b x.l y.1 ∧ x.a < y.2 ∧ y.2 ≤ x.b ∧ (∀ k, x.a ≤ k → k < y.2 → gl y.1 k ≤ x.v) ∧ ∀ k, y.2 ≤ k → k < x.b → x.v < gl y.1 k
  res := fun _ y => .a (.int .i64 y.2)
  hp' := fun _ y => [(0, arrU y.1)]
def iPE2 (x : PivA) (y : RngS) (i : Nat) : An := .flat 5 Nat (fun s j => s.int 10 j) (fun _ j => i ≤ j + 1 ∧ j ≤ y.j ∧ ∀ k, j < k → k < x.b → x.v < gl y.m k) (fun _ j => j)
def cPE (x : PivA) (y : RngS) : An := .mk 5 Nat (fun s i => s.int 9 i) (fun _ i => y.i ≤ i ∧ i ≤ y.j + 1 ∧ (∀ k, x.a ≤ k → k < i → gl y.m k ≤ x.v) ∧ (y.j < i ∨ x.v < gl y.m i)) (fun _ _ => 0) fun i => .mk 60 [iPE2 x y i] []
def iPE1 (x : PivA) (y : RngS) : An := .flat 3 Nat (fun s i => s.int 9 i) (fun _ i => y.i ≤ i ∧ i ≤ y.j + 1 ∧ ∀ k, x.a ≤ k → k < i → gl y.m k ≤ x.v) (fun _ i => y.j + 1 - i)
def iPE (x : PivA) : An := .mk 3 RngS (fun s y => ((S.dat s y.m).int 9 y.i).int 10 y.j)
  (fun _ y => PR x.a x.b x.l y.m ∧ x.a < y.i ∧ y.i ≤ y.j + 1 ∧ y.j < x.b ∧ gl y.m x.a = x.v ∧ (∀ k, x.a ≤ k → k < y.i → gl y.m k ≤ x.v) ∧ ∀ k, y.j < k → k < x.b → x.v < gl y.m k) (fun _ y => y.j + 1 - y.i) fun y => .mk 60 [iPE1 x y] [cPE x y]
set_option maxHeartbeats 4000000 in
theorem bodyPartEq : fnBody (Y Try.prog) tabU 44 cPartEq fun x => [(44, [iPE x], [])] := fnBody.of (p :=
  ∀ (a : PivA), a.ok →
  ((0 : Int) ≤ (↑a.p : Int) ∧
  (↑a.p : Int) < (↑a.l.length : Int)) ∧
  (0 : Nat) + (↑a.p : Int).toNat < a.l.length ∧
  (InR IntKind.u64 (gl a.l ((0 : Nat) + (↑a.p : Int).toNat)) →
  ((0 : Int) ≤ (↑a.a : Int) ∧
  (↑a.a : Int) < (↑a.l.length : Int)) ∧
  (0 : Nat) + (↑a.a : Int).toNat < a.l.length ∧
  (InR IntKind.u64 (gl a.l ((0 : Nat) + (↑a.a : Int).toNat)) →
  ((0 : Int) ≤ (↑a.a : Int) ∧
  (↑a.a : Int) < (↑a.l.length : Int)) ∧
  (0 : Nat) + (↑a.a : Int).toNat < a.l.length ∧
  ((0 : Int) ≤ (↑a.p : Int) ∧
  (↑a.p : Int) < (↑a.l.length : Int)) ∧
  (0 : Nat) + (↑a.p : Int).toNat < a.l.length ∧
  InR IntKind.i64 ((↑a.a : Int) + (1 : Int)) ∧
  InR IntKind.i64 ((↑a.b : Int) - (1 : Int)) ∧
  (∃ (a_4 : RngS), (↑a.b : Int) - (1 : Int) = (↑a_4.j : Int) ∧
  (↑a.a : Int) + (1 : Int) = (↑a_4.i : Int) ∧
  (0 : Int) = (0 : Int) ∧
  ((0 : Nat) = (0 : Nat) ∧
  a.l.length = a.l.length ∧
  a.cap = a.cap) ∧
  (↑a.a : Int) = (↑a.a : Int) ∧
  (↑a.b : Int) = (↑a.b : Int) ∧
  (↑a.p : Int) = (↑a.p : Int) ∧
  (a_4.m.length ≤ a.l.length ∧
  RowsEq a_4.m.length (1 : Nat) (updR (updR (encRows encU a.l) ((0 : Nat) + (↑a.a : Int).toNat) (0 : Nat) [Value.int IntKind.u64 (gl a.l ((0 : Nat) + (↑a.p : Int).toNat))]) ((0 : Nat) + (↑a.p : Int).toNat) (0 : Nat) [Value.int IntKind.u64 (gl a.l ((0 : Nat) + (↑a.a : Int).toNat))]) (encRows encU a_4.m)) ∧
  (PR a.a a.b a.l a_4.m ∧
  a.a < a_4.i ∧
  a_4.i ≤ a_4.j + (1 : Nat) ∧
  a_4.j < a.b ∧
  gl a_4.m a.a = a.v ∧
  (∀ (k : Nat), a.a ≤ k →
  k < a_4.i →
  gl a_4.m k ≤ a.v) ∧
  ∀ (k : Nat), a_4.j < k →
  k < a.b →
  a.v < gl a_4.m k) ∧
  True) ∧
  ∀ (a_4 : RngS), (PR a.a a.b a.l a_4.m ∧
  a.a < a_4.i ∧
  a_4.i ≤ a_4.j + (1 : Nat) ∧
  a_4.j < a.b ∧
  gl a_4.m a.a = a.v ∧
  (∀ (k : Nat), a.a ≤ k →
  k < a_4.i →
  gl a_4.m k ≤ a.v) ∧
  ∀ (k : Nat), a_4.j < k →
  k < a.b →
  a.v < gl a_4.m k) →
  ((∃ (a_6 : Nat), (↑a_4.i : Int) = (↑a_6 : Int) ∧
  (↑a_4.j : Int) = (↑a_4.j : Int) ∧
  (0 : Int) = (0 : Int) ∧
  ((0 : Nat) = (0 : Nat) ∧
  a.l.length = a.l.length ∧
  a.cap = a.cap) ∧
  (↑a.a : Int) = (↑a.a : Int) ∧
  (↑a.b : Int) = (↑a.b : Int) ∧
  (↑a.p : Int) = (↑a.p : Int) ∧
  (a_4.m.length ≤ a_4.m.length ∧
  RowsEq a_4.m.length (1 : Nat) (encRows encU a_4.m) (encRows encU a_4.m)) ∧
  (a_4.i ≤ a_6 ∧
  a_6 ≤ a_4.j + (1 : Nat) ∧
  ∀ (k : Nat), a.a ≤ k →
  k < a_6 →
  gl a_4.m k ≤ a.v) ∧
  True) ∧
  ∀ (a_6 : Nat), (a_4.i ≤ a_6 ∧
  a_6 ≤ a_4.j + (1 : Nat) ∧
  ∀ (k : Nat), a.a ≤ k →
  k < a_6 →
  gl a_4.m k ≤ a.v) →
  (Decidable.decide ((↑a_6 : Int) ≤ (↑a_4.j : Int)) = Bool.true →
  ((0 : Int) ≤ (↑a.a : Int) ∧
  (↑a.a : Int) < (↑a.l.length : Int)) ∧
  (0 : Nat) + (↑a.a : Int).toNat < a_4.m.length ∧
  (InR IntKind.u64 (gl a_4.m ((0 : Nat) + (↑a.a : Int).toNat)) →
  ((0 : Int) ≤ (↑a_6 : Int) ∧
  (↑a_6 : Int) < (↑a.l.length : Int)) ∧
  (0 : Nat) + (↑a_6 : Int).toNat < a_4.m.length ∧
  (InR IntKind.u64 (gl a_4.m ((0 : Nat) + (↑a_6 : Int).toNat)) →
  ∃ (a_11 : Int × Int), gl a_4.m ((0 : Nat) + (↑a.a : Int).toNat) = a_11.fst ∧
  gl a_4.m ((0 : Nat) + (↑a_6 : Int).toNat) = a_11.snd ∧
  True ∧
  ∀ (b : Unit), True →
  ((!Decidable.decide (a_11.fst < a_11.snd)) = Bool.true →
  InR IntKind.i64 ((↑a_6 : Int) + (1 : Int)) ∧
  ∃ (a' : Nat), (↑a_6 : Int) + (1 : Int) = (↑a' : Int) ∧
  (↑a_4.j : Int) = (↑a_4.j : Int) ∧
  (0 : Int) = (0 : Int) ∧
  ((0 : Nat) = (0 : Nat) ∧
  a.l.length = a.l.length ∧
  a.cap = a.cap) ∧
  (↑a.a : Int) = (↑a.a : Int) ∧
  (↑a.b : Int) = (↑a.b : Int) ∧
  (↑a.p : Int) = (↑a.p : Int) ∧
  (a_4.m.length ≤ a_4.m.length ∧
  RowsEq a_4.m.length (1 : Nat) (encRows encU a_4.m) (encRows encU a_4.m)) ∧
  (a_4.i ≤ a' ∧
  a' ≤ a_4.j + (1 : Nat) ∧
  ∀ (k : Nat), a.a ≤ k →
  k < a' →
  gl a_4.m k ≤ a.v) ∧
  a_4.j + (1 : Nat) - a' < a_4.j + (1 : Nat) - a_6) ∧
  ((!Decidable.decide (a_11.fst < a_11.snd)) = Bool.false →
  ∃ (a_14 : Nat), (↑a_6 : Int) = (↑a_14 : Int) ∧
  (↑a_4.j : Int) = (↑a_4.j : Int) ∧
  (0 : Int) = (0 : Int) ∧
  ((0 : Nat) = (0 : Nat) ∧
  a.l.length = a.l.length ∧
  a.cap = a.cap) ∧
  (↑a.a : Int) = (↑a.a : Int) ∧
  (↑a.b : Int) = (↑a.b : Int) ∧
  (↑a.p : Int) = (↑a.p : Int) ∧
  (a_4.m.length ≤ a_4.m.length ∧
  RowsEq a_4.m.length (1 : Nat) (encRows encU a_4.m) (encRows encU a_4.m)) ∧
  (a_4.i ≤ a_14 ∧
  a_14 ≤ a_4.j + (1 : Nat) ∧
  (∀ (k : Nat), a.a ≤ k →
  k < a_14 →
  gl a_4.m k ≤ a.v) ∧
  (a_4.j < a_14 ∨ a.v < gl a_4.m a_14)) ∧
  True)))) ∧
  (Decidable.decide ((↑a_6 : Int) ≤ (↑a_4.j : Int)) = Bool.false →
  ∃ (a_9 : Nat), (↑a_6 : Int) = (↑a_9 : Int) ∧
  (↑a_4.j : Int) = (↑a_4.j : Int) ∧
  (0 : Int) = (0 : Int) ∧
  ((0 : Nat) = (0 : Nat) ∧
  a.l.length = a.l.length ∧
  a.cap = a.cap) ∧
  (↑a.a : Int) = (↑a.a : Int) ∧
  (↑a.b : Int) = (↑a.b : Int) ∧
  (↑a.p : Int) = (↑a.p : Int) ∧
  (a_4.m.length ≤ a_4.m.length ∧
  RowsEq a_4.m.length (1 : Nat) (encRows encU a_4.m) (encRows encU a_4.m)) ∧
  (a_4.i ≤ a_9 ∧
  a_9 ≤ a_4.j + (1 : Nat) ∧
  (∀ (k : Nat), a.a ≤ k →
  k < a_9 →
  gl a_4.m k ≤ a.v) ∧
  (a_4.j < a_9 ∨ a.v < gl a_4.m a_9)) ∧
  True)) ∧
  ∀ (a_6 : Nat), a_4.i ≤ a_6 ∧
  a_6 ≤ a_4.j + (1 : Nat) ∧
  (∀ (k : Nat), a.a ≤ k →
  k < a_6 →
  gl a_4.m k ≤ a.v) ∧
  (a_4.j < a_6 ∨ a.v < gl a_4.m a_6) →
  (∃ (a_8 : Nat), (↑a_4.j : Int) = (↑a_8 : Int) ∧
  (↑a_6 : Int) = (↑a_6 : Int) ∧
  (0 : Int) = (0 : Int) ∧
  ((0 : Nat) = (0 : Nat) ∧
  a.l.length = a.l.length ∧
  a.cap = a.cap) ∧
  (↑a.a : Int) = (↑a.a : Int) ∧
  (↑a.b : Int) = (↑a.b : Int) ∧
  (↑a.p : Int) = (↑a.p : Int) ∧
  (a_4.m.length ≤ a_4.m.length ∧
  RowsEq a_4.m.length (1 : Nat) (encRows encU a_4.m) (encRows encU a_4.m)) ∧
  (a_6 ≤ a_8 + (1 : Nat) ∧
  a_8 ≤ a_4.j ∧
  ∀ (k : Nat), a_8 < k →
  k < a.b →
  a.v < gl a_4.m k) ∧
  True) ∧
  ∀ (a_8 : Nat), (a_6 ≤ a_8 + (1 : Nat) ∧
  a_8 ≤ a_4.j ∧
  ∀ (k : Nat), a_8 < k →
  k < a.b →
  a.v < gl a_4.m k) →
  (Decidable.decide ((↑a_6 : Int) ≤ (↑a_8 : Int)) = Bool.true →
  ((0 : Int) ≤ (↑a.a : Int) ∧
  (↑a.a : Int) < (↑a.l.length : Int)) ∧
  (0 : Nat) + (↑a.a : Int).toNat < a_4.m.length ∧
  (InR IntKind.u64 (gl a_4.m ((0 : Nat) + (↑a.a : Int).toNat)) →
  ((0 : Int) ≤ (↑a_8 : Int) ∧
  (↑a_8 : Int) < (↑a.l.length : Int)) ∧
  (0 : Nat) + (↑a_8 : Int).toNat < a_4.m.length ∧
  (InR IntKind.u64 (gl a_4.m ((0 : Nat) + (↑a_8 : Int).toNat)) →
  ∃ (a_13 : Int × Int), gl a_4.m ((0 : Nat) + (↑a.a : Int).toNat) = a_13.fst ∧
  gl a_4.m ((0 : Nat) + (↑a_8 : Int).toNat) = a_13.snd ∧
  True ∧
  ∀ (b : Unit), True →
  (Decidable.decide (a_13.fst < a_13.snd) = Bool.true →
  InR IntKind.i64 ((↑a_8 : Int) - (1 : Int)) ∧
  ∃ (a' : Nat), (↑a_8 : Int) - (1 : Int) = (↑a' : Int) ∧
  (↑a_6 : Int) = (↑a_6 : Int) ∧
  (0 : Int) = (0 : Int) ∧
  ((0 : Nat) = (0 : Nat) ∧
  a.l.length = a.l.length ∧
  a.cap = a.cap) ∧
  (↑a.a : Int) = (↑a.a : Int) ∧
  (↑a.b : Int) = (↑a.b : Int) ∧
  (↑a.p : Int) = (↑a.p : Int) ∧
  (a_4.m.length ≤ a_4.m.length ∧
  RowsEq a_4.m.length (1 : Nat) (encRows encU a_4.m) (encRows encU a_4.m)) ∧
  (a_6 ≤ a' + (1 : Nat) ∧
  a' ≤ a_4.j ∧
  ∀ (k : Nat), a' < k →
  k < a.b →
  a.v < gl a_4.m k) ∧
  a' < a_8) ∧
  (Decidable.decide (a_13.fst < a_13.snd) = Bool.false →
  (Decidable.decide ((↑a_8 : Int) < (↑a_6 : Int)) = Bool.true →
  ∃ (b : List Int × Nat), (↑a_6 : Int) = (↑b.snd : Int) ∧
  (b.fst.length ≤ a_4.m.length ∧
  RowsEq b.fst.length (1 : Nat) (encRows encU a_4.m) (encRows encU b.fst)) ∧
  (PR a.a a.b a.l b.fst ∧
  a.a < b.snd ∧
  b.snd ≤ a.b ∧
  (∀ (k : Nat), a.a ≤ k →
  k < b.snd →
  gl b.fst k ≤ a.v) ∧
  ∀ (k : Nat), b.snd ≤ k →
  k < a.b →
  a.v < gl b.fst k) ∧
  True) ∧
  (Decidable.decide ((↑a_8 : Int) < (↑a_6 : Int)) = Bool.false →
  ((0 : Int) ≤ (↑a_8 : Int) ∧
  (↑a_8 : Int) < (↑a.l.length : Int)) ∧
  (0 : Nat) + (↑a_8 : Int).toNat < a_4.m.length ∧
  (InR IntKind.u64 (gl a_4.m ((0 : Nat) + (↑a_8 : Int).toNat)) →
  ((0 : Int) ≤ (↑a_6 : Int) ∧
  (↑a_6 : Int) < (↑a.l.length : Int)) ∧
  (0 : Nat) + (↑a_6 : Int).toNat < a_4.m.length ∧
  (InR IntKind.u64 (gl a_4.m ((0 : Nat) + (↑a_6 : Int).toNat)) →
  ((0 : Int) ≤ (↑a_6 : Int) ∧
  (↑a_6 : Int) < (↑a.l.length : Int)) ∧
  (0 : Nat) + (↑a_6 : Int).toNat < a_4.m.length ∧
  ((0 : Int) ≤ (↑a_8 : Int) ∧
  (↑a_8 : Int) < (↑a.l.length : Int)) ∧
  (0 : Nat) + (↑a_8 : Int).toNat < a_4.m.length ∧
  InR IntKind.i64 ((↑a_6 : Int) + (1 : Int)) ∧
  InR IntKind.i64 ((↑a_8 : Int) - (1 : Int)) ∧
  ∃ (a' : RngS), (↑a_8 : Int) - (1 : Int) = (↑a'.j : Int) ∧
  (↑a_6 : Int) + (1 : Int) = (↑a'.i : Int) ∧
  (0 : Int) = (0 : Int) ∧
  ((0 : Nat) = (0 : Nat) ∧
  a.l.length = a.l.length ∧
  a.cap = a.cap) ∧
  (↑a.a : Int) = (↑a.a : Int) ∧
  (↑a.b : Int) = (↑a.b : Int) ∧
  (↑a.p : Int) = (↑a.p : Int) ∧
  (a'.m.length ≤ a_4.m.length ∧
  RowsEq a'.m.length (1 : Nat) (updR (updR (encRows encU a_4.m) ((0 : Nat) + (↑a_6 : Int).toNat) (0 : Nat) [Value.int IntKind.u64 (gl a_4.m ((0 : Nat) + (↑a_8 : Int).toNat))]) ((0 : Nat) + (↑a_8 : Int).toNat) (0 : Nat) [Value.int IntKind.u64 (gl a_4.m ((0 : Nat) + (↑a_6 : Int).toNat))]) (encRows encU a'.m)) ∧
  (PR a.a a.b a.l a'.m ∧
  a.a < a'.i ∧
  a'.i ≤ a'.j + (1 : Nat) ∧
  a'.j < a.b ∧
  gl a'.m a.a = a.v ∧
  (∀ (k : Nat), a.a ≤ k →
  k < a'.i →
  gl a'.m k ≤ a.v) ∧
  ∀ (k : Nat), a'.j < k →
  k < a.b →
  a.v < gl a'.m k) ∧
  a'.j + (1 : Nat) - a'.i < a_4.j + (1 : Nat) - a_4.i))))))) ∧
  (Decidable.decide ((↑a_6 : Int) ≤ (↑a_8 : Int)) = Bool.false →
  (Decidable.decide ((↑a_8 : Int) < (↑a_6 : Int)) = Bool.true →
  ∃ (b : List Int × Nat), (↑a_6 : Int) = (↑b.snd : Int) ∧
  (b.fst.length ≤ a_4.m.length ∧
  RowsEq b.fst.length (1 : Nat) (encRows encU a_4.m) (encRows encU b.fst)) ∧
  (PR a.a a.b a.l b.fst ∧
  a.a < b.snd ∧
  b.snd ≤ a.b ∧
  (∀ (k : Nat), a.a ≤ k →
  k < b.snd →
  gl b.fst k ≤ a.v) ∧
  ∀ (k : Nat), b.snd ≤ k →
  k < a.b →
  a.v < gl b.fst k) ∧
  True) ∧
  (Decidable.decide ((↑a_8 : Int) < (↑a_6 : Int)) = Bool.false →
  ((0 : Int) ≤ (↑a_8 : Int) ∧
  (↑a_8 : Int) < (↑a.l.length : Int)) ∧
  (0 : Nat) + (↑a_8 : Int).toNat < a_4.m.length ∧
  (InR IntKind.u64 (gl a_4.m ((0 : Nat) + (↑a_8 : Int).toNat)) →
  ((0 : Int) ≤ (↑a_6 : Int) ∧
  (↑a_6 : Int) < (↑a.l.length : Int)) ∧
  (0 : Nat) + (↑a_6 : Int).toNat < a_4.m.length ∧
  (InR IntKind.u64 (gl a_4.m ((0 : Nat) + (↑a_6 : Int).toNat)) →
  ((0 : Int) ≤ (↑a_6 : Int) ∧
  (↑a_6 : Int) < (↑a.l.length : Int)) ∧
  (0 : Nat) + (↑a_6 : Int).toNat < a_4.m.length ∧
  ((0 : Int) ≤ (↑a_8 : Int) ∧
  (↑a_8 : Int) < (↑a.l.length : Int)) ∧
  (0 : Nat) + (↑a_8 : Int).toNat < a_4.m.length ∧
  InR IntKind.i64 ((↑a_6 : Int) + (1 : Int)) ∧
  InR IntKind.i64 ((↑a_8 : Int) - (1 : Int)) ∧
  ∃ (a' : RngS), (↑a_8 : Int) - (1 : Int) = (↑a'.j : Int) ∧
  (↑a_6 : Int) + (1 : Int) = (↑a'.i : Int) ∧
  (0 : Int) = (0 : Int) ∧
  ((0 : Nat) = (0 : Nat) ∧
  a.l.length = a.l.length ∧
  a.cap = a.cap) ∧
  (↑a.a : Int) = (↑a.a : Int) ∧
  (↑a.b : Int) = (↑a.b : Int) ∧
  (↑a.p : Int) = (↑a.p : Int) ∧
  (a'.m.length ≤ a_4.m.length ∧
  RowsEq a'.m.length (1 : Nat) (updR (updR (encRows encU a_4.m) ((0 : Nat) + (↑a_6 : Int).toNat) (0 : Nat) [Value.int IntKind.u64 (gl a_4.m ((0 : Nat) + (↑a_8 : Int).toNat))]) ((0 : Nat) + (↑a_8 : Int).toNat) (0 : Nat) [Value.int IntKind.u64 (gl a_4.m ((0 : Nat) + (↑a_6 : Int).toNat))]) (encRows encU a'.m)) ∧
  (PR a.a a.b a.l a'.m ∧
  a.a < a'.i ∧
  a'.i ≤ a'.j + (1 : Nat) ∧
  a'.j < a.b ∧
  gl a'.m a.a = a.v ∧
  (∀ (k : Nat), a.a ≤ k →
  k < a'.i →
  gl a'.m k ≤ a.v) ∧
  ∀ (k : Nat), a'.j < k →
  k < a.b →
  a.v < gl a'.m k) ∧
  a'.j + (1 : Nat) - a'.i < a_4.j + (1 : Nat) - a_4.i))))))) (by kernel_rfl) (by
  rintro ⟨l, cap, a, b, p⟩ ⟨h1, h2, h3, h4⟩
  dsimp only at h1 h2 h3 h4 ⊢
  have hv : PivA.v ⟨l, cap, a, b, p⟩ = gl l p := rfl
  generalize PivA.v ⟨l, cap, a, b, p⟩ = v at *
  simp only [Nat.zero_add, Int.toNat_natCast, InR]
  ((repeat' apply And.intro) <;> first | with_reducible rfl | omega | (dsimp only; omega) | exact RowsEq.refl _ _ _ | assumption | rfl | trivial | exact Nat.le_refl _ | skip)
  intro _
  ((repeat' apply And.intro) <;> first | with_reducible rfl | omega | (dsimp only; omega) | exact RowsEq.refl _ _ _ | assumption | rfl | trivial | exact Nat.le_refl _ | skip)
  intro _
  ((repeat' apply And.intro) <;> first | with_reducible rfl | omega | (dsimp only; omega) | exact RowsEq.refl _ _ _ | assumption | rfl | trivial | exact Nat.le_refl _ | skip)
  · refine ⟨⟨swpL l a p, a + 1, b - 1⟩, ?_⟩
    have p1 : PR a b l (swpL l a p) := .step (.refl _) (by omega) (by omega) (by omega) (by omega) (by omega)
    have r1 : RowsEq (swpL l a p).length 1 (updR (updR (encRows encU l) a 0 [Go.Value.int Go.IntKind.u64 (gl l p)]) p 0 [Go.Value.int Go.IntKind.u64 (gl l a)]) (encRows encU (swpL l a p)) := rows_swap (by omega) (by omega) rfl rfl
    have n1 := swpL_length l a p
    have g1 : gl (swpL l a p) a = v := by
      rw [gl_swp (by omega) (by omega)]
      grind
    have s1 : ∀ k, a ≤ k → k < a + 1 → gl (swpL l a p) k ≤ v := fun k h5 h6 => by
      have : k = a := by omega
      subst this; omega
    have s2 : ∀ k, b - 1 < k → k < b → v < gl (swpL l a p) k := fun k h5 h6 => by omega
    ((repeat' apply And.intro) <;> first | with_reducible rfl | omega | (dsimp only; omega) | exact RowsEq.refl _ _ _ | assumption | rfl | trivial | exact Nat.le_refl _ | skip)
  intro y hy
  obtain ⟨m, i0, j0⟩ := y
  obtain ⟨y1, y2, y3, y4, y5, y6, y7⟩ := hy
  dsimp only at y1 y2 y3 y4 y5 y6 y7 ⊢
  have hm := y1.length
  refine ⟨⟨⟨i0, ?_⟩, ?_⟩, ?_⟩
  · ((repeat' apply And.intro) <;> first | with_reducible rfl | omega | (dsimp only; omega) | exact RowsEq.refl _ _ _ | assumption | rfl | trivial | exact Nat.le_refl _ | skip)
  · intro i hi
    obtain ⟨i1, i2, i3⟩ := hi
    refine ⟨fun c1 => ?_, fun c1 => ⟨i, ?_⟩⟩
    · simp only [decide_eq_true_eq] at c1
      ((repeat' apply And.intro) <;> first | with_reducible rfl | omega | (dsimp only; omega) | exact RowsEq.refl _ _ _ | assumption | rfl | trivial | exact Nat.le_refl _ | skip)
      intro _
      ((repeat' apply And.intro) <;> first | with_reducible rfl | omega | (dsimp only; omega) | exact RowsEq.refl _ _ _ | assumption | rfl | trivial | exact Nat.le_refl _ | skip)
      refine fun _ => ⟨(gl m a, gl m i), ?_⟩
      ((repeat' apply And.intro) <;> first | with_reducible rfl | omega | (dsimp only; omega) | exact RowsEq.refl _ _ _ | assumption | rfl | trivial | exact Nat.le_refl _ | skip)
      dsimp only
      rw [y5]
      refine fun _ _ => ⟨fun c2 => ⟨by omega, i + 1, ?_⟩, fun c2 => ⟨i, ?_⟩⟩
      · have c2 : ¬ v < gl m i := by simpa using c2
        have s1 : ∀ k, a ≤ k → k < i + 1 → gl m k ≤ v := fun k h5 h6 => by
          by_cases e : k = i
          · subst e; omega
          · exact i3 k h5 (by omega)
        ((repeat' apply And.intro) <;> first | with_reducible rfl | omega | (dsimp only; omega) | exact RowsEq.refl _ _ _ | assumption | rfl | trivial | exact Nat.le_refl _ | skip)
      · have c2 : v < gl m i := by simpa using c2
        have o1 : j0 < i ∨ v < gl m i := .inr c2
        ((repeat' apply And.intro) <;> first | with_reducible rfl | omega | (dsimp only; omega) | exact RowsEq.refl _ _ _ | assumption | rfl | trivial | exact Nat.le_refl _ | skip)
    · simp only [decide_eq_false_iff_not] at c1
      have o1 : j0 < i ∨ v < gl m i := .inl (by omega)
      ((repeat' apply And.intro) <;> first | with_reducible rfl | omega | (dsimp only; omega) | exact RowsEq.refl _ _ _ | assumption | rfl | trivial | exact Nat.le_refl _ | skip)
  · intro i hi
    obtain ⟨i1, i2, i3, i4⟩ := hi
    refine ⟨⟨j0, ?_⟩, fun j hj => ?_⟩
    · ((repeat' apply And.intro) <;> first | with_reducible rfl | omega | (dsimp only; omega) | exact RowsEq.refl _ _ _ | assumption | rfl | trivial | exact Nat.le_refl _ | skip)
    obtain ⟨j1, j2, j3⟩ := hj
    refine ⟨fun c1 => ?_, fun c1 => ?_⟩
    · simp only [decide_eq_true_eq] at c1
      ((repeat' apply And.intro) <;> first | with_reducible rfl | omega | (dsimp only; omega) | exact RowsEq.refl _ _ _ | assumption | rfl | trivial | exact Nat.le_refl _ | skip)
      intro _
      ((repeat' apply And.intro) <;> first | with_reducible rfl | omega | (dsimp only; omega) | exact RowsEq.refl _ _ _ | assumption | rfl | trivial | exact Nat.le_refl _ | skip)
      refine fun _ => ⟨(gl m a, gl m j), ?_⟩
      ((repeat' apply And.intro) <;> first | with_reducible rfl | omega | (dsimp only; omega) | exact RowsEq.refl _ _ _ | assumption | rfl | trivial | exact Nat.le_refl _ | skip)
      dsimp only
      rw [y5]
      refine fun _ _ => ⟨fun c2 => ⟨by omega, j - 1, ?_⟩, fun c2 => ⟨fun c3 => ?_, fun c3 => ?_⟩⟩
      · have c2 : v < gl m j := by simpa using c2
        have s1 : ∀ k, j - 1 < k → k < b → v < gl m k := fun k h5 h6 => by
          by_cases e : k = j
          · subst e; omega
          · exact j3 k (by omega) h6
        ((repeat' apply And.intro) <;> first | with_reducible rfl | omega | (dsimp only; omega) | exact RowsEq.refl _ _ _ | assumption | rfl | trivial | exact Nat.le_refl _ | skip)
      · simp only [decide_eq_true_eq] at c3; omega
      · have c2 : ¬ v < gl m j := by simpa using c2
        have hij : i < j := by
          have : i ≠ j := fun e => by subst e; omega
          omega
        ((repeat' apply And.intro) <;> first | with_reducible rfl | omega | (dsimp only; omega) | exact RowsEq.refl _ _ _ | assumption | rfl | trivial | exact Nat.le_refl _ | skip)
        intro _
        ((repeat' apply And.intro) <;> first | with_reducible rfl | omega | (dsimp only; omega) | exact RowsEq.refl _ _ _ | assumption | rfl | trivial | exact Nat.le_refl _ | skip)
        intro _
        ((repeat' apply And.intro) <;> first | with_reducible rfl | omega | (dsimp only; omega) | exact RowsEq.refl _ _ _ | assumption | rfl | trivial | exact Nat.le_refl _ | skip)
        refine ⟨⟨swpL m i j, i + 1, j - 1⟩, ?_⟩
        have p1 : PR a b l (swpL m i j) := .step y1 (by omega) (by omega) (by omega) (by omega) (by omega)
        have r1 : RowsEq (swpL m i j).length 1 (updR (updR (encRows encU m) i 0 [Go.Value.int Go.IntKind.u64 (gl m j)]) j 0 [Go.Value.int Go.IntKind.u64 (gl m i)]) (encRows encU (swpL m i j)) := rows_swap (by omega) (by omega) rfl rfl
        have n1 := swpL_length m i j
        have g1 : gl (swpL m i j) a = v := by
          rw [gl_swp (by omega) (by omega), if_neg (by omega), if_neg (by omega)]; exact y5
        have s1 : ∀ k, a ≤ k → k < i + 1 → gl (swpL m i j) k ≤ v := fun k h5 h6 => by
          rw [gl_swp (by omega) (by omega), if_neg (by omega)]
          by_cases e : k = i
          · rw [if_pos e]; omega
          · rw [if_neg e]; exact i3 k h5 (by omega)
        have s2 : ∀ k, j - 1 < k → k < b → v < gl (swpL m i j) k := fun k h5 h6 => by
          rw [gl_swp (by omega) (by omega)]
          by_cases e : k = j
          · rw [if_pos e]; omega
          · rw [if_neg e, if_neg (by omega)]; exact j3 k (by omega) h6
        ((repeat' apply And.intro) <;> first | with_reducible rfl | omega | (dsimp only; omega) | exact RowsEq.refl _ _ _ | assumption | rfl | trivial | exact Nat.le_refl _ | skip)
    · simp only [decide_eq_false_iff_not] at c1
      refine ⟨fun c3 => ⟨(m, i), ?_⟩, fun c3 => ?_⟩
      · have s2 : ∀ k, i ≤ k → k < b → v < gl m k := fun k h5 h6 => j3 k (by omega) h6
        ((repeat' apply And.intro) <;> first | with_reducible rfl | omega | (dsimp only; omega) | exact RowsEq.refl _ _ _ | assumption | rfl | trivial | exact Nat.le_refl _ | skip)
      · simp only [decide_eq_false_iff_not] at c3; omega)
theorem callPartEq : CallsBy (Y Try.prog).G.X 44 cPartEq := fn_ok okY tabU_ok bodyPartEq
structure PartB where
  m : List Int
  mid : Nat
  done : Bool
noncomputable def cPart : Con where
  α := PivA
  β := PartB
  m := 1
  m' := 1
  pre := fun x => x.ok
  args := fun x => [.a (.slc 0 0 1 x.l.length x.cap), .a (.int .i64 x.a), .a (.int .i64 x.b), .a (.int .i64 x.p)]
  hp := fun x => [(0, arrU x.l)]
  ro := fun _ => []
  post := fun x y => PR x.a x.b x.l y.m ∧ x.a ≤ y.mid ∧ y.mid < x.b ∧ (∀ k, x.a ≤ k → k < y.mid → gl y.m k ≤ gl y.m y.mid) ∧ ∀ k, y.mid < k → k < x.b → gl y.m y.mid ≤ gl y.m k
  res := fun _ y => .tup [.a (.int .i64 y.mid), .a (.bool y.done)]
  hp' := fun _ y => [(0, arrU y.m)]
structure PartI (x : PivA) (y : RngS) : Prop where
  all : PR x.a x.b x.l y.m ∧ x.a < y.i ∧ y.i ≤ y.j + 1 ∧ y.j < x.b ∧ gl y.m x.a = x.v ∧ (∀ k, x.a < k → k < y.i → gl y.m k < x.v) ∧ ∀ k, y.j < k → k < x.b → x.v ≤ gl y.m k
def iPt1 (key : Nat) (x : PivA) (y : RngS) : An := .flat key Nat (fun s i => s.int 10 i) (fun _ i => y.i ≤ i ∧ i ≤ y.j + 1 ∧ ∀ k, x.a < k → k < i → gl y.m k < x.v) (fun _ i => y.j + 1 - i)
def iPt2 (key : Nat) (x : PivA) (y : RngS) (i : Nat) : An := .flat key Nat (fun s j => s.int 11 j) (fun _ j => i ≤ j + 1 ∧ j ≤ y.j ∧ ∀ k, j < k → k < x.b → x.v ≤ gl y.m k) (fun _ j => j)
def cPtB (key : Nat) (x : PivA) (y : RngS) (i : Nat) (more : List An) : An := .mk key Nat (fun s j => s.int 11 j) (fun _ j => i ≤ j + 1 ∧ j ≤ y.j ∧ (∀ k, j < k → k < x.b → x.v ≤ gl y.m k) ∧ (j < i ∨ gl y.m j < x.v)) (fun _ _ => 0) fun _ => .mk 60 more []
def cPt (key key2 : Nat) (x : PivA) (y : RngS) (more : List An) : An := .mk key Nat (fun s i => s.int 10 i) (fun _ i => y.i ≤ i ∧ i ≤ y.j + 1 ∧ (∀ k, x.a < k → k < i → gl y.m k < x.v) ∧ (y.j < i ∨ ¬ gl y.m i < x.v)) (fun _ _ => 0) fun i => .mk 60 [iPt2 key x y i] [cPtB key2 x y i more]
def iPt (x : PivA) : An := .mk 13 RngS (fun s y => ((S.dat s y.m).int 10 y.i).int 11 y.j) (fun _ y => PartI x y) (fun _ y => y.j + 1 - y.i) fun y => .mk 60 [iPt1 13 x y] [cPt 15 17 x y []]
def cPt0 (x : PivA) : An := .mk 3 RngS (fun s y => ((S.dat s y.m).int 10 y.i).int 11 y.j) (fun _ y => PartI x y) (fun _ _ => 0) fun y => .mk 60 [iPt1 3 x y] [cPt 5 7 x y [iPt x]]
theorem PartI.swap {x : PivA} {y : RngS} (h : PartI x y) (hb : x.b ≤ x.l.length) {i j : Nat} (h1 : y.i ≤ i) (h2 : i ≤ j) (h3 : j ≤ y.j) (h4 : ∀ k, x.a < k → k < i → gl y.m k < x.v) (h5 : ¬ gl y.m i < x.v)
    (h6 : ∀ k, j < k → k < x.b → x.v ≤ gl y.m k) (h7 : gl y.m j < x.v) : PartI x ⟨swpL y.m i j, i + 1, j - 1⟩ ∧ i < j := by
  obtain ⟨y1, y2, y3, y4, y5, y6, y7⟩ := h.all
  have hm := y1.length
  have hij : i < j := by
    have : i ≠ j := fun e => by subst e; omega
    omega
  refine ⟨⟨.step y1 (by omega) (by omega) (by omega) (by omega) (by omega), ?_, ?_, ?_, ?_, fun k g1 g2 => ?_, fun k g1 g2 => ?_⟩, hij⟩ <;> dsimp only at *
  · omega
  · omega
  · omega
  · rw [gl_swp (by omega) (by omega), if_neg (by omega), if_neg (by omega)]; exact y5
  · rw [gl_swp (by omega) (by omega), if_neg (by omega)]
    by_cases e : k = i
    · rw [if_pos e]; exact h7
    · rw [if_neg e]; exact h4 k g1 (by omega)
  · rw [gl_swp (by omega) (by omega)]
    by_cases e : k = j
    · rw [if_pos e]; omega
    · rw [if_neg e, if_neg (by omega)]; exact h6 k (by omega) g2
theorem PartI.fin {x : PivA} {y : RngS} (h : PartI x y) (hb : x.b ≤ x.l.length) {i j : Nat} (h1 : y.i ≤ i) (h2 : i = j + 1) (h3 : j ≤ y.j) (h4 : ∀ k, x.a < k → k < i → gl y.m k < x.v)
    (h6 : ∀ k, j < k → k < x.b → x.v ≤ gl y.m k) : PR x.a x.b x.l (swpL y.m j x.a) ∧ x.a ≤ j ∧ j < x.b ∧ (∀ k, x.a ≤ k → k < j → gl (swpL y.m j x.a) k ≤ gl (swpL y.m j x.a) j) ∧ ∀ k, j < k → k < x.b → gl (swpL y.m j x.a) j ≤ gl (swpL y.m j x.a) k := by
  obtain ⟨y1, y2, y3, y4, y5, y6, y7⟩ := h.all
  have hm := y1.length
  have ej : gl (swpL y.m j x.a) j = x.v := by
    rw [gl_swp (by omega) (by omega)]
    by_cases e : j = x.a
    · rw [if_pos e, e]; exact y5
    · rw [if_neg e, if_pos rfl]; exact y5
  refine ⟨.step y1 (by omega) (by omega) (by omega) (by omega) (by omega), by omega, by omega, fun k g1 g2 => ?_, fun k g1 g2 => ?_⟩
  · rw [ej, gl_swp (by omega) (by omega)]
    by_cases e : k = x.a
    · rw [if_pos e]; have := h4 j (by omega) (by omega); omega
    · rw [if_neg e, if_neg (by omega)]; have := h4 k (by omega) (by omega); omega
  · rw [ej, gl_swp (by omega) (by omega), if_neg (by omega), if_neg (by omega)]
    exact h6 k g1 g2
set_option maxHeartbeats 4000000 in
theorem bodyPart : fnBody (Y Try.prog) tabU 45 cPart fun x => [(45, [iPt x], [cPt0 x])] := fnBody.of (p :=
  ∀ (a : PivA), a.ok →
  ((0 : Int) ≤ (↑a.p : Int) ∧
  (↑a.p : Int) < (↑a.l.length : Int)) ∧
  (0 : Nat) + (↑a.p : Int).toNat < a.l.length ∧
  (InR IntKind.u64 (gl a.l ((0 : Nat) + (↑a.p : Int).toNat)) →
  ((0 : Int) ≤ (↑a.a : Int) ∧
  (↑a.a : Int) < (↑a.l.length : Int)) ∧
  (0 : Nat) + (↑a.a : Int).toNat < a.l.length ∧
  (InR IntKind.u64 (gl a.l ((0 : Nat) + (↑a.a : Int).toNat)) →
  ((0 : Int) ≤ (↑a.a : Int) ∧
  (↑a.a : Int) < (↑a.l.length : Int)) ∧
  (0 : Nat) + (↑a.a : Int).toNat < a.l.length ∧
  ((0 : Int) ≤ (↑a.p : Int) ∧
  (↑a.p : Int) < (↑a.l.length : Int)) ∧
  (0 : Nat) + (↑a.p : Int).toNat < a.l.length ∧
  (InR IntKind.i64 ((↑a.a : Int) + (1 : Int)) ∧
  InR IntKind.i64 ((↑a.b : Int) - (1 : Int)) ∧
  ∃ (a_4 : RngS), (↑a.b : Int) - (1 : Int) = (↑a_4.j : Int) ∧
  (↑a.a : Int) + (1 : Int) = (↑a_4.i : Int) ∧
  Bool.false = Bool.false ∧
  (0 : Int) = (0 : Int) ∧
  ((0 : Nat) = (0 : Nat) ∧
  a.l.length = a.l.length ∧
  a.cap = a.cap) ∧
  (↑a.a : Int) = (↑a.a : Int) ∧
  (↑a.b : Int) = (↑a.b : Int) ∧
  (↑a.p : Int) = (↑a.p : Int) ∧
  (a_4.m.length ≤ a.l.length ∧
  RowsEq a_4.m.length (1 : Nat) (updR (updR (encRows encU a.l) ((0 : Nat) + (↑a.a : Int).toNat) (0 : Nat) [Value.int IntKind.u64 (gl a.l ((0 : Nat) + (↑a.p : Int).toNat))]) ((0 : Nat) + (↑a.p : Int).toNat) (0 : Nat) [Value.int IntKind.u64 (gl a.l ((0 : Nat) + (↑a.a : Int).toNat))]) (encRows encU a_4.m)) ∧
  PartI a a_4 ∧
  True) ∧
  ∀ (a_4 : RngS), PartI a a_4 →
  ((∃ (a_6 : Nat), (↑a_4.i : Int) = (↑a_6 : Int) ∧
  (↑a_4.j : Int) = (↑a_4.j : Int) ∧
  Bool.false = Bool.false ∧
  (0 : Int) = (0 : Int) ∧
  ((0 : Nat) = (0 : Nat) ∧
  a.l.length = a.l.length ∧
  a.cap = a.cap) ∧
  (↑a.a : Int) = (↑a.a : Int) ∧
  (↑a.b : Int) = (↑a.b : Int) ∧
  (↑a.p : Int) = (↑a.p : Int) ∧
  (a_4.m.length ≤ a_4.m.length ∧
  RowsEq a_4.m.length (1 : Nat) (encRows encU a_4.m) (encRows encU a_4.m)) ∧
  (a_4.i ≤ a_6 ∧
  a_6 ≤ a_4.j + (1 : Nat) ∧
  ∀ (k : Nat), a.a < k →
  k < a_6 →
  gl a_4.m k < a.v) ∧
  True) ∧
  ∀ (a_6 : Nat), (a_4.i ≤ a_6 ∧
  a_6 ≤ a_4.j + (1 : Nat) ∧
  ∀ (k : Nat), a.a < k →
  k < a_6 →
  gl a_4.m k < a.v) →
  (Decidable.decide ((↑a_6 : Int) ≤ (↑a_4.j : Int)) = Bool.true →
  ((0 : Int) ≤ (↑a_6 : Int) ∧
  (↑a_6 : Int) < (↑a.l.length : Int)) ∧
  (0 : Nat) + (↑a_6 : Int).toNat < a_4.m.length ∧
  (InR IntKind.u64 (gl a_4.m ((0 : Nat) + (↑a_6 : Int).toNat)) →
  ((0 : Int) ≤ (↑a.a : Int) ∧
  (↑a.a : Int) < (↑a.l.length : Int)) ∧
  (0 : Nat) + (↑a.a : Int).toNat < a_4.m.length ∧
  (InR IntKind.u64 (gl a_4.m ((0 : Nat) + (↑a.a : Int).toNat)) →
  ∃ (a_11 : Int × Int), gl a_4.m ((0 : Nat) + (↑a_6 : Int).toNat) = a_11.fst ∧
  gl a_4.m ((0 : Nat) + (↑a.a : Int).toNat) = a_11.snd ∧
  True ∧
  ∀ (b : Unit), True →
  (Decidable.decide (a_11.fst < a_11.snd) = Bool.true →
  InR IntKind.i64 ((↑a_6 : Int) + (1 : Int)) ∧
  ∃ (a' : Nat), (↑a_6 : Int) + (1 : Int) = (↑a' : Int) ∧
  (↑a_4.j : Int) = (↑a_4.j : Int) ∧
  Bool.false = Bool.false ∧
  (0 : Int) = (0 : Int) ∧
  ((0 : Nat) = (0 : Nat) ∧
  a.l.length = a.l.length ∧
  a.cap = a.cap) ∧
  (↑a.a : Int) = (↑a.a : Int) ∧
  (↑a.b : Int) = (↑a.b : Int) ∧
  (↑a.p : Int) = (↑a.p : Int) ∧
  (a_4.m.length ≤ a_4.m.length ∧
  RowsEq a_4.m.length (1 : Nat) (encRows encU a_4.m) (encRows encU a_4.m)) ∧
  (a_4.i ≤ a' ∧
  a' ≤ a_4.j + (1 : Nat) ∧
  ∀ (k : Nat), a.a < k →
  k < a' →
  gl a_4.m k < a.v) ∧
  a_4.j + (1 : Nat) - a' < a_4.j + (1 : Nat) - a_6) ∧
  (Decidable.decide (a_11.fst < a_11.snd) = Bool.false →
  ∃ (a_14 : Nat), (↑a_6 : Int) = (↑a_14 : Int) ∧
  (↑a_4.j : Int) = (↑a_4.j : Int) ∧
  Bool.false = Bool.false ∧
  (0 : Int) = (0 : Int) ∧
  ((0 : Nat) = (0 : Nat) ∧
  a.l.length = a.l.length ∧
  a.cap = a.cap) ∧
  (↑a.a : Int) = (↑a.a : Int) ∧
  (↑a.b : Int) = (↑a.b : Int) ∧
  (↑a.p : Int) = (↑a.p : Int) ∧
  (a_4.m.length ≤ a_4.m.length ∧
  RowsEq a_4.m.length (1 : Nat) (encRows encU a_4.m) (encRows encU a_4.m)) ∧
  (a_4.i ≤ a_14 ∧
  a_14 ≤ a_4.j + (1 : Nat) ∧
  (∀ (k : Nat), a.a < k →
  k < a_14 →
  gl a_4.m k < a.v) ∧
  (a_4.j < a_14 ∨ ¬gl a_4.m a_14 < a.v)) ∧
  True)))) ∧
  (Decidable.decide ((↑a_6 : Int) ≤ (↑a_4.j : Int)) = Bool.false →
  ∃ (a_9 : Nat), (↑a_6 : Int) = (↑a_9 : Int) ∧
  (↑a_4.j : Int) = (↑a_4.j : Int) ∧
  Bool.false = Bool.false ∧
  (0 : Int) = (0 : Int) ∧
  ((0 : Nat) = (0 : Nat) ∧
  a.l.length = a.l.length ∧
  a.cap = a.cap) ∧
  (↑a.a : Int) = (↑a.a : Int) ∧
  (↑a.b : Int) = (↑a.b : Int) ∧
  (↑a.p : Int) = (↑a.p : Int) ∧
  (a_4.m.length ≤ a_4.m.length ∧
  RowsEq a_4.m.length (1 : Nat) (encRows encU a_4.m) (encRows encU a_4.m)) ∧
  (a_4.i ≤ a_9 ∧
  a_9 ≤ a_4.j + (1 : Nat) ∧
  (∀ (k : Nat), a.a < k →
  k < a_9 →
  gl a_4.m k < a.v) ∧
  (a_4.j < a_9 ∨ ¬gl a_4.m a_9 < a.v)) ∧
  True)) ∧
  ∀ (a_6 : Nat), a_4.i ≤ a_6 ∧
  a_6 ≤ a_4.j + (1 : Nat) ∧
  (∀ (k : Nat), a.a < k →
  k < a_6 →
  gl a_4.m k < a.v) ∧
  (a_4.j < a_6 ∨ ¬gl a_4.m a_6 < a.v) →
  ((∃ (a_8 : Nat), (↑a_4.j : Int) = (↑a_8 : Int) ∧
  (↑a_6 : Int) = (↑a_6 : Int) ∧
  Bool.false = Bool.false ∧
  (0 : Int) = (0 : Int) ∧
  ((0 : Nat) = (0 : Nat) ∧
  a.l.length = a.l.length ∧
  a.cap = a.cap) ∧
  (↑a.a : Int) = (↑a.a : Int) ∧
  (↑a.b : Int) = (↑a.b : Int) ∧
  (↑a.p : Int) = (↑a.p : Int) ∧
  (a_4.m.length ≤ a_4.m.length ∧
  RowsEq a_4.m.length (1 : Nat) (encRows encU a_4.m) (encRows encU a_4.m)) ∧
  (a_6 ≤ a_8 + (1 : Nat) ∧
  a_8 ≤ a_4.j ∧
  ∀ (k : Nat), a_8 < k →
  k < a.b →
  a.v ≤ gl a_4.m k) ∧
  True) ∧
  ∀ (a_8 : Nat), (a_6 ≤ a_8 + (1 : Nat) ∧
  a_8 ≤ a_4.j ∧
  ∀ (k : Nat), a_8 < k →
  k < a.b →
  a.v ≤ gl a_4.m k) →
  (Decidable.decide ((↑a_6 : Int) ≤ (↑a_8 : Int)) = Bool.true →
  ((0 : Int) ≤ (↑a_8 : Int) ∧
  (↑a_8 : Int) < (↑a.l.length : Int)) ∧
  (0 : Nat) + (↑a_8 : Int).toNat < a_4.m.length ∧
  (InR IntKind.u64 (gl a_4.m ((0 : Nat) + (↑a_8 : Int).toNat)) →
  ((0 : Int) ≤ (↑a.a : Int) ∧
  (↑a.a : Int) < (↑a.l.length : Int)) ∧
  (0 : Nat) + (↑a.a : Int).toNat < a_4.m.length ∧
  (InR IntKind.u64 (gl a_4.m ((0 : Nat) + (↑a.a : Int).toNat)) →
  ∃ (a_13 : Int × Int), gl a_4.m ((0 : Nat) + (↑a_8 : Int).toNat) = a_13.fst ∧
  gl a_4.m ((0 : Nat) + (↑a.a : Int).toNat) = a_13.snd ∧
  True ∧
  ∀ (b : Unit), True →
  ((!Decidable.decide (a_13.fst < a_13.snd)) = Bool.true →
  InR IntKind.i64 ((↑a_8 : Int) - (1 : Int)) ∧
  ∃ (a' : Nat), (↑a_8 : Int) - (1 : Int) = (↑a' : Int) ∧
  (↑a_6 : Int) = (↑a_6 : Int) ∧
  Bool.false = Bool.false ∧
  (0 : Int) = (0 : Int) ∧
  ((0 : Nat) = (0 : Nat) ∧
  a.l.length = a.l.length ∧
  a.cap = a.cap) ∧
  (↑a.a : Int) = (↑a.a : Int) ∧
  (↑a.b : Int) = (↑a.b : Int) ∧
  (↑a.p : Int) = (↑a.p : Int) ∧
  (a_4.m.length ≤ a_4.m.length ∧
  RowsEq a_4.m.length (1 : Nat) (encRows encU a_4.m) (encRows encU a_4.m)) ∧
  (a_6 ≤ a' + (1 : Nat) ∧
  a' ≤ a_4.j ∧
  ∀ (k : Nat), a' < k →
  k < a.b →
  a.v ≤ gl a_4.m k) ∧
  a' < a_8) ∧
  ((!Decidable.decide (a_13.fst < a_13.snd)) = Bool.false →
  ∃ (a_16 : Nat), (↑a_8 : Int) = (↑a_16 : Int) ∧
  (↑a_6 : Int) = (↑a_6 : Int) ∧
  Bool.false = Bool.false ∧
  (0 : Int) = (0 : Int) ∧
  ((0 : Nat) = (0 : Nat) ∧
  a.l.length = a.l.length ∧
  a.cap = a.cap) ∧
  (↑a.a : Int) = (↑a.a : Int) ∧
  (↑a.b : Int) = (↑a.b : Int) ∧
  (↑a.p : Int) = (↑a.p : Int) ∧
  (a_4.m.length ≤ a_4.m.length ∧
  RowsEq a_4.m.length (1 : Nat) (encRows encU a_4.m) (encRows encU a_4.m)) ∧
  (a_6 ≤ a_16 + (1 : Nat) ∧
  a_16 ≤ a_4.j ∧
  (∀ (k : Nat), a_16 < k →
  k < a.b →
  a.v ≤ gl a_4.m k) ∧
  (a_16 < a_6 ∨ gl a_4.m a_16 < a.v)) ∧
  True)))) ∧
  (Decidable.decide ((↑a_6 : Int) ≤ (↑a_8 : Int)) = Bool.false →
  ∃ (a_11 : Nat), (↑a_8 : Int) = (↑a_11 : Int) ∧
  (↑a_6 : Int) = (↑a_6 : Int) ∧
  Bool.false = Bool.false ∧
  (0 : Int) = (0 : Int) ∧
  ((0 : Nat) = (0 : Nat) ∧
  a.l.length = a.l.length ∧
  a.cap = a.cap) ∧
  (↑a.a : Int) = (↑a.a : Int) ∧
  (↑a.b : Int) = (↑a.b : Int) ∧
  (↑a.p : Int) = (↑a.p : Int) ∧
  (a_4.m.length ≤ a_4.m.length ∧
  RowsEq a_4.m.length (1 : Nat) (encRows encU a_4.m) (encRows encU a_4.m)) ∧
  (a_6 ≤ a_11 + (1 : Nat) ∧
  a_11 ≤ a_4.j ∧
  (∀ (k : Nat), a_11 < k →
  k < a.b →
  a.v ≤ gl a_4.m k) ∧
  (a_11 < a_6 ∨ gl a_4.m a_11 < a.v)) ∧
  True)) ∧
  ∀ (a_8 : Nat), a_6 ≤ a_8 + (1 : Nat) ∧
  a_8 ≤ a_4.j ∧
  (∀ (k : Nat), a_8 < k →
  k < a.b →
  a.v ≤ gl a_4.m k) ∧
  (a_8 < a_6 ∨ gl a_4.m a_8 < a.v) →
  (Decidable.decide ((↑a_8 : Int) < (↑a_6 : Int)) = Bool.true →
  ((0 : Int) ≤ (↑a.a : Int) ∧
  (↑a.a : Int) < (↑a.l.length : Int)) ∧
  (0 : Nat) + (↑a.a : Int).toNat < a_4.m.length ∧
  (InR IntKind.u64 (gl a_4.m ((0 : Nat) + (↑a.a : Int).toNat)) →
  ((0 : Int) ≤ (↑a_8 : Int) ∧
  (↑a_8 : Int) < (↑a.l.length : Int)) ∧
  (0 : Nat) + (↑a_8 : Int).toNat < a_4.m.length ∧
  (InR IntKind.u64 (gl a_4.m ((0 : Nat) + (↑a_8 : Int).toNat)) →
  ((0 : Int) ≤ (↑a_8 : Int) ∧
  (↑a_8 : Int) < (↑a.l.length : Int)) ∧
  (0 : Nat) + (↑a_8 : Int).toNat < a_4.m.length ∧
  ((0 : Int) ≤ (↑a.a : Int) ∧
  (↑a.a : Int) < (↑a.l.length : Int)) ∧
  (0 : Nat) + (↑a.a : Int).toNat < a_4.m.length ∧
  ∃ (b : PartB), (↑a_8 : Int) = (↑b.mid : Int) ∧
  Bool.true = b.done ∧
  (b.m.length ≤ a_4.m.length ∧
  RowsEq b.m.length (1 : Nat) (updR (updR (encRows encU a_4.m) ((0 : Nat) + (↑a_8 : Int).toNat) (0 : Nat) [Value.int IntKind.u64 (gl a_4.m ((0 : Nat) + (↑a.a : Int).toNat))]) ((0 : Nat) + (↑a.a : Int).toNat) (0 : Nat) [Value.int IntKind.u64 (gl a_4.m ((0 : Nat) + (↑a_8 : Int).toNat))]) (encRows encU b.m)) ∧
  (PR a.a a.b a.l b.m ∧
  a.a ≤ b.mid ∧
  b.mid < a.b ∧
  (∀ (k : Nat), a.a ≤ k →
  k < b.mid →
  gl b.m k ≤ gl b.m b.mid) ∧
  ∀ (k : Nat), b.mid < k →
  k < a.b →
  gl b.m b.mid ≤ gl b.m k) ∧
  True))) ∧
  (Decidable.decide ((↑a_8 : Int) < (↑a_6 : Int)) = Bool.false →
  ((0 : Int) ≤ (↑a_8 : Int) ∧
  (↑a_8 : Int) < (↑a.l.length : Int)) ∧
  (0 : Nat) + (↑a_8 : Int).toNat < a_4.m.length ∧
  (InR IntKind.u64 (gl a_4.m ((0 : Nat) + (↑a_8 : Int).toNat)) →
  ((0 : Int) ≤ (↑a_6 : Int) ∧
  (↑a_6 : Int) < (↑a.l.length : Int)) ∧
  (0 : Nat) + (↑a_6 : Int).toNat < a_4.m.length ∧
  (InR IntKind.u64 (gl a_4.m ((0 : Nat) + (↑a_6 : Int).toNat)) →
  ((0 : Int) ≤ (↑a_6 : Int) ∧
  (↑a_6 : Int) < (↑a.l.length : Int)) ∧
  (0 : Nat) + (↑a_6 : Int).toNat < a_4.m.length ∧
  ((0 : Int) ≤ (↑a_8 : Int) ∧
  (↑a_8 : Int) < (↑a.l.length : Int)) ∧
  (0 : Nat) + (↑a_8 : Int).toNat < a_4.m.length ∧
  InR IntKind.i64 ((↑a_6 : Int) + (1 : Int)) ∧
  InR IntKind.i64 ((↑a_8 : Int) - (1 : Int)) ∧
  (∃ (a_13 : RngS), (↑a_8 : Int) - (1 : Int) = (↑a_13.j : Int) ∧
  (↑a_6 : Int) + (1 : Int) = (↑a_13.i : Int) ∧
  Decidable.decide ((↑a_8 : Int) < (↑a_6 : Int)) = Decidable.decide ((↑a_8 : Int) < (↑a_6 : Int)) ∧
  Bool.false = Bool.false ∧
  (0 : Int) = (0 : Int) ∧
  ((0 : Nat) = (0 : Nat) ∧
  a.l.length = a.l.length ∧
  a.cap = a.cap) ∧
  (↑a.a : Int) = (↑a.a : Int) ∧
  (↑a.b : Int) = (↑a.b : Int) ∧
  (↑a.p : Int) = (↑a.p : Int) ∧
  (a_13.m.length ≤ a_4.m.length ∧
  RowsEq a_13.m.length (1 : Nat) (updR (updR (encRows encU a_4.m) ((0 : Nat) + (↑a_6 : Int).toNat) (0 : Nat) [Value.int IntKind.u64 (gl a_4.m ((0 : Nat) + (↑a_8 : Int).toNat))]) ((0 : Nat) + (↑a_8 : Int).toNat) (0 : Nat) [Value.int IntKind.u64 (gl a_4.m ((0 : Nat) + (↑a_6 : Int).toNat))]) (encRows encU a_13.m)) ∧
  PartI a a_13 ∧
  True) ∧
  ∀ (a_13 : RngS), PartI a a_13 →
  ((∃ (a_15 : Nat), (↑a_13.i : Int) = (↑a_15 : Int) ∧
  (↑a_13.j : Int) = (↑a_13.j : Int) ∧
  Decidable.decide ((↑a_8 : Int) < (↑a_6 : Int)) = Decidable.decide ((↑a_8 : Int) < (↑a_6 : Int)) ∧
  Bool.false = Bool.false ∧
  (0 : Int) = (0 : Int) ∧
  ((0 : Nat) = (0 : Nat) ∧
  a.l.length = a.l.length ∧
  a.cap = a.cap) ∧
  (↑a.a : Int) = (↑a.a : Int) ∧
  (↑a.b : Int) = (↑a.b : Int) ∧
  (↑a.p : Int) = (↑a.p : Int) ∧
  (a_13.m.length ≤ a_13.m.length ∧
  RowsEq a_13.m.length (1 : Nat) (encRows encU a_13.m) (encRows encU a_13.m)) ∧
  (a_13.i ≤ a_15 ∧
  a_15 ≤ a_13.j + (1 : Nat) ∧
  ∀ (k : Nat), a.a < k →
  k < a_15 →
  gl a_13.m k < a.v) ∧
  True) ∧
  ∀ (a_15 : Nat), (a_13.i ≤ a_15 ∧
  a_15 ≤ a_13.j + (1 : Nat) ∧
  ∀ (k : Nat), a.a < k →
  k < a_15 →
  gl a_13.m k < a.v) →
  (Decidable.decide ((↑a_15 : Int) ≤ (↑a_13.j : Int)) = Bool.true →
  ((0 : Int) ≤ (↑a_15 : Int) ∧
  (↑a_15 : Int) < (↑a.l.length : Int)) ∧
  (0 : Nat) + (↑a_15 : Int).toNat < a_13.m.length ∧
  (InR IntKind.u64 (gl a_13.m ((0 : Nat) + (↑a_15 : Int).toNat)) →
  ((0 : Int) ≤ (↑a.a : Int) ∧
  (↑a.a : Int) < (↑a.l.length : Int)) ∧
  (0 : Nat) + (↑a.a : Int).toNat < a_13.m.length ∧
  (InR IntKind.u64 (gl a_13.m ((0 : Nat) + (↑a.a : Int).toNat)) →
  ∃ (a_20 : Int × Int), gl a_13.m ((0 : Nat) + (↑a_15 : Int).toNat) = a_20.fst ∧
  gl a_13.m ((0 : Nat) + (↑a.a : Int).toNat) = a_20.snd ∧
  True ∧
  ∀ (b : Unit), True →
  (Decidable.decide (a_20.fst < a_20.snd) = Bool.true →
  InR IntKind.i64 ((↑a_15 : Int) + (1 : Int)) ∧
  ∃ (a' : Nat), (↑a_15 : Int) + (1 : Int) = (↑a' : Int) ∧
  (↑a_13.j : Int) = (↑a_13.j : Int) ∧
  Decidable.decide ((↑a_8 : Int) < (↑a_6 : Int)) = Decidable.decide ((↑a_8 : Int) < (↑a_6 : Int)) ∧
  Bool.false = Bool.false ∧
  (0 : Int) = (0 : Int) ∧
  ((0 : Nat) = (0 : Nat) ∧
  a.l.length = a.l.length ∧
  a.cap = a.cap) ∧
  (↑a.a : Int) = (↑a.a : Int) ∧
  (↑a.b : Int) = (↑a.b : Int) ∧
  (↑a.p : Int) = (↑a.p : Int) ∧
  (a_13.m.length ≤ a_13.m.length ∧
  RowsEq a_13.m.length (1 : Nat) (encRows encU a_13.m) (encRows encU a_13.m)) ∧
  (a_13.i ≤ a' ∧
  a' ≤ a_13.j + (1 : Nat) ∧
  ∀ (k : Nat), a.a < k →
  k < a' →
  gl a_13.m k < a.v) ∧
  a_13.j + (1 : Nat) - a' < a_13.j + (1 : Nat) - a_15) ∧
  (Decidable.decide (a_20.fst < a_20.snd) = Bool.false →
  ∃ (a_23 : Nat), (↑a_15 : Int) = (↑a_23 : Int) ∧
  (↑a_13.j : Int) = (↑a_13.j : Int) ∧
  Decidable.decide ((↑a_8 : Int) < (↑a_6 : Int)) = Decidable.decide ((↑a_8 : Int) < (↑a_6 : Int)) ∧
  Bool.false = Bool.false ∧
  (0 : Int) = (0 : Int) ∧
  ((0 : Nat) = (0 : Nat) ∧
  a.l.length = a.l.length ∧
  a.cap = a.cap) ∧
  (↑a.a : Int) = (↑a.a : Int) ∧
  (↑a.b : Int) = (↑a.b : Int) ∧
  (↑a.p : Int) = (↑a.p : Int) ∧
  (a_13.m.length ≤ a_13.m.length ∧
  RowsEq a_13.m.length (1 : Nat) (encRows encU a_13.m) (encRows encU a_13.m)) ∧
  (a_13.i ≤ a_23 ∧
  a_23 ≤ a_13.j + (1 : Nat) ∧
  (∀ (k : Nat), a.a < k →
  k < a_23 →
  gl a_13.m k < a.v) ∧
  (a_13.j < a_23 ∨ ¬gl a_13.m a_23 < a.v)) ∧
  True)))) ∧
  (Decidable.decide ((↑a_15 : Int) ≤ (↑a_13.j : Int)) = Bool.false →
  ∃ (a_18 : Nat), (↑a_15 : Int) = (↑a_18 : Int) ∧
  (↑a_13.j : Int) = (↑a_13.j : Int) ∧
  Decidable.decide ((↑a_8 : Int) < (↑a_6 : Int)) = Decidable.decide ((↑a_8 : Int) < (↑a_6 : Int)) ∧
  Bool.false = Bool.false ∧
  (0 : Int) = (0 : Int) ∧
  ((0 : Nat) = (0 : Nat) ∧
  a.l.length = a.l.length ∧
  a.cap = a.cap) ∧
  (↑a.a : Int) = (↑a.a : Int) ∧
  (↑a.b : Int) = (↑a.b : Int) ∧
  (↑a.p : Int) = (↑a.p : Int) ∧
  (a_13.m.length ≤ a_13.m.length ∧
  RowsEq a_13.m.length (1 : Nat) (encRows encU a_13.m) (encRows encU a_13.m)) ∧
  (a_13.i ≤ a_18 ∧
  a_18 ≤ a_13.j + (1 : Nat) ∧
  (∀ (k : Nat), a.a < k →
  k < a_18 →
  gl a_13.m k < a.v) ∧
  (a_13.j < a_18 ∨ ¬gl a_13.m a_18 < a.v)) ∧
  True)) ∧
  ∀ (a_15 : Nat), a_13.i ≤ a_15 ∧
  a_15 ≤ a_13.j + (1 : Nat) ∧
  (∀ (k : Nat), a.a < k →
  k < a_15 →
  gl a_13.m k < a.v) ∧
  (a_13.j < a_15 ∨ ¬gl a_13.m a_15 < a.v) →
  ((∃ (a_17 : Nat), (↑a_13.j : Int) = (↑a_17 : Int) ∧
  (↑a_15 : Int) = (↑a_15 : Int) ∧
  Decidable.decide ((↑a_8 : Int) < (↑a_6 : Int)) = Decidable.decide ((↑a_8 : Int) < (↑a_6 : Int)) ∧
  Bool.false = Bool.false ∧
  (0 : Int) = (0 : Int) ∧
  ((0 : Nat) = (0 : Nat) ∧
  a.l.length = a.l.length ∧
  a.cap = a.cap) ∧
  (↑a.a : Int) = (↑a.a : Int) ∧
  (↑a.b : Int) = (↑a.b : Int) ∧
  (↑a.p : Int) = (↑a.p : Int) ∧
  (a_13.m.length ≤ a_13.m.length ∧
  RowsEq a_13.m.length (1 : Nat) (encRows encU a_13.m) (encRows encU a_13.m)) ∧
  (a_15 ≤ a_17 + (1 : Nat) ∧
  a_17 ≤ a_13.j ∧
  ∀ (k : Nat), a_17 < k →
  k < a.b →
  a.v ≤ gl a_13.m k) ∧
  True) ∧
  ∀ (a_17 : Nat), (a_15 ≤ a_17 + (1 : Nat) ∧
  a_17 ≤ a_13.j ∧
  ∀ (k : Nat), a_17 < k →
  k < a.b →
  a.v ≤ gl a_13.m k) →
  (Decidable.decide ((↑a_15 : Int) ≤ (↑a_17 : Int)) = Bool.true →
  ((0 : Int) ≤ (↑a_17 : Int) ∧
  (↑a_17 : Int) < (↑a.l.length : Int)) ∧
  (0 : Nat) + (↑a_17 : Int).toNat < a_13.m.length ∧
  (InR IntKind.u64 (gl a_13.m ((0 : Nat) + (↑a_17 : Int).toNat)) →
  ((0 : Int) ≤ (↑a.a : Int) ∧
  (↑a.a : Int) < (↑a.l.length : Int)) ∧
  (0 : Nat) + (↑a.a : Int).toNat < a_13.m.length ∧
  (InR IntKind.u64 (gl a_13.m ((0 : Nat) + (↑a.a : Int).toNat)) →
  ∃ (a_22 : Int × Int), gl a_13.m ((0 : Nat) + (↑a_17 : Int).toNat) = a_22.fst ∧
  gl a_13.m ((0 : Nat) + (↑a.a : Int).toNat) = a_22.snd ∧
  True ∧
  ∀ (b : Unit), True →
  ((!Decidable.decide (a_22.fst < a_22.snd)) = Bool.true →
  InR IntKind.i64 ((↑a_17 : Int) - (1 : Int)) ∧
  ∃ (a' : Nat), (↑a_17 : Int) - (1 : Int) = (↑a' : Int) ∧
  (↑a_15 : Int) = (↑a_15 : Int) ∧
  Decidable.decide ((↑a_8 : Int) < (↑a_6 : Int)) = Decidable.decide ((↑a_8 : Int) < (↑a_6 : Int)) ∧
  Bool.false = Bool.false ∧
  (0 : Int) = (0 : Int) ∧
  ((0 : Nat) = (0 : Nat) ∧
  a.l.length = a.l.length ∧
  a.cap = a.cap) ∧
  (↑a.a : Int) = (↑a.a : Int) ∧
  (↑a.b : Int) = (↑a.b : Int) ∧
  (↑a.p : Int) = (↑a.p : Int) ∧
  (a_13.m.length ≤ a_13.m.length ∧
  RowsEq a_13.m.length (1 : Nat) (encRows encU a_13.m) (encRows encU a_13.m)) ∧
  (a_15 ≤ a' + (1 : Nat) ∧
  a' ≤ a_13.j ∧
  ∀ (k : Nat), a' < k →
  k < a.b →
  a.v ≤ gl a_13.m k) ∧
  a' < a_17) ∧
  ((!Decidable.decide (a_22.fst < a_22.snd)) = Bool.false →
  ∃ (a_25 : Nat), (↑a_17 : Int) = (↑a_25 : Int) ∧
  (↑a_15 : Int) = (↑a_15 : Int) ∧
  Decidable.decide ((↑a_8 : Int) < (↑a_6 : Int)) = Decidable.decide ((↑a_8 : Int) < (↑a_6 : Int)) ∧
  Bool.false = Bool.false ∧
  (0 : Int) = (0 : Int) ∧
  ((0 : Nat) = (0 : Nat) ∧
  a.l.length = a.l.length ∧
  a.cap = a.cap) ∧
  (↑a.a : Int) = (↑a.a : Int) ∧
  (↑a.b : Int) = (↑a.b : Int) ∧
  (↑a.p : Int) = (↑a.p : Int) ∧
  (a_13.m.length ≤ a_13.m.length ∧
  RowsEq a_13.m.length (1 : Nat) (encRows encU a_13.m) (encRows encU a_13.m)) ∧
  (a_15 ≤ a_25 + (1 : Nat) ∧
  a_25 ≤ a_13.j ∧
  (∀ (k : Nat), a_25 < k →
  k < a.b →
  a.v ≤ gl a_13.m k) ∧
  (a_25 < a_15 ∨ gl a_13.m a_25 < a.v)) ∧
  True)))) ∧
  (Decidable.decide ((↑a_15 : Int) ≤ (↑a_17 : Int)) = Bool.false →
  ∃ (a_20 : Nat), (↑a_17 : Int) = (↑a_20 : Int) ∧
  (↑a_15 : Int) = (↑a_15 : Int) ∧
  Decidable.decide ((↑a_8 : Int) < (↑a_6 : Int)) = Decidable.decide ((↑a_8 : Int) < (↑a_6 : Int)) ∧
  Bool.false = Bool.false ∧
  (0 : Int) = (0 : Int) ∧
  ((0 : Nat) = (0 : Nat) ∧
  a.l.length = a.l.length ∧
  a.cap = a.cap) ∧
  (↑a.a : Int) = (↑a.a : Int) ∧
  (↑a.b : Int) = (↑a.b : Int) ∧
  (↑a.p : Int) = (↑a.p : Int) ∧
  (a_13.m.length ≤ a_13.m.length ∧
  RowsEq a_13.m.length (1 : Nat) (encRows encU a_13.m) (encRows encU a_13.m)) ∧
  (a_15 ≤ a_20 + (1 : Nat) ∧
  a_20 ≤ a_13.j ∧
  (∀ (k : Nat), a_20 < k →
  k < a.b →
  a.v ≤ gl a_13.m k) ∧
  (a_20 < a_15 ∨ gl a_13.m a_20 < a.v)) ∧
  True)) ∧
  ∀ (a_17 : Nat), a_15 ≤ a_17 + (1 : Nat) ∧
  a_17 ≤ a_13.j ∧
  (∀ (k : Nat), a_17 < k →
  k < a.b →
  a.v ≤ gl a_13.m k) ∧
  (a_17 < a_15 ∨ gl a_13.m a_17 < a.v) →
  (Decidable.decide ((↑a_17 : Int) < (↑a_15 : Int)) = Bool.true →
  ((0 : Int) ≤ (↑a.a : Int) ∧
  (↑a.a : Int) < (↑a.l.length : Int)) ∧
  (0 : Nat) + (↑a.a : Int).toNat < a_13.m.length ∧
  (InR IntKind.u64 (gl a_13.m ((0 : Nat) + (↑a.a : Int).toNat)) →
  ((0 : Int) ≤ (↑a_17 : Int) ∧
  (↑a_17 : Int) < (↑a.l.length : Int)) ∧
  (0 : Nat) + (↑a_17 : Int).toNat < a_13.m.length ∧
  (InR IntKind.u64 (gl a_13.m ((0 : Nat) + (↑a_17 : Int).toNat)) →
  ((0 : Int) ≤ (↑a_17 : Int) ∧
  (↑a_17 : Int) < (↑a.l.length : Int)) ∧
  (0 : Nat) + (↑a_17 : Int).toNat < a_13.m.length ∧
  ((0 : Int) ≤ (↑a.a : Int) ∧
  (↑a.a : Int) < (↑a.l.length : Int)) ∧
  (0 : Nat) + (↑a.a : Int).toNat < a_13.m.length ∧
  ∃ (b : PartB), (↑a_17 : Int) = (↑b.mid : Int) ∧
  Bool.false = b.done ∧
  (b.m.length ≤ a_13.m.length ∧
  RowsEq b.m.length (1 : Nat) (updR (updR (encRows encU a_13.m) ((0 : Nat) + (↑a_17 : Int).toNat) (0 : Nat) [Value.int IntKind.u64 (gl a_13.m ((0 : Nat) + (↑a.a : Int).toNat))]) ((0 : Nat) + (↑a.a : Int).toNat) (0 : Nat) [Value.int IntKind.u64 (gl a_13.m ((0 : Nat) + (↑a_17 : Int).toNat))]) (encRows encU b.m)) ∧
  (PR a.a a.b a.l b.m ∧
  a.a ≤ b.mid ∧
  b.mid < a.b ∧
  (∀ (k : Nat), a.a ≤ k →
  k < b.mid →
  gl b.m k ≤ gl b.m b.mid) ∧
  ∀ (k : Nat), b.mid < k →
  k < a.b →
  gl b.m b.mid ≤ gl b.m k) ∧
  True))) ∧
  (Decidable.decide ((↑a_17 : Int) < (↑a_15 : Int)) = Bool.false →
  ((0 : Int) ≤ (↑a_17 : Int) ∧
  (↑a_17 : Int) < (↑a.l.length : Int)) ∧
  (0 : Nat) + (↑a_17 : Int).toNat < a_13.m.length ∧
  (InR IntKind.u64 (gl a_13.m ((0 : Nat) + (↑a_17 : Int).toNat)) →
  ((0 : Int) ≤ (↑a_15 : Int) ∧
  (↑a_15 : Int) < (↑a.l.length : Int)) ∧
  (0 : Nat) + (↑a_15 : Int).toNat < a_13.m.length ∧
  (InR IntKind.u64 (gl a_13.m ((0 : Nat) + (↑a_15 : Int).toNat)) →
  ((0 : Int) ≤ (↑a_15 : Int) ∧
  (↑a_15 : Int) < (↑a.l.length : Int)) ∧
  (0 : Nat) + (↑a_15 : Int).toNat < a_13.m.length ∧
  ((0 : Int) ≤ (↑a_17 : Int) ∧
  (↑a_17 : Int) < (↑a.l.length : Int)) ∧
  (0 : Nat) + (↑a_17 : Int).toNat < a_13.m.length ∧
  InR IntKind.i64 ((↑a_15 : Int) + (1 : Int)) ∧
  InR IntKind.i64 ((↑a_17 : Int) - (1 : Int)) ∧
  ∃ (a' : RngS), (↑a_17 : Int) - (1 : Int) = (↑a'.j : Int) ∧
  (↑a_15 : Int) + (1 : Int) = (↑a'.i : Int) ∧
  Decidable.decide ((↑a_8 : Int) < (↑a_6 : Int)) = Decidable.decide ((↑a_8 : Int) < (↑a_6 : Int)) ∧
  Bool.false = Bool.false ∧
  (0 : Int) = (0 : Int) ∧
  ((0 : Nat) = (0 : Nat) ∧
  a.l.length = a.l.length ∧
  a.cap = a.cap) ∧
  (↑a.a : Int) = (↑a.a : Int) ∧
  (↑a.b : Int) = (↑a.b : Int) ∧
  (↑a.p : Int) = (↑a.p : Int) ∧
  (a'.m.length ≤ a_13.m.length ∧
  RowsEq a'.m.length (1 : Nat) (updR (updR (encRows encU a_13.m) ((0 : Nat) + (↑a_15 : Int).toNat) (0 : Nat) [Value.int IntKind.u64 (gl a_13.m ((0 : Nat) + (↑a_17 : Int).toNat))]) ((0 : Nat) + (↑a_17 : Int).toNat) (0 : Nat) [Value.int IntKind.u64 (gl a_13.m ((0 : Nat) + (↑a_15 : Int).toNat))]) (encRows encU a'.m)) ∧
  PartI a a' ∧
  a'.j + (1 : Nat) - a'.i < a_13.j + (1 : Nat) - a_13.i))))))))) (by kernel_rfl) (by
  rintro x ⟨h1, h2, h3, h4⟩
  have hb := h3
  have hv : x.v = gl x.l x.p := rfl
  simp only [Nat.zero_add, Int.toNat_natCast, InR]
  ((repeat' apply And.intro) <;> first | with_reducible rfl | omega | (dsimp only; omega) | exact RowsEq.refl _ _ _ | assumption | rfl | trivial | exact Nat.le_refl _ | skip)
  intro _
  ((repeat' apply And.intro) <;> first | with_reducible rfl | omega | (dsimp only; omega) | exact RowsEq.refl _ _ _ | assumption | rfl | trivial | exact Nat.le_refl _ | skip)
  intro _
  ((repeat' apply And.intro) <;> first | with_reducible rfl | omega | (dsimp only; omega) | exact RowsEq.refl _ _ _ | assumption | rfl | trivial | exact Nat.le_refl _ | skip)
  · refine ⟨⟨swpL x.l x.a x.p, x.a + 1, x.b - 1⟩, ?_⟩
    have r1 : RowsEq (swpL x.l x.a x.p).length 1 (updR (updR (encRows encU x.l) x.a 0 [Go.Value.int Go.IntKind.u64 (gl x.l x.p)]) x.p 0 [Go.Value.int Go.IntKind.u64 (gl x.l x.a)]) (encRows encU (swpL x.l x.a x.p)) := rows_swap (by omega) (by omega) rfl rfl
    have n1 := swpL_length x.l x.a x.p
    have g1 : gl (swpL x.l x.a x.p) x.a = x.v := by
      rw [gl_swp (by omega) (by omega)]
      grind
    have p1 : PartI x ⟨swpL x.l x.a x.p, x.a + 1, x.b - 1⟩ := ⟨.step (.refl _) (by omega) (by omega) (by omega) (by omega) (by omega), by dsimp only; omega, by dsimp only; omega, by dsimp only; omega, g1, (fun k g2 g3 => by dsimp only at g3; omega), (fun k g2 g3 => by dsimp only at g2; omega)⟩
    ((repeat' apply And.intro) <;> first | with_reducible rfl | omega | (dsimp only; omega) | exact RowsEq.refl _ _ _ | assumption | rfl | trivial | exact Nat.le_refl _ | skip)
  intro y hy
  have hmy := hy.all.1.length
  obtain ⟨y1, y2, y3, y4, y5, y6, y7⟩ := hy.all
  refine ⟨⟨⟨y.i, ?_⟩, fun i hi => ?_⟩, fun i hi => ?_⟩
  · ((repeat' apply And.intro) <;> first | with_reducible rfl | omega | (dsimp only; omega) | exact RowsEq.refl _ _ _ | assumption | rfl | trivial | exact Nat.le_refl _ | skip)
  · obtain ⟨i1, i2, i3⟩ := hi
    refine ⟨fun c1 => ?_, fun c1 => ⟨i, ?_⟩⟩
    · simp only [decide_eq_true_eq] at c1
      ((repeat' apply And.intro) <;> first | with_reducible rfl | omega | (dsimp only; omega) | exact RowsEq.refl _ _ _ | assumption | rfl | trivial | exact Nat.le_refl _ | skip)
      intro _
      ((repeat' apply And.intro) <;> first | with_reducible rfl | omega | (dsimp only; omega) | exact RowsEq.refl _ _ _ | assumption | rfl | trivial | exact Nat.le_refl _ | skip)
      refine fun _ => ⟨(gl y.m i, gl y.m x.a), ?_⟩
      ((repeat' apply And.intro) <;> first | with_reducible rfl | omega | (dsimp only; omega) | exact RowsEq.refl _ _ _ | assumption | rfl | trivial | exact Nat.le_refl _ | skip)
      dsimp only
      rw [y5]
      refine fun _ _ => ⟨fun c2 => ⟨by omega, i + 1, ?_⟩, fun c2 => ⟨i, ?_⟩⟩
      · have c2 : gl y.m i < x.v := by simpa using c2
        have s1 : ∀ k, x.a < k → k < i + 1 → gl y.m k < x.v := fun k h5 h6 => by
          by_cases e : k = i
          · subst e; omega
          · exact i3 k h5 (by omega)
        ((repeat' apply And.intro) <;> first | with_reducible rfl | omega | (dsimp only; omega) | exact RowsEq.refl _ _ _ | assumption | rfl | trivial | exact Nat.le_refl _ | skip)
      · have c2 : ¬ gl y.m i < x.v := by simpa using c2
        have o1 : y.j < i ∨ ¬ gl y.m i < x.v := .inr c2
        ((repeat' apply And.intro) <;> first | with_reducible rfl | omega | (dsimp only; omega) | exact RowsEq.refl _ _ _ | assumption | rfl | trivial | exact Nat.le_refl _ | skip)
    · simp only [decide_eq_false_iff_not] at c1
      have o1 : y.j < i ∨ ¬ gl y.m i < x.v := .inl (by omega)
      ((repeat' apply And.intro) <;> first | with_reducible rfl | omega | (dsimp only; omega) | exact RowsEq.refl _ _ _ | assumption | rfl | trivial | exact Nat.le_refl _ | skip)
  obtain ⟨i1, i2, i3, i4⟩ := hi
  refine ⟨⟨⟨y.j, ?_⟩, fun j hj => ?_⟩, fun j hj => ?_⟩
  · ((repeat' apply And.intro) <;> first | with_reducible rfl | omega | (dsimp only; omega) | exact RowsEq.refl _ _ _ | assumption | rfl | trivial | exact Nat.le_refl _ | skip)
  · obtain ⟨j1, j2, j3⟩ := hj
    refine ⟨fun c1 => ?_, fun c1 => ⟨j, ?_⟩⟩
    · simp only [decide_eq_true_eq] at c1
      ((repeat' apply And.intro) <;> first | with_reducible rfl | omega | (dsimp only; omega) | exact RowsEq.refl _ _ _ | assumption | rfl | trivial | exact Nat.le_refl _ | skip)
      intro _
      ((repeat' apply And.intro) <;> first | with_reducible rfl | omega | (dsimp only; omega) | exact RowsEq.refl _ _ _ | assumption | rfl | trivial | exact Nat.le_refl _ | skip)
      refine fun _ => ⟨(gl y.m j, gl y.m x.a), ?_⟩
      ((repeat' apply And.intro) <;> first | with_reducible rfl | omega | (dsimp only; omega) | exact RowsEq.refl _ _ _ | assumption | rfl | trivial | exact Nat.le_refl _ | skip)
      dsimp only
      rw [y5]
      refine fun _ _ => ⟨fun c2 => ⟨by omega, j - 1, ?_⟩, fun c2 => ⟨j, ?_⟩⟩
      · have c2 : ¬ gl y.m j < x.v := by simpa using c2
        have s1 : ∀ k, j - 1 < k → k < x.b → x.v ≤ gl y.m k := fun k h5 h6 => by
          by_cases e : k = j
          · subst e; omega
          · exact j3 k (by omega) h6
        ((repeat' apply And.intro) <;> first | with_reducible rfl | omega | (dsimp only; omega) | exact RowsEq.refl _ _ _ | assumption | rfl | trivial | exact Nat.le_refl _ | skip)
      · have c2 : gl y.m j < x.v := by simpa using c2
        have o1 : j < i ∨ gl y.m j < x.v := .inr c2
        ((repeat' apply And.intro) <;> first | with_reducible rfl | omega | (dsimp only; omega) | exact RowsEq.refl _ _ _ | assumption | rfl | trivial | exact Nat.le_refl _ | skip)
    · simp only [decide_eq_false_iff_not] at c1
      have o1 : j < i ∨ gl y.m j < x.v := .inl (by omega)
      ((repeat' apply And.intro) <;> first | with_reducible rfl | omega | (dsimp only; omega) | exact RowsEq.refl _ _ _ | assumption | rfl | trivial | exact Nat.le_refl _ | skip)
  obtain ⟨j1, j2, j3, j4⟩ := hj
  refine ⟨fun c1 => ?_, fun c1 => ?_⟩
  · simp only [decide_eq_true_eq] at c1
    have hf := hy.fin hb i1 (show i = j + 1 by omega) j2 i3 j3
    obtain ⟨f1, f2, f3, f4, f5⟩ := id hf
    ((repeat' apply And.intro) <;> first | with_reducible rfl | omega | (dsimp only; omega) | exact RowsEq.refl _ _ _ | assumption | rfl | trivial | exact Nat.le_refl _ | skip)
    intro _
    ((repeat' apply And.intro) <;> first | with_reducible rfl | omega | (dsimp only; omega) | exact RowsEq.refl _ _ _ | assumption | rfl | trivial | exact Nat.le_refl _ | skip)
    intro _
    ((repeat' apply And.intro) <;> first | with_reducible rfl | omega | (dsimp only; omega) | exact RowsEq.refl _ _ _ | assumption | rfl | trivial | exact Nat.le_refl _ | skip)
    refine ⟨⟨swpL y.m j x.a, j, true⟩, ?_⟩
    have r1 : RowsEq (swpL y.m j x.a).length 1 (updR (updR (encRows encU y.m) j 0 [Go.Value.int Go.IntKind.u64 (gl y.m x.a)]) x.a 0 [Go.Value.int Go.IntKind.u64 (gl y.m j)]) (encRows encU (swpL y.m j x.a)) := rows_swap (by omega) (by omega) rfl rfl
    have n1 := swpL_length y.m j x.a
    ((repeat' apply And.intro) <;> first | with_reducible rfl | omega | (dsimp only; omega) | exact RowsEq.refl _ _ _ | assumption | rfl | trivial | exact Nat.le_refl _ | skip)
  simp only [decide_eq_false_iff_not] at c1
  have hp := hy.swap hb i1 (show i ≤ j by omega) j2 i3 (i4.resolve_left (by omega)) j3 (j4.resolve_left (by omega))
  obtain ⟨p1, p2⟩ := hp
  have r1 : RowsEq (swpL y.m i j).length 1 (updR (updR (encRows encU y.m) i 0 [Go.Value.int Go.IntKind.u64 (gl y.m j)]) j 0 [Go.Value.int Go.IntKind.u64 (gl y.m i)]) (encRows encU (swpL y.m i j)) := rows_swap (by omega) (by omega) rfl rfl
  have n1 := swpL_length y.m i j
  ((repeat' apply And.intro) <;> first | with_reducible rfl | omega | (dsimp only; omega) | exact RowsEq.refl _ _ _ | assumption | rfl | trivial | exact Nat.le_refl _ | skip)
  intro _
  ((repeat' apply And.intro) <;> first | with_reducible rfl | omega | (dsimp only; omega) | exact RowsEq.refl _ _ _ | assumption | rfl | trivial | exact Nat.le_refl _ | skip)
  intro _
  ((repeat' apply And.intro) <;> first | with_reducible rfl | omega | (dsimp only; omega) | exact RowsEq.refl _ _ _ | assumption | rfl | trivial | exact Nat.le_refl _ | skip)
  · refine ⟨⟨swpL y.m i j, i + 1, j - 1⟩, ?_⟩
    ((repeat' apply And.intro) <;> first | with_reducible rfl | omega | (dsimp only; omega) | exact RowsEq.refl _ _ _ | assumption | rfl | trivial | exact Nat.le_refl _ | skip)
  clear hy y1 y2 y3 y4 y5 y6 y7 hmy i1 i2 i3 i4 j1 j2 j3 j4 c1 p1 p2 r1 n1
  intro z hz
  have hmz := hz.all.1.length
  obtain ⟨z1, z2, z3, z4, z5, z6, z7⟩ := hz.all
  refine ⟨⟨⟨z.i, ?_⟩, fun i hi => ?_⟩, fun i hi => ?_⟩
  · ((repeat' apply And.intro) <;> first | with_reducible rfl | omega | (dsimp only; omega) | exact RowsEq.refl _ _ _ | assumption | rfl | trivial | exact Nat.le_refl _ | skip)
  · obtain ⟨i1, i2, i3⟩ := hi
    refine ⟨fun c1 => ?_, fun c1 => ⟨i, ?_⟩⟩
    · simp only [decide_eq_true_eq] at c1
      ((repeat' apply And.intro) <;> first | with_reducible rfl | omega | (dsimp only; omega) | exact RowsEq.refl _ _ _ | assumption | rfl | trivial | exact Nat.le_refl _ | skip)
      intro _
      ((repeat' apply And.intro) <;> first | with_reducible rfl | omega | (dsimp only; omega) | exact RowsEq.refl _ _ _ | assumption | rfl | trivial | exact Nat.le_refl _ | skip)
      refine fun _ => ⟨(gl z.m i, gl z.m x.a), ?_⟩
      ((repeat' apply And.intro) <;> first | with_reducible rfl | omega | (dsimp only; omega) | exact RowsEq.refl _ _ _ | assumption | rfl | trivial | exact Nat.le_refl _ | skip)
      dsimp only
      rw [z5]
      refine fun _ _ => ⟨fun c2 => ⟨by omega, i + 1, ?_⟩, fun c2 => ⟨i, ?_⟩⟩
      · have c2 : gl z.m i < x.v := by simpa using c2
        have s1 : ∀ k, x.a < k → k < i + 1 → gl z.m k < x.v := fun k h5 h6 => by
          by_cases e : k = i
          · subst e; omega
          · exact i3 k h5 (by omega)
        ((repeat' apply And.intro) <;> first | with_reducible rfl | omega | (dsimp only; omega) | exact RowsEq.refl _ _ _ | assumption | rfl | trivial | exact Nat.le_refl _ | skip)
      · have c2 : ¬ gl z.m i < x.v := by simpa using c2
        have o1 : z.j < i ∨ ¬ gl z.m i < x.v := .inr c2
        ((repeat' apply And.intro) <;> first | with_reducible rfl | omega | (dsimp only; omega) | exact RowsEq.refl _ _ _ | assumption | rfl | trivial | exact Nat.le_refl _ | skip)
    · simp only [decide_eq_false_iff_not] at c1
      have o1 : z.j < i ∨ ¬ gl z.m i < x.v := .inl (by omega)
      ((repeat' apply And.intro) <;> first | with_reducible rfl | omega | (dsimp only; omega) | exact RowsEq.refl _ _ _ | assumption | rfl | trivial | exact Nat.le_refl _ | skip)
  obtain ⟨i1, i2, i3, i4⟩ := hi
  refine ⟨⟨⟨z.j, ?_⟩, fun j hj => ?_⟩, fun j hj => ?_⟩
  · ((repeat' apply And.intro) <;> first | with_reducible rfl | omega | (dsimp only; omega) | exact RowsEq.refl _ _ _ | assumption | rfl | trivial | exact Nat.le_refl _ | skip)
  · obtain ⟨j1, j2, j3⟩ := hj
    refine ⟨fun c1 => ?_, fun c1 => ⟨j, ?_⟩⟩
    · simp only [decide_eq_true_eq] at c1
      ((repeat' apply And.intro) <;> first | with_reducible rfl | omega | (dsimp only; omega) | exact RowsEq.refl _ _ _ | assumption | rfl | trivial | exact Nat.le_refl _ | skip)
      intro _
      ((repeat' apply And.intro) <;> first | with_reducible rfl | omega | (dsimp only; omega) | exact RowsEq.refl _ _ _ | assumption | rfl | trivial | exact Nat.le_refl _ | skip)
      refine fun _ => ⟨(gl z.m j, gl z.m x.a), ?_⟩
      ((repeat' apply And.intro) <;> first | with_reducible rfl | omega | (dsimp only; omega) | exact RowsEq.refl _ _ _ | assumption | rfl | trivial | exact Nat.le_refl _ | skip)
      dsimp only
      rw [z5]
      refine fun _ _ => ⟨fun c2 => ⟨by omega, j - 1, ?_⟩, fun c2 => ⟨j, ?_⟩⟩
      · have c2 : ¬ gl z.m j < x.v := by simpa using c2
        have s1 : ∀ k, j - 1 < k → k < x.b → x.v ≤ gl z.m k := fun k h5 h6 => by
          by_cases e : k = j
          · subst e; omega
          · exact j3 k (by omega) h6
        ((repeat' apply And.intro) <;> first | with_reducible rfl | omega | (dsimp only; omega) | exact RowsEq.refl _ _ _ | assumption | rfl | trivial | exact Nat.le_refl _ | skip)
      · have c2 : gl z.m j < x.v := by simpa using c2
        have o1 : j < i ∨ gl z.m j < x.v := .inr c2
        ((repeat' apply And.intro) <;> first | with_reducible rfl | omega | (dsimp only; omega) | exact RowsEq.refl _ _ _ | assumption | rfl | trivial | exact Nat.le_refl _ | skip)
    · simp only [decide_eq_false_iff_not] at c1
      have o1 : j < i ∨ gl z.m j < x.v := .inl (by omega)
      ((repeat' apply And.intro) <;> first | with_reducible rfl | omega | (dsimp only; omega) | exact RowsEq.refl _ _ _ | assumption | rfl | trivial | exact Nat.le_refl _ | skip)
  obtain ⟨j1, j2, j3, j4⟩ := hj
  refine ⟨fun c1 => ?_, fun c1 => ?_⟩
  · simp only [decide_eq_true_eq] at c1
    have hf := hz.fin hb i1 (show i = j + 1 by omega) j2 i3 j3
    obtain ⟨f1, f2, f3, f4, f5⟩ := id hf
    ((repeat' apply And.intro) <;> first | with_reducible rfl | omega | (dsimp only; omega) | exact RowsEq.refl _ _ _ | assumption | rfl | trivial | exact Nat.le_refl _ | skip)
    intro _
    ((repeat' apply And.intro) <;> first | with_reducible rfl | omega | (dsimp only; omega) | exact RowsEq.refl _ _ _ | assumption | rfl | trivial | exact Nat.le_refl _ | skip)
    intro _
    ((repeat' apply And.intro) <;> first | with_reducible rfl | omega | (dsimp only; omega) | exact RowsEq.refl _ _ _ | assumption | rfl | trivial | exact Nat.le_refl _ | skip)
    refine ⟨⟨swpL z.m j x.a, j, false⟩, ?_⟩
    have r1 : RowsEq (swpL z.m j x.a).length 1 (updR (updR (encRows encU z.m) j 0 [Go.Value.int Go.IntKind.u64 (gl z.m x.a)]) x.a 0 [Go.Value.int Go.IntKind.u64 (gl z.m j)]) (encRows encU (swpL z.m j x.a)) := rows_swap (by omega) (by omega) rfl rfl
    have n1 := swpL_length z.m j x.a
    ((repeat' apply And.intro) <;> first | with_reducible rfl | omega | (dsimp only; omega) | exact RowsEq.refl _ _ _ | assumption | rfl | trivial | exact Nat.le_refl _ | skip)
  simp only [decide_eq_false_iff_not] at c1
  have hp := hz.swap hb i1 (show i ≤ j by omega) j2 i3 (i4.resolve_left (by omega)) j3 (j4.resolve_left (by omega))
  obtain ⟨p1, p2⟩ := hp
  have r1 : RowsEq (swpL z.m i j).length 1 (updR (updR (encRows encU z.m) i 0 [Go.Value.int Go.IntKind.u64 (gl z.m j)]) j 0 [Go.Value.int Go.IntKind.u64 (gl z.m i)]) (encRows encU (swpL z.m i j)) := rows_swap (by omega) (by omega) rfl rfl
  have n1 := swpL_length z.m i j
  ((repeat' apply And.intro) <;> first | with_reducible rfl | omega | (dsimp only; omega) | exact RowsEq.refl _ _ _ | assumption | rfl | trivial | exact Nat.le_refl _ | skip)
  intro _
  ((repeat' apply And.intro) <;> first | with_reducible rfl | omega | (dsimp only; omega) | exact RowsEq.refl _ _ _ | assumption | rfl | trivial | exact Nat.le_refl _ | skip)
  intro _
  ((repeat' apply And.intro) <;> first | with_reducible rfl | omega | (dsimp only; omega) | exact RowsEq.refl _ _ _ | assumption | rfl | trivial | exact Nat.le_refl _ | skip)
  refine ⟨⟨swpL z.m i j, i + 1, j - 1⟩, ?_⟩
  ((repeat' apply And.intro) <;> first | with_reducible rfl | omega | (dsimp only; omega) | exact RowsEq.refl _ _ _ | assumption | rfl | trivial | exact Nat.le_refl _ | skip))
theorem callPart : CallsBy (Y Try.prog).G.X 45 cPart := fn_ok okY tabU_ok bodyPart

/-! ### nearly in order -/

structure PinS where
  m : List Int
  i : Nat
  c : Nat
noncomputable def cPin : Con where
  α := RngA
  β := List Int × Bool
  m := 1
  m' := 1
  pre := fun x => x.ok ∧ (0 < x.a → ∀ k, x.a ≤ k → k < x.b → gl x.l (x.a - 1) ≤ gl x.l k)
  args := fun x => [.a (.slc 0 0 1 x.l.length x.cap), .a (.int .i64 x.a), .a (.int .i64 x.b)]
  hp := fun x => [(0, arrU x.l)]
  ro := fun _ => []
  post := fun x y => PR x.a x.b x.l y.1 ∧ (y.2 = true → Srt y.1 x.a x.b)
  res := fun _ y => .a (.bool y.2)
  hp' := fun _ y => [(0, arrU y.1)]
def iPi1 (x : RngA) (y : PinS) : An := .flat 5 Nat (fun s i => s.int 7 i) (fun _ i => y.i ≤ i ∧ i ≤ x.b ∧ Srt y.m x.a i) (fun _ i => x.b - i)
def iPi2 (x : RngA) (i : Nat) : An := .flat 14 RngS (fun s z => (S.dat s z.m).int 9 z.j)
  (fun _ z => PR x.a x.b x.l z.m ∧ x.a ≤ z.j ∧ z.j < i ∧ ∀ p q, x.a ≤ p → p < q → q < i → q ≠ z.j → gl z.m p ≤ gl z.m q) (fun _ z => z.j)
def iPi3 (x : RngA) (i : Nat) : An := .flat 20 RngS (fun s z => (S.dat s z.m).int 10 z.j) (fun _ z => PR x.a x.b x.l z.m ∧ i < z.j ∧ z.j ≤ x.b ∧ Srt z.m x.a i) (fun _ z => x.b - z.j)
def cPi3 (x : RngA) (i : Nat) : An := .mk 18 (List Int) (fun s m => S.dat s m) (fun _ m => PR x.a x.b x.l m ∧ Srt m x.a i) (fun _ _ => 0) fun _ => .mk 60 [iPi3 x i] []
def cPi1 (x : RngA) (y : PinS) : An := .mk 7 Nat (fun s i => s.int 7 i) (fun _ i => y.i ≤ i ∧ i ≤ x.b ∧ Srt y.m x.a i ∧ (i = x.b ∨ gl y.m i < gl y.m (i - 1))) (fun _ _ => 0) fun i => .mk 60 [iPi2 x i] [cPi3 x i]
def iPi (x : RngA) : An := .mk 3 PinS (fun s y => ((S.dat s y.m).int 7 y.i).int 8 y.c) (fun _ y => PR x.a x.b x.l y.m ∧ x.a < y.i ∧ y.i ≤ x.b ∧ y.c ≤ 5 ∧ Srt y.m x.a y.i) (fun _ y => 5 - y.c) fun y => .mk 60 [iPi1 x y] [cPi1 x y]
set_option maxHeartbeats 4000000 in
theorem bodyPin : fnBody (Y Try.prog) tabU 42 cPin fun x => [(42, [iPi x], [])] := fnBody.of (p :=
  ∀ (a : RngA), a.ok ∧
  ((0 : Nat) < a.a →
  ∀ (k : Nat), a.a ≤ k →
  k < a.b →
  gl a.l (a.a - (1 : Nat)) ≤ gl a.l k) →
  InR IntKind.i64 ((↑a.a : Int) + (1 : Int)) ∧
  (∃ (a_2 : PinS), (0 : Int) = (↑a_2.c : Int) ∧
  (↑a.a : Int) + (1 : Int) = (↑a_2.i : Int) ∧
  Bool.false = Bool.false ∧
  ((0 : Nat) = (0 : Nat) ∧
  a.l.length = a.l.length ∧
  a.cap = a.cap) ∧
  (↑a.a : Int) = (↑a.a : Int) ∧
  (↑a.b : Int) = (↑a.b : Int) ∧
  (a_2.m.length ≤ a.l.length ∧
  RowsEq a_2.m.length (1 : Nat) (encRows encU a.l) (encRows encU a_2.m)) ∧
  (PR a.a a.b a.l a_2.m ∧
  a.a < a_2.i ∧
  a_2.i ≤ a.b ∧
  a_2.c ≤ (5 : Nat) ∧
  Srt a_2.m a.a a_2.i) ∧
  True) ∧
  ∀ (a_2 : PinS), PR a.a a.b a.l a_2.m ∧
  a.a < a_2.i ∧
  a_2.i ≤ a.b ∧
  a_2.c ≤ (5 : Nat) ∧
  Srt a_2.m a.a a_2.i →
  (Decidable.decide ((↑a_2.c : Int) < (5 : Int)) = Bool.true →
  ((∃ (a_5 : Nat), (↑a_2.i : Int) = (↑a_5 : Int) ∧
  Decidable.decide ((↑a_2.c : Int) < (5 : Int)) = Decidable.decide ((↑a_2.c : Int) < (5 : Int)) ∧
  (↑a_2.c : Int) = (↑a_2.c : Int) ∧
  Bool.false = Bool.false ∧
  ((0 : Nat) = (0 : Nat) ∧
  a.l.length = a.l.length ∧
  a.cap = a.cap) ∧
  (↑a.a : Int) = (↑a.a : Int) ∧
  (↑a.b : Int) = (↑a.b : Int) ∧
  (a_2.m.length ≤ a_2.m.length ∧
  RowsEq a_2.m.length (1 : Nat) (encRows encU a_2.m) (encRows encU a_2.m)) ∧
  (a_2.i ≤ a_5 ∧
  a_5 ≤ a.b ∧
  Srt a_2.m a.a a_5) ∧
  True) ∧
  ∀ (a_5 : Nat), a_2.i ≤ a_5 ∧
  a_5 ≤ a.b ∧
  Srt a_2.m a.a a_5 →
  (Decidable.decide ((↑a_5 : Int) < (↑a.b : Int)) = Bool.true →
  ((0 : Int) ≤ (↑a_5 : Int) ∧
  (↑a_5 : Int) < (↑a.l.length : Int)) ∧
  (0 : Nat) + (↑a_5 : Int).toNat < a_2.m.length ∧
  (InR IntKind.u64 (gl a_2.m ((0 : Nat) + (↑a_5 : Int).toNat)) →
  InR IntKind.i64 ((↑a_5 : Int) - (1 : Int)) ∧
  ((0 : Int) ≤ (↑a_5 : Int) - (1 : Int) ∧
  (↑a_5 : Int) - (1 : Int) < (↑a.l.length : Int)) ∧
  (0 : Nat) + ((↑a_5 : Int) - (1 : Int)).toNat < a_2.m.length ∧
  (InR IntKind.u64 (gl a_2.m ((0 : Nat) + ((↑a_5 : Int) - (1 : Int)).toNat)) →
  ∃ (a_10 : Int × Int), gl a_2.m ((0 : Nat) + (↑a_5 : Int).toNat) = a_10.fst ∧
  gl a_2.m ((0 : Nat) + ((↑a_5 : Int) - (1 : Int)).toNat) = a_10.snd ∧
  True ∧
  ∀ (b : Unit), True →
  ((!Decidable.decide (a_10.fst < a_10.snd)) = Bool.true →
  InR IntKind.i64 ((↑a_5 : Int) + (1 : Int)) ∧
  ∃ (a' : Nat), (↑a_5 : Int) + (1 : Int) = (↑a' : Int) ∧
  Decidable.decide ((↑a_2.c : Int) < (5 : Int)) = Decidable.decide ((↑a_2.c : Int) < (5 : Int)) ∧
  (↑a_2.c : Int) = (↑a_2.c : Int) ∧
  Bool.false = Bool.false ∧
  ((0 : Nat) = (0 : Nat) ∧
  a.l.length = a.l.length ∧
  a.cap = a.cap) ∧
  (↑a.a : Int) = (↑a.a : Int) ∧
  (↑a.b : Int) = (↑a.b : Int) ∧
  (a_2.m.length ≤ a_2.m.length ∧
  RowsEq a_2.m.length (1 : Nat) (encRows encU a_2.m) (encRows encU a_2.m)) ∧
  (a_2.i ≤ a' ∧
  a' ≤ a.b ∧
  Srt a_2.m a.a a') ∧
  a.b - a' < a.b - a_5) ∧
  ((!Decidable.decide (a_10.fst < a_10.snd)) = Bool.false →
  ∃ (a_13 : Nat), (↑a_5 : Int) = (↑a_13 : Int) ∧
  Decidable.decide ((↑a_2.c : Int) < (5 : Int)) = Decidable.decide ((↑a_2.c : Int) < (5 : Int)) ∧
  (↑a_2.c : Int) = (↑a_2.c : Int) ∧
  Bool.false = Bool.false ∧
  ((0 : Nat) = (0 : Nat) ∧
  a.l.length = a.l.length ∧
  a.cap = a.cap) ∧
  (↑a.a : Int) = (↑a.a : Int) ∧
  (↑a.b : Int) = (↑a.b : Int) ∧
  (a_2.m.length ≤ a_2.m.length ∧
  RowsEq a_2.m.length (1 : Nat) (encRows encU a_2.m) (encRows encU a_2.m)) ∧
  (a_2.i ≤ a_13 ∧
  a_13 ≤ a.b ∧
  Srt a_2.m a.a a_13 ∧
  (a_13 = a.b ∨ gl a_2.m a_13 < gl a_2.m (a_13 - (1 : Nat)))) ∧
  True)))) ∧
  (Decidable.decide ((↑a_5 : Int) < (↑a.b : Int)) = Bool.false →
  ∃ (a_8 : Nat), (↑a_5 : Int) = (↑a_8 : Int) ∧
  Decidable.decide ((↑a_2.c : Int) < (5 : Int)) = Decidable.decide ((↑a_2.c : Int) < (5 : Int)) ∧
  (↑a_2.c : Int) = (↑a_2.c : Int) ∧
  Bool.false = Bool.false ∧
  ((0 : Nat) = (0 : Nat) ∧
  a.l.length = a.l.length ∧
  a.cap = a.cap) ∧
  (↑a.a : Int) = (↑a.a : Int) ∧
  (↑a.b : Int) = (↑a.b : Int) ∧
  (a_2.m.length ≤ a_2.m.length ∧
  RowsEq a_2.m.length (1 : Nat) (encRows encU a_2.m) (encRows encU a_2.m)) ∧
  (a_2.i ≤ a_8 ∧
  a_8 ≤ a.b ∧
  Srt a_2.m a.a a_8 ∧
  (a_8 = a.b ∨ gl a_2.m a_8 < gl a_2.m (a_8 - (1 : Nat)))) ∧
  True)) ∧
  ∀ (a_5 : Nat), a_2.i ≤ a_5 ∧
  a_5 ≤ a.b ∧
  Srt a_2.m a.a a_5 ∧
  (a_5 = a.b ∨ gl a_2.m a_5 < gl a_2.m (a_5 - (1 : Nat))) →
  (((↑a_5 : Int) == (↑a.b : Int)) = Bool.true →
  ∃ (b : List Int × Bool), Bool.true = b.snd ∧
  (b.fst.length ≤ a_2.m.length ∧
  RowsEq b.fst.length (1 : Nat) (encRows encU a_2.m) (encRows encU b.fst)) ∧
  (PR a.a a.b a.l b.fst ∧
  (b.snd = Bool.true →
  Srt b.fst a.a a.b)) ∧
  True) ∧
  (((↑a_5 : Int) == (↑a.b : Int)) = Bool.false →
  InR IntKind.i64 ((↑a.b : Int) - (↑a.a : Int)) ∧
  (Decidable.decide ((↑a.b : Int) - (↑a.a : Int) < (50 : Int)) = Bool.true →
  ∃ (b : List Int × Bool), Bool.false = b.snd ∧
  (b.fst.length ≤ a_2.m.length ∧
  RowsEq b.fst.length (1 : Nat) (encRows encU a_2.m) (encRows encU b.fst)) ∧
  (PR a.a a.b a.l b.fst ∧
  (b.snd = Bool.true →
  Srt b.fst a.a a.b)) ∧
  True) ∧
  (Decidable.decide ((↑a.b : Int) - (↑a.a : Int) < (50 : Int)) = Bool.false →
  InR IntKind.i64 ((↑a_5 : Int) - (1 : Int)) ∧
  InR IntKind.i64 ((↑a_5 : Int) - (1 : Int)) ∧
  ((0 : Int) ≤ (↑a_5 : Int) - (1 : Int) ∧
  (↑a_5 : Int) - (1 : Int) < (↑a.l.length : Int)) ∧
  (0 : Nat) + ((↑a_5 : Int) - (1 : Int)).toNat < a_2.m.length ∧
  (InR IntKind.u64 (gl a_2.m ((0 : Nat) + ((↑a_5 : Int) - (1 : Int)).toNat)) →
  ((0 : Int) ≤ (↑a_5 : Int) ∧
  (↑a_5 : Int) < (↑a.l.length : Int)) ∧
  (0 : Nat) + (↑a_5 : Int).toNat < a_2.m.length ∧
  (InR IntKind.u64 (gl a_2.m ((0 : Nat) + (↑a_5 : Int).toNat)) →
  ((0 : Int) ≤ (↑a_5 : Int) ∧
  (↑a_5 : Int) < (↑a.l.length : Int)) ∧
  (0 : Nat) + (↑a_5 : Int).toNat < a_2.m.length ∧
  ((0 : Int) ≤ (↑a_5 : Int) - (1 : Int) ∧
  (↑a_5 : Int) - (1 : Int) < (↑a.l.length : Int)) ∧
  (0 : Nat) + ((↑a_5 : Int) - (1 : Int)).toNat < a_2.m.length ∧
  (InR IntKind.i64 ((↑a_5 : Int) - (↑a.a : Int)) ∧
  (Decidable.decide ((2 : Int) ≤ (↑a_5 : Int) - (↑a.a : Int)) = Bool.true →
  InR IntKind.i64 ((↑a_5 : Int) - (1 : Int)) ∧
  (∃ (a_12 : RngS), (↑a_5 : Int) - (1 : Int) = (↑a_12.j : Int) ∧
  Decidable.decide ((2 : Int) ≤ (↑a_5 : Int) - (↑a.a : Int)) = Decidable.decide ((2 : Int) ≤ (↑a_5 : Int) - (↑a.a : Int)) ∧
  Decidable.decide ((↑a.b : Int) - (↑a.a : Int) < (50 : Int)) = Decidable.decide ((↑a.b : Int) - (↑a.a : Int) < (50 : Int)) ∧
  ((↑a_5 : Int) == (↑a.b : Int)) = ((↑a_5 : Int) == (↑a.b : Int)) ∧
  (↑a_5 : Int) = (↑a_5 : Int) ∧
  Decidable.decide ((↑a_2.c : Int) < (5 : Int)) = Decidable.decide ((↑a_2.c : Int) < (5 : Int)) ∧
  (↑a_2.c : Int) = (↑a_2.c : Int) ∧
  Bool.false = Bool.false ∧
  ((0 : Nat) = (0 : Nat) ∧
  a.l.length = a.l.length ∧
  a.cap = a.cap) ∧
  (↑a.a : Int) = (↑a.a : Int) ∧
  (↑a.b : Int) = (↑a.b : Int) ∧
  (a_12.m.length ≤ a_2.m.length ∧
  RowsEq a_12.m.length (1 : Nat) (updR (updR (encRows encU a_2.m) ((0 : Nat) + (↑a_5 : Int).toNat) (0 : Nat) [Value.int IntKind.u64 (gl a_2.m ((0 : Nat) + ((↑a_5 : Int) - (1 : Int)).toNat))]) ((0 : Nat) + ((↑a_5 : Int) - (1 : Int)).toNat) (0 : Nat) [Value.int IntKind.u64 (gl a_2.m ((0 : Nat) + (↑a_5 : Int).toNat))]) (encRows encU a_12.m)) ∧
  (PR a.a a.b a.l a_12.m ∧
  a.a ≤ a_12.j ∧
  a_12.j < a_5 ∧
  ∀ (p q : Nat), a.a ≤ p →
  p < q →
  q < a_5 →
  q ≠ a_12.j →
  gl a_12.m p ≤ gl a_12.m q) ∧
  True) ∧
  ∀ (a_12 : RngS), (PR a.a a.b a.l a_12.m ∧
  a.a ≤ a_12.j ∧
  a_12.j < a_5 ∧
  ∀ (p q : Nat), a.a ≤ p →
  p < q →
  q < a_5 →
  q ≠ a_12.j →
  gl a_12.m p ≤ gl a_12.m q) →
  (Decidable.decide ((1 : Int) ≤ (↑a_12.j : Int)) = Bool.true →
  ((0 : Int) ≤ (↑a_12.j : Int) ∧
  (↑a_12.j : Int) < (↑a.l.length : Int)) ∧
  (0 : Nat) + (↑a_12.j : Int).toNat < a_12.m.length ∧
  (InR IntKind.u64 (gl a_12.m ((0 : Nat) + (↑a_12.j : Int).toNat)) →
  InR IntKind.i64 ((↑a_12.j : Int) - (1 : Int)) ∧
  ((0 : Int) ≤ (↑a_12.j : Int) - (1 : Int) ∧
  (↑a_12.j : Int) - (1 : Int) < (↑a.l.length : Int)) ∧
  (0 : Nat) + ((↑a_12.j : Int) - (1 : Int)).toNat < a_12.m.length ∧
  (InR IntKind.u64 (gl a_12.m ((0 : Nat) + ((↑a_12.j : Int) - (1 : Int)).toNat)) →
  ∃ (a_17 : Int × Int), gl a_12.m ((0 : Nat) + (↑a_12.j : Int).toNat) = a_17.fst ∧
  gl a_12.m ((0 : Nat) + ((↑a_12.j : Int) - (1 : Int)).toNat) = a_17.snd ∧
  True ∧
  ∀ (b : Unit), True →
  ((!Decidable.decide (a_17.fst < a_17.snd)) = Bool.true →
  ∃ (a_20 : List Int), Decidable.decide ((↑a.b : Int) - (↑a.a : Int) < (50 : Int)) = Decidable.decide ((↑a.b : Int) - (↑a.a : Int) < (50 : Int)) ∧
  ((↑a_5 : Int) == (↑a.b : Int)) = ((↑a_5 : Int) == (↑a.b : Int)) ∧
  (↑a_5 : Int) = (↑a_5 : Int) ∧
  Decidable.decide ((↑a_2.c : Int) < (5 : Int)) = Decidable.decide ((↑a_2.c : Int) < (5 : Int)) ∧
  (↑a_2.c : Int) = (↑a_2.c : Int) ∧
  Bool.false = Bool.false ∧
  ((0 : Nat) = (0 : Nat) ∧
  a.l.length = a.l.length ∧
  a.cap = a.cap) ∧
  (↑a.a : Int) = (↑a.a : Int) ∧
  (↑a.b : Int) = (↑a.b : Int) ∧
  (a_20.length ≤ a_12.m.length ∧
  RowsEq a_20.length (1 : Nat) (encRows encU a_12.m) (encRows encU a_20)) ∧
  (PR a.a a.b a.l a_20 ∧
  Srt a_20 a.a a_5) ∧
  True) ∧
  ((!Decidable.decide (a_17.fst < a_17.snd)) = Bool.false →
  InR IntKind.i64 ((↑a_12.j : Int) - (1 : Int)) ∧
  InR IntKind.i64 ((↑a_12.j : Int) - (1 : Int)) ∧
  ((0 : Int) ≤ (↑a_12.j : Int) - (1 : Int) ∧
  (↑a_12.j : Int) - (1 : Int) < (↑a.l.length : Int)) ∧
  (0 : Nat) + ((↑a_12.j : Int) - (1 : Int)).toNat < a_12.m.length ∧
  (InR IntKind.u64 (gl a_12.m ((0 : Nat) + ((↑a_12.j : Int) - (1 : Int)).toNat)) →
  ((0 : Int) ≤ (↑a_12.j : Int) ∧
  (↑a_12.j : Int) < (↑a.l.length : Int)) ∧
  (0 : Nat) + (↑a_12.j : Int).toNat < a_12.m.length ∧
  (InR IntKind.u64 (gl a_12.m ((0 : Nat) + (↑a_12.j : Int).toNat)) →
  ((0 : Int) ≤ (↑a_12.j : Int) ∧
  (↑a_12.j : Int) < (↑a.l.length : Int)) ∧
  (0 : Nat) + (↑a_12.j : Int).toNat < a_12.m.length ∧
  ((0 : Int) ≤ (↑a_12.j : Int) - (1 : Int) ∧
  (↑a_12.j : Int) - (1 : Int) < (↑a.l.length : Int)) ∧
  (0 : Nat) + ((↑a_12.j : Int) - (1 : Int)).toNat < a_12.m.length ∧
  InR IntKind.i64 ((↑a_12.j : Int) - (1 : Int)) ∧
  ∃ (a' : RngS), (↑a_12.j : Int) - (1 : Int) = (↑a'.j : Int) ∧
  Decidable.decide ((2 : Int) ≤ (↑a_5 : Int) - (↑a.a : Int)) = Decidable.decide ((2 : Int) ≤ (↑a_5 : Int) - (↑a.a : Int)) ∧
  Decidable.decide ((↑a.b : Int) - (↑a.a : Int) < (50 : Int)) = Decidable.decide ((↑a.b : Int) - (↑a.a : Int) < (50 : Int)) ∧
  ((↑a_5 : Int) == (↑a.b : Int)) = ((↑a_5 : Int) == (↑a.b : Int)) ∧
  (↑a_5 : Int) = (↑a_5 : Int) ∧
  Decidable.decide ((↑a_2.c : Int) < (5 : Int)) = Decidable.decide ((↑a_2.c : Int) < (5 : Int)) ∧
  (↑a_2.c : Int) = (↑a_2.c : Int) ∧
  Bool.false = Bool.false ∧
  ((0 : Nat) = (0 : Nat) ∧
  a.l.length = a.l.length ∧
  a.cap = a.cap) ∧
  (↑a.a : Int) = (↑a.a : Int) ∧
  (↑a.b : Int) = (↑a.b : Int) ∧
  (a'.m.length ≤ a_12.m.length ∧
  RowsEq a'.m.length (1 : Nat) (updR (updR (encRows encU a_12.m) ((0 : Nat) + (↑a_12.j : Int).toNat) (0 : Nat) [Value.int IntKind.u64 (gl a_12.m ((0 : Nat) + ((↑a_12.j : Int) - (1 : Int)).toNat))]) ((0 : Nat) + ((↑a_12.j : Int) - (1 : Int)).toNat) (0 : Nat) [Value.int IntKind.u64 (gl a_12.m ((0 : Nat) + (↑a_12.j : Int).toNat))]) (encRows encU a'.m)) ∧
  (PR a.a a.b a.l a'.m ∧
  a.a ≤ a'.j ∧
  a'.j < a_5 ∧
  ∀ (p q : Nat), a.a ≤ p →
  p < q →
  q < a_5 →
  q ≠ a'.j →
  gl a'.m p ≤ gl a'.m q) ∧
  a'.j < a_12.j)))))) ∧
  (Decidable.decide ((1 : Int) ≤ (↑a_12.j : Int)) = Bool.false →
  ∃ (a_15 : List Int), Decidable.decide ((↑a.b : Int) - (↑a.a : Int) < (50 : Int)) = Decidable.decide ((↑a.b : Int) - (↑a.a : Int) < (50 : Int)) ∧
  ((↑a_5 : Int) == (↑a.b : Int)) = ((↑a_5 : Int) == (↑a.b : Int)) ∧
  (↑a_5 : Int) = (↑a_5 : Int) ∧
  Decidable.decide ((↑a_2.c : Int) < (5 : Int)) = Decidable.decide ((↑a_2.c : Int) < (5 : Int)) ∧
  (↑a_2.c : Int) = (↑a_2.c : Int) ∧
  Bool.false = Bool.false ∧
  ((0 : Nat) = (0 : Nat) ∧
  a.l.length = a.l.length ∧
  a.cap = a.cap) ∧
  (↑a.a : Int) = (↑a.a : Int) ∧
  (↑a.b : Int) = (↑a.b : Int) ∧
  (a_15.length ≤ a_12.m.length ∧
  RowsEq a_15.length (1 : Nat) (encRows encU a_12.m) (encRows encU a_15)) ∧
  (PR a.a a.b a.l a_15 ∧
  Srt a_15 a.a a_5) ∧
  True)) ∧
  (Decidable.decide ((2 : Int) ≤ (↑a_5 : Int) - (↑a.a : Int)) = Bool.false →
  ∃ (a_12 : List Int), Decidable.decide ((↑a.b : Int) - (↑a.a : Int) < (50 : Int)) = Decidable.decide ((↑a.b : Int) - (↑a.a : Int) < (50 : Int)) ∧
  ((↑a_5 : Int) == (↑a.b : Int)) = ((↑a_5 : Int) == (↑a.b : Int)) ∧
  (↑a_5 : Int) = (↑a_5 : Int) ∧
  Decidable.decide ((↑a_2.c : Int) < (5 : Int)) = Decidable.decide ((↑a_2.c : Int) < (5 : Int)) ∧
  (↑a_2.c : Int) = (↑a_2.c : Int) ∧
  Bool.false = Bool.false ∧
  ((0 : Nat) = (0 : Nat) ∧
  a.l.length = a.l.length ∧
  a.cap = a.cap) ∧
  (↑a.a : Int) = (↑a.a : Int) ∧
  (↑a.b : Int) = (↑a.b : Int) ∧
  (a_12.length ≤ a_2.m.length ∧
  RowsEq a_12.length (1 : Nat) (updR (updR (encRows encU a_2.m) ((0 : Nat) + (↑a_5 : Int).toNat) (0 : Nat) [Value.int IntKind.u64 (gl a_2.m ((0 : Nat) + ((↑a_5 : Int) - (1 : Int)).toNat))]) ((0 : Nat) + ((↑a_5 : Int) - (1 : Int)).toNat) (0 : Nat) [Value.int IntKind.u64 (gl a_2.m ((0 : Nat) + (↑a_5 : Int).toNat))]) (encRows encU a_12)) ∧
  (PR a.a a.b a.l a_12 ∧
  Srt a_12 a.a a_5) ∧
  True)) ∧
  ∀ (a_11 : List Int), PR a.a a.b a.l a_11 ∧
  Srt a_11 a.a a_5 →
  InR IntKind.i64 ((↑a.b : Int) - (↑a_5 : Int)) ∧
  (Decidable.decide ((2 : Int) ≤ (↑a.b : Int) - (↑a_5 : Int)) = Bool.true →
  InR IntKind.i64 ((↑a_5 : Int) + (1 : Int)) ∧
  (∃ (a_14 : RngS), (↑a_5 : Int) + (1 : Int) = (↑a_14.j : Int) ∧
  Decidable.decide ((2 : Int) ≤ (↑a.b : Int) - (↑a_5 : Int)) = Decidable.decide ((2 : Int) ≤ (↑a.b : Int) - (↑a_5 : Int)) ∧
  Decidable.decide ((↑a.b : Int) - (↑a.a : Int) < (50 : Int)) = Decidable.decide ((↑a.b : Int) - (↑a.a : Int) < (50 : Int)) ∧
  ((↑a_5 : Int) == (↑a.b : Int)) = ((↑a_5 : Int) == (↑a.b : Int)) ∧
  (↑a_5 : Int) = (↑a_5 : Int) ∧
  Decidable.decide ((↑a_2.c : Int) < (5 : Int)) = Decidable.decide ((↑a_2.c : Int) < (5 : Int)) ∧
  (↑a_2.c : Int) = (↑a_2.c : Int) ∧
  Bool.false = Bool.false ∧
  ((0 : Nat) = (0 : Nat) ∧
  a.l.length = a.l.length ∧
  a.cap = a.cap) ∧
  (↑a.a : Int) = (↑a.a : Int) ∧
  (↑a.b : Int) = (↑a.b : Int) ∧
  (a_14.m.length ≤ a_11.length ∧
  RowsEq a_14.m.length (1 : Nat) (encRows encU a_11) (encRows encU a_14.m)) ∧
  (PR a.a a.b a.l a_14.m ∧
  a_5 < a_14.j ∧
  a_14.j ≤ a.b ∧
  Srt a_14.m a.a a_5) ∧
  True) ∧
  ∀ (a_14 : RngS), PR a.a a.b a.l a_14.m ∧
  a_5 < a_14.j ∧
  a_14.j ≤ a.b ∧
  Srt a_14.m a.a a_5 →
  (Decidable.decide ((↑a_14.j : Int) < (↑a.b : Int)) = Bool.true →
  ((0 : Int) ≤ (↑a_14.j : Int) ∧
  (↑a_14.j : Int) < (↑a.l.length : Int)) ∧
  (0 : Nat) + (↑a_14.j : Int).toNat < a_14.m.length ∧
  (InR IntKind.u64 (gl a_14.m ((0 : Nat) + (↑a_14.j : Int).toNat)) →
  InR IntKind.i64 ((↑a_14.j : Int) - (1 : Int)) ∧
  ((0 : Int) ≤ (↑a_14.j : Int) - (1 : Int) ∧
  (↑a_14.j : Int) - (1 : Int) < (↑a.l.length : Int)) ∧
  (0 : Nat) + ((↑a_14.j : Int) - (1 : Int)).toNat < a_14.m.length ∧
  (InR IntKind.u64 (gl a_14.m ((0 : Nat) + ((↑a_14.j : Int) - (1 : Int)).toNat)) →
  ∃ (a_19 : Int × Int), gl a_14.m ((0 : Nat) + (↑a_14.j : Int).toNat) = a_19.fst ∧
  gl a_14.m ((0 : Nat) + ((↑a_14.j : Int) - (1 : Int)).toNat) = a_19.snd ∧
  True ∧
  ∀ (b : Unit), True →
  ((!Decidable.decide (a_19.fst < a_19.snd)) = Bool.true →
  InR IntKind.i64 ((↑a_2.c : Int) + (1 : Int)) ∧
  ∃ (a' : PinS), (↑a_2.c : Int) + (1 : Int) = (↑a'.c : Int) ∧
  (↑a_5 : Int) = (↑a'.i : Int) ∧
  Bool.false = Bool.false ∧
  ((0 : Nat) = (0 : Nat) ∧
  a.l.length = a.l.length ∧
  a.cap = a.cap) ∧
  (↑a.a : Int) = (↑a.a : Int) ∧
  (↑a.b : Int) = (↑a.b : Int) ∧
  (a'.m.length ≤ a_14.m.length ∧
  RowsEq a'.m.length (1 : Nat) (encRows encU a_14.m) (encRows encU a'.m)) ∧
  (PR a.a a.b a.l a'.m ∧
  a.a < a'.i ∧
  a'.i ≤ a.b ∧
  a'.c ≤ (5 : Nat) ∧
  Srt a'.m a.a a'.i) ∧
  (5 : Nat) - a'.c < (5 : Nat) - a_2.c) ∧
  ((!Decidable.decide (a_19.fst < a_19.snd)) = Bool.false →
  InR IntKind.i64 ((↑a_14.j : Int) - (1 : Int)) ∧
  InR IntKind.i64 ((↑a_14.j : Int) - (1 : Int)) ∧
  ((0 : Int) ≤ (↑a_14.j : Int) - (1 : Int) ∧
  (↑a_14.j : Int) - (1 : Int) < (↑a.l.length : Int)) ∧
  (0 : Nat) + ((↑a_14.j : Int) - (1 : Int)).toNat < a_14.m.length ∧
  (InR IntKind.u64 (gl a_14.m ((0 : Nat) + ((↑a_14.j : Int) - (1 : Int)).toNat)) →
  ((0 : Int) ≤ (↑a_14.j : Int) ∧
  (↑a_14.j : Int) < (↑a.l.length : Int)) ∧
  (0 : Nat) + (↑a_14.j : Int).toNat < a_14.m.length ∧
  (InR IntKind.u64 (gl a_14.m ((0 : Nat) + (↑a_14.j : Int).toNat)) →
  ((0 : Int) ≤ (↑a_14.j : Int) ∧
  (↑a_14.j : Int) < (↑a.l.length : Int)) ∧
  (0 : Nat) + (↑a_14.j : Int).toNat < a_14.m.length ∧
  ((0 : Int) ≤ (↑a_14.j : Int) - (1 : Int) ∧
  (↑a_14.j : Int) - (1 : Int) < (↑a.l.length : Int)) ∧
  (0 : Nat) + ((↑a_14.j : Int) - (1 : Int)).toNat < a_14.m.length ∧
  InR IntKind.i64 ((↑a_14.j : Int) + (1 : Int)) ∧
  ∃ (a' : RngS), (↑a_14.j : Int) + (1 : Int) = (↑a'.j : Int) ∧
  Decidable.decide ((2 : Int) ≤ (↑a.b : Int) - (↑a_5 : Int)) = Decidable.decide ((2 : Int) ≤ (↑a.b : Int) - (↑a_5 : Int)) ∧
  Decidable.decide ((↑a.b : Int) - (↑a.a : Int) < (50 : Int)) = Decidable.decide ((↑a.b : Int) - (↑a.a : Int) < (50 : Int)) ∧
  ((↑a_5 : Int) == (↑a.b : Int)) = ((↑a_5 : Int) == (↑a.b : Int)) ∧
  (↑a_5 : Int) = (↑a_5 : Int) ∧
  Decidable.decide ((↑a_2.c : Int) < (5 : Int)) = Decidable.decide ((↑a_2.c : Int) < (5 : Int)) ∧
  (↑a_2.c : Int) = (↑a_2.c : Int) ∧
  Bool.false = Bool.false ∧
  ((0 : Nat) = (0 : Nat) ∧
  a.l.length = a.l.length ∧
  a.cap = a.cap) ∧
  (↑a.a : Int) = (↑a.a : Int) ∧
  (↑a.b : Int) = (↑a.b : Int) ∧
  (a'.m.length ≤ a_14.m.length ∧
  RowsEq a'.m.length (1 : Nat) (updR (updR (encRows encU a_14.m) ((0 : Nat) + (↑a_14.j : Int).toNat) (0 : Nat) [Value.int IntKind.u64 (gl a_14.m ((0 : Nat) + ((↑a_14.j : Int) - (1 : Int)).toNat))]) ((0 : Nat) + ((↑a_14.j : Int) - (1 : Int)).toNat) (0 : Nat) [Value.int IntKind.u64 (gl a_14.m ((0 : Nat) + (↑a_14.j : Int).toNat))]) (encRows encU a'.m)) ∧
  (PR a.a a.b a.l a'.m ∧
  a_5 < a'.j ∧
  a'.j ≤ a.b ∧
  Srt a'.m a.a a_5) ∧
  a.b - a'.j < a.b - a_14.j)))))) ∧
  (Decidable.decide ((↑a_14.j : Int) < (↑a.b : Int)) = Bool.false →
  InR IntKind.i64 ((↑a_2.c : Int) + (1 : Int)) ∧
  ∃ (a' : PinS), (↑a_2.c : Int) + (1 : Int) = (↑a'.c : Int) ∧
  (↑a_5 : Int) = (↑a'.i : Int) ∧
  Bool.false = Bool.false ∧
  ((0 : Nat) = (0 : Nat) ∧
  a.l.length = a.l.length ∧
  a.cap = a.cap) ∧
  (↑a.a : Int) = (↑a.a : Int) ∧
  (↑a.b : Int) = (↑a.b : Int) ∧
  (a'.m.length ≤ a_14.m.length ∧
  RowsEq a'.m.length (1 : Nat) (encRows encU a_14.m) (encRows encU a'.m)) ∧
  (PR a.a a.b a.l a'.m ∧
  a.a < a'.i ∧
  a'.i ≤ a.b ∧
  a'.c ≤ (5 : Nat) ∧
  Srt a'.m a.a a'.i) ∧
  (5 : Nat) - a'.c < (5 : Nat) - a_2.c)) ∧
  (Decidable.decide ((2 : Int) ≤ (↑a.b : Int) - (↑a_5 : Int)) = Bool.false →
  InR IntKind.i64 ((↑a_2.c : Int) + (1 : Int)) ∧
  ∃ (a' : PinS), (↑a_2.c : Int) + (1 : Int) = (↑a'.c : Int) ∧
  (↑a_5 : Int) = (↑a'.i : Int) ∧
  Bool.false = Bool.false ∧
  ((0 : Nat) = (0 : Nat) ∧
  a.l.length = a.l.length ∧
  a.cap = a.cap) ∧
  (↑a.a : Int) = (↑a.a : Int) ∧
  (↑a.b : Int) = (↑a.b : Int) ∧
  (a'.m.length ≤ a_11.length ∧
  RowsEq a'.m.length (1 : Nat) (encRows encU a_11) (encRows encU a'.m)) ∧
  (PR a.a a.b a.l a'.m ∧
  a.a < a'.i ∧
  a'.i ≤ a.b ∧
  a'.c ≤ (5 : Nat) ∧
  Srt a'.m a.a a'.i) ∧
  (5 : Nat) - a'.c < (5 : Nat) - a_2.c)))))) ∧
  (Decidable.decide ((↑a_2.c : Int) < (5 : Int)) = Bool.false →
  ∃ (b : List Int × Bool), Bool.false = b.snd ∧
  (b.fst.length ≤ a_2.m.length ∧
  RowsEq b.fst.length (1 : Nat) (encRows encU a_2.m) (encRows encU b.fst)) ∧
  (PR a.a a.b a.l b.fst ∧
  (b.snd = Bool.true →
  Srt b.fst a.a a.b)) ∧
  True)) (by kernel_rfl) (by
  rintro x ⟨⟨h1, h2, h3⟩, h4⟩
  simp only [Nat.zero_add, Int.toNat_natCast, InR]
  refine ⟨by omega, ⟨⟨x.l, x.a + 1, 0⟩, ?_⟩, fun y hy => ?_⟩
  · have p0 := PR.refl (a := x.a) (b := x.b) x.l
    have s0 : Srt x.l x.a (x.a + 1) := fun p q _ _ _ => by omega
    ((repeat' apply And.intro) <;> first | with_reducible rfl | omega | (dsimp only; omega) | exact RowsEq.refl _ _ _ | assumption | rfl | trivial | exact Nat.le_refl _ | skip)
  obtain ⟨y1, y2, y3, y4, y5⟩ := hy
  have hm := y1.length
  refine ⟨fun c1 => ⟨⟨⟨y.i, ?_⟩, fun i hi => ?_⟩, fun i hi => ?_⟩, fun c1 => ⟨(y.m, false), ?_⟩⟩
  · ((repeat' apply And.intro) <;> first | with_reducible rfl | omega | (dsimp only; omega) | exact RowsEq.refl _ _ _ | assumption | rfl | trivial | exact Nat.le_refl _ | skip)
  · obtain ⟨i1, i2, i3⟩ := hi
    refine ⟨fun c2 => ?_, fun c2 => ⟨i, ?_⟩⟩
    · simp only [decide_eq_true_eq] at c2
      have ei : ((i : Int) - 1).toNat = i - 1 := by omega
      rw [ei]
      ((repeat' apply And.intro) <;> first | with_reducible rfl | omega | (dsimp only; omega) | exact RowsEq.refl _ _ _ | assumption | rfl | trivial | exact Nat.le_refl _ | skip)
      intro _
      ((repeat' apply And.intro) <;> first | with_reducible rfl | omega | (dsimp only; omega) | exact RowsEq.refl _ _ _ | assumption | rfl | trivial | exact Nat.le_refl _ | skip)
      refine fun _ => ⟨(gl y.m i, gl y.m (i - 1)), ?_⟩
      ((repeat' apply And.intro) <;> first | with_reducible rfl | omega | (dsimp only; omega) | exact RowsEq.refl _ _ _ | assumption | rfl | trivial | exact Nat.le_refl _ | skip)
      dsimp only
      refine fun _ _ => ⟨fun c3 => ⟨by omega, i + 1, ?_⟩, fun c3 => ⟨i, ?_⟩⟩
      · have c3 : ¬ gl y.m i < gl y.m (i - 1) := by simpa using c3
        have s0 : Srt y.m x.a (i + 1) := fun p q h5 h6 h7 => by
          by_cases e : q = i
          · subst e
            by_cases e2 : p = q - 1
            · subst e2; omega
            · have := i3 p (q - 1) h5 (by omega) (by omega)
              omega
          · exact i3 p q h5 h6 (by omega)
        ((repeat' apply And.intro) <;> first | with_reducible rfl | omega | (dsimp only; omega) | exact RowsEq.refl _ _ _ | assumption | rfl | trivial | exact Nat.le_refl _ | skip)
      · have c3 : gl y.m i < gl y.m (i - 1) := by simpa using c3
        have o1 : i = x.b ∨ gl y.m i < gl y.m (i - 1) := .inr c3
        ((repeat' apply And.intro) <;> first | with_reducible rfl | omega | (dsimp only; omega) | exact RowsEq.refl _ _ _ | assumption | rfl | trivial | exact Nat.le_refl _ | skip)
    · simp only [decide_eq_false_iff_not] at c2
      have o1 : i = x.b ∨ gl y.m i < gl y.m (i - 1) := .inl (by omega)
      ((repeat' apply And.intro) <;> first | with_reducible rfl | omega | (dsimp only; omega) | exact RowsEq.refl _ _ _ | assumption | rfl | trivial | exact Nat.le_refl _ | skip)
  rotate_left
  · have f0 : (false = true) → Srt y.m x.a x.b := fun h => by cases h
    ((repeat' apply And.intro) <;> first | with_reducible rfl | omega | (dsimp only; omega) | exact RowsEq.refl _ _ _ | assumption | rfl | trivial | exact Nat.le_refl _ | skip)
  obtain ⟨i1, i2, i3, i4⟩ := hi
  simp only [decide_eq_true_eq] at c1
  have ei : ((i : Int) - 1).toNat = i - 1 := by omega
  rw [ei]
  refine ⟨fun c2 => ⟨(y.m, true), ?_⟩, fun c2 => ⟨by omega, fun c3 => ⟨(y.m, false), ?_⟩, fun c3 => ?_⟩⟩
  · simp only [beq_iff_eq] at c2
    have e : i = x.b := by omega
    subst e
    have f0 : (true = true) → Srt y.m x.a x.b := fun _ => i3
    ((repeat' apply And.intro) <;> first | with_reducible rfl | omega | (dsimp only; omega) | exact RowsEq.refl _ _ _ | assumption | rfl | trivial | exact Nat.le_refl _ | skip)
  · have f0 : (false = true) → Srt y.m x.a x.b := fun h => by cases h
    ((repeat' apply And.intro) <;> first | with_reducible rfl | omega | (dsimp only; omega) | exact RowsEq.refl _ _ _ | assumption | rfl | trivial | exact Nat.le_refl _ | skip)
  simp only [beq_eq_false_iff_ne] at c2
  have i4 := i4.resolve_left (by omega)
  have p1 : PR x.a x.b x.l (swpL y.m i (i - 1)) := .step y1 (by omega) (by omega) (by omega) (by omega) (by omega)
  have r1 : RowsEq (swpL y.m i (i - 1)).length 1 (updR (updR (encRows encU y.m) i 0 [Go.Value.int Go.IntKind.u64 (gl y.m (i - 1))]) (i - 1) 0 [Go.Value.int Go.IntKind.u64 (gl y.m i)]) (encRows encU (swpL y.m i (i - 1))) := rows_swap (by omega) (by omega) rfl rfl
  have n1 := swpL_length y.m i (i - 1)
  have s1 : ∀ p q, x.a ≤ p → p < q → q < i → q ≠ i - 1 → gl (swpL y.m i (i - 1)) p ≤ gl (swpL y.m i (i - 1)) q := fun p q h5 h6 h7 h8 => by
    rw [gl_swp (by omega) (by omega), gl_swp (by omega) (by omega), if_neg (by omega), if_neg (by omega), if_neg (by omega), if_neg (by omega)]
    exact i3 p q h5 h6 (by omega)
  ((repeat' apply And.intro) <;> first | with_reducible rfl | omega | (dsimp only; omega) | exact RowsEq.refl _ _ _ | assumption | rfl | trivial | exact Nat.le_refl _ | skip)
  intro _
  ((repeat' apply And.intro) <;> first | with_reducible rfl | omega | (dsimp only; omega) | exact RowsEq.refl _ _ _ | assumption | rfl | trivial | exact Nat.le_refl _ | skip)
  intro _
  ((repeat' apply And.intro) <;> first | with_reducible rfl | omega | (dsimp only; omega) | exact RowsEq.refl _ _ _ | assumption | rfl | trivial | exact Nat.le_refl _ | skip)
  · refine fun c4 => ⟨by omega, ⟨⟨swpL y.m i (i - 1), 0, i - 1⟩, ?_⟩, fun z hz => ?_⟩
    · ((repeat' apply And.intro) <;> first | with_reducible rfl | omega | (dsimp only; omega) | exact RowsEq.refl _ _ _ | assumption | rfl | trivial | exact Nat.le_refl _ | skip)
    obtain ⟨z1, z2, z3, z4⟩ := hz
    have hz := z1.length
    have hout : 0 < x.a → gl z.m (x.a - 1) = gl x.l (x.a - 1) := fun h => z1.out (.inl (by omega))
    refine ⟨fun c5 => ?_, fun c5 => ⟨z.m, ?_⟩⟩
    · simp only [decide_eq_true_eq] at c5
      have ej : ((z.j : Int) - 1).toNat = z.j - 1 := by omega
      rw [ej]
      ((repeat' apply And.intro) <;> first | with_reducible rfl | omega | (dsimp only; omega) | exact RowsEq.refl _ _ _ | assumption | rfl | trivial | exact Nat.le_refl _ | skip)
      intro _
      ((repeat' apply And.intro) <;> first | with_reducible rfl | omega | (dsimp only; omega) | exact RowsEq.refl _ _ _ | assumption | rfl | trivial | exact Nat.le_refl _ | skip)
      refine fun _ => ⟨(gl z.m z.j, gl z.m (z.j - 1)), ?_⟩
      ((repeat' apply And.intro) <;> first | with_reducible rfl | omega | (dsimp only; omega) | exact RowsEq.refl _ _ _ | assumption | rfl | trivial | exact Nat.le_refl _ | skip)
      dsimp only
      refine fun _ _ => ⟨fun c6 => ⟨z.m, ?_⟩, fun c6 => ?_⟩
      · have c6 : ¬ gl z.m z.j < gl z.m (z.j - 1) := by simpa using c6
        have s0 : Srt z.m x.a i := fun p q h5 h6 h7 => by
          by_cases e : q = z.j
          · subst e
            by_cases e2 : p = z.j - 1
            · subst e2; omega
            · have := z4 p (z.j - 1) h5 (by omega) (by omega) (by omega)
              omega
          · exact z4 p q h5 h6 h7 e
        ((repeat' apply And.intro) <;> first | with_reducible rfl | omega | (dsimp only; omega) | exact RowsEq.refl _ _ _ | assumption | rfl | trivial | exact Nat.le_refl _ | skip)
      · have c6 : gl z.m z.j < gl z.m (z.j - 1) := by simpa using c6
        have haj : x.a < z.j := by
          by_cases e : x.a = z.j
          · exfalso
            have e1 := hout (by omega)
            have e2 := z1.all (P := fun v => gl x.l (x.a - 1) ≤ v) (fun k g1 g2 => h4 (by omega) k g1 g2) z.j (by omega) (by omega)
            rw [← e] at c6 e2
            rw [e1] at c6
            omega
          · omega
        ((repeat' apply And.intro) <;> first | with_reducible rfl | omega | (dsimp only; omega) | exact RowsEq.refl _ _ _ | assumption | rfl | trivial | exact Nat.le_refl _ | skip)
        intro _
        ((repeat' apply And.intro) <;> first | with_reducible rfl | omega | (dsimp only; omega) | exact RowsEq.refl _ _ _ | assumption | rfl | trivial | exact Nat.le_refl _ | skip)
        intro _
        ((repeat' apply And.intro) <;> first | with_reducible rfl | omega | (dsimp only; omega) | exact RowsEq.refl _ _ _ | assumption | rfl | trivial | exact Nat.le_refl _ | skip)
        refine ⟨⟨swpL z.m z.j (z.j - 1), 0, z.j - 1⟩, ?_⟩
        have p2 : PR x.a x.b x.l (swpL z.m z.j (z.j - 1)) := .step z1 (by omega) (by omega) (by omega) (by omega) (by omega)
        have r2 : RowsEq (swpL z.m z.j (z.j - 1)).length 1 (updR (updR (encRows encU z.m) z.j 0 [Go.Value.int Go.IntKind.u64 (gl z.m (z.j - 1))]) (z.j - 1) 0 [Go.Value.int Go.IntKind.u64 (gl z.m z.j)]) (encRows encU (swpL z.m z.j (z.j - 1))) := rows_swap (by omega) (by omega) rfl rfl
        have n2 := swpL_length z.m z.j (z.j - 1)
        have s2 : ∀ p q : Nat, x.a ≤ p → p < q → q < i → q ≠ z.j - 1 → gl (swpL z.m z.j (z.j - 1)) p ≤ gl (swpL z.m z.j (z.j - 1)) q := fun p q h5 h6 h7 h8 => by
          rw [gl_swp (by omega) (by omega), gl_swp (by omega) (by omega)]
          have a1 := z4 p (z.j - 1)
          have a2 := z4 z.j q
          have a3 := z4 (z.j - 1) q
          have a4 := z4 p q
          clear h4 hout p1 r1 n1 s1 p2 r2 n2 i3
          grind
        ((repeat' apply And.intro) <;> first | with_reducible rfl | omega | (dsimp only; omega) | exact RowsEq.refl _ _ _ | assumption | rfl | trivial | exact Nat.le_refl _ | skip)
    · simp only [decide_eq_false_iff_not] at c5
      have s0 : Srt z.m x.a i := fun p q h5 h6 h7 => z4 p q h5 h6 h7 (by omega)
      ((repeat' apply And.intro) <;> first | with_reducible rfl | omega | (dsimp only; omega) | exact RowsEq.refl _ _ _ | assumption | rfl | trivial | exact Nat.le_refl _ | skip)
  · refine fun c4 => ⟨swpL y.m i (i - 1), ?_⟩
    simp only [decide_eq_false_iff_not] at c4
    have s0 : Srt (swpL y.m i (i - 1)) x.a i := fun p q h5 h6 h7 => by omega
    ((repeat' apply And.intro) <;> first | with_reducible rfl | omega | (dsimp only; omega) | exact RowsEq.refl _ _ _ | assumption | rfl | trivial | exact Nat.le_refl _ | skip)
  clear p1 r1 n1 s1
  intro m hm'
  obtain ⟨m1, m2⟩ := hm'
  have hml := m1.length
  refine ⟨by omega, fun c4 => ⟨by omega, ⟨⟨m, 0, i + 1⟩, ?_⟩, fun z hz => ?_⟩, fun c4 => ⟨by omega, ⟨m, i, y.c + 1⟩, ?_⟩⟩
  · simp only [decide_eq_true_eq] at c4
    ((repeat' apply And.intro) <;> first | with_reducible rfl | omega | (dsimp only; omega) | exact RowsEq.refl _ _ _ | assumption | rfl | trivial | exact Nat.le_refl _ | skip)
  · obtain ⟨z1, z2, z3, z4⟩ := hz
    have hz := z1.length
    refine ⟨fun c5 => ?_, fun c5 => ⟨by omega, ⟨z.m, i, y.c + 1⟩, ?_⟩⟩
    · simp only [decide_eq_true_eq] at c5
      have ej : ((z.j : Int) - 1).toNat = z.j - 1 := by omega
      rw [ej]
      ((repeat' apply And.intro) <;> first | with_reducible rfl | omega | (dsimp only; omega) | exact RowsEq.refl _ _ _ | assumption | rfl | trivial | exact Nat.le_refl _ | skip)
      intro _
      ((repeat' apply And.intro) <;> first | with_reducible rfl | omega | (dsimp only; omega) | exact RowsEq.refl _ _ _ | assumption | rfl | trivial | exact Nat.le_refl _ | skip)
      refine fun _ => ⟨(gl z.m z.j, gl z.m (z.j - 1)), ?_⟩
      ((repeat' apply And.intro) <;> first | with_reducible rfl | omega | (dsimp only; omega) | exact RowsEq.refl _ _ _ | assumption | rfl | trivial | exact Nat.le_refl _ | skip)
      dsimp only
      refine fun _ _ => ⟨fun c6 => ⟨by omega, ⟨z.m, i, y.c + 1⟩, ?_⟩, fun c6 => ?_⟩
      · ((repeat' apply And.intro) <;> first | with_reducible rfl | omega | (dsimp only; omega) | exact RowsEq.refl _ _ _ | assumption | rfl | trivial | exact Nat.le_refl _ | skip)
      · ((repeat' apply And.intro) <;> first | with_reducible rfl | omega | (dsimp only; omega) | exact RowsEq.refl _ _ _ | assumption | rfl | trivial | exact Nat.le_refl _ | skip)
        intro _
        ((repeat' apply And.intro) <;> first | with_reducible rfl | omega | (dsimp only; omega) | exact RowsEq.refl _ _ _ | assumption | rfl | trivial | exact Nat.le_refl _ | skip)
        intro _
        ((repeat' apply And.intro) <;> first | with_reducible rfl | omega | (dsimp only; omega) | exact RowsEq.refl _ _ _ | assumption | rfl | trivial | exact Nat.le_refl _ | skip)
        refine ⟨⟨swpL z.m z.j (z.j - 1), 0, z.j + 1⟩, ?_⟩
        have p2 : PR x.a x.b x.l (swpL z.m z.j (z.j - 1)) := .step z1 (by omega) (by omega) (by omega) (by omega) (by omega)
        have r2 : RowsEq (swpL z.m z.j (z.j - 1)).length 1 (updR (updR (encRows encU z.m) z.j 0 [Go.Value.int Go.IntKind.u64 (gl z.m (z.j - 1))]) (z.j - 1) 0 [Go.Value.int Go.IntKind.u64 (gl z.m z.j)]) (encRows encU (swpL z.m z.j (z.j - 1))) := rows_swap (by omega) (by omega) rfl rfl
        have n2 := swpL_length z.m z.j (z.j - 1)
        have s2 : Srt (swpL z.m z.j (z.j - 1)) x.a i := fun p q h5 h6 h7 => by
          rw [gl_swp (by omega) (by omega), gl_swp (by omega) (by omega), if_neg (by omega), if_neg (by omega), if_neg (by omega), if_neg (by omega)]
          exact z4 p q h5 h6 h7
        ((repeat' apply And.intro) <;> first | with_reducible rfl | omega | (dsimp only; omega) | exact RowsEq.refl _ _ _ | assumption | rfl | trivial | exact Nat.le_refl _ | skip)
    · ((repeat' apply And.intro) <;> first | with_reducible rfl | omega | (dsimp only; omega) | exact RowsEq.refl _ _ _ | assumption | rfl | trivial | exact Nat.le_refl _ | skip)
  · ((repeat' apply And.intro) <;> first | with_reducible rfl | omega | (dsimp only; omega) | exact RowsEq.refl _ _ _ | assumption | rfl | trivial | exact Nat.le_refl _ | skip))
theorem callPin : CallsBy (Y Try.prog).G.X 42 cPin := fn_ok okY tabU_ok bodyPin
end Go.Proofs.Ythofnohpdbbidaa
