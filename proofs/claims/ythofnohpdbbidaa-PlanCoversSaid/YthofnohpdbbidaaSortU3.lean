/-
  The library's sort at numbers, whole: a list is in order behind it. No condition but that it has fewer than 256 entries.
-/
import Derived.Test.YthofnohpdbbidaaSortU2
namespace Go.Proofs.Ythofnohpdbbidaa
open Go.Sx
set_option maxRecDepth 100000
set_option linter.unusedVariables false

structure PdqA where
  l : List Int
  cap : Nat
  a : Nat
  b : Nat
  lim : Nat
/-- all but a range is where it belongs -/
def OutL (a0 b0 a b : Nat) (m : List Int) : Prop := ∀ i j, a0 ≤ i → i < j → j < b0 → (i < a ∨ b ≤ j) → gl m i ≤ gl m j
structure PdqS where
  m : List Int
  a : Nat
  b : Nat
  lim : Nat
  bal : Bool
  par : Bool
noncomputable def cPdq (n : Nat) : Con where
  α := PdqA
  β := List Int
  m := 1
  m' := 1
  pre := fun x => x.b - x.a < n ∧ x.a ≤ x.b ∧ x.b ≤ x.l.length ∧ x.l.length < 256 ∧ x.lim ≤ 64 ∧ (0 < x.a → ∀ k, x.a ≤ k → k < x.b → gl x.l (x.a - 1) ≤ gl x.l k)
  args := fun x => [.a (.slc 0 0 1 x.l.length x.cap), .a (.int .i64 x.a), .a (.int .i64 x.b), .a (.int .i64 x.lim)]
  hp := fun x => [(0, arrU x.l)]
  ro := fun _ => []
  post := fun x m => PR x.a x.b x.l m ∧ Srt m x.a x.b
  res := fun _ _ => .tup []
  hp' := fun _ m => [(0, arrU m)]
structure PdqI (x : PdqA) (y : PdqS) : Prop where
  pr : PR x.a x.b x.l y.m
  a0 : x.a ≤ y.a
  ab : y.a ≤ y.b
  b0 : y.b ≤ x.b
  out : OutL x.a x.b y.a y.b y.m
  lim : y.lim ≤ 64
  low : 0 < y.a → ∀ k, y.a ≤ k → k < y.b → gl y.m (y.a - 1) ≤ gl y.m k
theorem OutL.pr {a0 b0 a b : Nat} {m m' : List Int} (h : OutL a0 b0 a b m) (hp : PR a b m m') (h0 : a0 ≤ a) (h1 : b ≤ b0) : OutL a0 b0 a b m' := fun i j g1 g2 g3 g4 => by
  have ei : gl m' i = gl m i ∨ (a ≤ i ∧ i < b ∧ ∃ i', a ≤ i' ∧ i' < b ∧ gl m' i = gl m i') := by
    by_cases e : a ≤ i ∧ i < b
    · exact .inr ⟨e.1, e.2, hp.inc i e.1 e.2⟩
    · exact .inl (hp.out (by omega))
  have ej : gl m' j = gl m j ∨ (a ≤ j ∧ j < b ∧ ∃ j', a ≤ j' ∧ j' < b ∧ gl m' j = gl m j') := by
    by_cases e : a ≤ j ∧ j < b
    · exact .inr ⟨e.1, e.2, hp.inc j e.1 e.2⟩
    · exact .inl (hp.out (by omega))
  rcases ei with ei | ⟨i1, i2, i', i3, i4, ei⟩ <;> rcases ej with ej | ⟨j1, j2, j', j3, j4, ej⟩ <;> rw [ei, ej]
  · exact h i j g1 g2 g3 g4
  · exact h i j' g1 (by omega) (by omega) (by omega)
  · exact h i' j (by omega) (by omega) g3 (by omega)
  · omega
theorem PdqI.srt {x : PdqA} {y : PdqS} (h : PdqI x y) (hx : x.b ≤ x.l.length) {m : List Int} (h1 : PR y.a y.b y.m m) (h2 : Srt m y.a y.b) : PR x.a x.b x.l m ∧ Srt m x.a x.b := by
  have hl := h.pr.length
  refine ⟨h.pr.trans (h1.mono h.a0 h.b0 (by omega)), fun i j g1 g2 g3 => ?_⟩
  by_cases e : i < y.a ∨ y.b ≤ j
  · exact h.out.pr h1 h.a0 h.b0 i j g1 g2 g3 e
  · exact h2 i j (by omega) g2 (by omega)
theorem PdqI.low' {x : PdqA} {y : PdqS} (h : PdqI x y) {m : List Int} (h1 : PR y.a y.b y.m m) : 0 < y.a → ∀ k, y.a ≤ k → k < y.b → gl m (y.a - 1) ≤ gl m k := fun g k g1 g2 => by
  rw [h1.out (k := y.a - 1) (.inl (by omega))]
  exact h1.all (P := fun v => gl y.m (y.a - 1) ≤ v) (fun k g3 g4 => h.low g k g3 g4) k g1 g2
theorem PdqI.eq {x : PdqA} {y : PdqS} (h : PdqI x y) (hx : x.b ≤ x.l.length) {m : List Int} {mid lim : Nat} {bal par : Bool} {v : Int} (hp : PR y.a y.b y.m m) (h0 : 0 < y.a) (hv : v ≤ gl y.m (y.a - 1)) (h1 : y.a < mid) (h2 : mid ≤ y.b) (h3 : ∀ k, y.a ≤ k → k < mid → gl m k ≤ v) (h4 : ∀ k, mid ≤ k → k < y.b → v < gl m k) (hlim : lim ≤ 64) :
    PdqI x ⟨m, mid, y.b, lim, bal, par⟩ := by
  have hl := h.pr.length
  have low := h.low' hp h0
  have e0 : gl m (y.a - 1) = gl y.m (y.a - 1) := hp.out (.inl (by omega))
  have ev : ∀ k, y.a ≤ k → k < mid → gl m k = v := fun k g1 g2 => by
    have := h3 k g1 g2
    have := low k g1 (by omega)
    omega
  have hb := h.b0
  have ha := h.a0
  refine ⟨h.pr.trans (hp.mono ha hb (by omega)), by dsimp only; omega, h2, hb, fun i j g1 g2 g3 g4 => ?_, hlim, fun _ k g1 g2 => ?_⟩ <;> dsimp only at *
  · by_cases e : i < y.a ∨ y.b ≤ j
    · exact h.out.pr hp ha hb i j g1 g2 g3 e
    · rw [ev i (by omega) (by omega)]
      by_cases ej : j < mid
      · rw [ev j (by omega) ej]; exact Int.le_refl _
      · have := h4 j (by omega) (by omega); omega
  · rw [ev (mid - 1) (by omega) (by omega)]
    have := h4 k g1 g2; omega
theorem PdqI.left {x : PdqA} {y : PdqS} (h : PdqI x y) (hx : x.b ≤ x.l.length) {m m2 : List Int} {mid lim : Nat} {bal par : Bool} (hp : PR y.a y.b y.m m) (h1 : y.a ≤ mid) (h2 : mid < y.b) (h3 : ∀ k, y.a ≤ k → k < mid → gl m k ≤ gl m mid) (h4 : ∀ k, mid < k → k < y.b → gl m mid ≤ gl m k)
    (q1 : PR y.a mid m m2) (q2 : Srt m2 y.a mid) (hlim : lim ≤ 64) : PdqI x ⟨m2, mid + 1, y.b, lim, bal, par⟩ := by
  have hl := h.pr.length
  have hl2 := hp.length
  have hb := h.b0
  have ha := h.a0
  have hp2 : PR y.a y.b y.m m2 := hp.trans (q1.mono (Nat.le_refl _) (by omega) (by omega))
  have up : ∀ k, mid ≤ k → gl m2 k = gl m k := fun k g => q1.out (.inr g)
  have lo : ∀ k, y.a ≤ k → k < mid → gl m2 k ≤ gl m mid := q1.all (P := fun v => v ≤ gl m mid) h3
  refine ⟨h.pr.trans (hp2.mono ha hb (by omega)), by dsimp only; omega, by dsimp only; omega, hb, fun i j g1 g2 g3 g4 => ?_, hlim, fun _ k g1 g2 => ?_⟩ <;> dsimp only at *
  · by_cases e : i < y.a ∨ y.b ≤ j
    · exact h.out.pr hp2 ha hb i j g1 g2 g3 e
    · by_cases ej : j < mid
      · exact q2 i j (by omega) g2 ej
      · rw [up j (by omega)]
        by_cases ei : i < mid
        · have a1 := lo i (by omega) ei
          by_cases ej2 : j = mid
          · rw [ej2]; exact a1
          · have := h4 j (by omega) (by omega); omega
        · rw [up i (by omega), show i = mid by omega]
          exact h4 j (by omega) (by omega)
  · rw [Nat.add_sub_cancel, up mid (Nat.le_refl _), up k (by omega)]
    exact h4 k (by omega) g2
theorem PdqI.right {x : PdqA} {y : PdqS} (h : PdqI x y) (hx : x.b ≤ x.l.length) {m m2 : List Int} {mid lim : Nat} {bal par : Bool} (hp : PR y.a y.b y.m m) (h1 : y.a ≤ mid) (h2 : mid < y.b) (h3 : ∀ k, y.a ≤ k → k < mid → gl m k ≤ gl m mid) (h4 : ∀ k, mid < k → k < y.b → gl m mid ≤ gl m k)
    (q1 : PR (mid + 1) y.b m m2) (q2 : Srt m2 (mid + 1) y.b) (hlim : lim ≤ 64) : PdqI x ⟨m2, y.a, mid, lim, bal, par⟩ := by
  have hl := h.pr.length
  have hl2 := hp.length
  have hb := h.b0
  have ha := h.a0
  have hp2 : PR y.a y.b y.m m2 := hp.trans (q1.mono (by omega) (Nat.le_refl _) (by omega))
  have dn : ∀ k, k ≤ mid → gl m2 k = gl m k := fun k g => q1.out (.inl (by omega))
  have hi : ∀ k, mid + 1 ≤ k → k < y.b → gl m mid ≤ gl m2 k := q1.all (P := fun v => gl m mid ≤ v) fun k g1 g2 => h4 k (by omega) g2
  refine ⟨h.pr.trans (hp2.mono ha hb (by omega)), ha, h1, by dsimp only; omega, fun i j g1 g2 g3 g4 => ?_, hlim, fun g k g1 g2 => ?_⟩ <;> dsimp only at *
  · by_cases e : i < y.a ∨ y.b ≤ j
    · exact h.out.pr hp2 ha hb i j g1 g2 g3 e
    · by_cases ei : mid < i
      · exact q2 i j (by omega) g2 (by omega)
      · rw [dn i (by omega)]
        by_cases ej : j = mid
        · rw [ej, dn mid (Nat.le_refl _)]; exact h3 i (by omega) (by omega)
        · have a1 := hi j (by omega) (by omega)
          by_cases ei2 : i = mid
          · rw [ei2]; exact a1
          · have := h3 i (by omega) (by omega); omega
  · exact h.low' hp2 g k g1 (by omega)
def jPdq (s : S) (y : PdqS) : S := ((((S.dat s y.m).int 1 y.a).int 2 y.b).int 3 y.lim)
structure PdqP where
  m : List Int
  lim : Nat
  piv : Nat
  hint : Nat
/-- behind a pattern was broken, or not; behind a pivot was chosen, and the range turned, or not; behind a try by insertion, or not -/
def cPq4 (x : PdqA) (y : PdqS) : An := .flat 20 PdqP (fun s z => (((S.dat s z.m).int 3 z.lim).int 11 z.piv).int 12 z.hint) (fun _ z => PR y.a y.b y.m z.m ∧ z.lim ≤ 64 ∧ y.a ≤ z.piv ∧ z.piv < y.b) (fun _ _ => 0)
def cPq3 (x : PdqA) (y : PdqS) : An := .mk 17 PdqP (fun s z => (((S.dat s z.m).int 3 z.lim).int 11 z.piv).int 12 z.hint) (fun _ z => PR y.a y.b y.m z.m ∧ z.lim ≤ 64 ∧ y.a ≤ z.piv ∧ z.piv < y.b) (fun _ _ => 0) fun _ => .mk 60 [] [cPq4 x y]
def cPq2 (x : PdqA) (y : PdqS) : An := .mk 15 PdqP (fun s z => (((S.dat s z.m).int 3 z.lim).int 11 z.piv).int 12 z.hint) (fun _ z => PR y.a y.b y.m z.m ∧ z.lim ≤ 64 ∧ y.a ≤ z.piv ∧ z.piv < y.b) (fun _ _ => 0) fun _ => .mk 60 [] [cPq3 x y]
def cPq1 (x : PdqA) (y : PdqS) : An := .mk 10 PdqP (fun s z => (S.dat s z.m).int 3 z.lim) (fun _ z => PR y.a y.b y.m z.m ∧ z.lim ≤ 64) (fun _ _ => 0) fun _ => .mk 60 [] [cPq2 x y]
def iPdq (x : PdqA) : An := .mk 2 PdqS (fun s y => ((jPdq s y).set 8 (.a (.bool y.bal))).set 9 (.a (.bool y.par))) (fun _ y => PdqI x y) (fun _ y => y.b - y.a) fun y => .mk 60 [] [cPq1 x y]
noncomputable def tabPdq (n : Nat) : List (Nat × Con) := [(31, cPdq n), (37, cIns), (38, cHeap), (39, cBrk), (40, cPivot), (41, cRev), (42, cPin), (44, cPartEq), (45, cPart), (43, cULess)]
set_option maxHeartbeats 4000000 in
theorem bodyPdq (n : Nat) : fnBody (Y Try.prog) (tabPdq n) 31 (cPdq (n + 1)) fun x => [(31, [iPdq x], [])] := fnBody.of (p :=
  ∀ (a : PdqA), a.b - a.a < n + (1 : Nat) ∧
  a.a ≤ a.b ∧
  a.b ≤ a.l.length ∧
  a.l.length < (256 : Nat) ∧
  a.lim ≤ (64 : Nat) ∧
  ((0 : Nat) < a.a →
  ∀ (k : Nat), a.a ≤ k →
  k < a.b →
  gl a.l (a.a - (1 : Nat)) ≤ gl a.l k) →
  (∃ (a_2 : PdqS), Bool.true = a_2.par ∧
  Bool.true = a_2.bal ∧
  (↑a.lim : Int) = (↑a_2.lim : Int) ∧
  (↑a.b : Int) = (↑a_2.b : Int) ∧
  (↑a.a : Int) = (↑a_2.a : Int) ∧
  ((0 : Nat) = (0 : Nat) ∧
  a.l.length = a.l.length ∧
  a.cap = a.cap) ∧
  (a_2.m.length ≤ a.l.length ∧
  RowsEq a_2.m.length (1 : Nat) (encRows encU a.l) (encRows encU a_2.m)) ∧
  PdqI a a_2 ∧
  True) ∧
  ∀ (a_2 : PdqS), PdqI a a_2 →
  InR IntKind.i64 ((↑a_2.b : Int) - (↑a_2.a : Int)) ∧
  (Decidable.decide ((↑a_2.b : Int) - (↑a_2.a : Int) ≤ (12 : Int)) = Bool.true →
  ∃ (a_5 : RngA), ((0 : Nat) = (0 : Nat) ∧
  a.l.length = a_5.l.length ∧
  a.cap = a_5.cap) ∧
  (↑a_2.a : Int) = (↑a_5.a : Int) ∧
  (↑a_2.b : Int) = (↑a_5.b : Int) ∧
  (a_5.l.length ≤ a_2.m.length ∧
  RowsEq a_5.l.length (1 : Nat) (encRows encU a_2.m) (encRows encU a_5.l)) ∧
  (a_5.a ≤ a_5.b ∧
  a_5.b ≤ a_5.l.length ∧
  a_5.l.length < (100000 : Nat)) ∧
  ∀ (b : List Int), PR a_5.a a_5.b a_5.l b ∧
  Srt b a_5.a a_5.b →
  ∃ (b_1 : List Int), (b_1.length ≤ b.length ∧
  RowsEq b_1.length (1 : Nat) (encRows encU b) (encRows encU b_1)) ∧
  (PR a.a a.b a.l b_1 ∧
  Srt b_1 a.a a.b) ∧
  True) ∧
  (Decidable.decide ((↑a_2.b : Int) - (↑a_2.a : Int) ≤ (12 : Int)) = Bool.false →
  (((↑a_2.lim : Int) == (0 : Int)) = Bool.true →
  ∃ (a_6 : RngA), ((0 : Nat) = (0 : Nat) ∧
  a.l.length = a_6.l.length ∧
  a.cap = a_6.cap) ∧
  (↑a_2.a : Int) = (↑a_6.a : Int) ∧
  (↑a_2.b : Int) = (↑a_6.b : Int) ∧
  (a_6.l.length ≤ a_2.m.length ∧
  RowsEq a_6.l.length (1 : Nat) (encRows encU a_2.m) (encRows encU a_6.l)) ∧
  a_6.ok ∧
  ∀ (b : List Int), PR a_6.a a_6.b a_6.l b ∧
  Srt b a_6.a a_6.b →
  ∃ (b_1 : List Int), (b_1.length ≤ b.length ∧
  RowsEq b_1.length (1 : Nat) (encRows encU b) (encRows encU b_1)) ∧
  (PR a.a a.b a.l b_1 ∧
  Srt b_1 a.a a.b) ∧
  True) ∧
  (((↑a_2.lim : Int) == (0 : Int)) = Bool.false →
  (((!a_2.bal) = Bool.true →
  ∃ (a_7 : RngA), ((0 : Nat) = (0 : Nat) ∧
  a.l.length = a_7.l.length ∧
  a.cap = a_7.cap) ∧
  (↑a_2.a : Int) = (↑a_7.a : Int) ∧
  (↑a_2.b : Int) = (↑a_7.b : Int) ∧
  (a_7.l.length ≤ a_2.m.length ∧
  RowsEq a_7.l.length (1 : Nat) (encRows encU a_2.m) (encRows encU a_7.l)) ∧
  (a_7.ok ∧
  a_7.l.length < (256 : Nat)) ∧
  ∀ (b : List Int), PR a_7.a a_7.b a_7.l b →
  InR IntKind.i64 ((↑a_2.lim : Int) - (1 : Int)) ∧
  ∃ (a_9 : PdqP), (↑a_2.lim : Int) - (1 : Int) = (↑a_9.lim : Int) ∧
  ((↑a_2.lim : Int) == (0 : Int)) = ((↑a_2.lim : Int) == (0 : Int)) ∧
  Decidable.decide ((↑a_2.b : Int) - (↑a_2.a : Int) ≤ (12 : Int)) = Decidable.decide ((↑a_2.b : Int) - (↑a_2.a : Int) ≤ (12 : Int)) ∧
  (↑a_2.b : Int) - (↑a_2.a : Int) = (↑a_2.b : Int) - (↑a_2.a : Int) ∧
  a_2.par = a_2.par ∧
  a_2.bal = a_2.bal ∧
  (↑a_2.b : Int) = (↑a_2.b : Int) ∧
  (↑a_2.a : Int) = (↑a_2.a : Int) ∧
  ((0 : Nat) = (0 : Nat) ∧
  a.l.length = a.l.length ∧
  a.cap = a.cap) ∧
  (a_9.m.length ≤ b.length ∧
  RowsEq a_9.m.length (1 : Nat) (encRows encU b) (encRows encU a_9.m)) ∧
  (PR a_2.a a_2.b a_2.m a_9.m ∧
  a_9.lim ≤ (64 : Nat)) ∧
  True) ∧
  ((!a_2.bal) = Bool.false →
  ∃ (a_7 : PdqP), (↑a_2.lim : Int) = (↑a_7.lim : Int) ∧
  ((↑a_2.lim : Int) == (0 : Int)) = ((↑a_2.lim : Int) == (0 : Int)) ∧
  Decidable.decide ((↑a_2.b : Int) - (↑a_2.a : Int) ≤ (12 : Int)) = Decidable.decide ((↑a_2.b : Int) - (↑a_2.a : Int) ≤ (12 : Int)) ∧
  (↑a_2.b : Int) - (↑a_2.a : Int) = (↑a_2.b : Int) - (↑a_2.a : Int) ∧
  a_2.par = a_2.par ∧
  a_2.bal = a_2.bal ∧
  (↑a_2.b : Int) = (↑a_2.b : Int) ∧
  (↑a_2.a : Int) = (↑a_2.a : Int) ∧
  ((0 : Nat) = (0 : Nat) ∧
  a.l.length = a.l.length ∧
  a.cap = a.cap) ∧
  (a_7.m.length ≤ a_2.m.length ∧
  RowsEq a_7.m.length (1 : Nat) (encRows encU a_2.m) (encRows encU a_7.m)) ∧
  (PR a_2.a a_2.b a_2.m a_7.m ∧
  a_7.lim ≤ (64 : Nat)) ∧
  True)) ∧
  ∀ (a_6 : PdqP), PR a_2.a a_2.b a_2.m a_6.m ∧
  a_6.lim ≤ (64 : Nat) →
  ∃ (a_8 : RngA), ((0 : Nat) = (0 : Nat) ∧
  a.l.length = a_8.l.length ∧
  a.cap = a_8.cap) ∧
  (↑a_2.a : Int) = (↑a_8.a : Int) ∧
  (↑a_2.b : Int) = (↑a_8.b : Int) ∧
  (a_8.l.length ≤ a_6.m.length ∧
  RowsEq a_8.l.length (1 : Nat) (encRows encU a_6.m) (encRows encU a_8.l)) ∧
  a_8.ok ∧
  ∀ (b : PvB), a_8.a ≤ b.j ∧
  b.j < a_8.b →
  ((((↑b.h : Int) == (2 : Int)) = Bool.true →
  ∃ (a_11 : RngA), ((0 : Nat) = (0 : Nat) ∧
  a.l.length = a_11.l.length ∧
  a.cap = a_11.cap) ∧
  (↑a_2.a : Int) = (↑a_11.a : Int) ∧
  (↑a_2.b : Int) = (↑a_11.b : Int) ∧
  (a_11.l.length ≤ a_6.m.length ∧
  RowsEq a_11.l.length (1 : Nat) (encRows encU a_6.m) (encRows encU a_11.l)) ∧
  a_11.ok ∧
  ∀ (b_1 : List Int), PR a_11.a a_11.b a_11.l b_1 →
  InR IntKind.i64 ((↑a_2.b : Int) - (1 : Int)) ∧
  InR IntKind.i64 ((↑b.j : Int) - (↑a_2.a : Int)) ∧
  InR IntKind.i64 ((↑a_2.b : Int) - (1 : Int) - ((↑b.j : Int) - (↑a_2.a : Int))) ∧
  ∃ (a_13 : PdqP), (1 : Int) = (↑a_13.hint : Int) ∧
  (↑a_2.b : Int) - (1 : Int) - ((↑b.j : Int) - (↑a_2.a : Int)) = (↑a_13.piv : Int) ∧
  (↑a_6.lim : Int) = (↑a_13.lim : Int) ∧
  ((↑a_2.lim : Int) == (0 : Int)) = ((↑a_2.lim : Int) == (0 : Int)) ∧
  Decidable.decide ((↑a_2.b : Int) - (↑a_2.a : Int) ≤ (12 : Int)) = Decidable.decide ((↑a_2.b : Int) - (↑a_2.a : Int) ≤ (12 : Int)) ∧
  (↑a_2.b : Int) - (↑a_2.a : Int) = (↑a_2.b : Int) - (↑a_2.a : Int) ∧
  a_2.par = a_2.par ∧
  a_2.bal = a_2.bal ∧
  (↑a_2.b : Int) = (↑a_2.b : Int) ∧
  (↑a_2.a : Int) = (↑a_2.a : Int) ∧
  ((0 : Nat) = (0 : Nat) ∧
  a.l.length = a.l.length ∧
  a.cap = a.cap) ∧
  (a_13.m.length ≤ b_1.length ∧
  RowsEq a_13.m.length (1 : Nat) (encRows encU b_1) (encRows encU a_13.m)) ∧
  (PR a_2.a a_2.b a_2.m a_13.m ∧
  a_13.lim ≤ (64 : Nat) ∧
  a_2.a ≤ a_13.piv ∧
  a_13.piv < a_2.b) ∧
  True) ∧
  (((↑b.h : Int) == (2 : Int)) = Bool.false →
  ∃ (a_11 : PdqP), (↑b.h : Int) = (↑a_11.hint : Int) ∧
  (↑b.j : Int) = (↑a_11.piv : Int) ∧
  (↑a_6.lim : Int) = (↑a_11.lim : Int) ∧
  ((↑a_2.lim : Int) == (0 : Int)) = ((↑a_2.lim : Int) == (0 : Int)) ∧
  Decidable.decide ((↑a_2.b : Int) - (↑a_2.a : Int) ≤ (12 : Int)) = Decidable.decide ((↑a_2.b : Int) - (↑a_2.a : Int) ≤ (12 : Int)) ∧
  (↑a_2.b : Int) - (↑a_2.a : Int) = (↑a_2.b : Int) - (↑a_2.a : Int) ∧
  a_2.par = a_2.par ∧
  a_2.bal = a_2.bal ∧
  (↑a_2.b : Int) = (↑a_2.b : Int) ∧
  (↑a_2.a : Int) = (↑a_2.a : Int) ∧
  ((0 : Nat) = (0 : Nat) ∧
  a.l.length = a.l.length ∧
  a.cap = a.cap) ∧
  (a_11.m.length ≤ a_6.m.length ∧
  RowsEq a_11.m.length (1 : Nat) (encRows encU a_6.m) (encRows encU a_11.m)) ∧
  (PR a_2.a a_2.b a_2.m a_11.m ∧
  a_11.lim ≤ (64 : Nat) ∧
  a_2.a ≤ a_11.piv ∧
  a_11.piv < a_2.b) ∧
  True)) ∧
  ∀ (a_10 : PdqP), PR a_2.a a_2.b a_2.m a_10.m ∧
  a_10.lim ≤ (64 : Nat) ∧
  a_2.a ≤ a_10.piv ∧
  a_10.piv < a_2.b →
  ((a_2.bal = Bool.true →
  (a_2.par = Bool.true →
  (((↑a_10.hint : Int) == (1 : Int)) = Bool.true →
  ∃ (a_15 : RngA), ((0 : Nat) = (0 : Nat) ∧
  a.l.length = a_15.l.length ∧
  a.cap = a_15.cap) ∧
  (↑a_2.a : Int) = (↑a_15.a : Int) ∧
  (↑a_2.b : Int) = (↑a_15.b : Int) ∧
  (a_15.l.length ≤ a_10.m.length ∧
  RowsEq a_15.l.length (1 : Nat) (encRows encU a_10.m) (encRows encU a_15.l)) ∧
  (a_15.ok ∧
  ((0 : Nat) < a_15.a →
  ∀ (k : Nat), a_15.a ≤ k →
  k < a_15.b →
  gl a_15.l (a_15.a - (1 : Nat)) ≤ gl a_15.l k)) ∧
  ∀ (b : List Int × Bool), PR a_15.a a_15.b a_15.l b.fst ∧
  (b.snd = Bool.true →
  Srt b.fst a_15.a a_15.b) →
  (b.snd = Bool.true →
  ∃ (b_1 : List Int), (b_1.length ≤ b.fst.length ∧
  RowsEq b_1.length (1 : Nat) (encRows encU b.fst) (encRows encU b_1)) ∧
  (PR a.a a.b a.l b_1 ∧
  Srt b_1 a.a a.b) ∧
  True) ∧
  (b.snd = Bool.false →
  ∃ (a_18 : PdqP), (↑a_10.hint : Int) = (↑a_18.hint : Int) ∧
  (↑a_10.piv : Int) = (↑a_18.piv : Int) ∧
  (↑a_10.lim : Int) = (↑a_18.lim : Int) ∧
  ((↑a_2.lim : Int) == (0 : Int)) = ((↑a_2.lim : Int) == (0 : Int)) ∧
  Decidable.decide ((↑a_2.b : Int) - (↑a_2.a : Int) ≤ (12 : Int)) = Decidable.decide ((↑a_2.b : Int) - (↑a_2.a : Int) ≤ (12 : Int)) ∧
  (↑a_2.b : Int) - (↑a_2.a : Int) = (↑a_2.b : Int) - (↑a_2.a : Int) ∧
  a_2.par = a_2.par ∧
  a_2.bal = a_2.bal ∧
  (↑a_2.b : Int) = (↑a_2.b : Int) ∧
  (↑a_2.a : Int) = (↑a_2.a : Int) ∧
  ((0 : Nat) = (0 : Nat) ∧
  a.l.length = a.l.length ∧
  a.cap = a.cap) ∧
  (a_18.m.length ≤ b.fst.length ∧
  RowsEq a_18.m.length (1 : Nat) (encRows encU b.fst) (encRows encU a_18.m)) ∧
  (PR a_2.a a_2.b a_2.m a_18.m ∧
  a_18.lim ≤ (64 : Nat) ∧
  a_2.a ≤ a_18.piv ∧
  a_18.piv < a_2.b) ∧
  True)) ∧
  (((↑a_10.hint : Int) == (1 : Int)) = Bool.false →
  ∃ (a_15 : PdqP), (↑a_10.hint : Int) = (↑a_15.hint : Int) ∧
  (↑a_10.piv : Int) = (↑a_15.piv : Int) ∧
  (↑a_10.lim : Int) = (↑a_15.lim : Int) ∧
  ((↑a_2.lim : Int) == (0 : Int)) = ((↑a_2.lim : Int) == (0 : Int)) ∧
  Decidable.decide ((↑a_2.b : Int) - (↑a_2.a : Int) ≤ (12 : Int)) = Decidable.decide ((↑a_2.b : Int) - (↑a_2.a : Int) ≤ (12 : Int)) ∧
  (↑a_2.b : Int) - (↑a_2.a : Int) = (↑a_2.b : Int) - (↑a_2.a : Int) ∧
  a_2.par = a_2.par ∧
  a_2.bal = a_2.bal ∧
  (↑a_2.b : Int) = (↑a_2.b : Int) ∧
  (↑a_2.a : Int) = (↑a_2.a : Int) ∧
  ((0 : Nat) = (0 : Nat) ∧
  a.l.length = a.l.length ∧
  a.cap = a.cap) ∧
  (a_15.m.length ≤ a_10.m.length ∧
  RowsEq a_15.m.length (1 : Nat) (encRows encU a_10.m) (encRows encU a_15.m)) ∧
  (PR a_2.a a_2.b a_2.m a_15.m ∧
  a_15.lim ≤ (64 : Nat) ∧
  a_2.a ≤ a_15.piv ∧
  a_15.piv < a_2.b) ∧
  True)) ∧
  (a_2.par = Bool.false →
  ∃ (a_14 : PdqP), (↑a_10.hint : Int) = (↑a_14.hint : Int) ∧
  (↑a_10.piv : Int) = (↑a_14.piv : Int) ∧
  (↑a_10.lim : Int) = (↑a_14.lim : Int) ∧
  ((↑a_2.lim : Int) == (0 : Int)) = ((↑a_2.lim : Int) == (0 : Int)) ∧
  Decidable.decide ((↑a_2.b : Int) - (↑a_2.a : Int) ≤ (12 : Int)) = Decidable.decide ((↑a_2.b : Int) - (↑a_2.a : Int) ≤ (12 : Int)) ∧
  (↑a_2.b : Int) - (↑a_2.a : Int) = (↑a_2.b : Int) - (↑a_2.a : Int) ∧
  a_2.par = a_2.par ∧
  a_2.bal = a_2.bal ∧
  (↑a_2.b : Int) = (↑a_2.b : Int) ∧
  (↑a_2.a : Int) = (↑a_2.a : Int) ∧
  ((0 : Nat) = (0 : Nat) ∧
  a.l.length = a.l.length ∧
  a.cap = a.cap) ∧
  (a_14.m.length ≤ a_10.m.length ∧
  RowsEq a_14.m.length (1 : Nat) (encRows encU a_10.m) (encRows encU a_14.m)) ∧
  (PR a_2.a a_2.b a_2.m a_14.m ∧
  a_14.lim ≤ (64 : Nat) ∧
  a_2.a ≤ a_14.piv ∧
  a_14.piv < a_2.b) ∧
  True)) ∧
  (a_2.bal = Bool.false →
  ∃ (a_13 : PdqP), (↑a_10.hint : Int) = (↑a_13.hint : Int) ∧
  (↑a_10.piv : Int) = (↑a_13.piv : Int) ∧
  (↑a_10.lim : Int) = (↑a_13.lim : Int) ∧
  ((↑a_2.lim : Int) == (0 : Int)) = ((↑a_2.lim : Int) == (0 : Int)) ∧
  Decidable.decide ((↑a_2.b : Int) - (↑a_2.a : Int) ≤ (12 : Int)) = Decidable.decide ((↑a_2.b : Int) - (↑a_2.a : Int) ≤ (12 : Int)) ∧
  (↑a_2.b : Int) - (↑a_2.a : Int) = (↑a_2.b : Int) - (↑a_2.a : Int) ∧
  a_2.par = a_2.par ∧
  a_2.bal = a_2.bal ∧
  (↑a_2.b : Int) = (↑a_2.b : Int) ∧
  (↑a_2.a : Int) = (↑a_2.a : Int) ∧
  ((0 : Nat) = (0 : Nat) ∧
  a.l.length = a.l.length ∧
  a.cap = a.cap) ∧
  (a_13.m.length ≤ a_10.m.length ∧
  RowsEq a_13.m.length (1 : Nat) (encRows encU a_10.m) (encRows encU a_13.m)) ∧
  (PR a_2.a a_2.b a_2.m a_13.m ∧
  a_13.lim ≤ (64 : Nat) ∧
  a_2.a ≤ a_13.piv ∧
  a_13.piv < a_2.b) ∧
  True)) ∧
  ∀ (a_12 : PdqP), PR a_2.a a_2.b a_2.m a_12.m ∧
  a_12.lim ≤ (64 : Nat) ∧
  a_2.a ≤ a_12.piv ∧
  a_12.piv < a_2.b →
  ((Decidable.decide ((0 : Int) < (↑a_2.a : Int)) = Bool.true →
  InR IntKind.i64 ((↑a_2.a : Int) - (1 : Int)) ∧
  ((0 : Int) ≤ (↑a_2.a : Int) - (1 : Int) ∧
  (↑a_2.a : Int) - (1 : Int) < (↑a.l.length : Int)) ∧
  (0 : Nat) + ((↑a_2.a : Int) - (1 : Int)).toNat < a_12.m.length ∧
  (InR IntKind.u64 (gl a_12.m ((0 : Nat) + ((↑a_2.a : Int) - (1 : Int)).toNat)) →
  ((0 : Int) ≤ (↑a_12.piv : Int) ∧
  (↑a_12.piv : Int) < (↑a.l.length : Int)) ∧
  (0 : Nat) + (↑a_12.piv : Int).toNat < a_12.m.length ∧
  (InR IntKind.u64 (gl a_12.m ((0 : Nat) + (↑a_12.piv : Int).toNat)) →
  ∃ (a_17 : Int × Int), gl a_12.m ((0 : Nat) + ((↑a_2.a : Int) - (1 : Int)).toNat) = a_17.fst ∧
  gl a_12.m ((0 : Nat) + (↑a_12.piv : Int).toNat) = a_17.snd ∧
  True ∧
  ∀ (b : Unit), True →
  ((!Decidable.decide (a_17.fst < a_17.snd)) = Bool.true →
  ∃ (a_20 : PivA), ((0 : Nat) = (0 : Nat) ∧
  a.l.length = a_20.l.length ∧
  a.cap = a_20.cap) ∧
  (↑a_2.a : Int) = (↑a_20.a : Int) ∧
  (↑a_2.b : Int) = (↑a_20.b : Int) ∧
  (↑a_12.piv : Int) = (↑a_20.p : Int) ∧
  (a_20.l.length ≤ a_12.m.length ∧
  RowsEq a_20.l.length (1 : Nat) (encRows encU a_12.m) (encRows encU a_20.l)) ∧
  a_20.ok ∧
  ∀ (b : List Int × Nat), (PR a_20.a a_20.b a_20.l b.fst ∧
  a_20.a < b.snd ∧
  b.snd ≤ a_20.b ∧
  (∀ (k : Nat), a_20.a ≤ k →
  k < b.snd →
  gl b.fst k ≤ a_20.v) ∧
  ∀ (k : Nat), b.snd ≤ k →
  k < a_20.b →
  a_20.v < gl b.fst k) →
  ∃ (a' : PdqS), a_2.par = a'.par ∧
  a_2.bal = a'.bal ∧
  (↑a_12.lim : Int) = (↑a'.lim : Int) ∧
  (↑a_2.b : Int) = (↑a'.b : Int) ∧
  (↑b.snd : Int) = (↑a'.a : Int) ∧
  ((0 : Nat) = (0 : Nat) ∧
  a.l.length = a.l.length ∧
  a.cap = a.cap) ∧
  (a'.m.length ≤ b.fst.length ∧
  RowsEq a'.m.length (1 : Nat) (encRows encU b.fst) (encRows encU a'.m)) ∧
  PdqI a a' ∧
  a'.b - a'.a < a_2.b - a_2.a) ∧
  ((!Decidable.decide (a_17.fst < a_17.snd)) = Bool.false →
  ∃ (a_20 : PdqP), (↑a_12.hint : Int) = (↑a_20.hint : Int) ∧
  (↑a_12.piv : Int) = (↑a_20.piv : Int) ∧
  (↑a_12.lim : Int) = (↑a_20.lim : Int) ∧
  ((↑a_2.lim : Int) == (0 : Int)) = ((↑a_2.lim : Int) == (0 : Int)) ∧
  Decidable.decide ((↑a_2.b : Int) - (↑a_2.a : Int) ≤ (12 : Int)) = Decidable.decide ((↑a_2.b : Int) - (↑a_2.a : Int) ≤ (12 : Int)) ∧
  (↑a_2.b : Int) - (↑a_2.a : Int) = (↑a_2.b : Int) - (↑a_2.a : Int) ∧
  a_2.par = a_2.par ∧
  a_2.bal = a_2.bal ∧
  (↑a_2.b : Int) = (↑a_2.b : Int) ∧
  (↑a_2.a : Int) = (↑a_2.a : Int) ∧
  ((0 : Nat) = (0 : Nat) ∧
  a.l.length = a.l.length ∧
  a.cap = a.cap) ∧
  (a_20.m.length ≤ a_12.m.length ∧
  RowsEq a_20.m.length (1 : Nat) (encRows encU a_12.m) (encRows encU a_20.m)) ∧
  (PR a_2.a a_2.b a_2.m a_20.m ∧
  a_20.lim ≤ (64 : Nat) ∧
  a_2.a ≤ a_20.piv ∧
  a_20.piv < a_2.b) ∧
  True)))) ∧
  (Decidable.decide ((0 : Int) < (↑a_2.a : Int)) = Bool.false →
  ∃ (a_15 : PdqP), (↑a_12.hint : Int) = (↑a_15.hint : Int) ∧
  (↑a_12.piv : Int) = (↑a_15.piv : Int) ∧
  (↑a_12.lim : Int) = (↑a_15.lim : Int) ∧
  ((↑a_2.lim : Int) == (0 : Int)) = ((↑a_2.lim : Int) == (0 : Int)) ∧
  Decidable.decide ((↑a_2.b : Int) - (↑a_2.a : Int) ≤ (12 : Int)) = Decidable.decide ((↑a_2.b : Int) - (↑a_2.a : Int) ≤ (12 : Int)) ∧
  (↑a_2.b : Int) - (↑a_2.a : Int) = (↑a_2.b : Int) - (↑a_2.a : Int) ∧
  a_2.par = a_2.par ∧
  a_2.bal = a_2.bal ∧
  (↑a_2.b : Int) = (↑a_2.b : Int) ∧
  (↑a_2.a : Int) = (↑a_2.a : Int) ∧
  ((0 : Nat) = (0 : Nat) ∧
  a.l.length = a.l.length ∧
  a.cap = a.cap) ∧
  (a_15.m.length ≤ a_12.m.length ∧
  RowsEq a_15.m.length (1 : Nat) (encRows encU a_12.m) (encRows encU a_15.m)) ∧
  (PR a_2.a a_2.b a_2.m a_15.m ∧
  a_15.lim ≤ (64 : Nat) ∧
  a_2.a ≤ a_15.piv ∧
  a_15.piv < a_2.b) ∧
  True)) ∧
  ∀ (a_14 : PdqP), PR a_2.a a_2.b a_2.m a_14.m ∧
  a_14.lim ≤ (64 : Nat) ∧
  a_2.a ≤ a_14.piv ∧
  a_14.piv < a_2.b →
  ∃ (a_16 : PivA), ((0 : Nat) = (0 : Nat) ∧
  a.l.length = a_16.l.length ∧
  a.cap = a_16.cap) ∧
  (↑a_2.a : Int) = (↑a_16.a : Int) ∧
  (↑a_2.b : Int) = (↑a_16.b : Int) ∧
  (↑a_14.piv : Int) = (↑a_16.p : Int) ∧
  (a_16.l.length ≤ a_14.m.length ∧
  RowsEq a_16.l.length (1 : Nat) (encRows encU a_14.m) (encRows encU a_16.l)) ∧
  a_16.ok ∧
  ∀ (b : PartB), (PR a_16.a a_16.b a_16.l b.m ∧
  a_16.a ≤ b.mid ∧
  b.mid < a_16.b ∧
  (∀ (k : Nat), a_16.a ≤ k →
  k < b.mid →
  gl b.m k ≤ gl b.m b.mid) ∧
  ∀ (k : Nat), b.mid < k →
  k < a_16.b →
  gl b.m b.mid ≤ gl b.m k) →
  InR IntKind.i64 ((↑b.mid : Int) - (↑a_2.a : Int)) ∧
  InR IntKind.i64 ((↑a_2.b : Int) - (↑b.mid : Int)) ∧
  (8 : Int) ≠ (0 : Int) ∧
  InR IntKind.i64 (((↑a_2.b : Int) - (↑a_2.a : Int)).tdiv (8 : Int)) ∧
  (Decidable.decide ((↑b.mid : Int) - (↑a_2.a : Int) < (↑a_2.b : Int) - (↑b.mid : Int)) = Bool.true →
  ∃ (a_19 : PdqA), ((0 : Nat) = (0 : Nat) ∧
  a.l.length = a_19.l.length ∧
  a.cap = a_19.cap) ∧
  (↑a_2.a : Int) = (↑a_19.a : Int) ∧
  (↑b.mid : Int) = (↑a_19.b : Int) ∧
  (↑a_14.lim : Int) = (↑a_19.lim : Int) ∧
  (a_19.l.length ≤ b.m.length ∧
  RowsEq a_19.l.length (1 : Nat) (encRows encU b.m) (encRows encU a_19.l)) ∧
  (a_19.b - a_19.a < n ∧
  a_19.a ≤ a_19.b ∧
  a_19.b ≤ a_19.l.length ∧
  a_19.l.length < (256 : Nat) ∧
  a_19.lim ≤ (64 : Nat) ∧
  ((0 : Nat) < a_19.a →
  ∀ (k : Nat), a_19.a ≤ k →
  k < a_19.b →
  gl a_19.l (a_19.a - (1 : Nat)) ≤ gl a_19.l k)) ∧
  ∀ (b_1 : List Int), PR a_19.a a_19.b a_19.l b_1 ∧
  Srt b_1 a_19.a a_19.b →
  InR IntKind.i64 ((↑b.mid : Int) + (1 : Int)) ∧
  ∃ (a' : PdqS), b.done = a'.par ∧
  Decidable.decide (((↑a_2.b : Int) - (↑a_2.a : Int)).tdiv (8 : Int) ≤ (↑b.mid : Int) - (↑a_2.a : Int)) = a'.bal ∧
  (↑a_14.lim : Int) = (↑a'.lim : Int) ∧
  (↑a_2.b : Int) = (↑a'.b : Int) ∧
  (↑b.mid : Int) + (1 : Int) = (↑a'.a : Int) ∧
  ((0 : Nat) = (0 : Nat) ∧
  a.l.length = a.l.length ∧
  a.cap = a.cap) ∧
  (a'.m.length ≤ b_1.length ∧
  RowsEq a'.m.length (1 : Nat) (encRows encU b_1) (encRows encU a'.m)) ∧
  PdqI a a' ∧
  a'.b - a'.a < a_2.b - a_2.a) ∧
  (Decidable.decide ((↑b.mid : Int) - (↑a_2.a : Int) < (↑a_2.b : Int) - (↑b.mid : Int)) = Bool.false →
  InR IntKind.i64 ((↑b.mid : Int) + (1 : Int)) ∧
  ∃ (a_19 : PdqA), ((0 : Nat) = (0 : Nat) ∧
  a.l.length = a_19.l.length ∧
  a.cap = a_19.cap) ∧
  (↑b.mid : Int) + (1 : Int) = (↑a_19.a : Int) ∧
  (↑a_2.b : Int) = (↑a_19.b : Int) ∧
  (↑a_14.lim : Int) = (↑a_19.lim : Int) ∧
  (a_19.l.length ≤ b.m.length ∧
  RowsEq a_19.l.length (1 : Nat) (encRows encU b.m) (encRows encU a_19.l)) ∧
  (a_19.b - a_19.a < n ∧
  a_19.a ≤ a_19.b ∧
  a_19.b ≤ a_19.l.length ∧
  a_19.l.length < (256 : Nat) ∧
  a_19.lim ≤ (64 : Nat) ∧
  ((0 : Nat) < a_19.a →
  ∀ (k : Nat), a_19.a ≤ k →
  k < a_19.b →
  gl a_19.l (a_19.a - (1 : Nat)) ≤ gl a_19.l k)) ∧
  ∀ (b_1 : List Int), PR a_19.a a_19.b a_19.l b_1 ∧
  Srt b_1 a_19.a a_19.b →
  ∃ (a' : PdqS), b.done = a'.par ∧
  Decidable.decide (((↑a_2.b : Int) - (↑a_2.a : Int)).tdiv (8 : Int) ≤ (↑a_2.b : Int) - (↑b.mid : Int)) = a'.bal ∧
  (↑a_14.lim : Int) = (↑a'.lim : Int) ∧
  (↑b.mid : Int) = (↑a'.b : Int) ∧
  (↑a_2.a : Int) = (↑a'.a : Int) ∧
  ((0 : Nat) = (0 : Nat) ∧
  a.l.length = a.l.length ∧
  a.cap = a.cap) ∧
  (a'.m.length ≤ b_1.length ∧
  RowsEq a'.m.length (1 : Nat) (encRows encU b_1) (encRows encU a'.m)) ∧
  PdqI a a' ∧
  a'.b - a'.a < a_2.b - a_2.a)))) (by kernel_rfl) (by
  rintro x ⟨h1, h2, h3, h4, h5, h6⟩
  simp only [Nat.zero_add, Int.toNat_natCast, InR]
  refine ⟨⟨⟨x.l, x.a, x.b, x.lim, true, true⟩, ?_⟩, fun y hy => ?_⟩
  · have i0 : PdqI x ⟨x.l, x.a, x.b, x.lim, true, true⟩ := ⟨.refl _, Nat.le_refl _, h2, Nat.le_refl _, fun i j g1 g2 g3 g4 => (by dsimp only at g4; omega), h5, h6⟩
    ((repeat' apply And.intro) <;> first | with_reducible rfl | omega | (dsimp only; omega) | exact RowsEq.refl _ _ _ | assumption | rfl | trivial | exact Nat.le_refl _ | skip)
  have hb := hy.b0
  have ha := hy.a0
  have hab := hy.ab
  have hm := hy.pr.length
  have hlim := hy.lim
  refine ⟨by omega, fun c1 => ⟨⟨y.m, x.cap, y.a, y.b⟩, ?_⟩, fun c1 => ⟨fun c2 => ⟨⟨y.m, x.cap, y.a, y.b⟩, ?_⟩, fun c2 => ?_⟩⟩
  · ((repeat' apply And.intro) <;> first | with_reducible rfl | omega | (dsimp only; omega) | exact RowsEq.refl _ _ _ | assumption | rfl | trivial | exact Nat.le_refl _ | skip)
    dsimp only
    rintro m ⟨m1, m2⟩
    obtain ⟨s1, s2⟩ := hy.srt h3 m1 m2
    have hl := m1.length
    refine ⟨m, ?_⟩
    ((repeat' apply And.intro) <;> first | with_reducible rfl | omega | (dsimp only; omega) | exact RowsEq.refl _ _ _ | assumption | rfl | trivial | exact Nat.le_refl _ | skip)
  · simp only [decide_eq_false_iff_not] at c1
    ((repeat' apply And.intro) <;> first | with_reducible rfl | omega | (dsimp only; omega) | exact RowsEq.refl _ _ _ | assumption | rfl | trivial | exact Nat.le_refl _ | skip)
    dsimp only
    rintro m ⟨m1, m2⟩
    obtain ⟨s1, s2⟩ := hy.srt h3 m1 m2
    have hl := m1.length
    refine ⟨m, ?_⟩
    ((repeat' apply And.intro) <;> first | with_reducible rfl | omega | (dsimp only; omega) | exact RowsEq.refl _ _ _ | assumption | rfl | trivial | exact Nat.le_refl _ | skip)
  simp only [decide_eq_false_iff_not, beq_eq_false_iff_ne] at c1 c2
  refine ⟨⟨fun c3 => ⟨⟨y.m, x.cap, y.a, y.b⟩, ?_⟩, fun c3 => ⟨⟨y.m, y.lim, 0, 0⟩, ?_⟩⟩, fun z hz => ?_⟩
  · ((repeat' apply And.intro) <;> first | with_reducible rfl | omega | (dsimp only; omega) | exact RowsEq.refl _ _ _ | assumption | rfl | trivial | exact Nat.le_refl _ | skip)
    dsimp only
    intro m m1
    have hl := m1.length
    refine ⟨by omega, ⟨m, y.lim - 1, 0, 0⟩, ?_⟩
    ((repeat' apply And.intro) <;> first | with_reducible rfl | omega | (dsimp only; omega) | exact RowsEq.refl _ _ _ | assumption | rfl | trivial | exact Nat.le_refl _ | skip)
  · have p0 := PR.refl (a := y.a) (b := y.b) y.m
    ((repeat' apply And.intro) <;> first | with_reducible rfl | omega | (dsimp only; omega) | exact RowsEq.refl _ _ _ | assumption | rfl | trivial | exact Nat.le_refl _ | skip)
  obtain ⟨z1, z2⟩ := hz
  have zl := z1.length
  refine ⟨⟨z.m, x.cap, y.a, y.b⟩, ?_⟩
  ((repeat' apply And.intro) <;> first | with_reducible rfl | omega | (dsimp only; omega) | exact RowsEq.refl _ _ _ | assumption | rfl | trivial | exact Nat.le_refl _ | skip)
  dsimp only
  rintro v ⟨v1, v2⟩
  refine ⟨⟨fun c3 => ⟨⟨z.m, x.cap, y.a, y.b⟩, ?_⟩, fun c3 => ⟨⟨z.m, z.lim, v.j, v.h⟩, ?_⟩⟩, fun w hw => ?_⟩
  · ((repeat' apply And.intro) <;> first | with_reducible rfl | omega | (dsimp only; omega) | exact RowsEq.refl _ _ _ | assumption | rfl | trivial | exact Nat.le_refl _ | skip)
    dsimp only
    intro m m1
    have p2 := z1.trans m1
    have hl := p2.length
    refine ⟨by omega, by omega, by omega, ⟨m, z.lim, y.b - 1 - (v.j - y.a), 1⟩, ?_⟩
    ((repeat' apply And.intro) <;> first | with_reducible rfl | omega | (dsimp only; omega) | exact RowsEq.refl _ _ _ | assumption | rfl | trivial | exact Nat.le_refl _ | skip)
  · ((repeat' apply And.intro) <;> first | with_reducible rfl | omega | (dsimp only; omega) | exact RowsEq.refl _ _ _ | assumption | rfl | trivial | exact Nat.le_refl _ | skip)
  obtain ⟨w1, w2, w3, w4⟩ := hw
  have wl := w1.length
  refine ⟨⟨fun c3 => ⟨fun c4 => ⟨fun c5 => ⟨⟨w.m, x.cap, y.a, y.b⟩, ?_⟩, fun c5 => ⟨⟨w.m, w.lim, w.piv, w.hint⟩, ?_⟩⟩, fun c4 => ⟨⟨w.m, w.lim, w.piv, w.hint⟩, ?_⟩⟩, fun c3 => ⟨⟨w.m, w.lim, w.piv, w.hint⟩, ?_⟩⟩, fun q hq => ?_⟩
  · have lw := hy.low' w1
    ((repeat' apply And.intro) <;> first | with_reducible rfl | omega | (dsimp only; omega) | exact RowsEq.refl _ _ _ | assumption | rfl | trivial | exact Nat.le_refl _ | skip)
    dsimp only
    rintro b ⟨b1, b2⟩
    have p2 := w1.trans b1
    have hl := p2.length
    refine ⟨fun c6 => ⟨b.1, ?_⟩, fun c6 => ⟨⟨b.1, w.lim, w.piv, w.hint⟩, ?_⟩⟩
    · obtain ⟨s1, s2⟩ := hy.srt h3 p2 (b2 c6)
      ((repeat' apply And.intro) <;> first | with_reducible rfl | omega | (dsimp only; omega) | exact RowsEq.refl _ _ _ | assumption | rfl | trivial | exact Nat.le_refl _ | skip)
    · ((repeat' apply And.intro) <;> first | with_reducible rfl | omega | (dsimp only; omega) | exact RowsEq.refl _ _ _ | assumption | rfl | trivial | exact Nat.le_refl _ | skip)
  · ((repeat' apply And.intro) <;> first | with_reducible rfl | omega | (dsimp only; omega) | exact RowsEq.refl _ _ _ | assumption | rfl | trivial | exact Nat.le_refl _ | skip)
  · ((repeat' apply And.intro) <;> first | with_reducible rfl | omega | (dsimp only; omega) | exact RowsEq.refl _ _ _ | assumption | rfl | trivial | exact Nat.le_refl _ | skip)
  · ((repeat' apply And.intro) <;> first | with_reducible rfl | omega | (dsimp only; omega) | exact RowsEq.refl _ _ _ | assumption | rfl | trivial | exact Nat.le_refl _ | skip)
  obtain ⟨q1, q2, q3, q4⟩ := hq
  have ql := q1.length
  refine ⟨⟨fun c3 => ?_, fun c3 => ⟨⟨q.m, q.lim, q.piv, q.hint⟩, ?_⟩⟩, fun r hr => ?_⟩
  · simp only [decide_eq_true_eq] at c3
    have ea : ((y.a : Int) - 1).toNat = y.a - 1 := by omega
    rw [ea]
    ((repeat' apply And.intro) <;> first | with_reducible rfl | omega | (dsimp only; omega) | exact RowsEq.refl _ _ _ | assumption | rfl | trivial | exact Nat.le_refl _ | skip)
    intro _
    ((repeat' apply And.intro) <;> first | with_reducible rfl | omega | (dsimp only; omega) | exact RowsEq.refl _ _ _ | assumption | rfl | trivial | exact Nat.le_refl _ | skip)
    refine fun _ => ⟨(gl q.m (y.a - 1), gl q.m q.piv), ?_⟩
    ((repeat' apply And.intro) <;> first | with_reducible rfl | omega | (dsimp only; omega) | exact RowsEq.refl _ _ _ | assumption | rfl | trivial | exact Nat.le_refl _ | skip)
    dsimp only
    refine fun _ _ => ⟨fun c4 => ⟨⟨q.m, x.cap, y.a, y.b, q.piv⟩, ?_⟩, fun c4 => ⟨⟨q.m, q.lim, q.piv, q.hint⟩, ?_⟩⟩
    · ((repeat' apply And.intro) <;> first | with_reducible rfl | omega | (dsimp only; omega) | exact RowsEq.refl _ _ _ | assumption | rfl | trivial | exact Nat.le_refl _ | skip)
      dsimp only
      rintro b ⟨b1, b2, b3, b4, b5⟩
      have c4 : ¬ gl q.m (y.a - 1) < gl q.m q.piv := by simpa using c4
      have eo : gl q.m (y.a - 1) = gl y.m (y.a - 1) := q1.out (.inl (by omega))
      have p2 := q1.trans b1
      have hl := p2.length
      have nx : PdqI x ⟨b.1, b.2, y.b, q.lim, y.bal, y.par⟩ := hy.eq h3 p2 (by omega) (v := gl q.m q.piv) (by omega) b2 b3 b4 b5 q2
      refine ⟨⟨b.1, b.2, y.b, q.lim, y.bal, y.par⟩, ?_⟩
      ((repeat' apply And.intro) <;> first | with_reducible rfl | omega | (dsimp only; omega) | exact RowsEq.refl _ _ _ | assumption | rfl | trivial | exact Nat.le_refl _ | skip)
    · ((repeat' apply And.intro) <;> first | with_reducible rfl | omega | (dsimp only; omega) | exact RowsEq.refl _ _ _ | assumption | rfl | trivial | exact Nat.le_refl _ | skip)
  · ((repeat' apply And.intro) <;> first | with_reducible rfl | omega | (dsimp only; omega) | exact RowsEq.refl _ _ _ | assumption | rfl | trivial | exact Nat.le_refl _ | skip)
  obtain ⟨r1, r2, r3, r4⟩ := hr
  have rl := r1.length
  refine ⟨⟨r.m, x.cap, y.a, y.b, r.piv⟩, ?_⟩
  ((repeat' apply And.intro) <;> first | with_reducible rfl | omega | (dsimp only; omega) | exact RowsEq.refl _ _ _ | assumption | rfl | trivial | exact Nat.le_refl _ | skip)
  dsimp only
  rintro b ⟨b1, b2, b3, b4, b5⟩
  have p2 := r1.trans b1
  have pl := p2.length
  have t8 : ((y.b : Int) - (y.a : Int)).tdiv 8 = (((y.b - y.a) / 8 : Nat) : Int) := by
    rw [show (y.b : Int) - (y.a : Int) = ((y.b - y.a : Nat) : Int) by omega]; rfl
  rw [t8]
  have lw := hy.low' p2
  refine ⟨by omega, by omega, by decide, by omega, fun c3 => ⟨⟨b.m, x.cap, y.a, b.mid, r.lim⟩, ?_⟩, fun c3 => ⟨by omega, ⟨b.m, x.cap, b.mid + 1, y.b, r.lim⟩, ?_⟩⟩
  · have lw2 : 0 < y.a → ∀ k, y.a ≤ k → k < b.mid → gl b.m (y.a - 1) ≤ gl b.m k := fun g k g1 g2 => lw g k g1 (by omega)
    ((repeat' apply And.intro) <;> first | with_reducible rfl | omega | (dsimp only; omega) | exact RowsEq.refl _ _ _ | assumption | rfl | trivial | exact Nat.le_refl _ | skip)
    dsimp only
    rintro m2 ⟨n1, n2⟩
    have nl := n1.length
    refine ⟨by omega, ⟨m2, b.mid + 1, y.b, r.lim, decide ((((y.b - y.a) / 8 : Nat) : Int) ≤ (b.mid : Int) - (y.a : Int)), b.done⟩, ?_⟩
    have nx : PdqI x ⟨m2, b.mid + 1, y.b, r.lim, decide ((((y.b - y.a) / 8 : Nat) : Int) ≤ (b.mid : Int) - (y.a : Int)), b.done⟩ := hy.left h3 p2 b2 b3 b4 b5 n1 n2 r2
    ((repeat' apply And.intro) <;> first | with_reducible rfl | omega | (dsimp only; omega) | exact RowsEq.refl _ _ _ | assumption | rfl | trivial | exact Nat.le_refl _ | skip)
  · have lw2 : 0 < b.mid + 1 → ∀ k, b.mid + 1 ≤ k → k < y.b → gl b.m (b.mid + 1 - 1) ≤ gl b.m k := fun _ k g1 g2 => b5 k (by omega) g2
    ((repeat' apply And.intro) <;> first | with_reducible rfl | omega | (dsimp only; omega) | exact RowsEq.refl _ _ _ | assumption | rfl | trivial | exact Nat.le_refl _ | skip)
    dsimp only
    rintro m2 ⟨n1, n2⟩
    have nl := n1.length
    refine ⟨⟨m2, y.a, b.mid, r.lim, decide ((((y.b - y.a) / 8 : Nat) : Int) ≤ (y.b : Int) - (b.mid : Int)), b.done⟩, ?_⟩
    have nx : PdqI x ⟨m2, y.a, b.mid, r.lim, decide ((((y.b - y.a) / 8 : Nat) : Int) ≤ (y.b : Int) - (b.mid : Int)), b.done⟩ := hy.right h3 p2 b2 b3 b4 b5 n1 n2 r2
    ((repeat' apply And.intro) <;> first | with_reducible rfl | omega | (dsimp only; omega) | exact RowsEq.refl _ _ _ | assumption | rfl | trivial | exact Nat.le_refl _ | skip))
theorem callPdq : ∀ n, CallsBy (Y Try.prog).G.X 31 (cPdq n)
  | 0 => fn_ok okY (tab := []) (l := fun _ => []) trivial ⟨fun a h => absurd h.1 (Nat.not_lt_zero _)⟩
  | n + 1 => fn_ok okY (tab := tabPdq n) ⟨callPdq n, callIns, callHeap, callBrk, callPivot, callRev, callPin, callPartEq, callPart, callULess, trivial⟩ (bodyPdq n)

/-! ### slices.Sort -/

def sortU (l : List Int) : List Int := l.mergeSort fun x y => decide (x ≤ y)
theorem sortU_perm (l : List Int) : (sortU l).Perm l := List.mergeSort_perm _ _
theorem sortU_length (l : List Int) : (sortU l).length = l.length := List.length_mergeSort _
theorem sortU_sorted (l : List Int) : (sortU l).Pairwise (· ≤ ·) := by
  have := List.pairwise_mergeSort (le := fun x y : Int => decide (x ≤ y)) (fun a b c h1 h2 => ?_) (fun a b => ?_) l
  · exact this.imp fun h => of_decide_eq_true h
  · simp only [decide_eq_true_eq] at *; omega
  · simp only [Bool.or_eq_true, decide_eq_true_eq]; omega
theorem sortU_srt (l : List Int) : Srt (sortU l) 0 (sortU l).length := fun i j _ h1 h2 => by
  have := List.pairwise_iff_getElem.1 (sortU_sorted l) i j (by omega) h2 h1
  rwa [gl_eq h2, gl_eq (show i < (sortU l).length by omega)]
theorem sortU_eq {l m : List Int} (h1 : PR 0 l.length l m) (h2 : Srt m 0 l.length) : m = sortU l := by
  have hl := h1.length
  exact Srt.perm_eq (by rw [hl]; exact h2) (sortU_srt l) (h1.perm.trans (sortU_perm l).symm)
structure ListA where
  l : List Int
  cap : Nat
noncomputable def cSortU : Con where
  α := ListA
  β := Unit
  m := 1
  m' := 1
  pre := fun x => 1 ≤ x.l.length ∧ x.l.length < 256
  args := fun x => [.a (.slc 0 0 1 x.l.length x.cap)]
  hp := fun x => [(0, arrU x.l)]
  ro := fun _ => []
  post := fun _ _ => True
  res := fun _ _ => .tup []
  hp' := fun x _ => [(0, .arr 30 [.int .u64] x.l.length (encRows encU (sortU x.l)))]
set_option maxHeartbeats 4000000 in
theorem bodySortU : fnBody (Y Try.prog) [(31, cPdq 256), (32, cLen)] 22 cSortU fun _ => [] := fnBody.of (p :=
  ∀ (a : ListA), (1 : Nat) ≤ a.l.length ∧
  a.l.length < (256 : Nat) →
  ∃ (a_2 : Nat), uw IntKind.u64 (↑a.l.length : Int) = (↑a_2 : Int) ∧
  ((1 : Nat) ≤ a_2 ∧
  a_2 < (256 : Nat)) ∧
  ∀ (b : Nat), (1 : Nat) ≤ b ∧
  b ≤ (8 : Nat) ∧
  a_2 < (2 : Nat) ^ b ∧
  (2 : Nat) ^ b ≤ (2 : Nat) * a_2 →
  ∃ (a_4 : PdqA), ((0 : Nat) = (0 : Nat) ∧
  a.l.length = a_4.l.length ∧
  a.cap = a_4.cap) ∧
  (0 : Int) = (↑a_4.a : Int) ∧
  (↑a.l.length : Int) = (↑a_4.b : Int) ∧
  (↑b : Int) = (↑a_4.lim : Int) ∧
  (a_4.l.length ≤ a.l.length ∧
  RowsEq a_4.l.length (1 : Nat) (encRows encU a.l) (encRows encU a_4.l)) ∧
  (a_4.b - a_4.a < (256 : Nat) ∧
  a_4.a ≤ a_4.b ∧
  a_4.b ≤ a_4.l.length ∧
  a_4.l.length < (256 : Nat) ∧
  a_4.lim ≤ (64 : Nat) ∧
  ((0 : Nat) < a_4.a →
  ∀ (k : Nat), a_4.a ≤ k →
  k < a_4.b →
  gl a_4.l (a_4.a - (1 : Nat)) ≤ gl a_4.l k)) ∧
  ∀ (b : List Int), PR a_4.a a_4.b a_4.l b ∧
  Srt b a_4.a a_4.b →
  ∃ (b_1 : Unit), (a.l.length ≤ b.length ∧
  RowsEq a.l.length (1 : Nat) (encRows encU b) (encRows encU (sortU a.l))) ∧
  True ∧
  True) (by kernel_rfl) (by
  rintro ⟨l, cap⟩ ⟨h1, h2⟩
  dsimp only at h1 h2 ⊢
  have t1 : uw .u64 (l.length : Int) = (l.length : Int) := by simp only [uw]; omega
  rw [t1]
  refine ⟨l.length, rfl, ⟨h1, h2⟩, fun r hr => ?_⟩
  obtain ⟨r1, r2, r3, r4⟩ := hr
  refine ⟨⟨l, cap, 0, l.length, r⟩, ?_⟩
  ((repeat' apply And.intro) <;> first | with_reducible rfl | omega | (dsimp only; omega) | exact RowsEq.refl _ _ _ | assumption | rfl | trivial | exact Nat.le_refl _ | skip)
  dsimp only
  rintro m ⟨m1, m2⟩
  have e := sortU_eq m1 m2
  have hl := m1.length
  subst e
  refine ⟨(), ?_⟩
  ((repeat' apply And.intro) <;> first | with_reducible rfl | omega | (dsimp only; omega) | exact RowsEq.refl _ _ _ | assumption | rfl | trivial | exact Nat.le_refl _ | skip))
theorem callSortU : CallsBy (Y Try.prog).G.X 22 cSortU := fn_ok okY (tab := [(31, cPdq 256), (32, cLen)]) ⟨callPdq 256, callLen, trivial⟩ bodySortU
end Go.Proofs.Ythofnohpdbbidaa
