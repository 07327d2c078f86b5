/-
  The library's sort at numbers, further functions: heaps, pivots, patterns broken. No condition but that lists are short.
-/
import Derived.Test.YthofnohpdbbidaaSortU
namespace Go.Proofs.Ythofnohpdbbidaa
open Go.Sx
set_option maxRecDepth 100000
set_option linter.unusedVariables false

/-! ### heaps -/

def HpF (f : Nat → Int) (lo hi : Nat) : Prop := ∀ k c, lo ≤ k → (c = 2 * k + 1 ∨ c = 2 * k + 2) → c < hi → f c ≤ f k
structure HpX (f : Nat → Int) (lo hi root : Nat) : Prop where
  ne : ∀ k c, lo ≤ k → k ≠ root → (c = 2 * k + 1 ∨ c = 2 * k + 2) → c < hi → f c ≤ f k
  up : ∀ k c, lo ≤ k → (root = 2 * k + 1 ∨ root = 2 * k + 2) → (c = 2 * root + 1 ∨ c = 2 * root + 2) → c < hi → f c ≤ f k
theorem HpX.step {f g : Nat → Int} {lo hi root ch : Nat} (h : HpX f lo hi root) (h0 : lo ≤ root) (h1 : ch = 2 * root + 1 ∨ ch = 2 * root + 2) (h2 : ch < hi) (h3 : ∀ c, (c = 2 * root + 1 ∨ c = 2 * root + 2) → c < hi → f c ≤ f ch) (h4 : f root < f ch)
    (hg : ∀ k, g k = if k = ch then f root else if k = root then f ch else f k) : HpX g lo hi ch := by
  refine ⟨fun k c g1 g2 g3 g4 => ?_, fun k c g1 g2 g3 g4 => ?_⟩
  · rw [hg c, hg k, if_neg g2]
    by_cases e : k = root
    · subst e
      rw [if_pos rfl]
      by_cases e2 : c = ch
      · rw [if_pos e2]; omega
      · rw [if_neg e2, if_neg (by omega)]; exact h3 c g3 g4
    · rw [if_neg e, if_neg (by omega)]
      by_cases e2 : c = root
      · rw [if_pos e2]
        subst e2
        exact h.up k ch g1 g3 h1 h2
      · rw [if_neg e2]
        exact h.ne k c g1 e g3 g4
  · have ek : k = root := by omega
    subst ek
    rw [hg c, hg k, if_neg (by omega), if_neg (by omega), if_neg (by omega), if_pos rfl]
    exact h.ne ch c (by omega) (by omega) g3 g4
theorem HpX.fin {f : Nat → Int} {lo hi root : Nat} (h : HpX f lo hi root) (h0 : lo ≤ root) (h1 : ∀ c, (c = 2 * root + 1 ∨ c = 2 * root + 2) → c < hi → f c ≤ f root) : HpF f lo hi := fun k c g1 g2 g3 => by
  by_cases e : k = root
  · subst e; exact h1 c g2 g3
  · exact h.ne k c g1 e g2 g3
theorem HpF.top {f : Nat → Int} {hi : Nat} (h : HpF f 0 hi) : ∀ j, j < hi → f j ≤ f 0
  | 0, _ => Int.le_refl _
  | j + 1, hj => by
    have h1 := h.top (j / 2) (by omega)
    have h2 := h (j / 2) (j + 1) (by omega) (by omega) hj
    omega
def at_ (m : List Int) (first : Nat) : Nat → Int := fun k => gl m (first + k)
theorem at_swp {m : List Int} {first i j : Nat} (hi : first + i < m.length) (hj : first + j < m.length) (k : Nat) : at_ (swpL m (first + i) (first + j)) first k = if k = j then at_ m first i else if k = i then at_ m first j else at_ m first k := by
  unfold at_
  rw [gl_swp hi hj]
  by_cases e : k = j
  · rw [if_pos (by omega), if_pos e]
  · rw [if_neg (by omega), if_neg e]
    by_cases e2 : k = i
    · rw [if_pos (by omega), if_pos e2]
    · rw [if_neg (by omega), if_neg e2]

structure SiftA where
  l : List Int
  cap : Nat
  lo : Nat
  hi : Nat
  first : Nat
noncomputable def cSift : Con where
  α := SiftA
  β := List Int
  m := 1
  m' := 1
  pre := fun x => x.lo ≤ x.hi ∧ x.first + x.hi ≤ x.l.length ∧ x.l.length < 100000 ∧ HpF (at_ x.l x.first) (x.lo + 1) x.hi
  args := fun x => [.a (.slc 0 0 1 x.l.length x.cap), .a (.int .i64 x.lo), .a (.int .i64 x.hi), .a (.int .i64 x.first)]
  hp := fun x => [(0, arrU x.l)]
  ro := fun _ => []
  post := fun x m => PR x.first (x.first + x.hi) x.l m ∧ HpF (at_ m x.first) x.lo x.hi
  res := fun _ _ => .tup []
  hp' := fun _ m => [(0, arrU m)]
def cSd (x : SiftA) (y : RngS) : An := .flat 5 Nat (fun s c => s.int 9 c) (fun _ c => (c = 2 * y.i + 1 ∨ c = 2 * y.i + 2) ∧ c < x.hi ∧ ∀ c', (c' = 2 * y.i + 1 ∨ c' = 2 * y.i + 2) → c' < x.hi → at_ y.m x.first c' ≤ at_ y.m x.first c) (fun _ _ => 0)
def iSd (x : SiftA) : An := .mk 1 RngS (fun s y => (S.dat s y.m).int 8 y.i) (fun _ y => PR x.first (x.first + x.hi) x.l y.m ∧ x.lo ≤ y.i ∧ y.i ≤ x.hi ∧ HpX (at_ y.m x.first) x.lo x.hi y.i) (fun _ y => x.hi - y.i) fun y => .mk 60 [] [cSd x y]
set_option maxHeartbeats 4000000 in
theorem bodySift : fnBody (Y Try.prog) tabU 50 cSift fun x => [(50, [iSd x], [])] := fnBody.of (p :=
  ∀ (a : SiftA), a.lo ≤ a.hi ∧
  a.first + a.hi ≤ a.l.length ∧
  a.l.length < (100000 : Nat) ∧
  HpF (at_ a.l a.first) (a.lo + (1 : Nat)) a.hi →
  (∃ (a_2 : RngS), (↑a.lo : Int) = (↑a_2.i : Int) ∧
  ((0 : Nat) = (0 : Nat) ∧
  a.l.length = a.l.length ∧
  a.cap = a.cap) ∧
  (↑a.lo : Int) = (↑a.lo : Int) ∧
  (↑a.hi : Int) = (↑a.hi : Int) ∧
  (↑a.first : Int) = (↑a.first : Int) ∧
  (a_2.m.length ≤ a.l.length ∧
  RowsEq a_2.m.length (1 : Nat) (encRows encU a.l) (encRows encU a_2.m)) ∧
  (PR a.first (a.first + a.hi) a.l a_2.m ∧
  a.lo ≤ a_2.i ∧
  a_2.i ≤ a.hi ∧
  HpX (at_ a_2.m a.first) a.lo a.hi a_2.i) ∧
  True) ∧
  ∀ (a_2 : RngS), PR a.first (a.first + a.hi) a.l a_2.m ∧
  a.lo ≤ a_2.i ∧
  a_2.i ≤ a.hi ∧
  HpX (at_ a_2.m a.first) a.lo a.hi a_2.i →
  InR IntKind.i64 ((2 : Int) * (↑a_2.i : Int)) ∧
  InR IntKind.i64 ((2 : Int) * (↑a_2.i : Int) + (1 : Int)) ∧
  (Decidable.decide ((↑a.hi : Int) ≤ (2 : Int) * (↑a_2.i : Int) + (1 : Int)) = Bool.true →
  ∃ (b : List Int), (b.length ≤ a_2.m.length ∧
  RowsEq b.length (1 : Nat) (encRows encU a_2.m) (encRows encU b)) ∧
  (PR a.first (a.first + a.hi) a.l b ∧
  HpF (at_ b a.first) a.lo a.hi) ∧
  True) ∧
  (Decidable.decide ((↑a.hi : Int) ≤ (2 : Int) * (↑a_2.i : Int) + (1 : Int)) = Bool.false →
  (InR IntKind.i64 ((2 : Int) * (↑a_2.i : Int) + (1 : Int) + (1 : Int)) ∧
  (Decidable.decide ((2 : Int) * (↑a_2.i : Int) + (1 : Int) + (1 : Int) < (↑a.hi : Int)) = Bool.true →
  InR IntKind.i64 ((↑a.first : Int) + ((2 : Int) * (↑a_2.i : Int) + (1 : Int))) ∧
  ((0 : Int) ≤ (↑a.first : Int) + ((2 : Int) * (↑a_2.i : Int) + (1 : Int)) ∧
  (↑a.first : Int) + ((2 : Int) * (↑a_2.i : Int) + (1 : Int)) < (↑a.l.length : Int)) ∧
  (0 : Nat) + ((↑a.first : Int) + ((2 : Int) * (↑a_2.i : Int) + (1 : Int))).toNat < a_2.m.length ∧
  (InR IntKind.u64 (gl a_2.m ((0 : Nat) + ((↑a.first : Int) + ((2 : Int) * (↑a_2.i : Int) + (1 : Int))).toNat)) →
  InR IntKind.i64 ((↑a.first : Int) + ((2 : Int) * (↑a_2.i : Int) + (1 : Int))) ∧
  InR IntKind.i64 ((↑a.first : Int) + ((2 : Int) * (↑a_2.i : Int) + (1 : Int)) + (1 : Int)) ∧
  ((0 : Int) ≤ (↑a.first : Int) + ((2 : Int) * (↑a_2.i : Int) + (1 : Int)) + (1 : Int) ∧
  (↑a.first : Int) + ((2 : Int) * (↑a_2.i : Int) + (1 : Int)) + (1 : Int) < (↑a.l.length : Int)) ∧
  (0 : Nat) + ((↑a.first : Int) + ((2 : Int) * (↑a_2.i : Int) + (1 : Int)) + (1 : Int)).toNat < a_2.m.length ∧
  (InR IntKind.u64 (gl a_2.m ((0 : Nat) + ((↑a.first : Int) + ((2 : Int) * (↑a_2.i : Int) + (1 : Int)) + (1 : Int)).toNat)) →
  ∃ (a_8 : Int × Int), gl a_2.m ((0 : Nat) + ((↑a.first : Int) + ((2 : Int) * (↑a_2.i : Int) + (1 : Int))).toNat) = a_8.fst ∧
  gl a_2.m ((0 : Nat) + ((↑a.first : Int) + ((2 : Int) * (↑a_2.i : Int) + (1 : Int)) + (1 : Int)).toNat) = a_8.snd ∧
  True ∧
  ∀ (b : Unit), True →
  (Decidable.decide (a_8.fst < a_8.snd) = Bool.true →
  InR IntKind.i64 ((2 : Int) * (↑a_2.i : Int) + (1 : Int) + (1 : Int)) ∧
  ∃ (a_11 : Nat), (2 : Int) * (↑a_2.i : Int) + (1 : Int) + (1 : Int) = (↑a_11 : Int) ∧
  Decidable.decide ((↑a.hi : Int) ≤ (2 : Int) * (↑a_2.i : Int) + (1 : Int)) = Decidable.decide ((↑a.hi : Int) ≤ (2 : Int) * (↑a_2.i : Int) + (1 : Int)) ∧
  (↑a_2.i : Int) = (↑a_2.i : Int) ∧
  ((0 : Nat) = (0 : Nat) ∧
  a.l.length = a.l.length ∧
  a.cap = a.cap) ∧
  (↑a.lo : Int) = (↑a.lo : Int) ∧
  (↑a.hi : Int) = (↑a.hi : Int) ∧
  (↑a.first : Int) = (↑a.first : Int) ∧
  (a_2.m.length ≤ a_2.m.length ∧
  RowsEq a_2.m.length (1 : Nat) (encRows encU a_2.m) (encRows encU a_2.m)) ∧
  ((a_11 = (2 : Nat) * a_2.i + (1 : Nat) ∨ a_11 = (2 : Nat) * a_2.i + (2 : Nat)) ∧
  a_11 < a.hi ∧
  ∀ (c' : Nat), c' = (2 : Nat) * a_2.i + (1 : Nat) ∨ c' = (2 : Nat) * a_2.i + (2 : Nat) →
  c' < a.hi →
  at_ a_2.m a.first c' ≤ at_ a_2.m a.first a_11) ∧
  True) ∧
  (Decidable.decide (a_8.fst < a_8.snd) = Bool.false →
  ∃ (a_11 : Nat), (2 : Int) * (↑a_2.i : Int) + (1 : Int) = (↑a_11 : Int) ∧
  Decidable.decide ((↑a.hi : Int) ≤ (2 : Int) * (↑a_2.i : Int) + (1 : Int)) = Decidable.decide ((↑a.hi : Int) ≤ (2 : Int) * (↑a_2.i : Int) + (1 : Int)) ∧
  (↑a_2.i : Int) = (↑a_2.i : Int) ∧
  ((0 : Nat) = (0 : Nat) ∧
  a.l.length = a.l.length ∧
  a.cap = a.cap) ∧
  (↑a.lo : Int) = (↑a.lo : Int) ∧
  (↑a.hi : Int) = (↑a.hi : Int) ∧
  (↑a.first : Int) = (↑a.first : Int) ∧
  (a_2.m.length ≤ a_2.m.length ∧
  RowsEq a_2.m.length (1 : Nat) (encRows encU a_2.m) (encRows encU a_2.m)) ∧
  ((a_11 = (2 : Nat) * a_2.i + (1 : Nat) ∨ a_11 = (2 : Nat) * a_2.i + (2 : Nat)) ∧
  a_11 < a.hi ∧
  ∀ (c' : Nat), c' = (2 : Nat) * a_2.i + (1 : Nat) ∨ c' = (2 : Nat) * a_2.i + (2 : Nat) →
  c' < a.hi →
  at_ a_2.m a.first c' ≤ at_ a_2.m a.first a_11) ∧
  True)))) ∧
  (Decidable.decide ((2 : Int) * (↑a_2.i : Int) + (1 : Int) + (1 : Int) < (↑a.hi : Int)) = Bool.false →
  ∃ (a_6 : Nat), (2 : Int) * (↑a_2.i : Int) + (1 : Int) = (↑a_6 : Int) ∧
  Decidable.decide ((↑a.hi : Int) ≤ (2 : Int) * (↑a_2.i : Int) + (1 : Int)) = Decidable.decide ((↑a.hi : Int) ≤ (2 : Int) * (↑a_2.i : Int) + (1 : Int)) ∧
  (↑a_2.i : Int) = (↑a_2.i : Int) ∧
  ((0 : Nat) = (0 : Nat) ∧
  a.l.length = a.l.length ∧
  a.cap = a.cap) ∧
  (↑a.lo : Int) = (↑a.lo : Int) ∧
  (↑a.hi : Int) = (↑a.hi : Int) ∧
  (↑a.first : Int) = (↑a.first : Int) ∧
  (a_2.m.length ≤ a_2.m.length ∧
  RowsEq a_2.m.length (1 : Nat) (encRows encU a_2.m) (encRows encU a_2.m)) ∧
  ((a_6 = (2 : Nat) * a_2.i + (1 : Nat) ∨ a_6 = (2 : Nat) * a_2.i + (2 : Nat)) ∧
  a_6 < a.hi ∧
  ∀ (c' : Nat), c' = (2 : Nat) * a_2.i + (1 : Nat) ∨ c' = (2 : Nat) * a_2.i + (2 : Nat) →
  c' < a.hi →
  at_ a_2.m a.first c' ≤ at_ a_2.m a.first a_6) ∧
  True)) ∧
  ∀ (a_5 : Nat), ((a_5 = (2 : Nat) * a_2.i + (1 : Nat) ∨ a_5 = (2 : Nat) * a_2.i + (2 : Nat)) ∧
  a_5 < a.hi ∧
  ∀ (c' : Nat), c' = (2 : Nat) * a_2.i + (1 : Nat) ∨ c' = (2 : Nat) * a_2.i + (2 : Nat) →
  c' < a.hi →
  at_ a_2.m a.first c' ≤ at_ a_2.m a.first a_5) →
  InR IntKind.i64 ((↑a.first : Int) + (↑a_2.i : Int)) ∧
  ((0 : Int) ≤ (↑a.first : Int) + (↑a_2.i : Int) ∧
  (↑a.first : Int) + (↑a_2.i : Int) < (↑a.l.length : Int)) ∧
  (0 : Nat) + ((↑a.first : Int) + (↑a_2.i : Int)).toNat < a_2.m.length ∧
  (InR IntKind.u64 (gl a_2.m ((0 : Nat) + ((↑a.first : Int) + (↑a_2.i : Int)).toNat)) →
  InR IntKind.i64 ((↑a.first : Int) + (↑a_5 : Int)) ∧
  ((0 : Int) ≤ (↑a.first : Int) + (↑a_5 : Int) ∧
  (↑a.first : Int) + (↑a_5 : Int) < (↑a.l.length : Int)) ∧
  (0 : Nat) + ((↑a.first : Int) + (↑a_5 : Int)).toNat < a_2.m.length ∧
  (InR IntKind.u64 (gl a_2.m ((0 : Nat) + ((↑a.first : Int) + (↑a_5 : Int)).toNat)) →
  ∃ (a_9 : Int × Int), gl a_2.m ((0 : Nat) + ((↑a.first : Int) + (↑a_2.i : Int)).toNat) = a_9.fst ∧
  gl a_2.m ((0 : Nat) + ((↑a.first : Int) + (↑a_5 : Int)).toNat) = a_9.snd ∧
  True ∧
  ∀ (b : Unit), True →
  ((!Decidable.decide (a_9.fst < a_9.snd)) = Bool.true →
  ∃ (b : List Int), (b.length ≤ a_2.m.length ∧
  RowsEq b.length (1 : Nat) (encRows encU a_2.m) (encRows encU b)) ∧
  (PR a.first (a.first + a.hi) a.l b ∧
  HpF (at_ b a.first) a.lo a.hi) ∧
  True) ∧
  ((!Decidable.decide (a_9.fst < a_9.snd)) = Bool.false →
  InR IntKind.i64 ((↑a.first : Int) + (↑a_2.i : Int)) ∧
  InR IntKind.i64 ((↑a.first : Int) + (↑a_5 : Int)) ∧
  InR IntKind.i64 ((↑a.first : Int) + (↑a_5 : Int)) ∧
  ((0 : Int) ≤ (↑a.first : Int) + (↑a_5 : Int) ∧
  (↑a.first : Int) + (↑a_5 : Int) < (↑a.l.length : Int)) ∧
  (0 : Nat) + ((↑a.first : Int) + (↑a_5 : Int)).toNat < a_2.m.length ∧
  (InR IntKind.u64 (gl a_2.m ((0 : Nat) + ((↑a.first : Int) + (↑a_5 : Int)).toNat)) →
  InR IntKind.i64 ((↑a.first : Int) + (↑a_2.i : Int)) ∧
  ((0 : Int) ≤ (↑a.first : Int) + (↑a_2.i : Int) ∧
  (↑a.first : Int) + (↑a_2.i : Int) < (↑a.l.length : Int)) ∧
  (0 : Nat) + ((↑a.first : Int) + (↑a_2.i : Int)).toNat < a_2.m.length ∧
  (InR IntKind.u64 (gl a_2.m ((0 : Nat) + ((↑a.first : Int) + (↑a_2.i : Int)).toNat)) →
  ((0 : Int) ≤ (↑a.first : Int) + (↑a_2.i : Int) ∧
  (↑a.first : Int) + (↑a_2.i : Int) < (↑a.l.length : Int)) ∧
  (0 : Nat) + ((↑a.first : Int) + (↑a_2.i : Int)).toNat < a_2.m.length ∧
  ((0 : Int) ≤ (↑a.first : Int) + (↑a_5 : Int) ∧
  (↑a.first : Int) + (↑a_5 : Int) < (↑a.l.length : Int)) ∧
  (0 : Nat) + ((↑a.first : Int) + (↑a_5 : Int)).toNat < a_2.m.length ∧
  ∃ (a' : RngS), (↑a_5 : Int) = (↑a'.i : Int) ∧
  ((0 : Nat) = (0 : Nat) ∧
  a.l.length = a.l.length ∧
  a.cap = a.cap) ∧
  (↑a.lo : Int) = (↑a.lo : Int) ∧
  (↑a.hi : Int) = (↑a.hi : Int) ∧
  (↑a.first : Int) = (↑a.first : Int) ∧
  (a'.m.length ≤ a_2.m.length ∧
  RowsEq a'.m.length (1 : Nat) (updR (updR (encRows encU a_2.m) ((0 : Nat) + ((↑a.first : Int) + (↑a_2.i : Int)).toNat) (0 : Nat) [Value.int IntKind.u64 (gl a_2.m ((0 : Nat) + ((↑a.first : Int) + (↑a_5 : Int)).toNat))]) ((0 : Nat) + ((↑a.first : Int) + (↑a_5 : Int)).toNat) (0 : Nat) [Value.int IntKind.u64 (gl a_2.m ((0 : Nat) + ((↑a.first : Int) + (↑a_2.i : Int)).toNat))]) (encRows encU a'.m)) ∧
  (PR a.first (a.first + a.hi) a.l a'.m ∧
  a.lo ≤ a'.i ∧
  a'.i ≤ a.hi ∧
  HpX (at_ a'.m a.first) a.lo a.hi a'.i) ∧
  a.hi - a'.i < a.hi - a_2.i))))))) (by kernel_rfl) (by
  rintro x ⟨h1, h2, h3, h4⟩
  simp only [Nat.zero_add, InR]
  refine ⟨⟨⟨x.l, x.lo, 0⟩, ?_⟩, fun y hy => ?_⟩
  · have p0 := PR.refl (a := x.first) (b := x.first + x.hi) x.l
    have x0 : HpX (at_ x.l x.first) x.lo x.hi x.lo := ⟨fun k c g1 g2 g3 g4 => h4 k c (by omega) g3 g4, fun k c g1 g2 g3 g4 => by omega⟩
    ((repeat' apply And.intro) <;> first | with_reducible rfl | omega | (dsimp only; omega) | exact RowsEq.refl _ _ _ | assumption | rfl | trivial | exact Nat.le_refl _ | skip)
  obtain ⟨y1, y2, y3, y4⟩ := hy
  have hm := y1.length
  have e1 : ((x.first : Int) + (2 * (y.i : Int) + 1)).toNat = x.first + (2 * y.i + 1) := by omega
  have e2 : ((x.first : Int) + (2 * (y.i : Int) + 1) + 1).toNat = x.first + (2 * y.i + 2) := by omega
  have e3 : ((x.first : Int) + (y.i : Int)).toNat = x.first + y.i := by omega
  rw [e1, e2, e3]
  refine ⟨by omega, by omega, fun c1 => ⟨y.m, ?_⟩, fun c1 => ?_⟩
  · simp only [decide_eq_true_eq] at c1
    have hf := y4.fin y2 (fun c g1 g2 => by omega)
    ((repeat' apply And.intro) <;> first | with_reducible rfl | omega | (dsimp only; omega) | exact RowsEq.refl _ _ _ | assumption | rfl | trivial | exact Nat.le_refl _ | skip)
  simp only [decide_eq_false_iff_not] at c1
  ((repeat' apply And.intro) <;> first | with_reducible rfl | omega | (dsimp only; omega) | exact RowsEq.refl _ _ _ | assumption | rfl | trivial | exact Nat.le_refl _ | skip)
  · intro c2
    simp only [decide_eq_true_eq] at c2
    ((repeat' apply And.intro) <;> first | with_reducible rfl | omega | (dsimp only; omega) | exact RowsEq.refl _ _ _ | assumption | rfl | trivial | exact Nat.le_refl _ | skip)
    intro _
    ((repeat' apply And.intro) <;> first | with_reducible rfl | omega | (dsimp only; omega) | exact RowsEq.refl _ _ _ | assumption | rfl | trivial | exact Nat.le_refl _ | skip)
    refine fun _ => ⟨(gl y.m (x.first + (2 * y.i + 1)), gl y.m (x.first + (2 * y.i + 2))), ?_⟩
    ((repeat' apply And.intro) <;> first | with_reducible rfl | omega | (dsimp only; omega) | exact RowsEq.refl _ _ _ | assumption | rfl | trivial | exact Nat.le_refl _ | skip)
    dsimp only
    refine fun _ _ => ⟨fun c3 => ⟨by omega, 2 * y.i + 2, ?_⟩, fun c3 => ⟨2 * y.i + 1, ?_⟩⟩
    · simp only [decide_eq_true_eq] at c3
      have s0 : ∀ c', (c' = 2 * y.i + 1 ∨ c' = 2 * y.i + 2) → c' < x.hi → at_ y.m x.first c' ≤ at_ y.m x.first (2 * y.i + 2) := fun c' g1 g2 => by
        unfold at_
        rcases g1 with rfl | rfl <;> omega
      have o1 : 2 * y.i + 2 = 2 * y.i + 1 ∨ 2 * y.i + 2 = 2 * y.i + 2 := .inr rfl
      ((repeat' apply And.intro) <;> first | with_reducible rfl | omega | (dsimp only; omega) | exact RowsEq.refl _ _ _ | assumption | rfl | trivial | exact Nat.le_refl _ | skip)
    · simp only [decide_eq_false_iff_not] at c3
      have s0 : ∀ c', (c' = 2 * y.i + 1 ∨ c' = 2 * y.i + 2) → c' < x.hi → at_ y.m x.first c' ≤ at_ y.m x.first (2 * y.i + 1) := fun c' g1 g2 => by
        unfold at_
        rcases g1 with rfl | rfl <;> omega
      have o1 : 2 * y.i + 1 = 2 * y.i + 1 ∨ 2 * y.i + 1 = 2 * y.i + 2 := .inl rfl
      ((repeat' apply And.intro) <;> first | with_reducible rfl | omega | (dsimp only; omega) | exact RowsEq.refl _ _ _ | assumption | rfl | trivial | exact Nat.le_refl _ | skip)
  · intro c2
    simp only [decide_eq_false_iff_not] at c2
    refine ⟨2 * y.i + 1, ?_⟩
    have s0 : ∀ c', (c' = 2 * y.i + 1 ∨ c' = 2 * y.i + 2) → c' < x.hi → at_ y.m x.first c' ≤ at_ y.m x.first (2 * y.i + 1) := fun c' g1 g2 => by
      have : c' = 2 * y.i + 1 := by omega
      subst this; exact Int.le_refl _
    have o1 : 2 * y.i + 1 = 2 * y.i + 1 ∨ 2 * y.i + 1 = 2 * y.i + 2 := .inl rfl
    ((repeat' apply And.intro) <;> first | with_reducible rfl | omega | (dsimp only; omega) | exact RowsEq.refl _ _ _ | assumption | rfl | trivial | exact Nat.le_refl _ | skip)
  · intro c hc
    obtain ⟨d1, d2, d3⟩ := hc
    have e4 : ((x.first : Int) + (c : Int)).toNat = x.first + c := by omega
    rw [e4]
    ((repeat' apply And.intro) <;> first | with_reducible rfl | omega | (dsimp only; omega) | exact RowsEq.refl _ _ _ | assumption | rfl | trivial | exact Nat.le_refl _ | skip)
    intro _
    ((repeat' apply And.intro) <;> first | with_reducible rfl | omega | (dsimp only; omega) | exact RowsEq.refl _ _ _ | assumption | rfl | trivial | exact Nat.le_refl _ | skip)
    refine fun _ => ⟨(gl y.m (x.first + y.i), gl y.m (x.first + c)), ?_⟩
    ((repeat' apply And.intro) <;> first | with_reducible rfl | omega | (dsimp only; omega) | exact RowsEq.refl _ _ _ | assumption | rfl | trivial | exact Nat.le_refl _ | skip)
    dsimp only
    refine fun _ _ => ⟨fun c3 => ⟨y.m, ?_⟩, fun c3 => ?_⟩
    · have c3 : ¬ gl y.m (x.first + y.i) < gl y.m (x.first + c) := by simpa using c3
      have hf := y4.fin y2 (fun c' g1 g2 => by
        have := d3 c' g1 g2
        unfold at_ at *
        omega)
      ((repeat' apply And.intro) <;> first | with_reducible rfl | omega | (dsimp only; omega) | exact RowsEq.refl _ _ _ | assumption | rfl | trivial | exact Nat.le_refl _ | skip)
    · have c3 : gl y.m (x.first + y.i) < gl y.m (x.first + c) := by simpa using c3
      ((repeat' apply And.intro) <;> first | with_reducible rfl | omega | (dsimp only; omega) | exact RowsEq.refl _ _ _ | assumption | rfl | trivial | exact Nat.le_refl _ | skip)
      intro _
      ((repeat' apply And.intro) <;> first | with_reducible rfl | omega | (dsimp only; omega) | exact RowsEq.refl _ _ _ | assumption | rfl | trivial | exact Nat.le_refl _ | skip)
      intro _
      ((repeat' apply And.intro) <;> first | with_reducible rfl | omega | (dsimp only; omega) | exact RowsEq.refl _ _ _ | assumption | rfl | trivial | exact Nat.le_refl _ | skip)
      refine ⟨⟨swpL y.m (x.first + y.i) (x.first + c), c, 0⟩, ?_⟩
      have p1 : PR x.first (x.first + x.hi) x.l (swpL y.m (x.first + y.i) (x.first + c)) := .step y1 (by omega) (by omega) (by omega) (by omega) (by omega)
      have r1 : RowsEq (swpL y.m (x.first + y.i) (x.first + c)).length 1 (updR (updR (encRows encU y.m) (x.first + y.i) 0 [Go.Value.int Go.IntKind.u64 (gl y.m (x.first + c))]) (x.first + c) 0 [Go.Value.int Go.IntKind.u64 (gl y.m (x.first + y.i))]) (encRows encU (swpL y.m (x.first + y.i) (x.first + c))) := rows_swap (by omega) (by omega) rfl rfl
      have n1 := swpL_length y.m (x.first + y.i) (x.first + c)
      have x1 : HpX (at_ (swpL y.m (x.first + y.i) (x.first + c)) x.first) x.lo x.hi c := y4.step y2 d1 d2 d3 c3 (at_swp (by omega) (by omega))
      ((repeat' apply And.intro) <;> first | with_reducible rfl | omega | (dsimp only; omega) | exact RowsEq.refl _ _ _ | assumption | rfl | trivial | exact Nat.le_refl _ | skip))
theorem callSift : CallsBy (Y Try.prog).G.X 50 cSift := fn_ok okY tabU_ok bodySift
def iHs1 (x : RngA) : An := .flat 4 RngS (fun s y => (S.dat s y.m).int 9 ((y.i : Int) - 1)) (fun _ y => PR x.a x.b x.l y.m ∧ y.i ≤ x.b - x.a ∧ HpF (at_ y.m x.a) y.i (x.b - x.a)) (fun _ y => y.i)
def iHs2 (x : RngA) : An := .flat 8 RngS (fun s y => (S.dat s y.m).int 10 ((y.i : Int) - 1))
  (fun _ y => PR x.a x.b x.l y.m ∧ y.i ≤ x.b - x.a ∧ HpF (at_ y.m x.a) 0 y.i ∧ Srt y.m (x.a + y.i) x.b ∧ ∀ p q, x.a ≤ p → p < x.a + y.i → x.a + y.i ≤ q → q < x.b → gl y.m p ≤ gl y.m q) (fun _ y => y.i)
noncomputable def cHeap : Con where
  α := RngA
  β := List Int
  m := 1
  m' := 1
  pre := fun x => x.ok
  args := fun x => [.a (.slc 0 0 1 x.l.length x.cap), .a (.int .i64 x.a), .a (.int .i64 x.b)]
  hp := fun x => [(0, arrU x.l)]
  ro := fun _ => []
  post := fun x m => PR x.a x.b x.l m ∧ Srt m x.a x.b
  res := fun _ _ => .tup []
  hp' := fun _ m => [(0, arrU m)]
set_option maxHeartbeats 4000000 in
theorem bodyHeap : fnBody (Y Try.prog) [(50, cSift)] 38 cHeap fun x => [(38, [iHs1 x, iHs2 x], [])] := fnBody.of (p :=
  ∀ (a : RngA), a.ok →
  InR IntKind.i64 ((↑a.b : Int) - (↑a.a : Int)) ∧
  InR IntKind.i64 ((↑a.b : Int) - (↑a.a : Int) - (1 : Int)) ∧
  (2 : Int) ≠ (0 : Int) ∧
  InR IntKind.i64 (((↑a.b : Int) - (↑a.a : Int) - (1 : Int)).tdiv (2 : Int)) ∧
  (∃ (a_2 : RngS), ((↑a.b : Int) - (↑a.a : Int) - (1 : Int)).tdiv (2 : Int) = (↑a_2.i : Int) - (1 : Int) ∧
  (↑a.b : Int) - (↑a.a : Int) = (↑a.b : Int) - (↑a.a : Int) ∧
  (0 : Int) = (0 : Int) ∧
  (↑a.a : Int) = (↑a.a : Int) ∧
  ((0 : Nat) = (0 : Nat) ∧
  a.l.length = a.l.length ∧
  a.cap = a.cap) ∧
  (↑a.a : Int) = (↑a.a : Int) ∧
  (↑a.b : Int) = (↑a.b : Int) ∧
  (a_2.m.length ≤ a.l.length ∧
  RowsEq a_2.m.length (1 : Nat) (encRows encU a.l) (encRows encU a_2.m)) ∧
  (PR a.a a.b a.l a_2.m ∧
  a_2.i ≤ a.b - a.a ∧
  HpF (at_ a_2.m a.a) a_2.i (a.b - a.a)) ∧
  True) ∧
  ∀ (a_2 : RngS), PR a.a a.b a.l a_2.m ∧
  a_2.i ≤ a.b - a.a ∧
  HpF (at_ a_2.m a.a) a_2.i (a.b - a.a) →
  (Decidable.decide ((0 : Int) ≤ (↑a_2.i : Int) - (1 : Int)) = Bool.true →
  ∃ (a_5 : SiftA), ((0 : Nat) = (0 : Nat) ∧
  a.l.length = a_5.l.length ∧
  a.cap = a_5.cap) ∧
  (↑a_2.i : Int) - (1 : Int) = (↑a_5.lo : Int) ∧
  (↑a.b : Int) - (↑a.a : Int) = (↑a_5.hi : Int) ∧
  (↑a.a : Int) = (↑a_5.first : Int) ∧
  (a_5.l.length ≤ a_2.m.length ∧
  RowsEq a_5.l.length (1 : Nat) (encRows encU a_2.m) (encRows encU a_5.l)) ∧
  (a_5.lo ≤ a_5.hi ∧
  a_5.first + a_5.hi ≤ a_5.l.length ∧
  a_5.l.length < (100000 : Nat) ∧
  HpF (at_ a_5.l a_5.first) (a_5.lo + (1 : Nat)) a_5.hi) ∧
  ∀ (b : List Int), PR a_5.first (a_5.first + a_5.hi) a_5.l b ∧
  HpF (at_ b a_5.first) a_5.lo a_5.hi →
  InR IntKind.i64 ((↑a_2.i : Int) - (1 : Int) - (1 : Int)) ∧
  ∃ (a' : RngS), (↑a_2.i : Int) - (1 : Int) - (1 : Int) = (↑a'.i : Int) - (1 : Int) ∧
  (↑a.b : Int) - (↑a.a : Int) = (↑a.b : Int) - (↑a.a : Int) ∧
  (0 : Int) = (0 : Int) ∧
  (↑a.a : Int) = (↑a.a : Int) ∧
  ((0 : Nat) = (0 : Nat) ∧
  a.l.length = a.l.length ∧
  a.cap = a.cap) ∧
  (↑a.a : Int) = (↑a.a : Int) ∧
  (↑a.b : Int) = (↑a.b : Int) ∧
  (a'.m.length ≤ b.length ∧
  RowsEq a'.m.length (1 : Nat) (encRows encU b) (encRows encU a'.m)) ∧
  (PR a.a a.b a.l a'.m ∧
  a'.i ≤ a.b - a.a ∧
  HpF (at_ a'.m a.a) a'.i (a.b - a.a)) ∧
  a'.i < a_2.i) ∧
  (Decidable.decide ((0 : Int) ≤ (↑a_2.i : Int) - (1 : Int)) = Bool.false →
  InR IntKind.i64 ((↑a.b : Int) - (↑a.a : Int) - (1 : Int)) ∧
  (∃ (a_5 : RngS), (↑a.b : Int) - (↑a.a : Int) - (1 : Int) = (↑a_5.i : Int) - (1 : Int) ∧
  Decidable.decide ((0 : Int) ≤ (↑a_2.i : Int) - (1 : Int)) = Decidable.decide ((0 : Int) ≤ (↑a_2.i : Int) - (1 : Int)) ∧
  (↑a_2.i : Int) - (1 : Int) = (↑a_2.i : Int) - (1 : Int) ∧
  (↑a.b : Int) - (↑a.a : Int) = (↑a.b : Int) - (↑a.a : Int) ∧
  (0 : Int) = (0 : Int) ∧
  (↑a.a : Int) = (↑a.a : Int) ∧
  ((0 : Nat) = (0 : Nat) ∧
  a.l.length = a.l.length ∧
  a.cap = a.cap) ∧
  (↑a.a : Int) = (↑a.a : Int) ∧
  (↑a.b : Int) = (↑a.b : Int) ∧
  (a_5.m.length ≤ a_2.m.length ∧
  RowsEq a_5.m.length (1 : Nat) (encRows encU a_2.m) (encRows encU a_5.m)) ∧
  (PR a.a a.b a.l a_5.m ∧
  a_5.i ≤ a.b - a.a ∧
  HpF (at_ a_5.m a.a) (0 : Nat) a_5.i ∧
  Srt a_5.m (a.a + a_5.i) a.b ∧
  ∀ (p q : Nat), a.a ≤ p →
  p < a.a + a_5.i →
  a.a + a_5.i ≤ q →
  q < a.b →
  gl a_5.m p ≤ gl a_5.m q) ∧
  True) ∧
  ∀ (a_5 : RngS), (PR a.a a.b a.l a_5.m ∧
  a_5.i ≤ a.b - a.a ∧
  HpF (at_ a_5.m a.a) (0 : Nat) a_5.i ∧
  Srt a_5.m (a.a + a_5.i) a.b ∧
  ∀ (p q : Nat), a.a ≤ p →
  p < a.a + a_5.i →
  a.a + a_5.i ≤ q →
  q < a.b →
  gl a_5.m p ≤ gl a_5.m q) →
  (Decidable.decide ((0 : Int) ≤ (↑a_5.i : Int) - (1 : Int)) = Bool.true →
  InR IntKind.i64 ((↑a.a : Int) + ((↑a_5.i : Int) - (1 : Int))) ∧
  InR IntKind.i64 ((↑a.a : Int) + ((↑a_5.i : Int) - (1 : Int))) ∧
  ((0 : Int) ≤ (↑a.a : Int) + ((↑a_5.i : Int) - (1 : Int)) ∧
  (↑a.a : Int) + ((↑a_5.i : Int) - (1 : Int)) < (↑a.l.length : Int)) ∧
  (0 : Nat) + ((↑a.a : Int) + ((↑a_5.i : Int) - (1 : Int))).toNat < a_5.m.length ∧
  (InR IntKind.u64 (gl a_5.m ((0 : Nat) + ((↑a.a : Int) + ((↑a_5.i : Int) - (1 : Int))).toNat)) →
  ((0 : Int) ≤ (↑a.a : Int) ∧
  (↑a.a : Int) < (↑a.l.length : Int)) ∧
  (0 : Nat) + (↑a.a : Int).toNat < a_5.m.length ∧
  (InR IntKind.u64 (gl a_5.m ((0 : Nat) + (↑a.a : Int).toNat)) →
  ((0 : Int) ≤ (↑a.a : Int) ∧
  (↑a.a : Int) < (↑a.l.length : Int)) ∧
  (0 : Nat) + (↑a.a : Int).toNat < a_5.m.length ∧
  ((0 : Int) ≤ (↑a.a : Int) + ((↑a_5.i : Int) - (1 : Int)) ∧
  (↑a.a : Int) + ((↑a_5.i : Int) - (1 : Int)) < (↑a.l.length : Int)) ∧
  (0 : Nat) + ((↑a.a : Int) + ((↑a_5.i : Int) - (1 : Int))).toNat < a_5.m.length ∧
  ∃ (a_10 : SiftA), ((0 : Nat) = (0 : Nat) ∧
  a.l.length = a_10.l.length ∧
  a.cap = a_10.cap) ∧
  (0 : Int) = (↑a_10.lo : Int) ∧
  (↑a_5.i : Int) - (1 : Int) = (↑a_10.hi : Int) ∧
  (↑a.a : Int) = (↑a_10.first : Int) ∧
  (a_10.l.length ≤ a_5.m.length ∧
  RowsEq a_10.l.length (1 : Nat) (updR (updR (encRows encU a_5.m) ((0 : Nat) + (↑a.a : Int).toNat) (0 : Nat) [Value.int IntKind.u64 (gl a_5.m ((0 : Nat) + ((↑a.a : Int) + ((↑a_5.i : Int) - (1 : Int))).toNat))]) ((0 : Nat) + ((↑a.a : Int) + ((↑a_5.i : Int) - (1 : Int))).toNat) (0 : Nat) [Value.int IntKind.u64 (gl a_5.m ((0 : Nat) + (↑a.a : Int).toNat))]) (encRows encU a_10.l)) ∧
  (a_10.lo ≤ a_10.hi ∧
  a_10.first + a_10.hi ≤ a_10.l.length ∧
  a_10.l.length < (100000 : Nat) ∧
  HpF (at_ a_10.l a_10.first) (a_10.lo + (1 : Nat)) a_10.hi) ∧
  ∀ (b : List Int), PR a_10.first (a_10.first + a_10.hi) a_10.l b ∧
  HpF (at_ b a_10.first) a_10.lo a_10.hi →
  InR IntKind.i64 ((↑a_5.i : Int) - (1 : Int) - (1 : Int)) ∧
  ∃ (a' : RngS), (↑a_5.i : Int) - (1 : Int) - (1 : Int) = (↑a'.i : Int) - (1 : Int) ∧
  Decidable.decide ((0 : Int) ≤ (↑a_2.i : Int) - (1 : Int)) = Decidable.decide ((0 : Int) ≤ (↑a_2.i : Int) - (1 : Int)) ∧
  (↑a_2.i : Int) - (1 : Int) = (↑a_2.i : Int) - (1 : Int) ∧
  (↑a.b : Int) - (↑a.a : Int) = (↑a.b : Int) - (↑a.a : Int) ∧
  (0 : Int) = (0 : Int) ∧
  (↑a.a : Int) = (↑a.a : Int) ∧
  ((0 : Nat) = (0 : Nat) ∧
  a.l.length = a.l.length ∧
  a.cap = a.cap) ∧
  (↑a.a : Int) = (↑a.a : Int) ∧
  (↑a.b : Int) = (↑a.b : Int) ∧
  (a'.m.length ≤ b.length ∧
  RowsEq a'.m.length (1 : Nat) (encRows encU b) (encRows encU a'.m)) ∧
  (PR a.a a.b a.l a'.m ∧
  a'.i ≤ a.b - a.a ∧
  HpF (at_ a'.m a.a) (0 : Nat) a'.i ∧
  Srt a'.m (a.a + a'.i) a.b ∧
  ∀ (p q : Nat), a.a ≤ p →
  p < a.a + a'.i →
  a.a + a'.i ≤ q →
  q < a.b →
  gl a'.m p ≤ gl a'.m q) ∧
  a'.i < a_5.i))) ∧
  (Decidable.decide ((0 : Int) ≤ (↑a_5.i : Int) - (1 : Int)) = Bool.false →
  ∃ (b : List Int), (b.length ≤ a_5.m.length ∧
  RowsEq b.length (1 : Nat) (encRows encU a_5.m) (encRows encU b)) ∧
  (PR a.a a.b a.l b ∧
  Srt b a.a a.b) ∧
  True))) (by kernel_rfl) (by
  rintro x ⟨h1, h2, h3⟩
  simp only [Nat.zero_add, InR]
  have t1 : ((x.b : Int) - (x.a : Int) - 1).tdiv 2 = (((x.b - x.a - 1) / 2 : Nat) : Int) := by
    rw [show (x.b : Int) - (x.a : Int) - 1 = ((x.b - x.a - 1 : Nat) : Int) by omega]; rfl
  rw [t1]
  refine ⟨by omega, by omega, by decide, by omega, ⟨⟨x.l, (x.b - x.a - 1) / 2 + 1, 0⟩, ?_⟩, fun y hy => ?_⟩
  · have p0 := PR.refl (a := x.a) (b := x.b) x.l
    have f0 : HpF (at_ x.l x.a) ((x.b - x.a - 1) / 2 + 1) (x.b - x.a) := fun k c g1 g2 g3 => by omega
    ((repeat' apply And.intro) <;> first | with_reducible rfl | omega | (dsimp only; omega) | exact RowsEq.refl _ _ _ | assumption | rfl | trivial | exact Nat.le_refl _ | skip)
  obtain ⟨y1, y2, y3⟩ := hy
  have hm := y1.length
  refine ⟨fun c1 => ⟨⟨y.m, x.cap, y.i - 1, x.b - x.a, x.a⟩, ?_⟩, fun c1 => ?_⟩
  · simp only [decide_eq_true_eq] at c1
    have f0 : HpF (at_ y.m x.a) (y.i - 1 + 1) (x.b - x.a) := by
      rw [show y.i - 1 + 1 = y.i by omega]; exact y3
    ((repeat' apply And.intro) <;> first | with_reducible rfl | omega | (dsimp only; omega) | exact RowsEq.refl _ _ _ | assumption | rfl | trivial | exact Nat.le_refl _ | skip)
    dsimp only
    rintro m ⟨m1, m2⟩
    have p1 : PR x.a x.b x.l m := y1.trans (m1.mono (by omega) (by omega) (by omega))
    have hl := p1.length
    refine ⟨by omega, ⟨m, y.i - 1, 0⟩, ?_⟩
    ((repeat' apply And.intro) <;> first | with_reducible rfl | omega | (dsimp only; omega) | exact RowsEq.refl _ _ _ | assumption | rfl | trivial | exact Nat.le_refl _ | skip)
  · simp only [decide_eq_false_iff_not] at c1
    have ey : y.i = 0 := by omega
    rw [ey] at y3
    refine ⟨by omega, ⟨⟨y.m, x.b - x.a, 0⟩, ?_⟩, fun z hz => ?_⟩
    · have s0 : Srt y.m (x.a + (x.b - x.a)) x.b := fun p q g1 g2 g3 => by omega
      have s1 : ∀ p q, x.a ≤ p → p < x.a + (x.b - x.a) → x.a + (x.b - x.a) ≤ q → q < x.b → gl y.m p ≤ gl y.m q := fun p q g1 g2 g3 g4 => by omega
      ((repeat' apply And.intro) <;> first | with_reducible rfl | omega | (dsimp only; omega) | exact RowsEq.refl _ _ _ | assumption | rfl | trivial | exact Nat.le_refl _ | skip)
    clear y1 y2 y3 hm c1 ey y
    obtain ⟨z1, z2, z3, z4, z5⟩ := hz
    have hm := z1.length
    refine ⟨fun c1 => ?_, fun c1 => ⟨z.m, ?_⟩⟩
    · simp only [decide_eq_true_eq] at c1
      have e1 : ((x.a : Int) + ((z.i : Int) - 1)).toNat = x.a + (z.i - 1) := by omega
      rw [e1]
      simp only [Int.toNat_natCast]
      have p1 : PR x.a x.b x.l (swpL z.m x.a (x.a + (z.i - 1))) := .step z1 (by omega) (by omega) (by omega) (by omega) (by omega)
      have r1 : RowsEq (swpL z.m x.a (x.a + (z.i - 1))).length 1 (updR (updR (encRows encU z.m) x.a 0 [Go.Value.int Go.IntKind.u64 (gl z.m (x.a + (z.i - 1)))]) (x.a + (z.i - 1)) 0 [Go.Value.int Go.IntKind.u64 (gl z.m x.a)]) (encRows encU (swpL z.m x.a (x.a + (z.i - 1)))) := rows_swap (by omega) (by omega) rfl rfl
      have n1 := swpL_length z.m x.a (x.a + (z.i - 1))
      have gs : ∀ k, gl (swpL z.m x.a (x.a + (z.i - 1))) k = if k = x.a + (z.i - 1) then gl z.m x.a else if k = x.a then gl z.m (x.a + (z.i - 1)) else gl z.m k := gl_swp (by omega) (by omega)
      generalize swpL z.m x.a (x.a + (z.i - 1)) = w at *
      have f0 : HpF (at_ w x.a) (0 + 1) (z.i - 1) := fun k c g1 g2 g3 => by
        have := z3 k c (by omega) g2 (by omega)
        unfold at_ at *
        rw [gs, gs, if_neg (by omega), if_neg (by omega), if_neg (by omega), if_neg (by omega)]
        exact this
      ((repeat' apply And.intro) <;> first | with_reducible rfl | omega | (dsimp only; omega) | exact RowsEq.refl _ _ _ | assumption | rfl | trivial | exact Nat.le_refl _ | skip)
      intro _
      ((repeat' apply And.intro) <;> first | with_reducible rfl | omega | (dsimp only; omega) | exact RowsEq.refl _ _ _ | assumption | rfl | trivial | exact Nat.le_refl _ | skip)
      intro _
      ((repeat' apply And.intro) <;> first | with_reducible rfl | omega | (dsimp only; omega) | exact RowsEq.refl _ _ _ | assumption | rfl | trivial | exact Nat.le_refl _ | skip)
      refine ⟨⟨w, x.cap, 0, z.i - 1, x.a⟩, ?_⟩
      ((repeat' apply And.intro) <;> first | with_reducible rfl | omega | (dsimp only; omega) | exact RowsEq.refl _ _ _ | assumption | rfl | trivial | exact Nat.le_refl _ | skip)
      dsimp only
      rintro m ⟨m1, m2⟩
      have p2 : PR x.a x.b x.l m := p1.trans (m1.mono (by omega) (by omega) (by omega))
      have hl := p2.length
      refine ⟨by omega, ⟨m, z.i - 1, 0⟩, ?_⟩
      have top : ∀ k, x.a ≤ k → k < x.a + z.i → gl z.m k ≤ gl z.m x.a := fun k g1 g2 => by
        have := z3.top (k - x.a) (by omega)
        unfold at_ at this
        rw [show x.a + (k - x.a) = k by omega] at this
        exact this
      have hi1 : gl m (x.a + (z.i - 1)) = gl z.m x.a := by rw [m1.out (.inr (by omega)), gs, if_pos rfl]
      have hi2 : ∀ q, x.a + z.i ≤ q → gl m q = gl z.m q := fun q g => by rw [m1.out (.inr (by omega)), gs, if_neg (by omega), if_neg (by omega)]
      have lo1 : ∀ p, x.a ≤ p → p < x.a + (z.i - 1) → gl m p ≤ gl z.m x.a ∧ ∀ q, x.a + z.i ≤ q → q < x.b → gl m p ≤ gl z.m q := fun p g1 g2 => by
        refine m1.all (P := fun v => v ≤ gl z.m x.a ∧ ∀ q, x.a + z.i ≤ q → q < x.b → v ≤ gl z.m q) (fun k g3 g4 => ?_) p g1 g2
        rw [gs, if_neg (by omega)]
        by_cases e : k = x.a
        · rw [if_pos e]; exact ⟨top _ (by omega) (by omega), fun q g5 g6 => z5 _ q (by omega) (by omega) g5 g6⟩
        · rw [if_neg e]; exact ⟨top _ (by omega) (by omega), fun q g5 g6 => z5 _ q (by omega) (by omega) g5 g6⟩
      have s0 : Srt m (x.a + (z.i - 1)) x.b := fun p q g1 g2 g3 => by
        rw [hi2 q (by omega)]
        by_cases e : p = x.a + (z.i - 1)
        · rw [e, hi1]; exact z5 _ q (Nat.le_refl _) (by omega) (by omega) g3
        · rw [hi2 p (by omega)]; exact z4 p q (by omega) g2 g3
      have s1 : ∀ p q, x.a ≤ p → p < x.a + (z.i - 1) → x.a + (z.i - 1) ≤ q → q < x.b → gl m p ≤ gl m q := fun p q g1 g2 g3 g4 => by
        by_cases e : q = x.a + (z.i - 1)
        · rw [e, hi1]; exact (lo1 p g1 g2).1
        · rw [hi2 q (by omega)]; exact (lo1 p g1 g2).2 q (by omega) g4
      ((repeat' apply And.intro) <;> first | with_reducible rfl | omega | (dsimp only; omega) | exact RowsEq.refl _ _ _ | assumption | rfl | trivial | exact Nat.le_refl _ | skip)
    · simp only [decide_eq_false_iff_not] at c1
      have ez : z.i = 0 := by omega
      rw [ez] at z4
      have z4 : Srt z.m x.a x.b := z4
      ((repeat' apply And.intro) <;> first | with_reducible rfl | omega | (dsimp only; omega) | exact RowsEq.refl _ _ _ | assumption | rfl | trivial | exact Nat.le_refl _ | skip))
theorem callHeap : CallsBy (Y Try.prog).G.X 38 cHeap := fn_ok okY (tab := [(50, cSift)]) ⟨callSift, trivial⟩ bodyHeap

/-! ### pivots -/

structure MedA where
  l : List Int
  cap : Nat
  a : Nat
  b : Nat
  c : Nat
  s : Nat
structure MedB where
  x : Nat
  y : Nat
  s : Nat
noncomputable def cO2 : Con where
  α := MedA
  β := MedB
  m := 2
  m' := 2
  pre := fun x => x.a < x.l.length ∧ x.b < x.l.length ∧ x.l.length < 100000 ∧ x.s < 100
  args := fun x => [.a (.slc 0 0 1 x.l.length x.cap), .a (.int .i64 x.a), .a (.int .i64 x.b), .a (.ptr 1 0 0 0)]
  hp := fun x => [(1, .obj 3 [.int .i64 x.s])]
  ro := fun x => [(0, arrU x.l)]
  post := fun x y => (y.x = x.a ∧ y.y = x.b ∨ y.x = x.b ∧ y.y = x.a) ∧ y.s ≤ x.s + 1
  res := fun _ y => .tup [.a (.int .i64 y.x), .a (.int .i64 y.y)]
  hp' := fun _ y => [(1, .obj 3 [.int .i64 y.s])]
set_option maxHeartbeats 4000000 in
theorem bodyO2 : fnBody (Y Try.prog) tabU 64 cO2 fun _ => [] := fnBody.of (p :=
  ∀ (a : MedA), a.a < a.l.length ∧
  a.b < a.l.length ∧
  a.l.length < (100000 : Nat) ∧
  a.s < (100 : Nat) →
  ((0 : Int) ≤ (↑a.b : Int) ∧
  (↑a.b : Int) < (↑a.l.length : Int)) ∧
  (0 : Nat) + (↑a.b : Int).toNat < a.l.length ∧
  (InR IntKind.u64 (gl a.l ((0 : Nat) + (↑a.b : Int).toNat)) →
  ((0 : Int) ≤ (↑a.a : Int) ∧
  (↑a.a : Int) < (↑a.l.length : Int)) ∧
  (0 : Nat) + (↑a.a : Int).toNat < a.l.length ∧
  (InR IntKind.u64 (gl a.l ((0 : Nat) + (↑a.a : Int).toNat)) →
  ∃ (a_4 : Int × Int), gl a.l ((0 : Nat) + (↑a.b : Int).toNat) = a_4.fst ∧
  gl a.l ((0 : Nat) + (↑a.a : Int).toNat) = a_4.snd ∧
  True ∧
  ∀ (b : Unit), True →
  (Decidable.decide (a_4.fst < a_4.snd) = Bool.true →
  InR IntKind.i64 (↑a.s : Int) →
  InR IntKind.i64 ((↑a.s : Int) + (1 : Int)) ∧
  ∃ (b : MedB), (↑a.b : Int) = (↑b.x : Int) ∧
  (↑a.a : Int) = (↑b.y : Int) ∧
  (↑a.s : Int) + (1 : Int) = (↑b.s : Int) ∧
  ((b.x = a.a ∧
  b.y = a.b ∨ b.x = a.b ∧
  b.y = a.a) ∧
  b.s ≤ a.s + (1 : Nat)) ∧
  True) ∧
  (Decidable.decide (a_4.fst < a_4.snd) = Bool.false →
  ∃ (b : MedB), (↑a.a : Int) = (↑b.x : Int) ∧
  (↑a.b : Int) = (↑b.y : Int) ∧
  (↑a.s : Int) = (↑b.s : Int) ∧
  ((b.x = a.a ∧
  b.y = a.b ∨ b.x = a.b ∧
  b.y = a.a) ∧
  b.s ≤ a.s + (1 : Nat)) ∧
  True)))) (by kernel_rfl) (by
  rintro x ⟨h1, h2, h3, h4⟩
  simp only [Nat.zero_add, Int.toNat_natCast, InR]
  ((repeat' apply And.intro) <;> first | with_reducible rfl | omega | (dsimp only; omega) | exact RowsEq.refl _ _ _ | assumption | rfl | trivial | exact Nat.le_refl _ | skip)
  intro _
  ((repeat' apply And.intro) <;> first | with_reducible rfl | omega | (dsimp only; omega) | exact RowsEq.refl _ _ _ | assumption | rfl | trivial | exact Nat.le_refl _ | skip)
  refine fun _ => ⟨(gl x.l x.b, gl x.l x.a), ?_⟩
  ((repeat' apply And.intro) <;> first | with_reducible rfl | omega | (dsimp only; omega) | exact RowsEq.refl _ _ _ | assumption | rfl | trivial | exact Nat.le_refl _ | skip)
  dsimp only
  refine fun _ _ => ⟨fun _ _ => ⟨by omega, ⟨x.b, x.a, x.s + 1⟩, ?_⟩, fun _ => ⟨⟨x.a, x.b, x.s⟩, ?_⟩⟩
  · ((repeat' apply And.intro) <;> first | with_reducible rfl | omega | (dsimp only; omega) | exact RowsEq.refl _ _ _ | assumption | rfl | trivial | exact Nat.le_refl _ | skip)
  · ((repeat' apply And.intro) <;> first | with_reducible rfl | omega | (dsimp only; omega) | exact RowsEq.refl _ _ _ | assumption | rfl | trivial | exact Nat.le_refl _ | skip))
theorem callO2 : CallsBy (Y Try.prog).G.X 64 cO2 := fn_ok okY tabU_ok bodyO2
noncomputable def cMed : Con where
  α := MedA
  β := Nat × Nat
  m := 2
  m' := 2
  pre := fun x => x.a < x.l.length ∧ x.b < x.l.length ∧ x.c < x.l.length ∧ x.l.length < 100000 ∧ x.s < 90
  args := fun x => [.a (.slc 0 0 1 x.l.length x.cap), .a (.int .i64 x.a), .a (.int .i64 x.b), .a (.int .i64 x.c), .a (.ptr 1 0 0 0)]
  hp := fun x => [(1, .obj 3 [.int .i64 x.s])]
  ro := fun x => [(0, arrU x.l)]
  post := fun x y => (y.1 = x.a ∨ y.1 = x.b ∨ y.1 = x.c) ∧ y.2 ≤ x.s + 3
  res := fun _ y => .a (.int .i64 y.1)
  hp' := fun _ y => [(1, .obj 3 [.int .i64 y.2])]
set_option maxHeartbeats 4000000 in
theorem bodyMed : fnBody (Y Try.prog) [(64, cO2)] 54 cMed fun _ => [] := fnBody.of (p :=
  ∀ (a : MedA), a.a < a.l.length ∧
  a.b < a.l.length ∧
  a.c < a.l.length ∧
  a.l.length < (100000 : Nat) ∧
  a.s < (90 : Nat) →
  ∃ (a_2 : MedA), ((0 : Nat) = (0 : Nat) ∧
  a.l.length = a_2.l.length ∧
  a.cap = a_2.cap) ∧
  (↑a.a : Int) = (↑a_2.a : Int) ∧
  (↑a.b : Int) = (↑a_2.b : Int) ∧
  (0 : Nat) = (0 : Nat) ∧
  (↑a.s : Int) = (↑a_2.s : Int) ∧
  (a_2.l.length ≤ a.l.length ∧
  RowsEq a_2.l.length (1 : Nat) (encRows encU a.l) (encRows encU a_2.l)) ∧
  (a_2.a < a_2.l.length ∧
  a_2.b < a_2.l.length ∧
  a_2.l.length < (100000 : Nat) ∧
  a_2.s < (100 : Nat)) ∧
  ∀ (b : MedB), (b.x = a_2.a ∧
  b.y = a_2.b ∨ b.x = a_2.b ∧
  b.y = a_2.a) ∧
  b.s ≤ a_2.s + (1 : Nat) →
  ∃ (a_4 : MedA), ((0 : Nat) = (0 : Nat) ∧
  a.l.length = a_4.l.length ∧
  a.cap = a_4.cap) ∧
  (↑b.y : Int) = (↑a_4.a : Int) ∧
  (↑a.c : Int) = (↑a_4.b : Int) ∧
  (0 : Nat) = (0 : Nat) ∧
  (↑b.s : Int) = (↑a_4.s : Int) ∧
  (a_4.l.length ≤ a.l.length ∧
  RowsEq a_4.l.length (1 : Nat) (encRows encU a.l) (encRows encU a_4.l)) ∧
  (a_4.a < a_4.l.length ∧
  a_4.b < a_4.l.length ∧
  a_4.l.length < (100000 : Nat) ∧
  a_4.s < (100 : Nat)) ∧
  ∀ (b_1 : MedB), (b_1.x = a_4.a ∧
  b_1.y = a_4.b ∨ b_1.x = a_4.b ∧
  b_1.y = a_4.a) ∧
  b_1.s ≤ a_4.s + (1 : Nat) →
  ∃ (a_6 : MedA), ((0 : Nat) = (0 : Nat) ∧
  a.l.length = a_6.l.length ∧
  a.cap = a_6.cap) ∧
  (↑b.x : Int) = (↑a_6.a : Int) ∧
  (↑b_1.x : Int) = (↑a_6.b : Int) ∧
  (0 : Nat) = (0 : Nat) ∧
  (↑b_1.s : Int) = (↑a_6.s : Int) ∧
  (a_6.l.length ≤ a.l.length ∧
  RowsEq a_6.l.length (1 : Nat) (encRows encU a.l) (encRows encU a_6.l)) ∧
  (a_6.a < a_6.l.length ∧
  a_6.b < a_6.l.length ∧
  a_6.l.length < (100000 : Nat) ∧
  a_6.s < (100 : Nat)) ∧
  ∀ (b : MedB), (b.x = a_6.a ∧
  b.y = a_6.b ∨ b.x = a_6.b ∧
  b.y = a_6.a) ∧
  b.s ≤ a_6.s + (1 : Nat) →
  ∃ (b_2 : Nat × Nat), (↑b.y : Int) = (↑b_2.fst : Int) ∧
  (↑b.s : Int) = (↑b_2.snd : Int) ∧
  ((b_2.fst = a.a ∨ b_2.fst = a.b ∨ b_2.fst = a.c) ∧
  b_2.snd ≤ a.s + (3 : Nat)) ∧
  True) (by kernel_rfl) (by
  rintro x ⟨h1, h2, h3, h4, h5⟩
  refine ⟨⟨x.l, x.cap, x.a, x.b, 0, x.s⟩, ?_⟩
  ((repeat' apply And.intro) <;> first | with_reducible rfl | omega | (dsimp only; omega) | exact RowsEq.refl _ _ _ | assumption | rfl | trivial | exact Nat.le_refl _ | skip)
  dsimp only
  rintro b1 ⟨b2, b3⟩
  refine ⟨⟨x.l, x.cap, b1.y, x.c, 0, b1.s⟩, ?_⟩
  ((repeat' apply And.intro) <;> first | with_reducible rfl | omega | (dsimp only; omega) | exact RowsEq.refl _ _ _ | assumption | rfl | trivial | exact Nat.le_refl _ | skip)
  dsimp only
  rintro d1 ⟨d2, d3⟩
  refine ⟨⟨x.l, x.cap, b1.x, d1.x, 0, d1.s⟩, ?_⟩
  ((repeat' apply And.intro) <;> first | with_reducible rfl | omega | (dsimp only; omega) | exact RowsEq.refl _ _ _ | assumption | rfl | trivial | exact Nat.le_refl _ | skip)
  dsimp only
  rintro f1 ⟨f2, f3⟩
  refine ⟨(f1.y, f1.s), ?_⟩
  ((repeat' apply And.intro) <;> first | with_reducible rfl | omega | (dsimp only; omega) | exact RowsEq.refl _ _ _ | assumption | rfl | trivial | exact Nat.le_refl _ | skip))
theorem callMed : CallsBy (Y Try.prog).G.X 54 cMed := fn_ok okY (tab := [(64, cO2)]) ⟨callO2, trivial⟩ bodyMed
structure PvB where
  j : Nat
  h : Nat
noncomputable def cPivot : Con where
  α := RngA
  β := PvB
  m := 1
  m' := 1
  pre := fun x => x.ok
  args := fun x => [.a (.slc 0 0 1 x.l.length x.cap), .a (.int .i64 x.a), .a (.int .i64 x.b)]
  hp := fun _ => []
  ro := fun x => [(0, arrU x.l)]
  post := fun x y => x.a ≤ y.j ∧ y.j < x.b
  res := fun _ y => .tup [.a (.int .i64 y.j), .a (.int .i64 y.h)]
  hp' := fun _ _ => []
structure PvS where
  i : Nat
  j : Nat
  k : Nat
  s : Nat
def cPv1 (x : RngA) : An := .flat 11 PvS (fun s y => (((s.at_ (s.tg 9) (.obj 3 [.int .i64 y.s])).int 10 y.i).int 11 y.j).int 12 y.k) (fun _ y => x.a ≤ y.i ∧ y.i < x.b ∧ x.a ≤ y.j ∧ y.j < x.b ∧ x.a ≤ y.k ∧ y.k < x.b ∧ y.s ≤ 9) (fun _ _ => 0)
def cPv2 (x : RngA) : An := .flat 12 PvS (fun s y => (((s.at_ (s.tg 9) (.obj 3 [.int .i64 y.s])).int 10 y.i).int 11 y.j).int 12 y.k) (fun _ y => x.a ≤ y.j ∧ y.j < x.b) (fun _ _ => 0)
set_option maxHeartbeats 4000000 in
theorem bodyPivot : fnBody (Y Try.prog) [(54, cMed)] 40 cPivot fun x => [(40, [], [cPv1 x, cPv2 x])] := fnBody.of (p :=
  ∀ (a : RngA), a.ok →
  InR IntKind.i64 ((↑a.b : Int) - (↑a.a : Int)) ∧
  (4 : Int) ≠ (0 : Int) ∧
  InR IntKind.i64 (((↑a.b : Int) - (↑a.a : Int)).tdiv (4 : Int)) ∧
  InR IntKind.i64 (((↑a.b : Int) - (↑a.a : Int)).tdiv (4 : Int) * (1 : Int)) ∧
  InR IntKind.i64 ((↑a.a : Int) + ((↑a.b : Int) - (↑a.a : Int)).tdiv (4 : Int) * (1 : Int)) ∧
  (4 : Int) ≠ (0 : Int) ∧
  InR IntKind.i64 (((↑a.b : Int) - (↑a.a : Int)).tdiv (4 : Int)) ∧
  InR IntKind.i64 (((↑a.b : Int) - (↑a.a : Int)).tdiv (4 : Int) * (2 : Int)) ∧
  InR IntKind.i64 ((↑a.a : Int) + ((↑a.b : Int) - (↑a.a : Int)).tdiv (4 : Int) * (2 : Int)) ∧
  (4 : Int) ≠ (0 : Int) ∧
  InR IntKind.i64 (((↑a.b : Int) - (↑a.a : Int)).tdiv (4 : Int)) ∧
  InR IntKind.i64 (((↑a.b : Int) - (↑a.a : Int)).tdiv (4 : Int) * (3 : Int)) ∧
  InR IntKind.i64 ((↑a.a : Int) + ((↑a.b : Int) - (↑a.a : Int)).tdiv (4 : Int) * (3 : Int)) ∧
  ((Decidable.decide ((8 : Int) ≤ (↑a.b : Int) - (↑a.a : Int)) = Bool.true →
  ((Decidable.decide ((50 : Int) ≤ (↑a.b : Int) - (↑a.a : Int)) = Bool.true →
  InR IntKind.i64 ((↑a.a : Int) + ((↑a.b : Int) - (↑a.a : Int)).tdiv (4 : Int) * (1 : Int) - (1 : Int)) ∧
  InR IntKind.i64 ((↑a.a : Int) + ((↑a.b : Int) - (↑a.a : Int)).tdiv (4 : Int) * (1 : Int) + (1 : Int)) ∧
  ∃ (a_4 : MedA), ((0 : Nat) = (0 : Nat) ∧
  a.l.length = a_4.l.length ∧
  a.cap = a_4.cap) ∧
  (↑a.a : Int) + ((↑a.b : Int) - (↑a.a : Int)).tdiv (4 : Int) * (1 : Int) - (1 : Int) = (↑a_4.a : Int) ∧
  (↑a.a : Int) + ((↑a.b : Int) - (↑a.a : Int)).tdiv (4 : Int) * (1 : Int) = (↑a_4.b : Int) ∧
  (↑a.a : Int) + ((↑a.b : Int) - (↑a.a : Int)).tdiv (4 : Int) * (1 : Int) + (1 : Int) = (↑a_4.c : Int) ∧
  (0 : Nat) = (0 : Nat) ∧
  (0 : Int) = (↑a_4.s : Int) ∧
  (a_4.l.length ≤ a.l.length ∧
  RowsEq a_4.l.length (1 : Nat) (encRows encU a.l) (encRows encU a_4.l)) ∧
  (a_4.a < a_4.l.length ∧
  a_4.b < a_4.l.length ∧
  a_4.c < a_4.l.length ∧
  a_4.l.length < (100000 : Nat) ∧
  a_4.s < (90 : Nat)) ∧
  ∀ (b : Nat × Nat), (b.fst = a_4.a ∨ b.fst = a_4.b ∨ b.fst = a_4.c) ∧
  b.snd ≤ a_4.s + (3 : Nat) →
  InR IntKind.i64 ((↑a.a : Int) + ((↑a.b : Int) - (↑a.a : Int)).tdiv (4 : Int) * (2 : Int) - (1 : Int)) ∧
  InR IntKind.i64 ((↑a.a : Int) + ((↑a.b : Int) - (↑a.a : Int)).tdiv (4 : Int) * (2 : Int) + (1 : Int)) ∧
  ∃ (a_6 : MedA), ((0 : Nat) = (0 : Nat) ∧
  a.l.length = a_6.l.length ∧
  a.cap = a_6.cap) ∧
  (↑a.a : Int) + ((↑a.b : Int) - (↑a.a : Int)).tdiv (4 : Int) * (2 : Int) - (1 : Int) = (↑a_6.a : Int) ∧
  (↑a.a : Int) + ((↑a.b : Int) - (↑a.a : Int)).tdiv (4 : Int) * (2 : Int) = (↑a_6.b : Int) ∧
  (↑a.a : Int) + ((↑a.b : Int) - (↑a.a : Int)).tdiv (4 : Int) * (2 : Int) + (1 : Int) = (↑a_6.c : Int) ∧
  (0 : Nat) = (0 : Nat) ∧
  (↑b.snd : Int) = (↑a_6.s : Int) ∧
  (a_6.l.length ≤ a.l.length ∧
  RowsEq a_6.l.length (1 : Nat) (encRows encU a.l) (encRows encU a_6.l)) ∧
  (a_6.a < a_6.l.length ∧
  a_6.b < a_6.l.length ∧
  a_6.c < a_6.l.length ∧
  a_6.l.length < (100000 : Nat) ∧
  a_6.s < (90 : Nat)) ∧
  ∀ (b_1 : Nat × Nat), (b_1.fst = a_6.a ∨ b_1.fst = a_6.b ∨ b_1.fst = a_6.c) ∧
  b_1.snd ≤ a_6.s + (3 : Nat) →
  InR IntKind.i64 ((↑a.a : Int) + ((↑a.b : Int) - (↑a.a : Int)).tdiv (4 : Int) * (3 : Int) - (1 : Int)) ∧
  InR IntKind.i64 ((↑a.a : Int) + ((↑a.b : Int) - (↑a.a : Int)).tdiv (4 : Int) * (3 : Int) + (1 : Int)) ∧
  ∃ (a_8 : MedA), ((0 : Nat) = (0 : Nat) ∧
  a.l.length = a_8.l.length ∧
  a.cap = a_8.cap) ∧
  (↑a.a : Int) + ((↑a.b : Int) - (↑a.a : Int)).tdiv (4 : Int) * (3 : Int) - (1 : Int) = (↑a_8.a : Int) ∧
  (↑a.a : Int) + ((↑a.b : Int) - (↑a.a : Int)).tdiv (4 : Int) * (3 : Int) = (↑a_8.b : Int) ∧
  (↑a.a : Int) + ((↑a.b : Int) - (↑a.a : Int)).tdiv (4 : Int) * (3 : Int) + (1 : Int) = (↑a_8.c : Int) ∧
  (0 : Nat) = (0 : Nat) ∧
  (↑b_1.snd : Int) = (↑a_8.s : Int) ∧
  (a_8.l.length ≤ a.l.length ∧
  RowsEq a_8.l.length (1 : Nat) (encRows encU a.l) (encRows encU a_8.l)) ∧
  (a_8.a < a_8.l.length ∧
  a_8.b < a_8.l.length ∧
  a_8.c < a_8.l.length ∧
  a_8.l.length < (100000 : Nat) ∧
  a_8.s < (90 : Nat)) ∧
  ∀ (b_2 : Nat × Nat), (b_2.fst = a_8.a ∨ b_2.fst = a_8.b ∨ b_2.fst = a_8.c) ∧
  b_2.snd ≤ a_8.s + (3 : Nat) →
  ∃ (a_10 : PvS), (↑b_2.fst : Int) = (↑a_10.k : Int) ∧
  (↑b_1.fst : Int) = (↑a_10.j : Int) ∧
  (↑b.fst : Int) = (↑a_10.i : Int) ∧
  Decidable.decide ((8 : Int) ≤ (↑a.b : Int) - (↑a.a : Int)) = Decidable.decide ((8 : Int) ≤ (↑a.b : Int) - (↑a.a : Int)) ∧
  (0 : Nat) = (0 : Nat) ∧
  (↑a.b : Int) - (↑a.a : Int) = (↑a.b : Int) - (↑a.a : Int) ∧
  (0 : Int) = (0 : Int) ∧
  (0 : Int) = (0 : Int) ∧
  ((0 : Nat) = (0 : Nat) ∧
  a.l.length = a.l.length ∧
  a.cap = a.cap) ∧
  (↑a.a : Int) = (↑a.a : Int) ∧
  (↑a.b : Int) = (↑a.b : Int) ∧
  (↑b_2.snd : Int) = (↑a_10.s : Int) ∧
  (a.l.length ≤ a.l.length ∧
  RowsEq a.l.length (1 : Nat) (encRows encU a.l) (encRows encU a.l)) ∧
  (a.a ≤ a_10.i ∧
  a_10.i < a.b ∧
  a.a ≤ a_10.j ∧
  a_10.j < a.b ∧
  a.a ≤ a_10.k ∧
  a_10.k < a.b ∧
  a_10.s ≤ (9 : Nat)) ∧
  True) ∧
  (Decidable.decide ((50 : Int) ≤ (↑a.b : Int) - (↑a.a : Int)) = Bool.false →
  ∃ (a_4 : PvS), (↑a.a : Int) + ((↑a.b : Int) - (↑a.a : Int)).tdiv (4 : Int) * (3 : Int) = (↑a_4.k : Int) ∧
  (↑a.a : Int) + ((↑a.b : Int) - (↑a.a : Int)).tdiv (4 : Int) * (2 : Int) = (↑a_4.j : Int) ∧
  (↑a.a : Int) + ((↑a.b : Int) - (↑a.a : Int)).tdiv (4 : Int) * (1 : Int) = (↑a_4.i : Int) ∧
  Decidable.decide ((8 : Int) ≤ (↑a.b : Int) - (↑a.a : Int)) = Decidable.decide ((8 : Int) ≤ (↑a.b : Int) - (↑a.a : Int)) ∧
  (0 : Nat) = (0 : Nat) ∧
  (↑a.b : Int) - (↑a.a : Int) = (↑a.b : Int) - (↑a.a : Int) ∧
  (0 : Int) = (0 : Int) ∧
  (0 : Int) = (0 : Int) ∧
  ((0 : Nat) = (0 : Nat) ∧
  a.l.length = a.l.length ∧
  a.cap = a.cap) ∧
  (↑a.a : Int) = (↑a.a : Int) ∧
  (↑a.b : Int) = (↑a.b : Int) ∧
  (0 : Int) = (↑a_4.s : Int) ∧
  (a.l.length ≤ a.l.length ∧
  RowsEq a.l.length (1 : Nat) (encRows encU a.l) (encRows encU a.l)) ∧
  (a.a ≤ a_4.i ∧
  a_4.i < a.b ∧
  a.a ≤ a_4.j ∧
  a_4.j < a.b ∧
  a.a ≤ a_4.k ∧
  a_4.k < a.b ∧
  a_4.s ≤ (9 : Nat)) ∧
  True)) ∧
  ∀ (a_3 : PvS), a.a ≤ a_3.i ∧
  a_3.i < a.b ∧
  a.a ≤ a_3.j ∧
  a_3.j < a.b ∧
  a.a ≤ a_3.k ∧
  a_3.k < a.b ∧
  a_3.s ≤ (9 : Nat) →
  ∃ (a_5 : MedA), ((0 : Nat) = (0 : Nat) ∧
  a.l.length = a_5.l.length ∧
  a.cap = a_5.cap) ∧
  (↑a_3.i : Int) = (↑a_5.a : Int) ∧
  (↑a_3.j : Int) = (↑a_5.b : Int) ∧
  (↑a_3.k : Int) = (↑a_5.c : Int) ∧
  (0 : Nat) = (0 : Nat) ∧
  (↑a_3.s : Int) = (↑a_5.s : Int) ∧
  (a_5.l.length ≤ a.l.length ∧
  RowsEq a_5.l.length (1 : Nat) (encRows encU a.l) (encRows encU a_5.l)) ∧
  (a_5.a < a_5.l.length ∧
  a_5.b < a_5.l.length ∧
  a_5.c < a_5.l.length ∧
  a_5.l.length < (100000 : Nat) ∧
  a_5.s < (90 : Nat)) ∧
  ∀ (b : Nat × Nat), (b.fst = a_5.a ∨ b.fst = a_5.b ∨ b.fst = a_5.c) ∧
  b.snd ≤ a_5.s + (3 : Nat) →
  ∃ (a_7 : PvS), (↑a_3.k : Int) = (↑a_7.k : Int) ∧
  (↑b.fst : Int) = (↑a_7.j : Int) ∧
  (↑a_3.i : Int) = (↑a_7.i : Int) ∧
  (0 : Nat) = (0 : Nat) ∧
  (↑a.b : Int) - (↑a.a : Int) = (↑a.b : Int) - (↑a.a : Int) ∧
  (0 : Int) = (0 : Int) ∧
  (0 : Int) = (0 : Int) ∧
  ((0 : Nat) = (0 : Nat) ∧
  a.l.length = a.l.length ∧
  a.cap = a.cap) ∧
  (↑a.a : Int) = (↑a.a : Int) ∧
  (↑a.b : Int) = (↑a.b : Int) ∧
  (↑b.snd : Int) = (↑a_7.s : Int) ∧
  (a.l.length ≤ a.l.length ∧
  RowsEq a.l.length (1 : Nat) (encRows encU a.l) (encRows encU a.l)) ∧
  (a.a ≤ a_7.j ∧
  a_7.j < a.b) ∧
  True) ∧
  (Decidable.decide ((8 : Int) ≤ (↑a.b : Int) - (↑a.a : Int)) = Bool.false →
  ∃ (a_3 : PvS), (↑a.a : Int) + ((↑a.b : Int) - (↑a.a : Int)).tdiv (4 : Int) * (3 : Int) = (↑a_3.k : Int) ∧
  (↑a.a : Int) + ((↑a.b : Int) - (↑a.a : Int)).tdiv (4 : Int) * (2 : Int) = (↑a_3.j : Int) ∧
  (↑a.a : Int) + ((↑a.b : Int) - (↑a.a : Int)).tdiv (4 : Int) * (1 : Int) = (↑a_3.i : Int) ∧
  (0 : Nat) = (0 : Nat) ∧
  (↑a.b : Int) - (↑a.a : Int) = (↑a.b : Int) - (↑a.a : Int) ∧
  (0 : Int) = (0 : Int) ∧
  (0 : Int) = (0 : Int) ∧
  ((0 : Nat) = (0 : Nat) ∧
  a.l.length = a.l.length ∧
  a.cap = a.cap) ∧
  (↑a.a : Int) = (↑a.a : Int) ∧
  (↑a.b : Int) = (↑a.b : Int) ∧
  (0 : Int) = (↑a_3.s : Int) ∧
  (a.l.length ≤ a.l.length ∧
  RowsEq a.l.length (1 : Nat) (encRows encU a.l) (encRows encU a.l)) ∧
  (a.a ≤ a_3.j ∧
  a_3.j < a.b) ∧
  True)) ∧
  ∀ (a_2 : PvS), a.a ≤ a_2.j ∧
  a_2.j < a.b →
  InR IntKind.i64 (↑a_2.s : Int) →
  (((↑a_2.s : Int) == (0 : Int)) = Bool.true →
  ∃ (b : PvB), (↑a_2.j : Int) = (↑b.j : Int) ∧
  (1 : Int) = (↑b.h : Int) ∧
  (a.a ≤ b.j ∧
  b.j < a.b) ∧
  True) ∧
  (((↑a_2.s : Int) == (0 : Int)) = Bool.false →
  (((↑a_2.s : Int) == (12 : Int)) = Bool.true →
  ∃ (b : PvB), (↑a_2.j : Int) = (↑b.j : Int) ∧
  (2 : Int) = (↑b.h : Int) ∧
  (a.a ≤ b.j ∧
  b.j < a.b) ∧
  True) ∧
  (((↑a_2.s : Int) == (12 : Int)) = Bool.false →
  ∃ (b : PvB), (↑a_2.j : Int) = (↑b.j : Int) ∧
  (0 : Int) = (↑b.h : Int) ∧
  (a.a ≤ b.j ∧
  b.j < a.b) ∧
  True))) (by kernel_rfl) (by
  rintro x ⟨h1, h2, h3⟩
  have t1 : ((x.b : Int) - (x.a : Int)).tdiv 4 = (((x.b - x.a) / 4 : Nat) : Int) := by
    rw [show (x.b : Int) - (x.a : Int) = ((x.b - x.a : Nat) : Int) by omega]; rfl
  rw [t1]
  have hd : 4 * ((x.b - x.a) / 4) ≤ x.b - x.a := Nat.mul_div_le _ _
  have hd2 : x.b - x.a < 4 * ((x.b - x.a) / 4) + 4 := by omega
  generalize (x.b - x.a) / 4 = q at *
  simp only [InR]
  refine ⟨by omega, by decide, by omega, by omega, by omega, by decide, by omega, by omega, by omega, by decide, by omega, by omega, by omega, ⟨fun c1 => ⟨⟨fun c2 => ?_, fun c2 => ⟨⟨x.a + q * 1, x.a + q * 2, x.a + q * 3, 0⟩, ?_⟩⟩, fun y hy => ?_⟩, fun c1 => ⟨⟨x.a + q * 1, x.a + q * 2, x.a + q * 3, 0⟩, ?_⟩⟩, fun y hy => ?_⟩
  all_goals try simp only [decide_eq_true_eq, decide_eq_false_iff_not] at c1
  · simp only [decide_eq_true_eq] at c2
    refine ⟨by omega, by omega, ⟨x.l, x.cap, x.a + q * 1 - 1, x.a + q * 1, x.a + q * 1 + 1, 0⟩, ?_⟩
    ((repeat' apply And.intro) <;> first | with_reducible rfl | omega | (dsimp only; omega) | exact RowsEq.refl _ _ _ | assumption | rfl | trivial | exact Nat.le_refl _ | skip)
    dsimp only
    rintro b1 ⟨b2, b3⟩
    refine ⟨by omega, by omega, ⟨x.l, x.cap, x.a + q * 2 - 1, x.a + q * 2, x.a + q * 2 + 1, b1.2⟩, ?_⟩
    ((repeat' apply And.intro) <;> first | with_reducible rfl | omega | (dsimp only; omega) | exact RowsEq.refl _ _ _ | assumption | rfl | trivial | exact Nat.le_refl _ | skip)
    dsimp only
    rintro d1 ⟨d2, d3⟩
    refine ⟨by omega, by omega, ⟨x.l, x.cap, x.a + q * 3 - 1, x.a + q * 3, x.a + q * 3 + 1, d1.2⟩, ?_⟩
    ((repeat' apply And.intro) <;> first | with_reducible rfl | omega | (dsimp only; omega) | exact RowsEq.refl _ _ _ | assumption | rfl | trivial | exact Nat.le_refl _ | skip)
    dsimp only
    rintro f1 ⟨f2, f3⟩
    refine ⟨⟨b1.1, d1.1, f1.1, f1.2⟩, ?_⟩
    ((repeat' apply And.intro) <;> first | with_reducible rfl | omega | (dsimp only; omega) | exact RowsEq.refl _ _ _ | assumption | rfl | trivial | exact Nat.le_refl _ | skip)
  · ((repeat' apply And.intro) <;> first | with_reducible rfl | omega | (dsimp only; omega) | exact RowsEq.refl _ _ _ | assumption | rfl | trivial | exact Nat.le_refl _ | skip)
  · obtain ⟨y1, y2, y3, y4, y5, y6, y7⟩ := hy
    refine ⟨⟨x.l, x.cap, y.i, y.j, y.k, y.s⟩, ?_⟩
    ((repeat' apply And.intro) <;> first | with_reducible rfl | omega | (dsimp only; omega) | exact RowsEq.refl _ _ _ | assumption | rfl | trivial | exact Nat.le_refl _ | skip)
    dsimp only
    rintro b1 ⟨b2, b3⟩
    refine ⟨⟨y.i, b1.1, y.k, b1.2⟩, ?_⟩
    ((repeat' apply And.intro) <;> first | with_reducible rfl | omega | (dsimp only; omega) | exact RowsEq.refl _ _ _ | assumption | rfl | trivial | exact Nat.le_refl _ | skip)
  · ((repeat' apply And.intro) <;> first | with_reducible rfl | omega | (dsimp only; omega) | exact RowsEq.refl _ _ _ | assumption | rfl | trivial | exact Nat.le_refl _ | skip)
  · obtain ⟨y1, y2⟩ := hy
    refine fun _ => ⟨fun _ => ⟨⟨y.j, 1⟩, ?_⟩, fun _ => ⟨fun _ => ⟨⟨y.j, 2⟩, ?_⟩, fun _ => ⟨⟨y.j, 0⟩, ?_⟩⟩⟩
    · ((repeat' apply And.intro) <;> first | with_reducible rfl | omega | (dsimp only; omega) | exact RowsEq.refl _ _ _ | assumption | rfl | trivial | exact Nat.le_refl _ | skip)
    · ((repeat' apply And.intro) <;> first | with_reducible rfl | omega | (dsimp only; omega) | exact RowsEq.refl _ _ _ | assumption | rfl | trivial | exact Nat.le_refl _ | skip)
    · ((repeat' apply And.intro) <;> first | with_reducible rfl | omega | (dsimp only; omega) | exact RowsEq.refl _ _ _ | assumption | rfl | trivial | exact Nat.le_refl _ | skip))
theorem callPivot : CallsBy (Y Try.prog).G.X 40 cPivot := fn_ok okY (tab := [(54, cMed)]) ⟨callMed, trivial⟩ bodyPivot

/-! ### patterns are broken -/

noncomputable def cNext : Con where
  α := Int
  β := Int
  m := 1
  m' := 1
  pre := fun _ => True
  args := fun _ => [.a (.ptr 0 0 0 0)]
  hp := fun r => [(0, .obj 77 [.int .u64 r])]
  ro := fun _ => []
  post := fun _ _ => True
  res := fun _ r => .a (.int .u64 r)
  hp' := fun _ r => [(0, .obj 77 [.int .u64 r])]
set_option maxHeartbeats 4000000 in
theorem bodyNext : fnBody (Y Try.prog) [] 52 cNext fun _ => [] := fnBody.of (p :=
  ∀ (a : Int), True →
  InR IntKind.u64 a →
  InR IntKind.u64 a →
  (0 : Int) ≤ (13 : Int) ∧
  (InR IntKind.u64 (ibits Go.BinOp.xor IntKind.u64 a (uw IntKind.u64 (a * (8192 : Int)))) →
  InR IntKind.u64 (ibits Go.BinOp.xor IntKind.u64 a (uw IntKind.u64 (a * (8192 : Int)))) →
  (0 : Int) ≤ (7 : Int) ∧
  (InR IntKind.u64 (ibits Go.BinOp.xor IntKind.u64 (ibits Go.BinOp.xor IntKind.u64 a (uw IntKind.u64 (a * (8192 : Int)))) (ibits Go.BinOp.xor IntKind.u64 a (uw IntKind.u64 (a * (8192 : Int))) / (128 : Int))) →
  InR IntKind.u64 (ibits Go.BinOp.xor IntKind.u64 (ibits Go.BinOp.xor IntKind.u64 a (uw IntKind.u64 (a * (8192 : Int)))) (ibits Go.BinOp.xor IntKind.u64 a (uw IntKind.u64 (a * (8192 : Int))) / (128 : Int))) →
  (0 : Int) ≤ (17 : Int) ∧
  (InR IntKind.u64 (ibits Go.BinOp.xor IntKind.u64 (ibits Go.BinOp.xor IntKind.u64 (ibits Go.BinOp.xor IntKind.u64 a (uw IntKind.u64 (a * (8192 : Int)))) (ibits Go.BinOp.xor IntKind.u64 a (uw IntKind.u64 (a * (8192 : Int))) / (128 : Int))) (uw IntKind.u64 (ibits Go.BinOp.xor IntKind.u64 (ibits Go.BinOp.xor IntKind.u64 a (uw IntKind.u64 (a * (8192 : Int)))) (ibits Go.BinOp.xor IntKind.u64 a (uw IntKind.u64 (a * (8192 : Int))) / (128 : Int)) * (131072 : Int)))) →
  ∃ (b : Int), ibits Go.BinOp.xor IntKind.u64 (ibits Go.BinOp.xor IntKind.u64 (ibits Go.BinOp.xor IntKind.u64 a (uw IntKind.u64 (a * (8192 : Int)))) (ibits Go.BinOp.xor IntKind.u64 a (uw IntKind.u64 (a * (8192 : Int))) / (128 : Int))) (uw IntKind.u64 (ibits Go.BinOp.xor IntKind.u64 (ibits Go.BinOp.xor IntKind.u64 a (uw IntKind.u64 (a * (8192 : Int)))) (ibits Go.BinOp.xor IntKind.u64 a (uw IntKind.u64 (a * (8192 : Int))) / (128 : Int)) * (131072 : Int))) = b ∧
  ibits Go.BinOp.xor IntKind.u64 (ibits Go.BinOp.xor IntKind.u64 (ibits Go.BinOp.xor IntKind.u64 a (uw IntKind.u64 (a * (8192 : Int)))) (ibits Go.BinOp.xor IntKind.u64 a (uw IntKind.u64 (a * (8192 : Int))) / (128 : Int))) (uw IntKind.u64 (ibits Go.BinOp.xor IntKind.u64 (ibits Go.BinOp.xor IntKind.u64 a (uw IntKind.u64 (a * (8192 : Int)))) (ibits Go.BinOp.xor IntKind.u64 a (uw IntKind.u64 (a * (8192 : Int))) / (128 : Int)) * (131072 : Int))) = b ∧
  True ∧
  True)))) (by kernel_rfl) (by
  intro a _
  repeat' (first | intro _ | apply And.intro | (refine ⟨_, rfl, rfl, trivial, trivial⟩) | decide))
theorem callNext : CallsBy (Y Try.prog).G.X 52 cNext := fn_ok okY (tab := []) trivial bodyNext
noncomputable def cLen : Con where
  α := Nat
  β := Nat
  m := 0
  m' := 0
  pre := fun n => 1 ≤ n ∧ n < 256
  args := fun n => [.a (.int .u64 n)]
  hp := fun _ => []
  ro := fun _ => []
  post := fun n r => 1 ≤ r ∧ r ≤ 8 ∧ n < 2 ^ r ∧ 2 ^ r ≤ 2 * n
  res := fun _ r => .a (.int .i64 r)
  hp' := fun _ _ => []
theorem u8_small (u : UInt8) (k : Int) (h0 : 0 ≤ k) (h1 : k ≤ 1000) : InR .i64 (k + (u.toNat : Int)) := by
  have := u.toNat_lt
  simp only [InR]; omega
theorem and_lt (r : Int) {b : Nat} (h0 : 1 ≤ b) (h8 : b ≤ 8) : ∃ o : Nat, uw .i64 (ibits .and .u64 r (uw .u64 (uw .u64 (1 * 2 ^ min ((b : Int).toNat) 64) - 1))) = (o : Int) ∧ o < 2 ^ b := by
  have hk : ∃ k : Nat, uw .u64 (uw .u64 (1 * 2 ^ min ((b : Int).toNat) 64) - 1) = (k : Int) ∧ k < 2 ^ b ∧ k < 256 := by
    have : b = 1 ∨ b = 2 ∨ b = 3 ∨ b = 4 ∨ b = 5 ∨ b = 6 ∨ b = 7 ∨ b = 8 := by omega
    rcases this with rfl | rfl | rfl | rfl | rfl | rfl | rfl | rfl
    · exact ⟨1, by decide, by decide, by decide⟩
    · exact ⟨3, by decide, by decide, by decide⟩
    · exact ⟨7, by decide, by decide, by decide⟩
    · exact ⟨15, by decide, by decide, by decide⟩
    · exact ⟨31, by decide, by decide, by decide⟩
    · exact ⟨63, by decide, by decide, by decide⟩
    · exact ⟨127, by decide, by decide, by decide⟩
    · exact ⟨255, by decide, by decide, by decide⟩
  obtain ⟨k, e, hk, hk2⟩ := hk
  rw [e]
  have h1 : (BitVec.ofInt 64 r &&& BitVec.ofInt 64 (k : Int)).toNat ≤ k := by
    rw [BitVec.toNat_and]
    refine Nat.le_trans Nat.and_le_right ?_
    rw [BitVec.toNat_ofInt]
    omega
  refine ⟨(BitVec.ofInt 64 r &&& BitVec.ofInt 64 (k : Int)).toNat, ?_, by omega⟩
  show IntKind.i64.wrap (IntKind.u64.wrap _) = _
  show IntKind.i64.wrap (IntKind.u64.wrap ((BitVec.ofInt 64 r &&& BitVec.ofInt 64 (k : Int)).toNat : Int)) = _
  generalize (BitVec.ofInt 64 r &&& BitVec.ofInt 64 (k : Int)).toNat = z at *
  rw [uw_eq .u64]
  have e1 : uw .u64 (z : Int) = (z : Int) := by simp only [uw]; omega
  rw [e1]
  simp [IntKind.wrap, IntKind.signed, IntKind.bits]
  omega
set_option maxHeartbeats 4000000 in
theorem bodyLen : fnBody (Y Try.prog) [] 32 cLen fun _ => [] := fnBody.of (p :=
  ∀ (a : Nat), (1 : Nat) ≤ a ∧
  a < (256 : Nat) →
  (Decidable.decide ((4294967296 : Int) ≤ (↑a : Int)) = Bool.true →
  (0 : Int) ≤ (32 : Int) ∧
  (Decidable.decide ((65536 : Int) ≤ (↑a : Int) / (4294967296 : Int)) = Bool.true →
  (0 : Int) ≤ (16 : Int) ∧
  (Decidable.decide ((256 : Int) ≤ (↑a : Int) / (4294967296 : Int) / (65536 : Int)) = Bool.true →
  (0 : Int) ≤ (8 : Int) ∧
  ((0 : Int) ≤ uw IntKind.u8 ((↑a : Int) / (4294967296 : Int) / (65536 : Int) / (256 : Int)) ∧
  uw IntKind.u8 ((↑a : Int) / (4294967296 : Int) / (65536 : Int) / (256 : Int)) < (256 : Int)) ∧
  InR IntKind.i64 ((56 : Int) + (↑((([(0 : UInt8), (1 : UInt8), (2 : UInt8), (2 : UInt8), (3 : UInt8), (3 : UInt8), (3 : UInt8), (3 : UInt8), (4 : UInt8), (4 : UInt8), (4 : UInt8), (4 : UInt8), (4 : UInt8), (4 : UInt8), (4 : UInt8), (4 : UInt8), (5 : UInt8), (5 : UInt8), (5 : UInt8), (5 : UInt8), (5 : UInt8), (5 : UInt8), (5 : UInt8), (5 : UInt8), (5 : UInt8), (5 : UInt8), (5 : UInt8), (5 : UInt8), (5 : UInt8), (5 : UInt8), (5 : UInt8), (5 : UInt8), (6 : UInt8), (6 : UInt8), (6 : UInt8), (6 : UInt8), (6 : UInt8), (6 : UInt8), (6 : UInt8), (6 : UInt8), (6 : UInt8), (6 : UInt8), (6 : UInt8), (6 : UInt8), (6 : UInt8), (6 : UInt8), (6 : UInt8), (6 : UInt8), (6 : UInt8), (6 : UInt8), (6 : UInt8), (6 : UInt8), (6 : UInt8), (6 : UInt8), (6 : UInt8), (6 : UInt8), (6 : UInt8), (6 : UInt8), (6 : UInt8), (6 : UInt8), (6 : UInt8), (6 : UInt8), (6 : UInt8), (6 : UInt8)].append [(7 : UInt8), (7 : UInt8), (7 : UInt8), (7 : UInt8), (7 : UInt8), (7 : UInt8), (7 : UInt8), (7 : UInt8), (7 : UInt8), (7 : UInt8), (7 : UInt8), (7 : UInt8), (7 : UInt8), (7 : UInt8), (7 : UInt8), (7 : UInt8), (7 : UInt8), (7 : UInt8), (7 : UInt8), (7 : UInt8), (7 : UInt8), (7 : UInt8), (7 : UInt8), (7 : UInt8), (7 : UInt8), (7 : UInt8), (7 : UInt8), (7 : UInt8), (7 : UInt8), (7 : UInt8), (7 : UInt8), (7 : UInt8), (7 : UInt8), (7 : UInt8), (7 : UInt8), (7 : UInt8), (7 : UInt8), (7 : UInt8), (7 : UInt8), (7 : UInt8), (7 : UInt8), (7 : UInt8), (7 : UInt8), (7 : UInt8), (7 : UInt8), (7 : UInt8), (7 : UInt8), (7 : UInt8), (7 : UInt8), (7 : UInt8), (7 : UInt8), (7 : UInt8), (7 : UInt8), (7 : UInt8), (7 : UInt8), (7 : UInt8), (7 : UInt8), (7 : UInt8), (7 : UInt8), (7 : UInt8), (7 : UInt8), (7 : UInt8), (7 : UInt8), (7 : UInt8)]).append ([(8 : UInt8), (8 : UInt8), (8 : UInt8), (8 : UInt8), (8 : UInt8), (8 : UInt8), (8 : UInt8), (8 : UInt8), (8 : UInt8), (8 : UInt8), (8 : UInt8), (8 : UInt8), (8 : UInt8), (8 : UInt8), (8 : UInt8), (8 : UInt8), (8 : UInt8), (8 : UInt8), (8 : UInt8), (8 : UInt8), (8 : UInt8), (8 : UInt8), (8 : UInt8), (8 : UInt8), (8 : UInt8), (8 : UInt8), (8 : UInt8), (8 : UInt8), (8 : UInt8), (8 : UInt8), (8 : UInt8), (8 : UInt8), (8 : UInt8), (8 : UInt8), (8 : UInt8), (8 : UInt8), (8 : UInt8), (8 : UInt8), (8 : UInt8), (8 : UInt8), (8 : UInt8), (8 : UInt8), (8 : UInt8), (8 : UInt8), (8 : UInt8), (8 : UInt8), (8 : UInt8), (8 : UInt8), (8 : UInt8), (8 : UInt8), (8 : UInt8), (8 : UInt8), (8 : UInt8), (8 : UInt8), (8 : UInt8), (8 : UInt8), (8 : UInt8), (8 : UInt8), (8 : UInt8), (8 : UInt8), (8 : UInt8), (8 : UInt8), (8 : UInt8), (8 : UInt8)].append [(8 : UInt8), (8 : UInt8), (8 : UInt8), (8 : UInt8), (8 : UInt8), (8 : UInt8), (8 : UInt8), (8 : UInt8), (8 : UInt8), (8 : UInt8), (8 : UInt8), (8 : UInt8), (8 : UInt8), (8 : UInt8), (8 : UInt8), (8 : UInt8), (8 : UInt8), (8 : UInt8), (8 : UInt8), (8 : UInt8), (8 : UInt8), (8 : UInt8), (8 : UInt8), (8 : UInt8), (8 : UInt8), (8 : UInt8), (8 : UInt8), (8 : UInt8), (8 : UInt8), (8 : UInt8), (8 : UInt8), (8 : UInt8), (8 : UInt8), (8 : UInt8), (8 : UInt8), (8 : UInt8), (8 : UInt8), (8 : UInt8), (8 : UInt8), (8 : UInt8), (8 : UInt8), (8 : UInt8), (8 : UInt8), (8 : UInt8), (8 : UInt8), (8 : UInt8), (8 : UInt8), (8 : UInt8), (8 : UInt8), (8 : UInt8), (8 : UInt8), (8 : UInt8), (8 : UInt8), (8 : UInt8), (8 : UInt8), (8 : UInt8), (8 : UInt8), (8 : UInt8), (8 : UInt8), (8 : UInt8), (8 : UInt8), (8 : UInt8), (8 : UInt8), (8 : UInt8)])).toArray.getD (uw IntKind.u8 ((↑a : Int) / (4294967296 : Int) / (65536 : Int) / (256 : Int))).toNat (0 : UInt8)).toNat : Int)) ∧
  ∃ (b : Nat), (56 : Int) + (↑((([(0 : UInt8), (1 : UInt8), (2 : UInt8), (2 : UInt8), (3 : UInt8), (3 : UInt8), (3 : UInt8), (3 : UInt8), (4 : UInt8), (4 : UInt8), (4 : UInt8), (4 : UInt8), (4 : UInt8), (4 : UInt8), (4 : UInt8), (4 : UInt8), (5 : UInt8), (5 : UInt8), (5 : UInt8), (5 : UInt8), (5 : UInt8), (5 : UInt8), (5 : UInt8), (5 : UInt8), (5 : UInt8), (5 : UInt8), (5 : UInt8), (5 : UInt8), (5 : UInt8), (5 : UInt8), (5 : UInt8), (5 : UInt8), (6 : UInt8), (6 : UInt8), (6 : UInt8), (6 : UInt8), (6 : UInt8), (6 : UInt8), (6 : UInt8), (6 : UInt8), (6 : UInt8), (6 : UInt8), (6 : UInt8), (6 : UInt8), (6 : UInt8), (6 : UInt8), (6 : UInt8), (6 : UInt8), (6 : UInt8), (6 : UInt8), (6 : UInt8), (6 : UInt8), (6 : UInt8), (6 : UInt8), (6 : UInt8), (6 : UInt8), (6 : UInt8), (6 : UInt8), (6 : UInt8), (6 : UInt8), (6 : UInt8), (6 : UInt8), (6 : UInt8), (6 : UInt8)].append [(7 : UInt8), (7 : UInt8), (7 : UInt8), (7 : UInt8), (7 : UInt8), (7 : UInt8), (7 : UInt8), (7 : UInt8), (7 : UInt8), (7 : UInt8), (7 : UInt8), (7 : UInt8), (7 : UInt8), (7 : UInt8), (7 : UInt8), (7 : UInt8), (7 : UInt8), (7 : UInt8), (7 : UInt8), (7 : UInt8), (7 : UInt8), (7 : UInt8), (7 : UInt8), (7 : UInt8), (7 : UInt8), (7 : UInt8), (7 : UInt8), (7 : UInt8), (7 : UInt8), (7 : UInt8), (7 : UInt8), (7 : UInt8), (7 : UInt8), (7 : UInt8), (7 : UInt8), (7 : UInt8), (7 : UInt8), (7 : UInt8), (7 : UInt8), (7 : UInt8), (7 : UInt8), (7 : UInt8), (7 : UInt8), (7 : UInt8), (7 : UInt8), (7 : UInt8), (7 : UInt8), (7 : UInt8), (7 : UInt8), (7 : UInt8), (7 : UInt8), (7 : UInt8), (7 : UInt8), (7 : UInt8), (7 : UInt8), (7 : UInt8), (7 : UInt8), (7 : UInt8), (7 : UInt8), (7 : UInt8), (7 : UInt8), (7 : UInt8), (7 : UInt8), (7 : UInt8)]).append ([(8 : UInt8), (8 : UInt8), (8 : UInt8), (8 : UInt8), (8 : UInt8), (8 : UInt8), (8 : UInt8), (8 : UInt8), (8 : UInt8), (8 : UInt8), (8 : UInt8), (8 : UInt8), (8 : UInt8), (8 : UInt8), (8 : UInt8), (8 : UInt8), (8 : UInt8), (8 : UInt8), (8 : UInt8), (8 : UInt8), (8 : UInt8), (8 : UInt8), (8 : UInt8), (8 : UInt8), (8 : UInt8), (8 : UInt8), (8 : UInt8), (8 : UInt8), (8 : UInt8), (8 : UInt8), (8 : UInt8), (8 : UInt8), (8 : UInt8), (8 : UInt8), (8 : UInt8), (8 : UInt8), (8 : UInt8), (8 : UInt8), (8 : UInt8), (8 : UInt8), (8 : UInt8), (8 : UInt8), (8 : UInt8), (8 : UInt8), (8 : UInt8), (8 : UInt8), (8 : UInt8), (8 : UInt8), (8 : UInt8), (8 : UInt8), (8 : UInt8), (8 : UInt8), (8 : UInt8), (8 : UInt8), (8 : UInt8), (8 : UInt8), (8 : UInt8), (8 : UInt8), (8 : UInt8), (8 : UInt8), (8 : UInt8), (8 : UInt8), (8 : UInt8), (8 : UInt8)].append [(8 : UInt8), (8 : UInt8), (8 : UInt8), (8 : UInt8), (8 : UInt8), (8 : UInt8), (8 : UInt8), (8 : UInt8), (8 : UInt8), (8 : UInt8), (8 : UInt8), (8 : UInt8), (8 : UInt8), (8 : UInt8), (8 : UInt8), (8 : UInt8), (8 : UInt8), (8 : UInt8), (8 : UInt8), (8 : UInt8), (8 : UInt8), (8 : UInt8), (8 : UInt8), (8 : UInt8), (8 : UInt8), (8 : UInt8), (8 : UInt8), (8 : UInt8), (8 : UInt8), (8 : UInt8), (8 : UInt8), (8 : UInt8), (8 : UInt8), (8 : UInt8), (8 : UInt8), (8 : UInt8), (8 : UInt8), (8 : UInt8), (8 : UInt8), (8 : UInt8), (8 : UInt8), (8 : UInt8), (8 : UInt8), (8 : UInt8), (8 : UInt8), (8 : UInt8), (8 : UInt8), (8 : UInt8), (8 : UInt8), (8 : UInt8), (8 : UInt8), (8 : UInt8), (8 : UInt8), (8 : UInt8), (8 : UInt8), (8 : UInt8), (8 : UInt8), (8 : UInt8), (8 : UInt8), (8 : UInt8), (8 : UInt8), (8 : UInt8), (8 : UInt8), (8 : UInt8)])).toArray.getD (uw IntKind.u8 ((↑a : Int) / (4294967296 : Int) / (65536 : Int) / (256 : Int))).toNat (0 : UInt8)).toNat : Int) = (↑b : Int) ∧
  ((1 : Nat) ≤ b ∧
  b ≤ (8 : Nat) ∧
  a < (2 : Nat) ^ b ∧
  (2 : Nat) ^ b ≤ (2 : Nat) * a) ∧
  True) ∧
  (Decidable.decide ((256 : Int) ≤ (↑a : Int) / (4294967296 : Int) / (65536 : Int)) = Bool.false →
  ((0 : Int) ≤ uw IntKind.u8 ((↑a : Int) / (4294967296 : Int) / (65536 : Int)) ∧
  uw IntKind.u8 ((↑a : Int) / (4294967296 : Int) / (65536 : Int)) < (256 : Int)) ∧
  InR IntKind.i64 ((48 : Int) + (↑((([(0 : UInt8), (1 : UInt8), (2 : UInt8), (2 : UInt8), (3 : UInt8), (3 : UInt8), (3 : UInt8), (3 : UInt8), (4 : UInt8), (4 : UInt8), (4 : UInt8), (4 : UInt8), (4 : UInt8), (4 : UInt8), (4 : UInt8), (4 : UInt8), (5 : UInt8), (5 : UInt8), (5 : UInt8), (5 : UInt8), (5 : UInt8), (5 : UInt8), (5 : UInt8), (5 : UInt8), (5 : UInt8), (5 : UInt8), (5 : UInt8), (5 : UInt8), (5 : UInt8), (5 : UInt8), (5 : UInt8), (5 : UInt8), (6 : UInt8), (6 : UInt8), (6 : UInt8), (6 : UInt8), (6 : UInt8), (6 : UInt8), (6 : UInt8), (6 : UInt8), (6 : UInt8), (6 : UInt8), (6 : UInt8), (6 : UInt8), (6 : UInt8), (6 : UInt8), (6 : UInt8), (6 : UInt8), (6 : UInt8), (6 : UInt8), (6 : UInt8), (6 : UInt8), (6 : UInt8), (6 : UInt8), (6 : UInt8), (6 : UInt8), (6 : UInt8), (6 : UInt8), (6 : UInt8), (6 : UInt8), (6 : UInt8), (6 : UInt8), (6 : UInt8), (6 : UInt8)].append [(7 : UInt8), (7 : UInt8), (7 : UInt8), (7 : UInt8), (7 : UInt8), (7 : UInt8), (7 : UInt8), (7 : UInt8), (7 : UInt8), (7 : UInt8), (7 : UInt8), (7 : UInt8), (7 : UInt8), (7 : UInt8), (7 : UInt8), (7 : UInt8), (7 : UInt8), (7 : UInt8), (7 : UInt8), (7 : UInt8), (7 : UInt8), (7 : UInt8), (7 : UInt8), (7 : UInt8), (7 : UInt8), (7 : UInt8), (7 : UInt8), (7 : UInt8), (7 : UInt8), (7 : UInt8), (7 : UInt8), (7 : UInt8), (7 : UInt8), (7 : UInt8), (7 : UInt8), (7 : UInt8), (7 : UInt8), (7 : UInt8), (7 : UInt8), (7 : UInt8), (7 : UInt8), (7 : UInt8), (7 : UInt8), (7 : UInt8), (7 : UInt8), (7 : UInt8), (7 : UInt8), (7 : UInt8), (7 : UInt8), (7 : UInt8), (7 : UInt8), (7 : UInt8), (7 : UInt8), (7 : UInt8), (7 : UInt8), (7 : UInt8), (7 : UInt8), (7 : UInt8), (7 : UInt8), (7 : UInt8), (7 : UInt8), (7 : UInt8), (7 : UInt8), (7 : UInt8)]).append ([(8 : UInt8), (8 : UInt8), (8 : UInt8), (8 : UInt8), (8 : UInt8), (8 : UInt8), (8 : UInt8), (8 : UInt8), (8 : UInt8), (8 : UInt8), (8 : UInt8), (8 : UInt8), (8 : UInt8), (8 : UInt8), (8 : UInt8), (8 : UInt8), (8 : UInt8), (8 : UInt8), (8 : UInt8), (8 : UInt8), (8 : UInt8), (8 : UInt8), (8 : UInt8), (8 : UInt8), (8 : UInt8), (8 : UInt8), (8 : UInt8), (8 : UInt8), (8 : UInt8), (8 : UInt8), (8 : UInt8), (8 : UInt8), (8 : UInt8), (8 : UInt8), (8 : UInt8), (8 : UInt8), (8 : UInt8), (8 : UInt8), (8 : UInt8), (8 : UInt8), (8 : UInt8), (8 : UInt8), (8 : UInt8), (8 : UInt8), (8 : UInt8), (8 : UInt8), (8 : UInt8), (8 : UInt8), (8 : UInt8), (8 : UInt8), (8 : UInt8), (8 : UInt8), (8 : UInt8), (8 : UInt8), (8 : UInt8), (8 : UInt8), (8 : UInt8), (8 : UInt8), (8 : UInt8), (8 : UInt8), (8 : UInt8), (8 : UInt8), (8 : UInt8), (8 : UInt8)].append [(8 : UInt8), (8 : UInt8), (8 : UInt8), (8 : UInt8), (8 : UInt8), (8 : UInt8), (8 : UInt8), (8 : UInt8), (8 : UInt8), (8 : UInt8), (8 : UInt8), (8 : UInt8), (8 : UInt8), (8 : UInt8), (8 : UInt8), (8 : UInt8), (8 : UInt8), (8 : UInt8), (8 : UInt8), (8 : UInt8), (8 : UInt8), (8 : UInt8), (8 : UInt8), (8 : UInt8), (8 : UInt8), (8 : UInt8), (8 : UInt8), (8 : UInt8), (8 : UInt8), (8 : UInt8), (8 : UInt8), (8 : UInt8), (8 : UInt8), (8 : UInt8), (8 : UInt8), (8 : UInt8), (8 : UInt8), (8 : UInt8), (8 : UInt8), (8 : UInt8), (8 : UInt8), (8 : UInt8), (8 : UInt8), (8 : UInt8), (8 : UInt8), (8 : UInt8), (8 : UInt8), (8 : UInt8), (8 : UInt8), (8 : UInt8), (8 : UInt8), (8 : UInt8), (8 : UInt8), (8 : UInt8), (8 : UInt8), (8 : UInt8), (8 : UInt8), (8 : UInt8), (8 : UInt8), (8 : UInt8), (8 : UInt8), (8 : UInt8), (8 : UInt8), (8 : UInt8)])).toArray.getD (uw IntKind.u8 ((↑a : Int) / (4294967296 : Int) / (65536 : Int))).toNat (0 : UInt8)).toNat : Int)) ∧
  ∃ (b : Nat), (48 : Int) + (↑((([(0 : UInt8), (1 : UInt8), (2 : UInt8), (2 : UInt8), (3 : UInt8), (3 : UInt8), (3 : UInt8), (3 : UInt8), (4 : UInt8), (4 : UInt8), (4 : UInt8), (4 : UInt8), (4 : UInt8), (4 : UInt8), (4 : UInt8), (4 : UInt8), (5 : UInt8), (5 : UInt8), (5 : UInt8), (5 : UInt8), (5 : UInt8), (5 : UInt8), (5 : UInt8), (5 : UInt8), (5 : UInt8), (5 : UInt8), (5 : UInt8), (5 : UInt8), (5 : UInt8), (5 : UInt8), (5 : UInt8), (5 : UInt8), (6 : UInt8), (6 : UInt8), (6 : UInt8), (6 : UInt8), (6 : UInt8), (6 : UInt8), (6 : UInt8), (6 : UInt8), (6 : UInt8), (6 : UInt8), (6 : UInt8), (6 : UInt8), (6 : UInt8), (6 : UInt8), (6 : UInt8), (6 : UInt8), (6 : UInt8), (6 : UInt8), (6 : UInt8), (6 : UInt8), (6 : UInt8), (6 : UInt8), (6 : UInt8), (6 : UInt8), (6 : UInt8), (6 : UInt8), (6 : UInt8), (6 : UInt8), (6 : UInt8), (6 : UInt8), (6 : UInt8), (6 : UInt8)].append [(7 : UInt8), (7 : UInt8), (7 : UInt8), (7 : UInt8), (7 : UInt8), (7 : UInt8), (7 : UInt8), (7 : UInt8), (7 : UInt8), (7 : UInt8), (7 : UInt8), (7 : UInt8), (7 : UInt8), (7 : UInt8), (7 : UInt8), (7 : UInt8), (7 : UInt8), (7 : UInt8), (7 : UInt8), (7 : UInt8), (7 : UInt8), (7 : UInt8), (7 : UInt8), (7 : UInt8), (7 : UInt8), (7 : UInt8), (7 : UInt8), (7 : UInt8), (7 : UInt8), (7 : UInt8), (7 : UInt8), (7 : UInt8), (7 : UInt8), (7 : UInt8), (7 : UInt8), (7 : UInt8), (7 : UInt8), (7 : UInt8), (7 : UInt8), (7 : UInt8), (7 : UInt8), (7 : UInt8), (7 : UInt8), (7 : UInt8), (7 : UInt8), (7 : UInt8), (7 : UInt8), (7 : UInt8), (7 : UInt8), (7 : UInt8), (7 : UInt8), (7 : UInt8), (7 : UInt8), (7 : UInt8), (7 : UInt8), (7 : UInt8), (7 : UInt8), (7 : UInt8), (7 : UInt8), (7 : UInt8), (7 : UInt8), (7 : UInt8), (7 : UInt8), (7 : UInt8)]).append ([(8 : UInt8), (8 : UInt8), (8 : UInt8), (8 : UInt8), (8 : UInt8), (8 : UInt8), (8 : UInt8), (8 : UInt8), (8 : UInt8), (8 : UInt8), (8 : UInt8), (8 : UInt8), (8 : UInt8), (8 : UInt8), (8 : UInt8), (8 : UInt8), (8 : UInt8), (8 : UInt8), (8 : UInt8), (8 : UInt8), (8 : UInt8), (8 : UInt8), (8 : UInt8), (8 : UInt8), (8 : UInt8), (8 : UInt8), (8 : UInt8), (8 : UInt8), (8 : UInt8), (8 : UInt8), (8 : UInt8), (8 : UInt8), (8 : UInt8), (8 : UInt8), (8 : UInt8), (8 : UInt8), (8 : UInt8), (8 : UInt8), (8 : UInt8), (8 : UInt8), (8 : UInt8), (8 : UInt8), (8 : UInt8), (8 : UInt8), (8 : UInt8), (8 : UInt8), (8 : UInt8), (8 : UInt8), (8 : UInt8), (8 : UInt8), (8 : UInt8), (8 : UInt8), (8 : UInt8), (8 : UInt8), (8 : UInt8), (8 : UInt8), (8 : UInt8), (8 : UInt8), (8 : UInt8), (8 : UInt8), (8 : UInt8), (8 : UInt8), (8 : UInt8), (8 : UInt8)].append [(8 : UInt8), (8 : UInt8), (8 : UInt8), (8 : UInt8), (8 : UInt8), (8 : UInt8), (8 : UInt8), (8 : UInt8), (8 : UInt8), (8 : UInt8), (8 : UInt8), (8 : UInt8), (8 : UInt8), (8 : UInt8), (8 : UInt8), (8 : UInt8), (8 : UInt8), (8 : UInt8), (8 : UInt8), (8 : UInt8), (8 : UInt8), (8 : UInt8), (8 : UInt8), (8 : UInt8), (8 : UInt8), (8 : UInt8), (8 : UInt8), (8 : UInt8), (8 : UInt8), (8 : UInt8), (8 : UInt8), (8 : UInt8), (8 : UInt8), (8 : UInt8), (8 : UInt8), (8 : UInt8), (8 : UInt8), (8 : UInt8), (8 : UInt8), (8 : UInt8), (8 : UInt8), (8 : UInt8), (8 : UInt8), (8 : UInt8), (8 : UInt8), (8 : UInt8), (8 : UInt8), (8 : UInt8), (8 : UInt8), (8 : UInt8), (8 : UInt8), (8 : UInt8), (8 : UInt8), (8 : UInt8), (8 : UInt8), (8 : UInt8), (8 : UInt8), (8 : UInt8), (8 : UInt8), (8 : UInt8), (8 : UInt8), (8 : UInt8), (8 : UInt8), (8 : UInt8)])).toArray.getD (uw IntKind.u8 ((↑a : Int) / (4294967296 : Int) / (65536 : Int))).toNat (0 : UInt8)).toNat : Int) = (↑b : Int) ∧
  ((1 : Nat) ≤ b ∧
  b ≤ (8 : Nat) ∧
  a < (2 : Nat) ^ b ∧
  (2 : Nat) ^ b ≤ (2 : Nat) * a) ∧
  True)) ∧
  (Decidable.decide ((65536 : Int) ≤ (↑a : Int) / (4294967296 : Int)) = Bool.false →
  (Decidable.decide ((256 : Int) ≤ (↑a : Int) / (4294967296 : Int)) = Bool.true →
  (0 : Int) ≤ (8 : Int) ∧
  ((0 : Int) ≤ uw IntKind.u8 ((↑a : Int) / (4294967296 : Int) / (256 : Int)) ∧
  uw IntKind.u8 ((↑a : Int) / (4294967296 : Int) / (256 : Int)) < (256 : Int)) ∧
  InR IntKind.i64 ((40 : Int) + (↑((([(0 : UInt8), (1 : UInt8), (2 : UInt8), (2 : UInt8), (3 : UInt8), (3 : UInt8), (3 : UInt8), (3 : UInt8), (4 : UInt8), (4 : UInt8), (4 : UInt8), (4 : UInt8), (4 : UInt8), (4 : UInt8), (4 : UInt8), (4 : UInt8), (5 : UInt8), (5 : UInt8), (5 : UInt8), (5 : UInt8), (5 : UInt8), (5 : UInt8), (5 : UInt8), (5 : UInt8), (5 : UInt8), (5 : UInt8), (5 : UInt8), (5 : UInt8), (5 : UInt8), (5 : UInt8), (5 : UInt8), (5 : UInt8), (6 : UInt8), (6 : UInt8), (6 : UInt8), (6 : UInt8), (6 : UInt8), (6 : UInt8), (6 : UInt8), (6 : UInt8), (6 : UInt8), (6 : UInt8), (6 : UInt8), (6 : UInt8), (6 : UInt8), (6 : UInt8), (6 : UInt8), (6 : UInt8), (6 : UInt8), (6 : UInt8), (6 : UInt8), (6 : UInt8), (6 : UInt8), (6 : UInt8), (6 : UInt8), (6 : UInt8), (6 : UInt8), (6 : UInt8), (6 : UInt8), (6 : UInt8), (6 : UInt8), (6 : UInt8), (6 : UInt8), (6 : UInt8)].append [(7 : UInt8), (7 : UInt8), (7 : UInt8), (7 : UInt8), (7 : UInt8), (7 : UInt8), (7 : UInt8), (7 : UInt8), (7 : UInt8), (7 : UInt8), (7 : UInt8), (7 : UInt8), (7 : UInt8), (7 : UInt8), (7 : UInt8), (7 : UInt8), (7 : UInt8), (7 : UInt8), (7 : UInt8), (7 : UInt8), (7 : UInt8), (7 : UInt8), (7 : UInt8), (7 : UInt8), (7 : UInt8), (7 : UInt8), (7 : UInt8), (7 : UInt8), (7 : UInt8), (7 : UInt8), (7 : UInt8), (7 : UInt8), (7 : UInt8), (7 : UInt8), (7 : UInt8), (7 : UInt8), (7 : UInt8), (7 : UInt8), (7 : UInt8), (7 : UInt8), (7 : UInt8), (7 : UInt8), (7 : UInt8), (7 : UInt8), (7 : UInt8), (7 : UInt8), (7 : UInt8), (7 : UInt8), (7 : UInt8), (7 : UInt8), (7 : UInt8), (7 : UInt8), (7 : UInt8), (7 : UInt8), (7 : UInt8), (7 : UInt8), (7 : UInt8), (7 : UInt8), (7 : UInt8), (7 : UInt8), (7 : UInt8), (7 : UInt8), (7 : UInt8), (7 : UInt8)]).append ([(8 : UInt8), (8 : UInt8), (8 : UInt8), (8 : UInt8), (8 : UInt8), (8 : UInt8), (8 : UInt8), (8 : UInt8), (8 : UInt8), (8 : UInt8), (8 : UInt8), (8 : UInt8), (8 : UInt8), (8 : UInt8), (8 : UInt8), (8 : UInt8), (8 : UInt8), (8 : UInt8), (8 : UInt8), (8 : UInt8), (8 : UInt8), (8 : UInt8), (8 : UInt8), (8 : UInt8), (8 : UInt8), (8 : UInt8), (8 : UInt8), (8 : UInt8), (8 : UInt8), (8 : UInt8), (8 : UInt8), (8 : UInt8), (8 : UInt8), (8 : UInt8), (8 : UInt8), (8 : UInt8), (8 : UInt8), (8 : UInt8), (8 : UInt8), (8 : UInt8), (8 : UInt8), (8 : UInt8), (8 : UInt8), (8 : UInt8), (8 : UInt8), (8 : UInt8), (8 : UInt8), (8 : UInt8), (8 : UInt8), (8 : UInt8), (8 : UInt8), (8 : UInt8), (8 : UInt8), (8 : UInt8), (8 : UInt8), (8 : UInt8), (8 : UInt8), (8 : UInt8), (8 : UInt8), (8 : UInt8), (8 : UInt8), (8 : UInt8), (8 : UInt8), (8 : UInt8)].append [(8 : UInt8), (8 : UInt8), (8 : UInt8), (8 : UInt8), (8 : UInt8), (8 : UInt8), (8 : UInt8), (8 : UInt8), (8 : UInt8), (8 : UInt8), (8 : UInt8), (8 : UInt8), (8 : UInt8), (8 : UInt8), (8 : UInt8), (8 : UInt8), (8 : UInt8), (8 : UInt8), (8 : UInt8), (8 : UInt8), (8 : UInt8), (8 : UInt8), (8 : UInt8), (8 : UInt8), (8 : UInt8), (8 : UInt8), (8 : UInt8), (8 : UInt8), (8 : UInt8), (8 : UInt8), (8 : UInt8), (8 : UInt8), (8 : UInt8), (8 : UInt8), (8 : UInt8), (8 : UInt8), (8 : UInt8), (8 : UInt8), (8 : UInt8), (8 : UInt8), (8 : UInt8), (8 : UInt8), (8 : UInt8), (8 : UInt8), (8 : UInt8), (8 : UInt8), (8 : UInt8), (8 : UInt8), (8 : UInt8), (8 : UInt8), (8 : UInt8), (8 : UInt8), (8 : UInt8), (8 : UInt8), (8 : UInt8), (8 : UInt8), (8 : UInt8), (8 : UInt8), (8 : UInt8), (8 : UInt8), (8 : UInt8), (8 : UInt8), (8 : UInt8), (8 : UInt8)])).toArray.getD (uw IntKind.u8 ((↑a : Int) / (4294967296 : Int) / (256 : Int))).toNat (0 : UInt8)).toNat : Int)) ∧
  ∃ (b : Nat), (40 : Int) + (↑((([(0 : UInt8), (1 : UInt8), (2 : UInt8), (2 : UInt8), (3 : UInt8), (3 : UInt8), (3 : UInt8), (3 : UInt8), (4 : UInt8), (4 : UInt8), (4 : UInt8), (4 : UInt8), (4 : UInt8), (4 : UInt8), (4 : UInt8), (4 : UInt8), (5 : UInt8), (5 : UInt8), (5 : UInt8), (5 : UInt8), (5 : UInt8), (5 : UInt8), (5 : UInt8), (5 : UInt8), (5 : UInt8), (5 : UInt8), (5 : UInt8), (5 : UInt8), (5 : UInt8), (5 : UInt8), (5 : UInt8), (5 : UInt8), (6 : UInt8), (6 : UInt8), (6 : UInt8), (6 : UInt8), (6 : UInt8), (6 : UInt8), (6 : UInt8), (6 : UInt8), (6 : UInt8), (6 : UInt8), (6 : UInt8), (6 : UInt8), (6 : UInt8), (6 : UInt8), (6 : UInt8), (6 : UInt8), (6 : UInt8), (6 : UInt8), (6 : UInt8), (6 : UInt8), (6 : UInt8), (6 : UInt8), (6 : UInt8), (6 : UInt8), (6 : UInt8), (6 : UInt8), (6 : UInt8), (6 : UInt8), (6 : UInt8), (6 : UInt8), (6 : UInt8), (6 : UInt8)].append [(7 : UInt8), (7 : UInt8), (7 : UInt8), (7 : UInt8), (7 : UInt8), (7 : UInt8), (7 : UInt8), (7 : UInt8), (7 : UInt8), (7 : UInt8), (7 : UInt8), (7 : UInt8), (7 : UInt8), (7 : UInt8), (7 : UInt8), (7 : UInt8), (7 : UInt8), (7 : UInt8), (7 : UInt8), (7 : UInt8), (7 : UInt8), (7 : UInt8), (7 : UInt8), (7 : UInt8), (7 : UInt8), (7 : UInt8), (7 : UInt8), (7 : UInt8), (7 : UInt8), (7 : UInt8), (7 : UInt8), (7 : UInt8), (7 : UInt8), (7 : UInt8), (7 : UInt8), (7 : UInt8), (7 : UInt8), (7 : UInt8), (7 : UInt8), (7 : UInt8), (7 : UInt8), (7 : UInt8), (7 : UInt8), (7 : UInt8), (7 : UInt8), (7 : UInt8), (7 : UInt8), (7 : UInt8), (7 : UInt8), (7 : UInt8), (7 : UInt8), (7 : UInt8), (7 : UInt8), (7 : UInt8), (7 : UInt8), (7 : UInt8), (7 : UInt8), (7 : UInt8), (7 : UInt8), (7 : UInt8), (7 : UInt8), (7 : UInt8), (7 : UInt8), (7 : UInt8)]).append ([(8 : UInt8), (8 : UInt8), (8 : UInt8), (8 : UInt8), (8 : UInt8), (8 : UInt8), (8 : UInt8), (8 : UInt8), (8 : UInt8), (8 : UInt8), (8 : UInt8), (8 : UInt8), (8 : UInt8), (8 : UInt8), (8 : UInt8), (8 : UInt8), (8 : UInt8), (8 : UInt8), (8 : UInt8), (8 : UInt8), (8 : UInt8), (8 : UInt8), (8 : UInt8), (8 : UInt8), (8 : UInt8), (8 : UInt8), (8 : UInt8), (8 : UInt8), (8 : UInt8), (8 : UInt8), (8 : UInt8), (8 : UInt8), (8 : UInt8), (8 : UInt8), (8 : UInt8), (8 : UInt8), (8 : UInt8), (8 : UInt8), (8 : UInt8), (8 : UInt8), (8 : UInt8), (8 : UInt8), (8 : UInt8), (8 : UInt8), (8 : UInt8), (8 : UInt8), (8 : UInt8), (8 : UInt8), (8 : UInt8), (8 : UInt8), (8 : UInt8), (8 : UInt8), (8 : UInt8), (8 : UInt8), (8 : UInt8), (8 : UInt8), (8 : UInt8), (8 : UInt8), (8 : UInt8), (8 : UInt8), (8 : UInt8), (8 : UInt8), (8 : UInt8), (8 : UInt8)].append [(8 : UInt8), (8 : UInt8), (8 : UInt8), (8 : UInt8), (8 : UInt8), (8 : UInt8), (8 : UInt8), (8 : UInt8), (8 : UInt8), (8 : UInt8), (8 : UInt8), (8 : UInt8), (8 : UInt8), (8 : UInt8), (8 : UInt8), (8 : UInt8), (8 : UInt8), (8 : UInt8), (8 : UInt8), (8 : UInt8), (8 : UInt8), (8 : UInt8), (8 : UInt8), (8 : UInt8), (8 : UInt8), (8 : UInt8), (8 : UInt8), (8 : UInt8), (8 : UInt8), (8 : UInt8), (8 : UInt8), (8 : UInt8), (8 : UInt8), (8 : UInt8), (8 : UInt8), (8 : UInt8), (8 : UInt8), (8 : UInt8), (8 : UInt8), (8 : UInt8), (8 : UInt8), (8 : UInt8), (8 : UInt8), (8 : UInt8), (8 : UInt8), (8 : UInt8), (8 : UInt8), (8 : UInt8), (8 : UInt8), (8 : UInt8), (8 : UInt8), (8 : UInt8), (8 : UInt8), (8 : UInt8), (8 : UInt8), (8 : UInt8), (8 : UInt8), (8 : UInt8), (8 : UInt8), (8 : UInt8), (8 : UInt8), (8 : UInt8), (8 : UInt8), (8 : UInt8)])).toArray.getD (uw IntKind.u8 ((↑a : Int) / (4294967296 : Int) / (256 : Int))).toNat (0 : UInt8)).toNat : Int) = (↑b : Int) ∧
  ((1 : Nat) ≤ b ∧
  b ≤ (8 : Nat) ∧
  a < (2 : Nat) ^ b ∧
  (2 : Nat) ^ b ≤ (2 : Nat) * a) ∧
  True) ∧
  (Decidable.decide ((256 : Int) ≤ (↑a : Int) / (4294967296 : Int)) = Bool.false →
  ((0 : Int) ≤ uw IntKind.u8 ((↑a : Int) / (4294967296 : Int)) ∧
  uw IntKind.u8 ((↑a : Int) / (4294967296 : Int)) < (256 : Int)) ∧
  InR IntKind.i64 ((32 : Int) + (↑((([(0 : UInt8), (1 : UInt8), (2 : UInt8), (2 : UInt8), (3 : UInt8), (3 : UInt8), (3 : UInt8), (3 : UInt8), (4 : UInt8), (4 : UInt8), (4 : UInt8), (4 : UInt8), (4 : UInt8), (4 : UInt8), (4 : UInt8), (4 : UInt8), (5 : UInt8), (5 : UInt8), (5 : UInt8), (5 : UInt8), (5 : UInt8), (5 : UInt8), (5 : UInt8), (5 : UInt8), (5 : UInt8), (5 : UInt8), (5 : UInt8), (5 : UInt8), (5 : UInt8), (5 : UInt8), (5 : UInt8), (5 : UInt8), (6 : UInt8), (6 : UInt8), (6 : UInt8), (6 : UInt8), (6 : UInt8), (6 : UInt8), (6 : UInt8), (6 : UInt8), (6 : UInt8), (6 : UInt8), (6 : UInt8), (6 : UInt8), (6 : UInt8), (6 : UInt8), (6 : UInt8), (6 : UInt8), (6 : UInt8), (6 : UInt8), (6 : UInt8), (6 : UInt8), (6 : UInt8), (6 : UInt8), (6 : UInt8), (6 : UInt8), (6 : UInt8), (6 : UInt8), (6 : UInt8), (6 : UInt8), (6 : UInt8), (6 : UInt8), (6 : UInt8), (6 : UInt8)].append [(7 : UInt8), (7 : UInt8), (7 : UInt8), (7 : UInt8), (7 : UInt8), (7 : UInt8), (7 : UInt8), (7 : UInt8), (7 : UInt8), (7 : UInt8), (7 : UInt8), (7 : UInt8), (7 : UInt8), (7 : UInt8), (7 : UInt8), (7 : UInt8), (7 : UInt8), (7 : UInt8), (7 : UInt8), (7 : UInt8), (7 : UInt8), (7 : UInt8), (7 : UInt8), (7 : UInt8), (7 : UInt8), (7 : UInt8), (7 : UInt8), (7 : UInt8), (7 : UInt8), (7 : UInt8), (7 : UInt8), (7 : UInt8), (7 : UInt8), (7 : UInt8), (7 : UInt8), (7 : UInt8), (7 : UInt8), (7 : UInt8), (7 : UInt8), (7 : UInt8), (7 : UInt8), (7 : UInt8), (7 : UInt8), (7 : UInt8), (7 : UInt8), (7 : UInt8), (7 : UInt8), (7 : UInt8), (7 : UInt8), (7 : UInt8), (7 : UInt8), (7 : UInt8), (7 : UInt8), (7 : UInt8), (7 : UInt8), (7 : UInt8), (7 : UInt8), (7 : UInt8), (7 : UInt8), (7 : UInt8), (7 : UInt8), (7 : UInt8), (7 : UInt8), (7 : UInt8)]).append ([(8 : UInt8), (8 : UInt8), (8 : UInt8), (8 : UInt8), (8 : UInt8), (8 : UInt8), (8 : UInt8), (8 : UInt8), (8 : UInt8), (8 : UInt8), (8 : UInt8), (8 : UInt8), (8 : UInt8), (8 : UInt8), (8 : UInt8), (8 : UInt8), (8 : UInt8), (8 : UInt8), (8 : UInt8), (8 : UInt8), (8 : UInt8), (8 : UInt8), (8 : UInt8), (8 : UInt8), (8 : UInt8), (8 : UInt8), (8 : UInt8), (8 : UInt8), (8 : UInt8), (8 : UInt8), (8 : UInt8), (8 : UInt8), (8 : UInt8), (8 : UInt8), (8 : UInt8), (8 : UInt8), (8 : UInt8), (8 : UInt8), (8 : UInt8), (8 : UInt8), (8 : UInt8), (8 : UInt8), (8 : UInt8), (8 : UInt8), (8 : UInt8), (8 : UInt8), (8 : UInt8), (8 : UInt8), (8 : UInt8), (8 : UInt8), (8 : UInt8), (8 : UInt8), (8 : UInt8), (8 : UInt8), (8 : UInt8), (8 : UInt8), (8 : UInt8), (8 : UInt8), (8 : UInt8), (8 : UInt8), (8 : UInt8), (8 : UInt8), (8 : UInt8), (8 : UInt8)].append [(8 : UInt8), (8 : UInt8), (8 : UInt8), (8 : UInt8), (8 : UInt8), (8 : UInt8), (8 : UInt8), (8 : UInt8), (8 : UInt8), (8 : UInt8), (8 : UInt8), (8 : UInt8), (8 : UInt8), (8 : UInt8), (8 : UInt8), (8 : UInt8), (8 : UInt8), (8 : UInt8), (8 : UInt8), (8 : UInt8), (8 : UInt8), (8 : UInt8), (8 : UInt8), (8 : UInt8), (8 : UInt8), (8 : UInt8), (8 : UInt8), (8 : UInt8), (8 : UInt8), (8 : UInt8), (8 : UInt8), (8 : UInt8), (8 : UInt8), (8 : UInt8), (8 : UInt8), (8 : UInt8), (8 : UInt8), (8 : UInt8), (8 : UInt8), (8 : UInt8), (8 : UInt8), (8 : UInt8), (8 : UInt8), (8 : UInt8), (8 : UInt8), (8 : UInt8), (8 : UInt8), (8 : UInt8), (8 : UInt8), (8 : UInt8), (8 : UInt8), (8 : UInt8), (8 : UInt8), (8 : UInt8), (8 : UInt8), (8 : UInt8), (8 : UInt8), (8 : UInt8), (8 : UInt8), (8 : UInt8), (8 : UInt8), (8 : UInt8), (8 : UInt8), (8 : UInt8)])).toArray.getD (uw IntKind.u8 ((↑a : Int) / (4294967296 : Int))).toNat (0 : UInt8)).toNat : Int)) ∧
  ∃ (b : Nat), (32 : Int) + (↑((([(0 : UInt8), (1 : UInt8), (2 : UInt8), (2 : UInt8), (3 : UInt8), (3 : UInt8), (3 : UInt8), (3 : UInt8), (4 : UInt8), (4 : UInt8), (4 : UInt8), (4 : UInt8), (4 : UInt8), (4 : UInt8), (4 : UInt8), (4 : UInt8), (5 : UInt8), (5 : UInt8), (5 : UInt8), (5 : UInt8), (5 : UInt8), (5 : UInt8), (5 : UInt8), (5 : UInt8), (5 : UInt8), (5 : UInt8), (5 : UInt8), (5 : UInt8), (5 : UInt8), (5 : UInt8), (5 : UInt8), (5 : UInt8), (6 : UInt8), (6 : UInt8), (6 : UInt8), (6 : UInt8), (6 : UInt8), (6 : UInt8), (6 : UInt8), (6 : UInt8), (6 : UInt8), (6 : UInt8), (6 : UInt8), (6 : UInt8), (6 : UInt8), (6 : UInt8), (6 : UInt8), (6 : UInt8), (6 : UInt8), (6 : UInt8), (6 : UInt8), (6 : UInt8), (6 : UInt8), (6 : UInt8), (6 : UInt8), (6 : UInt8), (6 : UInt8), (6 : UInt8), (6 : UInt8), (6 : UInt8), (6 : UInt8), (6 : UInt8), (6 : UInt8), (6 : UInt8)].append [(7 : UInt8), (7 : UInt8), (7 : UInt8), (7 : UInt8), (7 : UInt8), (7 : UInt8), (7 : UInt8), (7 : UInt8), (7 : UInt8), (7 : UInt8), (7 : UInt8), (7 : UInt8), (7 : UInt8), (7 : UInt8), (7 : UInt8), (7 : UInt8), (7 : UInt8), (7 : UInt8), (7 : UInt8), (7 : UInt8), (7 : UInt8), (7 : UInt8), (7 : UInt8), (7 : UInt8), (7 : UInt8), (7 : UInt8), (7 : UInt8), (7 : UInt8), (7 : UInt8), (7 : UInt8), (7 : UInt8), (7 : UInt8), (7 : UInt8), (7 : UInt8), (7 : UInt8), (7 : UInt8), (7 : UInt8), (7 : UInt8), (7 : UInt8), (7 : UInt8), (7 : UInt8), (7 : UInt8), (7 : UInt8), (7 : UInt8), (7 : UInt8), (7 : UInt8), (7 : UInt8), (7 : UInt8), (7 : UInt8), (7 : UInt8), (7 : UInt8), (7 : UInt8), (7 : UInt8), (7 : UInt8), (7 : UInt8), (7 : UInt8), (7 : UInt8), (7 : UInt8), (7 : UInt8), (7 : UInt8), (7 : UInt8), (7 : UInt8), (7 : UInt8), (7 : UInt8)]).append ([(8 : UInt8), (8 : UInt8), (8 : UInt8), (8 : UInt8), (8 : UInt8), (8 : UInt8), (8 : UInt8), (8 : UInt8), (8 : UInt8), (8 : UInt8), (8 : UInt8), (8 : UInt8), (8 : UInt8), (8 : UInt8), (8 : UInt8), (8 : UInt8), (8 : UInt8), (8 : UInt8), (8 : UInt8), (8 : UInt8), (8 : UInt8), (8 : UInt8), (8 : UInt8), (8 : UInt8), (8 : UInt8), (8 : UInt8), (8 : UInt8), (8 : UInt8), (8 : UInt8), (8 : UInt8), (8 : UInt8), (8 : UInt8), (8 : UInt8), (8 : UInt8), (8 : UInt8), (8 : UInt8), (8 : UInt8), (8 : UInt8), (8 : UInt8), (8 : UInt8), (8 : UInt8), (8 : UInt8), (8 : UInt8), (8 : UInt8), (8 : UInt8), (8 : UInt8), (8 : UInt8), (8 : UInt8), (8 : UInt8), (8 : UInt8), (8 : UInt8), (8 : UInt8), (8 : UInt8), (8 : UInt8), (8 : UInt8), (8 : UInt8), (8 : UInt8), (8 : UInt8), (8 : UInt8), (8 : UInt8), (8 : UInt8), (8 : UInt8), (8 : UInt8), (8 : UInt8)].append [(8 : UInt8), (8 : UInt8), (8 : UInt8), (8 : UInt8), (8 : UInt8), (8 : UInt8), (8 : UInt8), (8 : UInt8), (8 : UInt8), (8 : UInt8), (8 : UInt8), (8 : UInt8), (8 : UInt8), (8 : UInt8), (8 : UInt8), (8 : UInt8), (8 : UInt8), (8 : UInt8), (8 : UInt8), (8 : UInt8), (8 : UInt8), (8 : UInt8), (8 : UInt8), (8 : UInt8), (8 : UInt8), (8 : UInt8), (8 : UInt8), (8 : UInt8), (8 : UInt8), (8 : UInt8), (8 : UInt8), (8 : UInt8), (8 : UInt8), (8 : UInt8), (8 : UInt8), (8 : UInt8), (8 : UInt8), (8 : UInt8), (8 : UInt8), (8 : UInt8), (8 : UInt8), (8 : UInt8), (8 : UInt8), (8 : UInt8), (8 : UInt8), (8 : UInt8), (8 : UInt8), (8 : UInt8), (8 : UInt8), (8 : UInt8), (8 : UInt8), (8 : UInt8), (8 : UInt8), (8 : UInt8), (8 : UInt8), (8 : UInt8), (8 : UInt8), (8 : UInt8), (8 : UInt8), (8 : UInt8), (8 : UInt8), (8 : UInt8), (8 : UInt8), (8 : UInt8)])).toArray.getD (uw IntKind.u8 ((↑a : Int) / (4294967296 : Int))).toNat (0 : UInt8)).toNat : Int) = (↑b : Int) ∧
  ((1 : Nat) ≤ b ∧
  b ≤ (8 : Nat) ∧
  a < (2 : Nat) ^ b ∧
  (2 : Nat) ^ b ≤ (2 : Nat) * a) ∧
  True))) ∧
  (Decidable.decide ((4294967296 : Int) ≤ (↑a : Int)) = Bool.false →
  (Decidable.decide ((65536 : Int) ≤ (↑a : Int)) = Bool.true →
  (0 : Int) ≤ (16 : Int) ∧
  (Decidable.decide ((256 : Int) ≤ (↑a : Int) / (65536 : Int)) = Bool.true →
  (0 : Int) ≤ (8 : Int) ∧
  ((0 : Int) ≤ uw IntKind.u8 ((↑a : Int) / (65536 : Int) / (256 : Int)) ∧
  uw IntKind.u8 ((↑a : Int) / (65536 : Int) / (256 : Int)) < (256 : Int)) ∧
  InR IntKind.i64 ((24 : Int) + (↑((([(0 : UInt8), (1 : UInt8), (2 : UInt8), (2 : UInt8), (3 : UInt8), (3 : UInt8), (3 : UInt8), (3 : UInt8), (4 : UInt8), (4 : UInt8), (4 : UInt8), (4 : UInt8), (4 : UInt8), (4 : UInt8), (4 : UInt8), (4 : UInt8), (5 : UInt8), (5 : UInt8), (5 : UInt8), (5 : UInt8), (5 : UInt8), (5 : UInt8), (5 : UInt8), (5 : UInt8), (5 : UInt8), (5 : UInt8), (5 : UInt8), (5 : UInt8), (5 : UInt8), (5 : UInt8), (5 : UInt8), (5 : UInt8), (6 : UInt8), (6 : UInt8), (6 : UInt8), (6 : UInt8), (6 : UInt8), (6 : UInt8), (6 : UInt8), (6 : UInt8), (6 : UInt8), (6 : UInt8), (6 : UInt8), (6 : UInt8), (6 : UInt8), (6 : UInt8), (6 : UInt8), (6 : UInt8), (6 : UInt8), (6 : UInt8), (6 : UInt8), (6 : UInt8), (6 : UInt8), (6 : UInt8), (6 : UInt8), (6 : UInt8), (6 : UInt8), (6 : UInt8), (6 : UInt8), (6 : UInt8), (6 : UInt8), (6 : UInt8), (6 : UInt8), (6 : UInt8)].append [(7 : UInt8), (7 : UInt8), (7 : UInt8), (7 : UInt8), (7 : UInt8), (7 : UInt8), (7 : UInt8), (7 : UInt8), (7 : UInt8), (7 : UInt8), (7 : UInt8), (7 : UInt8), (7 : UInt8), (7 : UInt8), (7 : UInt8), (7 : UInt8), (7 : UInt8), (7 : UInt8), (7 : UInt8), (7 : UInt8), (7 : UInt8), (7 : UInt8), (7 : UInt8), (7 : UInt8), (7 : UInt8), (7 : UInt8), (7 : UInt8), (7 : UInt8), (7 : UInt8), (7 : UInt8), (7 : UInt8), (7 : UInt8), (7 : UInt8), (7 : UInt8), (7 : UInt8), (7 : UInt8), (7 : UInt8), (7 : UInt8), (7 : UInt8), (7 : UInt8), (7 : UInt8), (7 : UInt8), (7 : UInt8), (7 : UInt8), (7 : UInt8), (7 : UInt8), (7 : UInt8), (7 : UInt8), (7 : UInt8), (7 : UInt8), (7 : UInt8), (7 : UInt8), (7 : UInt8), (7 : UInt8), (7 : UInt8), (7 : UInt8), (7 : UInt8), (7 : UInt8), (7 : UInt8), (7 : UInt8), (7 : UInt8), (7 : UInt8), (7 : UInt8), (7 : UInt8)]).append ([(8 : UInt8), (8 : UInt8), (8 : UInt8), (8 : UInt8), (8 : UInt8), (8 : UInt8), (8 : UInt8), (8 : UInt8), (8 : UInt8), (8 : UInt8), (8 : UInt8), (8 : UInt8), (8 : UInt8), (8 : UInt8), (8 : UInt8), (8 : UInt8), (8 : UInt8), (8 : UInt8), (8 : UInt8), (8 : UInt8), (8 : UInt8), (8 : UInt8), (8 : UInt8), (8 : UInt8), (8 : UInt8), (8 : UInt8), (8 : UInt8), (8 : UInt8), (8 : UInt8), (8 : UInt8), (8 : UInt8), (8 : UInt8), (8 : UInt8), (8 : UInt8), (8 : UInt8), (8 : UInt8), (8 : UInt8), (8 : UInt8), (8 : UInt8), (8 : UInt8), (8 : UInt8), (8 : UInt8), (8 : UInt8), (8 : UInt8), (8 : UInt8), (8 : UInt8), (8 : UInt8), (8 : UInt8), (8 : UInt8), (8 : UInt8), (8 : UInt8), (8 : UInt8), (8 : UInt8), (8 : UInt8), (8 : UInt8), (8 : UInt8), (8 : UInt8), (8 : UInt8), (8 : UInt8), (8 : UInt8), (8 : UInt8), (8 : UInt8), (8 : UInt8), (8 : UInt8)].append [(8 : UInt8), (8 : UInt8), (8 : UInt8), (8 : UInt8), (8 : UInt8), (8 : UInt8), (8 : UInt8), (8 : UInt8), (8 : UInt8), (8 : UInt8), (8 : UInt8), (8 : UInt8), (8 : UInt8), (8 : UInt8), (8 : UInt8), (8 : UInt8), (8 : UInt8), (8 : UInt8), (8 : UInt8), (8 : UInt8), (8 : UInt8), (8 : UInt8), (8 : UInt8), (8 : UInt8), (8 : UInt8), (8 : UInt8), (8 : UInt8), (8 : UInt8), (8 : UInt8), (8 : UInt8), (8 : UInt8), (8 : UInt8), (8 : UInt8), (8 : UInt8), (8 : UInt8), (8 : UInt8), (8 : UInt8), (8 : UInt8), (8 : UInt8), (8 : UInt8), (8 : UInt8), (8 : UInt8), (8 : UInt8), (8 : UInt8), (8 : UInt8), (8 : UInt8), (8 : UInt8), (8 : UInt8), (8 : UInt8), (8 : UInt8), (8 : UInt8), (8 : UInt8), (8 : UInt8), (8 : UInt8), (8 : UInt8), (8 : UInt8), (8 : UInt8), (8 : UInt8), (8 : UInt8), (8 : UInt8), (8 : UInt8), (8 : UInt8), (8 : UInt8), (8 : UInt8)])).toArray.getD (uw IntKind.u8 ((↑a : Int) / (65536 : Int) / (256 : Int))).toNat (0 : UInt8)).toNat : Int)) ∧
  ∃ (b : Nat), (24 : Int) + (↑((([(0 : UInt8), (1 : UInt8), (2 : UInt8), (2 : UInt8), (3 : UInt8), (3 : UInt8), (3 : UInt8), (3 : UInt8), (4 : UInt8), (4 : UInt8), (4 : UInt8), (4 : UInt8), (4 : UInt8), (4 : UInt8), (4 : UInt8), (4 : UInt8), (5 : UInt8), (5 : UInt8), (5 : UInt8), (5 : UInt8), (5 : UInt8), (5 : UInt8), (5 : UInt8), (5 : UInt8), (5 : UInt8), (5 : UInt8), (5 : UInt8), (5 : UInt8), (5 : UInt8), (5 : UInt8), (5 : UInt8), (5 : UInt8), (6 : UInt8), (6 : UInt8), (6 : UInt8), (6 : UInt8), (6 : UInt8), (6 : UInt8), (6 : UInt8), (6 : UInt8), (6 : UInt8), (6 : UInt8), (6 : UInt8), (6 : UInt8), (6 : UInt8), (6 : UInt8), (6 : UInt8), (6 : UInt8), (6 : UInt8), (6 : UInt8), (6 : UInt8), (6 : UInt8), (6 : UInt8), (6 : UInt8), (6 : UInt8), (6 : UInt8), (6 : UInt8), (6 : UInt8), (6 : UInt8), (6 : UInt8), (6 : UInt8), (6 : UInt8), (6 : UInt8), (6 : UInt8)].append [(7 : UInt8), (7 : UInt8), (7 : UInt8), (7 : UInt8), (7 : UInt8), (7 : UInt8), (7 : UInt8), (7 : UInt8), (7 : UInt8), (7 : UInt8), (7 : UInt8), (7 : UInt8), (7 : UInt8), (7 : UInt8), (7 : UInt8), (7 : UInt8), (7 : UInt8), (7 : UInt8), (7 : UInt8), (7 : UInt8), (7 : UInt8), (7 : UInt8), (7 : UInt8), (7 : UInt8), (7 : UInt8), (7 : UInt8), (7 : UInt8), (7 : UInt8), (7 : UInt8), (7 : UInt8), (7 : UInt8), (7 : UInt8), (7 : UInt8), (7 : UInt8), (7 : UInt8), (7 : UInt8), (7 : UInt8), (7 : UInt8), (7 : UInt8), (7 : UInt8), (7 : UInt8), (7 : UInt8), (7 : UInt8), (7 : UInt8), (7 : UInt8), (7 : UInt8), (7 : UInt8), (7 : UInt8), (7 : UInt8), (7 : UInt8), (7 : UInt8), (7 : UInt8), (7 : UInt8), (7 : UInt8), (7 : UInt8), (7 : UInt8), (7 : UInt8), (7 : UInt8), (7 : UInt8), (7 : UInt8), (7 : UInt8), (7 : UInt8), (7 : UInt8), (7 : UInt8)]).append ([(8 : UInt8), (8 : UInt8), (8 : UInt8), (8 : UInt8), (8 : UInt8), (8 : UInt8), (8 : UInt8), (8 : UInt8), (8 : UInt8), (8 : UInt8), (8 : UInt8), (8 : UInt8), (8 : UInt8), (8 : UInt8), (8 : UInt8), (8 : UInt8), (8 : UInt8), (8 : UInt8), (8 : UInt8), (8 : UInt8), (8 : UInt8), (8 : UInt8), (8 : UInt8), (8 : UInt8), (8 : UInt8), (8 : UInt8), (8 : UInt8), (8 : UInt8), (8 : UInt8), (8 : UInt8), (8 : UInt8), (8 : UInt8), (8 : UInt8), (8 : UInt8), (8 : UInt8), (8 : UInt8), (8 : UInt8), (8 : UInt8), (8 : UInt8), (8 : UInt8), (8 : UInt8), (8 : UInt8), (8 : UInt8), (8 : UInt8), (8 : UInt8), (8 : UInt8), (8 : UInt8), (8 : UInt8), (8 : UInt8), (8 : UInt8), (8 : UInt8), (8 : UInt8), (8 : UInt8), (8 : UInt8), (8 : UInt8), (8 : UInt8), (8 : UInt8), (8 : UInt8), (8 : UInt8), (8 : UInt8), (8 : UInt8), (8 : UInt8), (8 : UInt8), (8 : UInt8)].append [(8 : UInt8), (8 : UInt8), (8 : UInt8), (8 : UInt8), (8 : UInt8), (8 : UInt8), (8 : UInt8), (8 : UInt8), (8 : UInt8), (8 : UInt8), (8 : UInt8), (8 : UInt8), (8 : UInt8), (8 : UInt8), (8 : UInt8), (8 : UInt8), (8 : UInt8), (8 : UInt8), (8 : UInt8), (8 : UInt8), (8 : UInt8), (8 : UInt8), (8 : UInt8), (8 : UInt8), (8 : UInt8), (8 : UInt8), (8 : UInt8), (8 : UInt8), (8 : UInt8), (8 : UInt8), (8 : UInt8), (8 : UInt8), (8 : UInt8), (8 : UInt8), (8 : UInt8), (8 : UInt8), (8 : UInt8), (8 : UInt8), (8 : UInt8), (8 : UInt8), (8 : UInt8), (8 : UInt8), (8 : UInt8), (8 : UInt8), (8 : UInt8), (8 : UInt8), (8 : UInt8), (8 : UInt8), (8 : UInt8), (8 : UInt8), (8 : UInt8), (8 : UInt8), (8 : UInt8), (8 : UInt8), (8 : UInt8), (8 : UInt8), (8 : UInt8), (8 : UInt8), (8 : UInt8), (8 : UInt8), (8 : UInt8), (8 : UInt8), (8 : UInt8), (8 : UInt8)])).toArray.getD (uw IntKind.u8 ((↑a : Int) / (65536 : Int) / (256 : Int))).toNat (0 : UInt8)).toNat : Int) = (↑b : Int) ∧
  ((1 : Nat) ≤ b ∧
  b ≤ (8 : Nat) ∧
  a < (2 : Nat) ^ b ∧
  (2 : Nat) ^ b ≤ (2 : Nat) * a) ∧
  True) ∧
  (Decidable.decide ((256 : Int) ≤ (↑a : Int) / (65536 : Int)) = Bool.false →
  ((0 : Int) ≤ uw IntKind.u8 ((↑a : Int) / (65536 : Int)) ∧
  uw IntKind.u8 ((↑a : Int) / (65536 : Int)) < (256 : Int)) ∧
  InR IntKind.i64 ((16 : Int) + (↑((([(0 : UInt8), (1 : UInt8), (2 : UInt8), (2 : UInt8), (3 : UInt8), (3 : UInt8), (3 : UInt8), (3 : UInt8), (4 : UInt8), (4 : UInt8), (4 : UInt8), (4 : UInt8), (4 : UInt8), (4 : UInt8), (4 : UInt8), (4 : UInt8), (5 : UInt8), (5 : UInt8), (5 : UInt8), (5 : UInt8), (5 : UInt8), (5 : UInt8), (5 : UInt8), (5 : UInt8), (5 : UInt8), (5 : UInt8), (5 : UInt8), (5 : UInt8), (5 : UInt8), (5 : UInt8), (5 : UInt8), (5 : UInt8), (6 : UInt8), (6 : UInt8), (6 : UInt8), (6 : UInt8), (6 : UInt8), (6 : UInt8), (6 : UInt8), (6 : UInt8), (6 : UInt8), (6 : UInt8), (6 : UInt8), (6 : UInt8), (6 : UInt8), (6 : UInt8), (6 : UInt8), (6 : UInt8), (6 : UInt8), (6 : UInt8), (6 : UInt8), (6 : UInt8), (6 : UInt8), (6 : UInt8), (6 : UInt8), (6 : UInt8), (6 : UInt8), (6 : UInt8), (6 : UInt8), (6 : UInt8), (6 : UInt8), (6 : UInt8), (6 : UInt8), (6 : UInt8)].append [(7 : UInt8), (7 : UInt8), (7 : UInt8), (7 : UInt8), (7 : UInt8), (7 : UInt8), (7 : UInt8), (7 : UInt8), (7 : UInt8), (7 : UInt8), (7 : UInt8), (7 : UInt8), (7 : UInt8), (7 : UInt8), (7 : UInt8), (7 : UInt8), (7 : UInt8), (7 : UInt8), (7 : UInt8), (7 : UInt8), (7 : UInt8), (7 : UInt8), (7 : UInt8), (7 : UInt8), (7 : UInt8), (7 : UInt8), (7 : UInt8), (7 : UInt8), (7 : UInt8), (7 : UInt8), (7 : UInt8), (7 : UInt8), (7 : UInt8), (7 : UInt8), (7 : UInt8), (7 : UInt8), (7 : UInt8), (7 : UInt8), (7 : UInt8), (7 : UInt8), (7 : UInt8), (7 : UInt8), (7 : UInt8), (7 : UInt8), (7 : UInt8), (7 : UInt8), (7 : UInt8), (7 : UInt8), (7 : UInt8), (7 : UInt8), (7 : UInt8), (7 : UInt8), (7 : UInt8), (7 : UInt8), (7 : UInt8), (7 : UInt8), (7 : UInt8), (7 : UInt8), (7 : UInt8), (7 : UInt8), (7 : UInt8), (7 : UInt8), (7 : UInt8), (7 : UInt8)]).append ([(8 : UInt8), (8 : UInt8), (8 : UInt8), (8 : UInt8), (8 : UInt8), (8 : UInt8), (8 : UInt8), (8 : UInt8), (8 : UInt8), (8 : UInt8), (8 : UInt8), (8 : UInt8), (8 : UInt8), (8 : UInt8), (8 : UInt8), (8 : UInt8), (8 : UInt8), (8 : UInt8), (8 : UInt8), (8 : UInt8), (8 : UInt8), (8 : UInt8), (8 : UInt8), (8 : UInt8), (8 : UInt8), (8 : UInt8), (8 : UInt8), (8 : UInt8), (8 : UInt8), (8 : UInt8), (8 : UInt8), (8 : UInt8), (8 : UInt8), (8 : UInt8), (8 : UInt8), (8 : UInt8), (8 : UInt8), (8 : UInt8), (8 : UInt8), (8 : UInt8), (8 : UInt8), (8 : UInt8), (8 : UInt8), (8 : UInt8), (8 : UInt8), (8 : UInt8), (8 : UInt8), (8 : UInt8), (8 : UInt8), (8 : UInt8), (8 : UInt8), (8 : UInt8), (8 : UInt8), (8 : UInt8), (8 : UInt8), (8 : UInt8), (8 : UInt8), (8 : UInt8), (8 : UInt8), (8 : UInt8), (8 : UInt8), (8 : UInt8), (8 : UInt8), (8 : UInt8)].append [(8 : UInt8), (8 : UInt8), (8 : UInt8), (8 : UInt8), (8 : UInt8), (8 : UInt8), (8 : UInt8), (8 : UInt8), (8 : UInt8), (8 : UInt8), (8 : UInt8), (8 : UInt8), (8 : UInt8), (8 : UInt8), (8 : UInt8), (8 : UInt8), (8 : UInt8), (8 : UInt8), (8 : UInt8), (8 : UInt8), (8 : UInt8), (8 : UInt8), (8 : UInt8), (8 : UInt8), (8 : UInt8), (8 : UInt8), (8 : UInt8), (8 : UInt8), (8 : UInt8), (8 : UInt8), (8 : UInt8), (8 : UInt8), (8 : UInt8), (8 : UInt8), (8 : UInt8), (8 : UInt8), (8 : UInt8), (8 : UInt8), (8 : UInt8), (8 : UInt8), (8 : UInt8), (8 : UInt8), (8 : UInt8), (8 : UInt8), (8 : UInt8), (8 : UInt8), (8 : UInt8), (8 : UInt8), (8 : UInt8), (8 : UInt8), (8 : UInt8), (8 : UInt8), (8 : UInt8), (8 : UInt8), (8 : UInt8), (8 : UInt8), (8 : UInt8), (8 : UInt8), (8 : UInt8), (8 : UInt8), (8 : UInt8), (8 : UInt8), (8 : UInt8), (8 : UInt8)])).toArray.getD (uw IntKind.u8 ((↑a : Int) / (65536 : Int))).toNat (0 : UInt8)).toNat : Int)) ∧
  ∃ (b : Nat), (16 : Int) + (↑((([(0 : UInt8), (1 : UInt8), (2 : UInt8), (2 : UInt8), (3 : UInt8), (3 : UInt8), (3 : UInt8), (3 : UInt8), (4 : UInt8), (4 : UInt8), (4 : UInt8), (4 : UInt8), (4 : UInt8), (4 : UInt8), (4 : UInt8), (4 : UInt8), (5 : UInt8), (5 : UInt8), (5 : UInt8), (5 : UInt8), (5 : UInt8), (5 : UInt8), (5 : UInt8), (5 : UInt8), (5 : UInt8), (5 : UInt8), (5 : UInt8), (5 : UInt8), (5 : UInt8), (5 : UInt8), (5 : UInt8), (5 : UInt8), (6 : UInt8), (6 : UInt8), (6 : UInt8), (6 : UInt8), (6 : UInt8), (6 : UInt8), (6 : UInt8), (6 : UInt8), (6 : UInt8), (6 : UInt8), (6 : UInt8), (6 : UInt8), (6 : UInt8), (6 : UInt8), (6 : UInt8), (6 : UInt8), (6 : UInt8), (6 : UInt8), (6 : UInt8), (6 : UInt8), (6 : UInt8), (6 : UInt8), (6 : UInt8), (6 : UInt8), (6 : UInt8), (6 : UInt8), (6 : UInt8), (6 : UInt8), (6 : UInt8), (6 : UInt8), (6 : UInt8), (6 : UInt8)].append [(7 : UInt8), (7 : UInt8), (7 : UInt8), (7 : UInt8), (7 : UInt8), (7 : UInt8), (7 : UInt8), (7 : UInt8), (7 : UInt8), (7 : UInt8), (7 : UInt8), (7 : UInt8), (7 : UInt8), (7 : UInt8), (7 : UInt8), (7 : UInt8), (7 : UInt8), (7 : UInt8), (7 : UInt8), (7 : UInt8), (7 : UInt8), (7 : UInt8), (7 : UInt8), (7 : UInt8), (7 : UInt8), (7 : UInt8), (7 : UInt8), (7 : UInt8), (7 : UInt8), (7 : UInt8), (7 : UInt8), (7 : UInt8), (7 : UInt8), (7 : UInt8), (7 : UInt8), (7 : UInt8), (7 : UInt8), (7 : UInt8), (7 : UInt8), (7 : UInt8), (7 : UInt8), (7 : UInt8), (7 : UInt8), (7 : UInt8), (7 : UInt8), (7 : UInt8), (7 : UInt8), (7 : UInt8), (7 : UInt8), (7 : UInt8), (7 : UInt8), (7 : UInt8), (7 : UInt8), (7 : UInt8), (7 : UInt8), (7 : UInt8), (7 : UInt8), (7 : UInt8), (7 : UInt8), (7 : UInt8), (7 : UInt8), (7 : UInt8), (7 : UInt8), (7 : UInt8)]).append ([(8 : UInt8), (8 : UInt8), (8 : UInt8), (8 : UInt8), (8 : UInt8), (8 : UInt8), (8 : UInt8), (8 : UInt8), (8 : UInt8), (8 : UInt8), (8 : UInt8), (8 : UInt8), (8 : UInt8), (8 : UInt8), (8 : UInt8), (8 : UInt8), (8 : UInt8), (8 : UInt8), (8 : UInt8), (8 : UInt8), (8 : UInt8), (8 : UInt8), (8 : UInt8), (8 : UInt8), (8 : UInt8), (8 : UInt8), (8 : UInt8), (8 : UInt8), (8 : UInt8), (8 : UInt8), (8 : UInt8), (8 : UInt8), (8 : UInt8), (8 : UInt8), (8 : UInt8), (8 : UInt8), (8 : UInt8), (8 : UInt8), (8 : UInt8), (8 : UInt8), (8 : UInt8), (8 : UInt8), (8 : UInt8), (8 : UInt8), (8 : UInt8), (8 : UInt8), (8 : UInt8), (8 : UInt8), (8 : UInt8), (8 : UInt8), (8 : UInt8), (8 : UInt8), (8 : UInt8), (8 : UInt8), (8 : UInt8), (8 : UInt8), (8 : UInt8), (8 : UInt8), (8 : UInt8), (8 : UInt8), (8 : UInt8), (8 : UInt8), (8 : UInt8), (8 : UInt8)].append [(8 : UInt8), (8 : UInt8), (8 : UInt8), (8 : UInt8), (8 : UInt8), (8 : UInt8), (8 : UInt8), (8 : UInt8), (8 : UInt8), (8 : UInt8), (8 : UInt8), (8 : UInt8), (8 : UInt8), (8 : UInt8), (8 : UInt8), (8 : UInt8), (8 : UInt8), (8 : UInt8), (8 : UInt8), (8 : UInt8), (8 : UInt8), (8 : UInt8), (8 : UInt8), (8 : UInt8), (8 : UInt8), (8 : UInt8), (8 : UInt8), (8 : UInt8), (8 : UInt8), (8 : UInt8), (8 : UInt8), (8 : UInt8), (8 : UInt8), (8 : UInt8), (8 : UInt8), (8 : UInt8), (8 : UInt8), (8 : UInt8), (8 : UInt8), (8 : UInt8), (8 : UInt8), (8 : UInt8), (8 : UInt8), (8 : UInt8), (8 : UInt8), (8 : UInt8), (8 : UInt8), (8 : UInt8), (8 : UInt8), (8 : UInt8), (8 : UInt8), (8 : UInt8), (8 : UInt8), (8 : UInt8), (8 : UInt8), (8 : UInt8), (8 : UInt8), (8 : UInt8), (8 : UInt8), (8 : UInt8), (8 : UInt8), (8 : UInt8), (8 : UInt8), (8 : UInt8)])).toArray.getD (uw IntKind.u8 ((↑a : Int) / (65536 : Int))).toNat (0 : UInt8)).toNat : Int) = (↑b : Int) ∧
  ((1 : Nat) ≤ b ∧
  b ≤ (8 : Nat) ∧
  a < (2 : Nat) ^ b ∧
  (2 : Nat) ^ b ≤ (2 : Nat) * a) ∧
  True)) ∧
  (Decidable.decide ((65536 : Int) ≤ (↑a : Int)) = Bool.false →
  (Decidable.decide ((256 : Int) ≤ (↑a : Int)) = Bool.true →
  (0 : Int) ≤ (8 : Int) ∧
  ((0 : Int) ≤ uw IntKind.u8 ((↑a : Int) / (256 : Int)) ∧
  uw IntKind.u8 ((↑a : Int) / (256 : Int)) < (256 : Int)) ∧
  InR IntKind.i64 ((8 : Int) + (↑((([(0 : UInt8), (1 : UInt8), (2 : UInt8), (2 : UInt8), (3 : UInt8), (3 : UInt8), (3 : UInt8), (3 : UInt8), (4 : UInt8), (4 : UInt8), (4 : UInt8), (4 : UInt8), (4 : UInt8), (4 : UInt8), (4 : UInt8), (4 : UInt8), (5 : UInt8), (5 : UInt8), (5 : UInt8), (5 : UInt8), (5 : UInt8), (5 : UInt8), (5 : UInt8), (5 : UInt8), (5 : UInt8), (5 : UInt8), (5 : UInt8), (5 : UInt8), (5 : UInt8), (5 : UInt8), (5 : UInt8), (5 : UInt8), (6 : UInt8), (6 : UInt8), (6 : UInt8), (6 : UInt8), (6 : UInt8), (6 : UInt8), (6 : UInt8), (6 : UInt8), (6 : UInt8), (6 : UInt8), (6 : UInt8), (6 : UInt8), (6 : UInt8), (6 : UInt8), (6 : UInt8), (6 : UInt8), (6 : UInt8), (6 : UInt8), (6 : UInt8), (6 : UInt8), (6 : UInt8), (6 : UInt8), (6 : UInt8), (6 : UInt8), (6 : UInt8), (6 : UInt8), (6 : UInt8), (6 : UInt8), (6 : UInt8), (6 : UInt8), (6 : UInt8), (6 : UInt8)].append [(7 : UInt8), (7 : UInt8), (7 : UInt8), (7 : UInt8), (7 : UInt8), (7 : UInt8), (7 : UInt8), (7 : UInt8), (7 : UInt8), (7 : UInt8), (7 : UInt8), (7 : UInt8), (7 : UInt8), (7 : UInt8), (7 : UInt8), (7 : UInt8), (7 : UInt8), (7 : UInt8), (7 : UInt8), (7 : UInt8), (7 : UInt8), (7 : UInt8), (7 : UInt8), (7 : UInt8), (7 : UInt8), (7 : UInt8), (7 : UInt8), (7 : UInt8), (7 : UInt8), (7 : UInt8), (7 : UInt8), (7 : UInt8), (7 : UInt8), (7 : UInt8), (7 : UInt8), (7 : UInt8), (7 : UInt8), (7 : UInt8), (7 : UInt8), (7 : UInt8), (7 : UInt8), (7 : UInt8), (7 : UInt8), (7 : UInt8), (7 : UInt8), (7 : UInt8), (7 : UInt8), (7 : UInt8), (7 : UInt8), (7 : UInt8), (7 : UInt8), (7 : UInt8), (7 : UInt8), (7 : UInt8), (7 : UInt8), (7 : UInt8), (7 : UInt8), (7 : UInt8), (7 : UInt8), (7 : UInt8), (7 : UInt8), (7 : UInt8), (7 : UInt8), (7 : UInt8)]).append ([(8 : UInt8), (8 : UInt8), (8 : UInt8), (8 : UInt8), (8 : UInt8), (8 : UInt8), (8 : UInt8), (8 : UInt8), (8 : UInt8), (8 : UInt8), (8 : UInt8), (8 : UInt8), (8 : UInt8), (8 : UInt8), (8 : UInt8), (8 : UInt8), (8 : UInt8), (8 : UInt8), (8 : UInt8), (8 : UInt8), (8 : UInt8), (8 : UInt8), (8 : UInt8), (8 : UInt8), (8 : UInt8), (8 : UInt8), (8 : UInt8), (8 : UInt8), (8 : UInt8), (8 : UInt8), (8 : UInt8), (8 : UInt8), (8 : UInt8), (8 : UInt8), (8 : UInt8), (8 : UInt8), (8 : UInt8), (8 : UInt8), (8 : UInt8), (8 : UInt8), (8 : UInt8), (8 : UInt8), (8 : UInt8), (8 : UInt8), (8 : UInt8), (8 : UInt8), (8 : UInt8), (8 : UInt8), (8 : UInt8), (8 : UInt8), (8 : UInt8), (8 : UInt8), (8 : UInt8), (8 : UInt8), (8 : UInt8), (8 : UInt8), (8 : UInt8), (8 : UInt8), (8 : UInt8), (8 : UInt8), (8 : UInt8), (8 : UInt8), (8 : UInt8), (8 : UInt8)].append [(8 : UInt8), (8 : UInt8), (8 : UInt8), (8 : UInt8), (8 : UInt8), (8 : UInt8), (8 : UInt8), (8 : UInt8), (8 : UInt8), (8 : UInt8), (8 : UInt8), (8 : UInt8), (8 : UInt8), (8 : UInt8), (8 : UInt8), (8 : UInt8), (8 : UInt8), (8 : UInt8), (8 : UInt8), (8 : UInt8), (8 : UInt8), (8 : UInt8), (8 : UInt8), (8 : UInt8), (8 : UInt8), (8 : UInt8), (8 : UInt8), (8 : UInt8), (8 : UInt8), (8 : UInt8), (8 : UInt8), (8 : UInt8), (8 : UInt8), (8 : UInt8), (8 : UInt8), (8 : UInt8), (8 : UInt8), (8 : UInt8), (8 : UInt8), (8 : UInt8), (8 : UInt8), (8 : UInt8), (8 : UInt8), (8 : UInt8), (8 : UInt8), (8 : UInt8), (8 : UInt8), (8 : UInt8), (8 : UInt8), (8 : UInt8), (8 : UInt8), (8 : UInt8), (8 : UInt8), (8 : UInt8), (8 : UInt8), (8 : UInt8), (8 : UInt8), (8 : UInt8), (8 : UInt8), (8 : UInt8), (8 : UInt8), (8 : UInt8), (8 : UInt8), (8 : UInt8)])).toArray.getD (uw IntKind.u8 ((↑a : Int) / (256 : Int))).toNat (0 : UInt8)).toNat : Int)) ∧
  ∃ (b : Nat), (8 : Int) + (↑((([(0 : UInt8), (1 : UInt8), (2 : UInt8), (2 : UInt8), (3 : UInt8), (3 : UInt8), (3 : UInt8), (3 : UInt8), (4 : UInt8), (4 : UInt8), (4 : UInt8), (4 : UInt8), (4 : UInt8), (4 : UInt8), (4 : UInt8), (4 : UInt8), (5 : UInt8), (5 : UInt8), (5 : UInt8), (5 : UInt8), (5 : UInt8), (5 : UInt8), (5 : UInt8), (5 : UInt8), (5 : UInt8), (5 : UInt8), (5 : UInt8), (5 : UInt8), (5 : UInt8), (5 : UInt8), (5 : UInt8), (5 : UInt8), (6 : UInt8), (6 : UInt8), (6 : UInt8), (6 : UInt8), (6 : UInt8), (6 : UInt8), (6 : UInt8), (6 : UInt8), (6 : UInt8), (6 : UInt8), (6 : UInt8), (6 : UInt8), (6 : UInt8), (6 : UInt8), (6 : UInt8), (6 : UInt8), (6 : UInt8), (6 : UInt8), (6 : UInt8), (6 : UInt8), (6 : UInt8), (6 : UInt8), (6 : UInt8), (6 : UInt8), (6 : UInt8), (6 : UInt8), (6 : UInt8), (6 : UInt8), (6 : UInt8), (6 : UInt8), (6 : UInt8), (6 : UInt8)].append [(7 : UInt8), (7 : UInt8), (7 : UInt8), (7 : UInt8), (7 : UInt8), (7 : UInt8), (7 : UInt8), (7 : UInt8), (7 : UInt8), (7 : UInt8), (7 : UInt8), (7 : UInt8), (7 : UInt8), (7 : UInt8), (7 : UInt8), (7 : UInt8), (7 : UInt8), (7 : UInt8), (7 : UInt8), (7 : UInt8), (7 : UInt8), (7 : UInt8), (7 : UInt8), (7 : UInt8), (7 : UInt8), (7 : UInt8), (7 : UInt8), (7 : UInt8), (7 : UInt8), (7 : UInt8), (7 : UInt8), (7 : UInt8), (7 : UInt8), (7 : UInt8), (7 : UInt8), (7 : UInt8), (7 : UInt8), (7 : UInt8), (7 : UInt8), (7 : UInt8), (7 : UInt8), (7 : UInt8), (7 : UInt8), (7 : UInt8), (7 : UInt8), (7 : UInt8), (7 : UInt8), (7 : UInt8), (7 : UInt8), (7 : UInt8), (7 : UInt8), (7 : UInt8), (7 : UInt8), (7 : UInt8), (7 : UInt8), (7 : UInt8), (7 : UInt8), (7 : UInt8), (7 : UInt8), (7 : UInt8), (7 : UInt8), (7 : UInt8), (7 : UInt8), (7 : UInt8)]).append ([(8 : UInt8), (8 : UInt8), (8 : UInt8), (8 : UInt8), (8 : UInt8), (8 : UInt8), (8 : UInt8), (8 : UInt8), (8 : UInt8), (8 : UInt8), (8 : UInt8), (8 : UInt8), (8 : UInt8), (8 : UInt8), (8 : UInt8), (8 : UInt8), (8 : UInt8), (8 : UInt8), (8 : UInt8), (8 : UInt8), (8 : UInt8), (8 : UInt8), (8 : UInt8), (8 : UInt8), (8 : UInt8), (8 : UInt8), (8 : UInt8), (8 : UInt8), (8 : UInt8), (8 : UInt8), (8 : UInt8), (8 : UInt8), (8 : UInt8), (8 : UInt8), (8 : UInt8), (8 : UInt8), (8 : UInt8), (8 : UInt8), (8 : UInt8), (8 : UInt8), (8 : UInt8), (8 : UInt8), (8 : UInt8), (8 : UInt8), (8 : UInt8), (8 : UInt8), (8 : UInt8), (8 : UInt8), (8 : UInt8), (8 : UInt8), (8 : UInt8), (8 : UInt8), (8 : UInt8), (8 : UInt8), (8 : UInt8), (8 : UInt8), (8 : UInt8), (8 : UInt8), (8 : UInt8), (8 : UInt8), (8 : UInt8), (8 : UInt8), (8 : UInt8), (8 : UInt8)].append [(8 : UInt8), (8 : UInt8), (8 : UInt8), (8 : UInt8), (8 : UInt8), (8 : UInt8), (8 : UInt8), (8 : UInt8), (8 : UInt8), (8 : UInt8), (8 : UInt8), (8 : UInt8), (8 : UInt8), (8 : UInt8), (8 : UInt8), (8 : UInt8), (8 : UInt8), (8 : UInt8), (8 : UInt8), (8 : UInt8), (8 : UInt8), (8 : UInt8), (8 : UInt8), (8 : UInt8), (8 : UInt8), (8 : UInt8), (8 : UInt8), (8 : UInt8), (8 : UInt8), (8 : UInt8), (8 : UInt8), (8 : UInt8), (8 : UInt8), (8 : UInt8), (8 : UInt8), (8 : UInt8), (8 : UInt8), (8 : UInt8), (8 : UInt8), (8 : UInt8), (8 : UInt8), (8 : UInt8), (8 : UInt8), (8 : UInt8), (8 : UInt8), (8 : UInt8), (8 : UInt8), (8 : UInt8), (8 : UInt8), (8 : UInt8), (8 : UInt8), (8 : UInt8), (8 : UInt8), (8 : UInt8), (8 : UInt8), (8 : UInt8), (8 : UInt8), (8 : UInt8), (8 : UInt8), (8 : UInt8), (8 : UInt8), (8 : UInt8), (8 : UInt8), (8 : UInt8)])).toArray.getD (uw IntKind.u8 ((↑a : Int) / (256 : Int))).toNat (0 : UInt8)).toNat : Int) = (↑b : Int) ∧
  ((1 : Nat) ≤ b ∧
  b ≤ (8 : Nat) ∧
  a < (2 : Nat) ^ b ∧
  (2 : Nat) ^ b ≤ (2 : Nat) * a) ∧
  True) ∧
  (Decidable.decide ((256 : Int) ≤ (↑a : Int)) = Bool.false →
  ((0 : Int) ≤ uw IntKind.u8 (↑a : Int) ∧
  uw IntKind.u8 (↑a : Int) < (256 : Int)) ∧
  InR IntKind.i64 ((0 : Int) + (↑((([(0 : UInt8), (1 : UInt8), (2 : UInt8), (2 : UInt8), (3 : UInt8), (3 : UInt8), (3 : UInt8), (3 : UInt8), (4 : UInt8), (4 : UInt8), (4 : UInt8), (4 : UInt8), (4 : UInt8), (4 : UInt8), (4 : UInt8), (4 : UInt8), (5 : UInt8), (5 : UInt8), (5 : UInt8), (5 : UInt8), (5 : UInt8), (5 : UInt8), (5 : UInt8), (5 : UInt8), (5 : UInt8), (5 : UInt8), (5 : UInt8), (5 : UInt8), (5 : UInt8), (5 : UInt8), (5 : UInt8), (5 : UInt8), (6 : UInt8), (6 : UInt8), (6 : UInt8), (6 : UInt8), (6 : UInt8), (6 : UInt8), (6 : UInt8), (6 : UInt8), (6 : UInt8), (6 : UInt8), (6 : UInt8), (6 : UInt8), (6 : UInt8), (6 : UInt8), (6 : UInt8), (6 : UInt8), (6 : UInt8), (6 : UInt8), (6 : UInt8), (6 : UInt8), (6 : UInt8), (6 : UInt8), (6 : UInt8), (6 : UInt8), (6 : UInt8), (6 : UInt8), (6 : UInt8), (6 : UInt8), (6 : UInt8), (6 : UInt8), (6 : UInt8), (6 : UInt8)].append [(7 : UInt8), (7 : UInt8), (7 : UInt8), (7 : UInt8), (7 : UInt8), (7 : UInt8), (7 : UInt8), (7 : UInt8), (7 : UInt8), (7 : UInt8), (7 : UInt8), (7 : UInt8), (7 : UInt8), (7 : UInt8), (7 : UInt8), (7 : UInt8), (7 : UInt8), (7 : UInt8), (7 : UInt8), (7 : UInt8), (7 : UInt8), (7 : UInt8), (7 : UInt8), (7 : UInt8), (7 : UInt8), (7 : UInt8), (7 : UInt8), (7 : UInt8), (7 : UInt8), (7 : UInt8), (7 : UInt8), (7 : UInt8), (7 : UInt8), (7 : UInt8), (7 : UInt8), (7 : UInt8), (7 : UInt8), (7 : UInt8), (7 : UInt8), (7 : UInt8), (7 : UInt8), (7 : UInt8), (7 : UInt8), (7 : UInt8), (7 : UInt8), (7 : UInt8), (7 : UInt8), (7 : UInt8), (7 : UInt8), (7 : UInt8), (7 : UInt8), (7 : UInt8), (7 : UInt8), (7 : UInt8), (7 : UInt8), (7 : UInt8), (7 : UInt8), (7 : UInt8), (7 : UInt8), (7 : UInt8), (7 : UInt8), (7 : UInt8), (7 : UInt8), (7 : UInt8)]).append ([(8 : UInt8), (8 : UInt8), (8 : UInt8), (8 : UInt8), (8 : UInt8), (8 : UInt8), (8 : UInt8), (8 : UInt8), (8 : UInt8), (8 : UInt8), (8 : UInt8), (8 : UInt8), (8 : UInt8), (8 : UInt8), (8 : UInt8), (8 : UInt8), (8 : UInt8), (8 : UInt8), (8 : UInt8), (8 : UInt8), (8 : UInt8), (8 : UInt8), (8 : UInt8), (8 : UInt8), (8 : UInt8), (8 : UInt8), (8 : UInt8), (8 : UInt8), (8 : UInt8), (8 : UInt8), (8 : UInt8), (8 : UInt8), (8 : UInt8), (8 : UInt8), (8 : UInt8), (8 : UInt8), (8 : UInt8), (8 : UInt8), (8 : UInt8), (8 : UInt8), (8 : UInt8), (8 : UInt8), (8 : UInt8), (8 : UInt8), (8 : UInt8), (8 : UInt8), (8 : UInt8), (8 : UInt8), (8 : UInt8), (8 : UInt8), (8 : UInt8), (8 : UInt8), (8 : UInt8), (8 : UInt8), (8 : UInt8), (8 : UInt8), (8 : UInt8), (8 : UInt8), (8 : UInt8), (8 : UInt8), (8 : UInt8), (8 : UInt8), (8 : UInt8), (8 : UInt8)].append [(8 : UInt8), (8 : UInt8), (8 : UInt8), (8 : UInt8), (8 : UInt8), (8 : UInt8), (8 : UInt8), (8 : UInt8), (8 : UInt8), (8 : UInt8), (8 : UInt8), (8 : UInt8), (8 : UInt8), (8 : UInt8), (8 : UInt8), (8 : UInt8), (8 : UInt8), (8 : UInt8), (8 : UInt8), (8 : UInt8), (8 : UInt8), (8 : UInt8), (8 : UInt8), (8 : UInt8), (8 : UInt8), (8 : UInt8), (8 : UInt8), (8 : UInt8), (8 : UInt8), (8 : UInt8), (8 : UInt8), (8 : UInt8), (8 : UInt8), (8 : UInt8), (8 : UInt8), (8 : UInt8), (8 : UInt8), (8 : UInt8), (8 : UInt8), (8 : UInt8), (8 : UInt8), (8 : UInt8), (8 : UInt8), (8 : UInt8), (8 : UInt8), (8 : UInt8), (8 : UInt8), (8 : UInt8), (8 : UInt8), (8 : UInt8), (8 : UInt8), (8 : UInt8), (8 : UInt8), (8 : UInt8), (8 : UInt8), (8 : UInt8), (8 : UInt8), (8 : UInt8), (8 : UInt8), (8 : UInt8), (8 : UInt8), (8 : UInt8), (8 : UInt8), (8 : UInt8)])).toArray.getD (uw IntKind.u8 (↑a : Int)).toNat (0 : UInt8)).toNat : Int)) ∧
  ∃ (b : Nat), (0 : Int) + (↑((([(0 : UInt8), (1 : UInt8), (2 : UInt8), (2 : UInt8), (3 : UInt8), (3 : UInt8), (3 : UInt8), (3 : UInt8), (4 : UInt8), (4 : UInt8), (4 : UInt8), (4 : UInt8), (4 : UInt8), (4 : UInt8), (4 : UInt8), (4 : UInt8), (5 : UInt8), (5 : UInt8), (5 : UInt8), (5 : UInt8), (5 : UInt8), (5 : UInt8), (5 : UInt8), (5 : UInt8), (5 : UInt8), (5 : UInt8), (5 : UInt8), (5 : UInt8), (5 : UInt8), (5 : UInt8), (5 : UInt8), (5 : UInt8), (6 : UInt8), (6 : UInt8), (6 : UInt8), (6 : UInt8), (6 : UInt8), (6 : UInt8), (6 : UInt8), (6 : UInt8), (6 : UInt8), (6 : UInt8), (6 : UInt8), (6 : UInt8), (6 : UInt8), (6 : UInt8), (6 : UInt8), (6 : UInt8), (6 : UInt8), (6 : UInt8), (6 : UInt8), (6 : UInt8), (6 : UInt8), (6 : UInt8), (6 : UInt8), (6 : UInt8), (6 : UInt8), (6 : UInt8), (6 : UInt8), (6 : UInt8), (6 : UInt8), (6 : UInt8), (6 : UInt8), (6 : UInt8)].append [(7 : UInt8), (7 : UInt8), (7 : UInt8), (7 : UInt8), (7 : UInt8), (7 : UInt8), (7 : UInt8), (7 : UInt8), (7 : UInt8), (7 : UInt8), (7 : UInt8), (7 : UInt8), (7 : UInt8), (7 : UInt8), (7 : UInt8), (7 : UInt8), (7 : UInt8), (7 : UInt8), (7 : UInt8), (7 : UInt8), (7 : UInt8), (7 : UInt8), (7 : UInt8), (7 : UInt8), (7 : UInt8), (7 : UInt8), (7 : UInt8), (7 : UInt8), (7 : UInt8), (7 : UInt8), (7 : UInt8), (7 : UInt8), (7 : UInt8), (7 : UInt8), (7 : UInt8), (7 : UInt8), (7 : UInt8), (7 : UInt8), (7 : UInt8), (7 : UInt8), (7 : UInt8), (7 : UInt8), (7 : UInt8), (7 : UInt8), (7 : UInt8), (7 : UInt8), (7 : UInt8), (7 : UInt8), (7 : UInt8), (7 : UInt8), (7 : UInt8), (7 : UInt8), (7 : UInt8), (7 : UInt8), (7 : UInt8), (7 : UInt8), (7 : UInt8), (7 : UInt8), (7 : UInt8), (7 : UInt8), (7 : UInt8), (7 : UInt8), (7 : UInt8), (7 : UInt8)]).append ([(8 : UInt8), (8 : UInt8), (8 : UInt8), (8 : UInt8), (8 : UInt8), (8 : UInt8), (8 : UInt8), (8 : UInt8), (8 : UInt8), (8 : UInt8), (8 : UInt8), (8 : UInt8), (8 : UInt8), (8 : UInt8), (8 : UInt8), (8 : UInt8), (8 : UInt8), (8 : UInt8), (8 : UInt8), (8 : UInt8), (8 : UInt8), (8 : UInt8), (8 : UInt8), (8 : UInt8), (8 : UInt8), (8 : UInt8), (8 : UInt8), (8 : UInt8), (8 : UInt8), (8 : UInt8), (8 : UInt8), (8 : UInt8), (8 : UInt8), (8 : UInt8), (8 : UInt8), (8 : UInt8), (8 : UInt8), (8 : UInt8), (8 : UInt8), (8 : UInt8), (8 : UInt8), (8 : UInt8), (8 : UInt8), (8 : UInt8), (8 : UInt8), (8 : UInt8), (8 : UInt8), (8 : UInt8), (8 : UInt8), (8 : UInt8), (8 : UInt8), (8 : UInt8), (8 : UInt8), (8 : UInt8), (8 : UInt8), (8 : UInt8), (8 : UInt8), (8 : UInt8), (8 : UInt8), (8 : UInt8), (8 : UInt8), (8 : UInt8), (8 : UInt8), (8 : UInt8)].append [(8 : UInt8), (8 : UInt8), (8 : UInt8), (8 : UInt8), (8 : UInt8), (8 : UInt8), (8 : UInt8), (8 : UInt8), (8 : UInt8), (8 : UInt8), (8 : UInt8), (8 : UInt8), (8 : UInt8), (8 : UInt8), (8 : UInt8), (8 : UInt8), (8 : UInt8), (8 : UInt8), (8 : UInt8), (8 : UInt8), (8 : UInt8), (8 : UInt8), (8 : UInt8), (8 : UInt8), (8 : UInt8), (8 : UInt8), (8 : UInt8), (8 : UInt8), (8 : UInt8), (8 : UInt8), (8 : UInt8), (8 : UInt8), (8 : UInt8), (8 : UInt8), (8 : UInt8), (8 : UInt8), (8 : UInt8), (8 : UInt8), (8 : UInt8), (8 : UInt8), (8 : UInt8), (8 : UInt8), (8 : UInt8), (8 : UInt8), (8 : UInt8), (8 : UInt8), (8 : UInt8), (8 : UInt8), (8 : UInt8), (8 : UInt8), (8 : UInt8), (8 : UInt8), (8 : UInt8), (8 : UInt8), (8 : UInt8), (8 : UInt8), (8 : UInt8), (8 : UInt8), (8 : UInt8), (8 : UInt8), (8 : UInt8), (8 : UInt8), (8 : UInt8), (8 : UInt8)])).toArray.getD (uw IntKind.u8 (↑a : Int)).toNat (0 : UInt8)).toNat : Int) = (↑b : Int) ∧
  ((1 : Nat) ≤ b ∧
  b ≤ (8 : Nat) ∧
  a < (2 : Nat) ^ b ∧
  (2 : Nat) ^ b ≤ (2 : Nat) * a) ∧
  True)))) (by kernel_rfl) (by
  intro a h
  obtain ⟨h0, h1⟩ := h
  refine ⟨fun c => (by simp at c; omega), fun d1 => ⟨fun c => (by simp at c; omega), fun d2 => ⟨fun c => (by simp at c; omega), fun d3 => ?_⟩⟩⟩
  have hu : uw .u8 (a : Int) = (a : Int) := by simp only [uw]; omega
  rw [hu]
  refine ⟨⟨by omega, by omega⟩, u8_small _ 0 (by decide) (by decide), _, Int.zero_add _, ?_⟩
  rw [Int.toNat_natCast, and_true]
  clear hu d1 d2 d3
  revert h0
  revert h1
  revert a
  decide +kernel)
theorem callLen : CallsBy (Y Try.prog).G.X 32 cLen := fn_ok okY (tab := []) trivial bodyLen
structure BrkS where
  m : List Int
  i : Nat
  r : Int
def iBrk (x : RngA) : An := .flat 5 BrkS (fun s y => ((S.dat s y.m).at_ (s.tg 7) (.obj 77 [.int .u64 y.r])).int 9 y.i)
  (fun _ y => PR x.a x.b x.l y.m ∧ x.a + (x.b - x.a) / 4 * 2 ≤ y.i + 1 ∧ y.i ≤ x.a + (x.b - x.a) / 4 * 2 + 2) (fun _ y => x.b + 3 - y.i)
noncomputable def cBrk : Con where
  α := RngA
  β := List Int
  m := 1
  m' := 1
  pre := fun x => x.ok ∧ x.l.length < 256
  args := fun x => [.a (.slc 0 0 1 x.l.length x.cap), .a (.int .i64 x.a), .a (.int .i64 x.b)]
  hp := fun x => [(0, arrU x.l)]
  ro := fun _ => []
  post := fun x m => PR x.a x.b x.l m
  res := fun _ _ => .tup []
  hp' := fun _ m => [(0, arrU m)]
set_option maxHeartbeats 4000000 in
theorem bodyBrk : fnBody (Y Try.prog) [(52, cNext), (32, cLen)] 39 cBrk fun x => [(39, [iBrk x], [])] := fnBody.of (p :=
  ∀ (a : RngA), a.ok ∧
  a.l.length < (256 : Nat) →
  InR IntKind.i64 ((↑a.b : Int) - (↑a.a : Int)) ∧
  (Decidable.decide ((8 : Int) ≤ (↑a.b : Int) - (↑a.a : Int)) = Bool.true →
  ∃ (a_3 : Nat), uw IntKind.u64 ((↑a.b : Int) - (↑a.a : Int)) = (↑a_3 : Int) ∧
  ((1 : Nat) ≤ a_3 ∧
  a_3 < (256 : Nat)) ∧
  ∀ (b : Nat), (1 : Nat) ≤ b ∧
  b ≤ (8 : Nat) ∧
  a_3 < (2 : Nat) ^ b ∧
  (2 : Nat) ^ b ≤ (2 : Nat) * a_3 →
  (0 : Int) ≤ (↑b : Int) ∧
  (4 : Int) ≠ (0 : Int) ∧
  InR IntKind.i64 (((↑a.b : Int) - (↑a.a : Int)).tdiv (4 : Int)) ∧
  InR IntKind.i64 (((↑a.b : Int) - (↑a.a : Int)).tdiv (4 : Int) * (2 : Int)) ∧
  InR IntKind.i64 ((↑a.a : Int) + ((↑a.b : Int) - (↑a.a : Int)).tdiv (4 : Int) * (2 : Int)) ∧
  InR IntKind.i64 ((↑a.a : Int) + ((↑a.b : Int) - (↑a.a : Int)).tdiv (4 : Int) * (2 : Int) - (1 : Int)) ∧
  (∃ (a_5 : BrkS), (↑a.a : Int) + ((↑a.b : Int) - (↑a.a : Int)).tdiv (4 : Int) * (2 : Int) - (1 : Int) = (↑a_5.i : Int) ∧
  uw IntKind.u64 ((1 : Int) * (2 : Int) ^ Min.min (↑b : Int).toNat (64 : Nat)) = uw IntKind.u64 ((1 : Int) * (2 : Int) ^ Min.min (↑b : Int).toNat (64 : Nat)) ∧
  (0 : Nat) = (0 : Nat) ∧
  Decidable.decide ((8 : Int) ≤ (↑a.b : Int) - (↑a.a : Int)) = Decidable.decide ((8 : Int) ≤ (↑a.b : Int) - (↑a.a : Int)) ∧
  (↑a.b : Int) - (↑a.a : Int) = (↑a.b : Int) - (↑a.a : Int) ∧
  ((0 : Nat) = (0 : Nat) ∧
  a.l.length = a.l.length ∧
  a.cap = a.cap) ∧
  (↑a.a : Int) = (↑a.a : Int) ∧
  (↑a.b : Int) = (↑a.b : Int) ∧
  uw IntKind.u64 ((↑a.b : Int) - (↑a.a : Int)) = a_5.r ∧
  (a_5.m.length ≤ a.l.length ∧
  RowsEq a_5.m.length (1 : Nat) (encRows encU a.l) (encRows encU a_5.m)) ∧
  (PR a.a a.b a.l a_5.m ∧
  a.a + (a.b - a.a) / (4 : Nat) * (2 : Nat) ≤ a_5.i + (1 : Nat) ∧
  a_5.i ≤ a.a + (a.b - a.a) / (4 : Nat) * (2 : Nat) + (2 : Nat)) ∧
  True) ∧
  ∀ (a_5 : BrkS), PR a.a a.b a.l a_5.m ∧
  a.a + (a.b - a.a) / (4 : Nat) * (2 : Nat) ≤ a_5.i + (1 : Nat) ∧
  a_5.i ≤ a.a + (a.b - a.a) / (4 : Nat) * (2 : Nat) + (2 : Nat) →
  (4 : Int) ≠ (0 : Int) ∧
  InR IntKind.i64 (((↑a.b : Int) - (↑a.a : Int)).tdiv (4 : Int)) ∧
  InR IntKind.i64 (((↑a.b : Int) - (↑a.a : Int)).tdiv (4 : Int) * (2 : Int)) ∧
  InR IntKind.i64 ((↑a.a : Int) + ((↑a.b : Int) - (↑a.a : Int)).tdiv (4 : Int) * (2 : Int)) ∧
  InR IntKind.i64 ((↑a.a : Int) + ((↑a.b : Int) - (↑a.a : Int)).tdiv (4 : Int) * (2 : Int) + (1 : Int)) ∧
  (Decidable.decide ((↑a_5.i : Int) ≤ (↑a.a : Int) + ((↑a.b : Int) - (↑a.a : Int)).tdiv (4 : Int) * (2 : Int) + (1 : Int)) = Bool.true →
  ∃ (a_8 : Int), (0 : Nat) = (0 : Nat) ∧
  a_5.r = a_8 ∧
  True ∧
  ∀ (b_1 : Int), True →
  (Decidable.decide ((↑a.b : Int) - (↑a.a : Int) ≤ uw IntKind.i64 (ibits Go.BinOp.and IntKind.u64 b_1 (uw IntKind.u64 (uw IntKind.u64 ((1 : Int) * (2 : Int) ^ Min.min (↑b : Int).toNat (64 : Nat)) - (1 : Int))))) = Bool.true →
  InR IntKind.i64 (uw IntKind.i64 (ibits Go.BinOp.and IntKind.u64 b_1 (uw IntKind.u64 (uw IntKind.u64 ((1 : Int) * (2 : Int) ^ Min.min (↑b : Int).toNat (64 : Nat)) - (1 : Int)))) - ((↑a.b : Int) - (↑a.a : Int))) ∧
  InR IntKind.i64 ((↑a.a : Int) + (uw IntKind.i64 (ibits Go.BinOp.and IntKind.u64 b_1 (uw IntKind.u64 (uw IntKind.u64 ((1 : Int) * (2 : Int) ^ Min.min (↑b : Int).toNat (64 : Nat)) - (1 : Int)))) - ((↑a.b : Int) - (↑a.a : Int)))) ∧
  InR IntKind.i64 ((↑a.a : Int) + (uw IntKind.i64 (ibits Go.BinOp.and IntKind.u64 b_1 (uw IntKind.u64 (uw IntKind.u64 ((1 : Int) * (2 : Int) ^ Min.min (↑b : Int).toNat (64 : Nat)) - (1 : Int)))) - ((↑a.b : Int) - (↑a.a : Int)))) ∧
  ((0 : Int) ≤ (↑a.a : Int) + (uw IntKind.i64 (ibits Go.BinOp.and IntKind.u64 b_1 (uw IntKind.u64 (uw IntKind.u64 ((1 : Int) * (2 : Int) ^ Min.min (↑b : Int).toNat (64 : Nat)) - (1 : Int)))) - ((↑a.b : Int) - (↑a.a : Int))) ∧
  (↑a.a : Int) + (uw IntKind.i64 (ibits Go.BinOp.and IntKind.u64 b_1 (uw IntKind.u64 (uw IntKind.u64 ((1 : Int) * (2 : Int) ^ Min.min (↑b : Int).toNat (64 : Nat)) - (1 : Int)))) - ((↑a.b : Int) - (↑a.a : Int))) < (↑a.l.length : Int)) ∧
  (0 : Nat) + ((↑a.a : Int) + (uw IntKind.i64 (ibits Go.BinOp.and IntKind.u64 b_1 (uw IntKind.u64 (uw IntKind.u64 ((1 : Int) * (2 : Int) ^ Min.min (↑b : Int).toNat (64 : Nat)) - (1 : Int)))) - ((↑a.b : Int) - (↑a.a : Int)))).toNat < a_5.m.length ∧
  (InR IntKind.u64 (gl a_5.m ((0 : Nat) + ((↑a.a : Int) + (uw IntKind.i64 (ibits Go.BinOp.and IntKind.u64 b_1 (uw IntKind.u64 (uw IntKind.u64 ((1 : Int) * (2 : Int) ^ Min.min (↑b : Int).toNat (64 : Nat)) - (1 : Int)))) - ((↑a.b : Int) - (↑a.a : Int)))).toNat)) →
  ((0 : Int) ≤ (↑a_5.i : Int) ∧
  (↑a_5.i : Int) < (↑a.l.length : Int)) ∧
  (0 : Nat) + (↑a_5.i : Int).toNat < a_5.m.length ∧
  (InR IntKind.u64 (gl a_5.m ((0 : Nat) + (↑a_5.i : Int).toNat)) →
  ((0 : Int) ≤ (↑a_5.i : Int) ∧
  (↑a_5.i : Int) < (↑a.l.length : Int)) ∧
  (0 : Nat) + (↑a_5.i : Int).toNat < a_5.m.length ∧
  ((0 : Int) ≤ (↑a.a : Int) + (uw IntKind.i64 (ibits Go.BinOp.and IntKind.u64 b_1 (uw IntKind.u64 (uw IntKind.u64 ((1 : Int) * (2 : Int) ^ Min.min (↑b : Int).toNat (64 : Nat)) - (1 : Int)))) - ((↑a.b : Int) - (↑a.a : Int))) ∧
  (↑a.a : Int) + (uw IntKind.i64 (ibits Go.BinOp.and IntKind.u64 b_1 (uw IntKind.u64 (uw IntKind.u64 ((1 : Int) * (2 : Int) ^ Min.min (↑b : Int).toNat (64 : Nat)) - (1 : Int)))) - ((↑a.b : Int) - (↑a.a : Int))) < (↑a.l.length : Int)) ∧
  (0 : Nat) + ((↑a.a : Int) + (uw IntKind.i64 (ibits Go.BinOp.and IntKind.u64 b_1 (uw IntKind.u64 (uw IntKind.u64 ((1 : Int) * (2 : Int) ^ Min.min (↑b : Int).toNat (64 : Nat)) - (1 : Int)))) - ((↑a.b : Int) - (↑a.a : Int)))).toNat < a_5.m.length ∧
  InR IntKind.i64 ((↑a_5.i : Int) + (1 : Int)) ∧
  ∃ (a' : BrkS), (↑a_5.i : Int) + (1 : Int) = (↑a'.i : Int) ∧
  uw IntKind.u64 ((1 : Int) * (2 : Int) ^ Min.min (↑b : Int).toNat (64 : Nat)) = uw IntKind.u64 ((1 : Int) * (2 : Int) ^ Min.min (↑b : Int).toNat (64 : Nat)) ∧
  (0 : Nat) = (0 : Nat) ∧
  Decidable.decide ((8 : Int) ≤ (↑a.b : Int) - (↑a.a : Int)) = Decidable.decide ((8 : Int) ≤ (↑a.b : Int) - (↑a.a : Int)) ∧
  (↑a.b : Int) - (↑a.a : Int) = (↑a.b : Int) - (↑a.a : Int) ∧
  ((0 : Nat) = (0 : Nat) ∧
  a.l.length = a.l.length ∧
  a.cap = a.cap) ∧
  (↑a.a : Int) = (↑a.a : Int) ∧
  (↑a.b : Int) = (↑a.b : Int) ∧
  b_1 = a'.r ∧
  (a'.m.length ≤ a_5.m.length ∧
  RowsEq a'.m.length (1 : Nat) (updR (updR (encRows encU a_5.m) ((0 : Nat) + (↑a_5.i : Int).toNat) (0 : Nat) [Value.int IntKind.u64 (gl a_5.m ((0 : Nat) + ((↑a.a : Int) + (uw IntKind.i64 (ibits Go.BinOp.and IntKind.u64 b_1 (uw IntKind.u64 (uw IntKind.u64 ((1 : Int) * (2 : Int) ^ Min.min (↑b : Int).toNat (64 : Nat)) - (1 : Int)))) - ((↑a.b : Int) - (↑a.a : Int)))).toNat))]) ((0 : Nat) + ((↑a.a : Int) + (uw IntKind.i64 (ibits Go.BinOp.and IntKind.u64 b_1 (uw IntKind.u64 (uw IntKind.u64 ((1 : Int) * (2 : Int) ^ Min.min (↑b : Int).toNat (64 : Nat)) - (1 : Int)))) - ((↑a.b : Int) - (↑a.a : Int)))).toNat) (0 : Nat) [Value.int IntKind.u64 (gl a_5.m ((0 : Nat) + (↑a_5.i : Int).toNat))]) (encRows encU a'.m)) ∧
  (PR a.a a.b a.l a'.m ∧
  a.a + (a.b - a.a) / (4 : Nat) * (2 : Nat) ≤ a'.i + (1 : Nat) ∧
  a'.i ≤ a.a + (a.b - a.a) / (4 : Nat) * (2 : Nat) + (2 : Nat)) ∧
  a.b + (3 : Nat) - a'.i < a.b + (3 : Nat) - a_5.i))) ∧
  (Decidable.decide ((↑a.b : Int) - (↑a.a : Int) ≤ uw IntKind.i64 (ibits Go.BinOp.and IntKind.u64 b_1 (uw IntKind.u64 (uw IntKind.u64 ((1 : Int) * (2 : Int) ^ Min.min (↑b : Int).toNat (64 : Nat)) - (1 : Int))))) = Bool.false →
  InR IntKind.i64 ((↑a.a : Int) + uw IntKind.i64 (ibits Go.BinOp.and IntKind.u64 b_1 (uw IntKind.u64 (uw IntKind.u64 ((1 : Int) * (2 : Int) ^ Min.min (↑b : Int).toNat (64 : Nat)) - (1 : Int))))) ∧
  InR IntKind.i64 ((↑a.a : Int) + uw IntKind.i64 (ibits Go.BinOp.and IntKind.u64 b_1 (uw IntKind.u64 (uw IntKind.u64 ((1 : Int) * (2 : Int) ^ Min.min (↑b : Int).toNat (64 : Nat)) - (1 : Int))))) ∧
  ((0 : Int) ≤ (↑a.a : Int) + uw IntKind.i64 (ibits Go.BinOp.and IntKind.u64 b_1 (uw IntKind.u64 (uw IntKind.u64 ((1 : Int) * (2 : Int) ^ Min.min (↑b : Int).toNat (64 : Nat)) - (1 : Int)))) ∧
  (↑a.a : Int) + uw IntKind.i64 (ibits Go.BinOp.and IntKind.u64 b_1 (uw IntKind.u64 (uw IntKind.u64 ((1 : Int) * (2 : Int) ^ Min.min (↑b : Int).toNat (64 : Nat)) - (1 : Int)))) < (↑a.l.length : Int)) ∧
  (0 : Nat) + ((↑a.a : Int) + uw IntKind.i64 (ibits Go.BinOp.and IntKind.u64 b_1 (uw IntKind.u64 (uw IntKind.u64 ((1 : Int) * (2 : Int) ^ Min.min (↑b : Int).toNat (64 : Nat)) - (1 : Int))))).toNat < a_5.m.length ∧
  (InR IntKind.u64 (gl a_5.m ((0 : Nat) + ((↑a.a : Int) + uw IntKind.i64 (ibits Go.BinOp.and IntKind.u64 b_1 (uw IntKind.u64 (uw IntKind.u64 ((1 : Int) * (2 : Int) ^ Min.min (↑b : Int).toNat (64 : Nat)) - (1 : Int))))).toNat)) →
  ((0 : Int) ≤ (↑a_5.i : Int) ∧
  (↑a_5.i : Int) < (↑a.l.length : Int)) ∧
  (0 : Nat) + (↑a_5.i : Int).toNat < a_5.m.length ∧
  (InR IntKind.u64 (gl a_5.m ((0 : Nat) + (↑a_5.i : Int).toNat)) →
  ((0 : Int) ≤ (↑a_5.i : Int) ∧
  (↑a_5.i : Int) < (↑a.l.length : Int)) ∧
  (0 : Nat) + (↑a_5.i : Int).toNat < a_5.m.length ∧
  ((0 : Int) ≤ (↑a.a : Int) + uw IntKind.i64 (ibits Go.BinOp.and IntKind.u64 b_1 (uw IntKind.u64 (uw IntKind.u64 ((1 : Int) * (2 : Int) ^ Min.min (↑b : Int).toNat (64 : Nat)) - (1 : Int)))) ∧
  (↑a.a : Int) + uw IntKind.i64 (ibits Go.BinOp.and IntKind.u64 b_1 (uw IntKind.u64 (uw IntKind.u64 ((1 : Int) * (2 : Int) ^ Min.min (↑b : Int).toNat (64 : Nat)) - (1 : Int)))) < (↑a.l.length : Int)) ∧
  (0 : Nat) + ((↑a.a : Int) + uw IntKind.i64 (ibits Go.BinOp.and IntKind.u64 b_1 (uw IntKind.u64 (uw IntKind.u64 ((1 : Int) * (2 : Int) ^ Min.min (↑b : Int).toNat (64 : Nat)) - (1 : Int))))).toNat < a_5.m.length ∧
  InR IntKind.i64 ((↑a_5.i : Int) + (1 : Int)) ∧
  ∃ (a' : BrkS), (↑a_5.i : Int) + (1 : Int) = (↑a'.i : Int) ∧
  uw IntKind.u64 ((1 : Int) * (2 : Int) ^ Min.min (↑b : Int).toNat (64 : Nat)) = uw IntKind.u64 ((1 : Int) * (2 : Int) ^ Min.min (↑b : Int).toNat (64 : Nat)) ∧
  (0 : Nat) = (0 : Nat) ∧
  Decidable.decide ((8 : Int) ≤ (↑a.b : Int) - (↑a.a : Int)) = Decidable.decide ((8 : Int) ≤ (↑a.b : Int) - (↑a.a : Int)) ∧
  (↑a.b : Int) - (↑a.a : Int) = (↑a.b : Int) - (↑a.a : Int) ∧
  ((0 : Nat) = (0 : Nat) ∧
  a.l.length = a.l.length ∧
  a.cap = a.cap) ∧
  (↑a.a : Int) = (↑a.a : Int) ∧
  (↑a.b : Int) = (↑a.b : Int) ∧
  b_1 = a'.r ∧
  (a'.m.length ≤ a_5.m.length ∧
  RowsEq a'.m.length (1 : Nat) (updR (updR (encRows encU a_5.m) ((0 : Nat) + (↑a_5.i : Int).toNat) (0 : Nat) [Value.int IntKind.u64 (gl a_5.m ((0 : Nat) + ((↑a.a : Int) + uw IntKind.i64 (ibits Go.BinOp.and IntKind.u64 b_1 (uw IntKind.u64 (uw IntKind.u64 ((1 : Int) * (2 : Int) ^ Min.min (↑b : Int).toNat (64 : Nat)) - (1 : Int))))).toNat))]) ((0 : Nat) + ((↑a.a : Int) + uw IntKind.i64 (ibits Go.BinOp.and IntKind.u64 b_1 (uw IntKind.u64 (uw IntKind.u64 ((1 : Int) * (2 : Int) ^ Min.min (↑b : Int).toNat (64 : Nat)) - (1 : Int))))).toNat) (0 : Nat) [Value.int IntKind.u64 (gl a_5.m ((0 : Nat) + (↑a_5.i : Int).toNat))]) (encRows encU a'.m)) ∧
  (PR a.a a.b a.l a'.m ∧
  a.a + (a.b - a.a) / (4 : Nat) * (2 : Nat) ≤ a'.i + (1 : Nat) ∧
  a'.i ≤ a.a + (a.b - a.a) / (4 : Nat) * (2 : Nat) + (2 : Nat)) ∧
  a.b + (3 : Nat) - a'.i < a.b + (3 : Nat) - a_5.i)))) ∧
  (Decidable.decide ((↑a_5.i : Int) ≤ (↑a.a : Int) + ((↑a.b : Int) - (↑a.a : Int)).tdiv (4 : Int) * (2 : Int) + (1 : Int)) = Bool.false →
  ∃ (b : List Int), (b.length ≤ a_5.m.length ∧
  RowsEq b.length (1 : Nat) (encRows encU a_5.m) (encRows encU b)) ∧
  PR a.a a.b a.l b ∧
  True)) ∧
  (Decidable.decide ((8 : Int) ≤ (↑a.b : Int) - (↑a.a : Int)) = Bool.false →
  ∃ (b : List Int), (b.length ≤ a.l.length ∧
  RowsEq b.length (1 : Nat) (encRows encU a.l) (encRows encU b)) ∧
  PR a.a a.b a.l b ∧
  True)) (by kernel_rfl) (by
  rintro x ⟨⟨h1, h2, h3⟩, h4⟩
  have t1 : ((x.b : Int) - (x.a : Int)).tdiv 4 = (((x.b - x.a) / 4 : Nat) : Int) := by
    rw [show (x.b : Int) - (x.a : Int) = ((x.b - x.a : Nat) : Int) by omega]; rfl
  have t2 : uw .u64 ((x.b : Int) - (x.a : Int)) = ((x.b - x.a : Nat) : Int) := by simp only [uw]; omega
  rw [t1, t2]
  have hd : 4 * ((x.b - x.a) / 4) ≤ x.b - x.a := Nat.mul_div_le _ _
  have hd2 : x.b - x.a < 4 * ((x.b - x.a) / 4) + 4 := by omega
  generalize (x.b - x.a) / 4 = q at *
  simp only [InR, Nat.zero_add]
  refine ⟨by omega, fun c1 => ⟨x.b - x.a, rfl, ⟨by omega, by omega⟩, fun r hr => ?_⟩, fun c1 => ⟨x.l, ?_⟩⟩
  · obtain ⟨r1, r2, r3, r4⟩ := hr
    simp only [decide_eq_true_eq] at c1
    refine ⟨by omega, by decide, by omega, by omega, by omega, by omega, ⟨⟨x.l, x.a + q * 2 - 1, ((x.b - x.a : Nat) : Int)⟩, ?_⟩, fun y hy => ?_⟩
    · have p0 := PR.refl (a := x.a) (b := x.b) x.l
      ((repeat' apply And.intro) <;> first | with_reducible rfl | omega | (dsimp only; omega) | exact RowsEq.refl _ _ _ | assumption | rfl | trivial | exact Nat.le_refl _ | skip)
    obtain ⟨y1, y2, y3⟩ := hy
    have hm := y1.length
    refine ⟨by decide, by omega, by omega, by omega, by omega, fun c2 => ⟨y.r, trivial, rfl, trivial, fun g _ => ?_⟩, fun c2 => ⟨y.m, ?_⟩⟩
    · simp only [decide_eq_true_eq] at c2
      obtain ⟨o, e1, e2⟩ := and_lt g r1 r2
      rw [e1]
      have e3 : ((x.a : Int) + ((o : Int) - ((x.b : Int) - (x.a : Int)))).toNat = x.a + (o - (x.b - x.a)) ∨ (o : Int) < (x.b : Int) - (x.a : Int) := by omega
      have e4 : ((x.a : Int) + (o : Int)).toNat = x.a + o := by omega
      refine ⟨fun c3 => ?_, fun c3 => ?_⟩
      · simp only [decide_eq_true_eq] at c3
        rw [e3.resolve_right (by omega)]
        simp only [Int.toNat_natCast]
        ((repeat' apply And.intro) <;> first | with_reducible rfl | omega | (dsimp only; omega) | exact RowsEq.refl _ _ _ | assumption | rfl | trivial | exact Nat.le_refl _ | skip)
        intro _
        ((repeat' apply And.intro) <;> first | with_reducible rfl | omega | (dsimp only; omega) | exact RowsEq.refl _ _ _ | assumption | rfl | trivial | exact Nat.le_refl _ | skip)
        intro _
        ((repeat' apply And.intro) <;> first | with_reducible rfl | omega | (dsimp only; omega) | exact RowsEq.refl _ _ _ | assumption | rfl | trivial | exact Nat.le_refl _ | skip)
        refine ⟨⟨swpL y.m y.i (x.a + (o - (x.b - x.a))), y.i + 1, g⟩, ?_⟩
        have p1 : PR x.a x.b x.l (swpL y.m y.i (x.a + (o - (x.b - x.a)))) := .step y1 (by omega) (by omega) (by omega) (by omega) (by omega)
        have r1 : RowsEq (swpL y.m y.i (x.a + (o - (x.b - x.a)))).length 1 (updR (updR (encRows encU y.m) y.i 0 [Go.Value.int Go.IntKind.u64 (gl y.m (x.a + (o - (x.b - x.a))))]) (x.a + (o - (x.b - x.a))) 0 [Go.Value.int Go.IntKind.u64 (gl y.m y.i)]) (encRows encU (swpL y.m y.i (x.a + (o - (x.b - x.a))))) := rows_swap (by omega) (by omega) rfl rfl
        have n1 := swpL_length y.m y.i (x.a + (o - (x.b - x.a)))
        ((repeat' apply And.intro) <;> first | with_reducible rfl | omega | (dsimp only; omega) | exact RowsEq.refl _ _ _ | assumption | rfl | trivial | exact Nat.le_refl _ | skip)
      · simp only [decide_eq_false_iff_not] at c3
        rw [e4]
        simp only [Int.toNat_natCast]
        ((repeat' apply And.intro) <;> first | with_reducible rfl | omega | (dsimp only; omega) | exact RowsEq.refl _ _ _ | assumption | rfl | trivial | exact Nat.le_refl _ | skip)
        intro _
        ((repeat' apply And.intro) <;> first | with_reducible rfl | omega | (dsimp only; omega) | exact RowsEq.refl _ _ _ | assumption | rfl | trivial | exact Nat.le_refl _ | skip)
        intro _
        ((repeat' apply And.intro) <;> first | with_reducible rfl | omega | (dsimp only; omega) | exact RowsEq.refl _ _ _ | assumption | rfl | trivial | exact Nat.le_refl _ | skip)
        refine ⟨⟨swpL y.m y.i (x.a + o), y.i + 1, g⟩, ?_⟩
        have p1 : PR x.a x.b x.l (swpL y.m y.i (x.a + o)) := .step y1 (by omega) (by omega) (by omega) (by omega) (by omega)
        have r1 : RowsEq (swpL y.m y.i (x.a + o)).length 1 (updR (updR (encRows encU y.m) y.i 0 [Go.Value.int Go.IntKind.u64 (gl y.m (x.a + o))]) (x.a + o) 0 [Go.Value.int Go.IntKind.u64 (gl y.m y.i)]) (encRows encU (swpL y.m y.i (x.a + o))) := rows_swap (by omega) (by omega) rfl rfl
        have n1 := swpL_length y.m y.i (x.a + o)
        ((repeat' apply And.intro) <;> first | with_reducible rfl | omega | (dsimp only; omega) | exact RowsEq.refl _ _ _ | assumption | rfl | trivial | exact Nat.le_refl _ | skip)
    · ((repeat' apply And.intro) <;> first | with_reducible rfl | omega | (dsimp only; omega) | exact RowsEq.refl _ _ _ | assumption | rfl | trivial | exact Nat.le_refl _ | skip)
  · have p0 := PR.refl (a := x.a) (b := x.b) x.l
    ((repeat' apply And.intro) <;> first | with_reducible rfl | omega | (dsimp only; omega) | exact RowsEq.refl _ _ _ | assumption | rfl | trivial | exact Nat.le_refl _ | skip))
theorem callBrk : CallsBy (Y Try.prog).G.X 39 cBrk := fn_ok okY (tab := [(52, cNext), (32, cLen)]) ⟨callNext, callLen, trivial⟩ bodyBrk
end Go.Proofs.Ythofnohpdbbidaa
