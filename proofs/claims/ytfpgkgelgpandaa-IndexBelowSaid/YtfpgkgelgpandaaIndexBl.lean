/-
  The statement IndexBelow's function; no condition.
-/
import Derived.Test.YtfpgkgelgpandaaIndexLaw
namespace Go.Proofs.Ytfpgkgelgpandaa
open Go.Sx
set_option maxRecDepth 100000
set_option linter.unusedVariables false

def encI (p : Int) : List Value := [.int .i64 p]
structure BelA where
  n : Int
  at_ : Int
  m : Nat
  cap : Nat
  rows : Nat → Nat → Value
structure BelS where
  x : IdxR
  cap : Nat
  i : Nat
  pos : List Int
def S.posn (s : S) (t n : Nat) (pos : List Int) : S := s.at_ t (.arr 2 [.int .i64] n (encRows encI pos))
/-- so many of the first i lie below -/
def wantN (pos : List Int) (p : Int) : Nat → Nat
  | 0 => 0
  | i + 1 => wantN pos p i + if gl pos i < p then 1 else 0
theorem wantN_le (pos : List Int) (p : Int) : ∀ i, wantN pos p i ≤ i
  | 0 => Nat.le_refl _
  | i + 1 => by
    have := wantN_le pos p i
    unfold wantN
    split <;> omega
theorem wantN_rest (pos : List Int) (p : Int) : ∀ i, wantN pos p i + ((List.range i).filter fun k => decide (p ≤ gl pos k)).length = i
  | 0 => rfl
  | i + 1 => by
    have := wantN_rest pos p i
    rw [List.range_succ, List.filter_append, List.length_append]
    unfold wantN
    by_cases h : gl pos i < p
    · rw [if_pos h, List.filter_cons_of_neg (by simp; omega)]
      simp; omega
    · rw [if_neg h, List.filter_cons_of_pos (by simp; omega)]
      simp; omega
theorem LM_low (n : Nat) (pos : List Int) (p : Int) : (LM n (fun _ => true) (gl pos)).filter (fun e => decide (p ≤ e.2)) = LM n (fun k => decide (p ≤ gl pos k)) (gl pos) := by
  unfold LM
  rw [List.filter_map, List.filter_filter]
  congr 1
  refine List.filter_congr fun k _ => ?_
  simp
theorem below_num {x : IdxR} {n : Nat} {pos : List Int} (h : Has x (LM n (fun _ => true) (gl pos))) (p : Int) :
    Has (belowI x p) (LM n (fun k => decide (p ≤ gl pos k)) (gl pos)) ∧ belowN x.t p x.t.length = wantN pos p n ∧ x.n = n ∧ (belowI x p).n = n - wantN pos p n := by
  obtain ⟨g1, g2, g3⟩ := below_has h p
  rw [LM_low] at g1 g2
  rw [LM_all] at g2 g3
  have e := wantN_rest pos p n
  have el : (LM n (fun k => decide (p ≤ gl pos k)) (gl pos)).length = ((List.range n).filter fun k => decide (p ≤ gl pos k)).length := by unfold LM; rw [List.length_map]
  have hn := h.n
  rw [LM_all] at hn
  refine ⟨g1, by omega, hn, ?_⟩
  rw [g1.n]; omega

def iBel1 (a : BelA) : An := .flat 9 BelS (fun s y => (S.posn (S.idx s (s.tg 8) y.x y.cap) (s.tg 9) a.n.toNat y.pos).int 10 y.i)
  (fun _ y => y.i ≤ a.n.toNat ∧ y.pos.length = a.n.toNat ∧ Has y.x (LM a.n.toNat (fun k => decide (k < y.i)) (gl y.pos))) (fun _ y => a.n.toNat - y.i)
def iBel2 (a : BelA) : An := .flat 14 BelS (fun s y => (S.posn (S.idx s (s.tg 8) y.x y.cap) (s.tg 9) a.n.toNat y.pos).int 11 y.i)
  (fun _ y => y.i ≤ 20 ∧ y.pos.length = a.n.toNat ∧ Has y.x (LM a.n.toNat (fun _ => true) (gl y.pos))) (fun _ y => 20 - y.i)
def iBel3 (a : BelA) : An := .flat 22 BelS (fun s y => ((S.posn (S.idx s (s.tg 8) y.x y.cap) (s.tg 9) a.n.toNat y.pos).int 13 (wantN y.pos a.at_ y.i)).int 14 y.i)
  (fun _ y => y.i ≤ a.n.toNat ∧ y.pos.length = a.n.toNat ∧ Has y.x (LM a.n.toNat (fun _ => true) (gl y.pos))) (fun _ y => a.n.toNat - y.i)
def iBel4 (a : BelA) : An := .flat 29 BelS (fun s y => (S.posn (S.idx s (s.tg 8) y.x y.cap) (s.tg 9) a.n.toNat y.pos).int 15 y.i)
  (fun _ y => y.i ≤ a.n.toNat ∧ y.pos.length = a.n.toNat ∧ Has y.x (LM a.n.toNat (fun k => decide (a.at_ ≤ gl y.pos k)) (gl y.pos))) (fun _ y => a.n.toNat - y.i)
noncomputable def cBel : Con where
  α := BelA
  β := Unit
  m := 1
  m' := 1
  pre := fun a => a.m ≤ a.cap ∧ a.cap ≤ lenMax
  args := fun a => [.a (.int .i64 a.n), .a (.int .i64 a.at_), .a (.slc 0 0 1 a.m a.cap)]
  hp := fun _ => []
  ro := fun a => [(0, .arr 3 [.int .i64] a.m a.rows)]
  post := fun _ _ => True
  res := fun _ _ => .a .tt
  hp' := fun _ _ => []
set_option maxHeartbeats 4000000 in
theorem bodyBel : fnBody (Y Try.prog) tabIdx 4 cBel fun a => [(4, [iBel1 a, iBel2 a, iBel3 a, iBel4 a], [])] := fnBody.of (p :=
  ∀ (a : BelA), a.m ≤ a.cap ∧
  a.cap ≤ lenMax →
  ∃ (a_2 : Unit), True ∧
  ∀ (b : Unit), True →
  (Decidable.decide (a.n < (0 : Int)) = Bool.true →
  ∃ (b : Unit), Bool.true = Bool.true ∧
  True ∧
  True) ∧
  (Decidable.decide (a.n < (0 : Int)) = Bool.false →
  (Decidable.decide ((60 : Int) < a.n) = Bool.true →
  ∃ (b : Unit), Bool.true = Bool.true ∧
  True ∧
  True) ∧
  (Decidable.decide ((60 : Int) < a.n) = Bool.false →
  (Decidable.decide (a.at_ < (0 : Int)) = Bool.true →
  ∃ (b : Unit), Bool.true = Bool.true ∧
  True ∧
  True) ∧
  (Decidable.decide (a.at_ < (0 : Int)) = Bool.false →
  (Decidable.decide ((200 : Int) < a.at_) = Bool.true →
  ∃ (b : Unit), Bool.true = Bool.true ∧
  True ∧
  True) ∧
  (Decidable.decide ((200 : Int) < a.at_) = Bool.false →
  (0 : Int) ≤ (16 : Int) ∧
  (16 : Int) ≤ (16 : Int) ∧
  (512 : Int) ≤ (281474976710656 : Int) ∧
  (0 : Int) ≤ a.n ∧
  a.n ≤ a.n ∧
  (8 : Int) * a.n ≤ (281474976710656 : Int) ∧
  (∃ (a_8 : BelS), (0 : Int) = (↑a_8.i : Int) ∧
  ((0 : Nat) = (0 : Nat) ∧
  a.n.toNat = a.n.toNat ∧
  a.n.toNat = a.n.toNat) ∧
  (0 : Nat) = (0 : Nat) ∧
  Decidable.decide ((200 : Int) < a.at_) = Decidable.decide ((200 : Int) < a.at_) ∧
  Bool.false = Bool.false ∧
  Bool.true = Bool.true ∧
  Bool.false = Bool.false ∧
  a.n = a.n ∧
  a.at_ = a.at_ ∧
  ((0 : Nat) = (0 : Nat) ∧
  a.m = a.m ∧
  a.cap = a.cap) ∧
  (a.n.toNat ≤ a.n.toNat ∧
  RowsEq a.n.toNat (1 : Nat) (fun (x j : Nat) => [Value.int IntKind.i64 (0 : Int)].getD j (Value.tuple #[])) (encRows encI a_8.pos)) ∧
  ((0 : Nat) = (0 : Nat) ∧
  (16 : Nat) = a_8.x.t.length ∧
  (16 : Nat) = a_8.cap) ∧
  (0 : Int) = (↑a_8.x.n : Int) ∧
  (0 : Int) = (↑a_8.x.used : Int) ∧
  (a_8.x.t.length ≤ (16 : Nat) ∧
  RowsEq a_8.x.t.length (4 : Nat) (fun (x j : Nat) => [Value.string { data := #[] }, Value.int IntKind.i64 (0 : Int), Value.bool Bool.false, Value.bool Bool.false].getD j (Value.tuple #[])) (encRows encP a_8.x.t)) ∧
  (a.m ≤ a.m ∧
  RowsEq a.m (1 : Nat) a.rows a.rows) ∧
  (a_8.i ≤ a.n.toNat ∧
  a_8.pos.length = a.n.toNat ∧
  Has a_8.x (LM a.n.toNat (fun (k : Nat) => Decidable.decide (k < a_8.i)) (gl a_8.pos))) ∧
  True) ∧
  ∀ (a_8 : BelS), a_8.i ≤ a.n.toNat ∧
  a_8.pos.length = a.n.toNat ∧
  Has a_8.x (LM a.n.toNat (fun (k : Nat) => Decidable.decide (k < a_8.i)) (gl a_8.pos)) →
  (Decidable.decide ((↑a_8.i : Int) < a.n) = Bool.true →
  InR IntKind.i64 ((↑a_8.i : Int) + (1 : Int)) ∧
  ((0 : Int) ≤ (↑a_8.i : Int) ∧
  (↑a_8.i : Int) < (↑a.n.toNat : Int)) ∧
  (0 : Nat) + (↑a_8.i : Int).toNat < a.n.toNat ∧
  ((0 : Int) ≤ (↑a_8.i : Int) ∧
  (↑a_8.i : Int) < (↑a.n.toNat : Int)) ∧
  (0 : Nat) + (↑a_8.i : Int).toNat < a.n.toNat ∧
  (InR IntKind.i64 (toI (updR (encRows encI a_8.pos) ((0 : Nat) + (↑a_8.i : Int).toNat) (0 : Nat) [Value.int IntKind.i64 ((↑a_8.i : Int) + (1 : Int))] ((0 : Nat) + (↑a_8.i : Int).toNat) (0 : Nat))) →
  ∃ (a_12 : Nat), (↑a_8.i : Int) = (↑a_12 : Int) ∧
  a_12 < (1000 : Nat) ∧
  ∀ (b : Unit), True →
  ∃ (a_14 : PutA), (0 : Nat) = (0 : Nat) ∧
  nameOf a_12 = a_14.key ∧
  toI (updR (encRows encI a_8.pos) ((0 : Nat) + (↑a_8.i : Int).toNat) (0 : Nat) [Value.int IntKind.i64 ((↑a_8.i : Int) + (1 : Int))] ((0 : Nat) + (↑a_8.i : Int).toNat) (0 : Nat)) = a_14.pos ∧
  ((0 : Nat) = (0 : Nat) ∧
  a_8.x.t.length = a_14.x.t.length ∧
  a_8.cap = a_14.cap) ∧
  (↑a_8.x.n : Int) = (↑a_14.x.n : Int) ∧
  (↑a_8.x.used : Int) = (↑a_14.x.used : Int) ∧
  (a_14.x.t.length ≤ a_8.x.t.length ∧
  RowsEq a_14.x.t.length (4 : Nat) (encRows encP a_8.x.t) (encRows encP a_14.x.t)) ∧
  (Inv a_14.x ∧
  a_14.x.n < (9999 : Nat) ∧
  a_14.key.size ≤ lenMax) ∧
  ∀ (b : Nat), True →
  InR IntKind.i64 ((↑a_8.i : Int) + (1 : Int)) ∧
  ∃ (a' : BelS), (↑a_8.i : Int) + (1 : Int) = (↑a'.i : Int) ∧
  ((0 : Nat) = (0 : Nat) ∧
  a.n.toNat = a.n.toNat ∧
  a.n.toNat = a.n.toNat) ∧
  (0 : Nat) = (0 : Nat) ∧
  Decidable.decide ((200 : Int) < a.at_) = Decidable.decide ((200 : Int) < a.at_) ∧
  Bool.false = Bool.false ∧
  Bool.true = Bool.true ∧
  Bool.false = Bool.false ∧
  a.n = a.n ∧
  a.at_ = a.at_ ∧
  ((0 : Nat) = (0 : Nat) ∧
  a.m = a.m ∧
  a.cap = a.cap) ∧
  (a.n.toNat ≤ a.n.toNat ∧
  RowsEq a.n.toNat (1 : Nat) (updR (encRows encI a_8.pos) ((0 : Nat) + (↑a_8.i : Int).toNat) (0 : Nat) [Value.int IntKind.i64 ((↑a_8.i : Int) + (1 : Int))]) (encRows encI a'.pos)) ∧
  ((0 : Nat) = (0 : Nat) ∧
  (putX a_14.x a_14.key a_14.pos).t.length = a'.x.t.length ∧
  b = a'.cap) ∧
  (↑(putX a_14.x a_14.key a_14.pos).n : Int) = (↑a'.x.n : Int) ∧
  (↑(putX a_14.x a_14.key a_14.pos).used : Int) = (↑a'.x.used : Int) ∧
  (a'.x.t.length ≤ (putX a_14.x a_14.key a_14.pos).t.length ∧
  RowsEq a'.x.t.length (4 : Nat) (encRows encP (putX a_14.x a_14.key a_14.pos).t) (encRows encP a'.x.t)) ∧
  (a.m ≤ a.m ∧
  RowsEq a.m (1 : Nat) a.rows a.rows) ∧
  (a'.i ≤ a.n.toNat ∧
  a'.pos.length = a.n.toNat ∧
  Has a'.x (LM a.n.toNat (fun (k : Nat) => Decidable.decide (k < a'.i)) (gl a'.pos))) ∧
  a.n.toNat - a'.i < a.n.toNat - a_8.i)) ∧
  (Decidable.decide ((↑a_8.i : Int) < a.n) = Bool.false →
  (∃ (a_11 : BelS), (0 : Int) = (↑a_11.i : Int) ∧
  Decidable.decide ((↑a_8.i : Int) < a.n) = Decidable.decide ((↑a_8.i : Int) < a.n) ∧
  (↑a_8.i : Int) = (↑a_8.i : Int) ∧
  ((0 : Nat) = (0 : Nat) ∧
  a.n.toNat = a.n.toNat ∧
  a.n.toNat = a.n.toNat) ∧
  (0 : Nat) = (0 : Nat) ∧
  Decidable.decide ((200 : Int) < a.at_) = Decidable.decide ((200 : Int) < a.at_) ∧
  Bool.false = Bool.false ∧
  Bool.true = Bool.true ∧
  Bool.false = Bool.false ∧
  a.n = a.n ∧
  a.at_ = a.at_ ∧
  ((0 : Nat) = (0 : Nat) ∧
  a.m = a.m ∧
  a.cap = a.cap) ∧
  (a.n.toNat ≤ a.n.toNat ∧
  RowsEq a.n.toNat (1 : Nat) (encRows encI a_8.pos) (encRows encI a_11.pos)) ∧
  ((0 : Nat) = (0 : Nat) ∧
  a_8.x.t.length = a_11.x.t.length ∧
  a_8.cap = a_11.cap) ∧
  (↑a_8.x.n : Int) = (↑a_11.x.n : Int) ∧
  (↑a_8.x.used : Int) = (↑a_11.x.used : Int) ∧
  (a_11.x.t.length ≤ a_8.x.t.length ∧
  RowsEq a_11.x.t.length (4 : Nat) (encRows encP a_8.x.t) (encRows encP a_11.x.t)) ∧
  (a.m ≤ a.m ∧
  RowsEq a.m (1 : Nat) a.rows a.rows) ∧
  (a_11.i ≤ (20 : Nat) ∧
  a_11.pos.length = a.n.toNat ∧
  Has a_11.x (LM a.n.toNat (fun (x : Nat) => Bool.true) (gl a_11.pos))) ∧
  True) ∧
  ∀ (a_11 : BelS), a_11.i ≤ (20 : Nat) ∧
  a_11.pos.length = a.n.toNat ∧
  Has a_11.x (LM a.n.toNat (fun (x : Nat) => Bool.true) (gl a_11.pos)) →
  (Decidable.decide ((↑a_11.i : Int) < (↑a.m : Int)) = Bool.true →
  (Decidable.decide ((↑a_11.i : Int) < (20 : Int)) = Bool.true →
  (Decidable.decide ((0 : Int) < a.n) = Bool.true →
  ((0 : Int) ≤ (↑a_11.i : Int) ∧
  (↑a_11.i : Int) < (↑a.m : Int)) ∧
  (0 : Nat) + (↑a_11.i : Int).toNat < a.m ∧
  (InR IntKind.i64 (toI (a.rows ((0 : Nat) + (↑a_11.i : Int).toNat) (0 : Nat))) →
  a.n ≠ (0 : Int) ∧
  InR IntKind.i64 ((toI (a.rows ((0 : Nat) + (↑a_11.i : Int).toNat) (0 : Nat))).tmod a.n + a.n) ∧
  a.n ≠ (0 : Int) ∧
  InR IntKind.i64 ((100 : Int) + (↑a_11.i : Int)) ∧
  ((0 : Int) ≤ ((toI (a.rows ((0 : Nat) + (↑a_11.i : Int).toNat) (0 : Nat))).tmod a.n + a.n).tmod a.n ∧
  ((toI (a.rows ((0 : Nat) + (↑a_11.i : Int).toNat) (0 : Nat))).tmod a.n + a.n).tmod a.n < (↑a.n.toNat : Int)) ∧
  (0 : Nat) + (((toI (a.rows ((0 : Nat) + (↑a_11.i : Int).toNat) (0 : Nat))).tmod a.n + a.n).tmod a.n).toNat < a.n.toNat ∧
  (InR IntKind.i64 (gl a_11.pos ((0 : Nat) + (((toI (a.rows ((0 : Nat) + (↑a_11.i : Int).toNat) (0 : Nat))).tmod a.n + a.n).tmod a.n).toNat)) →
  ∃ (a_18 : Nat), ((toI (a.rows ((0 : Nat) + (↑a_11.i : Int).toNat) (0 : Nat))).tmod a.n + a.n).tmod a.n = (↑a_18 : Int) ∧
  a_18 < (1000 : Nat) ∧
  ∀ (b : Unit), True →
  ∃ (a_20 : PutA), (0 : Nat) = (0 : Nat) ∧
  nameOf a_18 = a_20.key ∧
  (100 : Int) + (↑a_11.i : Int) = a_20.pos ∧
  ((0 : Nat) = (0 : Nat) ∧
  a_11.x.t.length = a_20.x.t.length ∧
  a_11.cap = a_20.cap) ∧
  (↑a_11.x.n : Int) = (↑a_20.x.n : Int) ∧
  (↑a_11.x.used : Int) = (↑a_20.x.used : Int) ∧
  (a_20.x.t.length ≤ a_11.x.t.length ∧
  RowsEq a_20.x.t.length (4 : Nat) (encRows encP a_11.x.t) (encRows encP a_20.x.t)) ∧
  (Inv a_20.x ∧
  a_20.x.n < (9999 : Nat) ∧
  a_20.key.size ≤ lenMax) ∧
  ∀ (b : Nat), True →
  ((putRet (roomy a_20.x) a_20.key != gl a_11.pos ((0 : Nat) + (((toI (a.rows ((0 : Nat) + (↑a_11.i : Int).toNat) (0 : Nat))).tmod a.n + a.n).tmod a.n).toNat)) = Bool.true →
  ∃ (b : Unit), Bool.false = Bool.true ∧
  True ∧
  True) ∧
  ((putRet (roomy a_20.x) a_20.key != gl a_11.pos ((0 : Nat) + (((toI (a.rows ((0 : Nat) + (↑a_11.i : Int).toNat) (0 : Nat))).tmod a.n + a.n).tmod a.n).toNat)) = Bool.false →
  InR IntKind.i64 ((100 : Int) + (↑a_11.i : Int)) ∧
  ((0 : Int) ≤ ((toI (a.rows ((0 : Nat) + (↑a_11.i : Int).toNat) (0 : Nat))).tmod a.n + a.n).tmod a.n ∧
  ((toI (a.rows ((0 : Nat) + (↑a_11.i : Int).toNat) (0 : Nat))).tmod a.n + a.n).tmod a.n < (↑a.n.toNat : Int)) ∧
  (0 : Nat) + (((toI (a.rows ((0 : Nat) + (↑a_11.i : Int).toNat) (0 : Nat))).tmod a.n + a.n).tmod a.n).toNat < a.n.toNat ∧
  InR IntKind.i64 ((↑a_11.i : Int) + (1 : Int)) ∧
  ∃ (a' : BelS), (↑a_11.i : Int) + (1 : Int) = (↑a'.i : Int) ∧
  Decidable.decide ((↑a_8.i : Int) < a.n) = Decidable.decide ((↑a_8.i : Int) < a.n) ∧
  (↑a_8.i : Int) = (↑a_8.i : Int) ∧
  ((0 : Nat) = (0 : Nat) ∧
  a.n.toNat = a.n.toNat ∧
  a.n.toNat = a.n.toNat) ∧
  (0 : Nat) = (0 : Nat) ∧
  Decidable.decide ((200 : Int) < a.at_) = Decidable.decide ((200 : Int) < a.at_) ∧
  Bool.false = Bool.false ∧
  Bool.true = Bool.true ∧
  Bool.false = Bool.false ∧
  a.n = a.n ∧
  a.at_ = a.at_ ∧
  ((0 : Nat) = (0 : Nat) ∧
  a.m = a.m ∧
  a.cap = a.cap) ∧
  (a.n.toNat ≤ a.n.toNat ∧
  RowsEq a.n.toNat (1 : Nat) (updR (encRows encI a_11.pos) ((0 : Nat) + (((toI (a.rows ((0 : Nat) + (↑a_11.i : Int).toNat) (0 : Nat))).tmod a.n + a.n).tmod a.n).toNat) (0 : Nat) [Value.int IntKind.i64 ((100 : Int) + (↑a_11.i : Int))]) (encRows encI a'.pos)) ∧
  ((0 : Nat) = (0 : Nat) ∧
  (putX a_20.x a_20.key a_20.pos).t.length = a'.x.t.length ∧
  b = a'.cap) ∧
  (↑(putX a_20.x a_20.key a_20.pos).n : Int) = (↑a'.x.n : Int) ∧
  (↑(putX a_20.x a_20.key a_20.pos).used : Int) = (↑a'.x.used : Int) ∧
  (a'.x.t.length ≤ (putX a_20.x a_20.key a_20.pos).t.length ∧
  RowsEq a'.x.t.length (4 : Nat) (encRows encP (putX a_20.x a_20.key a_20.pos).t) (encRows encP a'.x.t)) ∧
  (a.m ≤ a.m ∧
  RowsEq a.m (1 : Nat) a.rows a.rows) ∧
  (a'.i ≤ (20 : Nat) ∧
  a'.pos.length = a.n.toNat ∧
  Has a'.x (LM a.n.toNat (fun (x : Nat) => Bool.true) (gl a'.pos))) ∧
  (20 : Nat) - a'.i < (20 : Nat) - a_11.i)))) ∧
  (Decidable.decide ((0 : Int) < a.n) = Bool.false →
  (∃ (a_16 : BelS), (0 : Int) = (↑a_16.i : Int) ∧
  (0 : Int) = (↑(wantN a_16.pos a.at_ a_16.i) : Int) ∧
  Decidable.decide ((0 : Int) < a.n) = Decidable.decide ((0 : Int) < a.n) ∧
  (↑a_11.i : Int) = (↑a_11.i : Int) ∧
  Decidable.decide ((↑a_8.i : Int) < a.n) = Decidable.decide ((↑a_8.i : Int) < a.n) ∧
  (↑a_8.i : Int) = (↑a_8.i : Int) ∧
  ((0 : Nat) = (0 : Nat) ∧
  a.n.toNat = a.n.toNat ∧
  a.n.toNat = a.n.toNat) ∧
  (0 : Nat) = (0 : Nat) ∧
  Decidable.decide ((200 : Int) < a.at_) = Decidable.decide ((200 : Int) < a.at_) ∧
  Bool.false = Bool.false ∧
  Bool.true = Bool.true ∧
  Bool.false = Bool.false ∧
  a.n = a.n ∧
  a.at_ = a.at_ ∧
  ((0 : Nat) = (0 : Nat) ∧
  a.m = a.m ∧
  a.cap = a.cap) ∧
  (a.n.toNat ≤ a.n.toNat ∧
  RowsEq a.n.toNat (1 : Nat) (encRows encI a_11.pos) (encRows encI a_16.pos)) ∧
  ((0 : Nat) = (0 : Nat) ∧
  a_11.x.t.length = a_16.x.t.length ∧
  a_11.cap = a_16.cap) ∧
  (↑a_11.x.n : Int) = (↑a_16.x.n : Int) ∧
  (↑a_11.x.used : Int) = (↑a_16.x.used : Int) ∧
  (a_16.x.t.length ≤ a_11.x.t.length ∧
  RowsEq a_16.x.t.length (4 : Nat) (encRows encP a_11.x.t) (encRows encP a_16.x.t)) ∧
  (a.m ≤ a.m ∧
  RowsEq a.m (1 : Nat) a.rows a.rows) ∧
  (a_16.i ≤ a.n.toNat ∧
  a_16.pos.length = a.n.toNat ∧
  Has a_16.x (LM a.n.toNat (fun (x : Nat) => Bool.true) (gl a_16.pos))) ∧
  True) ∧
  ∀ (a_16 : BelS), a_16.i ≤ a.n.toNat ∧
  a_16.pos.length = a.n.toNat ∧
  Has a_16.x (LM a.n.toNat (fun (x : Nat) => Bool.true) (gl a_16.pos)) →
  (Decidable.decide ((↑a_16.i : Int) < a.n) = Bool.true →
  ((0 : Int) ≤ (↑a_16.i : Int) ∧
  (↑a_16.i : Int) < (↑a.n.toNat : Int)) ∧
  (0 : Nat) + (↑a_16.i : Int).toNat < a.n.toNat ∧
  (InR IntKind.i64 (gl a_16.pos ((0 : Nat) + (↑a_16.i : Int).toNat)) →
  (Decidable.decide (gl a_16.pos ((0 : Nat) + (↑a_16.i : Int).toNat) < a.at_) = Bool.true →
  InR IntKind.i64 ((↑(wantN a_16.pos a.at_ a_16.i) : Int) + (1 : Int)) ∧
  InR IntKind.i64 ((↑a_16.i : Int) + (1 : Int)) ∧
  ∃ (a' : BelS), (↑a_16.i : Int) + (1 : Int) = (↑a'.i : Int) ∧
  (↑(wantN a_16.pos a.at_ a_16.i) : Int) + (1 : Int) = (↑(wantN a'.pos a.at_ a'.i) : Int) ∧
  Decidable.decide ((0 : Int) < a.n) = Decidable.decide ((0 : Int) < a.n) ∧
  (↑a_11.i : Int) = (↑a_11.i : Int) ∧
  Decidable.decide ((↑a_8.i : Int) < a.n) = Decidable.decide ((↑a_8.i : Int) < a.n) ∧
  (↑a_8.i : Int) = (↑a_8.i : Int) ∧
  ((0 : Nat) = (0 : Nat) ∧
  a.n.toNat = a.n.toNat ∧
  a.n.toNat = a.n.toNat) ∧
  (0 : Nat) = (0 : Nat) ∧
  Decidable.decide ((200 : Int) < a.at_) = Decidable.decide ((200 : Int) < a.at_) ∧
  Bool.false = Bool.false ∧
  Bool.true = Bool.true ∧
  Bool.false = Bool.false ∧
  a.n = a.n ∧
  a.at_ = a.at_ ∧
  ((0 : Nat) = (0 : Nat) ∧
  a.m = a.m ∧
  a.cap = a.cap) ∧
  (a.n.toNat ≤ a.n.toNat ∧
  RowsEq a.n.toNat (1 : Nat) (encRows encI a_16.pos) (encRows encI a'.pos)) ∧
  ((0 : Nat) = (0 : Nat) ∧
  a_16.x.t.length = a'.x.t.length ∧
  a_16.cap = a'.cap) ∧
  (↑a_16.x.n : Int) = (↑a'.x.n : Int) ∧
  (↑a_16.x.used : Int) = (↑a'.x.used : Int) ∧
  (a'.x.t.length ≤ a_16.x.t.length ∧
  RowsEq a'.x.t.length (4 : Nat) (encRows encP a_16.x.t) (encRows encP a'.x.t)) ∧
  (a.m ≤ a.m ∧
  RowsEq a.m (1 : Nat) a.rows a.rows) ∧
  (a'.i ≤ a.n.toNat ∧
  a'.pos.length = a.n.toNat ∧
  Has a'.x (LM a.n.toNat (fun (x : Nat) => Bool.true) (gl a'.pos))) ∧
  a.n.toNat - a'.i < a.n.toNat - a_16.i) ∧
  (Decidable.decide (gl a_16.pos ((0 : Nat) + (↑a_16.i : Int).toNat) < a.at_) = Bool.false →
  InR IntKind.i64 ((↑a_16.i : Int) + (1 : Int)) ∧
  ∃ (a' : BelS), (↑a_16.i : Int) + (1 : Int) = (↑a'.i : Int) ∧
  (↑(wantN a_16.pos a.at_ a_16.i) : Int) = (↑(wantN a'.pos a.at_ a'.i) : Int) ∧
  Decidable.decide ((0 : Int) < a.n) = Decidable.decide ((0 : Int) < a.n) ∧
  (↑a_11.i : Int) = (↑a_11.i : Int) ∧
  Decidable.decide ((↑a_8.i : Int) < a.n) = Decidable.decide ((↑a_8.i : Int) < a.n) ∧
  (↑a_8.i : Int) = (↑a_8.i : Int) ∧
  ((0 : Nat) = (0 : Nat) ∧
  a.n.toNat = a.n.toNat ∧
  a.n.toNat = a.n.toNat) ∧
  (0 : Nat) = (0 : Nat) ∧
  Decidable.decide ((200 : Int) < a.at_) = Decidable.decide ((200 : Int) < a.at_) ∧
  Bool.false = Bool.false ∧
  Bool.true = Bool.true ∧
  Bool.false = Bool.false ∧
  a.n = a.n ∧
  a.at_ = a.at_ ∧
  ((0 : Nat) = (0 : Nat) ∧
  a.m = a.m ∧
  a.cap = a.cap) ∧
  (a.n.toNat ≤ a.n.toNat ∧
  RowsEq a.n.toNat (1 : Nat) (encRows encI a_16.pos) (encRows encI a'.pos)) ∧
  ((0 : Nat) = (0 : Nat) ∧
  a_16.x.t.length = a'.x.t.length ∧
  a_16.cap = a'.cap) ∧
  (↑a_16.x.n : Int) = (↑a'.x.n : Int) ∧
  (↑a_16.x.used : Int) = (↑a'.x.used : Int) ∧
  (a'.x.t.length ≤ a_16.x.t.length ∧
  RowsEq a'.x.t.length (4 : Nat) (encRows encP a_16.x.t) (encRows encP a'.x.t)) ∧
  (a.m ≤ a.m ∧
  RowsEq a.m (1 : Nat) a.rows a.rows) ∧
  (a'.i ≤ a.n.toNat ∧
  a'.pos.length = a.n.toNat ∧
  Has a'.x (LM a.n.toNat (fun (x : Nat) => Bool.true) (gl a'.pos))) ∧
  a.n.toNat - a'.i < a.n.toNat - a_16.i))) ∧
  (Decidable.decide ((↑a_16.i : Int) < a.n) = Bool.false →
  ∃ (a_19 : LowA), (0 : Nat) = (0 : Nat) ∧
  a.at_ = a_19.pos ∧
  ((0 : Nat) = (0 : Nat) ∧
  a_16.x.t.length = a_19.x.t.length ∧
  a_16.cap = a_19.cap) ∧
  (↑a_16.x.n : Int) = (↑a_19.x.n : Int) ∧
  (↑a_16.x.used : Int) = (↑a_19.x.used : Int) ∧
  (a_19.x.t.length ≤ a_16.x.t.length ∧
  RowsEq a_19.x.t.length (4 : Nat) (encRows encP a_16.x.t) (encRows encP a_19.x.t)) ∧
  (Inv a_19.x ∧
  a_19.x.n < (10000 : Nat) ∧
  belowN a_19.x.t a_19.pos a_19.x.t.length ≤ a_19.x.n) ∧
  ∀ (b : Unit), True →
  (((↑(belowN a_19.x.t a_19.pos a_19.x.t.length) : Int) != (↑(wantN a_16.pos a.at_ a_16.i) : Int)) = Bool.true →
  ∃ (b : Unit), Bool.false = Bool.true ∧
  True ∧
  True) ∧
  (((↑(belowN a_19.x.t a_19.pos a_19.x.t.length) : Int) != (↑(wantN a_16.pos a.at_ a_16.i) : Int)) = Bool.false →
  InR IntKind.i64 (↑(belowI a_19.x a_19.pos).n : Int) →
  InR IntKind.i64 (a.n - (↑(wantN a_16.pos a.at_ a_16.i) : Int)) ∧
  (((↑(belowI a_19.x a_19.pos).n : Int) != a.n - (↑(wantN a_16.pos a.at_ a_16.i) : Int)) = Bool.true →
  ∃ (b : Unit), Bool.false = Bool.true ∧
  True ∧
  True) ∧
  (((↑(belowI a_19.x a_19.pos).n : Int) != a.n - (↑(wantN a_16.pos a.at_ a_16.i) : Int)) = Bool.false →
  (∃ (a_24 : BelS), (0 : Int) = (↑a_24.i : Int) ∧
  ((↑(belowI a_19.x a_19.pos).n : Int) != a.n - (↑(wantN a_16.pos a.at_ a_16.i) : Int)) = ((↑(belowI a_19.x a_19.pos).n : Int) != a.n - (↑(wantN a_16.pos a.at_ a_16.i) : Int)) ∧
  Decidable.decide ((↑a_16.i : Int) < a.n) = Decidable.decide ((↑a_16.i : Int) < a.n) ∧
  (↑a_16.i : Int) = (↑a_16.i : Int) ∧
  (↑(wantN a_16.pos a.at_ a_16.i) : Int) = (↑(wantN a_16.pos a.at_ a_16.i) : Int) ∧
  Decidable.decide ((0 : Int) < a.n) = Decidable.decide ((0 : Int) < a.n) ∧
  (↑a_11.i : Int) = (↑a_11.i : Int) ∧
  Decidable.decide ((↑a_8.i : Int) < a.n) = Decidable.decide ((↑a_8.i : Int) < a.n) ∧
  (↑a_8.i : Int) = (↑a_8.i : Int) ∧
  ((0 : Nat) = (0 : Nat) ∧
  a.n.toNat = a.n.toNat ∧
  a.n.toNat = a.n.toNat) ∧
  (0 : Nat) = (0 : Nat) ∧
  Decidable.decide ((200 : Int) < a.at_) = Decidable.decide ((200 : Int) < a.at_) ∧
  Bool.false = Bool.false ∧
  Bool.true = Bool.true ∧
  Bool.false = Bool.false ∧
  a.n = a.n ∧
  a.at_ = a.at_ ∧
  ((0 : Nat) = (0 : Nat) ∧
  a.m = a.m ∧
  a.cap = a.cap) ∧
  ((0 : Nat) = (0 : Nat) ∧
  (belowI a_19.x a_19.pos).t.length = a_24.x.t.length ∧
  a_19.cap = a_24.cap) ∧
  (↑(belowI a_19.x a_19.pos).n : Int) = (↑a_24.x.n : Int) ∧
  (↑(belowI a_19.x a_19.pos).used : Int) = (↑a_24.x.used : Int) ∧
  (a_24.x.t.length ≤ (belowI a_19.x a_19.pos).t.length ∧
  RowsEq a_24.x.t.length (4 : Nat) (encRows encP (belowI a_19.x a_19.pos).t) (encRows encP a_24.x.t)) ∧
  (a.n.toNat ≤ a.n.toNat ∧
  RowsEq a.n.toNat (1 : Nat) (encRows encI a_16.pos) (encRows encI a_24.pos)) ∧
  (a.m ≤ a.m ∧
  RowsEq a.m (1 : Nat) a.rows a.rows) ∧
  (a_24.i ≤ a.n.toNat ∧
  a_24.pos.length = a.n.toNat ∧
  Has a_24.x (LM a.n.toNat (fun (k : Nat) => Decidable.decide (a.at_ ≤ gl a_24.pos k)) (gl a_24.pos))) ∧
  True) ∧
  ∀ (a_24 : BelS), a_24.i ≤ a.n.toNat ∧
  a_24.pos.length = a.n.toNat ∧
  Has a_24.x (LM a.n.toNat (fun (k : Nat) => Decidable.decide (a.at_ ≤ gl a_24.pos k)) (gl a_24.pos)) →
  (Decidable.decide ((↑a_24.i : Int) < a.n) = Bool.true →
  ∃ (a_27 : Nat), (↑a_24.i : Int) = (↑a_27 : Int) ∧
  a_27 < (1000 : Nat) ∧
  ∀ (b : Unit), True →
  ∃ (a_29 : KeyA), (0 : Nat) = (0 : Nat) ∧
  nameOf a_27 = a_29.key ∧
  ((0 : Nat) = (0 : Nat) ∧
  a_24.x.t.length = a_29.x.t.length ∧
  a_24.cap = a_29.cap) ∧
  (↑a_24.x.n : Int) = (↑a_29.x.n : Int) ∧
  (↑a_24.x.used : Int) = (↑a_29.x.used : Int) ∧
  (a_29.x.t.length ≤ a_24.x.t.length ∧
  RowsEq a_29.x.t.length (4 : Nat) (encRows encP a_24.x.t) (encRows encP a_29.x.t)) ∧
  (Inv a_29.x ∧
  a_29.key.size ≤ lenMax) ∧
  ∀ (b : Unit), True →
  ((0 : Int) ≤ (↑a_24.i : Int) ∧
  (↑a_24.i : Int) < (↑a.n.toNat : Int)) ∧
  (0 : Nat) + (↑a_24.i : Int).toNat < a.n.toNat ∧
  (InR IntKind.i64 (gl a_24.pos ((0 : Nat) + (↑a_24.i : Int).toNat)) →
  ((!(getI a_29.x a_29.key).snd == Decidable.decide (a.at_ ≤ gl a_24.pos ((0 : Nat) + (↑a_24.i : Int).toNat))) = Bool.true →
  ∃ (b : Unit), Bool.false = Bool.true ∧
  True ∧
  True) ∧
  ((!(getI a_29.x a_29.key).snd == Decidable.decide (a.at_ ≤ gl a_24.pos ((0 : Nat) + (↑a_24.i : Int).toNat))) = Bool.false →
  ((getI a_29.x a_29.key).snd = Bool.true →
  ((0 : Int) ≤ (↑a_24.i : Int) ∧
  (↑a_24.i : Int) < (↑a.n.toNat : Int)) ∧
  (0 : Nat) + (↑a_24.i : Int).toNat < a.n.toNat ∧
  (InR IntKind.i64 (gl a_24.pos ((0 : Nat) + (↑a_24.i : Int).toNat)) →
  (((getI a_29.x a_29.key).fst != gl a_24.pos ((0 : Nat) + (↑a_24.i : Int).toNat)) = Bool.true →
  ∃ (b : Unit), Bool.false = Bool.true ∧
  True ∧
  True) ∧
  (((getI a_29.x a_29.key).fst != gl a_24.pos ((0 : Nat) + (↑a_24.i : Int).toNat)) = Bool.false →
  InR IntKind.i64 ((↑a_24.i : Int) + (1 : Int)) ∧
  ∃ (a' : BelS), (↑a_24.i : Int) + (1 : Int) = (↑a'.i : Int) ∧
  ((↑(belowI a_19.x a_19.pos).n : Int) != a.n - (↑(wantN a_16.pos a.at_ a_16.i) : Int)) = ((↑(belowI a_19.x a_19.pos).n : Int) != a.n - (↑(wantN a_16.pos a.at_ a_16.i) : Int)) ∧
  Decidable.decide ((↑a_16.i : Int) < a.n) = Decidable.decide ((↑a_16.i : Int) < a.n) ∧
  (↑a_16.i : Int) = (↑a_16.i : Int) ∧
  (↑(wantN a_16.pos a.at_ a_16.i) : Int) = (↑(wantN a_16.pos a.at_ a_16.i) : Int) ∧
  Decidable.decide ((0 : Int) < a.n) = Decidable.decide ((0 : Int) < a.n) ∧
  (↑a_11.i : Int) = (↑a_11.i : Int) ∧
  Decidable.decide ((↑a_8.i : Int) < a.n) = Decidable.decide ((↑a_8.i : Int) < a.n) ∧
  (↑a_8.i : Int) = (↑a_8.i : Int) ∧
  ((0 : Nat) = (0 : Nat) ∧
  a.n.toNat = a.n.toNat ∧
  a.n.toNat = a.n.toNat) ∧
  (0 : Nat) = (0 : Nat) ∧
  Decidable.decide ((200 : Int) < a.at_) = Decidable.decide ((200 : Int) < a.at_) ∧
  Bool.false = Bool.false ∧
  Bool.true = Bool.true ∧
  Bool.false = Bool.false ∧
  a.n = a.n ∧
  a.at_ = a.at_ ∧
  ((0 : Nat) = (0 : Nat) ∧
  a.m = a.m ∧
  a.cap = a.cap) ∧
  ((0 : Nat) = (0 : Nat) ∧
  a_24.x.t.length = a'.x.t.length ∧
  a_24.cap = a'.cap) ∧
  (↑a_24.x.n : Int) = (↑a'.x.n : Int) ∧
  (↑a_24.x.used : Int) = (↑a'.x.used : Int) ∧
  (a'.x.t.length ≤ a_24.x.t.length ∧
  RowsEq a'.x.t.length (4 : Nat) (encRows encP a_24.x.t) (encRows encP a'.x.t)) ∧
  (a.n.toNat ≤ a.n.toNat ∧
  RowsEq a.n.toNat (1 : Nat) (encRows encI a_24.pos) (encRows encI a'.pos)) ∧
  (a.m ≤ a.m ∧
  RowsEq a.m (1 : Nat) a.rows a.rows) ∧
  (a'.i ≤ a.n.toNat ∧
  a'.pos.length = a.n.toNat ∧
  Has a'.x (LM a.n.toNat (fun (k : Nat) => Decidable.decide (a.at_ ≤ gl a'.pos k)) (gl a'.pos))) ∧
  a.n.toNat - a'.i < a.n.toNat - a_24.i))) ∧
  ((getI a_29.x a_29.key).snd = Bool.false →
  InR IntKind.i64 ((↑a_24.i : Int) + (1 : Int)) ∧
  ∃ (a' : BelS), (↑a_24.i : Int) + (1 : Int) = (↑a'.i : Int) ∧
  ((↑(belowI a_19.x a_19.pos).n : Int) != a.n - (↑(wantN a_16.pos a.at_ a_16.i) : Int)) = ((↑(belowI a_19.x a_19.pos).n : Int) != a.n - (↑(wantN a_16.pos a.at_ a_16.i) : Int)) ∧
  Decidable.decide ((↑a_16.i : Int) < a.n) = Decidable.decide ((↑a_16.i : Int) < a.n) ∧
  (↑a_16.i : Int) = (↑a_16.i : Int) ∧
  (↑(wantN a_16.pos a.at_ a_16.i) : Int) = (↑(wantN a_16.pos a.at_ a_16.i) : Int) ∧
  Decidable.decide ((0 : Int) < a.n) = Decidable.decide ((0 : Int) < a.n) ∧
  (↑a_11.i : Int) = (↑a_11.i : Int) ∧
  Decidable.decide ((↑a_8.i : Int) < a.n) = Decidable.decide ((↑a_8.i : Int) < a.n) ∧
  (↑a_8.i : Int) = (↑a_8.i : Int) ∧
  ((0 : Nat) = (0 : Nat) ∧
  a.n.toNat = a.n.toNat ∧
  a.n.toNat = a.n.toNat) ∧
  (0 : Nat) = (0 : Nat) ∧
  Decidable.decide ((200 : Int) < a.at_) = Decidable.decide ((200 : Int) < a.at_) ∧
  Bool.false = Bool.false ∧
  Bool.true = Bool.true ∧
  Bool.false = Bool.false ∧
  a.n = a.n ∧
  a.at_ = a.at_ ∧
  ((0 : Nat) = (0 : Nat) ∧
  a.m = a.m ∧
  a.cap = a.cap) ∧
  ((0 : Nat) = (0 : Nat) ∧
  a_24.x.t.length = a'.x.t.length ∧
  a_24.cap = a'.cap) ∧
  (↑a_24.x.n : Int) = (↑a'.x.n : Int) ∧
  (↑a_24.x.used : Int) = (↑a'.x.used : Int) ∧
  (a'.x.t.length ≤ a_24.x.t.length ∧
  RowsEq a'.x.t.length (4 : Nat) (encRows encP a_24.x.t) (encRows encP a'.x.t)) ∧
  (a.n.toNat ≤ a.n.toNat ∧
  RowsEq a.n.toNat (1 : Nat) (encRows encI a_24.pos) (encRows encI a'.pos)) ∧
  (a.m ≤ a.m ∧
  RowsEq a.m (1 : Nat) a.rows a.rows) ∧
  (a'.i ≤ a.n.toNat ∧
  a'.pos.length = a.n.toNat ∧
  Has a'.x (LM a.n.toNat (fun (k : Nat) => Decidable.decide (a.at_ ≤ gl a'.pos k)) (gl a'.pos))) ∧
  a.n.toNat - a'.i < a.n.toNat - a_24.i)))) ∧
  (Decidable.decide ((↑a_24.i : Int) < a.n) = Bool.false →
  ∃ (b : Unit), Bool.true = Bool.true ∧
  True ∧
  True)))))) ∧
  (Decidable.decide ((↑a_11.i : Int) < (20 : Int)) = Bool.false →
  (∃ (a_15 : BelS), (0 : Int) = (↑a_15.i : Int) ∧
  (0 : Int) = (↑(wantN a_15.pos a.at_ a_15.i) : Int) ∧
  Bool.false = Bool.false ∧
  (↑a_11.i : Int) = (↑a_11.i : Int) ∧
  Decidable.decide ((↑a_8.i : Int) < a.n) = Decidable.decide ((↑a_8.i : Int) < a.n) ∧
  (↑a_8.i : Int) = (↑a_8.i : Int) ∧
  ((0 : Nat) = (0 : Nat) ∧
  a.n.toNat = a.n.toNat ∧
  a.n.toNat = a.n.toNat) ∧
  (0 : Nat) = (0 : Nat) ∧
  Decidable.decide ((200 : Int) < a.at_) = Decidable.decide ((200 : Int) < a.at_) ∧
  Bool.false = Bool.false ∧
  Bool.true = Bool.true ∧
  Bool.false = Bool.false ∧
  a.n = a.n ∧
  a.at_ = a.at_ ∧
  ((0 : Nat) = (0 : Nat) ∧
  a.m = a.m ∧
  a.cap = a.cap) ∧
  (a.n.toNat ≤ a.n.toNat ∧
  RowsEq a.n.toNat (1 : Nat) (encRows encI a_11.pos) (encRows encI a_15.pos)) ∧
  ((0 : Nat) = (0 : Nat) ∧
  a_11.x.t.length = a_15.x.t.length ∧
  a_11.cap = a_15.cap) ∧
  (↑a_11.x.n : Int) = (↑a_15.x.n : Int) ∧
  (↑a_11.x.used : Int) = (↑a_15.x.used : Int) ∧
  (a_15.x.t.length ≤ a_11.x.t.length ∧
  RowsEq a_15.x.t.length (4 : Nat) (encRows encP a_11.x.t) (encRows encP a_15.x.t)) ∧
  (a.m ≤ a.m ∧
  RowsEq a.m (1 : Nat) a.rows a.rows) ∧
  (a_15.i ≤ a.n.toNat ∧
  a_15.pos.length = a.n.toNat ∧
  Has a_15.x (LM a.n.toNat (fun (x : Nat) => Bool.true) (gl a_15.pos))) ∧
  True) ∧
  ∀ (a_15 : BelS), a_15.i ≤ a.n.toNat ∧
  a_15.pos.length = a.n.toNat ∧
  Has a_15.x (LM a.n.toNat (fun (x : Nat) => Bool.true) (gl a_15.pos)) →
  (Decidable.decide ((↑a_15.i : Int) < a.n) = Bool.true →
  ((0 : Int) ≤ (↑a_15.i : Int) ∧
  (↑a_15.i : Int) < (↑a.n.toNat : Int)) ∧
  (0 : Nat) + (↑a_15.i : Int).toNat < a.n.toNat ∧
  (InR IntKind.i64 (gl a_15.pos ((0 : Nat) + (↑a_15.i : Int).toNat)) →
  (Decidable.decide (gl a_15.pos ((0 : Nat) + (↑a_15.i : Int).toNat) < a.at_) = Bool.true →
  InR IntKind.i64 ((↑(wantN a_15.pos a.at_ a_15.i) : Int) + (1 : Int)) ∧
  InR IntKind.i64 ((↑a_15.i : Int) + (1 : Int)) ∧
  ∃ (a' : BelS), (↑a_15.i : Int) + (1 : Int) = (↑a'.i : Int) ∧
  (↑(wantN a_15.pos a.at_ a_15.i) : Int) + (1 : Int) = (↑(wantN a'.pos a.at_ a'.i) : Int) ∧
  Bool.false = Bool.false ∧
  (↑a_11.i : Int) = (↑a_11.i : Int) ∧
  Decidable.decide ((↑a_8.i : Int) < a.n) = Decidable.decide ((↑a_8.i : Int) < a.n) ∧
  (↑a_8.i : Int) = (↑a_8.i : Int) ∧
  ((0 : Nat) = (0 : Nat) ∧
  a.n.toNat = a.n.toNat ∧
  a.n.toNat = a.n.toNat) ∧
  (0 : Nat) = (0 : Nat) ∧
  Decidable.decide ((200 : Int) < a.at_) = Decidable.decide ((200 : Int) < a.at_) ∧
  Bool.false = Bool.false ∧
  Bool.true = Bool.true ∧
  Bool.false = Bool.false ∧
  a.n = a.n ∧
  a.at_ = a.at_ ∧
  ((0 : Nat) = (0 : Nat) ∧
  a.m = a.m ∧
  a.cap = a.cap) ∧
  (a.n.toNat ≤ a.n.toNat ∧
  RowsEq a.n.toNat (1 : Nat) (encRows encI a_15.pos) (encRows encI a'.pos)) ∧
  ((0 : Nat) = (0 : Nat) ∧
  a_15.x.t.length = a'.x.t.length ∧
  a_15.cap = a'.cap) ∧
  (↑a_15.x.n : Int) = (↑a'.x.n : Int) ∧
  (↑a_15.x.used : Int) = (↑a'.x.used : Int) ∧
  (a'.x.t.length ≤ a_15.x.t.length ∧
  RowsEq a'.x.t.length (4 : Nat) (encRows encP a_15.x.t) (encRows encP a'.x.t)) ∧
  (a.m ≤ a.m ∧
  RowsEq a.m (1 : Nat) a.rows a.rows) ∧
  (a'.i ≤ a.n.toNat ∧
  a'.pos.length = a.n.toNat ∧
  Has a'.x (LM a.n.toNat (fun (x : Nat) => Bool.true) (gl a'.pos))) ∧
  a.n.toNat - a'.i < a.n.toNat - a_15.i) ∧
  (Decidable.decide (gl a_15.pos ((0 : Nat) + (↑a_15.i : Int).toNat) < a.at_) = Bool.false →
  InR IntKind.i64 ((↑a_15.i : Int) + (1 : Int)) ∧
  ∃ (a' : BelS), (↑a_15.i : Int) + (1 : Int) = (↑a'.i : Int) ∧
  (↑(wantN a_15.pos a.at_ a_15.i) : Int) = (↑(wantN a'.pos a.at_ a'.i) : Int) ∧
  Bool.false = Bool.false ∧
  (↑a_11.i : Int) = (↑a_11.i : Int) ∧
  Decidable.decide ((↑a_8.i : Int) < a.n) = Decidable.decide ((↑a_8.i : Int) < a.n) ∧
  (↑a_8.i : Int) = (↑a_8.i : Int) ∧
  ((0 : Nat) = (0 : Nat) ∧
  a.n.toNat = a.n.toNat ∧
  a.n.toNat = a.n.toNat) ∧
  (0 : Nat) = (0 : Nat) ∧
  Decidable.decide ((200 : Int) < a.at_) = Decidable.decide ((200 : Int) < a.at_) ∧
  Bool.false = Bool.false ∧
  Bool.true = Bool.true ∧
  Bool.false = Bool.false ∧
  a.n = a.n ∧
  a.at_ = a.at_ ∧
  ((0 : Nat) = (0 : Nat) ∧
  a.m = a.m ∧
  a.cap = a.cap) ∧
  (a.n.toNat ≤ a.n.toNat ∧
  RowsEq a.n.toNat (1 : Nat) (encRows encI a_15.pos) (encRows encI a'.pos)) ∧
  ((0 : Nat) = (0 : Nat) ∧
  a_15.x.t.length = a'.x.t.length ∧
  a_15.cap = a'.cap) ∧
  (↑a_15.x.n : Int) = (↑a'.x.n : Int) ∧
  (↑a_15.x.used : Int) = (↑a'.x.used : Int) ∧
  (a'.x.t.length ≤ a_15.x.t.length ∧
  RowsEq a'.x.t.length (4 : Nat) (encRows encP a_15.x.t) (encRows encP a'.x.t)) ∧
  (a.m ≤ a.m ∧
  RowsEq a.m (1 : Nat) a.rows a.rows) ∧
  (a'.i ≤ a.n.toNat ∧
  a'.pos.length = a.n.toNat ∧
  Has a'.x (LM a.n.toNat (fun (x : Nat) => Bool.true) (gl a'.pos))) ∧
  a.n.toNat - a'.i < a.n.toNat - a_15.i))) ∧
  (Decidable.decide ((↑a_15.i : Int) < a.n) = Bool.false →
  ∃ (a_18 : LowA), (0 : Nat) = (0 : Nat) ∧
  a.at_ = a_18.pos ∧
  ((0 : Nat) = (0 : Nat) ∧
  a_15.x.t.length = a_18.x.t.length ∧
  a_15.cap = a_18.cap) ∧
  (↑a_15.x.n : Int) = (↑a_18.x.n : Int) ∧
  (↑a_15.x.used : Int) = (↑a_18.x.used : Int) ∧
  (a_18.x.t.length ≤ a_15.x.t.length ∧
  RowsEq a_18.x.t.length (4 : Nat) (encRows encP a_15.x.t) (encRows encP a_18.x.t)) ∧
  (Inv a_18.x ∧
  a_18.x.n < (10000 : Nat) ∧
  belowN a_18.x.t a_18.pos a_18.x.t.length ≤ a_18.x.n) ∧
  ∀ (b : Unit), True →
  (((↑(belowN a_18.x.t a_18.pos a_18.x.t.length) : Int) != (↑(wantN a_15.pos a.at_ a_15.i) : Int)) = Bool.true →
  ∃ (b : Unit), Bool.false = Bool.true ∧
  True ∧
  True) ∧
  (((↑(belowN a_18.x.t a_18.pos a_18.x.t.length) : Int) != (↑(wantN a_15.pos a.at_ a_15.i) : Int)) = Bool.false →
  InR IntKind.i64 (↑(belowI a_18.x a_18.pos).n : Int) →
  InR IntKind.i64 (a.n - (↑(wantN a_15.pos a.at_ a_15.i) : Int)) ∧
  (((↑(belowI a_18.x a_18.pos).n : Int) != a.n - (↑(wantN a_15.pos a.at_ a_15.i) : Int)) = Bool.true →
  ∃ (b : Unit), Bool.false = Bool.true ∧
  True ∧
  True) ∧
  (((↑(belowI a_18.x a_18.pos).n : Int) != a.n - (↑(wantN a_15.pos a.at_ a_15.i) : Int)) = Bool.false →
  (∃ (a_23 : BelS), (0 : Int) = (↑a_23.i : Int) ∧
  ((↑(belowI a_18.x a_18.pos).n : Int) != a.n - (↑(wantN a_15.pos a.at_ a_15.i) : Int)) = ((↑(belowI a_18.x a_18.pos).n : Int) != a.n - (↑(wantN a_15.pos a.at_ a_15.i) : Int)) ∧
  Decidable.decide ((↑a_15.i : Int) < a.n) = Decidable.decide ((↑a_15.i : Int) < a.n) ∧
  (↑a_15.i : Int) = (↑a_15.i : Int) ∧
  (↑(wantN a_15.pos a.at_ a_15.i) : Int) = (↑(wantN a_15.pos a.at_ a_15.i) : Int) ∧
  Bool.false = Bool.false ∧
  (↑a_11.i : Int) = (↑a_11.i : Int) ∧
  Decidable.decide ((↑a_8.i : Int) < a.n) = Decidable.decide ((↑a_8.i : Int) < a.n) ∧
  (↑a_8.i : Int) = (↑a_8.i : Int) ∧
  ((0 : Nat) = (0 : Nat) ∧
  a.n.toNat = a.n.toNat ∧
  a.n.toNat = a.n.toNat) ∧
  (0 : Nat) = (0 : Nat) ∧
  Decidable.decide ((200 : Int) < a.at_) = Decidable.decide ((200 : Int) < a.at_) ∧
  Bool.false = Bool.false ∧
  Bool.true = Bool.true ∧
  Bool.false = Bool.false ∧
  a.n = a.n ∧
  a.at_ = a.at_ ∧
  ((0 : Nat) = (0 : Nat) ∧
  a.m = a.m ∧
  a.cap = a.cap) ∧
  ((0 : Nat) = (0 : Nat) ∧
  (belowI a_18.x a_18.pos).t.length = a_23.x.t.length ∧
  a_18.cap = a_23.cap) ∧
  (↑(belowI a_18.x a_18.pos).n : Int) = (↑a_23.x.n : Int) ∧
  (↑(belowI a_18.x a_18.pos).used : Int) = (↑a_23.x.used : Int) ∧
  (a_23.x.t.length ≤ (belowI a_18.x a_18.pos).t.length ∧
  RowsEq a_23.x.t.length (4 : Nat) (encRows encP (belowI a_18.x a_18.pos).t) (encRows encP a_23.x.t)) ∧
  (a.n.toNat ≤ a.n.toNat ∧
  RowsEq a.n.toNat (1 : Nat) (encRows encI a_15.pos) (encRows encI a_23.pos)) ∧
  (a.m ≤ a.m ∧
  RowsEq a.m (1 : Nat) a.rows a.rows) ∧
  (a_23.i ≤ a.n.toNat ∧
  a_23.pos.length = a.n.toNat ∧
  Has a_23.x (LM a.n.toNat (fun (k : Nat) => Decidable.decide (a.at_ ≤ gl a_23.pos k)) (gl a_23.pos))) ∧
  True) ∧
  ∀ (a_23 : BelS), a_23.i ≤ a.n.toNat ∧
  a_23.pos.length = a.n.toNat ∧
  Has a_23.x (LM a.n.toNat (fun (k : Nat) => Decidable.decide (a.at_ ≤ gl a_23.pos k)) (gl a_23.pos)) →
  (Decidable.decide ((↑a_23.i : Int) < a.n) = Bool.true →
  ∃ (a_26 : Nat), (↑a_23.i : Int) = (↑a_26 : Int) ∧
  a_26 < (1000 : Nat) ∧
  ∀ (b : Unit), True →
  ∃ (a_28 : KeyA), (0 : Nat) = (0 : Nat) ∧
  nameOf a_26 = a_28.key ∧
  ((0 : Nat) = (0 : Nat) ∧
  a_23.x.t.length = a_28.x.t.length ∧
  a_23.cap = a_28.cap) ∧
  (↑a_23.x.n : Int) = (↑a_28.x.n : Int) ∧
  (↑a_23.x.used : Int) = (↑a_28.x.used : Int) ∧
  (a_28.x.t.length ≤ a_23.x.t.length ∧
  RowsEq a_28.x.t.length (4 : Nat) (encRows encP a_23.x.t) (encRows encP a_28.x.t)) ∧
  (Inv a_28.x ∧
  a_28.key.size ≤ lenMax) ∧
  ∀ (b : Unit), True →
  ((0 : Int) ≤ (↑a_23.i : Int) ∧
  (↑a_23.i : Int) < (↑a.n.toNat : Int)) ∧
  (0 : Nat) + (↑a_23.i : Int).toNat < a.n.toNat ∧
  (InR IntKind.i64 (gl a_23.pos ((0 : Nat) + (↑a_23.i : Int).toNat)) →
  ((!(getI a_28.x a_28.key).snd == Decidable.decide (a.at_ ≤ gl a_23.pos ((0 : Nat) + (↑a_23.i : Int).toNat))) = Bool.true →
  ∃ (b : Unit), Bool.false = Bool.true ∧
  True ∧
  True) ∧
  ((!(getI a_28.x a_28.key).snd == Decidable.decide (a.at_ ≤ gl a_23.pos ((0 : Nat) + (↑a_23.i : Int).toNat))) = Bool.false →
  ((getI a_28.x a_28.key).snd = Bool.true →
  ((0 : Int) ≤ (↑a_23.i : Int) ∧
  (↑a_23.i : Int) < (↑a.n.toNat : Int)) ∧
  (0 : Nat) + (↑a_23.i : Int).toNat < a.n.toNat ∧
  (InR IntKind.i64 (gl a_23.pos ((0 : Nat) + (↑a_23.i : Int).toNat)) →
  (((getI a_28.x a_28.key).fst != gl a_23.pos ((0 : Nat) + (↑a_23.i : Int).toNat)) = Bool.true →
  ∃ (b : Unit), Bool.false = Bool.true ∧
  True ∧
  True) ∧
  (((getI a_28.x a_28.key).fst != gl a_23.pos ((0 : Nat) + (↑a_23.i : Int).toNat)) = Bool.false →
  InR IntKind.i64 ((↑a_23.i : Int) + (1 : Int)) ∧
  ∃ (a' : BelS), (↑a_23.i : Int) + (1 : Int) = (↑a'.i : Int) ∧
  ((↑(belowI a_18.x a_18.pos).n : Int) != a.n - (↑(wantN a_15.pos a.at_ a_15.i) : Int)) = ((↑(belowI a_18.x a_18.pos).n : Int) != a.n - (↑(wantN a_15.pos a.at_ a_15.i) : Int)) ∧
  Decidable.decide ((↑a_15.i : Int) < a.n) = Decidable.decide ((↑a_15.i : Int) < a.n) ∧
  (↑a_15.i : Int) = (↑a_15.i : Int) ∧
  (↑(wantN a_15.pos a.at_ a_15.i) : Int) = (↑(wantN a_15.pos a.at_ a_15.i) : Int) ∧
  Bool.false = Bool.false ∧
  (↑a_11.i : Int) = (↑a_11.i : Int) ∧
  Decidable.decide ((↑a_8.i : Int) < a.n) = Decidable.decide ((↑a_8.i : Int) < a.n) ∧
  (↑a_8.i : Int) = (↑a_8.i : Int) ∧
  ((0 : Nat) = (0 : Nat) ∧
  a.n.toNat = a.n.toNat ∧
  a.n.toNat = a.n.toNat) ∧
  (0 : Nat) = (0 : Nat) ∧
  Decidable.decide ((200 : Int) < a.at_) = Decidable.decide ((200 : Int) < a.at_) ∧
  Bool.false = Bool.false ∧
  Bool.true = Bool.true ∧
  Bool.false = Bool.false ∧
  a.n = a.n ∧
  a.at_ = a.at_ ∧
  ((0 : Nat) = (0 : Nat) ∧
  a.m = a.m ∧
  a.cap = a.cap) ∧
  ((0 : Nat) = (0 : Nat) ∧
  a_23.x.t.length = a'.x.t.length ∧
  a_23.cap = a'.cap) ∧
  (↑a_23.x.n : Int) = (↑a'.x.n : Int) ∧
  (↑a_23.x.used : Int) = (↑a'.x.used : Int) ∧
  (a'.x.t.length ≤ a_23.x.t.length ∧
  RowsEq a'.x.t.length (4 : Nat) (encRows encP a_23.x.t) (encRows encP a'.x.t)) ∧
  (a.n.toNat ≤ a.n.toNat ∧
  RowsEq a.n.toNat (1 : Nat) (encRows encI a_23.pos) (encRows encI a'.pos)) ∧
  (a.m ≤ a.m ∧
  RowsEq a.m (1 : Nat) a.rows a.rows) ∧
  (a'.i ≤ a.n.toNat ∧
  a'.pos.length = a.n.toNat ∧
  Has a'.x (LM a.n.toNat (fun (k : Nat) => Decidable.decide (a.at_ ≤ gl a'.pos k)) (gl a'.pos))) ∧
  a.n.toNat - a'.i < a.n.toNat - a_23.i))) ∧
  ((getI a_28.x a_28.key).snd = Bool.false →
  InR IntKind.i64 ((↑a_23.i : Int) + (1 : Int)) ∧
  ∃ (a' : BelS), (↑a_23.i : Int) + (1 : Int) = (↑a'.i : Int) ∧
  ((↑(belowI a_18.x a_18.pos).n : Int) != a.n - (↑(wantN a_15.pos a.at_ a_15.i) : Int)) = ((↑(belowI a_18.x a_18.pos).n : Int) != a.n - (↑(wantN a_15.pos a.at_ a_15.i) : Int)) ∧
  Decidable.decide ((↑a_15.i : Int) < a.n) = Decidable.decide ((↑a_15.i : Int) < a.n) ∧
  (↑a_15.i : Int) = (↑a_15.i : Int) ∧
  (↑(wantN a_15.pos a.at_ a_15.i) : Int) = (↑(wantN a_15.pos a.at_ a_15.i) : Int) ∧
  Bool.false = Bool.false ∧
  (↑a_11.i : Int) = (↑a_11.i : Int) ∧
  Decidable.decide ((↑a_8.i : Int) < a.n) = Decidable.decide ((↑a_8.i : Int) < a.n) ∧
  (↑a_8.i : Int) = (↑a_8.i : Int) ∧
  ((0 : Nat) = (0 : Nat) ∧
  a.n.toNat = a.n.toNat ∧
  a.n.toNat = a.n.toNat) ∧
  (0 : Nat) = (0 : Nat) ∧
  Decidable.decide ((200 : Int) < a.at_) = Decidable.decide ((200 : Int) < a.at_) ∧
  Bool.false = Bool.false ∧
  Bool.true = Bool.true ∧
  Bool.false = Bool.false ∧
  a.n = a.n ∧
  a.at_ = a.at_ ∧
  ((0 : Nat) = (0 : Nat) ∧
  a.m = a.m ∧
  a.cap = a.cap) ∧
  ((0 : Nat) = (0 : Nat) ∧
  a_23.x.t.length = a'.x.t.length ∧
  a_23.cap = a'.cap) ∧
  (↑a_23.x.n : Int) = (↑a'.x.n : Int) ∧
  (↑a_23.x.used : Int) = (↑a'.x.used : Int) ∧
  (a'.x.t.length ≤ a_23.x.t.length ∧
  RowsEq a'.x.t.length (4 : Nat) (encRows encP a_23.x.t) (encRows encP a'.x.t)) ∧
  (a.n.toNat ≤ a.n.toNat ∧
  RowsEq a.n.toNat (1 : Nat) (encRows encI a_23.pos) (encRows encI a'.pos)) ∧
  (a.m ≤ a.m ∧
  RowsEq a.m (1 : Nat) a.rows a.rows) ∧
  (a'.i ≤ a.n.toNat ∧
  a'.pos.length = a.n.toNat ∧
  Has a'.x (LM a.n.toNat (fun (k : Nat) => Decidable.decide (a.at_ ≤ gl a'.pos k)) (gl a'.pos))) ∧
  a.n.toNat - a'.i < a.n.toNat - a_23.i)))) ∧
  (Decidable.decide ((↑a_23.i : Int) < a.n) = Bool.false →
  ∃ (b : Unit), Bool.true = Bool.true ∧
  True ∧
  True)))))) ∧
  (Decidable.decide ((↑a_11.i : Int) < (↑a.m : Int)) = Bool.false →
  (∃ (a_14 : BelS), (0 : Int) = (↑a_14.i : Int) ∧
  (0 : Int) = (↑(wantN a_14.pos a.at_ a_14.i) : Int) ∧
  Bool.false = Bool.false ∧
  (↑a_11.i : Int) = (↑a_11.i : Int) ∧
  Decidable.decide ((↑a_8.i : Int) < a.n) = Decidable.decide ((↑a_8.i : Int) < a.n) ∧
  (↑a_8.i : Int) = (↑a_8.i : Int) ∧
  ((0 : Nat) = (0 : Nat) ∧
  a.n.toNat = a.n.toNat ∧
  a.n.toNat = a.n.toNat) ∧
  (0 : Nat) = (0 : Nat) ∧
  Decidable.decide ((200 : Int) < a.at_) = Decidable.decide ((200 : Int) < a.at_) ∧
  Bool.false = Bool.false ∧
  Bool.true = Bool.true ∧
  Bool.false = Bool.false ∧
  a.n = a.n ∧
  a.at_ = a.at_ ∧
  ((0 : Nat) = (0 : Nat) ∧
  a.m = a.m ∧
  a.cap = a.cap) ∧
  (a.n.toNat ≤ a.n.toNat ∧
  RowsEq a.n.toNat (1 : Nat) (encRows encI a_11.pos) (encRows encI a_14.pos)) ∧
  ((0 : Nat) = (0 : Nat) ∧
  a_11.x.t.length = a_14.x.t.length ∧
  a_11.cap = a_14.cap) ∧
  (↑a_11.x.n : Int) = (↑a_14.x.n : Int) ∧
  (↑a_11.x.used : Int) = (↑a_14.x.used : Int) ∧
  (a_14.x.t.length ≤ a_11.x.t.length ∧
  RowsEq a_14.x.t.length (4 : Nat) (encRows encP a_11.x.t) (encRows encP a_14.x.t)) ∧
  (a.m ≤ a.m ∧
  RowsEq a.m (1 : Nat) a.rows a.rows) ∧
  (a_14.i ≤ a.n.toNat ∧
  a_14.pos.length = a.n.toNat ∧
  Has a_14.x (LM a.n.toNat (fun (x : Nat) => Bool.true) (gl a_14.pos))) ∧
  True) ∧
  ∀ (a_14 : BelS), a_14.i ≤ a.n.toNat ∧
  a_14.pos.length = a.n.toNat ∧
  Has a_14.x (LM a.n.toNat (fun (x : Nat) => Bool.true) (gl a_14.pos)) →
  (Decidable.decide ((↑a_14.i : Int) < a.n) = Bool.true →
  ((0 : Int) ≤ (↑a_14.i : Int) ∧
  (↑a_14.i : Int) < (↑a.n.toNat : Int)) ∧
  (0 : Nat) + (↑a_14.i : Int).toNat < a.n.toNat ∧
  (InR IntKind.i64 (gl a_14.pos ((0 : Nat) + (↑a_14.i : Int).toNat)) →
  (Decidable.decide (gl a_14.pos ((0 : Nat) + (↑a_14.i : Int).toNat) < a.at_) = Bool.true →
  InR IntKind.i64 ((↑(wantN a_14.pos a.at_ a_14.i) : Int) + (1 : Int)) ∧
  InR IntKind.i64 ((↑a_14.i : Int) + (1 : Int)) ∧
  ∃ (a' : BelS), (↑a_14.i : Int) + (1 : Int) = (↑a'.i : Int) ∧
  (↑(wantN a_14.pos a.at_ a_14.i) : Int) + (1 : Int) = (↑(wantN a'.pos a.at_ a'.i) : Int) ∧
  Bool.false = Bool.false ∧
  (↑a_11.i : Int) = (↑a_11.i : Int) ∧
  Decidable.decide ((↑a_8.i : Int) < a.n) = Decidable.decide ((↑a_8.i : Int) < a.n) ∧
  (↑a_8.i : Int) = (↑a_8.i : Int) ∧
  ((0 : Nat) = (0 : Nat) ∧
  a.n.toNat = a.n.toNat ∧
  a.n.toNat = a.n.toNat) ∧
  (0 : Nat) = (0 : Nat) ∧
  Decidable.decide ((200 : Int) < a.at_) = Decidable.decide ((200 : Int) < a.at_) ∧
  Bool.false = Bool.false ∧
  Bool.true = Bool.true ∧
  Bool.false = Bool.false ∧
  a.n = a.n ∧
  a.at_ = a.at_ ∧
  ((0 : Nat) = (0 : Nat) ∧
  a.m = a.m ∧
  a.cap = a.cap) ∧
  (a.n.toNat ≤ a.n.toNat ∧
  RowsEq a.n.toNat (1 : Nat) (encRows encI a_14.pos) (encRows encI a'.pos)) ∧
  ((0 : Nat) = (0 : Nat) ∧
  a_14.x.t.length = a'.x.t.length ∧
  a_14.cap = a'.cap) ∧
  (↑a_14.x.n : Int) = (↑a'.x.n : Int) ∧
  (↑a_14.x.used : Int) = (↑a'.x.used : Int) ∧
  (a'.x.t.length ≤ a_14.x.t.length ∧
  RowsEq a'.x.t.length (4 : Nat) (encRows encP a_14.x.t) (encRows encP a'.x.t)) ∧
  (a.m ≤ a.m ∧
  RowsEq a.m (1 : Nat) a.rows a.rows) ∧
  (a'.i ≤ a.n.toNat ∧
  a'.pos.length = a.n.toNat ∧
  Has a'.x (LM a.n.toNat (fun (x : Nat) => Bool.true) (gl a'.pos))) ∧
  a.n.toNat - a'.i < a.n.toNat - a_14.i) ∧
  (Decidable.decide (gl a_14.pos ((0 : Nat) + (↑a_14.i : Int).toNat) < a.at_) = Bool.false →
  InR IntKind.i64 ((↑a_14.i : Int) + (1 : Int)) ∧
  ∃ (a' : BelS), (↑a_14.i : Int) + (1 : Int) = (↑a'.i : Int) ∧
  (↑(wantN a_14.pos a.at_ a_14.i) : Int) = (↑(wantN a'.pos a.at_ a'.i) : Int) ∧
  Bool.false = Bool.false ∧
  (↑a_11.i : Int) = (↑a_11.i : Int) ∧
  Decidable.decide ((↑a_8.i : Int) < a.n) = Decidable.decide ((↑a_8.i : Int) < a.n) ∧
  (↑a_8.i : Int) = (↑a_8.i : Int) ∧
  ((0 : Nat) = (0 : Nat) ∧
  a.n.toNat = a.n.toNat ∧
  a.n.toNat = a.n.toNat) ∧
  (0 : Nat) = (0 : Nat) ∧
  Decidable.decide ((200 : Int) < a.at_) = Decidable.decide ((200 : Int) < a.at_) ∧
  Bool.false = Bool.false ∧
  Bool.true = Bool.true ∧
  Bool.false = Bool.false ∧
  a.n = a.n ∧
  a.at_ = a.at_ ∧
  ((0 : Nat) = (0 : Nat) ∧
  a.m = a.m ∧
  a.cap = a.cap) ∧
  (a.n.toNat ≤ a.n.toNat ∧
  RowsEq a.n.toNat (1 : Nat) (encRows encI a_14.pos) (encRows encI a'.pos)) ∧
  ((0 : Nat) = (0 : Nat) ∧
  a_14.x.t.length = a'.x.t.length ∧
  a_14.cap = a'.cap) ∧
  (↑a_14.x.n : Int) = (↑a'.x.n : Int) ∧
  (↑a_14.x.used : Int) = (↑a'.x.used : Int) ∧
  (a'.x.t.length ≤ a_14.x.t.length ∧
  RowsEq a'.x.t.length (4 : Nat) (encRows encP a_14.x.t) (encRows encP a'.x.t)) ∧
  (a.m ≤ a.m ∧
  RowsEq a.m (1 : Nat) a.rows a.rows) ∧
  (a'.i ≤ a.n.toNat ∧
  a'.pos.length = a.n.toNat ∧
  Has a'.x (LM a.n.toNat (fun (x : Nat) => Bool.true) (gl a'.pos))) ∧
  a.n.toNat - a'.i < a.n.toNat - a_14.i))) ∧
  (Decidable.decide ((↑a_14.i : Int) < a.n) = Bool.false →
  ∃ (a_17 : LowA), (0 : Nat) = (0 : Nat) ∧
  a.at_ = a_17.pos ∧
  ((0 : Nat) = (0 : Nat) ∧
  a_14.x.t.length = a_17.x.t.length ∧
  a_14.cap = a_17.cap) ∧
  (↑a_14.x.n : Int) = (↑a_17.x.n : Int) ∧
  (↑a_14.x.used : Int) = (↑a_17.x.used : Int) ∧
  (a_17.x.t.length ≤ a_14.x.t.length ∧
  RowsEq a_17.x.t.length (4 : Nat) (encRows encP a_14.x.t) (encRows encP a_17.x.t)) ∧
  (Inv a_17.x ∧
  a_17.x.n < (10000 : Nat) ∧
  belowN a_17.x.t a_17.pos a_17.x.t.length ≤ a_17.x.n) ∧
  ∀ (b : Unit), True →
  (((↑(belowN a_17.x.t a_17.pos a_17.x.t.length) : Int) != (↑(wantN a_14.pos a.at_ a_14.i) : Int)) = Bool.true →
  ∃ (b : Unit), Bool.false = Bool.true ∧
  True ∧
  True) ∧
  (((↑(belowN a_17.x.t a_17.pos a_17.x.t.length) : Int) != (↑(wantN a_14.pos a.at_ a_14.i) : Int)) = Bool.false →
  InR IntKind.i64 (↑(belowI a_17.x a_17.pos).n : Int) →
  InR IntKind.i64 (a.n - (↑(wantN a_14.pos a.at_ a_14.i) : Int)) ∧
  (((↑(belowI a_17.x a_17.pos).n : Int) != a.n - (↑(wantN a_14.pos a.at_ a_14.i) : Int)) = Bool.true →
  ∃ (b : Unit), Bool.false = Bool.true ∧
  True ∧
  True) ∧
  (((↑(belowI a_17.x a_17.pos).n : Int) != a.n - (↑(wantN a_14.pos a.at_ a_14.i) : Int)) = Bool.false →
  (∃ (a_22 : BelS), (0 : Int) = (↑a_22.i : Int) ∧
  ((↑(belowI a_17.x a_17.pos).n : Int) != a.n - (↑(wantN a_14.pos a.at_ a_14.i) : Int)) = ((↑(belowI a_17.x a_17.pos).n : Int) != a.n - (↑(wantN a_14.pos a.at_ a_14.i) : Int)) ∧
  Decidable.decide ((↑a_14.i : Int) < a.n) = Decidable.decide ((↑a_14.i : Int) < a.n) ∧
  (↑a_14.i : Int) = (↑a_14.i : Int) ∧
  (↑(wantN a_14.pos a.at_ a_14.i) : Int) = (↑(wantN a_14.pos a.at_ a_14.i) : Int) ∧
  Bool.false = Bool.false ∧
  (↑a_11.i : Int) = (↑a_11.i : Int) ∧
  Decidable.decide ((↑a_8.i : Int) < a.n) = Decidable.decide ((↑a_8.i : Int) < a.n) ∧
  (↑a_8.i : Int) = (↑a_8.i : Int) ∧
  ((0 : Nat) = (0 : Nat) ∧
  a.n.toNat = a.n.toNat ∧
  a.n.toNat = a.n.toNat) ∧
  (0 : Nat) = (0 : Nat) ∧
  Decidable.decide ((200 : Int) < a.at_) = Decidable.decide ((200 : Int) < a.at_) ∧
  Bool.false = Bool.false ∧
  Bool.true = Bool.true ∧
  Bool.false = Bool.false ∧
  a.n = a.n ∧
  a.at_ = a.at_ ∧
  ((0 : Nat) = (0 : Nat) ∧
  a.m = a.m ∧
  a.cap = a.cap) ∧
  ((0 : Nat) = (0 : Nat) ∧
  (belowI a_17.x a_17.pos).t.length = a_22.x.t.length ∧
  a_17.cap = a_22.cap) ∧
  (↑(belowI a_17.x a_17.pos).n : Int) = (↑a_22.x.n : Int) ∧
  (↑(belowI a_17.x a_17.pos).used : Int) = (↑a_22.x.used : Int) ∧
  (a_22.x.t.length ≤ (belowI a_17.x a_17.pos).t.length ∧
  RowsEq a_22.x.t.length (4 : Nat) (encRows encP (belowI a_17.x a_17.pos).t) (encRows encP a_22.x.t)) ∧
  (a.n.toNat ≤ a.n.toNat ∧
  RowsEq a.n.toNat (1 : Nat) (encRows encI a_14.pos) (encRows encI a_22.pos)) ∧
  (a.m ≤ a.m ∧
  RowsEq a.m (1 : Nat) a.rows a.rows) ∧
  (a_22.i ≤ a.n.toNat ∧
  a_22.pos.length = a.n.toNat ∧
  Has a_22.x (LM a.n.toNat (fun (k : Nat) => Decidable.decide (a.at_ ≤ gl a_22.pos k)) (gl a_22.pos))) ∧
  True) ∧
  ∀ (a_22 : BelS), a_22.i ≤ a.n.toNat ∧
  a_22.pos.length = a.n.toNat ∧
  Has a_22.x (LM a.n.toNat (fun (k : Nat) => Decidable.decide (a.at_ ≤ gl a_22.pos k)) (gl a_22.pos)) →
  (Decidable.decide ((↑a_22.i : Int) < a.n) = Bool.true →
  ∃ (a_25 : Nat), (↑a_22.i : Int) = (↑a_25 : Int) ∧
  a_25 < (1000 : Nat) ∧
  ∀ (b : Unit), True →
  ∃ (a_27 : KeyA), (0 : Nat) = (0 : Nat) ∧
  nameOf a_25 = a_27.key ∧
  ((0 : Nat) = (0 : Nat) ∧
  a_22.x.t.length = a_27.x.t.length ∧
  a_22.cap = a_27.cap) ∧
  (↑a_22.x.n : Int) = (↑a_27.x.n : Int) ∧
  (↑a_22.x.used : Int) = (↑a_27.x.used : Int) ∧
  (a_27.x.t.length ≤ a_22.x.t.length ∧
  RowsEq a_27.x.t.length (4 : Nat) (encRows encP a_22.x.t) (encRows encP a_27.x.t)) ∧
  (Inv a_27.x ∧
  a_27.key.size ≤ lenMax) ∧
  ∀ (b : Unit), True →
  ((0 : Int) ≤ (↑a_22.i : Int) ∧
  (↑a_22.i : Int) < (↑a.n.toNat : Int)) ∧
  (0 : Nat) + (↑a_22.i : Int).toNat < a.n.toNat ∧
  (InR IntKind.i64 (gl a_22.pos ((0 : Nat) + (↑a_22.i : Int).toNat)) →
  ((!(getI a_27.x a_27.key).snd == Decidable.decide (a.at_ ≤ gl a_22.pos ((0 : Nat) + (↑a_22.i : Int).toNat))) = Bool.true →
  ∃ (b : Unit), Bool.false = Bool.true ∧
  True ∧
  True) ∧
  ((!(getI a_27.x a_27.key).snd == Decidable.decide (a.at_ ≤ gl a_22.pos ((0 : Nat) + (↑a_22.i : Int).toNat))) = Bool.false →
  ((getI a_27.x a_27.key).snd = Bool.true →
  ((0 : Int) ≤ (↑a_22.i : Int) ∧
  (↑a_22.i : Int) < (↑a.n.toNat : Int)) ∧
  (0 : Nat) + (↑a_22.i : Int).toNat < a.n.toNat ∧
  (InR IntKind.i64 (gl a_22.pos ((0 : Nat) + (↑a_22.i : Int).toNat)) →
  (((getI a_27.x a_27.key).fst != gl a_22.pos ((0 : Nat) + (↑a_22.i : Int).toNat)) = Bool.true →
  ∃ (b : Unit), Bool.false = Bool.true ∧
  True ∧
  True) ∧
  (((getI a_27.x a_27.key).fst != gl a_22.pos ((0 : Nat) + (↑a_22.i : Int).toNat)) = Bool.false →
  InR IntKind.i64 ((↑a_22.i : Int) + (1 : Int)) ∧
  ∃ (a' : BelS), (↑a_22.i : Int) + (1 : Int) = (↑a'.i : Int) ∧
  ((↑(belowI a_17.x a_17.pos).n : Int) != a.n - (↑(wantN a_14.pos a.at_ a_14.i) : Int)) = ((↑(belowI a_17.x a_17.pos).n : Int) != a.n - (↑(wantN a_14.pos a.at_ a_14.i) : Int)) ∧
  Decidable.decide ((↑a_14.i : Int) < a.n) = Decidable.decide ((↑a_14.i : Int) < a.n) ∧
  (↑a_14.i : Int) = (↑a_14.i : Int) ∧
  (↑(wantN a_14.pos a.at_ a_14.i) : Int) = (↑(wantN a_14.pos a.at_ a_14.i) : Int) ∧
  Bool.false = Bool.false ∧
  (↑a_11.i : Int) = (↑a_11.i : Int) ∧
  Decidable.decide ((↑a_8.i : Int) < a.n) = Decidable.decide ((↑a_8.i : Int) < a.n) ∧
  (↑a_8.i : Int) = (↑a_8.i : Int) ∧
  ((0 : Nat) = (0 : Nat) ∧
  a.n.toNat = a.n.toNat ∧
  a.n.toNat = a.n.toNat) ∧
  (0 : Nat) = (0 : Nat) ∧
  Decidable.decide ((200 : Int) < a.at_) = Decidable.decide ((200 : Int) < a.at_) ∧
  Bool.false = Bool.false ∧
  Bool.true = Bool.true ∧
  Bool.false = Bool.false ∧
  a.n = a.n ∧
  a.at_ = a.at_ ∧
  ((0 : Nat) = (0 : Nat) ∧
  a.m = a.m ∧
  a.cap = a.cap) ∧
  ((0 : Nat) = (0 : Nat) ∧
  a_22.x.t.length = a'.x.t.length ∧
  a_22.cap = a'.cap) ∧
  (↑a_22.x.n : Int) = (↑a'.x.n : Int) ∧
  (↑a_22.x.used : Int) = (↑a'.x.used : Int) ∧
  (a'.x.t.length ≤ a_22.x.t.length ∧
  RowsEq a'.x.t.length (4 : Nat) (encRows encP a_22.x.t) (encRows encP a'.x.t)) ∧
  (a.n.toNat ≤ a.n.toNat ∧
  RowsEq a.n.toNat (1 : Nat) (encRows encI a_22.pos) (encRows encI a'.pos)) ∧
  (a.m ≤ a.m ∧
  RowsEq a.m (1 : Nat) a.rows a.rows) ∧
  (a'.i ≤ a.n.toNat ∧
  a'.pos.length = a.n.toNat ∧
  Has a'.x (LM a.n.toNat (fun (k : Nat) => Decidable.decide (a.at_ ≤ gl a'.pos k)) (gl a'.pos))) ∧
  a.n.toNat - a'.i < a.n.toNat - a_22.i))) ∧
  ((getI a_27.x a_27.key).snd = Bool.false →
  InR IntKind.i64 ((↑a_22.i : Int) + (1 : Int)) ∧
  ∃ (a' : BelS), (↑a_22.i : Int) + (1 : Int) = (↑a'.i : Int) ∧
  ((↑(belowI a_17.x a_17.pos).n : Int) != a.n - (↑(wantN a_14.pos a.at_ a_14.i) : Int)) = ((↑(belowI a_17.x a_17.pos).n : Int) != a.n - (↑(wantN a_14.pos a.at_ a_14.i) : Int)) ∧
  Decidable.decide ((↑a_14.i : Int) < a.n) = Decidable.decide ((↑a_14.i : Int) < a.n) ∧
  (↑a_14.i : Int) = (↑a_14.i : Int) ∧
  (↑(wantN a_14.pos a.at_ a_14.i) : Int) = (↑(wantN a_14.pos a.at_ a_14.i) : Int) ∧
  Bool.false = Bool.false ∧
  (↑a_11.i : Int) = (↑a_11.i : Int) ∧
  Decidable.decide ((↑a_8.i : Int) < a.n) = Decidable.decide ((↑a_8.i : Int) < a.n) ∧
  (↑a_8.i : Int) = (↑a_8.i : Int) ∧
  ((0 : Nat) = (0 : Nat) ∧
  a.n.toNat = a.n.toNat ∧
  a.n.toNat = a.n.toNat) ∧
  (0 : Nat) = (0 : Nat) ∧
  Decidable.decide ((200 : Int) < a.at_) = Decidable.decide ((200 : Int) < a.at_) ∧
  Bool.false = Bool.false ∧
  Bool.true = Bool.true ∧
  Bool.false = Bool.false ∧
  a.n = a.n ∧
  a.at_ = a.at_ ∧
  ((0 : Nat) = (0 : Nat) ∧
  a.m = a.m ∧
  a.cap = a.cap) ∧
  ((0 : Nat) = (0 : Nat) ∧
  a_22.x.t.length = a'.x.t.length ∧
  a_22.cap = a'.cap) ∧
  (↑a_22.x.n : Int) = (↑a'.x.n : Int) ∧
  (↑a_22.x.used : Int) = (↑a'.x.used : Int) ∧
  (a'.x.t.length ≤ a_22.x.t.length ∧
  RowsEq a'.x.t.length (4 : Nat) (encRows encP a_22.x.t) (encRows encP a'.x.t)) ∧
  (a.n.toNat ≤ a.n.toNat ∧
  RowsEq a.n.toNat (1 : Nat) (encRows encI a_22.pos) (encRows encI a'.pos)) ∧
  (a.m ≤ a.m ∧
  RowsEq a.m (1 : Nat) a.rows a.rows) ∧
  (a'.i ≤ a.n.toNat ∧
  a'.pos.length = a.n.toNat ∧
  Has a'.x (LM a.n.toNat (fun (k : Nat) => Decidable.decide (a.at_ ≤ gl a'.pos k)) (gl a'.pos))) ∧
  a.n.toNat - a'.i < a.n.toNat - a_22.i)))) ∧
  (Decidable.decide ((↑a_22.i : Int) < a.n) = Bool.false →
  ∃ (b : Unit), Bool.true = Bool.true ∧
  True ∧
  True))))))))))) (by kernel_rfl) (by
  rintro ⟨n, lo, m, cap, rows⟩ ⟨hm1, hm2⟩
  refine ⟨(), trivial, fun _ _ => ⟨fun _ => ⟨(), rfl, trivial, trivial⟩, fun c1 => ⟨fun _ => ⟨(), rfl, trivial, trivial⟩, fun c2 => ⟨fun _ => ⟨(), rfl, trivial, trivial⟩, fun c3 => ⟨fun _ => ⟨(), rfl, trivial, trivial⟩, fun c4 => ?_⟩⟩⟩⟩⟩
  simp only [decide_eq_false_iff_not] at c1 c2 c3 c4
  obtain ⟨N, rfl⟩ : ∃ N : Nat, n = N := ⟨n.toNat, by omega⟩
  simp only [Int.toNat_natCast, Nat.zero_add, InR]
  refine ⟨by omega, by omega, by omega, by omega, by omega, by omega, ⟨⟨emptyI 16, 16, 0, List.replicate N 0⟩, ?_⟩, fun y1 ⟨i1, l1, h1⟩ => ⟨fun c5 => ?_, fun c5 => ⟨⟨⟨y1.x, y1.cap, 0, y1.pos⟩, ?_⟩, fun y2 ⟨i2, l2, h2⟩ => ⟨fun c6 => ⟨fun c7 => ⟨fun c8 => ?_, fun c8 => ?_⟩, fun c7 => ?_⟩, fun c6 => ?_⟩⟩⟩⟩
  · have : Has (emptyI 16) (LM N (fun k => decide (k < 0)) (gl (List.replicate N 0))) := by
      have e : LM N (fun k => decide (k < 0)) (gl (List.replicate N 0)) = [] := by simp [LM]
      rw [e]; exact empty_has (by omega) (by omega)
    have hr : RowsEq N 1 (fun (x j : Nat) => [Go.Value.int Go.IntKind.i64 0].getD j (Go.Value.tuple #[])) (encRows encI (List.replicate N 0)) := by
      refine .of_cells fun i hi => ?_
      unfold encRows
      rw [show gl (List.replicate N (0 : Int)) i = 0 from gl_replicate hi]
      rfl
    dsimp only
    (repeat' apply And.intro) <;> first | rfl | trivial | exact Nat.le_refl _ | omega | (dsimp only; omega) | exact RowsEq.refl _ _ _ | exact newRows | exact hr | exact this | simp
  · simp only [decide_eq_true_eq] at c5
    have e0 : toI (updR (encRows encI y1.pos) y1.i 0 [Go.Value.int Go.IntKind.i64 ((y1.i : Int) + 1)] y1.i 0) = (y1.i : Int) + 1 := by rw [updR_self]; rfl
    rw [e0]
    obtain ⟨g1, g2, g3⟩ := put_num (p' := fun k => decide (k < y1.i + 1)) (f' := gl (y1.pos.set y1.i ((y1.i : Int) + 1))) (v := (y1.i : Int) + 1) h1 (by omega) (i := y1.i) (by omega) (gl_set_self (by omega)) (by simp) (fun k _ hk => by simp; omega) (fun k _ hk _ => (gl_set_ne (fun h => hk h.symm)).symm)
    have hrow : RowsEq N 1 (updR (encRows encI y1.pos) y1.i 0 [Go.Value.int Go.IntKind.i64 ((y1.i : Int) + 1)]) (encRows encI (y1.pos.set y1.i ((y1.i : Int) + 1))) := by
      refine .set _ (by omega) (fun i hi => by simp only [updR_other hi]) ?_
      simp only [updR_self]; rfl
    refine ⟨by omega, by omega, by omega, by omega, by omega, fun _ => ⟨y1.i, rfl, by omega, fun _ _ => ⟨⟨y1.x, y1.cap, nameOf y1.i, (y1.i : Int) + 1⟩, ?_⟩⟩⟩
    (repeat' apply And.intro) <;> first | rfl | trivial | exact Nat.le_refl _ | omega | (dsimp only; omega) | exact RowsEq.refl _ _ _ | exact h1.inv | (rw [nameOf_size]; unfold lenMax; omega) | skip
    refine fun cap _ => ⟨by omega, ⟨putX y1.x (nameOf y1.i) ((y1.i : Int) + 1), cap, y1.i + 1, y1.pos.set y1.i ((y1.i : Int) + 1)⟩, ?_⟩
    dsimp only
    (repeat' apply And.intro) <;> first | rfl | trivial | exact Nat.le_refl _ | omega | (dsimp only; omega) | exact RowsEq.refl _ _ _ | exact g1 | exact hrow | (rw [List.length_set]; exact l1)
  · simp only [decide_eq_false_iff_not] at c5
    have : Has y1.x (LM N (fun _ => true) (gl y1.pos)) := by
      rw [LM_congr (p' := fun k => decide (k < y1.i)) (f' := gl y1.pos) (fun k hk => by simp; omega) (fun _ _ _ => rfl)]; exact h1
    dsimp only
    (repeat' apply And.intro) <;> first | rfl | trivial | exact Nat.le_refl _ | omega | (dsimp only; omega) | exact RowsEq.refl _ _ _ | exact this | exact l1
  · simp only [decide_eq_true_eq] at c6 c7 c8
    have hN : (0 : Int) < (N : Int) := by omega
    generalize toI (rows y2.i 0) = z
    have z1 := Int.tmod_lt_of_pos z hN
    have z2 := Int.lt_tmod_of_pos z hN
    have z3 : (z.tmod N + N).tmod N = (z.tmod N + N) % N := Int.tmod_eq_emod_of_nonneg (by omega)
    have z4 := Int.emod_nonneg (z.tmod N + N) (show (N : Int) ≠ 0 by omega)
    have z5 := Int.emod_lt_of_pos (z.tmod N + N) hN
    obtain ⟨kk, hk⟩ : ∃ kk : Nat, (z.tmod N + N) % N = kk := ⟨((z.tmod N + N) % N).toNat, by omega⟩
    rw [z3, hk]
    simp only [Int.toNat_natCast]
    obtain ⟨g1, g2, g3⟩ := put_num (p' := fun _ => true) (f' := gl (y2.pos.set kk (100 + (y2.i : Int)))) (v := 100 + (y2.i : Int)) h2 (by omega) (i := kk) (by omega) (gl_set_self (by omega)) rfl (fun _ _ _ => rfl) (fun k _ hk _ => (gl_set_ne (fun h => hk h.symm)).symm)
    have g2 : putRet (roomy y2.x) (nameOf kk) = gl y2.pos kk := by simpa using g2
    have hrow : RowsEq N 1 (updR (encRows encI y2.pos) kk 0 [Go.Value.int Go.IntKind.i64 (100 + (y2.i : Int))]) (encRows encI (y2.pos.set kk (100 + (y2.i : Int)))) := by
      refine .set _ (by omega) (fun i hi => by simp only [updR_other hi]) ?_
      simp only [updR_self]; rfl
    refine ⟨by omega, by omega, fun _ => ⟨by omega, by omega, by omega, by omega, by omega, by omega, fun _ => ⟨kk, rfl, by omega, fun _ _ => ⟨⟨y2.x, y2.cap, nameOf kk, 100 + (y2.i : Int)⟩, ?_⟩⟩⟩⟩
    (repeat' apply And.intro) <;> first | rfl | trivial | exact Nat.le_refl _ | omega | (dsimp only; omega) | exact RowsEq.refl _ _ _ | exact h2.inv | (rw [nameOf_size]; unfold lenMax; omega) | skip
    refine fun cap _ => ⟨fun hc => (by dsimp only at hc; rw [g2] at hc; simp at hc), fun _ => ⟨by omega, by omega, by omega, by omega, ⟨putX y2.x (nameOf kk) (100 + (y2.i : Int)), cap, y2.i + 1, y2.pos.set kk (100 + (y2.i : Int))⟩, ?_⟩⟩
    dsimp only
    (repeat' apply And.intro) <;> first | rfl | trivial | exact Nat.le_refl _ | omega | (dsimp only; omega) | exact RowsEq.refl _ _ _ | exact g1 | exact hrow | (rw [List.length_set]; exact l2)
  all_goals
    refine ⟨⟨⟨y2.x, y2.cap, 0, y2.pos⟩, ?_⟩, fun y3 ⟨i3, l3, h3⟩ => ⟨fun d1 => ?_, fun d1 => ⟨⟨y3.x, y3.cap, lo⟩, ?_⟩⟩⟩
    · dsimp only
      (repeat' apply And.intro) <;> first | rfl | trivial | exact Nat.le_refl _ | omega | (dsimp only; omega) | exact RowsEq.refl _ _ _ | exact h2 | exact l2
    · simp only [decide_eq_true_eq] at d1
      have wl := wantN_le y3.pos lo y3.i
      refine ⟨by omega, by omega, fun _ => ⟨fun d2 => ⟨by omega, by omega, ⟨y3.x, y3.cap, y3.i + 1, y3.pos⟩, ?_⟩, fun d2 => ⟨by omega, ⟨y3.x, y3.cap, y3.i + 1, y3.pos⟩, ?_⟩⟩⟩
      · simp only [decide_eq_true_eq] at d2
        have w1 : wantN y3.pos lo (y3.i + 1) = wantN y3.pos lo y3.i + 1 := by show _ + (if _ then 1 else 0) = _; rw [if_pos d2]
        dsimp only
        rw [w1]
        (repeat' apply And.intro) <;> first | rfl | trivial | exact Nat.le_refl _ | omega | (dsimp only; omega) | exact RowsEq.refl _ _ _ | exact h3 | exact l3
      · simp only [decide_eq_false_iff_not] at d2
        have w1 : wantN y3.pos lo (y3.i + 1) = wantN y3.pos lo y3.i := by show _ + (if _ then 1 else 0) = _; rw [if_neg d2]; rfl
        dsimp only
        rw [w1]
        (repeat' apply And.intro) <;> first | rfl | trivial | exact Nat.le_refl _ | omega | (dsimp only; omega) | exact RowsEq.refl _ _ _ | exact h3 | exact l3
    · simp only [decide_eq_false_iff_not] at d1
      obtain ⟨b1, b2, b3, b4⟩ := below_num h3 lo
      have e3 : y3.i = N := by omega
      have wl := wantN_le y3.pos lo N
      rw [e3]
      (repeat' apply And.intro) <;> first | rfl | trivial | exact Nat.le_refl _ | omega | (dsimp only; omega) | exact RowsEq.refl _ _ _ | exact h3.inv | skip
      dsimp only
      rw [b2, b4]
      refine fun _ _ => ⟨fun hc => (by simp at hc), fun _ _ => ⟨by omega, fun hc => (by exfalso; simp at hc; omega), fun _ => ⟨⟨⟨belowI y3.x lo, y3.cap, 0, y3.pos⟩, ?_⟩, fun y4 ⟨i4, l4, h4⟩ => ⟨fun d3 => ⟨y4.i, ?_⟩, fun _ => ⟨(), trivial, trivial, trivial⟩⟩⟩⟩⟩
      · dsimp only
        rw [b4]
        (repeat' apply And.intro) <;> first | rfl | trivial | exact Nat.le_refl _ | omega | (dsimp only; omega) | exact RowsEq.refl _ _ _ | exact b1 | exact l3
      · simp only [decide_eq_true_eq] at d3
        have hget : getI y4.x (nameOf y4.i) = if lo ≤ gl y4.pos y4.i then (gl y4.pos y4.i, true) else (0, false) := by
          split
          · rename_i e; exact get_there h4 (LM_mem (f := gl y4.pos) (by omega) (by omega) (by simp [e]))
          · rename_i e; exact get_none h4 (LM_not (by omega) (by omega) (by simp [e]))
        refine ⟨rfl, by omega, fun _ _ => ⟨⟨y4.x, y4.cap, nameOf y4.i⟩, ?_⟩⟩
        (repeat' apply And.intro) <;> first | rfl | trivial | exact Nat.le_refl _ | omega | (dsimp only; omega) | exact RowsEq.refl _ _ _ | exact h4.inv | (rw [nameOf_size]; unfold lenMax; omega) | skip
        dsimp only
        rw [hget]
        refine fun _ _ => ⟨by omega, by omega, fun _ => ⟨fun hc => ?_, fun hc => ⟨fun hd => ⟨by omega, by omega, fun _ => ⟨fun he => ?_, fun he => ⟨by omega, ⟨y4.x, y4.cap, y4.i + 1, y4.pos⟩, ?_⟩⟩⟩, fun hd => ⟨by omega, ⟨y4.x, y4.cap, y4.i + 1, y4.pos⟩, ?_⟩⟩⟩⟩
        · exfalso; split at hc <;> rename_i e <;> simp [e] at hc
        · exfalso; split at hd <;> rename_i e
          · simp [e] at he
          · cases hd
        · dsimp only
          (repeat' apply And.intro) <;> first | rfl | trivial | exact Nat.le_refl _ | omega | (dsimp only; omega) | exact RowsEq.refl _ _ _ | exact h4 | exact l4
        · dsimp only
          (repeat' apply And.intro) <;> first | rfl | trivial | exact Nat.le_refl _ | omega | (dsimp only; omega) | exact RowsEq.refl _ _ _ | exact h4 | exact l4)
theorem instBel : ∀ ads, okADs [.int .i64, .int .i64, .slc 3 [.int .i64]] ads → ∃ a : BelA, cBel.pre a ∧ cBel.args a = svs 0 ads ∧ cBel.ro a = chs 0 [.int .i64, .int .i64, .slc 3 [.int .i64]] ads ∧ cBel.m = slcs ads := by
  rintro ads ⟨d, r, rfl, ⟨n, rfl, hn⟩, d2, r2, rfl, ⟨st, rfl, hs⟩, d3, r3, rfl, ⟨m, cap, rows, rfl, h1, h2, h3⟩, rfl⟩
  exact ⟨⟨n, st, m, cap, rows⟩, ⟨h1, h2⟩, rfl, rfl, rfl⟩
end Go.Proofs.Ytfpgkgelgpandaa
