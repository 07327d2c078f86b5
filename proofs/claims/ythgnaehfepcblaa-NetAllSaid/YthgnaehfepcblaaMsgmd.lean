/-
  Whole messages: cut, looked at, copied, told apart, spoilt.
-/
import Derived.Test.YthgnaehfepcblaaMsgld
namespace Go.Proofs.Ythgnaehfepcblaa
open Go.Sx
set_option maxRecDepth 100000
set_option linter.unusedVariables false

/-- a message's flat cells -/
structure MR where
  k : Int
  f : Int
  t : Int
  ep : Int
  ti : Int
  sq : Int
  n : Int
  id : Int
  op : Int
  key : ByteArray
  err : Int
  last : Bool
  it : ItemR
  base : Int
def msgA (m : MR) (a b c d : A) : List A := [.int .i64 m.k, .int .i64 m.f, .int .i64 m.t, .int .i64 m.ep, .int .i64 m.ti, .int .i64 m.sq, .int .i64 m.n, .int .i64 m.id, .int .i64 m.op, .str m.key, .int .i64 m.err, .bool m.last,
  .str m.it.key, .str m.it.val, .int .i64 m.it.en, .bool m.it.gone, a, b, c, .int .i64 m.base, d]
/-- with its lists -/
structure MsgA where
  m : MR
  il : List ItemR
  ml : List MarkR
  nl : List Int
  ol : List Int
  ci : Nat
  cm : Nat
  cn : Nat
  co : Nat
def MsgA.atoms (a : MsgA) (t : Nat) : List A := msgA a.m (.slc t 0 4 a.il.length a.ci) (.slc (t + 1) 0 2 a.ml.length a.cm) (.slc (t + 2) 0 1 a.nl.length a.cn) (.slc (t + 3) 0 1 a.ol.length a.co)
def MsgA.chs (a : MsgA) (t : Nat) : List (Nat × Chunk) := [(t, .arr 31 ksItem a.il.length (encRows encItem a.il)), (t + 1, .arr 56 ksMark a.ml.length (encRows encMark a.ml)), (t + 2, .arr 3 [.int .i64] a.nl.length (encRows encI a.nl)), (t + 3, .arr 3 [.int .i64] a.ol.length (encRows encI a.ol))]

/-! ### Cut -/

def cutMR (m : MR) : MR := { m with key := cutB m.key 50, it := cutI m.it }
def cutMk (x : MarkR) : MarkR := ⟨x.seq, cutB x.key 50⟩
def cutML (l : List MarkR) (n : Nat) : List MarkR := (l.take n).map cutMk
theorem cutML_succ {l : List MarkR} {i : Nat} (h : i < l.length) : cutML l (i + 1) = cutML l i ++ [cutMk (gl l i)] := by
  unfold cutML
  rw [take_succ_gl h, List.map_append]; rfl
noncomputable def cCutM : Con where
  α := MsgA
  β := Nat × Nat
  m := 4
  m' := 6
  pre := fun a => a.nl.length ≤ a.cn ∧ a.ol.length ≤ a.co
  args := fun a => [.agg (a.atoms 0)]
  hp := fun _ => []
  ro := fun a => a.chs 0
  post := fun a b => (cutIL a.il 6).length ≤ b.1 ∧ (cutML a.ml 6).length ≤ b.2
  res := fun a b => .agg (msgA (cutMR a.m) (.slc 4 0 4 (cutIL a.il 6).length b.1) (.slc 5 0 2 (cutML a.ml 6).length b.2) (.slc 2 0 1 (a.nl.take 7).length a.cn) (.slc 3 0 1 (a.ol.take 7).length a.co))
  hp' := fun a _ => [(4, .arr 31 ksItem (cutIL a.il 6).length (encRows encItem (cutIL a.il 6))), (5, .arr 56 ksMark (cutML a.ml 6).length (encRows encMark (cutML a.ml 6)))]
def iCutM (a : MsgA) : An := .flat 6 (Nat × Nat) (fun s x => ((s.new (.arr 56 ksMark (cutML a.ml x.1).length (encRows encMark (cutML a.ml x.1)))).set 3 (.a (.slc s.nx 0 2 (cutML a.ml x.1).length x.2))).int 4 x.1) (fun _ x => x.1 ≤ 6 ∧ x.1 ≤ a.ml.length ∧ (cutML a.ml x.1).length ≤ x.2) (fun _ x => 6 - x.1)
noncomputable def tabCutM : List (Nat × Con) := [(20, cCut), (22, cItems)]
set_option maxHeartbeats 4000000 in
theorem bodyCutM : fnBody (Y Try.prog) tabCutM 10 cCutM fun a => [(10, [iCutM a], [])] := fnBody.of (p :=
  ∀ (a : MsgA), a.nl.length ≤ a.cn ∧
  a.ol.length ≤ a.co →
  ∃ (a_2 : ByteArray × Int), a.m.key = a_2.fst ∧
  (50 : Int) = a_2.snd ∧
  (0 : Int) ≤ a_2.snd ∧
  ∀ (b : Unit), True →
  ∃ (a_4 : ByteArray × Int), a.m.it.key = a_4.fst ∧
  (50 : Int) = a_4.snd ∧
  (0 : Int) ≤ a_4.snd ∧
  ∀ (b : Unit), True →
  ∃ (a_6 : ByteArray × Int), a.m.it.val = a_6.fst ∧
  (210 : Int) = a_6.snd ∧
  (0 : Int) ≤ a_6.snd ∧
  ∀ (b : Unit), True →
  ∃ (a_8 : ItemsA), ((0 : Nat) = (0 : Nat) ∧
  a.il.length = a_8.l.length ∧
  a.ci = a_8.cap) ∧
  (6 : Int) = (↑a_8.n : Int) ∧
  (a_8.l.length ≤ a.il.length ∧
  RowsEq a_8.l.length (4 : Nat) (encRows encItem a.il) (encRows encItem a_8.l)) ∧
  a_8.n ≤ (1000 : Nat) ∧
  ∀ (b : Nat), (cutIL a_8.l a_8.n).length ≤ b →
  (∃ (a_10 : Nat × Nat), (0 : Int) = (↑a_10.fst : Int) ∧
  ((0 : Nat) = (cutML a.ml a_10.fst).length ∧
  (0 : Nat) = a_10.snd) ∧
  (0 : Nat) = (0 : Nat) ∧
  (0 : Nat) = (0 : Nat) ∧
  a.m.k = a.m.k ∧
  a.m.f = a.m.f ∧
  a.m.t = a.m.t ∧
  a.m.ep = a.m.ep ∧
  a.m.ti = a.m.ti ∧
  a.m.sq = a.m.sq ∧
  a.m.n = a.m.n ∧
  a.m.id = a.m.id ∧
  a.m.op = a.m.op ∧
  a.m.key = a.m.key ∧
  a.m.err = a.m.err ∧
  a.m.last = a.m.last ∧
  a.m.it.key = a.m.it.key ∧
  a.m.it.val = a.m.it.val ∧
  a.m.it.en = a.m.it.en ∧
  a.m.it.gone = a.m.it.gone ∧
  ((0 : Nat) = (0 : Nat) ∧
  a.il.length = a.il.length ∧
  a.ci = a.ci) ∧
  ((0 : Nat) = (0 : Nat) ∧
  a.ml.length = a.ml.length ∧
  a.cm = a.cm) ∧
  ((0 : Nat) = (0 : Nat) ∧
  a.nl.length = a.nl.length ∧
  a.cn = a.cn) ∧
  a.m.base = a.m.base ∧
  ((0 : Nat) = (0 : Nat) ∧
  a.ol.length = a.ol.length ∧
  a.co = a.co) ∧
  (cutML a.ml a_10.fst).length = (0 : Nat) ∧
  (0 : Int) = (0 : Int) ∧
  (0 : Int) = (0 : Int) ∧
  (0 : Int) = (0 : Int) ∧
  (0 : Int) = (0 : Int) ∧
  (0 : Int) = (0 : Int) ∧
  (0 : Int) = (0 : Int) ∧
  (0 : Int) = (0 : Int) ∧
  (0 : Int) = (0 : Int) ∧
  (0 : Int) = (0 : Int) ∧
  (ByteArray.mk #[]) = (ByteArray.mk #[]) ∧
  (0 : Int) = (0 : Int) ∧
  Bool.false = Bool.false ∧
  (ByteArray.mk #[]) = (ByteArray.mk #[]) ∧
  (ByteArray.mk #[]) = (ByteArray.mk #[]) ∧
  (0 : Int) = (0 : Int) ∧
  Bool.false = Bool.false ∧
  (0 : Int) = (0 : Int) ∧
  a.m.k = a.m.k ∧
  a.m.f = a.m.f ∧
  a.m.t = a.m.t ∧
  a.m.ep = a.m.ep ∧
  a.m.ti = a.m.ti ∧
  a.m.sq = a.m.sq ∧
  a.m.n = a.m.n ∧
  a.m.id = a.m.id ∧
  a.m.op = a.m.op ∧
  cutB a_2.fst a_2.snd = cutB a_2.fst a_2.snd ∧
  a.m.err = a.m.err ∧
  a.m.last = a.m.last ∧
  cutB a_4.fst a_4.snd = cutB a_4.fst a_4.snd ∧
  cutB a_6.fst a_6.snd = cutB a_6.fst a_6.snd ∧
  a.m.it.en = a.m.it.en ∧
  a.m.it.gone = a.m.it.gone ∧
  ((0 : Nat) = (0 : Nat) ∧
  (cutIL a_8.l a_8.n).length = (cutIL a_8.l a_8.n).length ∧
  b = b) ∧
  ((0 : Nat) = (0 : Nat) ∧
  a.ml.length = a.ml.length ∧
  a.cm = a.cm) ∧
  ((0 : Nat) = (0 : Nat) ∧
  a.nl.length = a.nl.length ∧
  a.cn = a.cn) ∧
  a.m.base = a.m.base ∧
  ((0 : Nat) = (0 : Nat) ∧
  a.ol.length = a.ol.length ∧
  a.co = a.co) ∧
  (a.il.length ≤ a.il.length ∧
  RowsEq a.il.length (4 : Nat) (encRows encItem a.il) (encRows encItem a.il)) ∧
  (a.ml.length ≤ a.ml.length ∧
  RowsEq a.ml.length (2 : Nat) (encRows encMark a.ml) (encRows encMark a.ml)) ∧
  (a.nl.length ≤ a.nl.length ∧
  RowsEq a.nl.length (1 : Nat) (encRows encI a.nl) (encRows encI a.nl)) ∧
  (a.ol.length ≤ a.ol.length ∧
  RowsEq a.ol.length (1 : Nat) (encRows encI a.ol) (encRows encI a.ol)) ∧
  ((cutIL a_8.l a_8.n).length ≤ (cutIL a_8.l a_8.n).length ∧
  RowsEq (cutIL a_8.l a_8.n).length (4 : Nat) (encRows encItem (cutIL a_8.l a_8.n)) (encRows encItem (cutIL a_8.l a_8.n))) ∧
  (a_10.fst ≤ (6 : Nat) ∧
  a_10.fst ≤ a.ml.length ∧
  (cutML a.ml a_10.fst).length ≤ a_10.snd) ∧
  True) ∧
  ∀ (a_10 : Nat × Nat), a_10.fst ≤ (6 : Nat) ∧
  a_10.fst ≤ a.ml.length ∧
  (cutML a.ml a_10.fst).length ≤ a_10.snd →
  (Decidable.decide ((↑a_10.fst : Int) < (↑a.ml.length : Int)) = Bool.true →
  (Decidable.decide ((↑a_10.fst : Int) < (6 : Int)) = Bool.true →
  ((0 : Int) ≤ (↑a_10.fst : Int) ∧
  (↑a_10.fst : Int) < (↑a.ml.length : Int)) ∧
  (0 : Nat) + (↑a_10.fst : Int).toNat < a.ml.length ∧
  (InR IntKind.i64 (gl a.ml ((0 : Nat) + (↑a_10.fst : Int).toNat)).seq →
  ((0 : Int) ≤ (↑a_10.fst : Int) ∧
  (↑a_10.fst : Int) < (↑a.ml.length : Int)) ∧
  (0 : Nat) + (↑a_10.fst : Int).toNat < a.ml.length ∧
  ∃ (a_15 : ByteArray × Int), (gl a.ml ((0 : Nat) + (↑a_10.fst : Int).toNat)).key = a_15.fst ∧
  (50 : Int) = a_15.snd ∧
  (0 : Int) ≤ a_15.snd ∧
  ∀ (b_1 : Unit), True →
  (0 : Nat) + (cutML a.ml a_10.fst).length ≤ (cutML a.ml a_10.fst).length ∧
  (1 : Nat) ≤ (1 : Nat) ∧
  ((cutML a.ml a_10.fst).length + (1 : Nat)) * (24 : Nat) ≤ (140737488355328 : Nat) ∧
  ∀ (cap : Nat), (cutML a.ml a_10.fst).length + (1 : Nat) ≤ cap →
  cap ≤ lenMax →
  ((cutML a.ml a_10.fst).length + (1 : Nat) ≤ a_10.snd →
  cap = a_10.snd) →
  InR IntKind.i64 ((↑a_10.fst : Int) + (1 : Int)) ∧
  ∃ (a' : Nat × Nat), (↑a_10.fst : Int) + (1 : Int) = (↑a'.fst : Int) ∧
  ((0 : Nat) = (0 : Nat) ∧
  (cutML a.ml a_10.fst).length + (1 : Nat) = (cutML a.ml a'.fst).length ∧
  cap = a'.snd) ∧
  (0 : Nat) = (0 : Nat) ∧
  (0 : Nat) = (0 : Nat) ∧
  a.m.k = a.m.k ∧
  a.m.f = a.m.f ∧
  a.m.t = a.m.t ∧
  a.m.ep = a.m.ep ∧
  a.m.ti = a.m.ti ∧
  a.m.sq = a.m.sq ∧
  a.m.n = a.m.n ∧
  a.m.id = a.m.id ∧
  a.m.op = a.m.op ∧
  a.m.key = a.m.key ∧
  a.m.err = a.m.err ∧
  a.m.last = a.m.last ∧
  a.m.it.key = a.m.it.key ∧
  a.m.it.val = a.m.it.val ∧
  a.m.it.en = a.m.it.en ∧
  a.m.it.gone = a.m.it.gone ∧
  ((0 : Nat) = (0 : Nat) ∧
  a.il.length = a.il.length ∧
  a.ci = a.ci) ∧
  ((0 : Nat) = (0 : Nat) ∧
  a.ml.length = a.ml.length ∧
  a.cm = a.cm) ∧
  ((0 : Nat) = (0 : Nat) ∧
  a.nl.length = a.nl.length ∧
  a.cn = a.cn) ∧
  a.m.base = a.m.base ∧
  ((0 : Nat) = (0 : Nat) ∧
  a.ol.length = a.ol.length ∧
  a.co = a.co) ∧
  ((cutML a.ml a'.fst).length ≤ (cutML a.ml a_10.fst).length + (1 : Nat) ∧
  RowsEq (cutML a.ml a'.fst).length (2 : Nat) (appRows (encRows encMark (cutML a.ml a_10.fst)) (0 : Nat) (cutML a.ml a_10.fst).length fun (i j : Nat) => flatRows (2 : Nat) [Value.int IntKind.i64 (gl a.ml ((0 : Nat) + (↑a_10.fst : Int).toNat)).seq, Value.string (cutB a_15.fst a_15.snd)] ((0 : Nat) + i) j) (encRows encMark (cutML a.ml a'.fst))) ∧
  (0 : Int) = (0 : Int) ∧
  (0 : Int) = (0 : Int) ∧
  (0 : Int) = (0 : Int) ∧
  (0 : Int) = (0 : Int) ∧
  (0 : Int) = (0 : Int) ∧
  (0 : Int) = (0 : Int) ∧
  (0 : Int) = (0 : Int) ∧
  (0 : Int) = (0 : Int) ∧
  (0 : Int) = (0 : Int) ∧
  (ByteArray.mk #[]) = (ByteArray.mk #[]) ∧
  (0 : Int) = (0 : Int) ∧
  Bool.false = Bool.false ∧
  (ByteArray.mk #[]) = (ByteArray.mk #[]) ∧
  (ByteArray.mk #[]) = (ByteArray.mk #[]) ∧
  (0 : Int) = (0 : Int) ∧
  Bool.false = Bool.false ∧
  (0 : Int) = (0 : Int) ∧
  a.m.k = a.m.k ∧
  a.m.f = a.m.f ∧
  a.m.t = a.m.t ∧
  a.m.ep = a.m.ep ∧
  a.m.ti = a.m.ti ∧
  a.m.sq = a.m.sq ∧
  a.m.n = a.m.n ∧
  a.m.id = a.m.id ∧
  a.m.op = a.m.op ∧
  cutB a_2.fst a_2.snd = cutB a_2.fst a_2.snd ∧
  a.m.err = a.m.err ∧
  a.m.last = a.m.last ∧
  cutB a_4.fst a_4.snd = cutB a_4.fst a_4.snd ∧
  cutB a_6.fst a_6.snd = cutB a_6.fst a_6.snd ∧
  a.m.it.en = a.m.it.en ∧
  a.m.it.gone = a.m.it.gone ∧
  ((0 : Nat) = (0 : Nat) ∧
  (cutIL a_8.l a_8.n).length = (cutIL a_8.l a_8.n).length ∧
  b = b) ∧
  ((0 : Nat) = (0 : Nat) ∧
  a.ml.length = a.ml.length ∧
  a.cm = a.cm) ∧
  ((0 : Nat) = (0 : Nat) ∧
  a.nl.length = a.nl.length ∧
  a.cn = a.cn) ∧
  a.m.base = a.m.base ∧
  ((0 : Nat) = (0 : Nat) ∧
  a.ol.length = a.ol.length ∧
  a.co = a.co) ∧
  (a.il.length ≤ a.il.length ∧
  RowsEq a.il.length (4 : Nat) (encRows encItem a.il) (encRows encItem a.il)) ∧
  (a.ml.length ≤ a.ml.length ∧
  RowsEq a.ml.length (2 : Nat) (encRows encMark a.ml) (encRows encMark a.ml)) ∧
  (a.nl.length ≤ a.nl.length ∧
  RowsEq a.nl.length (1 : Nat) (encRows encI a.nl) (encRows encI a.nl)) ∧
  (a.ol.length ≤ a.ol.length ∧
  RowsEq a.ol.length (1 : Nat) (encRows encI a.ol) (encRows encI a.ol)) ∧
  ((cutIL a_8.l a_8.n).length ≤ (cutIL a_8.l a_8.n).length ∧
  RowsEq (cutIL a_8.l a_8.n).length (4 : Nat) (encRows encItem (cutIL a_8.l a_8.n)) (encRows encItem (cutIL a_8.l a_8.n))) ∧
  (a'.fst ≤ (6 : Nat) ∧
  a'.fst ≤ a.ml.length ∧
  (cutML a.ml a'.fst).length ≤ a'.snd) ∧
  (6 : Nat) - a'.fst < (6 : Nat) - a_10.fst)) ∧
  (Decidable.decide ((↑a_10.fst : Int) < (6 : Int)) = Bool.false →
  (Decidable.decide ((7 : Int) < (↑a.nl.length : Int)) = Bool.true →
  ((0 : Int) ≤ (7 : Int) ∧
  (7 : Int) ≤ (↑a.cn : Int)) ∧
  (Decidable.decide ((7 : Int) < (↑a.ol.length : Int)) = Bool.true →
  ((0 : Int) ≤ (7 : Int) ∧
  (7 : Int) ≤ (↑a.co : Int)) ∧
  ∃ (b_1 : Nat × Nat), a.m.k = (cutMR a.m).k ∧
  a.m.f = (cutMR a.m).f ∧
  a.m.t = (cutMR a.m).t ∧
  a.m.ep = (cutMR a.m).ep ∧
  a.m.ti = (cutMR a.m).ti ∧
  a.m.sq = (cutMR a.m).sq ∧
  a.m.n = (cutMR a.m).n ∧
  a.m.id = (cutMR a.m).id ∧
  a.m.op = (cutMR a.m).op ∧
  cutB a_2.fst a_2.snd = (cutMR a.m).key ∧
  a.m.err = (cutMR a.m).err ∧
  a.m.last = (cutMR a.m).last ∧
  cutB a_4.fst a_4.snd = (cutMR a.m).it.key ∧
  cutB a_6.fst a_6.snd = (cutMR a.m).it.val ∧
  a.m.it.en = (cutMR a.m).it.en ∧
  a.m.it.gone = (cutMR a.m).it.gone ∧
  ((0 : Nat) = (0 : Nat) ∧
  (cutIL a_8.l a_8.n).length = (cutIL a.il (6 : Nat)).length ∧
  b = b_1.fst) ∧
  ((0 : Nat) = (0 : Nat) ∧
  (cutML a.ml a_10.fst).length = (cutML a.ml (6 : Nat)).length ∧
  a_10.snd = b_1.snd) ∧
  ((0 : Nat) = (0 : Nat) ∧
  (7 : Nat) = (List.take (7 : Nat) a.nl).length ∧
  a.cn - (0 : Nat) = a.cn) ∧
  a.m.base = (cutMR a.m).base ∧
  ((0 : Nat) = (0 : Nat) ∧
  (7 : Nat) = (List.take (7 : Nat) a.ol).length ∧
  a.co - (0 : Nat) = a.co) ∧
  ((cutIL a.il (6 : Nat)).length ≤ (cutIL a_8.l a_8.n).length ∧
  RowsEq (cutIL a.il (6 : Nat)).length (4 : Nat) (encRows encItem (cutIL a_8.l a_8.n)) (encRows encItem (cutIL a.il (6 : Nat)))) ∧
  ((cutML a.ml (6 : Nat)).length ≤ (cutML a.ml a_10.fst).length ∧
  RowsEq (cutML a.ml (6 : Nat)).length (2 : Nat) (encRows encMark (cutML a.ml a_10.fst)) (encRows encMark (cutML a.ml (6 : Nat)))) ∧
  ((cutIL a.il (6 : Nat)).length ≤ b_1.fst ∧
  (cutML a.ml (6 : Nat)).length ≤ b_1.snd) ∧
  True) ∧
  (Decidable.decide ((7 : Int) < (↑a.ol.length : Int)) = Bool.false →
  ∃ (b_1 : Nat × Nat), a.m.k = (cutMR a.m).k ∧
  a.m.f = (cutMR a.m).f ∧
  a.m.t = (cutMR a.m).t ∧
  a.m.ep = (cutMR a.m).ep ∧
  a.m.ti = (cutMR a.m).ti ∧
  a.m.sq = (cutMR a.m).sq ∧
  a.m.n = (cutMR a.m).n ∧
  a.m.id = (cutMR a.m).id ∧
  a.m.op = (cutMR a.m).op ∧
  cutB a_2.fst a_2.snd = (cutMR a.m).key ∧
  a.m.err = (cutMR a.m).err ∧
  a.m.last = (cutMR a.m).last ∧
  cutB a_4.fst a_4.snd = (cutMR a.m).it.key ∧
  cutB a_6.fst a_6.snd = (cutMR a.m).it.val ∧
  a.m.it.en = (cutMR a.m).it.en ∧
  a.m.it.gone = (cutMR a.m).it.gone ∧
  ((0 : Nat) = (0 : Nat) ∧
  (cutIL a_8.l a_8.n).length = (cutIL a.il (6 : Nat)).length ∧
  b = b_1.fst) ∧
  ((0 : Nat) = (0 : Nat) ∧
  (cutML a.ml a_10.fst).length = (cutML a.ml (6 : Nat)).length ∧
  a_10.snd = b_1.snd) ∧
  ((0 : Nat) = (0 : Nat) ∧
  (7 : Nat) = (List.take (7 : Nat) a.nl).length ∧
  a.cn - (0 : Nat) = a.cn) ∧
  a.m.base = (cutMR a.m).base ∧
  ((0 : Nat) = (0 : Nat) ∧
  a.ol.length = (List.take (7 : Nat) a.ol).length ∧
  a.co = a.co) ∧
  ((cutIL a.il (6 : Nat)).length ≤ (cutIL a_8.l a_8.n).length ∧
  RowsEq (cutIL a.il (6 : Nat)).length (4 : Nat) (encRows encItem (cutIL a_8.l a_8.n)) (encRows encItem (cutIL a.il (6 : Nat)))) ∧
  ((cutML a.ml (6 : Nat)).length ≤ (cutML a.ml a_10.fst).length ∧
  RowsEq (cutML a.ml (6 : Nat)).length (2 : Nat) (encRows encMark (cutML a.ml a_10.fst)) (encRows encMark (cutML a.ml (6 : Nat)))) ∧
  ((cutIL a.il (6 : Nat)).length ≤ b_1.fst ∧
  (cutML a.ml (6 : Nat)).length ≤ b_1.snd) ∧
  True)) ∧
  (Decidable.decide ((7 : Int) < (↑a.nl.length : Int)) = Bool.false →
  (Decidable.decide ((7 : Int) < (↑a.ol.length : Int)) = Bool.true →
  ((0 : Int) ≤ (7 : Int) ∧
  (7 : Int) ≤ (↑a.co : Int)) ∧
  ∃ (b_1 : Nat × Nat), a.m.k = (cutMR a.m).k ∧
  a.m.f = (cutMR a.m).f ∧
  a.m.t = (cutMR a.m).t ∧
  a.m.ep = (cutMR a.m).ep ∧
  a.m.ti = (cutMR a.m).ti ∧
  a.m.sq = (cutMR a.m).sq ∧
  a.m.n = (cutMR a.m).n ∧
  a.m.id = (cutMR a.m).id ∧
  a.m.op = (cutMR a.m).op ∧
  cutB a_2.fst a_2.snd = (cutMR a.m).key ∧
  a.m.err = (cutMR a.m).err ∧
  a.m.last = (cutMR a.m).last ∧
  cutB a_4.fst a_4.snd = (cutMR a.m).it.key ∧
  cutB a_6.fst a_6.snd = (cutMR a.m).it.val ∧
  a.m.it.en = (cutMR a.m).it.en ∧
  a.m.it.gone = (cutMR a.m).it.gone ∧
  ((0 : Nat) = (0 : Nat) ∧
  (cutIL a_8.l a_8.n).length = (cutIL a.il (6 : Nat)).length ∧
  b = b_1.fst) ∧
  ((0 : Nat) = (0 : Nat) ∧
  (cutML a.ml a_10.fst).length = (cutML a.ml (6 : Nat)).length ∧
  a_10.snd = b_1.snd) ∧
  ((0 : Nat) = (0 : Nat) ∧
  a.nl.length = (List.take (7 : Nat) a.nl).length ∧
  a.cn = a.cn) ∧
  a.m.base = (cutMR a.m).base ∧
  ((0 : Nat) = (0 : Nat) ∧
  (7 : Nat) = (List.take (7 : Nat) a.ol).length ∧
  a.co - (0 : Nat) = a.co) ∧
  ((cutIL a.il (6 : Nat)).length ≤ (cutIL a_8.l a_8.n).length ∧
  RowsEq (cutIL a.il (6 : Nat)).length (4 : Nat) (encRows encItem (cutIL a_8.l a_8.n)) (encRows encItem (cutIL a.il (6 : Nat)))) ∧
  ((cutML a.ml (6 : Nat)).length ≤ (cutML a.ml a_10.fst).length ∧
  RowsEq (cutML a.ml (6 : Nat)).length (2 : Nat) (encRows encMark (cutML a.ml a_10.fst)) (encRows encMark (cutML a.ml (6 : Nat)))) ∧
  ((cutIL a.il (6 : Nat)).length ≤ b_1.fst ∧
  (cutML a.ml (6 : Nat)).length ≤ b_1.snd) ∧
  True) ∧
  (Decidable.decide ((7 : Int) < (↑a.ol.length : Int)) = Bool.false →
  ∃ (b_1 : Nat × Nat), a.m.k = (cutMR a.m).k ∧
  a.m.f = (cutMR a.m).f ∧
  a.m.t = (cutMR a.m).t ∧
  a.m.ep = (cutMR a.m).ep ∧
  a.m.ti = (cutMR a.m).ti ∧
  a.m.sq = (cutMR a.m).sq ∧
  a.m.n = (cutMR a.m).n ∧
  a.m.id = (cutMR a.m).id ∧
  a.m.op = (cutMR a.m).op ∧
  cutB a_2.fst a_2.snd = (cutMR a.m).key ∧
  a.m.err = (cutMR a.m).err ∧
  a.m.last = (cutMR a.m).last ∧
  cutB a_4.fst a_4.snd = (cutMR a.m).it.key ∧
  cutB a_6.fst a_6.snd = (cutMR a.m).it.val ∧
  a.m.it.en = (cutMR a.m).it.en ∧
  a.m.it.gone = (cutMR a.m).it.gone ∧
  ((0 : Nat) = (0 : Nat) ∧
  (cutIL a_8.l a_8.n).length = (cutIL a.il (6 : Nat)).length ∧
  b = b_1.fst) ∧
  ((0 : Nat) = (0 : Nat) ∧
  (cutML a.ml a_10.fst).length = (cutML a.ml (6 : Nat)).length ∧
  a_10.snd = b_1.snd) ∧
  ((0 : Nat) = (0 : Nat) ∧
  a.nl.length = (List.take (7 : Nat) a.nl).length ∧
  a.cn = a.cn) ∧
  a.m.base = (cutMR a.m).base ∧
  ((0 : Nat) = (0 : Nat) ∧
  a.ol.length = (List.take (7 : Nat) a.ol).length ∧
  a.co = a.co) ∧
  ((cutIL a.il (6 : Nat)).length ≤ (cutIL a_8.l a_8.n).length ∧
  RowsEq (cutIL a.il (6 : Nat)).length (4 : Nat) (encRows encItem (cutIL a_8.l a_8.n)) (encRows encItem (cutIL a.il (6 : Nat)))) ∧
  ((cutML a.ml (6 : Nat)).length ≤ (cutML a.ml a_10.fst).length ∧
  RowsEq (cutML a.ml (6 : Nat)).length (2 : Nat) (encRows encMark (cutML a.ml a_10.fst)) (encRows encMark (cutML a.ml (6 : Nat)))) ∧
  ((cutIL a.il (6 : Nat)).length ≤ b_1.fst ∧
  (cutML a.ml (6 : Nat)).length ≤ b_1.snd) ∧
  True)))) ∧
  (Decidable.decide ((↑a_10.fst : Int) < (↑a.ml.length : Int)) = Bool.false →
  (Decidable.decide ((7 : Int) < (↑a.nl.length : Int)) = Bool.true →
  ((0 : Int) ≤ (7 : Int) ∧
  (7 : Int) ≤ (↑a.cn : Int)) ∧
  (Decidable.decide ((7 : Int) < (↑a.ol.length : Int)) = Bool.true →
  ((0 : Int) ≤ (7 : Int) ∧
  (7 : Int) ≤ (↑a.co : Int)) ∧
  ∃ (b_1 : Nat × Nat), a.m.k = (cutMR a.m).k ∧
  a.m.f = (cutMR a.m).f ∧
  a.m.t = (cutMR a.m).t ∧
  a.m.ep = (cutMR a.m).ep ∧
  a.m.ti = (cutMR a.m).ti ∧
  a.m.sq = (cutMR a.m).sq ∧
  a.m.n = (cutMR a.m).n ∧
  a.m.id = (cutMR a.m).id ∧
  a.m.op = (cutMR a.m).op ∧
  cutB a_2.fst a_2.snd = (cutMR a.m).key ∧
  a.m.err = (cutMR a.m).err ∧
  a.m.last = (cutMR a.m).last ∧
  cutB a_4.fst a_4.snd = (cutMR a.m).it.key ∧
  cutB a_6.fst a_6.snd = (cutMR a.m).it.val ∧
  a.m.it.en = (cutMR a.m).it.en ∧
  a.m.it.gone = (cutMR a.m).it.gone ∧
  ((0 : Nat) = (0 : Nat) ∧
  (cutIL a_8.l a_8.n).length = (cutIL a.il (6 : Nat)).length ∧
  b = b_1.fst) ∧
  ((0 : Nat) = (0 : Nat) ∧
  (cutML a.ml a_10.fst).length = (cutML a.ml (6 : Nat)).length ∧
  a_10.snd = b_1.snd) ∧
  ((0 : Nat) = (0 : Nat) ∧
  (7 : Nat) = (List.take (7 : Nat) a.nl).length ∧
  a.cn - (0 : Nat) = a.cn) ∧
  a.m.base = (cutMR a.m).base ∧
  ((0 : Nat) = (0 : Nat) ∧
  (7 : Nat) = (List.take (7 : Nat) a.ol).length ∧
  a.co - (0 : Nat) = a.co) ∧
  ((cutIL a.il (6 : Nat)).length ≤ (cutIL a_8.l a_8.n).length ∧
  RowsEq (cutIL a.il (6 : Nat)).length (4 : Nat) (encRows encItem (cutIL a_8.l a_8.n)) (encRows encItem (cutIL a.il (6 : Nat)))) ∧
  ((cutML a.ml (6 : Nat)).length ≤ (cutML a.ml a_10.fst).length ∧
  RowsEq (cutML a.ml (6 : Nat)).length (2 : Nat) (encRows encMark (cutML a.ml a_10.fst)) (encRows encMark (cutML a.ml (6 : Nat)))) ∧
  ((cutIL a.il (6 : Nat)).length ≤ b_1.fst ∧
  (cutML a.ml (6 : Nat)).length ≤ b_1.snd) ∧
  True) ∧
  (Decidable.decide ((7 : Int) < (↑a.ol.length : Int)) = Bool.false →
  ∃ (b_1 : Nat × Nat), a.m.k = (cutMR a.m).k ∧
  a.m.f = (cutMR a.m).f ∧
  a.m.t = (cutMR a.m).t ∧
  a.m.ep = (cutMR a.m).ep ∧
  a.m.ti = (cutMR a.m).ti ∧
  a.m.sq = (cutMR a.m).sq ∧
  a.m.n = (cutMR a.m).n ∧
  a.m.id = (cutMR a.m).id ∧
  a.m.op = (cutMR a.m).op ∧
  cutB a_2.fst a_2.snd = (cutMR a.m).key ∧
  a.m.err = (cutMR a.m).err ∧
  a.m.last = (cutMR a.m).last ∧
  cutB a_4.fst a_4.snd = (cutMR a.m).it.key ∧
  cutB a_6.fst a_6.snd = (cutMR a.m).it.val ∧
  a.m.it.en = (cutMR a.m).it.en ∧
  a.m.it.gone = (cutMR a.m).it.gone ∧
  ((0 : Nat) = (0 : Nat) ∧
  (cutIL a_8.l a_8.n).length = (cutIL a.il (6 : Nat)).length ∧
  b = b_1.fst) ∧
  ((0 : Nat) = (0 : Nat) ∧
  (cutML a.ml a_10.fst).length = (cutML a.ml (6 : Nat)).length ∧
  a_10.snd = b_1.snd) ∧
  ((0 : Nat) = (0 : Nat) ∧
  (7 : Nat) = (List.take (7 : Nat) a.nl).length ∧
  a.cn - (0 : Nat) = a.cn) ∧
  a.m.base = (cutMR a.m).base ∧
  ((0 : Nat) = (0 : Nat) ∧
  a.ol.length = (List.take (7 : Nat) a.ol).length ∧
  a.co = a.co) ∧
  ((cutIL a.il (6 : Nat)).length ≤ (cutIL a_8.l a_8.n).length ∧
  RowsEq (cutIL a.il (6 : Nat)).length (4 : Nat) (encRows encItem (cutIL a_8.l a_8.n)) (encRows encItem (cutIL a.il (6 : Nat)))) ∧
  ((cutML a.ml (6 : Nat)).length ≤ (cutML a.ml a_10.fst).length ∧
  RowsEq (cutML a.ml (6 : Nat)).length (2 : Nat) (encRows encMark (cutML a.ml a_10.fst)) (encRows encMark (cutML a.ml (6 : Nat)))) ∧
  ((cutIL a.il (6 : Nat)).length ≤ b_1.fst ∧
  (cutML a.ml (6 : Nat)).length ≤ b_1.snd) ∧
  True)) ∧
  (Decidable.decide ((7 : Int) < (↑a.nl.length : Int)) = Bool.false →
  (Decidable.decide ((7 : Int) < (↑a.ol.length : Int)) = Bool.true →
  ((0 : Int) ≤ (7 : Int) ∧
  (7 : Int) ≤ (↑a.co : Int)) ∧
  ∃ (b_1 : Nat × Nat), a.m.k = (cutMR a.m).k ∧
  a.m.f = (cutMR a.m).f ∧
  a.m.t = (cutMR a.m).t ∧
  a.m.ep = (cutMR a.m).ep ∧
  a.m.ti = (cutMR a.m).ti ∧
  a.m.sq = (cutMR a.m).sq ∧
  a.m.n = (cutMR a.m).n ∧
  a.m.id = (cutMR a.m).id ∧
  a.m.op = (cutMR a.m).op ∧
  cutB a_2.fst a_2.snd = (cutMR a.m).key ∧
  a.m.err = (cutMR a.m).err ∧
  a.m.last = (cutMR a.m).last ∧
  cutB a_4.fst a_4.snd = (cutMR a.m).it.key ∧
  cutB a_6.fst a_6.snd = (cutMR a.m).it.val ∧
  a.m.it.en = (cutMR a.m).it.en ∧
  a.m.it.gone = (cutMR a.m).it.gone ∧
  ((0 : Nat) = (0 : Nat) ∧
  (cutIL a_8.l a_8.n).length = (cutIL a.il (6 : Nat)).length ∧
  b = b_1.fst) ∧
  ((0 : Nat) = (0 : Nat) ∧
  (cutML a.ml a_10.fst).length = (cutML a.ml (6 : Nat)).length ∧
  a_10.snd = b_1.snd) ∧
  ((0 : Nat) = (0 : Nat) ∧
  a.nl.length = (List.take (7 : Nat) a.nl).length ∧
  a.cn = a.cn) ∧
  a.m.base = (cutMR a.m).base ∧
  ((0 : Nat) = (0 : Nat) ∧
  (7 : Nat) = (List.take (7 : Nat) a.ol).length ∧
  a.co - (0 : Nat) = a.co) ∧
  ((cutIL a.il (6 : Nat)).length ≤ (cutIL a_8.l a_8.n).length ∧
  RowsEq (cutIL a.il (6 : Nat)).length (4 : Nat) (encRows encItem (cutIL a_8.l a_8.n)) (encRows encItem (cutIL a.il (6 : Nat)))) ∧
  ((cutML a.ml (6 : Nat)).length ≤ (cutML a.ml a_10.fst).length ∧
  RowsEq (cutML a.ml (6 : Nat)).length (2 : Nat) (encRows encMark (cutML a.ml a_10.fst)) (encRows encMark (cutML a.ml (6 : Nat)))) ∧
  ((cutIL a.il (6 : Nat)).length ≤ b_1.fst ∧
  (cutML a.ml (6 : Nat)).length ≤ b_1.snd) ∧
  True) ∧
  (Decidable.decide ((7 : Int) < (↑a.ol.length : Int)) = Bool.false →
  ∃ (b_1 : Nat × Nat), a.m.k = (cutMR a.m).k ∧
  a.m.f = (cutMR a.m).f ∧
  a.m.t = (cutMR a.m).t ∧
  a.m.ep = (cutMR a.m).ep ∧
  a.m.ti = (cutMR a.m).ti ∧
  a.m.sq = (cutMR a.m).sq ∧
  a.m.n = (cutMR a.m).n ∧
  a.m.id = (cutMR a.m).id ∧
  a.m.op = (cutMR a.m).op ∧
  cutB a_2.fst a_2.snd = (cutMR a.m).key ∧
  a.m.err = (cutMR a.m).err ∧
  a.m.last = (cutMR a.m).last ∧
  cutB a_4.fst a_4.snd = (cutMR a.m).it.key ∧
  cutB a_6.fst a_6.snd = (cutMR a.m).it.val ∧
  a.m.it.en = (cutMR a.m).it.en ∧
  a.m.it.gone = (cutMR a.m).it.gone ∧
  ((0 : Nat) = (0 : Nat) ∧
  (cutIL a_8.l a_8.n).length = (cutIL a.il (6 : Nat)).length ∧
  b = b_1.fst) ∧
  ((0 : Nat) = (0 : Nat) ∧
  (cutML a.ml a_10.fst).length = (cutML a.ml (6 : Nat)).length ∧
  a_10.snd = b_1.snd) ∧
  ((0 : Nat) = (0 : Nat) ∧
  a.nl.length = (List.take (7 : Nat) a.nl).length ∧
  a.cn = a.cn) ∧
  a.m.base = (cutMR a.m).base ∧
  ((0 : Nat) = (0 : Nat) ∧
  a.ol.length = (List.take (7 : Nat) a.ol).length ∧
  a.co = a.co) ∧
  ((cutIL a.il (6 : Nat)).length ≤ (cutIL a_8.l a_8.n).length ∧
  RowsEq (cutIL a.il (6 : Nat)).length (4 : Nat) (encRows encItem (cutIL a_8.l a_8.n)) (encRows encItem (cutIL a.il (6 : Nat)))) ∧
  ((cutML a.ml (6 : Nat)).length ≤ (cutML a.ml a_10.fst).length ∧
  RowsEq (cutML a.ml (6 : Nat)).length (2 : Nat) (encRows encMark (cutML a.ml a_10.fst)) (encRows encMark (cutML a.ml (6 : Nat)))) ∧
  ((cutIL a.il (6 : Nat)).length ≤ b_1.fst ∧
  (cutML a.ml (6 : Nat)).length ≤ b_1.snd) ∧
  True)))) (by kernel_rfl) (by
  rintro ⟨m, il, ml, nl, ol, ci, cm, cn, co⟩ ⟨h1, h2⟩
  dsimp only at h1 h2 ⊢
  simp only [Nat.zero_add, Int.toNat_natCast, InR, decide_eq_true_eq, decide_eq_false_iff_not, Nat.sub_zero]
  have n7 := List.length_take (l := nl) (i := 7)
  have o7 := List.length_take (l := ol) (i := 7)
  refine ⟨(m.key, 50), ?_⟩
  ((repeat' apply And.intro) <;> first | with_reducible rfl | omega | (dsimp only; omega) | exact RowsEq.refl _ _ _ | assumption | rfl | trivial | exact Nat.le_refl _ | skip)
  refine fun _ _ => ⟨(m.it.key, 50), ?_⟩
  ((repeat' apply And.intro) <;> first | with_reducible rfl | omega | (dsimp only; omega) | exact RowsEq.refl _ _ _ | assumption | rfl | trivial | exact Nat.le_refl _ | skip)
  refine fun _ _ => ⟨(m.it.val, 210), ?_⟩
  ((repeat' apply And.intro) <;> first | with_reducible rfl | omega | (dsimp only; omega) | exact RowsEq.refl _ _ _ | assumption | rfl | trivial | exact Nat.le_refl _ | skip)
  refine fun _ _ => ⟨⟨il, ci, 6⟩, ?_⟩
  ((repeat' apply And.intro) <;> first | with_reducible rfl | omega | (dsimp only; omega) | exact RowsEq.refl _ _ _ | assumption | rfl | trivial | exact Nat.le_refl _ | skip)
  refine fun b hb => ⟨⟨(0, 0), ?_⟩, fun x hx => ⟨fun c => ⟨fun d => ?_, fun d => ?_⟩, fun c => ?_⟩⟩
  · have h0 : (cutML ml 0).length = 0 := by simp [cutML]
    ((repeat' apply And.intro) <;> first | with_reducible rfl | omega | (dsimp only; omega) | exact RowsEq.refl _ _ _ | assumption | rfl | trivial | exact Nat.le_refl _ | skip)
  · obtain ⟨i, k⟩ := x
    dsimp only at c d hx ⊢
    obtain ⟨x1, x2, x3⟩ := hx
    have hi : i < ml.length := by omega
    have hl : (cutML ml i).length = i := by simp [cutML]; omega
    have e := cutML_succ hi
    refine ⟨by omega, hi, fun _ => ⟨by omega, hi, ((gl ml i).key, 50), ?_⟩⟩
    ((repeat' apply And.intro) <;> first | with_reducible rfl | omega | (dsimp only; omega) | exact RowsEq.refl _ _ _ | assumption | rfl | trivial | exact Nat.le_refl _ | skip)
    refine fun _ _ => ?_
    ((repeat' apply And.intro) <;> first | with_reducible rfl | omega | (dsimp only; omega) | exact RowsEq.refl _ _ _ | assumption | rfl | trivial | exact Nat.le_refl _ | skip)
    refine fun c' g1 g2 g3 => ⟨by omega, (i + 1, c'), ?_⟩
    dsimp only
    rw [e]
    ((repeat' apply And.intro) <;> first | with_reducible rfl | omega | (dsimp only; omega) | exact RowsEq.refl _ _ _ | assumption | rfl | trivial | exact Nat.le_refl _ | skip)
    · simp
    · simp
    · exact .push rfl (by simp) rfl
    · simpa using g1
  · obtain ⟨i, k⟩ := x
    dsimp only at c d hx ⊢
    obtain ⟨x1, x2, x3⟩ := hx
    have hi : i = 6 := by omega
    subst hi
    refine ⟨fun e1 => ⟨by omega, ⟨fun e2 => ⟨by omega, (b, k), ?_⟩, fun e2 => ⟨(b, k), ?_⟩⟩⟩, fun e1 => ⟨fun e2 => ⟨by omega, (b, k), ?_⟩, fun e2 => ⟨(b, k), ?_⟩⟩⟩
    · ((repeat' apply And.intro) <;> first | with_reducible rfl | omega | (dsimp only; omega) | exact RowsEq.refl _ _ _ | assumption | rfl | trivial | exact Nat.le_refl _ | skip)
    · ((repeat' apply And.intro) <;> first | with_reducible rfl | omega | (dsimp only; omega) | exact RowsEq.refl _ _ _ | assumption | rfl | trivial | exact Nat.le_refl _ | skip)
    · ((repeat' apply And.intro) <;> first | with_reducible rfl | omega | (dsimp only; omega) | exact RowsEq.refl _ _ _ | assumption | rfl | trivial | exact Nat.le_refl _ | skip)
    · ((repeat' apply And.intro) <;> first | with_reducible rfl | omega | (dsimp only; omega) | exact RowsEq.refl _ _ _ | assumption | rfl | trivial | exact Nat.le_refl _ | skip)
  · obtain ⟨i, k⟩ := x
    dsimp only at c hx ⊢
    obtain ⟨x1, x2, x3⟩ := hx
    have hi : i = ml.length := by omega
    subst hi
    have e : cutML ml ml.length = cutML ml 6 := by unfold cutML; rw [List.take_length, List.take_of_length_le (by omega)]
    rw [e] at x3
    rw [e]
    refine ⟨fun e1 => ⟨by omega, ⟨fun e2 => ⟨by omega, (b, k), ?_⟩, fun e2 => ⟨(b, k), ?_⟩⟩⟩, fun e1 => ⟨fun e2 => ⟨by omega, (b, k), ?_⟩, fun e2 => ⟨(b, k), ?_⟩⟩⟩
    · ((repeat' apply And.intro) <;> first | with_reducible rfl | omega | (dsimp only; omega) | exact RowsEq.refl _ _ _ | assumption | rfl | trivial | exact Nat.le_refl _ | skip)
    · ((repeat' apply And.intro) <;> first | with_reducible rfl | omega | (dsimp only; omega) | exact RowsEq.refl _ _ _ | assumption | rfl | trivial | exact Nat.le_refl _ | skip)
    · ((repeat' apply And.intro) <;> first | with_reducible rfl | omega | (dsimp only; omega) | exact RowsEq.refl _ _ _ | assumption | rfl | trivial | exact Nat.le_refl _ | skip)
    · ((repeat' apply And.intro) <;> first | with_reducible rfl | omega | (dsimp only; omega) | exact RowsEq.refl _ _ _ | assumption | rfl | trivial | exact Nat.le_refl _ | skip))
theorem callCutM : CallsBy (Y Try.prog).G.X 10 cCutM := fn_ok okY (tab := tabCutM) ⟨callCut, callItems, trivial⟩ bodyCutM

/-! ### which may be -/

def zeroI : ItemR := ⟨⟨#[]⟩, ⟨#[]⟩, 0, false⟩
structure okMR (a : MsgA) : Prop where
  k : 1 ≤ a.m.k ∧ a.m.k ≤ 14
  f : 0 ≤ a.m.f ∧ a.m.f ≤ 5
  t : 0 ≤ a.m.t ∧ a.m.t ≤ 5
  ft : a.m.f ≠ a.m.t
  ep : 0 ≤ a.m.ep ∧ a.m.ep ≤ 1099511627776
  ti : 0 ≤ a.m.ti ∧ a.m.ti ≤ 1099511627776
  sq : 0 ≤ a.m.sq ∧ a.m.sq ≤ 1099511627776
  id : 0 ≤ a.m.id ∧ a.m.id ≤ 1099511627776
  base : 0 ≤ a.m.base ∧ a.m.base ≤ 1099511627776
  n : 0 ≤ a.m.n ∧ a.m.n ≤ 1073741824
  op : 0 ≤ a.m.op ∧ a.m.op ≤ 2
  key : a.m.key.size ≤ 40
  err : 0 ≤ a.m.err ∧ a.m.err ≤ 10
  it : a.m.it = zeroI ∨ mayI a.m.it = true
  il : a.il.length ≤ 4
  ml : a.ml.length ≤ 4
  nl : a.nl.length = 0 ∨ mayN a.nl = true
  ol : a.ol.length = 0 ∨ mayN a.ol = true
  ia : ∀ i, i < a.il.length → mayI (gl a.il i) = true
  ma : ∀ i, i < a.ml.length → 1 ≤ (gl a.ml i).seq ∧ (gl a.ml i).seq ≤ 1099511627776 ∧ keyB (gl a.ml i).key = true ∧ (0 < i → (gl a.ml (i - 1)).seq < (gl a.ml i).seq)
noncomputable def cMsg : Con where
  α := MsgA
  β := Bool
  m := 4
  m' := 4
  pre := fun a => a.nl.length < 100000 ∧ a.ol.length < 100000
  args := fun a => [.agg (a.atoms 0)]
  hp := fun _ => []
  ro := fun a => a.chs 0
  post := fun a b => b = true ↔ okMR a
  res := fun _ b => .a (.bool b)
  hp' := fun _ _ => []
def iMsg1 (a : MsgA) : An := .flat 6 Nat (fun s i => s.int 3 i) (fun _ i => i ≤ a.il.length ∧ ∀ j, j < i → mayI (gl a.il j) = true) (fun _ i => a.il.length - i)
def iMsg2 (a : MsgA) : An := .flat 11 Nat (fun s i => s.int 4 i) (fun _ i => i ≤ a.ml.length ∧ ∀ j, j < i → 1 ≤ (gl a.ml j).seq ∧ (gl a.ml j).seq ≤ 1099511627776 ∧ keyB (gl a.ml j).key = true ∧ (0 < j → (gl a.ml (j - 1)).seq < (gl a.ml j).seq)) (fun _ i => a.ml.length - i)
structure headM (a : MsgA) : Prop where
  k : 1 ≤ a.m.k ∧ a.m.k ≤ 14
  f : 0 ≤ a.m.f ∧ a.m.f ≤ 5
  t : 0 ≤ a.m.t ∧ a.m.t ≤ 5
  ft : a.m.f ≠ a.m.t
  ep : 0 ≤ a.m.ep ∧ a.m.ep ≤ 1099511627776
  ti : 0 ≤ a.m.ti ∧ a.m.ti ≤ 1099511627776
  sq : 0 ≤ a.m.sq ∧ a.m.sq ≤ 1099511627776
  id : 0 ≤ a.m.id ∧ a.m.id ≤ 1099511627776
  base : 0 ≤ a.m.base ∧ a.m.base ≤ 1099511627776
  n : 0 ≤ a.m.n ∧ a.m.n ≤ 1073741824
  op : 0 ≤ a.m.op ∧ a.m.op ≤ 2
  key : a.m.key.size ≤ 40
  err : 0 ≤ a.m.err ∧ a.m.err ≤ 10
structure listM (a : MsgA) : Prop where
  it : a.m.it = zeroI ∨ mayI a.m.it = true
  il : a.il.length ≤ 4
  ml : a.ml.length ≤ 4
  nl : a.nl.length = 0 ∨ mayN a.nl = true
  ol : a.ol.length = 0 ∨ mayN a.ol = true
theorem okMR_of {a : MsgA} (h : headM a) (l : listM a) (ia : ∀ i, i < a.il.length → mayI (gl a.il i) = true)
    (ma : ∀ i, i < a.ml.length → 1 ≤ (gl a.ml i).seq ∧ (gl a.ml i).seq ≤ 1099511627776 ∧ keyB (gl a.ml i).key = true ∧ (0 < i → (gl a.ml (i - 1)).seq < (gl a.ml i).seq)) : okMR a :=
  ⟨h.k, h.f, h.t, h.ft, h.ep, h.ti, h.sq, h.id, h.base, h.n, h.op, h.key, h.err, l.it, l.il, l.ml, l.nl, l.ol, ia, ma⟩
def eqIB (x y : ItemR) : Bool := decide (x.key = y.key) && (decide (x.val = y.val) && (x.en == y.en && x.gone == y.gone))
theorem eqIB_iff (x y : ItemR) : eqIB x y = true ↔ x = y := by
  cases x; cases y; simp [eqIB]
noncomputable def cEqI : Con where
  α := ItemR × ItemR
  β := Unit
  m := 0
  m' := 0
  pre := fun _ => True
  args := fun x => [.agg (atomsI x.1), .agg (atomsI x.2)]
  hp := fun _ => []
  ro := fun _ => []
  post := fun _ _ => True
  res := fun x _ => .a (.bool (eqIB x.1 x.2))
  hp' := fun _ _ => []
set_option maxHeartbeats 4000000 in
theorem bodyEqI : fnBody (Y Try.prog) [] 24 cEqI fun _ => [] := fnBody.of (p :=
  ∀ (a : ItemR × ItemR), True →
  (Decidable.decide (a.fst.key = a.snd.key) = Bool.true →
  (Decidable.decide (a.fst.val = a.snd.val) = Bool.true →
  InR IntKind.i64 a.fst.en →
  InR IntKind.i64 a.snd.en →
  ((a.fst.en == a.snd.en) = Bool.true →
  ∃ (b : Unit), (a.fst.gone == a.snd.gone) = eqIB a.fst a.snd ∧
  True ∧
  True) ∧
  ((a.fst.en == a.snd.en) = Bool.false →
  ∃ (b : Unit), Bool.false = eqIB a.fst a.snd ∧
  True ∧
  True)) ∧
  (Decidable.decide (a.fst.val = a.snd.val) = Bool.false →
  ∃ (b : Unit), Bool.false = eqIB a.fst a.snd ∧
  True ∧
  True)) ∧
  (Decidable.decide (a.fst.key = a.snd.key) = Bool.false →
  ∃ (b : Unit), Bool.false = eqIB a.fst a.snd ∧
  True ∧
  True)) (by kernel_rfl) (by
  rintro ⟨x, y⟩ _
  dsimp only
  rw [eqIB]
  refine ⟨fun c1 => ⟨fun c2 _ _ => ⟨fun c3 => ⟨(), ?_, trivial, trivial⟩, fun c3 => ⟨(), ?_, trivial, trivial⟩⟩, fun c2 => ⟨(), ?_, trivial, trivial⟩⟩, fun c1 => ⟨(), ?_, trivial, trivial⟩⟩
  · rw [c1, c2, c3]; simp
  · rw [c3]; simp
  · rw [c2]; simp
  · rw [c1]; simp)
theorem callEqI : CallsBy (Y Try.prog).G.X 24 cEqI := fn_ok okY (tab := []) trivial bodyEqI
def cutMsg1 (a : MsgA) : An := .mk 3 Unit (fun s _ => s) (fun _ _ => headM a) (fun _ _ => 0) fun _ => .mk 60 [] [.mk 5 Unit (fun s _ => s) (fun _ _ => listM a) (fun _ _ => 0) fun _ => .mk 60 [iMsg1 a] [.mk 10 Unit (fun s _ => s) (fun _ _ => ∀ i, i < a.il.length → mayI (gl a.il i) = true) (fun _ _ => 0) fun _ => .mk 60 [iMsg2 a] []]]
noncomputable def tabMsg : List (Nat × Con) := [(24, cEqI), (25, cMayI), (27, cKey), (26, cMay)]
set_option maxHeartbeats 4000000 in
theorem bodyMsg : fnBody (Y Try.prog) tabMsg 11 cMsg fun a => [(11, [], [cutMsg1 a])] := fnBody.of (p :=
  ∀ (a : MsgA), a.nl.length < (100000 : Nat) ∧
  a.ol.length < (100000 : Nat) →
  (InR IntKind.i64 a.m.k →
  (Decidable.decide (a.m.k < (1 : Int)) = Bool.true →
  ∃ (b : Bool), Bool.false = b ∧
  (b = Bool.true ↔ okMR a) ∧
  True) ∧
  (Decidable.decide (a.m.k < (1 : Int)) = Bool.false →
  InR IntKind.i64 a.m.k →
  (Decidable.decide ((14 : Int) < a.m.k) = Bool.true →
  ∃ (b : Bool), Bool.false = b ∧
  (b = Bool.true ↔ okMR a) ∧
  True) ∧
  (Decidable.decide ((14 : Int) < a.m.k) = Bool.false →
  InR IntKind.i64 a.m.f →
  (Decidable.decide (a.m.f < (0 : Int)) = Bool.true →
  ∃ (b : Bool), Bool.false = b ∧
  (b = Bool.true ↔ okMR a) ∧
  True) ∧
  (Decidable.decide (a.m.f < (0 : Int)) = Bool.false →
  InR IntKind.i64 a.m.f →
  (Decidable.decide ((5 : Int) < a.m.f) = Bool.true →
  ∃ (b : Bool), Bool.false = b ∧
  (b = Bool.true ↔ okMR a) ∧
  True) ∧
  (Decidable.decide ((5 : Int) < a.m.f) = Bool.false →
  InR IntKind.i64 a.m.t →
  (Decidable.decide (a.m.t < (0 : Int)) = Bool.true →
  ∃ (b : Bool), Bool.false = b ∧
  (b = Bool.true ↔ okMR a) ∧
  True) ∧
  (Decidable.decide (a.m.t < (0 : Int)) = Bool.false →
  InR IntKind.i64 a.m.t →
  (Decidable.decide ((5 : Int) < a.m.t) = Bool.true →
  ∃ (b : Bool), Bool.false = b ∧
  (b = Bool.true ↔ okMR a) ∧
  True) ∧
  (Decidable.decide ((5 : Int) < a.m.t) = Bool.false →
  InR IntKind.i64 a.m.f →
  InR IntKind.i64 a.m.t →
  ((a.m.f == a.m.t) = Bool.true →
  ∃ (b : Bool), Bool.false = b ∧
  (b = Bool.true ↔ okMR a) ∧
  True) ∧
  ((a.m.f == a.m.t) = Bool.false →
  InR IntKind.i64 a.m.ep →
  (Decidable.decide ((0 : Int) ≤ a.m.ep) = Bool.true →
  ((!Decidable.decide (a.m.ep ≤ (1099511627776 : Int))) = Bool.true →
  ∃ (b : Bool), Bool.false = b ∧
  (b = Bool.true ↔ okMR a) ∧
  True) ∧
  ((!Decidable.decide (a.m.ep ≤ (1099511627776 : Int))) = Bool.false →
  InR IntKind.i64 a.m.ti →
  (Decidable.decide ((0 : Int) ≤ a.m.ti) = Bool.true →
  ((!Decidable.decide (a.m.ti ≤ (1099511627776 : Int))) = Bool.true →
  ∃ (b : Bool), Bool.false = b ∧
  (b = Bool.true ↔ okMR a) ∧
  True) ∧
  ((!Decidable.decide (a.m.ti ≤ (1099511627776 : Int))) = Bool.false →
  InR IntKind.i64 a.m.sq →
  (Decidable.decide ((0 : Int) ≤ a.m.sq) = Bool.true →
  ((!Decidable.decide (a.m.sq ≤ (1099511627776 : Int))) = Bool.true →
  ∃ (b : Bool), Bool.false = b ∧
  (b = Bool.true ↔ okMR a) ∧
  True) ∧
  ((!Decidable.decide (a.m.sq ≤ (1099511627776 : Int))) = Bool.false →
  InR IntKind.i64 a.m.id →
  (Decidable.decide ((0 : Int) ≤ a.m.id) = Bool.true →
  ((!Decidable.decide (a.m.id ≤ (1099511627776 : Int))) = Bool.true →
  ∃ (b : Bool), Bool.false = b ∧
  (b = Bool.true ↔ okMR a) ∧
  True) ∧
  ((!Decidable.decide (a.m.id ≤ (1099511627776 : Int))) = Bool.false →
  InR IntKind.i64 a.m.base →
  (Decidable.decide ((0 : Int) ≤ a.m.base) = Bool.true →
  ((!Decidable.decide (a.m.base ≤ (1099511627776 : Int))) = Bool.true →
  ∃ (b : Bool), Bool.false = b ∧
  (b = Bool.true ↔ okMR a) ∧
  True) ∧
  ((!Decidable.decide (a.m.base ≤ (1099511627776 : Int))) = Bool.false →
  InR IntKind.i64 a.m.n →
  (Decidable.decide (a.m.n < (0 : Int)) = Bool.true →
  ∃ (b : Bool), Bool.false = b ∧
  (b = Bool.true ↔ okMR a) ∧
  True) ∧
  (Decidable.decide (a.m.n < (0 : Int)) = Bool.false →
  InR IntKind.i64 a.m.n →
  (Decidable.decide ((1073741824 : Int) < a.m.n) = Bool.true →
  ∃ (b : Bool), Bool.false = b ∧
  (b = Bool.true ↔ okMR a) ∧
  True) ∧
  (Decidable.decide ((1073741824 : Int) < a.m.n) = Bool.false →
  InR IntKind.i64 a.m.op →
  (Decidable.decide (a.m.op < (0 : Int)) = Bool.true →
  ∃ (b : Bool), Bool.false = b ∧
  (b = Bool.true ↔ okMR a) ∧
  True) ∧
  (Decidable.decide (a.m.op < (0 : Int)) = Bool.false →
  InR IntKind.i64 a.m.op →
  (Decidable.decide ((2 : Int) < a.m.op) = Bool.true →
  ∃ (b : Bool), Bool.false = b ∧
  (b = Bool.true ↔ okMR a) ∧
  True) ∧
  (Decidable.decide ((2 : Int) < a.m.op) = Bool.false →
  (Decidable.decide ((40 : Int) < (↑a.m.key.size : Int)) = Bool.true →
  ∃ (b : Bool), Bool.false = b ∧
  (b = Bool.true ↔ okMR a) ∧
  True) ∧
  (Decidable.decide ((40 : Int) < (↑a.m.key.size : Int)) = Bool.false →
  InR IntKind.i64 a.m.err →
  (Decidable.decide (a.m.err < (0 : Int)) = Bool.true →
  ∃ (b : Bool), Bool.false = b ∧
  (b = Bool.true ↔ okMR a) ∧
  True) ∧
  (Decidable.decide (a.m.err < (0 : Int)) = Bool.false →
  InR IntKind.i64 a.m.err →
  (Decidable.decide ((10 : Int) < a.m.err) = Bool.true →
  ∃ (b : Bool), Bool.false = b ∧
  (b = Bool.true ↔ okMR a) ∧
  True) ∧
  (Decidable.decide ((10 : Int) < a.m.err) = Bool.false →
  ∃ (a_45 : Unit), Bool.false = Bool.false ∧
  (0 : Nat) = (0 : Nat) ∧
  a.m.k = a.m.k ∧
  a.m.f = a.m.f ∧
  a.m.t = a.m.t ∧
  a.m.ep = a.m.ep ∧
  a.m.ti = a.m.ti ∧
  a.m.sq = a.m.sq ∧
  a.m.n = a.m.n ∧
  a.m.id = a.m.id ∧
  a.m.op = a.m.op ∧
  a.m.key = a.m.key ∧
  a.m.err = a.m.err ∧
  a.m.last = a.m.last ∧
  a.m.it.key = a.m.it.key ∧
  a.m.it.val = a.m.it.val ∧
  a.m.it.en = a.m.it.en ∧
  a.m.it.gone = a.m.it.gone ∧
  ((0 : Nat) = (0 : Nat) ∧
  a.il.length = a.il.length ∧
  a.ci = a.ci) ∧
  ((0 : Nat) = (0 : Nat) ∧
  a.ml.length = a.ml.length ∧
  a.cm = a.cm) ∧
  ((0 : Nat) = (0 : Nat) ∧
  a.nl.length = a.nl.length ∧
  a.cn = a.cn) ∧
  a.m.base = a.m.base ∧
  ((0 : Nat) = (0 : Nat) ∧
  a.ol.length = a.ol.length ∧
  a.co = a.co) ∧
  a.m.k = a.m.k ∧
  a.m.f = a.m.f ∧
  a.m.t = a.m.t ∧
  a.m.ep = a.m.ep ∧
  a.m.ti = a.m.ti ∧
  a.m.sq = a.m.sq ∧
  a.m.n = a.m.n ∧
  a.m.id = a.m.id ∧
  a.m.op = a.m.op ∧
  a.m.key = a.m.key ∧
  a.m.err = a.m.err ∧
  a.m.last = a.m.last ∧
  a.m.it.key = a.m.it.key ∧
  a.m.it.val = a.m.it.val ∧
  a.m.it.en = a.m.it.en ∧
  a.m.it.gone = a.m.it.gone ∧
  ((0 : Nat) = (0 : Nat) ∧
  a.il.length = a.il.length ∧
  a.ci = a.ci) ∧
  ((0 : Nat) = (0 : Nat) ∧
  a.ml.length = a.ml.length ∧
  a.cm = a.cm) ∧
  ((0 : Nat) = (0 : Nat) ∧
  a.nl.length = a.nl.length ∧
  a.cn = a.cn) ∧
  a.m.base = a.m.base ∧
  ((0 : Nat) = (0 : Nat) ∧
  a.ol.length = a.ol.length ∧
  a.co = a.co) ∧
  (a.il.length ≤ a.il.length ∧
  RowsEq a.il.length (4 : Nat) (encRows encItem a.il) (encRows encItem a.il)) ∧
  (a.ml.length ≤ a.ml.length ∧
  RowsEq a.ml.length (2 : Nat) (encRows encMark a.ml) (encRows encMark a.ml)) ∧
  (a.nl.length ≤ a.nl.length ∧
  RowsEq a.nl.length (1 : Nat) (encRows encI a.nl) (encRows encI a.nl)) ∧
  (a.ol.length ≤ a.ol.length ∧
  RowsEq a.ol.length (1 : Nat) (encRows encI a.ol) (encRows encI a.ol)) ∧
  headM a ∧
  True))))))))) ∧
  (Decidable.decide ((0 : Int) ≤ a.m.base) = Bool.false →
  ∃ (b : Bool), Bool.false = b ∧
  (b = Bool.true ↔ okMR a) ∧
  True))) ∧
  (Decidable.decide ((0 : Int) ≤ a.m.id) = Bool.false →
  ∃ (b : Bool), Bool.false = b ∧
  (b = Bool.true ↔ okMR a) ∧
  True))) ∧
  (Decidable.decide ((0 : Int) ≤ a.m.sq) = Bool.false →
  ∃ (b : Bool), Bool.false = b ∧
  (b = Bool.true ↔ okMR a) ∧
  True))) ∧
  (Decidable.decide ((0 : Int) ≤ a.m.ti) = Bool.false →
  ∃ (b : Bool), Bool.false = b ∧
  (b = Bool.true ↔ okMR a) ∧
  True))) ∧
  (Decidable.decide ((0 : Int) ≤ a.m.ep) = Bool.false →
  ∃ (b : Bool), Bool.false = b ∧
  (b = Bool.true ↔ okMR a) ∧
  True))))))))) ∧
  ∀ (a_2 : Unit), headM a →
  (∃ (a_4 : ItemR × ItemR), a.m.it.key = a_4.fst.key ∧
  a.m.it.val = a_4.fst.val ∧
  a.m.it.en = a_4.fst.en ∧
  a.m.it.gone = a_4.fst.gone ∧
  (ByteArray.mk #[]) = a_4.snd.key ∧
  (ByteArray.mk #[]) = a_4.snd.val ∧
  (0 : Int) = a_4.snd.en ∧
  Bool.false = a_4.snd.gone ∧
  True ∧
  ∀ (b : Unit), True →
  ((!eqIB a_4.fst a_4.snd) = Bool.true →
  ∃ (a_7 : ItemR), a.m.it.key = a_7.key ∧
  a.m.it.val = a_7.val ∧
  a.m.it.en = a_7.en ∧
  a.m.it.gone = a_7.gone ∧
  True ∧
  ∀ (b : Unit), True →
  ((!mayI a_7) = Bool.true →
  ∃ (b : Bool), Bool.false = b ∧
  (b = Bool.true ↔ okMR a) ∧
  True) ∧
  ((!mayI a_7) = Bool.false →
  (Decidable.decide ((4 : Int) < (↑a.il.length : Int)) = Bool.true →
  ∃ (b : Bool), Bool.false = b ∧
  (b = Bool.true ↔ okMR a) ∧
  True) ∧
  (Decidable.decide ((4 : Int) < (↑a.il.length : Int)) = Bool.false →
  (Decidable.decide ((4 : Int) < (↑a.ml.length : Int)) = Bool.true →
  ∃ (b : Bool), Bool.false = b ∧
  (b = Bool.true ↔ okMR a) ∧
  True) ∧
  (Decidable.decide ((4 : Int) < (↑a.ml.length : Int)) = Bool.false →
  (Decidable.decide ((0 : Int) < (↑a.nl.length : Int)) = Bool.true →
  ∃ (a_13 : NodesA), ((0 : Nat) = (0 : Nat) ∧
  a.nl.length = a_13.l.length ∧
  a.cn = a_13.cap) ∧
  (a_13.l.length ≤ a.nl.length ∧
  RowsEq a_13.l.length (1 : Nat) (encRows encI a.nl) (encRows encI a_13.l)) ∧
  a_13.l.length < (100000 : Nat) ∧
  ∀ (b : Unit), True →
  ((!mayN a_13.l) = Bool.true →
  ∃ (b : Bool), Bool.false = b ∧
  (b = Bool.true ↔ okMR a) ∧
  True) ∧
  ((!mayN a_13.l) = Bool.false →
  (Decidable.decide ((0 : Int) < (↑a.ol.length : Int)) = Bool.true →
  ∃ (a_17 : NodesA), ((0 : Nat) = (0 : Nat) ∧
  a.ol.length = a_17.l.length ∧
  a.co = a_17.cap) ∧
  (a_17.l.length ≤ a.ol.length ∧
  RowsEq a_17.l.length (1 : Nat) (encRows encI a.ol) (encRows encI a_17.l)) ∧
  a_17.l.length < (100000 : Nat) ∧
  ∀ (b : Unit), True →
  ((!mayN a_17.l) = Bool.true →
  ∃ (b : Bool), Bool.false = b ∧
  (b = Bool.true ↔ okMR a) ∧
  True) ∧
  ((!mayN a_17.l) = Bool.false →
  ∃ (a_20 : Unit), Bool.false = Bool.false ∧
  (0 : Nat) = (0 : Nat) ∧
  a.m.k = a.m.k ∧
  a.m.f = a.m.f ∧
  a.m.t = a.m.t ∧
  a.m.ep = a.m.ep ∧
  a.m.ti = a.m.ti ∧
  a.m.sq = a.m.sq ∧
  a.m.n = a.m.n ∧
  a.m.id = a.m.id ∧
  a.m.op = a.m.op ∧
  a.m.key = a.m.key ∧
  a.m.err = a.m.err ∧
  a.m.last = a.m.last ∧
  a.m.it.key = a.m.it.key ∧
  a.m.it.val = a.m.it.val ∧
  a.m.it.en = a.m.it.en ∧
  a.m.it.gone = a.m.it.gone ∧
  ((0 : Nat) = (0 : Nat) ∧
  a.il.length = a.il.length ∧
  a.ci = a.ci) ∧
  ((0 : Nat) = (0 : Nat) ∧
  a.ml.length = a.ml.length ∧
  a.cm = a.cm) ∧
  ((0 : Nat) = (0 : Nat) ∧
  a.nl.length = a.nl.length ∧
  a.cn = a.cn) ∧
  a.m.base = a.m.base ∧
  ((0 : Nat) = (0 : Nat) ∧
  a.ol.length = a.ol.length ∧
  a.co = a.co) ∧
  a.m.k = a.m.k ∧
  a.m.f = a.m.f ∧
  a.m.t = a.m.t ∧
  a.m.ep = a.m.ep ∧
  a.m.ti = a.m.ti ∧
  a.m.sq = a.m.sq ∧
  a.m.n = a.m.n ∧
  a.m.id = a.m.id ∧
  a.m.op = a.m.op ∧
  a.m.key = a.m.key ∧
  a.m.err = a.m.err ∧
  a.m.last = a.m.last ∧
  a.m.it.key = a.m.it.key ∧
  a.m.it.val = a.m.it.val ∧
  a.m.it.en = a.m.it.en ∧
  a.m.it.gone = a.m.it.gone ∧
  ((0 : Nat) = (0 : Nat) ∧
  a.il.length = a.il.length ∧
  a.ci = a.ci) ∧
  ((0 : Nat) = (0 : Nat) ∧
  a.ml.length = a.ml.length ∧
  a.cm = a.cm) ∧
  ((0 : Nat) = (0 : Nat) ∧
  a.nl.length = a.nl.length ∧
  a.cn = a.cn) ∧
  a.m.base = a.m.base ∧
  ((0 : Nat) = (0 : Nat) ∧
  a.ol.length = a.ol.length ∧
  a.co = a.co) ∧
  (a.il.length ≤ a.il.length ∧
  RowsEq a.il.length (4 : Nat) (encRows encItem a.il) (encRows encItem a.il)) ∧
  (a.ml.length ≤ a.ml.length ∧
  RowsEq a.ml.length (2 : Nat) (encRows encMark a.ml) (encRows encMark a.ml)) ∧
  (a.nl.length ≤ a.nl.length ∧
  RowsEq a.nl.length (1 : Nat) (encRows encI a.nl) (encRows encI a.nl)) ∧
  (a.ol.length ≤ a.ol.length ∧
  RowsEq a.ol.length (1 : Nat) (encRows encI a.ol) (encRows encI a.ol)) ∧
  listM a ∧
  True)) ∧
  (Decidable.decide ((0 : Int) < (↑a.ol.length : Int)) = Bool.false →
  ∃ (a_17 : Unit), Bool.false = Bool.false ∧
  (0 : Nat) = (0 : Nat) ∧
  a.m.k = a.m.k ∧
  a.m.f = a.m.f ∧
  a.m.t = a.m.t ∧
  a.m.ep = a.m.ep ∧
  a.m.ti = a.m.ti ∧
  a.m.sq = a.m.sq ∧
  a.m.n = a.m.n ∧
  a.m.id = a.m.id ∧
  a.m.op = a.m.op ∧
  a.m.key = a.m.key ∧
  a.m.err = a.m.err ∧
  a.m.last = a.m.last ∧
  a.m.it.key = a.m.it.key ∧
  a.m.it.val = a.m.it.val ∧
  a.m.it.en = a.m.it.en ∧
  a.m.it.gone = a.m.it.gone ∧
  ((0 : Nat) = (0 : Nat) ∧
  a.il.length = a.il.length ∧
  a.ci = a.ci) ∧
  ((0 : Nat) = (0 : Nat) ∧
  a.ml.length = a.ml.length ∧
  a.cm = a.cm) ∧
  ((0 : Nat) = (0 : Nat) ∧
  a.nl.length = a.nl.length ∧
  a.cn = a.cn) ∧
  a.m.base = a.m.base ∧
  ((0 : Nat) = (0 : Nat) ∧
  a.ol.length = a.ol.length ∧
  a.co = a.co) ∧
  a.m.k = a.m.k ∧
  a.m.f = a.m.f ∧
  a.m.t = a.m.t ∧
  a.m.ep = a.m.ep ∧
  a.m.ti = a.m.ti ∧
  a.m.sq = a.m.sq ∧
  a.m.n = a.m.n ∧
  a.m.id = a.m.id ∧
  a.m.op = a.m.op ∧
  a.m.key = a.m.key ∧
  a.m.err = a.m.err ∧
  a.m.last = a.m.last ∧
  a.m.it.key = a.m.it.key ∧
  a.m.it.val = a.m.it.val ∧
  a.m.it.en = a.m.it.en ∧
  a.m.it.gone = a.m.it.gone ∧
  ((0 : Nat) = (0 : Nat) ∧
  a.il.length = a.il.length ∧
  a.ci = a.ci) ∧
  ((0 : Nat) = (0 : Nat) ∧
  a.ml.length = a.ml.length ∧
  a.cm = a.cm) ∧
  ((0 : Nat) = (0 : Nat) ∧
  a.nl.length = a.nl.length ∧
  a.cn = a.cn) ∧
  a.m.base = a.m.base ∧
  ((0 : Nat) = (0 : Nat) ∧
  a.ol.length = a.ol.length ∧
  a.co = a.co) ∧
  (a.il.length ≤ a.il.length ∧
  RowsEq a.il.length (4 : Nat) (encRows encItem a.il) (encRows encItem a.il)) ∧
  (a.ml.length ≤ a.ml.length ∧
  RowsEq a.ml.length (2 : Nat) (encRows encMark a.ml) (encRows encMark a.ml)) ∧
  (a.nl.length ≤ a.nl.length ∧
  RowsEq a.nl.length (1 : Nat) (encRows encI a.nl) (encRows encI a.nl)) ∧
  (a.ol.length ≤ a.ol.length ∧
  RowsEq a.ol.length (1 : Nat) (encRows encI a.ol) (encRows encI a.ol)) ∧
  listM a ∧
  True))) ∧
  (Decidable.decide ((0 : Int) < (↑a.nl.length : Int)) = Bool.false →
  (Decidable.decide ((0 : Int) < (↑a.ol.length : Int)) = Bool.true →
  ∃ (a_14 : NodesA), ((0 : Nat) = (0 : Nat) ∧
  a.ol.length = a_14.l.length ∧
  a.co = a_14.cap) ∧
  (a_14.l.length ≤ a.ol.length ∧
  RowsEq a_14.l.length (1 : Nat) (encRows encI a.ol) (encRows encI a_14.l)) ∧
  a_14.l.length < (100000 : Nat) ∧
  ∀ (b : Unit), True →
  ((!mayN a_14.l) = Bool.true →
  ∃ (b : Bool), Bool.false = b ∧
  (b = Bool.true ↔ okMR a) ∧
  True) ∧
  ((!mayN a_14.l) = Bool.false →
  ∃ (a_17 : Unit), Bool.false = Bool.false ∧
  (0 : Nat) = (0 : Nat) ∧
  a.m.k = a.m.k ∧
  a.m.f = a.m.f ∧
  a.m.t = a.m.t ∧
  a.m.ep = a.m.ep ∧
  a.m.ti = a.m.ti ∧
  a.m.sq = a.m.sq ∧
  a.m.n = a.m.n ∧
  a.m.id = a.m.id ∧
  a.m.op = a.m.op ∧
  a.m.key = a.m.key ∧
  a.m.err = a.m.err ∧
  a.m.last = a.m.last ∧
  a.m.it.key = a.m.it.key ∧
  a.m.it.val = a.m.it.val ∧
  a.m.it.en = a.m.it.en ∧
  a.m.it.gone = a.m.it.gone ∧
  ((0 : Nat) = (0 : Nat) ∧
  a.il.length = a.il.length ∧
  a.ci = a.ci) ∧
  ((0 : Nat) = (0 : Nat) ∧
  a.ml.length = a.ml.length ∧
  a.cm = a.cm) ∧
  ((0 : Nat) = (0 : Nat) ∧
  a.nl.length = a.nl.length ∧
  a.cn = a.cn) ∧
  a.m.base = a.m.base ∧
  ((0 : Nat) = (0 : Nat) ∧
  a.ol.length = a.ol.length ∧
  a.co = a.co) ∧
  a.m.k = a.m.k ∧
  a.m.f = a.m.f ∧
  a.m.t = a.m.t ∧
  a.m.ep = a.m.ep ∧
  a.m.ti = a.m.ti ∧
  a.m.sq = a.m.sq ∧
  a.m.n = a.m.n ∧
  a.m.id = a.m.id ∧
  a.m.op = a.m.op ∧
  a.m.key = a.m.key ∧
  a.m.err = a.m.err ∧
  a.m.last = a.m.last ∧
  a.m.it.key = a.m.it.key ∧
  a.m.it.val = a.m.it.val ∧
  a.m.it.en = a.m.it.en ∧
  a.m.it.gone = a.m.it.gone ∧
  ((0 : Nat) = (0 : Nat) ∧
  a.il.length = a.il.length ∧
  a.ci = a.ci) ∧
  ((0 : Nat) = (0 : Nat) ∧
  a.ml.length = a.ml.length ∧
  a.cm = a.cm) ∧
  ((0 : Nat) = (0 : Nat) ∧
  a.nl.length = a.nl.length ∧
  a.cn = a.cn) ∧
  a.m.base = a.m.base ∧
  ((0 : Nat) = (0 : Nat) ∧
  a.ol.length = a.ol.length ∧
  a.co = a.co) ∧
  (a.il.length ≤ a.il.length ∧
  RowsEq a.il.length (4 : Nat) (encRows encItem a.il) (encRows encItem a.il)) ∧
  (a.ml.length ≤ a.ml.length ∧
  RowsEq a.ml.length (2 : Nat) (encRows encMark a.ml) (encRows encMark a.ml)) ∧
  (a.nl.length ≤ a.nl.length ∧
  RowsEq a.nl.length (1 : Nat) (encRows encI a.nl) (encRows encI a.nl)) ∧
  (a.ol.length ≤ a.ol.length ∧
  RowsEq a.ol.length (1 : Nat) (encRows encI a.ol) (encRows encI a.ol)) ∧
  listM a ∧
  True)) ∧
  (Decidable.decide ((0 : Int) < (↑a.ol.length : Int)) = Bool.false →
  ∃ (a_14 : Unit), Bool.false = Bool.false ∧
  (0 : Nat) = (0 : Nat) ∧
  a.m.k = a.m.k ∧
  a.m.f = a.m.f ∧
  a.m.t = a.m.t ∧
  a.m.ep = a.m.ep ∧
  a.m.ti = a.m.ti ∧
  a.m.sq = a.m.sq ∧
  a.m.n = a.m.n ∧
  a.m.id = a.m.id ∧
  a.m.op = a.m.op ∧
  a.m.key = a.m.key ∧
  a.m.err = a.m.err ∧
  a.m.last = a.m.last ∧
  a.m.it.key = a.m.it.key ∧
  a.m.it.val = a.m.it.val ∧
  a.m.it.en = a.m.it.en ∧
  a.m.it.gone = a.m.it.gone ∧
  ((0 : Nat) = (0 : Nat) ∧
  a.il.length = a.il.length ∧
  a.ci = a.ci) ∧
  ((0 : Nat) = (0 : Nat) ∧
  a.ml.length = a.ml.length ∧
  a.cm = a.cm) ∧
  ((0 : Nat) = (0 : Nat) ∧
  a.nl.length = a.nl.length ∧
  a.cn = a.cn) ∧
  a.m.base = a.m.base ∧
  ((0 : Nat) = (0 : Nat) ∧
  a.ol.length = a.ol.length ∧
  a.co = a.co) ∧
  a.m.k = a.m.k ∧
  a.m.f = a.m.f ∧
  a.m.t = a.m.t ∧
  a.m.ep = a.m.ep ∧
  a.m.ti = a.m.ti ∧
  a.m.sq = a.m.sq ∧
  a.m.n = a.m.n ∧
  a.m.id = a.m.id ∧
  a.m.op = a.m.op ∧
  a.m.key = a.m.key ∧
  a.m.err = a.m.err ∧
  a.m.last = a.m.last ∧
  a.m.it.key = a.m.it.key ∧
  a.m.it.val = a.m.it.val ∧
  a.m.it.en = a.m.it.en ∧
  a.m.it.gone = a.m.it.gone ∧
  ((0 : Nat) = (0 : Nat) ∧
  a.il.length = a.il.length ∧
  a.ci = a.ci) ∧
  ((0 : Nat) = (0 : Nat) ∧
  a.ml.length = a.ml.length ∧
  a.cm = a.cm) ∧
  ((0 : Nat) = (0 : Nat) ∧
  a.nl.length = a.nl.length ∧
  a.cn = a.cn) ∧
  a.m.base = a.m.base ∧
  ((0 : Nat) = (0 : Nat) ∧
  a.ol.length = a.ol.length ∧
  a.co = a.co) ∧
  (a.il.length ≤ a.il.length ∧
  RowsEq a.il.length (4 : Nat) (encRows encItem a.il) (encRows encItem a.il)) ∧
  (a.ml.length ≤ a.ml.length ∧
  RowsEq a.ml.length (2 : Nat) (encRows encMark a.ml) (encRows encMark a.ml)) ∧
  (a.nl.length ≤ a.nl.length ∧
  RowsEq a.nl.length (1 : Nat) (encRows encI a.nl) (encRows encI a.nl)) ∧
  (a.ol.length ≤ a.ol.length ∧
  RowsEq a.ol.length (1 : Nat) (encRows encI a.ol) (encRows encI a.ol)) ∧
  listM a ∧
  True)))))) ∧
  ((!eqIB a_4.fst a_4.snd) = Bool.false →
  (Decidable.decide ((4 : Int) < (↑a.il.length : Int)) = Bool.true →
  ∃ (b : Bool), Bool.false = b ∧
  (b = Bool.true ↔ okMR a) ∧
  True) ∧
  (Decidable.decide ((4 : Int) < (↑a.il.length : Int)) = Bool.false →
  (Decidable.decide ((4 : Int) < (↑a.ml.length : Int)) = Bool.true →
  ∃ (b : Bool), Bool.false = b ∧
  (b = Bool.true ↔ okMR a) ∧
  True) ∧
  (Decidable.decide ((4 : Int) < (↑a.ml.length : Int)) = Bool.false →
  (Decidable.decide ((0 : Int) < (↑a.nl.length : Int)) = Bool.true →
  ∃ (a_10 : NodesA), ((0 : Nat) = (0 : Nat) ∧
  a.nl.length = a_10.l.length ∧
  a.cn = a_10.cap) ∧
  (a_10.l.length ≤ a.nl.length ∧
  RowsEq a_10.l.length (1 : Nat) (encRows encI a.nl) (encRows encI a_10.l)) ∧
  a_10.l.length < (100000 : Nat) ∧
  ∀ (b : Unit), True →
  ((!mayN a_10.l) = Bool.true →
  ∃ (b : Bool), Bool.false = b ∧
  (b = Bool.true ↔ okMR a) ∧
  True) ∧
  ((!mayN a_10.l) = Bool.false →
  (Decidable.decide ((0 : Int) < (↑a.ol.length : Int)) = Bool.true →
  ∃ (a_14 : NodesA), ((0 : Nat) = (0 : Nat) ∧
  a.ol.length = a_14.l.length ∧
  a.co = a_14.cap) ∧
  (a_14.l.length ≤ a.ol.length ∧
  RowsEq a_14.l.length (1 : Nat) (encRows encI a.ol) (encRows encI a_14.l)) ∧
  a_14.l.length < (100000 : Nat) ∧
  ∀ (b : Unit), True →
  ((!mayN a_14.l) = Bool.true →
  ∃ (b : Bool), Bool.false = b ∧
  (b = Bool.true ↔ okMR a) ∧
  True) ∧
  ((!mayN a_14.l) = Bool.false →
  ∃ (a_17 : Unit), Bool.false = Bool.false ∧
  (0 : Nat) = (0 : Nat) ∧
  a.m.k = a.m.k ∧
  a.m.f = a.m.f ∧
  a.m.t = a.m.t ∧
  a.m.ep = a.m.ep ∧
  a.m.ti = a.m.ti ∧
  a.m.sq = a.m.sq ∧
  a.m.n = a.m.n ∧
  a.m.id = a.m.id ∧
  a.m.op = a.m.op ∧
  a.m.key = a.m.key ∧
  a.m.err = a.m.err ∧
  a.m.last = a.m.last ∧
  a.m.it.key = a.m.it.key ∧
  a.m.it.val = a.m.it.val ∧
  a.m.it.en = a.m.it.en ∧
  a.m.it.gone = a.m.it.gone ∧
  ((0 : Nat) = (0 : Nat) ∧
  a.il.length = a.il.length ∧
  a.ci = a.ci) ∧
  ((0 : Nat) = (0 : Nat) ∧
  a.ml.length = a.ml.length ∧
  a.cm = a.cm) ∧
  ((0 : Nat) = (0 : Nat) ∧
  a.nl.length = a.nl.length ∧
  a.cn = a.cn) ∧
  a.m.base = a.m.base ∧
  ((0 : Nat) = (0 : Nat) ∧
  a.ol.length = a.ol.length ∧
  a.co = a.co) ∧
  a.m.k = a.m.k ∧
  a.m.f = a.m.f ∧
  a.m.t = a.m.t ∧
  a.m.ep = a.m.ep ∧
  a.m.ti = a.m.ti ∧
  a.m.sq = a.m.sq ∧
  a.m.n = a.m.n ∧
  a.m.id = a.m.id ∧
  a.m.op = a.m.op ∧
  a.m.key = a.m.key ∧
  a.m.err = a.m.err ∧
  a.m.last = a.m.last ∧
  a.m.it.key = a.m.it.key ∧
  a.m.it.val = a.m.it.val ∧
  a.m.it.en = a.m.it.en ∧
  a.m.it.gone = a.m.it.gone ∧
  ((0 : Nat) = (0 : Nat) ∧
  a.il.length = a.il.length ∧
  a.ci = a.ci) ∧
  ((0 : Nat) = (0 : Nat) ∧
  a.ml.length = a.ml.length ∧
  a.cm = a.cm) ∧
  ((0 : Nat) = (0 : Nat) ∧
  a.nl.length = a.nl.length ∧
  a.cn = a.cn) ∧
  a.m.base = a.m.base ∧
  ((0 : Nat) = (0 : Nat) ∧
  a.ol.length = a.ol.length ∧
  a.co = a.co) ∧
  (a.il.length ≤ a.il.length ∧
  RowsEq a.il.length (4 : Nat) (encRows encItem a.il) (encRows encItem a.il)) ∧
  (a.ml.length ≤ a.ml.length ∧
  RowsEq a.ml.length (2 : Nat) (encRows encMark a.ml) (encRows encMark a.ml)) ∧
  (a.nl.length ≤ a.nl.length ∧
  RowsEq a.nl.length (1 : Nat) (encRows encI a.nl) (encRows encI a.nl)) ∧
  (a.ol.length ≤ a.ol.length ∧
  RowsEq a.ol.length (1 : Nat) (encRows encI a.ol) (encRows encI a.ol)) ∧
  listM a ∧
  True)) ∧
  (Decidable.decide ((0 : Int) < (↑a.ol.length : Int)) = Bool.false →
  ∃ (a_14 : Unit), Bool.false = Bool.false ∧
  (0 : Nat) = (0 : Nat) ∧
  a.m.k = a.m.k ∧
  a.m.f = a.m.f ∧
  a.m.t = a.m.t ∧
  a.m.ep = a.m.ep ∧
  a.m.ti = a.m.ti ∧
  a.m.sq = a.m.sq ∧
  a.m.n = a.m.n ∧
  a.m.id = a.m.id ∧
  a.m.op = a.m.op ∧
  a.m.key = a.m.key ∧
  a.m.err = a.m.err ∧
  a.m.last = a.m.last ∧
  a.m.it.key = a.m.it.key ∧
  a.m.it.val = a.m.it.val ∧
  a.m.it.en = a.m.it.en ∧
  a.m.it.gone = a.m.it.gone ∧
  ((0 : Nat) = (0 : Nat) ∧
  a.il.length = a.il.length ∧
  a.ci = a.ci) ∧
  ((0 : Nat) = (0 : Nat) ∧
  a.ml.length = a.ml.length ∧
  a.cm = a.cm) ∧
  ((0 : Nat) = (0 : Nat) ∧
  a.nl.length = a.nl.length ∧
  a.cn = a.cn) ∧
  a.m.base = a.m.base ∧
  ((0 : Nat) = (0 : Nat) ∧
  a.ol.length = a.ol.length ∧
  a.co = a.co) ∧
  a.m.k = a.m.k ∧
  a.m.f = a.m.f ∧
  a.m.t = a.m.t ∧
  a.m.ep = a.m.ep ∧
  a.m.ti = a.m.ti ∧
  a.m.sq = a.m.sq ∧
  a.m.n = a.m.n ∧
  a.m.id = a.m.id ∧
  a.m.op = a.m.op ∧
  a.m.key = a.m.key ∧
  a.m.err = a.m.err ∧
  a.m.last = a.m.last ∧
  a.m.it.key = a.m.it.key ∧
  a.m.it.val = a.m.it.val ∧
  a.m.it.en = a.m.it.en ∧
  a.m.it.gone = a.m.it.gone ∧
  ((0 : Nat) = (0 : Nat) ∧
  a.il.length = a.il.length ∧
  a.ci = a.ci) ∧
  ((0 : Nat) = (0 : Nat) ∧
  a.ml.length = a.ml.length ∧
  a.cm = a.cm) ∧
  ((0 : Nat) = (0 : Nat) ∧
  a.nl.length = a.nl.length ∧
  a.cn = a.cn) ∧
  a.m.base = a.m.base ∧
  ((0 : Nat) = (0 : Nat) ∧
  a.ol.length = a.ol.length ∧
  a.co = a.co) ∧
  (a.il.length ≤ a.il.length ∧
  RowsEq a.il.length (4 : Nat) (encRows encItem a.il) (encRows encItem a.il)) ∧
  (a.ml.length ≤ a.ml.length ∧
  RowsEq a.ml.length (2 : Nat) (encRows encMark a.ml) (encRows encMark a.ml)) ∧
  (a.nl.length ≤ a.nl.length ∧
  RowsEq a.nl.length (1 : Nat) (encRows encI a.nl) (encRows encI a.nl)) ∧
  (a.ol.length ≤ a.ol.length ∧
  RowsEq a.ol.length (1 : Nat) (encRows encI a.ol) (encRows encI a.ol)) ∧
  listM a ∧
  True))) ∧
  (Decidable.decide ((0 : Int) < (↑a.nl.length : Int)) = Bool.false →
  (Decidable.decide ((0 : Int) < (↑a.ol.length : Int)) = Bool.true →
  ∃ (a_11 : NodesA), ((0 : Nat) = (0 : Nat) ∧
  a.ol.length = a_11.l.length ∧
  a.co = a_11.cap) ∧
  (a_11.l.length ≤ a.ol.length ∧
  RowsEq a_11.l.length (1 : Nat) (encRows encI a.ol) (encRows encI a_11.l)) ∧
  a_11.l.length < (100000 : Nat) ∧
  ∀ (b : Unit), True →
  ((!mayN a_11.l) = Bool.true →
  ∃ (b : Bool), Bool.false = b ∧
  (b = Bool.true ↔ okMR a) ∧
  True) ∧
  ((!mayN a_11.l) = Bool.false →
  ∃ (a_14 : Unit), Bool.false = Bool.false ∧
  (0 : Nat) = (0 : Nat) ∧
  a.m.k = a.m.k ∧
  a.m.f = a.m.f ∧
  a.m.t = a.m.t ∧
  a.m.ep = a.m.ep ∧
  a.m.ti = a.m.ti ∧
  a.m.sq = a.m.sq ∧
  a.m.n = a.m.n ∧
  a.m.id = a.m.id ∧
  a.m.op = a.m.op ∧
  a.m.key = a.m.key ∧
  a.m.err = a.m.err ∧
  a.m.last = a.m.last ∧
  a.m.it.key = a.m.it.key ∧
  a.m.it.val = a.m.it.val ∧
  a.m.it.en = a.m.it.en ∧
  a.m.it.gone = a.m.it.gone ∧
  ((0 : Nat) = (0 : Nat) ∧
  a.il.length = a.il.length ∧
  a.ci = a.ci) ∧
  ((0 : Nat) = (0 : Nat) ∧
  a.ml.length = a.ml.length ∧
  a.cm = a.cm) ∧
  ((0 : Nat) = (0 : Nat) ∧
  a.nl.length = a.nl.length ∧
  a.cn = a.cn) ∧
  a.m.base = a.m.base ∧
  ((0 : Nat) = (0 : Nat) ∧
  a.ol.length = a.ol.length ∧
  a.co = a.co) ∧
  a.m.k = a.m.k ∧
  a.m.f = a.m.f ∧
  a.m.t = a.m.t ∧
  a.m.ep = a.m.ep ∧
  a.m.ti = a.m.ti ∧
  a.m.sq = a.m.sq ∧
  a.m.n = a.m.n ∧
  a.m.id = a.m.id ∧
  a.m.op = a.m.op ∧
  a.m.key = a.m.key ∧
  a.m.err = a.m.err ∧
  a.m.last = a.m.last ∧
  a.m.it.key = a.m.it.key ∧
  a.m.it.val = a.m.it.val ∧
  a.m.it.en = a.m.it.en ∧
  a.m.it.gone = a.m.it.gone ∧
  ((0 : Nat) = (0 : Nat) ∧
  a.il.length = a.il.length ∧
  a.ci = a.ci) ∧
  ((0 : Nat) = (0 : Nat) ∧
  a.ml.length = a.ml.length ∧
  a.cm = a.cm) ∧
  ((0 : Nat) = (0 : Nat) ∧
  a.nl.length = a.nl.length ∧
  a.cn = a.cn) ∧
  a.m.base = a.m.base ∧
  ((0 : Nat) = (0 : Nat) ∧
  a.ol.length = a.ol.length ∧
  a.co = a.co) ∧
  (a.il.length ≤ a.il.length ∧
  RowsEq a.il.length (4 : Nat) (encRows encItem a.il) (encRows encItem a.il)) ∧
  (a.ml.length ≤ a.ml.length ∧
  RowsEq a.ml.length (2 : Nat) (encRows encMark a.ml) (encRows encMark a.ml)) ∧
  (a.nl.length ≤ a.nl.length ∧
  RowsEq a.nl.length (1 : Nat) (encRows encI a.nl) (encRows encI a.nl)) ∧
  (a.ol.length ≤ a.ol.length ∧
  RowsEq a.ol.length (1 : Nat) (encRows encI a.ol) (encRows encI a.ol)) ∧
  listM a ∧
  True)) ∧
  (Decidable.decide ((0 : Int) < (↑a.ol.length : Int)) = Bool.false →
  ∃ (a_11 : Unit), Bool.false = Bool.false ∧
  (0 : Nat) = (0 : Nat) ∧
  a.m.k = a.m.k ∧
  a.m.f = a.m.f ∧
  a.m.t = a.m.t ∧
  a.m.ep = a.m.ep ∧
  a.m.ti = a.m.ti ∧
  a.m.sq = a.m.sq ∧
  a.m.n = a.m.n ∧
  a.m.id = a.m.id ∧
  a.m.op = a.m.op ∧
  a.m.key = a.m.key ∧
  a.m.err = a.m.err ∧
  a.m.last = a.m.last ∧
  a.m.it.key = a.m.it.key ∧
  a.m.it.val = a.m.it.val ∧
  a.m.it.en = a.m.it.en ∧
  a.m.it.gone = a.m.it.gone ∧
  ((0 : Nat) = (0 : Nat) ∧
  a.il.length = a.il.length ∧
  a.ci = a.ci) ∧
  ((0 : Nat) = (0 : Nat) ∧
  a.ml.length = a.ml.length ∧
  a.cm = a.cm) ∧
  ((0 : Nat) = (0 : Nat) ∧
  a.nl.length = a.nl.length ∧
  a.cn = a.cn) ∧
  a.m.base = a.m.base ∧
  ((0 : Nat) = (0 : Nat) ∧
  a.ol.length = a.ol.length ∧
  a.co = a.co) ∧
  a.m.k = a.m.k ∧
  a.m.f = a.m.f ∧
  a.m.t = a.m.t ∧
  a.m.ep = a.m.ep ∧
  a.m.ti = a.m.ti ∧
  a.m.sq = a.m.sq ∧
  a.m.n = a.m.n ∧
  a.m.id = a.m.id ∧
  a.m.op = a.m.op ∧
  a.m.key = a.m.key ∧
  a.m.err = a.m.err ∧
  a.m.last = a.m.last ∧
  a.m.it.key = a.m.it.key ∧
  a.m.it.val = a.m.it.val ∧
  a.m.it.en = a.m.it.en ∧
  a.m.it.gone = a.m.it.gone ∧
  ((0 : Nat) = (0 : Nat) ∧
  a.il.length = a.il.length ∧
  a.ci = a.ci) ∧
  ((0 : Nat) = (0 : Nat) ∧
  a.ml.length = a.ml.length ∧
  a.cm = a.cm) ∧
  ((0 : Nat) = (0 : Nat) ∧
  a.nl.length = a.nl.length ∧
  a.cn = a.cn) ∧
  a.m.base = a.m.base ∧
  ((0 : Nat) = (0 : Nat) ∧
  a.ol.length = a.ol.length ∧
  a.co = a.co) ∧
  (a.il.length ≤ a.il.length ∧
  RowsEq a.il.length (4 : Nat) (encRows encItem a.il) (encRows encItem a.il)) ∧
  (a.ml.length ≤ a.ml.length ∧
  RowsEq a.ml.length (2 : Nat) (encRows encMark a.ml) (encRows encMark a.ml)) ∧
  (a.nl.length ≤ a.nl.length ∧
  RowsEq a.nl.length (1 : Nat) (encRows encI a.nl) (encRows encI a.nl)) ∧
  (a.ol.length ≤ a.ol.length ∧
  RowsEq a.ol.length (1 : Nat) (encRows encI a.ol) (encRows encI a.ol)) ∧
  listM a ∧
  True)))))) ∧
  ∀ (a_4 : Unit), listM a →
  ((∃ (a_6 : Nat), (0 : Int) = (↑a_6 : Int) ∧
  Bool.false = Bool.false ∧
  (0 : Nat) = (0 : Nat) ∧
  a.m.k = a.m.k ∧
  a.m.f = a.m.f ∧
  a.m.t = a.m.t ∧
  a.m.ep = a.m.ep ∧
  a.m.ti = a.m.ti ∧
  a.m.sq = a.m.sq ∧
  a.m.n = a.m.n ∧
  a.m.id = a.m.id ∧
  a.m.op = a.m.op ∧
  a.m.key = a.m.key ∧
  a.m.err = a.m.err ∧
  a.m.last = a.m.last ∧
  a.m.it.key = a.m.it.key ∧
  a.m.it.val = a.m.it.val ∧
  a.m.it.en = a.m.it.en ∧
  a.m.it.gone = a.m.it.gone ∧
  ((0 : Nat) = (0 : Nat) ∧
  a.il.length = a.il.length ∧
  a.ci = a.ci) ∧
  ((0 : Nat) = (0 : Nat) ∧
  a.ml.length = a.ml.length ∧
  a.cm = a.cm) ∧
  ((0 : Nat) = (0 : Nat) ∧
  a.nl.length = a.nl.length ∧
  a.cn = a.cn) ∧
  a.m.base = a.m.base ∧
  ((0 : Nat) = (0 : Nat) ∧
  a.ol.length = a.ol.length ∧
  a.co = a.co) ∧
  a.m.k = a.m.k ∧
  a.m.f = a.m.f ∧
  a.m.t = a.m.t ∧
  a.m.ep = a.m.ep ∧
  a.m.ti = a.m.ti ∧
  a.m.sq = a.m.sq ∧
  a.m.n = a.m.n ∧
  a.m.id = a.m.id ∧
  a.m.op = a.m.op ∧
  a.m.key = a.m.key ∧
  a.m.err = a.m.err ∧
  a.m.last = a.m.last ∧
  a.m.it.key = a.m.it.key ∧
  a.m.it.val = a.m.it.val ∧
  a.m.it.en = a.m.it.en ∧
  a.m.it.gone = a.m.it.gone ∧
  ((0 : Nat) = (0 : Nat) ∧
  a.il.length = a.il.length ∧
  a.ci = a.ci) ∧
  ((0 : Nat) = (0 : Nat) ∧
  a.ml.length = a.ml.length ∧
  a.cm = a.cm) ∧
  ((0 : Nat) = (0 : Nat) ∧
  a.nl.length = a.nl.length ∧
  a.cn = a.cn) ∧
  a.m.base = a.m.base ∧
  ((0 : Nat) = (0 : Nat) ∧
  a.ol.length = a.ol.length ∧
  a.co = a.co) ∧
  (a.il.length ≤ a.il.length ∧
  RowsEq a.il.length (4 : Nat) (encRows encItem a.il) (encRows encItem a.il)) ∧
  (a.ml.length ≤ a.ml.length ∧
  RowsEq a.ml.length (2 : Nat) (encRows encMark a.ml) (encRows encMark a.ml)) ∧
  (a.nl.length ≤ a.nl.length ∧
  RowsEq a.nl.length (1 : Nat) (encRows encI a.nl) (encRows encI a.nl)) ∧
  (a.ol.length ≤ a.ol.length ∧
  RowsEq a.ol.length (1 : Nat) (encRows encI a.ol) (encRows encI a.ol)) ∧
  (a_6 ≤ a.il.length ∧
  ∀ (j : Nat), j < a_6 →
  mayI (gl a.il j) = Bool.true) ∧
  True) ∧
  ∀ (a_6 : Nat), (a_6 ≤ a.il.length ∧
  ∀ (j : Nat), j < a_6 →
  mayI (gl a.il j) = Bool.true) →
  (Decidable.decide ((↑a_6 : Int) < (↑a.il.length : Int)) = Bool.true →
  ((0 : Int) ≤ (↑a_6 : Int) ∧
  (↑a_6 : Int) < (↑a.il.length : Int)) ∧
  (0 : Nat) + (↑a_6 : Int).toNat < a.il.length ∧
  ∃ (a_9 : ItemR), (gl a.il ((0 : Nat) + (↑a_6 : Int).toNat)).key = a_9.key ∧
  (gl a.il ((0 : Nat) + (↑a_6 : Int).toNat)).val = a_9.val ∧
  (gl a.il ((0 : Nat) + (↑a_6 : Int).toNat)).en = a_9.en ∧
  (gl a.il ((0 : Nat) + (↑a_6 : Int).toNat)).gone = a_9.gone ∧
  True ∧
  ∀ (b : Unit), True →
  ((!mayI a_9) = Bool.true →
  ∃ (b : Bool), Bool.false = b ∧
  (b = Bool.true ↔ okMR a) ∧
  True) ∧
  ((!mayI a_9) = Bool.false →
  InR IntKind.i64 ((↑a_6 : Int) + (1 : Int)) ∧
  ∃ (a' : Nat), (↑a_6 : Int) + (1 : Int) = (↑a' : Int) ∧
  Bool.false = Bool.false ∧
  (0 : Nat) = (0 : Nat) ∧
  a.m.k = a.m.k ∧
  a.m.f = a.m.f ∧
  a.m.t = a.m.t ∧
  a.m.ep = a.m.ep ∧
  a.m.ti = a.m.ti ∧
  a.m.sq = a.m.sq ∧
  a.m.n = a.m.n ∧
  a.m.id = a.m.id ∧
  a.m.op = a.m.op ∧
  a.m.key = a.m.key ∧
  a.m.err = a.m.err ∧
  a.m.last = a.m.last ∧
  a.m.it.key = a.m.it.key ∧
  a.m.it.val = a.m.it.val ∧
  a.m.it.en = a.m.it.en ∧
  a.m.it.gone = a.m.it.gone ∧
  ((0 : Nat) = (0 : Nat) ∧
  a.il.length = a.il.length ∧
  a.ci = a.ci) ∧
  ((0 : Nat) = (0 : Nat) ∧
  a.ml.length = a.ml.length ∧
  a.cm = a.cm) ∧
  ((0 : Nat) = (0 : Nat) ∧
  a.nl.length = a.nl.length ∧
  a.cn = a.cn) ∧
  a.m.base = a.m.base ∧
  ((0 : Nat) = (0 : Nat) ∧
  a.ol.length = a.ol.length ∧
  a.co = a.co) ∧
  a.m.k = a.m.k ∧
  a.m.f = a.m.f ∧
  a.m.t = a.m.t ∧
  a.m.ep = a.m.ep ∧
  a.m.ti = a.m.ti ∧
  a.m.sq = a.m.sq ∧
  a.m.n = a.m.n ∧
  a.m.id = a.m.id ∧
  a.m.op = a.m.op ∧
  a.m.key = a.m.key ∧
  a.m.err = a.m.err ∧
  a.m.last = a.m.last ∧
  a.m.it.key = a.m.it.key ∧
  a.m.it.val = a.m.it.val ∧
  a.m.it.en = a.m.it.en ∧
  a.m.it.gone = a.m.it.gone ∧
  ((0 : Nat) = (0 : Nat) ∧
  a.il.length = a.il.length ∧
  a.ci = a.ci) ∧
  ((0 : Nat) = (0 : Nat) ∧
  a.ml.length = a.ml.length ∧
  a.cm = a.cm) ∧
  ((0 : Nat) = (0 : Nat) ∧
  a.nl.length = a.nl.length ∧
  a.cn = a.cn) ∧
  a.m.base = a.m.base ∧
  ((0 : Nat) = (0 : Nat) ∧
  a.ol.length = a.ol.length ∧
  a.co = a.co) ∧
  (a.il.length ≤ a.il.length ∧
  RowsEq a.il.length (4 : Nat) (encRows encItem a.il) (encRows encItem a.il)) ∧
  (a.ml.length ≤ a.ml.length ∧
  RowsEq a.ml.length (2 : Nat) (encRows encMark a.ml) (encRows encMark a.ml)) ∧
  (a.nl.length ≤ a.nl.length ∧
  RowsEq a.nl.length (1 : Nat) (encRows encI a.nl) (encRows encI a.nl)) ∧
  (a.ol.length ≤ a.ol.length ∧
  RowsEq a.ol.length (1 : Nat) (encRows encI a.ol) (encRows encI a.ol)) ∧
  (a' ≤ a.il.length ∧
  ∀ (j : Nat), j < a' →
  mayI (gl a.il j) = Bool.true) ∧
  a.il.length - a' < a.il.length - a_6)) ∧
  (Decidable.decide ((↑a_6 : Int) < (↑a.il.length : Int)) = Bool.false →
  ∃ (a_9 : Unit), Bool.false = Bool.false ∧
  (0 : Nat) = (0 : Nat) ∧
  a.m.k = a.m.k ∧
  a.m.f = a.m.f ∧
  a.m.t = a.m.t ∧
  a.m.ep = a.m.ep ∧
  a.m.ti = a.m.ti ∧
  a.m.sq = a.m.sq ∧
  a.m.n = a.m.n ∧
  a.m.id = a.m.id ∧
  a.m.op = a.m.op ∧
  a.m.key = a.m.key ∧
  a.m.err = a.m.err ∧
  a.m.last = a.m.last ∧
  a.m.it.key = a.m.it.key ∧
  a.m.it.val = a.m.it.val ∧
  a.m.it.en = a.m.it.en ∧
  a.m.it.gone = a.m.it.gone ∧
  ((0 : Nat) = (0 : Nat) ∧
  a.il.length = a.il.length ∧
  a.ci = a.ci) ∧
  ((0 : Nat) = (0 : Nat) ∧
  a.ml.length = a.ml.length ∧
  a.cm = a.cm) ∧
  ((0 : Nat) = (0 : Nat) ∧
  a.nl.length = a.nl.length ∧
  a.cn = a.cn) ∧
  a.m.base = a.m.base ∧
  ((0 : Nat) = (0 : Nat) ∧
  a.ol.length = a.ol.length ∧
  a.co = a.co) ∧
  a.m.k = a.m.k ∧
  a.m.f = a.m.f ∧
  a.m.t = a.m.t ∧
  a.m.ep = a.m.ep ∧
  a.m.ti = a.m.ti ∧
  a.m.sq = a.m.sq ∧
  a.m.n = a.m.n ∧
  a.m.id = a.m.id ∧
  a.m.op = a.m.op ∧
  a.m.key = a.m.key ∧
  a.m.err = a.m.err ∧
  a.m.last = a.m.last ∧
  a.m.it.key = a.m.it.key ∧
  a.m.it.val = a.m.it.val ∧
  a.m.it.en = a.m.it.en ∧
  a.m.it.gone = a.m.it.gone ∧
  ((0 : Nat) = (0 : Nat) ∧
  a.il.length = a.il.length ∧
  a.ci = a.ci) ∧
  ((0 : Nat) = (0 : Nat) ∧
  a.ml.length = a.ml.length ∧
  a.cm = a.cm) ∧
  ((0 : Nat) = (0 : Nat) ∧
  a.nl.length = a.nl.length ∧
  a.cn = a.cn) ∧
  a.m.base = a.m.base ∧
  ((0 : Nat) = (0 : Nat) ∧
  a.ol.length = a.ol.length ∧
  a.co = a.co) ∧
  (a.il.length ≤ a.il.length ∧
  RowsEq a.il.length (4 : Nat) (encRows encItem a.il) (encRows encItem a.il)) ∧
  (a.ml.length ≤ a.ml.length ∧
  RowsEq a.ml.length (2 : Nat) (encRows encMark a.ml) (encRows encMark a.ml)) ∧
  (a.nl.length ≤ a.nl.length ∧
  RowsEq a.nl.length (1 : Nat) (encRows encI a.nl) (encRows encI a.nl)) ∧
  (a.ol.length ≤ a.ol.length ∧
  RowsEq a.ol.length (1 : Nat) (encRows encI a.ol) (encRows encI a.ol)) ∧
  (∀ (i : Nat), i < a.il.length →
  mayI (gl a.il i) = Bool.true) ∧
  True)) ∧
  ∀ (a_6 : Unit), (∀ (i : Nat), i < a.il.length →
  mayI (gl a.il i) = Bool.true) →
  (∃ (a_8 : Nat), (0 : Int) = (↑a_8 : Int) ∧
  Bool.false = Bool.false ∧
  (0 : Nat) = (0 : Nat) ∧
  a.m.k = a.m.k ∧
  a.m.f = a.m.f ∧
  a.m.t = a.m.t ∧
  a.m.ep = a.m.ep ∧
  a.m.ti = a.m.ti ∧
  a.m.sq = a.m.sq ∧
  a.m.n = a.m.n ∧
  a.m.id = a.m.id ∧
  a.m.op = a.m.op ∧
  a.m.key = a.m.key ∧
  a.m.err = a.m.err ∧
  a.m.last = a.m.last ∧
  a.m.it.key = a.m.it.key ∧
  a.m.it.val = a.m.it.val ∧
  a.m.it.en = a.m.it.en ∧
  a.m.it.gone = a.m.it.gone ∧
  ((0 : Nat) = (0 : Nat) ∧
  a.il.length = a.il.length ∧
  a.ci = a.ci) ∧
  ((0 : Nat) = (0 : Nat) ∧
  a.ml.length = a.ml.length ∧
  a.cm = a.cm) ∧
  ((0 : Nat) = (0 : Nat) ∧
  a.nl.length = a.nl.length ∧
  a.cn = a.cn) ∧
  a.m.base = a.m.base ∧
  ((0 : Nat) = (0 : Nat) ∧
  a.ol.length = a.ol.length ∧
  a.co = a.co) ∧
  a.m.k = a.m.k ∧
  a.m.f = a.m.f ∧
  a.m.t = a.m.t ∧
  a.m.ep = a.m.ep ∧
  a.m.ti = a.m.ti ∧
  a.m.sq = a.m.sq ∧
  a.m.n = a.m.n ∧
  a.m.id = a.m.id ∧
  a.m.op = a.m.op ∧
  a.m.key = a.m.key ∧
  a.m.err = a.m.err ∧
  a.m.last = a.m.last ∧
  a.m.it.key = a.m.it.key ∧
  a.m.it.val = a.m.it.val ∧
  a.m.it.en = a.m.it.en ∧
  a.m.it.gone = a.m.it.gone ∧
  ((0 : Nat) = (0 : Nat) ∧
  a.il.length = a.il.length ∧
  a.ci = a.ci) ∧
  ((0 : Nat) = (0 : Nat) ∧
  a.ml.length = a.ml.length ∧
  a.cm = a.cm) ∧
  ((0 : Nat) = (0 : Nat) ∧
  a.nl.length = a.nl.length ∧
  a.cn = a.cn) ∧
  a.m.base = a.m.base ∧
  ((0 : Nat) = (0 : Nat) ∧
  a.ol.length = a.ol.length ∧
  a.co = a.co) ∧
  (a.il.length ≤ a.il.length ∧
  RowsEq a.il.length (4 : Nat) (encRows encItem a.il) (encRows encItem a.il)) ∧
  (a.ml.length ≤ a.ml.length ∧
  RowsEq a.ml.length (2 : Nat) (encRows encMark a.ml) (encRows encMark a.ml)) ∧
  (a.nl.length ≤ a.nl.length ∧
  RowsEq a.nl.length (1 : Nat) (encRows encI a.nl) (encRows encI a.nl)) ∧
  (a.ol.length ≤ a.ol.length ∧
  RowsEq a.ol.length (1 : Nat) (encRows encI a.ol) (encRows encI a.ol)) ∧
  (a_8 ≤ a.ml.length ∧
  ∀ (j : Nat), j < a_8 →
  (1 : Int) ≤ (gl a.ml j).seq ∧
  (gl a.ml j).seq ≤ (1099511627776 : Int) ∧
  keyB (gl a.ml j).key = Bool.true ∧
  ((0 : Nat) < j →
  (gl a.ml (j - (1 : Nat))).seq < (gl a.ml j).seq)) ∧
  True) ∧
  ∀ (a_8 : Nat), (a_8 ≤ a.ml.length ∧
  ∀ (j : Nat), j < a_8 →
  (1 : Int) ≤ (gl a.ml j).seq ∧
  (gl a.ml j).seq ≤ (1099511627776 : Int) ∧
  keyB (gl a.ml j).key = Bool.true ∧
  ((0 : Nat) < j →
  (gl a.ml (j - (1 : Nat))).seq < (gl a.ml j).seq)) →
  (Decidable.decide ((↑a_8 : Int) < (↑a.ml.length : Int)) = Bool.true →
  ((0 : Int) ≤ (↑a_8 : Int) ∧
  (↑a_8 : Int) < (↑a.ml.length : Int)) ∧
  (0 : Nat) + (↑a_8 : Int).toNat < a.ml.length ∧
  (InR IntKind.i64 (gl a.ml ((0 : Nat) + (↑a_8 : Int).toNat)).seq →
  (Decidable.decide ((gl a.ml ((0 : Nat) + (↑a_8 : Int).toNat)).seq < (1 : Int)) = Bool.true →
  ∃ (b : Bool), Bool.false = b ∧
  (b = Bool.true ↔ okMR a) ∧
  True) ∧
  (Decidable.decide ((gl a.ml ((0 : Nat) + (↑a_8 : Int).toNat)).seq < (1 : Int)) = Bool.false →
  InR IntKind.i64 (gl a.ml ((0 : Nat) + (↑a_8 : Int).toNat)).seq →
  (Decidable.decide ((1099511627776 : Int) < (gl a.ml ((0 : Nat) + (↑a_8 : Int).toNat)).seq) = Bool.true →
  ∃ (b : Bool), Bool.false = b ∧
  (b = Bool.true ↔ okMR a) ∧
  True) ∧
  (Decidable.decide ((1099511627776 : Int) < (gl a.ml ((0 : Nat) + (↑a_8 : Int).toNat)).seq) = Bool.false →
  ∃ (a_15 : ByteArray), (gl a.ml ((0 : Nat) + (↑a_8 : Int).toNat)).key = a_15 ∧
  True ∧
  ∀ (b : Unit), True →
  ((!keyB a_15) = Bool.true →
  ∃ (b : Bool), Bool.false = b ∧
  (b = Bool.true ↔ okMR a) ∧
  True) ∧
  ((!keyB a_15) = Bool.false →
  (Decidable.decide ((0 : Int) < (↑a_8 : Int)) = Bool.true →
  InR IntKind.i64 (gl a.ml ((0 : Nat) + (↑a_8 : Int).toNat)).seq →
  InR IntKind.i64 ((↑a_8 : Int) - (1 : Int)) ∧
  ((0 : Int) ≤ (↑a_8 : Int) - (1 : Int) ∧
  (↑a_8 : Int) - (1 : Int) < (↑a.ml.length : Int)) ∧
  (0 : Nat) + ((↑a_8 : Int) - (1 : Int)).toNat < a.ml.length ∧
  (InR IntKind.i64 (gl a.ml ((0 : Nat) + ((↑a_8 : Int) - (1 : Int)).toNat)).seq →
  (Decidable.decide ((gl a.ml ((0 : Nat) + (↑a_8 : Int).toNat)).seq ≤ (gl a.ml ((0 : Nat) + ((↑a_8 : Int) - (1 : Int)).toNat)).seq) = Bool.true →
  ∃ (b : Bool), Bool.false = b ∧
  (b = Bool.true ↔ okMR a) ∧
  True) ∧
  (Decidable.decide ((gl a.ml ((0 : Nat) + (↑a_8 : Int).toNat)).seq ≤ (gl a.ml ((0 : Nat) + ((↑a_8 : Int) - (1 : Int)).toNat)).seq) = Bool.false →
  InR IntKind.i64 ((↑a_8 : Int) + (1 : Int)) ∧
  ∃ (a' : Nat), (↑a_8 : Int) + (1 : Int) = (↑a' : Int) ∧
  Bool.false = Bool.false ∧
  (0 : Nat) = (0 : Nat) ∧
  a.m.k = a.m.k ∧
  a.m.f = a.m.f ∧
  a.m.t = a.m.t ∧
  a.m.ep = a.m.ep ∧
  a.m.ti = a.m.ti ∧
  a.m.sq = a.m.sq ∧
  a.m.n = a.m.n ∧
  a.m.id = a.m.id ∧
  a.m.op = a.m.op ∧
  a.m.key = a.m.key ∧
  a.m.err = a.m.err ∧
  a.m.last = a.m.last ∧
  a.m.it.key = a.m.it.key ∧
  a.m.it.val = a.m.it.val ∧
  a.m.it.en = a.m.it.en ∧
  a.m.it.gone = a.m.it.gone ∧
  ((0 : Nat) = (0 : Nat) ∧
  a.il.length = a.il.length ∧
  a.ci = a.ci) ∧
  ((0 : Nat) = (0 : Nat) ∧
  a.ml.length = a.ml.length ∧
  a.cm = a.cm) ∧
  ((0 : Nat) = (0 : Nat) ∧
  a.nl.length = a.nl.length ∧
  a.cn = a.cn) ∧
  a.m.base = a.m.base ∧
  ((0 : Nat) = (0 : Nat) ∧
  a.ol.length = a.ol.length ∧
  a.co = a.co) ∧
  a.m.k = a.m.k ∧
  a.m.f = a.m.f ∧
  a.m.t = a.m.t ∧
  a.m.ep = a.m.ep ∧
  a.m.ti = a.m.ti ∧
  a.m.sq = a.m.sq ∧
  a.m.n = a.m.n ∧
  a.m.id = a.m.id ∧
  a.m.op = a.m.op ∧
  a.m.key = a.m.key ∧
  a.m.err = a.m.err ∧
  a.m.last = a.m.last ∧
  a.m.it.key = a.m.it.key ∧
  a.m.it.val = a.m.it.val ∧
  a.m.it.en = a.m.it.en ∧
  a.m.it.gone = a.m.it.gone ∧
  ((0 : Nat) = (0 : Nat) ∧
  a.il.length = a.il.length ∧
  a.ci = a.ci) ∧
  ((0 : Nat) = (0 : Nat) ∧
  a.ml.length = a.ml.length ∧
  a.cm = a.cm) ∧
  ((0 : Nat) = (0 : Nat) ∧
  a.nl.length = a.nl.length ∧
  a.cn = a.cn) ∧
  a.m.base = a.m.base ∧
  ((0 : Nat) = (0 : Nat) ∧
  a.ol.length = a.ol.length ∧
  a.co = a.co) ∧
  (a.il.length ≤ a.il.length ∧
  RowsEq a.il.length (4 : Nat) (encRows encItem a.il) (encRows encItem a.il)) ∧
  (a.ml.length ≤ a.ml.length ∧
  RowsEq a.ml.length (2 : Nat) (encRows encMark a.ml) (encRows encMark a.ml)) ∧
  (a.nl.length ≤ a.nl.length ∧
  RowsEq a.nl.length (1 : Nat) (encRows encI a.nl) (encRows encI a.nl)) ∧
  (a.ol.length ≤ a.ol.length ∧
  RowsEq a.ol.length (1 : Nat) (encRows encI a.ol) (encRows encI a.ol)) ∧
  (a' ≤ a.ml.length ∧
  ∀ (j : Nat), j < a' →
  (1 : Int) ≤ (gl a.ml j).seq ∧
  (gl a.ml j).seq ≤ (1099511627776 : Int) ∧
  keyB (gl a.ml j).key = Bool.true ∧
  ((0 : Nat) < j →
  (gl a.ml (j - (1 : Nat))).seq < (gl a.ml j).seq)) ∧
  a.ml.length - a' < a.ml.length - a_8))) ∧
  (Decidable.decide ((0 : Int) < (↑a_8 : Int)) = Bool.false →
  InR IntKind.i64 ((↑a_8 : Int) + (1 : Int)) ∧
  ∃ (a' : Nat), (↑a_8 : Int) + (1 : Int) = (↑a' : Int) ∧
  Bool.false = Bool.false ∧
  (0 : Nat) = (0 : Nat) ∧
  a.m.k = a.m.k ∧
  a.m.f = a.m.f ∧
  a.m.t = a.m.t ∧
  a.m.ep = a.m.ep ∧
  a.m.ti = a.m.ti ∧
  a.m.sq = a.m.sq ∧
  a.m.n = a.m.n ∧
  a.m.id = a.m.id ∧
  a.m.op = a.m.op ∧
  a.m.key = a.m.key ∧
  a.m.err = a.m.err ∧
  a.m.last = a.m.last ∧
  a.m.it.key = a.m.it.key ∧
  a.m.it.val = a.m.it.val ∧
  a.m.it.en = a.m.it.en ∧
  a.m.it.gone = a.m.it.gone ∧
  ((0 : Nat) = (0 : Nat) ∧
  a.il.length = a.il.length ∧
  a.ci = a.ci) ∧
  ((0 : Nat) = (0 : Nat) ∧
  a.ml.length = a.ml.length ∧
  a.cm = a.cm) ∧
  ((0 : Nat) = (0 : Nat) ∧
  a.nl.length = a.nl.length ∧
  a.cn = a.cn) ∧
  a.m.base = a.m.base ∧
  ((0 : Nat) = (0 : Nat) ∧
  a.ol.length = a.ol.length ∧
  a.co = a.co) ∧
  a.m.k = a.m.k ∧
  a.m.f = a.m.f ∧
  a.m.t = a.m.t ∧
  a.m.ep = a.m.ep ∧
  a.m.ti = a.m.ti ∧
  a.m.sq = a.m.sq ∧
  a.m.n = a.m.n ∧
  a.m.id = a.m.id ∧
  a.m.op = a.m.op ∧
  a.m.key = a.m.key ∧
  a.m.err = a.m.err ∧
  a.m.last = a.m.last ∧
  a.m.it.key = a.m.it.key ∧
  a.m.it.val = a.m.it.val ∧
  a.m.it.en = a.m.it.en ∧
  a.m.it.gone = a.m.it.gone ∧
  ((0 : Nat) = (0 : Nat) ∧
  a.il.length = a.il.length ∧
  a.ci = a.ci) ∧
  ((0 : Nat) = (0 : Nat) ∧
  a.ml.length = a.ml.length ∧
  a.cm = a.cm) ∧
  ((0 : Nat) = (0 : Nat) ∧
  a.nl.length = a.nl.length ∧
  a.cn = a.cn) ∧
  a.m.base = a.m.base ∧
  ((0 : Nat) = (0 : Nat) ∧
  a.ol.length = a.ol.length ∧
  a.co = a.co) ∧
  (a.il.length ≤ a.il.length ∧
  RowsEq a.il.length (4 : Nat) (encRows encItem a.il) (encRows encItem a.il)) ∧
  (a.ml.length ≤ a.ml.length ∧
  RowsEq a.ml.length (2 : Nat) (encRows encMark a.ml) (encRows encMark a.ml)) ∧
  (a.nl.length ≤ a.nl.length ∧
  RowsEq a.nl.length (1 : Nat) (encRows encI a.nl) (encRows encI a.nl)) ∧
  (a.ol.length ≤ a.ol.length ∧
  RowsEq a.ol.length (1 : Nat) (encRows encI a.ol) (encRows encI a.ol)) ∧
  (a' ≤ a.ml.length ∧
  ∀ (j : Nat), j < a' →
  (1 : Int) ≤ (gl a.ml j).seq ∧
  (gl a.ml j).seq ≤ (1099511627776 : Int) ∧
  keyB (gl a.ml j).key = Bool.true ∧
  ((0 : Nat) < j →
  (gl a.ml (j - (1 : Nat))).seq < (gl a.ml j).seq)) ∧
  a.ml.length - a' < a.ml.length - a_8)))))) ∧
  (Decidable.decide ((↑a_8 : Int) < (↑a.ml.length : Int)) = Bool.false →
  ∃ (b : Bool), Bool.true = b ∧
  (b = Bool.true ↔ okMR a) ∧
  True)) (by kernel_rfl) (by
  rintro a ⟨h1, h2⟩
  simp only [Nat.zero_add, Int.toNat_natCast, InR, decide_eq_true_eq, decide_eq_false_iff_not, Bool.not_eq_true', Bool.not_eq_false', beq_iff_eq, beq_eq_false_iff_ne]
  have no : ∀ {p : Prop}, ¬ p → (false = true ↔ p) := fun h => ⟨fun g => (by cases g), fun g => absurd g h⟩
  refine ⟨?_, fun _ hh => ⟨?_, fun _ hl => ⟨⟨⟨0, ?_⟩, fun i hi => ⟨fun c => ?_, fun c => ⟨(), ?_⟩⟩⟩, fun _ hia => ⟨⟨0, ?_⟩, fun i hi => ⟨fun c => ?_, fun c => ⟨true, rfl, ⟨fun _ => ?_, fun _ => rfl⟩, trivial⟩⟩⟩⟩⟩⟩
  · (repeat' first | intro _ | apply And.intro | apply Exists.intro () | apply Exists.intro false)
    all_goals (try with_reducible rfl)
    all_goals (try exact RowsEq.refl _ _ _)
    all_goals (try exact trivial)
    all_goals (try (refine no fun ok => ?_; obtain ⟨_, _, _, _, _, _, _, _, _, _, _, _, _, _, _, _, _, _, _, _⟩ := ok; omega))
    all_goals (try (constructor <;> omega))
  · have hz : ∀ (p : Prop), (∀ e : eqIB a.m.it zeroI = true, p) → eqIB a.m.it zeroI = true → p := fun _ h => h
    refine ⟨(a.m.it, zeroI), ?_⟩
    ((repeat' apply And.intro) <;> first | with_reducible rfl | omega | (dsimp only; omega) | exact RowsEq.refl _ _ _ | assumption | rfl | trivial | exact Nat.le_refl _ | skip)
    have fin : (a.m.it = zeroI ∨ mayI a.m.it = true) → a.il.length ≤ 4 → a.ml.length ≤ 4 → (a.nl.length = 0 ∨ mayN a.nl = true) → (a.ol.length = 0 ∨ mayN a.ol = true) → listM a := fun g1 g2 g3 g4 g5 => ⟨g1, g2, g3, g4, g5⟩
    refine fun _ _ => ⟨fun e1 => ⟨a.m.it, ?_⟩, fun e1 => ?_⟩
    · dsimp only at e1
      have hne : a.m.it ≠ zeroI := fun e => by rw [(eqIB_iff _ _).2 e] at e1; cases e1
      ((repeat' apply And.intro) <;> first | with_reducible rfl | omega | (dsimp only; omega) | exact RowsEq.refl _ _ _ | assumption | rfl | trivial | exact Nat.le_refl _ | skip)
      refine fun _ _ => ⟨fun e2 => ⟨false, rfl, no fun ok => ?_, trivial⟩, fun e2 => ⟨fun e3 => ⟨false, rfl, no fun ok => ?_, trivial⟩, fun e3 => ⟨fun e4 => ⟨false, rfl, no fun ok => ?_, trivial⟩, fun e4 => ⟨fun e5 => ⟨⟨a.nl, a.cn⟩, ?_⟩, fun e5 => ⟨fun e6 => ⟨⟨a.ol, a.co⟩, ?_⟩, fun e6 => ⟨(), ?_⟩⟩⟩⟩⟩⟩
      · rcases ok.it with h | h
        · exact hne h
        · rw [h] at e2; cases e2
      · have := ok.il; omega
      · have := ok.ml; omega
      · ((repeat' apply And.intro) <;> first | with_reducible rfl | omega | (dsimp only; omega) | exact RowsEq.refl _ _ _ | assumption | rfl | trivial | exact Nat.le_refl _ | skip)
        refine fun _ _ => ⟨fun e6 => ⟨false, rfl, no fun ok => ?_, trivial⟩, fun e6 => ⟨fun e7 => ⟨⟨a.ol, a.co⟩, ?_⟩, fun e7 => ⟨(), ?_⟩⟩⟩
        · rcases ok.nl with h | h
          · omega
          · dsimp only at e6; rw [h] at e6; cases e6
        · ((repeat' apply And.intro) <;> first | with_reducible rfl | omega | (dsimp only; omega) | exact RowsEq.refl _ _ _ | assumption | rfl | trivial | exact Nat.le_refl _ | skip)
          refine fun _ _ => ⟨fun e8 => ⟨false, rfl, no fun ok => ?_, trivial⟩, fun e8 => ⟨(), ?_⟩⟩
          · rcases ok.ol with h | h
            · omega
            · dsimp only at e8; rw [h] at e8; cases e8
          · ((repeat' apply And.intro) <;> first | with_reducible rfl | omega | (dsimp only; omega) | exact RowsEq.refl _ _ _ | assumption | rfl | trivial | exact Nat.le_refl _ | skip)
            exact fin (.inr e2) (by omega) (by omega) (.inr e6) (.inr e8)
        · ((repeat' apply And.intro) <;> first | with_reducible rfl | omega | (dsimp only; omega) | exact RowsEq.refl _ _ _ | assumption | rfl | trivial | exact Nat.le_refl _ | skip)
          exact fin (.inr e2) (by omega) (by omega) (.inr e6) (.inl (by omega))
      · ((repeat' apply And.intro) <;> first | with_reducible rfl | omega | (dsimp only; omega) | exact RowsEq.refl _ _ _ | assumption | rfl | trivial | exact Nat.le_refl _ | skip)
        refine fun _ _ => ⟨fun e8 => ⟨false, rfl, no fun ok => ?_, trivial⟩, fun e8 => ⟨(), ?_⟩⟩
        · rcases ok.ol with h | h
          · omega
          · dsimp only at e8; rw [h] at e8; cases e8
        · ((repeat' apply And.intro) <;> first | with_reducible rfl | omega | (dsimp only; omega) | exact RowsEq.refl _ _ _ | assumption | rfl | trivial | exact Nat.le_refl _ | skip)
          exact fin (.inr e2) (by omega) (by omega) (.inl (by omega)) (.inr e8)
      · ((repeat' apply And.intro) <;> first | with_reducible rfl | omega | (dsimp only; omega) | exact RowsEq.refl _ _ _ | assumption | rfl | trivial | exact Nat.le_refl _ | skip)
        exact fin (.inr e2) (by omega) (by omega) (.inl (by omega)) (.inl (by omega))
    · dsimp only at e1
      have e2 := (eqIB_iff _ _).1 e1
      refine ⟨fun e3 => ⟨false, rfl, no fun ok => ?_, trivial⟩, fun e3 => ⟨fun e4 => ⟨false, rfl, no fun ok => ?_, trivial⟩, fun e4 => ⟨fun e5 => ⟨⟨a.nl, a.cn⟩, ?_⟩, fun e5 => ⟨fun e6 => ⟨⟨a.ol, a.co⟩, ?_⟩, fun e6 => ⟨(), ?_⟩⟩⟩⟩⟩
      · have := ok.il; omega
      · have := ok.ml; omega
      · ((repeat' apply And.intro) <;> first | with_reducible rfl | omega | (dsimp only; omega) | exact RowsEq.refl _ _ _ | assumption | rfl | trivial | exact Nat.le_refl _ | skip)
        refine fun _ _ => ⟨fun e6 => ⟨false, rfl, no fun ok => ?_, trivial⟩, fun e6 => ⟨fun e7 => ⟨⟨a.ol, a.co⟩, ?_⟩, fun e7 => ⟨(), ?_⟩⟩⟩
        · rcases ok.nl with h | h
          · omega
          · dsimp only at e6; rw [h] at e6; cases e6
        · ((repeat' apply And.intro) <;> first | with_reducible rfl | omega | (dsimp only; omega) | exact RowsEq.refl _ _ _ | assumption | rfl | trivial | exact Nat.le_refl _ | skip)
          refine fun _ _ => ⟨fun e8 => ⟨false, rfl, no fun ok => ?_, trivial⟩, fun e8 => ⟨(), ?_⟩⟩
          · rcases ok.ol with h | h
            · omega
            · dsimp only at e8; rw [h] at e8; cases e8
          · ((repeat' apply And.intro) <;> first | with_reducible rfl | omega | (dsimp only; omega) | exact RowsEq.refl _ _ _ | assumption | rfl | trivial | exact Nat.le_refl _ | skip)
            exact fin (.inl e2) (by omega) (by omega) (.inr e6) (.inr e8)
        · ((repeat' apply And.intro) <;> first | with_reducible rfl | omega | (dsimp only; omega) | exact RowsEq.refl _ _ _ | assumption | rfl | trivial | exact Nat.le_refl _ | skip)
          exact fin (.inl e2) (by omega) (by omega) (.inr e6) (.inl (by omega))
      · ((repeat' apply And.intro) <;> first | with_reducible rfl | omega | (dsimp only; omega) | exact RowsEq.refl _ _ _ | assumption | rfl | trivial | exact Nat.le_refl _ | skip)
        refine fun _ _ => ⟨fun e8 => ⟨false, rfl, no fun ok => ?_, trivial⟩, fun e8 => ⟨(), ?_⟩⟩
        · rcases ok.ol with h | h
          · omega
          · dsimp only at e8; rw [h] at e8; cases e8
        · ((repeat' apply And.intro) <;> first | with_reducible rfl | omega | (dsimp only; omega) | exact RowsEq.refl _ _ _ | assumption | rfl | trivial | exact Nat.le_refl _ | skip)
          exact fin (.inl e2) (by omega) (by omega) (.inl (by omega)) (.inr e8)
      · ((repeat' apply And.intro) <;> first | with_reducible rfl | omega | (dsimp only; omega) | exact RowsEq.refl _ _ _ | assumption | rfl | trivial | exact Nat.le_refl _ | skip)
        exact fin (.inl e2) (by omega) (by omega) (.inl (by omega)) (.inl (by omega))
  · ((repeat' apply And.intro) <;> first | with_reducible rfl | omega | (dsimp only; omega) | exact RowsEq.refl _ _ _ | assumption | rfl | trivial | exact Nat.le_refl _ | skip)
  · obtain ⟨hi, hj⟩ := hi
    have hi : i < a.il.length := by omega
    have hb := hl.il
    refine ⟨by omega, hi, gl a.il i, ?_⟩
    ((repeat' apply And.intro) <;> first | with_reducible rfl | omega | (dsimp only; omega) | exact RowsEq.refl _ _ _ | assumption | rfl | trivial | exact Nat.le_refl _ | skip)
    refine fun _ _ => ⟨fun e => ⟨false, rfl, no fun ok => ?_, trivial⟩, fun e => ⟨by omega, i + 1, ?_⟩⟩
    · have h := ok.ia i hi
      have e' : mayI (gl a.il i) = false := e
      rw [h] at e'; cases e'
    · have e' : mayI (gl a.il i) = true := e
      have nxt : ∀ j, j < i + 1 → mayI (gl a.il j) = true := fun j h => by
        by_cases hji : j = i
        · rw [hji]; exact e'
        · exact hj j (by omega)
      ((repeat' apply And.intro) <;> first | with_reducible rfl | omega | (dsimp only; omega) | exact RowsEq.refl _ _ _ | assumption | rfl | trivial | exact Nat.le_refl _ | skip)
  · obtain ⟨hi, hj⟩ := hi
    have hi : i = a.il.length := by omega
    subst hi
    ((repeat' apply And.intro) <;> first | with_reducible rfl | omega | (dsimp only; omega) | exact RowsEq.refl _ _ _ | assumption | rfl | trivial | exact Nat.le_refl _ | skip)
  · ((repeat' apply And.intro) <;> first | with_reducible rfl | omega | (dsimp only; omega) | exact RowsEq.refl _ _ _ | assumption | rfl | trivial | exact Nat.le_refl _ | skip)
  · obtain ⟨hi, hj⟩ := hi
    have hi : i < a.ml.length := by omega
    have hb := hl.ml
    have ei : ((i : Int) - 1).toNat = i - 1 := by omega
    rw [ei]
    refine ⟨by omega, hi, fun _ => ⟨fun e1 => ⟨false, rfl, no fun ok => ?_, trivial⟩, fun e1 _ => ⟨fun e2 => ⟨false, rfl, no fun ok => ?_, trivial⟩, fun e2 => ⟨(gl a.ml i).key, ?_⟩⟩⟩⟩
    · have := (ok.ma i hi).1; omega
    · have := (ok.ma i hi).2.1; omega
    · ((repeat' apply And.intro) <;> first | with_reducible rfl | omega | (dsimp only; omega) | exact RowsEq.refl _ _ _ | assumption | rfl | trivial | exact Nat.le_refl _ | skip)
      refine fun _ _ => ⟨fun e3 => ⟨false, rfl, no fun ok => ?_, trivial⟩, fun e3 => ⟨fun e4 _ => ⟨by omega, by omega, by omega, fun _ => ⟨fun e5 => ⟨false, rfl, no fun ok => ?_, trivial⟩, fun e5 => ⟨by omega, i + 1, ?_⟩⟩⟩, fun e4 => ⟨by omega, i + 1, ?_⟩⟩⟩
      · have h := (ok.ma i hi).2.2.1
        rw [h] at e3; cases e3
      · have := (ok.ma i hi).2.2.2 (by omega); omega
      · have nxt : ∀ j, j < i + 1 → 1 ≤ (gl a.ml j).seq ∧ (gl a.ml j).seq ≤ 1099511627776 ∧ keyB (gl a.ml j).key = true ∧ (0 < j → (gl a.ml (j - 1)).seq < (gl a.ml j).seq) := fun j h => by
          by_cases hji : j = i
          · subst hji; exact ⟨by omega, by omega, e3, fun _ => by omega⟩
          · exact hj j (by omega)
        ((repeat' apply And.intro) <;> first | with_reducible rfl | omega | (dsimp only; omega) | exact RowsEq.refl _ _ _ | assumption | rfl | trivial | exact Nat.le_refl _ | skip)
      · have nxt : ∀ j, j < i + 1 → 1 ≤ (gl a.ml j).seq ∧ (gl a.ml j).seq ≤ 1099511627776 ∧ keyB (gl a.ml j).key = true ∧ (0 < j → (gl a.ml (j - 1)).seq < (gl a.ml j).seq) := fun j h => by
          by_cases hji : j = i
          · subst hji; exact ⟨by omega, by omega, e3, fun _ => by omega⟩
          · exact hj j (by omega)
        ((repeat' apply And.intro) <;> first | with_reducible rfl | omega | (dsimp only; omega) | exact RowsEq.refl _ _ _ | assumption | rfl | trivial | exact Nat.le_refl _ | skip)
  · obtain ⟨hi, hj⟩ := hi
    have hi : i = a.ml.length := by omega
    subst hi
    exact okMR_of hh hl hia hj)
theorem callMsg : CallsBy (Y Try.prog).G.X 11 cMsg := fn_ok okY (tab := tabMsg) ⟨callEqI, callRMayI, callRKey, callNodes, trivial⟩ bodyMsg
structure InA where
  g : Int
  n : Nat
  cap : Nat
  rows : Nat → Nat → Value
noncomputable def cIn : Con where
  α := InA
  β := Unit
  m := 1
  m' := 1
  pre := fun a => a.n ≤ 1000 ∧ ∀ i, i < a.n → 0 ≤ toI (a.rows i 0) ∧ toI (a.rows i 0) ≤ a.g
  args := fun a => [.a (.int .i64 a.g), .a (.slc 0 0 1 a.n a.cap)]
  hp := fun _ => []
  ro := fun a => [(0, .arr 2 [.int .i64] a.n a.rows)]
  post := fun _ _ => True
  res := fun _ _ => .a .tt
  hp' := fun _ _ => []
def iIn (a : InA) : An := .flat 2 Nat (fun s i => s.int 9 i) (fun _ i => i ≤ a.n) (fun _ i => a.n - i)
set_option maxHeartbeats 4000000 in
theorem bodyIn : fnBody (Y Try.prog) [] 34 cIn fun a => [(34, [iIn a], [])] := fnBody.of (p :=
  ∀ (a : InA), (a.n ≤ (1000 : Nat) ∧
  ∀ (i : Nat), i < a.n →
  (0 : Int) ≤ toI (a.rows i (0 : Nat)) ∧
  toI (a.rows i (0 : Nat)) ≤ a.g) →
  (∃ (a_2 : Nat), (0 : Int) = (↑a_2 : Int) ∧
  (↑a.n : Int) = (↑a.n : Int) ∧
  ((0 : Nat) = (0 : Nat) ∧
  a.n = a.n ∧
  a.cap = a.cap) ∧
  Bool.false = Bool.false ∧
  a.g = a.g ∧
  ((0 : Nat) = (0 : Nat) ∧
  a.n = a.n ∧
  a.cap = a.cap) ∧
  (a.n ≤ a.n ∧
  RowsEq a.n (1 : Nat) a.rows a.rows) ∧
  a_2 ≤ a.n ∧
  True) ∧
  ∀ (a_2 : Nat), a_2 ≤ a.n →
  (Decidable.decide ((↑a_2 : Int) < (↑a.n : Int)) = Bool.true →
  ((0 : Int) ≤ (↑a_2 : Int) ∧
  (↑a_2 : Int) < (↑a.n : Int)) ∧
  (0 : Nat) + (↑a_2 : Int).toNat < a.n ∧
  (InR IntKind.i64 (toI (a.rows ((0 : Nat) + (↑a_2 : Int).toNat) (0 : Nat))) →
  (Decidable.decide (toI (a.rows ((0 : Nat) + (↑a_2 : Int).toNat) (0 : Nat)) < (0 : Int)) = Bool.true →
  ∃ (b : Unit), Bool.false = Bool.true ∧
  True ∧
  True) ∧
  (Decidable.decide (toI (a.rows ((0 : Nat) + (↑a_2 : Int).toNat) (0 : Nat)) < (0 : Int)) = Bool.false →
  (Decidable.decide (a.g < toI (a.rows ((0 : Nat) + (↑a_2 : Int).toNat) (0 : Nat))) = Bool.true →
  ∃ (b : Unit), Bool.false = Bool.true ∧
  True ∧
  True) ∧
  (Decidable.decide (a.g < toI (a.rows ((0 : Nat) + (↑a_2 : Int).toNat) (0 : Nat))) = Bool.false →
  InR IntKind.i64 ((↑a_2 : Int) + (1 : Int)) ∧
  ∃ (a' : Nat), (↑a_2 : Int) + (1 : Int) = (↑a' : Int) ∧
  (↑a.n : Int) = (↑a.n : Int) ∧
  ((0 : Nat) = (0 : Nat) ∧
  a.n = a.n ∧
  a.cap = a.cap) ∧
  Bool.false = Bool.false ∧
  a.g = a.g ∧
  ((0 : Nat) = (0 : Nat) ∧
  a.n = a.n ∧
  a.cap = a.cap) ∧
  (a.n ≤ a.n ∧
  RowsEq a.n (1 : Nat) a.rows a.rows) ∧
  a' ≤ a.n ∧
  a.n - a' < a.n - a_2)))) ∧
  (Decidable.decide ((↑a_2 : Int) < (↑a.n : Int)) = Bool.false →
  ∃ (b : Unit), Bool.true = Bool.true ∧
  True ∧
  True)) (by kernel_rfl) (by
  rintro ⟨g, n, cap, rows⟩ ⟨h1, h2⟩
  dsimp only at h1 h2 ⊢
  simp only [Nat.zero_add, Int.toNat_natCast, InR]
  refine ⟨⟨0, ?_⟩, fun i hi => ⟨fun c1 => ?_, fun _ => ⟨(), trivial, trivial, trivial⟩⟩⟩
  · ((repeat' apply And.intro) <;> first | with_reducible rfl | omega | (dsimp only; omega) | exact RowsEq.refl _ _ _ | assumption | rfl | trivial | exact Nat.le_refl _ | skip)
  · simp only [decide_eq_true_eq] at c1
    have hi : i < n := by omega
    obtain ⟨g1, g2⟩ := h2 i hi
    refine ⟨by omega, hi, fun _ => ⟨fun g => (by exfalso; simp only [decide_eq_true_eq] at g; omega), fun _ => ⟨fun g => (by exfalso; simp only [decide_eq_true_eq] at g; omega), fun _ => ⟨by omega, i + 1, ?_⟩⟩⟩⟩
    ((repeat' apply And.intro) <;> first | with_reducible rfl | omega | (dsimp only; omega) | exact RowsEq.refl _ _ _ | assumption | rfl | trivial | exact Nat.le_refl _ | skip))
theorem callIn : CallsBy (Y Try.prog).G.X 34 cIn := fn_ok okY (tab := []) trivial bodyIn
noncomputable def cMayM : Con where
  α := MsgA
  β := Unit
  m := 4
  m' := 4
  pre := fun a => okMR a
  args := fun a => [.agg (a.atoms 0)]
  hp := fun _ => []
  ro := fun a => a.chs 0
  post := fun _ _ => True
  res := fun _ _ => .a .tt
  hp' := fun _ _ => []
noncomputable def tabLists : List (Nat × Con) := [(40, cKey), (35, cMayI), (41, cMay)]
def iLs1 (a : MsgA) : An := .flat 3 Nat (fun s i => (s.int 11 i).int 3 (if i = 0 then 0 else (gl a.ml (i - 1)).seq)) (fun _ i => i ≤ a.ml.length) (fun _ i => a.ml.length - i)
def iLs2 (a : MsgA) : An := .flat 10 Nat (fun s i => s.int 36 i) (fun _ i => i ≤ a.il.length) (fun _ i => a.il.length - i)
set_option maxHeartbeats 4000000 in
theorem bodyLists : fnBody (Y Try.prog) tabLists 36 cMayM fun a => [(36, [iLs1 a, iLs2 a], [])] := fnBody.of (p :=
  ∀ (a : MsgA), okMR a →
  (∃ (a_2 : Nat), ((0 : Int) = if a_2 = (0 : Nat) then (0 : Int) else (gl a.ml (a_2 - (1 : Nat))).seq) ∧
  (0 : Int) = (↑a_2 : Int) ∧
  (↑a.ml.length : Int) = (↑a.ml.length : Int) ∧
  ((0 : Nat) = (0 : Nat) ∧
  a.ml.length = a.ml.length ∧
  a.cm = a.cm) ∧
  Bool.false = Bool.false ∧
  (0 : Nat) = (0 : Nat) ∧
  a.m.k = a.m.k ∧
  a.m.f = a.m.f ∧
  a.m.t = a.m.t ∧
  a.m.ep = a.m.ep ∧
  a.m.ti = a.m.ti ∧
  a.m.sq = a.m.sq ∧
  a.m.n = a.m.n ∧
  a.m.id = a.m.id ∧
  a.m.op = a.m.op ∧
  a.m.key = a.m.key ∧
  a.m.err = a.m.err ∧
  a.m.last = a.m.last ∧
  a.m.it.key = a.m.it.key ∧
  a.m.it.val = a.m.it.val ∧
  a.m.it.en = a.m.it.en ∧
  a.m.it.gone = a.m.it.gone ∧
  ((0 : Nat) = (0 : Nat) ∧
  a.il.length = a.il.length ∧
  a.ci = a.ci) ∧
  ((0 : Nat) = (0 : Nat) ∧
  a.ml.length = a.ml.length ∧
  a.cm = a.cm) ∧
  ((0 : Nat) = (0 : Nat) ∧
  a.nl.length = a.nl.length ∧
  a.cn = a.cn) ∧
  a.m.base = a.m.base ∧
  ((0 : Nat) = (0 : Nat) ∧
  a.ol.length = a.ol.length ∧
  a.co = a.co) ∧
  a.m.k = a.m.k ∧
  a.m.f = a.m.f ∧
  a.m.t = a.m.t ∧
  a.m.ep = a.m.ep ∧
  a.m.ti = a.m.ti ∧
  a.m.sq = a.m.sq ∧
  a.m.n = a.m.n ∧
  a.m.id = a.m.id ∧
  a.m.op = a.m.op ∧
  a.m.key = a.m.key ∧
  a.m.err = a.m.err ∧
  a.m.last = a.m.last ∧
  a.m.it.key = a.m.it.key ∧
  a.m.it.val = a.m.it.val ∧
  a.m.it.en = a.m.it.en ∧
  a.m.it.gone = a.m.it.gone ∧
  ((0 : Nat) = (0 : Nat) ∧
  a.il.length = a.il.length ∧
  a.ci = a.ci) ∧
  ((0 : Nat) = (0 : Nat) ∧
  a.ml.length = a.ml.length ∧
  a.cm = a.cm) ∧
  ((0 : Nat) = (0 : Nat) ∧
  a.nl.length = a.nl.length ∧
  a.cn = a.cn) ∧
  a.m.base = a.m.base ∧
  ((0 : Nat) = (0 : Nat) ∧
  a.ol.length = a.ol.length ∧
  a.co = a.co) ∧
  (a.il.length ≤ a.il.length ∧
  RowsEq a.il.length (4 : Nat) (encRows encItem a.il) (encRows encItem a.il)) ∧
  (a.ml.length ≤ a.ml.length ∧
  RowsEq a.ml.length (2 : Nat) (encRows encMark a.ml) (encRows encMark a.ml)) ∧
  (a.nl.length ≤ a.nl.length ∧
  RowsEq a.nl.length (1 : Nat) (encRows encI a.nl) (encRows encI a.nl)) ∧
  (a.ol.length ≤ a.ol.length ∧
  RowsEq a.ol.length (1 : Nat) (encRows encI a.ol) (encRows encI a.ol)) ∧
  a_2 ≤ a.ml.length ∧
  True) ∧
  ∀ (a_2 : Nat), a_2 ≤ a.ml.length →
  (Decidable.decide ((↑a_2 : Int) < (↑a.ml.length : Int)) = Bool.true →
  ((0 : Int) ≤ (↑a_2 : Int) ∧
  (↑a_2 : Int) < (↑a.ml.length : Int)) ∧
  (0 : Nat) + (↑a_2 : Int).toNat < a.ml.length ∧
  (InR IntKind.i64 (gl a.ml ((0 : Nat) + (↑a_2 : Int).toNat)).seq →
  (Decidable.decide ((gl a.ml ((0 : Nat) + (↑a_2 : Int).toNat)).seq ≤ if a_2 = (0 : Nat) then (0 : Int) else (gl a.ml (a_2 - (1 : Nat))).seq) = Bool.true →
  ∃ (b : Unit), Bool.false = Bool.true ∧
  True ∧
  True) ∧
  (Decidable.decide ((gl a.ml ((0 : Nat) + (↑a_2 : Int).toNat)).seq ≤ if a_2 = (0 : Nat) then (0 : Int) else (gl a.ml (a_2 - (1 : Nat))).seq) = Bool.false →
  InR IntKind.i64 (gl a.ml ((0 : Nat) + (↑a_2 : Int).toNat)).seq →
  (Decidable.decide ((1099511627776 : Int) < (gl a.ml ((0 : Nat) + (↑a_2 : Int).toNat)).seq) = Bool.true →
  ∃ (b : Unit), Bool.false = Bool.true ∧
  True ∧
  True) ∧
  (Decidable.decide ((1099511627776 : Int) < (gl a.ml ((0 : Nat) + (↑a_2 : Int).toNat)).seq) = Bool.false →
  ∃ (a_9 : ByteArray), (gl a.ml ((0 : Nat) + (↑a_2 : Int).toNat)).key = a_9 ∧
  True ∧
  ∀ (b : Unit), True →
  ((!keyB a_9) = Bool.true →
  ∃ (b : Unit), Bool.false = Bool.true ∧
  True ∧
  True) ∧
  ((!keyB a_9) = Bool.false →
  InR IntKind.i64 (gl a.ml ((0 : Nat) + (↑a_2 : Int).toNat)).seq →
  InR IntKind.i64 ((↑a_2 : Int) + (1 : Int)) ∧
  ∃ (a' : Nat), ((gl a.ml ((0 : Nat) + (↑a_2 : Int).toNat)).seq = if a' = (0 : Nat) then (0 : Int) else (gl a.ml (a' - (1 : Nat))).seq) ∧
  (↑a_2 : Int) + (1 : Int) = (↑a' : Int) ∧
  (↑a.ml.length : Int) = (↑a.ml.length : Int) ∧
  ((0 : Nat) = (0 : Nat) ∧
  a.ml.length = a.ml.length ∧
  a.cm = a.cm) ∧
  Bool.false = Bool.false ∧
  (0 : Nat) = (0 : Nat) ∧
  a.m.k = a.m.k ∧
  a.m.f = a.m.f ∧
  a.m.t = a.m.t ∧
  a.m.ep = a.m.ep ∧
  a.m.ti = a.m.ti ∧
  a.m.sq = a.m.sq ∧
  a.m.n = a.m.n ∧
  a.m.id = a.m.id ∧
  a.m.op = a.m.op ∧
  a.m.key = a.m.key ∧
  a.m.err = a.m.err ∧
  a.m.last = a.m.last ∧
  a.m.it.key = a.m.it.key ∧
  a.m.it.val = a.m.it.val ∧
  a.m.it.en = a.m.it.en ∧
  a.m.it.gone = a.m.it.gone ∧
  ((0 : Nat) = (0 : Nat) ∧
  a.il.length = a.il.length ∧
  a.ci = a.ci) ∧
  ((0 : Nat) = (0 : Nat) ∧
  a.ml.length = a.ml.length ∧
  a.cm = a.cm) ∧
  ((0 : Nat) = (0 : Nat) ∧
  a.nl.length = a.nl.length ∧
  a.cn = a.cn) ∧
  a.m.base = a.m.base ∧
  ((0 : Nat) = (0 : Nat) ∧
  a.ol.length = a.ol.length ∧
  a.co = a.co) ∧
  a.m.k = a.m.k ∧
  a.m.f = a.m.f ∧
  a.m.t = a.m.t ∧
  a.m.ep = a.m.ep ∧
  a.m.ti = a.m.ti ∧
  a.m.sq = a.m.sq ∧
  a.m.n = a.m.n ∧
  a.m.id = a.m.id ∧
  a.m.op = a.m.op ∧
  a.m.key = a.m.key ∧
  a.m.err = a.m.err ∧
  a.m.last = a.m.last ∧
  a.m.it.key = a.m.it.key ∧
  a.m.it.val = a.m.it.val ∧
  a.m.it.en = a.m.it.en ∧
  a.m.it.gone = a.m.it.gone ∧
  ((0 : Nat) = (0 : Nat) ∧
  a.il.length = a.il.length ∧
  a.ci = a.ci) ∧
  ((0 : Nat) = (0 : Nat) ∧
  a.ml.length = a.ml.length ∧
  a.cm = a.cm) ∧
  ((0 : Nat) = (0 : Nat) ∧
  a.nl.length = a.nl.length ∧
  a.cn = a.cn) ∧
  a.m.base = a.m.base ∧
  ((0 : Nat) = (0 : Nat) ∧
  a.ol.length = a.ol.length ∧
  a.co = a.co) ∧
  (a.il.length ≤ a.il.length ∧
  RowsEq a.il.length (4 : Nat) (encRows encItem a.il) (encRows encItem a.il)) ∧
  (a.ml.length ≤ a.ml.length ∧
  RowsEq a.ml.length (2 : Nat) (encRows encMark a.ml) (encRows encMark a.ml)) ∧
  (a.nl.length ≤ a.nl.length ∧
  RowsEq a.nl.length (1 : Nat) (encRows encI a.nl) (encRows encI a.nl)) ∧
  (a.ol.length ≤ a.ol.length ∧
  RowsEq a.ol.length (1 : Nat) (encRows encI a.ol) (encRows encI a.ol)) ∧
  a' ≤ a.ml.length ∧
  a.ml.length - a' < a.ml.length - a_2))))) ∧
  (Decidable.decide ((↑a_2 : Int) < (↑a.ml.length : Int)) = Bool.false →
  (∃ (a_5 : Nat), (0 : Int) = (↑a_5 : Int) ∧
  (↑a.il.length : Int) = (↑a.il.length : Int) ∧
  ((0 : Nat) = (0 : Nat) ∧
  a.il.length = a.il.length ∧
  a.ci = a.ci) ∧
  Decidable.decide ((↑a_2 : Int) < (↑a.ml.length : Int)) = Decidable.decide ((↑a_2 : Int) < (↑a.ml.length : Int)) ∧
  ((if a_2 = (0 : Nat) then (0 : Int) else (gl a.ml (a_2 - (1 : Nat))).seq) = if a_2 = (0 : Nat) then (0 : Int) else (gl a.ml (a_2 - (1 : Nat))).seq) ∧
  (↑a_2 : Int) = (↑a_2 : Int) ∧
  (↑a.ml.length : Int) = (↑a.ml.length : Int) ∧
  ((0 : Nat) = (0 : Nat) ∧
  a.ml.length = a.ml.length ∧
  a.cm = a.cm) ∧
  Bool.false = Bool.false ∧
  (0 : Nat) = (0 : Nat) ∧
  a.m.k = a.m.k ∧
  a.m.f = a.m.f ∧
  a.m.t = a.m.t ∧
  a.m.ep = a.m.ep ∧
  a.m.ti = a.m.ti ∧
  a.m.sq = a.m.sq ∧
  a.m.n = a.m.n ∧
  a.m.id = a.m.id ∧
  a.m.op = a.m.op ∧
  a.m.key = a.m.key ∧
  a.m.err = a.m.err ∧
  a.m.last = a.m.last ∧
  a.m.it.key = a.m.it.key ∧
  a.m.it.val = a.m.it.val ∧
  a.m.it.en = a.m.it.en ∧
  a.m.it.gone = a.m.it.gone ∧
  ((0 : Nat) = (0 : Nat) ∧
  a.il.length = a.il.length ∧
  a.ci = a.ci) ∧
  ((0 : Nat) = (0 : Nat) ∧
  a.ml.length = a.ml.length ∧
  a.cm = a.cm) ∧
  ((0 : Nat) = (0 : Nat) ∧
  a.nl.length = a.nl.length ∧
  a.cn = a.cn) ∧
  a.m.base = a.m.base ∧
  ((0 : Nat) = (0 : Nat) ∧
  a.ol.length = a.ol.length ∧
  a.co = a.co) ∧
  a.m.k = a.m.k ∧
  a.m.f = a.m.f ∧
  a.m.t = a.m.t ∧
  a.m.ep = a.m.ep ∧
  a.m.ti = a.m.ti ∧
  a.m.sq = a.m.sq ∧
  a.m.n = a.m.n ∧
  a.m.id = a.m.id ∧
  a.m.op = a.m.op ∧
  a.m.key = a.m.key ∧
  a.m.err = a.m.err ∧
  a.m.last = a.m.last ∧
  a.m.it.key = a.m.it.key ∧
  a.m.it.val = a.m.it.val ∧
  a.m.it.en = a.m.it.en ∧
  a.m.it.gone = a.m.it.gone ∧
  ((0 : Nat) = (0 : Nat) ∧
  a.il.length = a.il.length ∧
  a.ci = a.ci) ∧
  ((0 : Nat) = (0 : Nat) ∧
  a.ml.length = a.ml.length ∧
  a.cm = a.cm) ∧
  ((0 : Nat) = (0 : Nat) ∧
  a.nl.length = a.nl.length ∧
  a.cn = a.cn) ∧
  a.m.base = a.m.base ∧
  ((0 : Nat) = (0 : Nat) ∧
  a.ol.length = a.ol.length ∧
  a.co = a.co) ∧
  (a.il.length ≤ a.il.length ∧
  RowsEq a.il.length (4 : Nat) (encRows encItem a.il) (encRows encItem a.il)) ∧
  (a.ml.length ≤ a.ml.length ∧
  RowsEq a.ml.length (2 : Nat) (encRows encMark a.ml) (encRows encMark a.ml)) ∧
  (a.nl.length ≤ a.nl.length ∧
  RowsEq a.nl.length (1 : Nat) (encRows encI a.nl) (encRows encI a.nl)) ∧
  (a.ol.length ≤ a.ol.length ∧
  RowsEq a.ol.length (1 : Nat) (encRows encI a.ol) (encRows encI a.ol)) ∧
  a_5 ≤ a.il.length ∧
  True) ∧
  ∀ (a_5 : Nat), a_5 ≤ a.il.length →
  (Decidable.decide ((↑a_5 : Int) < (↑a.il.length : Int)) = Bool.true →
  ((0 : Int) ≤ (↑a_5 : Int) ∧
  (↑a_5 : Int) < (↑a.il.length : Int)) ∧
  (0 : Nat) + (↑a_5 : Int).toNat < a.il.length ∧
  ∃ (a_8 : ItemR), (gl a.il ((0 : Nat) + (↑a_5 : Int).toNat)).key = a_8.key ∧
  (gl a.il ((0 : Nat) + (↑a_5 : Int).toNat)).val = a_8.val ∧
  (gl a.il ((0 : Nat) + (↑a_5 : Int).toNat)).en = a_8.en ∧
  (gl a.il ((0 : Nat) + (↑a_5 : Int).toNat)).gone = a_8.gone ∧
  True ∧
  ∀ (b : Unit), True →
  ((!mayI a_8) = Bool.true →
  ∃ (b : Unit), Bool.false = Bool.true ∧
  True ∧
  True) ∧
  ((!mayI a_8) = Bool.false →
  InR IntKind.i64 ((↑a_5 : Int) + (1 : Int)) ∧
  ∃ (a' : Nat), (↑a_5 : Int) + (1 : Int) = (↑a' : Int) ∧
  (↑a.il.length : Int) = (↑a.il.length : Int) ∧
  ((0 : Nat) = (0 : Nat) ∧
  a.il.length = a.il.length ∧
  a.ci = a.ci) ∧
  Decidable.decide ((↑a_2 : Int) < (↑a.ml.length : Int)) = Decidable.decide ((↑a_2 : Int) < (↑a.ml.length : Int)) ∧
  ((if a_2 = (0 : Nat) then (0 : Int) else (gl a.ml (a_2 - (1 : Nat))).seq) = if a_2 = (0 : Nat) then (0 : Int) else (gl a.ml (a_2 - (1 : Nat))).seq) ∧
  (↑a_2 : Int) = (↑a_2 : Int) ∧
  (↑a.ml.length : Int) = (↑a.ml.length : Int) ∧
  ((0 : Nat) = (0 : Nat) ∧
  a.ml.length = a.ml.length ∧
  a.cm = a.cm) ∧
  Bool.false = Bool.false ∧
  (0 : Nat) = (0 : Nat) ∧
  a.m.k = a.m.k ∧
  a.m.f = a.m.f ∧
  a.m.t = a.m.t ∧
  a.m.ep = a.m.ep ∧
  a.m.ti = a.m.ti ∧
  a.m.sq = a.m.sq ∧
  a.m.n = a.m.n ∧
  a.m.id = a.m.id ∧
  a.m.op = a.m.op ∧
  a.m.key = a.m.key ∧
  a.m.err = a.m.err ∧
  a.m.last = a.m.last ∧
  a.m.it.key = a.m.it.key ∧
  a.m.it.val = a.m.it.val ∧
  a.m.it.en = a.m.it.en ∧
  a.m.it.gone = a.m.it.gone ∧
  ((0 : Nat) = (0 : Nat) ∧
  a.il.length = a.il.length ∧
  a.ci = a.ci) ∧
  ((0 : Nat) = (0 : Nat) ∧
  a.ml.length = a.ml.length ∧
  a.cm = a.cm) ∧
  ((0 : Nat) = (0 : Nat) ∧
  a.nl.length = a.nl.length ∧
  a.cn = a.cn) ∧
  a.m.base = a.m.base ∧
  ((0 : Nat) = (0 : Nat) ∧
  a.ol.length = a.ol.length ∧
  a.co = a.co) ∧
  a.m.k = a.m.k ∧
  a.m.f = a.m.f ∧
  a.m.t = a.m.t ∧
  a.m.ep = a.m.ep ∧
  a.m.ti = a.m.ti ∧
  a.m.sq = a.m.sq ∧
  a.m.n = a.m.n ∧
  a.m.id = a.m.id ∧
  a.m.op = a.m.op ∧
  a.m.key = a.m.key ∧
  a.m.err = a.m.err ∧
  a.m.last = a.m.last ∧
  a.m.it.key = a.m.it.key ∧
  a.m.it.val = a.m.it.val ∧
  a.m.it.en = a.m.it.en ∧
  a.m.it.gone = a.m.it.gone ∧
  ((0 : Nat) = (0 : Nat) ∧
  a.il.length = a.il.length ∧
  a.ci = a.ci) ∧
  ((0 : Nat) = (0 : Nat) ∧
  a.ml.length = a.ml.length ∧
  a.cm = a.cm) ∧
  ((0 : Nat) = (0 : Nat) ∧
  a.nl.length = a.nl.length ∧
  a.cn = a.cn) ∧
  a.m.base = a.m.base ∧
  ((0 : Nat) = (0 : Nat) ∧
  a.ol.length = a.ol.length ∧
  a.co = a.co) ∧
  (a.il.length ≤ a.il.length ∧
  RowsEq a.il.length (4 : Nat) (encRows encItem a.il) (encRows encItem a.il)) ∧
  (a.ml.length ≤ a.ml.length ∧
  RowsEq a.ml.length (2 : Nat) (encRows encMark a.ml) (encRows encMark a.ml)) ∧
  (a.nl.length ≤ a.nl.length ∧
  RowsEq a.nl.length (1 : Nat) (encRows encI a.nl) (encRows encI a.nl)) ∧
  (a.ol.length ≤ a.ol.length ∧
  RowsEq a.ol.length (1 : Nat) (encRows encI a.ol) (encRows encI a.ol)) ∧
  a' ≤ a.il.length ∧
  a.il.length - a' < a.il.length - a_5)) ∧
  (Decidable.decide ((↑a_5 : Int) < (↑a.il.length : Int)) = Bool.false →
  (Decidable.decide ((↑a.il.length : Int) ≤ (4 : Int)) = Bool.true →
  (Decidable.decide ((↑a.ml.length : Int) ≤ (4 : Int)) = Bool.true →
  (((↑a.nl.length : Int) == (0 : Int)) = Bool.true →
  (((↑a.ol.length : Int) == (0 : Int)) = Bool.true →
  ∃ (b : Unit), Bool.true = Bool.true ∧
  True ∧
  True) ∧
  (((↑a.ol.length : Int) == (0 : Int)) = Bool.false →
  ∃ (a_12 : NodesA), ((0 : Nat) = (0 : Nat) ∧
  a.ol.length = a_12.l.length ∧
  a.co = a_12.cap) ∧
  (a_12.l.length ≤ a.ol.length ∧
  RowsEq a_12.l.length (1 : Nat) (encRows encI a.ol) (encRows encI a_12.l)) ∧
  a_12.l.length < (100000 : Nat) ∧
  ∀ (b : Unit), True →
  ∃ (b : Unit), mayN a_12.l = Bool.true ∧
  True ∧
  True)) ∧
  (((↑a.nl.length : Int) == (0 : Int)) = Bool.false →
  ∃ (a_11 : NodesA), ((0 : Nat) = (0 : Nat) ∧
  a.nl.length = a_11.l.length ∧
  a.cn = a_11.cap) ∧
  (a_11.l.length ≤ a.nl.length ∧
  RowsEq a_11.l.length (1 : Nat) (encRows encI a.nl) (encRows encI a_11.l)) ∧
  a_11.l.length < (100000 : Nat) ∧
  ∀ (b : Unit), True →
  (mayN a_11.l = Bool.true →
  (((↑a.ol.length : Int) == (0 : Int)) = Bool.true →
  ∃ (b : Unit), Bool.true = Bool.true ∧
  True ∧
  True) ∧
  (((↑a.ol.length : Int) == (0 : Int)) = Bool.false →
  ∃ (a_15 : NodesA), ((0 : Nat) = (0 : Nat) ∧
  a.ol.length = a_15.l.length ∧
  a.co = a_15.cap) ∧
  (a_15.l.length ≤ a.ol.length ∧
  RowsEq a_15.l.length (1 : Nat) (encRows encI a.ol) (encRows encI a_15.l)) ∧
  a_15.l.length < (100000 : Nat) ∧
  ∀ (b : Unit), True →
  ∃ (b : Unit), mayN a_15.l = Bool.true ∧
  True ∧
  True)) ∧
  (mayN a_11.l = Bool.false →
  ∃ (b : Unit), Bool.false = Bool.true ∧
  True ∧
  True))) ∧
  (Decidable.decide ((↑a.ml.length : Int) ≤ (4 : Int)) = Bool.false →
  ∃ (b : Unit), Bool.false = Bool.true ∧
  True ∧
  True)) ∧
  (Decidable.decide ((↑a.il.length : Int) ≤ (4 : Int)) = Bool.false →
  ∃ (b : Unit), Bool.false = Bool.true ∧
  True ∧
  True)))) (by kernel_rfl) (by
  rintro ⟨m, il, ml, nl, ol, ci, cm, cn, co⟩ ok
  obtain ⟨_, _, _, _, _, _, _, _, _, _, _, _, _, o1, o2, o3, o4, o5, o6, o7⟩ := ok
  dsimp only at o1 o2 o3 o4 o5 o6 o7 ⊢
  simp only [Nat.zero_add, Int.toNat_natCast, InR, decide_eq_true_eq, decide_eq_false_iff_not]
  have hn : nl.length < 100000 := by
    rcases o4 with h | h
    · omega
    · have := mayN_len h; omega
  have ho : ol.length < 100000 := by
    rcases o5 with h | h
    · omega
    · have := mayN_len h; omega
  refine ⟨⟨0, ?_⟩, fun i hi => ⟨fun c => ?_, fun c => ⟨⟨0, ?_⟩, fun j hj => ⟨fun d => ?_, fun d => ⟨fun _ => ⟨fun _ => ?_, fun g => absurd o3 (by omega)⟩, fun g => absurd o2 (by omega)⟩⟩⟩⟩⟩
  · ((repeat' apply And.intro) <;> first | with_reducible rfl | omega | (dsimp only; omega) | exact RowsEq.refl _ _ _ | assumption | rfl | trivial | exact Nat.le_refl _ | skip)
  · have hi : i < ml.length := by omega
    obtain ⟨q1, q2, q3, q4⟩ := o7 i hi
    have hlt : (if i = 0 then 0 else (gl ml (i - 1)).seq) < (gl ml i).seq := by
      split
      · omega
      · exact q4 (by omega)
    refine ⟨by omega, hi, fun _ => ⟨fun g => absurd hlt (by omega), fun _ _ => ⟨fun g => absurd q2 (by omega), fun _ => ⟨(gl ml i).key, ?_⟩⟩⟩⟩
    ((repeat' apply And.intro) <;> first | with_reducible rfl | omega | (dsimp only; omega) | exact RowsEq.refl _ _ _ | assumption | rfl | trivial | exact Nat.le_refl _ | skip)
    rw [q3]
    refine fun _ _ => ⟨fun g => (by cases g), fun _ _ => ⟨by omega, i + 1, ?_⟩⟩
    ((repeat' apply And.intro) <;> first | with_reducible rfl | omega | (dsimp only; omega) | exact RowsEq.refl _ _ _ | assumption | rfl | trivial | exact Nat.le_refl _ | skip)
  · ((repeat' apply And.intro) <;> first | with_reducible rfl | omega | (dsimp only; omega) | exact RowsEq.refl _ _ _ | assumption | rfl | trivial | exact Nat.le_refl _ | skip)
  · have hj : j < il.length := by omega
    refine ⟨by omega, hj, gl il j, ?_⟩
    ((repeat' apply And.intro) <;> first | with_reducible rfl | omega | (dsimp only; omega) | exact RowsEq.refl _ _ _ | assumption | rfl | trivial | exact Nat.le_refl _ | skip)
    rw [o6 j hj]
    refine fun _ _ => ⟨fun g => (by cases g), fun _ => ⟨by omega, j + 1, ?_⟩⟩
    ((repeat' apply And.intro) <;> first | with_reducible rfl | omega | (dsimp only; omega) | exact RowsEq.refl _ _ _ | assumption | rfl | trivial | exact Nat.le_refl _ | skip)
  · refine ⟨fun _ => ⟨fun _ => ⟨(), trivial, trivial, trivial⟩, fun e => ?_⟩, fun e => ?_⟩
    · simp only [beq_eq_false_iff_ne] at e
      have := o5.resolve_left (by omega)
      refine ⟨⟨ol, co⟩, ?_⟩
      ((repeat' apply And.intro) <;> first | with_reducible rfl | omega | (dsimp only; omega) | exact RowsEq.refl _ _ _ | assumption | rfl | trivial | exact Nat.le_refl _ | skip)
      exact fun _ _ => ⟨(), this, trivial, trivial⟩
    · simp only [beq_eq_false_iff_ne] at e
      have hN := o4.resolve_left (by omega)
      refine ⟨⟨nl, cn⟩, ?_⟩
      ((repeat' apply And.intro) <;> first | with_reducible rfl | omega | (dsimp only; omega) | exact RowsEq.refl _ _ _ | assumption | rfl | trivial | exact Nat.le_refl _ | skip)
      refine fun _ _ => ⟨fun _ => ⟨fun _ => ⟨(), trivial, trivial, trivial⟩, fun e => ?_⟩, fun g => (by dsimp only at g; rw [hN] at g; cases g)⟩
      simp only [beq_eq_false_iff_ne] at e
      have := o5.resolve_left (by omega)
      refine ⟨⟨ol, co⟩, ?_⟩
      ((repeat' apply And.intro) <;> first | with_reducible rfl | omega | (dsimp only; omega) | exact RowsEq.refl _ _ _ | assumption | rfl | trivial | exact Nat.le_refl _ | skip)
      exact fun _ _ => ⟨(), this, trivial, trivial⟩)
theorem callLists : CallsBy (Y Try.prog).G.X 36 cMayM := fn_ok okY (tab := tabLists) ⟨callPKey, callPMayI, callMay, trivial⟩ bodyLists
noncomputable def tabMayM : List (Nat × Con) := [(34, cIn), (35, cMayI), (36, cMayM)]
set_option maxHeartbeats 4000000 in
theorem bodyMayM : fnBody (Y Try.prog) tabMayM 28 cMayM fun _ => [] := fnBody.of (p :=
  ∀ (a : MsgA), okMR a →
  InR IntKind.i64 a.m.k →
  (Decidable.decide (a.m.k < (1 : Int)) = Bool.true →
  ∃ (b : Unit), Bool.false = Bool.true ∧
  True ∧
  True) ∧
  (Decidable.decide (a.m.k < (1 : Int)) = Bool.false →
  InR IntKind.i64 a.m.k →
  (Decidable.decide ((14 : Int) < a.m.k) = Bool.true →
  ∃ (b : Unit), Bool.false = Bool.true ∧
  True ∧
  True) ∧
  (Decidable.decide ((14 : Int) < a.m.k) = Bool.false →
  InR IntKind.i64 a.m.f →
  InR IntKind.i64 a.m.t →
  ((a.m.f == a.m.t) = Bool.true →
  ∃ (b : Unit), Bool.false = Bool.true ∧
  True ∧
  True) ∧
  ((a.m.f == a.m.t) = Bool.false →
  InR IntKind.i64 a.m.f →
  InR IntKind.i64 a.m.t →
  ∃ (a_11 : InA), (5 : Int) = a_11.g ∧
  ((0 : Nat) = (0 : Nat) ∧
  (2 : Nat) = a_11.n ∧
  (2 : Nat) = a_11.cap) ∧
  (a_11.n ≤ (2 : Nat) ∧
  RowsEq a_11.n (1 : Nat) (flatRows (1 : Nat) [Value.int IntKind.i64 a.m.f, Value.int IntKind.i64 a.m.t]) a_11.rows) ∧
  (a_11.n ≤ (1000 : Nat) ∧
  ∀ (i : Nat), i < a_11.n →
  (0 : Int) ≤ toI (a_11.rows i (0 : Nat)) ∧
  toI (a_11.rows i (0 : Nat)) ≤ a_11.g) ∧
  ∀ (b : Unit), True →
  InR IntKind.i64 a.m.ep →
  InR IntKind.i64 a.m.ti →
  InR IntKind.i64 a.m.sq →
  InR IntKind.i64 a.m.id →
  InR IntKind.i64 a.m.base →
  ∃ (a_18 : InA), (1099511627776 : Int) = a_18.g ∧
  ((0 : Nat) = (0 : Nat) ∧
  (5 : Nat) = a_18.n ∧
  (5 : Nat) = a_18.cap) ∧
  (a_18.n ≤ (5 : Nat) ∧
  RowsEq a_18.n (1 : Nat) (flatRows (1 : Nat) [Value.int IntKind.i64 a.m.ep, Value.int IntKind.i64 a.m.ti, Value.int IntKind.i64 a.m.sq, Value.int IntKind.i64 a.m.id, Value.int IntKind.i64 a.m.base]) a_18.rows) ∧
  (a_18.n ≤ (1000 : Nat) ∧
  ∀ (i : Nat), i < a_18.n →
  (0 : Int) ≤ toI (a_18.rows i (0 : Nat)) ∧
  toI (a_18.rows i (0 : Nat)) ≤ a_18.g) ∧
  ∀ (b : Unit), True →
  InR IntKind.i64 a.m.n →
  ∃ (a_21 : InA), (1073741824 : Int) = a_21.g ∧
  ((0 : Nat) = (0 : Nat) ∧
  (1 : Nat) = a_21.n ∧
  (1 : Nat) = a_21.cap) ∧
  (a_21.n ≤ (1 : Nat) ∧
  RowsEq a_21.n (1 : Nat) (flatRows (1 : Nat) [Value.int IntKind.i64 a.m.n]) a_21.rows) ∧
  (a_21.n ≤ (1000 : Nat) ∧
  ∀ (i : Nat), i < a_21.n →
  (0 : Int) ≤ toI (a_21.rows i (0 : Nat)) ∧
  toI (a_21.rows i (0 : Nat)) ≤ a_21.g) ∧
  ∀ (b : Unit), True →
  InR IntKind.i64 a.m.op →
  ∃ (a_24 : InA), (2 : Int) = a_24.g ∧
  ((0 : Nat) = (0 : Nat) ∧
  (1 : Nat) = a_24.n ∧
  (1 : Nat) = a_24.cap) ∧
  (a_24.n ≤ (1 : Nat) ∧
  RowsEq a_24.n (1 : Nat) (flatRows (1 : Nat) [Value.int IntKind.i64 a.m.op]) a_24.rows) ∧
  (a_24.n ≤ (1000 : Nat) ∧
  ∀ (i : Nat), i < a_24.n →
  (0 : Int) ≤ toI (a_24.rows i (0 : Nat)) ∧
  toI (a_24.rows i (0 : Nat)) ≤ a_24.g) ∧
  ∀ (b : Unit), True →
  (Decidable.decide ((40 : Int) < (↑a.m.key.size : Int)) = Bool.true →
  ∃ (b : Unit), Bool.false = Bool.true ∧
  True ∧
  True) ∧
  (Decidable.decide ((40 : Int) < (↑a.m.key.size : Int)) = Bool.false →
  InR IntKind.i64 a.m.err →
  ∃ (a_28 : InA), (10 : Int) = a_28.g ∧
  ((0 : Nat) = (0 : Nat) ∧
  (1 : Nat) = a_28.n ∧
  (1 : Nat) = a_28.cap) ∧
  (a_28.n ≤ (1 : Nat) ∧
  RowsEq a_28.n (1 : Nat) (flatRows (1 : Nat) [Value.int IntKind.i64 a.m.err]) a_28.rows) ∧
  (a_28.n ≤ (1000 : Nat) ∧
  ∀ (i : Nat), i < a_28.n →
  (0 : Int) ≤ toI (a_28.rows i (0 : Nat)) ∧
  toI (a_28.rows i (0 : Nat)) ≤ a_28.g) ∧
  ∀ (b : Unit), True →
  ((Decidable.decide (a.m.it.key = (ByteArray.mk #[])) && (Decidable.decide (a.m.it.val = (ByteArray.mk #[])) && (a.m.it.en == (0 : Int) && (a.m.it.gone == Bool.false && Bool.true)))) = Bool.true →
  ∃ (a_31 : MsgA), a.m.k = a_31.m.k ∧
  a.m.f = a_31.m.f ∧
  a.m.t = a_31.m.t ∧
  a.m.ep = a_31.m.ep ∧
  a.m.ti = a_31.m.ti ∧
  a.m.sq = a_31.m.sq ∧
  a.m.n = a_31.m.n ∧
  a.m.id = a_31.m.id ∧
  a.m.op = a_31.m.op ∧
  a.m.key = a_31.m.key ∧
  a.m.err = a_31.m.err ∧
  a.m.last = a_31.m.last ∧
  a.m.it.key = a_31.m.it.key ∧
  a.m.it.val = a_31.m.it.val ∧
  a.m.it.en = a_31.m.it.en ∧
  a.m.it.gone = a_31.m.it.gone ∧
  ((0 : Nat) = (0 : Nat) ∧
  a.il.length = a_31.il.length ∧
  a.ci = a_31.ci) ∧
  ((0 : Nat) = (0 : Nat) ∧
  a.ml.length = a_31.ml.length ∧
  a.cm = a_31.cm) ∧
  ((0 : Nat) = (0 : Nat) ∧
  a.nl.length = a_31.nl.length ∧
  a.cn = a_31.cn) ∧
  a.m.base = a_31.m.base ∧
  ((0 : Nat) = (0 : Nat) ∧
  a.ol.length = a_31.ol.length ∧
  a.co = a_31.co) ∧
  (a_31.il.length ≤ a.il.length ∧
  RowsEq a_31.il.length (4 : Nat) (encRows encItem a.il) (encRows encItem a_31.il)) ∧
  (a_31.ml.length ≤ a.ml.length ∧
  RowsEq a_31.ml.length (2 : Nat) (encRows encMark a.ml) (encRows encMark a_31.ml)) ∧
  (a_31.nl.length ≤ a.nl.length ∧
  RowsEq a_31.nl.length (1 : Nat) (encRows encI a.nl) (encRows encI a_31.nl)) ∧
  (a_31.ol.length ≤ a.ol.length ∧
  RowsEq a_31.ol.length (1 : Nat) (encRows encI a.ol) (encRows encI a_31.ol)) ∧
  okMR a_31 ∧
  ∀ (b : Unit), True →
  ∃ (b : Unit), Bool.true = Bool.true ∧
  True ∧
  True) ∧
  ((Decidable.decide (a.m.it.key = (ByteArray.mk #[])) && (Decidable.decide (a.m.it.val = (ByteArray.mk #[])) && (a.m.it.en == (0 : Int) && (a.m.it.gone == Bool.false && Bool.true)))) = Bool.false →
  ∃ (a_31 : ItemR), a.m.it.key = a_31.key ∧
  a.m.it.val = a_31.val ∧
  a.m.it.en = a_31.en ∧
  a.m.it.gone = a_31.gone ∧
  True ∧
  ∀ (b : Unit), True →
  (mayI a_31 = Bool.true →
  ∃ (a_34 : MsgA), a.m.k = a_34.m.k ∧
  a.m.f = a_34.m.f ∧
  a.m.t = a_34.m.t ∧
  a.m.ep = a_34.m.ep ∧
  a.m.ti = a_34.m.ti ∧
  a.m.sq = a_34.m.sq ∧
  a.m.n = a_34.m.n ∧
  a.m.id = a_34.m.id ∧
  a.m.op = a_34.m.op ∧
  a.m.key = a_34.m.key ∧
  a.m.err = a_34.m.err ∧
  a.m.last = a_34.m.last ∧
  a.m.it.key = a_34.m.it.key ∧
  a.m.it.val = a_34.m.it.val ∧
  a.m.it.en = a_34.m.it.en ∧
  a.m.it.gone = a_34.m.it.gone ∧
  ((0 : Nat) = (0 : Nat) ∧
  a.il.length = a_34.il.length ∧
  a.ci = a_34.ci) ∧
  ((0 : Nat) = (0 : Nat) ∧
  a.ml.length = a_34.ml.length ∧
  a.cm = a_34.cm) ∧
  ((0 : Nat) = (0 : Nat) ∧
  a.nl.length = a_34.nl.length ∧
  a.cn = a_34.cn) ∧
  a.m.base = a_34.m.base ∧
  ((0 : Nat) = (0 : Nat) ∧
  a.ol.length = a_34.ol.length ∧
  a.co = a_34.co) ∧
  (a_34.il.length ≤ a.il.length ∧
  RowsEq a_34.il.length (4 : Nat) (encRows encItem a.il) (encRows encItem a_34.il)) ∧
  (a_34.ml.length ≤ a.ml.length ∧
  RowsEq a_34.ml.length (2 : Nat) (encRows encMark a.ml) (encRows encMark a_34.ml)) ∧
  (a_34.nl.length ≤ a.nl.length ∧
  RowsEq a_34.nl.length (1 : Nat) (encRows encI a.nl) (encRows encI a_34.nl)) ∧
  (a_34.ol.length ≤ a.ol.length ∧
  RowsEq a_34.ol.length (1 : Nat) (encRows encI a.ol) (encRows encI a_34.ol)) ∧
  okMR a_34 ∧
  ∀ (b : Unit), True →
  ∃ (b : Unit), Bool.true = Bool.true ∧
  True ∧
  True) ∧
  (mayI a_31 = Bool.false →
  ∃ (b : Unit), Bool.false = Bool.true ∧
  True ∧
  True))))))) (by kernel_rfl) (by
  rintro a ok
  have ok' := ok
  obtain ⟨⟨k0, k1⟩, ⟨f0, f1⟩, ⟨t0, t1⟩, ft, ⟨e0, e1⟩, ⟨i0, i1⟩, ⟨s0, s1⟩, ⟨d0, d1⟩, ⟨b0, b1⟩, ⟨n0, n1⟩, ⟨p0, p1⟩, hk, ⟨r0, r1⟩, hit, _, _, _, _, _, _⟩ := ok'
  simp only [InR, decide_eq_true_eq, beq_iff_eq]
  refine fun _ => ⟨fun c => absurd c (by omega), fun _ _ => ⟨fun c => absurd c (by omega), fun _ _ _ => ⟨fun c => absurd c ft, fun _ _ _ => ⟨⟨5, 2, 2, flatRows 1 [.int .i64 a.m.f, .int .i64 a.m.t]⟩, ?_⟩⟩⟩⟩
  ((repeat' apply And.intro) <;> first | with_reducible rfl | omega | (dsimp only; omega) | exact RowsEq.refl _ _ _ | assumption | rfl | trivial | exact Nat.le_refl _ | skip)
  · intro i hi
    match i, (show i < 2 from hi) with
    | 0, _ => exact ⟨f0, f1⟩
    | 1, _ => exact ⟨t0, t1⟩
  refine fun _ _ _ _ _ _ _ => ⟨⟨1099511627776, 5, 5, flatRows 1 [.int .i64 a.m.ep, .int .i64 a.m.ti, .int .i64 a.m.sq, .int .i64 a.m.id, .int .i64 a.m.base]⟩, ?_⟩
  ((repeat' apply And.intro) <;> first | with_reducible rfl | omega | (dsimp only; omega) | exact RowsEq.refl _ _ _ | assumption | rfl | trivial | exact Nat.le_refl _ | skip)
  · intro i hi
    match i, (show i < 5 from hi) with
    | 0, _ => exact ⟨e0, e1⟩
    | 1, _ => exact ⟨i0, i1⟩
    | 2, _ => exact ⟨s0, s1⟩
    | 3, _ => exact ⟨d0, d1⟩
    | 4, _ => exact ⟨b0, b1⟩
  refine fun _ _ _ => ⟨⟨1073741824, 1, 1, flatRows 1 [.int .i64 a.m.n]⟩, ?_⟩
  ((repeat' apply And.intro) <;> first | with_reducible rfl | omega | (dsimp only; omega) | exact RowsEq.refl _ _ _ | assumption | rfl | trivial | exact Nat.le_refl _ | skip)
  · intro i hi
    match i, (show i < 1 from hi) with
    | 0, _ => exact ⟨n0, n1⟩
  refine fun _ _ _ => ⟨⟨2, 1, 1, flatRows 1 [.int .i64 a.m.op]⟩, ?_⟩
  ((repeat' apply And.intro) <;> first | with_reducible rfl | omega | (dsimp only; omega) | exact RowsEq.refl _ _ _ | assumption | rfl | trivial | exact Nat.le_refl _ | skip)
  · intro i hi
    match i, (show i < 1 from hi) with
    | 0, _ => exact ⟨p0, p1⟩
  refine fun _ _ => ⟨fun c => absurd c (by omega), fun _ _ => ⟨⟨10, 1, 1, flatRows 1 [.int .i64 a.m.err]⟩, ?_⟩⟩
  ((repeat' apply And.intro) <;> first | with_reducible rfl | omega | (dsimp only; omega) | exact RowsEq.refl _ _ _ | assumption | rfl | trivial | exact Nat.le_refl _ | skip)
  · intro i hi
    match i, (show i < 1 from hi) with
    | 0, _ => exact ⟨r0, r1⟩
  refine fun _ _ => ⟨fun _ => ⟨a, ?_⟩, fun c => ⟨a.m.it, ?_⟩⟩
  · ((repeat' apply And.intro) <;> first | with_reducible rfl | omega | (dsimp only; omega) | exact RowsEq.refl _ _ _ | assumption | rfl | trivial | exact Nat.le_refl _ | skip)
    exact fun _ _ => ⟨(), trivial, trivial, trivial⟩
  · have hne : a.m.it ≠ zeroI := fun e => by rw [e] at c; simp [zeroI] at c
    have hmay := hit.resolve_left hne
    ((repeat' apply And.intro) <;> first | with_reducible rfl | omega | (dsimp only; omega) | exact RowsEq.refl _ _ _ | assumption | rfl | trivial | exact Nat.le_refl _ | skip)
    rw [hmay]
    refine fun _ _ => ⟨fun _ => ⟨a, ?_⟩, fun g => (by cases g)⟩
    ((repeat' apply And.intro) <;> first | with_reducible rfl | omega | (dsimp only; omega) | exact RowsEq.refl _ _ _ | assumption | rfl | trivial | exact Nat.le_refl _ | skip)
    exact fun _ _ => ⟨(), trivial, trivial, trivial⟩)
theorem callMayM : CallsBy (Y Try.prog).G.X 28 cMayM := fn_ok okY (tab := tabMayM) ⟨callIn, callPMayI, callLists, trivial⟩ bodyMayM

/-! ### copies -/

structure Caps where
  i : Nat
  m : Nat
  n : Nat
  o : Nat
noncomputable def cOwnM : Con where
  α := MsgA
  β := Caps
  m := 4
  m' := 8
  pre := fun a => a.il.length < 100000 ∧ a.ml.length < 100000 ∧ a.nl.length < 100000 ∧ a.ol.length < 100000
  args := fun a => [.agg (a.atoms 0)]
  hp := fun _ => []
  ro := fun a => a.chs 0
  post := fun _ _ => True
  res := fun a c => .agg (MsgA.atoms ⟨a.m, a.il, a.ml, a.nl, a.ol, c.i, c.m, c.n, c.o⟩ 4)
  hp' := fun a _ => a.chs 4
noncomputable def tabOwn : List (Nat × Con) := [(37, cCloneItem), (38, cCloneMark), (39, cClone)]
set_option maxHeartbeats 4000000 in
theorem bodyOwnM : fnBody (Y Try.prog) tabOwn 29 cOwnM fun _ => [] := fnBody.of (p :=
  ∀ (a : MsgA), a.il.length < (100000 : Nat) ∧
  a.ml.length < (100000 : Nat) ∧
  a.nl.length < (100000 : Nat) ∧
  a.ol.length < (100000 : Nat) →
  ∃ (a_2 : ItemA), ((0 : Nat) = (0 : Nat) ∧
  a.il.length = a_2.l.length ∧
  a.ci = a_2.cap) ∧
  (a_2.l.length ≤ a.il.length ∧
  RowsEq a_2.l.length (4 : Nat) (encRows encItem a.il) (encRows encItem a_2.l)) ∧
  a_2.l.length < (100000 : Nat) ∧
  ∀ (b : Nat), a_2.l.length ≤ b →
  ∃ (a_4 : MarkA), ((0 : Nat) = (0 : Nat) ∧
  a.ml.length = a_4.l.length ∧
  a.cm = a_4.cap) ∧
  (a_4.l.length ≤ a.ml.length ∧
  RowsEq a_4.l.length (2 : Nat) (encRows encMark a.ml) (encRows encMark a_4.l)) ∧
  a_4.l.length < (100000 : Nat) ∧
  ∀ (b_1 : Nat), a_4.l.length ≤ b_1 →
  ∃ (a_6 : NodesA), ((0 : Nat) = (0 : Nat) ∧
  a.nl.length = a_6.l.length ∧
  a.cn = a_6.cap) ∧
  (a_6.l.length ≤ a.nl.length ∧
  RowsEq a_6.l.length (1 : Nat) (encRows encI a.nl) (encRows encI a_6.l)) ∧
  a_6.l.length < (100000 : Nat) ∧
  ∀ (b_2 : Nat), True →
  ∃ (a_8 : NodesA), ((0 : Nat) = (0 : Nat) ∧
  a.ol.length = a_8.l.length ∧
  a.co = a_8.cap) ∧
  (a_8.l.length ≤ a.ol.length ∧
  RowsEq a_8.l.length (1 : Nat) (encRows encI a.ol) (encRows encI a_8.l)) ∧
  a_8.l.length < (100000 : Nat) ∧
  ∀ (b_3 : Nat), True →
  ∃ (b_4 : Caps), a.m.k = a.m.k ∧
  a.m.f = a.m.f ∧
  a.m.t = a.m.t ∧
  a.m.ep = a.m.ep ∧
  a.m.ti = a.m.ti ∧
  a.m.sq = a.m.sq ∧
  a.m.n = a.m.n ∧
  a.m.id = a.m.id ∧
  a.m.op = a.m.op ∧
  a.m.key = a.m.key ∧
  a.m.err = a.m.err ∧
  a.m.last = a.m.last ∧
  a.m.it.key = a.m.it.key ∧
  a.m.it.val = a.m.it.val ∧
  a.m.it.en = a.m.it.en ∧
  a.m.it.gone = a.m.it.gone ∧
  ((0 : Nat) = (0 : Nat) ∧
  a_2.l.length = a.il.length ∧
  b = b_4.i) ∧
  ((0 : Nat) = (0 : Nat) ∧
  a_4.l.length = a.ml.length ∧
  b_1 = b_4.m) ∧
  ((0 : Nat) = (0 : Nat) ∧
  a_6.l.length = a.nl.length ∧
  b_2 = b_4.n) ∧
  a.m.base = a.m.base ∧
  ((0 : Nat) = (0 : Nat) ∧
  a_8.l.length = a.ol.length ∧
  b_3 = b_4.o) ∧
  (a.il.length ≤ a_2.l.length ∧
  RowsEq a.il.length (4 : Nat) (encRows encItem a_2.l) (encRows encItem a.il)) ∧
  (a.ml.length ≤ a_4.l.length ∧
  RowsEq a.ml.length (2 : Nat) (encRows encMark a_4.l) (encRows encMark a.ml)) ∧
  (a.nl.length ≤ a_6.l.length ∧
  RowsEq a.nl.length (1 : Nat) (encRows encI a_6.l) (encRows encI a.nl)) ∧
  (a.ol.length ≤ a_8.l.length ∧
  RowsEq a.ol.length (1 : Nat) (encRows encI a_8.l) (encRows encI a.ol)) ∧
  True ∧
  True) (by kernel_rfl) (by
  rintro ⟨m, il, ml, nl, ol, ci, cm, cn, co⟩ ⟨h1, h2, h3, h4⟩
  dsimp only at h1 h2 h3 h4 ⊢
  refine ⟨⟨il, ci⟩, ?_⟩
  ((repeat' apply And.intro) <;> first | with_reducible rfl | omega | (dsimp only; omega) | exact RowsEq.refl _ _ _ | assumption | rfl | trivial | exact Nat.le_refl _ | skip)
  refine fun b1 _ => ⟨⟨ml, cm⟩, ?_⟩
  ((repeat' apply And.intro) <;> first | with_reducible rfl | omega | (dsimp only; omega) | exact RowsEq.refl _ _ _ | assumption | rfl | trivial | exact Nat.le_refl _ | skip)
  refine fun b2 _ => ⟨⟨nl, cn⟩, ?_⟩
  ((repeat' apply And.intro) <;> first | with_reducible rfl | omega | (dsimp only; omega) | exact RowsEq.refl _ _ _ | assumption | rfl | trivial | exact Nat.le_refl _ | skip)
  refine fun b3 _ => ⟨⟨ol, co⟩, ?_⟩
  ((repeat' apply And.intro) <;> first | with_reducible rfl | omega | (dsimp only; omega) | exact RowsEq.refl _ _ _ | assumption | rfl | trivial | exact Nat.le_refl _ | skip)
  refine fun b4 _ => ⟨⟨b1, b2, b3, b4⟩, ?_⟩
  ((repeat' apply And.intro) <;> first | with_reducible rfl | omega | (dsimp only; omega) | exact RowsEq.refl _ _ _ | assumption | rfl | trivial | exact Nat.le_refl _ | skip))
theorem callOwnM : CallsBy (Y Try.prog).G.X 29 cOwnM := fn_ok okY (tab := tabOwn) ⟨callCloneItem, callCloneMark, callClone, trivial⟩ bodyOwnM

/-! ### the same -/

structure EqMA where
  a : MsgA
  c : Caps
noncomputable def cEqM : Con where
  α := EqMA
  β := Unit
  m := 8
  m' := 8
  pre := fun x => x.a.il.length < 100000 ∧ x.a.ml.length < 100000 ∧ x.a.nl.length < 100000 ∧ x.a.ol.length < 100000
  args := fun x => [.agg (x.a.atoms 0), .agg (MsgA.atoms ⟨x.a.m, x.a.il, x.a.ml, x.a.nl, x.a.ol, x.c.i, x.c.m, x.c.n, x.c.o⟩ 4)]
  hp := fun _ => []
  ro := fun x => x.a.chs 0 ++ x.a.chs 4
  post := fun _ _ => True
  res := fun _ _ => .a .tt
  hp' := fun _ _ => []
noncomputable def tabEqM : List (Nat × Con) := [(24, cEqI), (30, cEqItem), (31, cEqMark), (32, cEqInts)]
set_option maxHeartbeats 4000000 in
theorem bodyEqM : fnBody (Y Try.prog) tabEqM 15 cEqM fun _ => [] := fnBody.of (p :=
  ∀ (a : EqMA), a.a.il.length < (100000 : Nat) ∧
  a.a.ml.length < (100000 : Nat) ∧
  a.a.nl.length < (100000 : Nat) ∧
  a.a.ol.length < (100000 : Nat) →
  InR IntKind.i64 a.a.m.k →
  InR IntKind.i64 a.a.m.k →
  ((a.a.m.k != a.a.m.k) = Bool.true →
  ∃ (b : Unit), Bool.false = Bool.true ∧
  True ∧
  True) ∧
  ((a.a.m.k != a.a.m.k) = Bool.false →
  InR IntKind.i64 a.a.m.f →
  InR IntKind.i64 a.a.m.f →
  ((a.a.m.f != a.a.m.f) = Bool.true →
  ∃ (b : Unit), Bool.false = Bool.true ∧
  True ∧
  True) ∧
  ((a.a.m.f != a.a.m.f) = Bool.false →
  InR IntKind.i64 a.a.m.t →
  InR IntKind.i64 a.a.m.t →
  ((a.a.m.t != a.a.m.t) = Bool.true →
  ∃ (b : Unit), Bool.false = Bool.true ∧
  True ∧
  True) ∧
  ((a.a.m.t != a.a.m.t) = Bool.false →
  InR IntKind.i64 a.a.m.ep →
  InR IntKind.i64 a.a.m.ep →
  ((a.a.m.ep != a.a.m.ep) = Bool.true →
  ∃ (b : Unit), Bool.false = Bool.true ∧
  True ∧
  True) ∧
  ((a.a.m.ep != a.a.m.ep) = Bool.false →
  InR IntKind.i64 a.a.m.ti →
  InR IntKind.i64 a.a.m.ti →
  ((a.a.m.ti != a.a.m.ti) = Bool.true →
  ∃ (b : Unit), Bool.false = Bool.true ∧
  True ∧
  True) ∧
  ((a.a.m.ti != a.a.m.ti) = Bool.false →
  InR IntKind.i64 a.a.m.sq →
  InR IntKind.i64 a.a.m.sq →
  ((a.a.m.sq != a.a.m.sq) = Bool.true →
  ∃ (b : Unit), Bool.false = Bool.true ∧
  True ∧
  True) ∧
  ((a.a.m.sq != a.a.m.sq) = Bool.false →
  InR IntKind.i64 a.a.m.n →
  InR IntKind.i64 a.a.m.n →
  ((a.a.m.n != a.a.m.n) = Bool.true →
  ∃ (b : Unit), Bool.false = Bool.true ∧
  True ∧
  True) ∧
  ((a.a.m.n != a.a.m.n) = Bool.false →
  InR IntKind.i64 a.a.m.id →
  InR IntKind.i64 a.a.m.id →
  ((a.a.m.id != a.a.m.id) = Bool.true →
  ∃ (b : Unit), Bool.false = Bool.true ∧
  True ∧
  True) ∧
  ((a.a.m.id != a.a.m.id) = Bool.false →
  InR IntKind.i64 a.a.m.op →
  InR IntKind.i64 a.a.m.op →
  ((a.a.m.op != a.a.m.op) = Bool.true →
  ∃ (b : Unit), Bool.false = Bool.true ∧
  True ∧
  True) ∧
  ((a.a.m.op != a.a.m.op) = Bool.false →
  ((!Decidable.decide (a.a.m.key = a.a.m.key)) = Bool.true →
  ∃ (b : Unit), Bool.false = Bool.true ∧
  True ∧
  True) ∧
  ((!Decidable.decide (a.a.m.key = a.a.m.key)) = Bool.false →
  InR IntKind.i64 a.a.m.err →
  InR IntKind.i64 a.a.m.err →
  ((a.a.m.err != a.a.m.err) = Bool.true →
  ∃ (b : Unit), Bool.false = Bool.true ∧
  True ∧
  True) ∧
  ((a.a.m.err != a.a.m.err) = Bool.false →
  ((!a.a.m.last == a.a.m.last) = Bool.true →
  ∃ (b : Unit), Bool.false = Bool.true ∧
  True ∧
  True) ∧
  ((!a.a.m.last == a.a.m.last) = Bool.false →
  InR IntKind.i64 a.a.m.base →
  InR IntKind.i64 a.a.m.base →
  ((a.a.m.base != a.a.m.base) = Bool.true →
  ∃ (b : Unit), Bool.false = Bool.true ∧
  True ∧
  True) ∧
  ((a.a.m.base != a.a.m.base) = Bool.false →
  ∃ (a_37 : ItemR × ItemR), a.a.m.it.key = a_37.fst.key ∧
  a.a.m.it.val = a_37.fst.val ∧
  a.a.m.it.en = a_37.fst.en ∧
  a.a.m.it.gone = a_37.fst.gone ∧
  a.a.m.it.key = a_37.snd.key ∧
  a.a.m.it.val = a_37.snd.val ∧
  a.a.m.it.en = a_37.snd.en ∧
  a.a.m.it.gone = a_37.snd.gone ∧
  True ∧
  ∀ (b : Unit), True →
  (eqIB a_37.fst a_37.snd = Bool.true →
  ∃ (a_40 : EqItemA), ((0 : Nat) = (0 : Nat) ∧
  a.a.il.length = a_40.l.length ∧
  a.a.ci = a_40.c1) ∧
  ((0 : Nat) = (0 : Nat) ∧
  a.a.il.length = a_40.l.length ∧
  a.c.i = a_40.c2) ∧
  (a_40.l.length ≤ a.a.il.length ∧
  RowsEq a_40.l.length (4 : Nat) (encRows encItem a.a.il) (encRows encItem a_40.l)) ∧
  (a_40.l.length ≤ a.a.il.length ∧
  RowsEq a_40.l.length (4 : Nat) (encRows encItem a.a.il) (encRows encItem a_40.l)) ∧
  a_40.l.length < (100000 : Nat) ∧
  ∀ (b : Unit), True →
  ∃ (a_42 : EqMarkA), ((0 : Nat) = (0 : Nat) ∧
  a.a.ml.length = a_42.l.length ∧
  a.a.cm = a_42.c1) ∧
  ((0 : Nat) = (0 : Nat) ∧
  a.a.ml.length = a_42.l.length ∧
  a.c.m = a_42.c2) ∧
  (a_42.l.length ≤ a.a.ml.length ∧
  RowsEq a_42.l.length (2 : Nat) (encRows encMark a.a.ml) (encRows encMark a_42.l)) ∧
  (a_42.l.length ≤ a.a.ml.length ∧
  RowsEq a_42.l.length (2 : Nat) (encRows encMark a.a.ml) (encRows encMark a_42.l)) ∧
  a_42.l.length < (100000 : Nat) ∧
  ∀ (b : Unit), True →
  ∃ (a_44 : EqA), ((0 : Nat) = (0 : Nat) ∧
  a.a.nl.length = a_44.l.length ∧
  a.a.cn = a_44.c) ∧
  ((0 : Nat) = (0 : Nat) ∧
  a.a.nl.length = a_44.l2.length ∧
  a.c.n = a_44.c2) ∧
  (a_44.l.length ≤ a.a.nl.length ∧
  RowsEq a_44.l.length (1 : Nat) (encRows encI a.a.nl) (encRows encI a_44.l)) ∧
  (a_44.l2.length ≤ a.a.nl.length ∧
  RowsEq a_44.l2.length (1 : Nat) (encRows encI a.a.nl) (encRows encI a_44.l2)) ∧
  a_44.l.length < (100000 : Nat) ∧
  ∀ (b : Unit), True →
  (Decidable.decide (a_44.l = a_44.l2) = Bool.true →
  ∃ (a_47 : EqA), ((0 : Nat) = (0 : Nat) ∧
  a.a.ol.length = a_47.l.length ∧
  a.a.co = a_47.c) ∧
  ((0 : Nat) = (0 : Nat) ∧
  a.a.ol.length = a_47.l2.length ∧
  a.c.o = a_47.c2) ∧
  (a_47.l.length ≤ a.a.ol.length ∧
  RowsEq a_47.l.length (1 : Nat) (encRows encI a.a.ol) (encRows encI a_47.l)) ∧
  (a_47.l2.length ≤ a.a.ol.length ∧
  RowsEq a_47.l2.length (1 : Nat) (encRows encI a.a.ol) (encRows encI a_47.l2)) ∧
  a_47.l.length < (100000 : Nat) ∧
  ∀ (b : Unit), True →
  ∃ (b : Unit), Decidable.decide (a_47.l = a_47.l2) = Bool.true ∧
  True ∧
  True) ∧
  (Decidable.decide (a_44.l = a_44.l2) = Bool.false →
  ∃ (b : Unit), Bool.false = Bool.true ∧
  True ∧
  True)) ∧
  (eqIB a_37.fst a_37.snd = Bool.false →
  ∃ (b : Unit), Bool.false = Bool.true ∧
  True ∧
  True))))))))))))))) (by kernel_rfl) (by
  rintro ⟨⟨m, il, ml, nl, ol, ci, cm, cn, co⟩, ⟨di, dm, dn, d4⟩⟩ ⟨h1, h2, h3, h4⟩
  dsimp only at h1 h2 h3 h4 ⊢
  have he : eqIB m.it m.it = true := (eqIB_iff _ _).2 rfl
  (repeat' first | intro _ | apply And.intro | apply Exists.intro () | apply Exists.intro ((m.it, m.it) : ItemR × ItemR) | apply Exists.intro (EqItemA.mk il ci di) | apply Exists.intro (EqMarkA.mk ml cm dm))
  all_goals (try with_reducible rfl)
  all_goals (try exact RowsEq.refl _ _ _)
  all_goals (try exact trivial)
  all_goals (try omega)
  all_goals (try (simp_all; done))
  refine ⟨⟨nl, cn, nl, dn⟩, ?_⟩
  ((repeat' apply And.intro) <;> first | with_reducible rfl | omega | (dsimp only; omega) | exact RowsEq.refl _ _ _ | assumption | rfl | trivial | exact Nat.le_refl _ | skip)
  refine fun _ _ => ⟨fun _ => ⟨⟨ol, co, ol, d4⟩, ?_⟩, fun g => (by simp at g)⟩
  ((repeat' apply And.intro) <;> first | with_reducible rfl | omega | (dsimp only; omega) | exact RowsEq.refl _ _ _ | assumption | rfl | trivial | exact Nat.le_refl _ | skip)
  exact fun _ _ => ⟨(), by simp, trivial, trivial⟩)
theorem callEqM : CallsBy (Y Try.prog).G.X 15 cEqM := fn_ok okY (tab := tabEqM) ⟨callEqI, callEqItem, callEqMark, callEqInts, trivial⟩ bodyEqM

/-! ### spoilt -/

structure SpA where
  a : MsgA
  tO : Nat
structure SpB where
  ri : Nat → Nat → Value
  rm : Nat → Nat → Value
  rn : Nat → Nat → Value
noncomputable def cSpoil : Con where
  α := MsgA
  β := SpB
  m := 4
  m' := 4
  pre := fun a => a.il.length < 100000 ∧ a.ml.length < 100000 ∧ a.nl.length < 100000
  args := fun a => [.agg (a.atoms 0)]
  hp := fun a => [(0, .arr 31 ksItem a.il.length (encRows encItem a.il)), (1, .arr 56 ksMark a.ml.length (encRows encMark a.ml)), (2, .arr 3 [.int .i64] a.nl.length (encRows encI a.nl))]
  ro := fun a => [(3, .arr 3 [.int .i64] a.ol.length (encRows encI a.ol))]
  post := fun _ _ => True
  res := fun _ _ => .tup []
  hp' := fun a b => [(0, .arr 31 ksItem a.il.length b.ri), (1, .arr 56 ksMark a.ml.length b.rm), (2, .arr 3 [.int .i64] a.nl.length b.rn)]
def iSp1 (a : MsgA) : An := .flat 2 (Nat × (Nat → Nat → Value)) (fun s x => (s.at_ 0 (.arr 31 ksItem a.il.length x.2)).int 2 x.1) (fun _ x => x.1 ≤ a.il.length) (fun _ x => a.il.length - x.1)
def iSp2 (a : MsgA) : An := .flat 6 (Nat × (Nat → Nat → Value)) (fun s x => (s.at_ 1 (.arr 56 ksMark a.ml.length x.2)).int 3 x.1) (fun _ x => x.1 ≤ a.ml.length) (fun _ x => a.ml.length - x.1)
def iSp3 (a : MsgA) : An := .flat 10 (Nat × (Nat → Nat → Value)) (fun s x => (s.at_ 2 (.arr 3 [.int .i64] a.nl.length x.2)).int 4 x.1) (fun _ x => x.1 ≤ a.nl.length) (fun _ x => a.nl.length - x.1)
set_option maxHeartbeats 4000000 in
theorem bodySpoil : fnBody (Y Try.prog) [] 19 cSpoil fun a => [(19, [iSp1 a, iSp2 a, iSp3 a], [])] := fnBody.of (p :=
  ∀ (a : MsgA), a.il.length < (100000 : Nat) ∧
  a.ml.length < (100000 : Nat) ∧
  a.nl.length < (100000 : Nat) →
  (∃ (a_2 : Nat × (Nat →
  Nat →
  Value)), (0 : Int) = (↑a_2.fst : Int) ∧
  (0 : Nat) = (0 : Nat) ∧
  a.m.k = a.m.k ∧
  a.m.f = a.m.f ∧
  a.m.t = a.m.t ∧
  a.m.ep = a.m.ep ∧
  a.m.ti = a.m.ti ∧
  a.m.sq = a.m.sq ∧
  a.m.n = a.m.n ∧
  a.m.id = a.m.id ∧
  a.m.op = a.m.op ∧
  a.m.key = a.m.key ∧
  a.m.err = a.m.err ∧
  a.m.last = a.m.last ∧
  a.m.it.key = a.m.it.key ∧
  a.m.it.val = a.m.it.val ∧
  a.m.it.en = a.m.it.en ∧
  a.m.it.gone = a.m.it.gone ∧
  ((0 : Nat) = (0 : Nat) ∧
  a.il.length = a.il.length ∧
  a.ci = a.ci) ∧
  ((0 : Nat) = (0 : Nat) ∧
  a.ml.length = a.ml.length ∧
  a.cm = a.cm) ∧
  ((0 : Nat) = (0 : Nat) ∧
  a.nl.length = a.nl.length ∧
  a.cn = a.cn) ∧
  a.m.base = a.m.base ∧
  ((0 : Nat) = (0 : Nat) ∧
  a.ol.length = a.ol.length ∧
  a.co = a.co) ∧
  a.m.k = a.m.k ∧
  a.m.f = a.m.f ∧
  a.m.t = a.m.t ∧
  a.m.ep = a.m.ep ∧
  a.m.ti = a.m.ti ∧
  a.m.sq = a.m.sq ∧
  a.m.n = a.m.n ∧
  a.m.id = a.m.id ∧
  a.m.op = a.m.op ∧
  a.m.key = a.m.key ∧
  a.m.err = a.m.err ∧
  a.m.last = a.m.last ∧
  a.m.it.key = a.m.it.key ∧
  a.m.it.val = a.m.it.val ∧
  a.m.it.en = a.m.it.en ∧
  a.m.it.gone = a.m.it.gone ∧
  ((0 : Nat) = (0 : Nat) ∧
  a.il.length = a.il.length ∧
  a.ci = a.ci) ∧
  ((0 : Nat) = (0 : Nat) ∧
  a.ml.length = a.ml.length ∧
  a.cm = a.cm) ∧
  ((0 : Nat) = (0 : Nat) ∧
  a.nl.length = a.nl.length ∧
  a.cn = a.cn) ∧
  a.m.base = a.m.base ∧
  ((0 : Nat) = (0 : Nat) ∧
  a.ol.length = a.ol.length ∧
  a.co = a.co) ∧
  (a.il.length ≤ a.il.length ∧
  RowsEq a.il.length (4 : Nat) (encRows encItem a.il) a_2.snd) ∧
  (a.ml.length ≤ a.ml.length ∧
  RowsEq a.ml.length (2 : Nat) (encRows encMark a.ml) (encRows encMark a.ml)) ∧
  (a.nl.length ≤ a.nl.length ∧
  RowsEq a.nl.length (1 : Nat) (encRows encI a.nl) (encRows encI a.nl)) ∧
  (a.ol.length ≤ a.ol.length ∧
  RowsEq a.ol.length (1 : Nat) (encRows encI a.ol) (encRows encI a.ol)) ∧
  a_2.fst ≤ a.il.length ∧
  True) ∧
  ∀ (a_2 : Nat × (Nat →
  Nat →
  Value)), a_2.fst ≤ a.il.length →
  (Decidable.decide ((↑a_2.fst : Int) < (↑a.il.length : Int)) = Bool.true →
  ((0 : Int) ≤ (↑a_2.fst : Int) ∧
  (↑a_2.fst : Int) < (↑a.il.length : Int)) ∧
  (0 : Nat) + (↑a_2.fst : Int).toNat < a.il.length ∧
  InR IntKind.i64 ((↑a_2.fst : Int) + (1 : Int)) ∧
  ∃ (a' : Nat × (Nat →
  Nat →
  Value)), (↑a_2.fst : Int) + (1 : Int) = (↑a'.fst : Int) ∧
  (0 : Nat) = (0 : Nat) ∧
  a.m.k = a.m.k ∧
  a.m.f = a.m.f ∧
  a.m.t = a.m.t ∧
  a.m.ep = a.m.ep ∧
  a.m.ti = a.m.ti ∧
  a.m.sq = a.m.sq ∧
  a.m.n = a.m.n ∧
  a.m.id = a.m.id ∧
  a.m.op = a.m.op ∧
  a.m.key = a.m.key ∧
  a.m.err = a.m.err ∧
  a.m.last = a.m.last ∧
  a.m.it.key = a.m.it.key ∧
  a.m.it.val = a.m.it.val ∧
  a.m.it.en = a.m.it.en ∧
  a.m.it.gone = a.m.it.gone ∧
  ((0 : Nat) = (0 : Nat) ∧
  a.il.length = a.il.length ∧
  a.ci = a.ci) ∧
  ((0 : Nat) = (0 : Nat) ∧
  a.ml.length = a.ml.length ∧
  a.cm = a.cm) ∧
  ((0 : Nat) = (0 : Nat) ∧
  a.nl.length = a.nl.length ∧
  a.cn = a.cn) ∧
  a.m.base = a.m.base ∧
  ((0 : Nat) = (0 : Nat) ∧
  a.ol.length = a.ol.length ∧
  a.co = a.co) ∧
  a.m.k = a.m.k ∧
  a.m.f = a.m.f ∧
  a.m.t = a.m.t ∧
  a.m.ep = a.m.ep ∧
  a.m.ti = a.m.ti ∧
  a.m.sq = a.m.sq ∧
  a.m.n = a.m.n ∧
  a.m.id = a.m.id ∧
  a.m.op = a.m.op ∧
  a.m.key = a.m.key ∧
  a.m.err = a.m.err ∧
  a.m.last = a.m.last ∧
  a.m.it.key = a.m.it.key ∧
  a.m.it.val = a.m.it.val ∧
  a.m.it.en = a.m.it.en ∧
  a.m.it.gone = a.m.it.gone ∧
  ((0 : Nat) = (0 : Nat) ∧
  a.il.length = a.il.length ∧
  a.ci = a.ci) ∧
  ((0 : Nat) = (0 : Nat) ∧
  a.ml.length = a.ml.length ∧
  a.cm = a.cm) ∧
  ((0 : Nat) = (0 : Nat) ∧
  a.nl.length = a.nl.length ∧
  a.cn = a.cn) ∧
  a.m.base = a.m.base ∧
  ((0 : Nat) = (0 : Nat) ∧
  a.ol.length = a.ol.length ∧
  a.co = a.co) ∧
  (a.il.length ≤ a.il.length ∧
  RowsEq a.il.length (4 : Nat) (updR a_2.snd ((0 : Nat) + (↑a_2.fst : Int).toNat) (0 : Nat) [Value.string { data := #[(115 : UInt8), (112 : UInt8), (111 : UInt8), (105 : UInt8), (108 : UInt8), (116 : UInt8)] }]) a'.snd) ∧
  (a.ml.length ≤ a.ml.length ∧
  RowsEq a.ml.length (2 : Nat) (encRows encMark a.ml) (encRows encMark a.ml)) ∧
  (a.nl.length ≤ a.nl.length ∧
  RowsEq a.nl.length (1 : Nat) (encRows encI a.nl) (encRows encI a.nl)) ∧
  (a.ol.length ≤ a.ol.length ∧
  RowsEq a.ol.length (1 : Nat) (encRows encI a.ol) (encRows encI a.ol)) ∧
  a'.fst ≤ a.il.length ∧
  a.il.length - a'.fst < a.il.length - a_2.fst) ∧
  (Decidable.decide ((↑a_2.fst : Int) < (↑a.il.length : Int)) = Bool.false →
  (∃ (a_5 : Nat × (Nat →
  Nat →
  Value)), (0 : Int) = (↑a_5.fst : Int) ∧
  Decidable.decide ((↑a_2.fst : Int) < (↑a.il.length : Int)) = Decidable.decide ((↑a_2.fst : Int) < (↑a.il.length : Int)) ∧
  (↑a_2.fst : Int) = (↑a_2.fst : Int) ∧
  (0 : Nat) = (0 : Nat) ∧
  a.m.k = a.m.k ∧
  a.m.f = a.m.f ∧
  a.m.t = a.m.t ∧
  a.m.ep = a.m.ep ∧
  a.m.ti = a.m.ti ∧
  a.m.sq = a.m.sq ∧
  a.m.n = a.m.n ∧
  a.m.id = a.m.id ∧
  a.m.op = a.m.op ∧
  a.m.key = a.m.key ∧
  a.m.err = a.m.err ∧
  a.m.last = a.m.last ∧
  a.m.it.key = a.m.it.key ∧
  a.m.it.val = a.m.it.val ∧
  a.m.it.en = a.m.it.en ∧
  a.m.it.gone = a.m.it.gone ∧
  ((0 : Nat) = (0 : Nat) ∧
  a.il.length = a.il.length ∧
  a.ci = a.ci) ∧
  ((0 : Nat) = (0 : Nat) ∧
  a.ml.length = a.ml.length ∧
  a.cm = a.cm) ∧
  ((0 : Nat) = (0 : Nat) ∧
  a.nl.length = a.nl.length ∧
  a.cn = a.cn) ∧
  a.m.base = a.m.base ∧
  ((0 : Nat) = (0 : Nat) ∧
  a.ol.length = a.ol.length ∧
  a.co = a.co) ∧
  a.m.k = a.m.k ∧
  a.m.f = a.m.f ∧
  a.m.t = a.m.t ∧
  a.m.ep = a.m.ep ∧
  a.m.ti = a.m.ti ∧
  a.m.sq = a.m.sq ∧
  a.m.n = a.m.n ∧
  a.m.id = a.m.id ∧
  a.m.op = a.m.op ∧
  a.m.key = a.m.key ∧
  a.m.err = a.m.err ∧
  a.m.last = a.m.last ∧
  a.m.it.key = a.m.it.key ∧
  a.m.it.val = a.m.it.val ∧
  a.m.it.en = a.m.it.en ∧
  a.m.it.gone = a.m.it.gone ∧
  ((0 : Nat) = (0 : Nat) ∧
  a.il.length = a.il.length ∧
  a.ci = a.ci) ∧
  ((0 : Nat) = (0 : Nat) ∧
  a.ml.length = a.ml.length ∧
  a.cm = a.cm) ∧
  ((0 : Nat) = (0 : Nat) ∧
  a.nl.length = a.nl.length ∧
  a.cn = a.cn) ∧
  a.m.base = a.m.base ∧
  ((0 : Nat) = (0 : Nat) ∧
  a.ol.length = a.ol.length ∧
  a.co = a.co) ∧
  (a.il.length ≤ a.il.length ∧
  RowsEq a.il.length (4 : Nat) a_2.snd a_2.snd) ∧
  (a.ml.length ≤ a.ml.length ∧
  RowsEq a.ml.length (2 : Nat) (encRows encMark a.ml) a_5.snd) ∧
  (a.nl.length ≤ a.nl.length ∧
  RowsEq a.nl.length (1 : Nat) (encRows encI a.nl) (encRows encI a.nl)) ∧
  (a.ol.length ≤ a.ol.length ∧
  RowsEq a.ol.length (1 : Nat) (encRows encI a.ol) (encRows encI a.ol)) ∧
  a_5.fst ≤ a.ml.length ∧
  True) ∧
  ∀ (a_5 : Nat × (Nat →
  Nat →
  Value)), a_5.fst ≤ a.ml.length →
  (Decidable.decide ((↑a_5.fst : Int) < (↑a.ml.length : Int)) = Bool.true →
  ((0 : Int) ≤ (↑a_5.fst : Int) ∧
  (↑a_5.fst : Int) < (↑a.ml.length : Int)) ∧
  (0 : Nat) + (↑a_5.fst : Int).toNat < a.ml.length ∧
  InR IntKind.i64 ((↑a_5.fst : Int) + (1 : Int)) ∧
  ∃ (a' : Nat × (Nat →
  Nat →
  Value)), (↑a_5.fst : Int) + (1 : Int) = (↑a'.fst : Int) ∧
  Decidable.decide ((↑a_2.fst : Int) < (↑a.il.length : Int)) = Decidable.decide ((↑a_2.fst : Int) < (↑a.il.length : Int)) ∧
  (↑a_2.fst : Int) = (↑a_2.fst : Int) ∧
  (0 : Nat) = (0 : Nat) ∧
  a.m.k = a.m.k ∧
  a.m.f = a.m.f ∧
  a.m.t = a.m.t ∧
  a.m.ep = a.m.ep ∧
  a.m.ti = a.m.ti ∧
  a.m.sq = a.m.sq ∧
  a.m.n = a.m.n ∧
  a.m.id = a.m.id ∧
  a.m.op = a.m.op ∧
  a.m.key = a.m.key ∧
  a.m.err = a.m.err ∧
  a.m.last = a.m.last ∧
  a.m.it.key = a.m.it.key ∧
  a.m.it.val = a.m.it.val ∧
  a.m.it.en = a.m.it.en ∧
  a.m.it.gone = a.m.it.gone ∧
  ((0 : Nat) = (0 : Nat) ∧
  a.il.length = a.il.length ∧
  a.ci = a.ci) ∧
  ((0 : Nat) = (0 : Nat) ∧
  a.ml.length = a.ml.length ∧
  a.cm = a.cm) ∧
  ((0 : Nat) = (0 : Nat) ∧
  a.nl.length = a.nl.length ∧
  a.cn = a.cn) ∧
  a.m.base = a.m.base ∧
  ((0 : Nat) = (0 : Nat) ∧
  a.ol.length = a.ol.length ∧
  a.co = a.co) ∧
  a.m.k = a.m.k ∧
  a.m.f = a.m.f ∧
  a.m.t = a.m.t ∧
  a.m.ep = a.m.ep ∧
  a.m.ti = a.m.ti ∧
  a.m.sq = a.m.sq ∧
  a.m.n = a.m.n ∧
  a.m.id = a.m.id ∧
  a.m.op = a.m.op ∧
  a.m.key = a.m.key ∧
  a.m.err = a.m.err ∧
  a.m.last = a.m.last ∧
  a.m.it.key = a.m.it.key ∧
  a.m.it.val = a.m.it.val ∧
  a.m.it.en = a.m.it.en ∧
  a.m.it.gone = a.m.it.gone ∧
  ((0 : Nat) = (0 : Nat) ∧
  a.il.length = a.il.length ∧
  a.ci = a.ci) ∧
  ((0 : Nat) = (0 : Nat) ∧
  a.ml.length = a.ml.length ∧
  a.cm = a.cm) ∧
  ((0 : Nat) = (0 : Nat) ∧
  a.nl.length = a.nl.length ∧
  a.cn = a.cn) ∧
  a.m.base = a.m.base ∧
  ((0 : Nat) = (0 : Nat) ∧
  a.ol.length = a.ol.length ∧
  a.co = a.co) ∧
  (a.il.length ≤ a.il.length ∧
  RowsEq a.il.length (4 : Nat) a_2.snd a_2.snd) ∧
  (a.ml.length ≤ a.ml.length ∧
  RowsEq a.ml.length (2 : Nat) (updR a_5.snd ((0 : Nat) + (↑a_5.fst : Int).toNat) (0 : Nat) [Value.int IntKind.i64 (-5 : Int)]) a'.snd) ∧
  (a.nl.length ≤ a.nl.length ∧
  RowsEq a.nl.length (1 : Nat) (encRows encI a.nl) (encRows encI a.nl)) ∧
  (a.ol.length ≤ a.ol.length ∧
  RowsEq a.ol.length (1 : Nat) (encRows encI a.ol) (encRows encI a.ol)) ∧
  a'.fst ≤ a.ml.length ∧
  a.ml.length - a'.fst < a.ml.length - a_5.fst) ∧
  (Decidable.decide ((↑a_5.fst : Int) < (↑a.ml.length : Int)) = Bool.false →
  (∃ (a_8 : Nat × (Nat →
  Nat →
  Value)), (0 : Int) = (↑a_8.fst : Int) ∧
  Decidable.decide ((↑a_5.fst : Int) < (↑a.ml.length : Int)) = Decidable.decide ((↑a_5.fst : Int) < (↑a.ml.length : Int)) ∧
  (↑a_5.fst : Int) = (↑a_5.fst : Int) ∧
  Decidable.decide ((↑a_2.fst : Int) < (↑a.il.length : Int)) = Decidable.decide ((↑a_2.fst : Int) < (↑a.il.length : Int)) ∧
  (↑a_2.fst : Int) = (↑a_2.fst : Int) ∧
  (0 : Nat) = (0 : Nat) ∧
  a.m.k = a.m.k ∧
  a.m.f = a.m.f ∧
  a.m.t = a.m.t ∧
  a.m.ep = a.m.ep ∧
  a.m.ti = a.m.ti ∧
  a.m.sq = a.m.sq ∧
  a.m.n = a.m.n ∧
  a.m.id = a.m.id ∧
  a.m.op = a.m.op ∧
  a.m.key = a.m.key ∧
  a.m.err = a.m.err ∧
  a.m.last = a.m.last ∧
  a.m.it.key = a.m.it.key ∧
  a.m.it.val = a.m.it.val ∧
  a.m.it.en = a.m.it.en ∧
  a.m.it.gone = a.m.it.gone ∧
  ((0 : Nat) = (0 : Nat) ∧
  a.il.length = a.il.length ∧
  a.ci = a.ci) ∧
  ((0 : Nat) = (0 : Nat) ∧
  a.ml.length = a.ml.length ∧
  a.cm = a.cm) ∧
  ((0 : Nat) = (0 : Nat) ∧
  a.nl.length = a.nl.length ∧
  a.cn = a.cn) ∧
  a.m.base = a.m.base ∧
  ((0 : Nat) = (0 : Nat) ∧
  a.ol.length = a.ol.length ∧
  a.co = a.co) ∧
  a.m.k = a.m.k ∧
  a.m.f = a.m.f ∧
  a.m.t = a.m.t ∧
  a.m.ep = a.m.ep ∧
  a.m.ti = a.m.ti ∧
  a.m.sq = a.m.sq ∧
  a.m.n = a.m.n ∧
  a.m.id = a.m.id ∧
  a.m.op = a.m.op ∧
  a.m.key = a.m.key ∧
  a.m.err = a.m.err ∧
  a.m.last = a.m.last ∧
  a.m.it.key = a.m.it.key ∧
  a.m.it.val = a.m.it.val ∧
  a.m.it.en = a.m.it.en ∧
  a.m.it.gone = a.m.it.gone ∧
  ((0 : Nat) = (0 : Nat) ∧
  a.il.length = a.il.length ∧
  a.ci = a.ci) ∧
  ((0 : Nat) = (0 : Nat) ∧
  a.ml.length = a.ml.length ∧
  a.cm = a.cm) ∧
  ((0 : Nat) = (0 : Nat) ∧
  a.nl.length = a.nl.length ∧
  a.cn = a.cn) ∧
  a.m.base = a.m.base ∧
  ((0 : Nat) = (0 : Nat) ∧
  a.ol.length = a.ol.length ∧
  a.co = a.co) ∧
  (a.il.length ≤ a.il.length ∧
  RowsEq a.il.length (4 : Nat) a_2.snd a_2.snd) ∧
  (a.ml.length ≤ a.ml.length ∧
  RowsEq a.ml.length (2 : Nat) a_5.snd a_5.snd) ∧
  (a.nl.length ≤ a.nl.length ∧
  RowsEq a.nl.length (1 : Nat) (encRows encI a.nl) a_8.snd) ∧
  (a.ol.length ≤ a.ol.length ∧
  RowsEq a.ol.length (1 : Nat) (encRows encI a.ol) (encRows encI a.ol)) ∧
  a_8.fst ≤ a.nl.length ∧
  True) ∧
  ∀ (a_8 : Nat × (Nat →
  Nat →
  Value)), a_8.fst ≤ a.nl.length →
  (Decidable.decide ((↑a_8.fst : Int) < (↑a.nl.length : Int)) = Bool.true →
  ((0 : Int) ≤ (↑a_8.fst : Int) ∧
  (↑a_8.fst : Int) < (↑a.nl.length : Int)) ∧
  (0 : Nat) + (↑a_8.fst : Int).toNat < a.nl.length ∧
  InR IntKind.i64 ((↑a_8.fst : Int) + (1 : Int)) ∧
  ∃ (a' : Nat × (Nat →
  Nat →
  Value)), (↑a_8.fst : Int) + (1 : Int) = (↑a'.fst : Int) ∧
  Decidable.decide ((↑a_5.fst : Int) < (↑a.ml.length : Int)) = Decidable.decide ((↑a_5.fst : Int) < (↑a.ml.length : Int)) ∧
  (↑a_5.fst : Int) = (↑a_5.fst : Int) ∧
  Decidable.decide ((↑a_2.fst : Int) < (↑a.il.length : Int)) = Decidable.decide ((↑a_2.fst : Int) < (↑a.il.length : Int)) ∧
  (↑a_2.fst : Int) = (↑a_2.fst : Int) ∧
  (0 : Nat) = (0 : Nat) ∧
  a.m.k = a.m.k ∧
  a.m.f = a.m.f ∧
  a.m.t = a.m.t ∧
  a.m.ep = a.m.ep ∧
  a.m.ti = a.m.ti ∧
  a.m.sq = a.m.sq ∧
  a.m.n = a.m.n ∧
  a.m.id = a.m.id ∧
  a.m.op = a.m.op ∧
  a.m.key = a.m.key ∧
  a.m.err = a.m.err ∧
  a.m.last = a.m.last ∧
  a.m.it.key = a.m.it.key ∧
  a.m.it.val = a.m.it.val ∧
  a.m.it.en = a.m.it.en ∧
  a.m.it.gone = a.m.it.gone ∧
  ((0 : Nat) = (0 : Nat) ∧
  a.il.length = a.il.length ∧
  a.ci = a.ci) ∧
  ((0 : Nat) = (0 : Nat) ∧
  a.ml.length = a.ml.length ∧
  a.cm = a.cm) ∧
  ((0 : Nat) = (0 : Nat) ∧
  a.nl.length = a.nl.length ∧
  a.cn = a.cn) ∧
  a.m.base = a.m.base ∧
  ((0 : Nat) = (0 : Nat) ∧
  a.ol.length = a.ol.length ∧
  a.co = a.co) ∧
  a.m.k = a.m.k ∧
  a.m.f = a.m.f ∧
  a.m.t = a.m.t ∧
  a.m.ep = a.m.ep ∧
  a.m.ti = a.m.ti ∧
  a.m.sq = a.m.sq ∧
  a.m.n = a.m.n ∧
  a.m.id = a.m.id ∧
  a.m.op = a.m.op ∧
  a.m.key = a.m.key ∧
  a.m.err = a.m.err ∧
  a.m.last = a.m.last ∧
  a.m.it.key = a.m.it.key ∧
  a.m.it.val = a.m.it.val ∧
  a.m.it.en = a.m.it.en ∧
  a.m.it.gone = a.m.it.gone ∧
  ((0 : Nat) = (0 : Nat) ∧
  a.il.length = a.il.length ∧
  a.ci = a.ci) ∧
  ((0 : Nat) = (0 : Nat) ∧
  a.ml.length = a.ml.length ∧
  a.cm = a.cm) ∧
  ((0 : Nat) = (0 : Nat) ∧
  a.nl.length = a.nl.length ∧
  a.cn = a.cn) ∧
  a.m.base = a.m.base ∧
  ((0 : Nat) = (0 : Nat) ∧
  a.ol.length = a.ol.length ∧
  a.co = a.co) ∧
  (a.il.length ≤ a.il.length ∧
  RowsEq a.il.length (4 : Nat) a_2.snd a_2.snd) ∧
  (a.ml.length ≤ a.ml.length ∧
  RowsEq a.ml.length (2 : Nat) a_5.snd a_5.snd) ∧
  (a.nl.length ≤ a.nl.length ∧
  RowsEq a.nl.length (1 : Nat) (updR a_8.snd ((0 : Nat) + (↑a_8.fst : Int).toNat) (0 : Nat) [Value.int IntKind.i64 (77 : Int)]) a'.snd) ∧
  (a.ol.length ≤ a.ol.length ∧
  RowsEq a.ol.length (1 : Nat) (encRows encI a.ol) (encRows encI a.ol)) ∧
  a'.fst ≤ a.nl.length ∧
  a.nl.length - a'.fst < a.nl.length - a_8.fst) ∧
  (Decidable.decide ((↑a_8.fst : Int) < (↑a.nl.length : Int)) = Bool.false →
  ∃ (b : SpB), (a.il.length ≤ a.il.length ∧
  RowsEq a.il.length (4 : Nat) a_2.snd b.ri) ∧
  (a.ml.length ≤ a.ml.length ∧
  RowsEq a.ml.length (2 : Nat) a_5.snd b.rm) ∧
  (a.nl.length ≤ a.nl.length ∧
  RowsEq a.nl.length (1 : Nat) a_8.snd b.rn) ∧
  True ∧
  True)))) (by kernel_rfl) (by
  rintro ⟨m, il, ml, nl, ol, ci, cm, cn, co⟩ ⟨h1, h2, h3⟩
  dsimp only at h1 h2 h3 ⊢
  simp only [Nat.zero_add, Int.toNat_natCast, InR, decide_eq_true_eq, decide_eq_false_iff_not]
  refine ⟨⟨(0, encRows encItem il), ?_⟩, fun x hx => ⟨fun c => ⟨by omega, by omega, by omega, (x.1 + 1, updR x.2 x.1 0 [.string ⟨#[115, 112, 111, 105, 108, 116]⟩]), ?_⟩, fun c => ⟨⟨(0, encRows encMark ml), ?_⟩, fun y hy => ⟨fun d => ⟨by omega, by omega, by omega, (y.1 + 1, updR y.2 y.1 0 [.int .i64 (-5)]), ?_⟩, fun d => ⟨⟨(0, encRows encI nl), ?_⟩, fun z hz => ⟨fun e => ⟨by omega, by omega, by omega, (z.1 + 1, updR z.2 z.1 0 [.int .i64 77]), ?_⟩, fun e => ⟨⟨x.2, y.2, z.2⟩, ?_⟩⟩⟩⟩⟩⟩⟩
  · ((repeat' apply And.intro) <;> first | with_reducible rfl | omega | (dsimp only; omega) | exact RowsEq.refl _ _ _ | assumption | rfl | trivial | exact Nat.le_refl _ | skip)
  · ((repeat' apply And.intro) <;> first | with_reducible rfl | omega | (dsimp only; omega) | exact RowsEq.refl _ _ _ | assumption | rfl | trivial | exact Nat.le_refl _ | skip)
  · ((repeat' apply And.intro) <;> first | with_reducible rfl | omega | (dsimp only; omega) | exact RowsEq.refl _ _ _ | assumption | rfl | trivial | exact Nat.le_refl _ | skip)
  · ((repeat' apply And.intro) <;> first | with_reducible rfl | omega | (dsimp only; omega) | exact RowsEq.refl _ _ _ | assumption | rfl | trivial | exact Nat.le_refl _ | skip)
  · ((repeat' apply And.intro) <;> first | with_reducible rfl | omega | (dsimp only; omega) | exact RowsEq.refl _ _ _ | assumption | rfl | trivial | exact Nat.le_refl _ | skip)
  · ((repeat' apply And.intro) <;> first | with_reducible rfl | omega | (dsimp only; omega) | exact RowsEq.refl _ _ _ | assumption | rfl | trivial | exact Nat.le_refl _ | skip)
  · ((repeat' apply And.intro) <;> first | with_reducible rfl | omega | (dsimp only; omega) | exact RowsEq.refl _ _ _ | assumption | rfl | trivial | exact Nat.le_refl _ | skip))
theorem callSpoil : CallsBy (Y Try.prog).G.X 19 cSpoil := fn_ok okY (tab := []) trivial bodySpoil
end Go.Proofs.Ythgnaehfepcblaa
