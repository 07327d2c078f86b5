/-
  NetOwn's function; no condition.
-/
import Derived.Test.YthgnaehfepcblaaMsgm
namespace Go.Proofs.Ythgnaehfepcblaa
open Go.Sx
set_option maxRecDepth 100000
set_option linter.unusedVariables false

structure OwnA where
  m : MR
  n0 : Nat
  c0 : Nat
  r0 : Nat → Nat → Value
  n1 : Nat
  c1 : Nat
  r1 : Nat → Nat → Value
  n2 : Nat
  c2 : Nat
  r2 : Nat → Nat → Value
  n3 : Nat
  c3 : Nat
  r3 : Nat → Nat → Value
def itemsOf (n : Nat) (r : Nat → Nat → Value) : List ItemR := (List.range n).map fun i => ⟨toS (r i 0), toS (r i 1), toI (r i 2), toB (r i 3)⟩
def marksOf (n : Nat) (r : Nat → Nat → Value) : List MarkR := (List.range n).map fun i => ⟨toI (r i 0), toS (r i 1)⟩
def intsOf (n : Nat) (r : Nat → Nat → Value) : List Int := (List.range n).map fun i => toI (r i 0)
def kinds (ks : List CK) (n : Nat) (r : Nat → Nat → Value) : Prop := ∀ i, i < n → ∀ (j : Nat) (k : CK), ks[j]? = some k → k.ok (r i j)
theorem itemsOf_len (n : Nat) (r : Nat → Nat → Value) : (itemsOf n r).length = n := by simp [itemsOf]
theorem marksOf_len (n : Nat) (r : Nat → Nat → Value) : (marksOf n r).length = n := by simp [marksOf]
theorem intsOf_len (n : Nat) (r : Nat → Nat → Value) : (intsOf n r).length = n := by simp [intsOf]
theorem itemsOf_rows {n : Nat} {r : Nat → Nat → Value} (h : kinds ksItem n r) : RowsEq n 4 r (encRows encItem (itemsOf n r)) := by
  refine ⟨fun i hi j hj => ?_⟩
  have hg : gl (itemsOf n r) i = ⟨toS (r i 0), toS (r i 1), toI (r i 2), toB (r i 3)⟩ := by
    rw [gl_eq (by rw [itemsOf_len]; exact hi)]; simp [itemsOf]
  unfold encRows
  rw [hg]
  match j, hj with
  | 0, _ => obtain ⟨s, e, _⟩ := h i hi 0 .str rfl; rw [e]; rfl
  | 1, _ => obtain ⟨s, e, _⟩ := h i hi 1 .str rfl; rw [e]; rfl
  | 2, _ => obtain ⟨s, e, _⟩ := h i hi 2 (.int .i64) rfl; rw [e]; rfl
  | 3, _ => obtain ⟨s, e⟩ := h i hi 3 .bool rfl; rw [e]; rfl
theorem marksOf_rows {n : Nat} {r : Nat → Nat → Value} (h : kinds ksMark n r) : RowsEq n 2 r (encRows encMark (marksOf n r)) := by
  refine ⟨fun i hi j hj => ?_⟩
  have hg : gl (marksOf n r) i = ⟨toI (r i 0), toS (r i 1)⟩ := by
    rw [gl_eq (by rw [marksOf_len]; exact hi)]; simp [marksOf]
  unfold encRows
  rw [hg]
  match j, hj with
  | 0, _ => obtain ⟨s, e, _⟩ := h i hi 0 (.int .i64) rfl; rw [e]; rfl
  | 1, _ => obtain ⟨s, e, _⟩ := h i hi 1 .str rfl; rw [e]; rfl
theorem intsOf_rows {n : Nat} {r : Nat → Nat → Value} (h : kinds [.int .i64] n r) : RowsEq n 1 r (encRows encI (intsOf n r)) := by
  refine ⟨fun i hi j hj => ?_⟩
  have hg : gl (intsOf n r) i = toI (r i 0) := by
    rw [gl_eq (by rw [intsOf_len]; exact hi)]; simp [intsOf]
  unfold encRows
  rw [hg]
  match j, hj with
  | 0, _ => obtain ⟨s, e, _⟩ := h i hi 0 (.int .i64) rfl; rw [e]; rfl
theorem rows_take {l : List Int} {n : Nat} {r : Nat → Nat → Value} (h : RowsEq n 1 r (encRows encI l)) (k : Nat) (hn : (l.take k).length ≤ n) : RowsEq (l.take k).length 1 r (encRows encI (l.take k)) := by
  refine ⟨fun i hi j hj => ?_⟩
  rw [h.at_ i (by omega) j hj]
  unfold encRows
  rw [gl_take (by rw [List.length_take] at hi; omega)]

noncomputable def cOwnL : Con where
  α := OwnA
  β := Unit
  m := 4
  m' := 4
  pre := fun a => (a.n0 ≤ a.c0 ∧ kinds ksItem a.n0 a.r0) ∧ (a.n1 ≤ a.c1 ∧ kinds ksMark a.n1 a.r1) ∧ (a.n2 ≤ a.c2 ∧ kinds [.int .i64] a.n2 a.r2) ∧ (a.n3 ≤ a.c3 ∧ kinds [.int .i64] a.n3 a.r3)
  args := fun a => [.agg (msgA a.m (.slc 0 0 4 a.n0 a.c0) (.slc 1 0 2 a.n1 a.c1) (.slc 2 0 1 a.n2 a.c2) (.slc 3 0 1 a.n3 a.c3))]
  hp := fun _ => []
  ro := fun a => [(0, .arr 31 ksItem a.n0 a.r0), (1, .arr 56 ksMark a.n1 a.r1), (2, .arr 3 [.int .i64] a.n2 a.r2), (3, .arr 3 [.int .i64] a.n3 a.r3)]
  post := fun _ _ => True
  res := fun _ _ => .a .tt
  hp' := fun _ _ => []
noncomputable def tabOwnL : List (Nat × Con) := [(8, cBegun), (10, cCutM), (11, cMsg), (28, cMayM), (29, cOwnM), (15, cEqM), (19, cSpoil)]
theorem tabOwnL_ok : TabOk (Y Try.prog).G.X tabOwnL := ⟨callBegun, callCutM, callMsg, callMayM, callOwnM, callEqM, callSpoil, trivial⟩
def cutSend : An := .mk 4 Unit (fun s _ => s.int 5 0) (fun _ _ => True) (fun _ _ => 0) fun _ => .mk 2 [] []
set_option maxHeartbeats 4000000 in
theorem bodyOwnL : fnBody (Y Try.prog) tabOwnL 5 cOwnL fun _ => [(12, [], [cutSend])] := fnBody.of (p :=
  ∀ (a : OwnA), (a.n0 ≤ a.c0 ∧
  kinds [CK.str, CK.str, CK.int IntKind.i64, CK.bool] a.n0 a.r0) ∧
  (a.n1 ≤ a.c1 ∧
  kinds [CK.int IntKind.i64, CK.str] a.n1 a.r1) ∧
  (a.n2 ≤ a.c2 ∧
  kinds [CK.int IntKind.i64] a.n2 a.r2) ∧
  a.n3 ≤ a.c3 ∧
  kinds [CK.int IntKind.i64] a.n3 a.r3 →
  ∃ (a_2 : Unit), True ∧
  ∀ (b : Unit), True →
  ∃ (a_4 : MsgA), a.m.k = a_4.m.k ∧
  a.m.f = a_4.m.f ∧
  a.m.t = a_4.m.t ∧
  a.m.ep = a_4.m.ep ∧
  a.m.ti = a_4.m.ti ∧
  a.m.sq = a_4.m.sq ∧
  a.m.n = a_4.m.n ∧
  a.m.id = a_4.m.id ∧
  a.m.op = a_4.m.op ∧
  a.m.key = a_4.m.key ∧
  a.m.err = a_4.m.err ∧
  a.m.last = a_4.m.last ∧
  a.m.it.key = a_4.m.it.key ∧
  a.m.it.val = a_4.m.it.val ∧
  a.m.it.en = a_4.m.it.en ∧
  a.m.it.gone = a_4.m.it.gone ∧
  ((0 : Nat) = (0 : Nat) ∧
  a.n0 = a_4.il.length ∧
  a.c0 = a_4.ci) ∧
  ((0 : Nat) = (0 : Nat) ∧
  a.n1 = a_4.ml.length ∧
  a.c1 = a_4.cm) ∧
  ((0 : Nat) = (0 : Nat) ∧
  a.n2 = a_4.nl.length ∧
  a.c2 = a_4.cn) ∧
  a.m.base = a_4.m.base ∧
  ((0 : Nat) = (0 : Nat) ∧
  a.n3 = a_4.ol.length ∧
  a.c3 = a_4.co) ∧
  (a_4.il.length ≤ a.n0 ∧
  RowsEq a_4.il.length (4 : Nat) a.r0 (encRows encItem a_4.il)) ∧
  (a_4.ml.length ≤ a.n1 ∧
  RowsEq a_4.ml.length (2 : Nat) a.r1 (encRows encMark a_4.ml)) ∧
  (a_4.nl.length ≤ a.n2 ∧
  RowsEq a_4.nl.length (1 : Nat) a.r2 (encRows encI a_4.nl)) ∧
  (a_4.ol.length ≤ a.n3 ∧
  RowsEq a_4.ol.length (1 : Nat) a.r3 (encRows encI a_4.ol)) ∧
  (a_4.nl.length ≤ a_4.cn ∧
  a_4.ol.length ≤ a_4.co) ∧
  ∀ (b : Nat × Nat), (cutIL a_4.il (6 : Nat)).length ≤ b.fst ∧
  (cutML a_4.ml (6 : Nat)).length ≤ b.snd →
  ∃ (a_6 : MsgA), (cutMR a_4.m).k = a_6.m.k ∧
  (cutMR a_4.m).f = a_6.m.f ∧
  (cutMR a_4.m).t = a_6.m.t ∧
  (cutMR a_4.m).ep = a_6.m.ep ∧
  (cutMR a_4.m).ti = a_6.m.ti ∧
  (cutMR a_4.m).sq = a_6.m.sq ∧
  (cutMR a_4.m).n = a_6.m.n ∧
  (cutMR a_4.m).id = a_6.m.id ∧
  (cutMR a_4.m).op = a_6.m.op ∧
  (cutMR a_4.m).key = a_6.m.key ∧
  (cutMR a_4.m).err = a_6.m.err ∧
  (cutMR a_4.m).last = a_6.m.last ∧
  (cutMR a_4.m).it.key = a_6.m.it.key ∧
  (cutMR a_4.m).it.val = a_6.m.it.val ∧
  (cutMR a_4.m).it.en = a_6.m.it.en ∧
  (cutMR a_4.m).it.gone = a_6.m.it.gone ∧
  ((0 : Nat) = (0 : Nat) ∧
  (cutIL a_4.il (6 : Nat)).length = a_6.il.length ∧
  b.fst = a_6.ci) ∧
  ((0 : Nat) = (0 : Nat) ∧
  (cutML a_4.ml (6 : Nat)).length = a_6.ml.length ∧
  b.snd = a_6.cm) ∧
  ((0 : Nat) = (0 : Nat) ∧
  (List.take (7 : Nat) a_4.nl).length = a_6.nl.length ∧
  a_4.cn = a_6.cn) ∧
  (cutMR a_4.m).base = a_6.m.base ∧
  ((0 : Nat) = (0 : Nat) ∧
  (List.take (7 : Nat) a_4.ol).length = a_6.ol.length ∧
  a_4.co = a_6.co) ∧
  (a_6.il.length ≤ (cutIL a_4.il (6 : Nat)).length ∧
  RowsEq a_6.il.length (4 : Nat) (encRows encItem (cutIL a_4.il (6 : Nat))) (encRows encItem a_6.il)) ∧
  (a_6.ml.length ≤ (cutML a_4.ml (6 : Nat)).length ∧
  RowsEq a_6.ml.length (2 : Nat) (encRows encMark (cutML a_4.ml (6 : Nat))) (encRows encMark a_6.ml)) ∧
  (a_6.nl.length ≤ a.n2 ∧
  RowsEq a_6.nl.length (1 : Nat) a.r2 (encRows encI a_6.nl)) ∧
  (a_6.ol.length ≤ a.n3 ∧
  RowsEq a_6.ol.length (1 : Nat) a.r3 (encRows encI a_6.ol)) ∧
  (a_6.nl.length < (100000 : Nat) ∧
  a_6.ol.length < (100000 : Nat)) ∧
  ∀ (b_1 : Bool), (b_1 = Bool.true ↔ okMR a_6) →
  ((!b_1) = Bool.true →
  ∃ (b : Unit), Bool.true = Bool.true ∧
  True ∧
  True) ∧
  ((!b_1) = Bool.false →
  (0 : Nat) + (cutIL a_4.il (6 : Nat)).length ≤ (cutIL a_4.il (6 : Nat)).length ∧
  (cutIL a_4.il (6 : Nat)).length * (48 : Nat) ≤ (140737488355328 : Nat) ∧
  ∀ (cap : Nat), (cutIL a_4.il (6 : Nat)).length ≤ cap →
  cap ≤ lenMax →
  (0 : Nat) + (cutML a_4.ml (6 : Nat)).length ≤ (cutML a_4.ml (6 : Nat)).length ∧
  (cutML a_4.ml (6 : Nat)).length * (24 : Nat) ≤ (140737488355328 : Nat) ∧
  ∀ (cap_1 : Nat), (cutML a_4.ml (6 : Nat)).length ≤ cap_1 →
  cap_1 ≤ lenMax →
  (0 : Nat) + (List.take (7 : Nat) a_4.nl).length ≤ a.n2 ∧
  (List.take (7 : Nat) a_4.nl).length * (8 : Nat) ≤ (140737488355328 : Nat) ∧
  ∀ (cap_2 : Nat), (List.take (7 : Nat) a_4.nl).length ≤ cap_2 →
  cap_2 ≤ lenMax →
  (∃ (a_15 : Unit), (0 : Int) = (0 : Int) ∧
  Bool.false = Bool.false ∧
  (0 : Int) = (0 : Int) ∧
  (0 : Nat) = (0 : Nat) ∧
  ((0 : Nat) = (0 : Nat) ∧
  (1 : Nat) = (1 : Nat) ∧
  (1 : Nat) = (1 : Nat)) ∧
  (cutMR a_4.m).k = (cutMR a_4.m).k ∧
  (cutMR a_4.m).f = (cutMR a_4.m).f ∧
  (cutMR a_4.m).t = (cutMR a_4.m).t ∧
  (cutMR a_4.m).ep = (cutMR a_4.m).ep ∧
  (cutMR a_4.m).ti = (cutMR a_4.m).ti ∧
  (cutMR a_4.m).sq = (cutMR a_4.m).sq ∧
  (cutMR a_4.m).n = (cutMR a_4.m).n ∧
  (cutMR a_4.m).id = (cutMR a_4.m).id ∧
  (cutMR a_4.m).op = (cutMR a_4.m).op ∧
  (cutMR a_4.m).key = (cutMR a_4.m).key ∧
  (cutMR a_4.m).err = (cutMR a_4.m).err ∧
  (cutMR a_4.m).last = (cutMR a_4.m).last ∧
  (cutMR a_4.m).it.key = (cutMR a_4.m).it.key ∧
  (cutMR a_4.m).it.val = (cutMR a_4.m).it.val ∧
  (cutMR a_4.m).it.en = (cutMR a_4.m).it.en ∧
  (cutMR a_4.m).it.gone = (cutMR a_4.m).it.gone ∧
  ((0 : Nat) = (0 : Nat) ∧
  (cutIL a_4.il (6 : Nat)).length = (cutIL a_4.il (6 : Nat)).length ∧
  cap = cap) ∧
  ((0 : Nat) = (0 : Nat) ∧
  (cutML a_4.ml (6 : Nat)).length = (cutML a_4.ml (6 : Nat)).length ∧
  cap_1 = cap_1) ∧
  ((0 : Nat) = (0 : Nat) ∧
  (List.take (7 : Nat) a_4.nl).length = (List.take (7 : Nat) a_4.nl).length ∧
  cap_2 = cap_2) ∧
  (cutMR a_4.m).base = (cutMR a_4.m).base ∧
  ((0 : Nat) = (0 : Nat) ∧
  (List.take (7 : Nat) a_4.ol).length = (List.take (7 : Nat) a_4.ol).length ∧
  a_4.co = a_4.co) ∧
  ((List.take (7 : Nat) a_4.nl).length ≤ (List.take (7 : Nat) a_4.nl).length ∧
  RowsEq (List.take (7 : Nat) a_4.nl).length (1 : Nat) (fun (i j : Nat) => a.r2 ((0 : Nat) + i) j) fun (i j : Nat) => a.r2 ((0 : Nat) + i) j) ∧
  ((cutML a_4.ml (6 : Nat)).length ≤ (cutML a_4.ml (6 : Nat)).length ∧
  RowsEq (cutML a_4.ml (6 : Nat)).length (2 : Nat) (fun (i j : Nat) => encRows encMark (cutML a_4.ml (6 : Nat)) ((0 : Nat) + i) j) fun (i j : Nat) => encRows encMark (cutML a_4.ml (6 : Nat)) ((0 : Nat) + i) j) ∧
  ((cutIL a_4.il (6 : Nat)).length ≤ (cutIL a_4.il (6 : Nat)).length ∧
  RowsEq (cutIL a_4.il (6 : Nat)).length (4 : Nat) (fun (i j : Nat) => encRows encItem (cutIL a_4.il (6 : Nat)) ((0 : Nat) + i) j) fun (i j : Nat) => encRows encItem (cutIL a_4.il (6 : Nat)) ((0 : Nat) + i) j) ∧
  (a.n3 ≤ a.n3 ∧
  RowsEq a.n3 (1 : Nat) a.r3 a.r3) ∧
  (cutMR a_4.m).k = (cutMR a_4.m).k ∧
  (cutMR a_4.m).f = (cutMR a_4.m).f ∧
  (cutMR a_4.m).t = (cutMR a_4.m).t ∧
  (cutMR a_4.m).ep = (cutMR a_4.m).ep ∧
  (cutMR a_4.m).ti = (cutMR a_4.m).ti ∧
  (cutMR a_4.m).sq = (cutMR a_4.m).sq ∧
  (cutMR a_4.m).n = (cutMR a_4.m).n ∧
  (cutMR a_4.m).id = (cutMR a_4.m).id ∧
  (cutMR a_4.m).op = (cutMR a_4.m).op ∧
  (cutMR a_4.m).key = (cutMR a_4.m).key ∧
  (cutMR a_4.m).err = (cutMR a_4.m).err ∧
  (cutMR a_4.m).last = (cutMR a_4.m).last ∧
  (cutMR a_4.m).it.key = (cutMR a_4.m).it.key ∧
  (cutMR a_4.m).it.val = (cutMR a_4.m).it.val ∧
  (cutMR a_4.m).it.en = (cutMR a_4.m).it.en ∧
  (cutMR a_4.m).it.gone = (cutMR a_4.m).it.gone ∧
  ((0 : Nat) = (0 : Nat) ∧
  (cutIL a_4.il (6 : Nat)).length = (cutIL a_4.il (6 : Nat)).length ∧
  cap = cap) ∧
  ((0 : Nat) = (0 : Nat) ∧
  (cutML a_4.ml (6 : Nat)).length = (cutML a_4.ml (6 : Nat)).length ∧
  cap_1 = cap_1) ∧
  ((0 : Nat) = (0 : Nat) ∧
  (List.take (7 : Nat) a_4.nl).length = (List.take (7 : Nat) a_4.nl).length ∧
  cap_2 = cap_2) ∧
  (cutMR a_4.m).base = (cutMR a_4.m).base ∧
  ((0 : Nat) = (0 : Nat) ∧
  (List.take (7 : Nat) a_4.ol).length = (List.take (7 : Nat) a_4.ol).length ∧
  a_4.co = a_4.co) ∧
  ((cutIL a_4.il (6 : Nat)).length ≤ (cutIL a_4.il (6 : Nat)).length ∧
  RowsEq (cutIL a_4.il (6 : Nat)).length (4 : Nat) (encRows encItem (cutIL a_4.il (6 : Nat))) (encRows encItem (cutIL a_4.il (6 : Nat)))) ∧
  ((cutML a_4.ml (6 : Nat)).length ≤ (cutML a_4.ml (6 : Nat)).length ∧
  RowsEq (cutML a_4.ml (6 : Nat)).length (2 : Nat) (encRows encMark (cutML a_4.ml (6 : Nat))) (encRows encMark (cutML a_4.ml (6 : Nat)))) ∧
  (cutMR a_4.m).k = (cutMR a_4.m).k ∧
  (cutMR a_4.m).f = (cutMR a_4.m).f ∧
  (cutMR a_4.m).t = (cutMR a_4.m).t ∧
  (cutMR a_4.m).ep = (cutMR a_4.m).ep ∧
  (cutMR a_4.m).ti = (cutMR a_4.m).ti ∧
  (cutMR a_4.m).sq = (cutMR a_4.m).sq ∧
  (cutMR a_4.m).n = (cutMR a_4.m).n ∧
  (cutMR a_4.m).id = (cutMR a_4.m).id ∧
  (cutMR a_4.m).op = (cutMR a_4.m).op ∧
  (cutMR a_4.m).key = (cutMR a_4.m).key ∧
  (cutMR a_4.m).err = (cutMR a_4.m).err ∧
  (cutMR a_4.m).last = (cutMR a_4.m).last ∧
  (cutMR a_4.m).it.key = (cutMR a_4.m).it.key ∧
  (cutMR a_4.m).it.val = (cutMR a_4.m).it.val ∧
  (cutMR a_4.m).it.en = (cutMR a_4.m).it.en ∧
  (cutMR a_4.m).it.gone = (cutMR a_4.m).it.gone ∧
  ((0 : Nat) = (0 : Nat) ∧
  (cutIL a_4.il (6 : Nat)).length = (cutIL a_4.il (6 : Nat)).length ∧
  b.fst = b.fst) ∧
  ((0 : Nat) = (0 : Nat) ∧
  (cutML a_4.ml (6 : Nat)).length = (cutML a_4.ml (6 : Nat)).length ∧
  b.snd = b.snd) ∧
  ((0 : Nat) = (0 : Nat) ∧
  (List.take (7 : Nat) a_4.nl).length = (List.take (7 : Nat) a_4.nl).length ∧
  a_4.cn = a_4.cn) ∧
  (cutMR a_4.m).base = (cutMR a_4.m).base ∧
  ((0 : Nat) = (0 : Nat) ∧
  (List.take (7 : Nat) a_4.ol).length = (List.take (7 : Nat) a_4.ol).length ∧
  a_4.co = a_4.co) ∧
  (a.n2 ≤ a.n2 ∧
  RowsEq a.n2 (1 : Nat) a.r2 a.r2) ∧
  (a.n0 ≤ a.n0 ∧
  RowsEq a.n0 (4 : Nat) a.r0 a.r0) ∧
  (a.n1 ≤ a.n1 ∧
  RowsEq a.n1 (2 : Nat) a.r1 a.r1) ∧
  True ∧
  True) ∧
  ∀ (a_15 : Unit), True →
  (Bool.true = Bool.true →
  ((0 : Int) ≤ (0 : Int) ∧
  (0 : Int) < (1 : Int)) ∧
  ∃ (a_18 : MsgA), (cutMR a_4.m).k = a_18.m.k ∧
  (cutMR a_4.m).f = a_18.m.f ∧
  (cutMR a_4.m).t = a_18.m.t ∧
  (cutMR a_4.m).ep = a_18.m.ep ∧
  (cutMR a_4.m).ti = a_18.m.ti ∧
  (cutMR a_4.m).sq = a_18.m.sq ∧
  (cutMR a_4.m).n = a_18.m.n ∧
  (cutMR a_4.m).id = a_18.m.id ∧
  (cutMR a_4.m).op = a_18.m.op ∧
  (cutMR a_4.m).key = a_18.m.key ∧
  (cutMR a_4.m).err = a_18.m.err ∧
  (cutMR a_4.m).last = a_18.m.last ∧
  (cutMR a_4.m).it.key = a_18.m.it.key ∧
  (cutMR a_4.m).it.val = a_18.m.it.val ∧
  (cutMR a_4.m).it.en = a_18.m.it.en ∧
  (cutMR a_4.m).it.gone = a_18.m.it.gone ∧
  ((0 : Nat) = (0 : Nat) ∧
  (cutIL a_4.il (6 : Nat)).length = a_18.il.length ∧
  cap = a_18.ci) ∧
  ((0 : Nat) = (0 : Nat) ∧
  (cutML a_4.ml (6 : Nat)).length = a_18.ml.length ∧
  cap_1 = a_18.cm) ∧
  ((0 : Nat) = (0 : Nat) ∧
  (List.take (7 : Nat) a_4.nl).length = a_18.nl.length ∧
  cap_2 = a_18.cn) ∧
  (cutMR a_4.m).base = a_18.m.base ∧
  ((0 : Nat) = (0 : Nat) ∧
  (List.take (7 : Nat) a_4.ol).length = a_18.ol.length ∧
  a_4.co = a_18.co) ∧
  (a_18.il.length ≤ (cutIL a_4.il (6 : Nat)).length ∧
  RowsEq a_18.il.length (4 : Nat) (fun (i j : Nat) => encRows encItem (cutIL a_4.il (6 : Nat)) ((0 : Nat) + i) j) (encRows encItem a_18.il)) ∧
  (a_18.ml.length ≤ (cutML a_4.ml (6 : Nat)).length ∧
  RowsEq a_18.ml.length (2 : Nat) (fun (i j : Nat) => encRows encMark (cutML a_4.ml (6 : Nat)) ((0 : Nat) + i) j) (encRows encMark a_18.ml)) ∧
  (a_18.nl.length ≤ (List.take (7 : Nat) a_4.nl).length ∧
  RowsEq a_18.nl.length (1 : Nat) (fun (i j : Nat) => a.r2 ((0 : Nat) + i) j) (encRows encI a_18.nl)) ∧
  (a_18.ol.length ≤ a.n3 ∧
  RowsEq a_18.ol.length (1 : Nat) a.r3 (encRows encI a_18.ol)) ∧
  okMR a_18 ∧
  ∀ (b_2 : Unit), True →
  ∃ (a_20 : MsgA), (cutMR a_4.m).k = a_20.m.k ∧
  (cutMR a_4.m).f = a_20.m.f ∧
  (cutMR a_4.m).t = a_20.m.t ∧
  (cutMR a_4.m).ep = a_20.m.ep ∧
  (cutMR a_4.m).ti = a_20.m.ti ∧
  (cutMR a_4.m).sq = a_20.m.sq ∧
  (cutMR a_4.m).n = a_20.m.n ∧
  (cutMR a_4.m).id = a_20.m.id ∧
  (cutMR a_4.m).op = a_20.m.op ∧
  (cutMR a_4.m).key = a_20.m.key ∧
  (cutMR a_4.m).err = a_20.m.err ∧
  (cutMR a_4.m).last = a_20.m.last ∧
  (cutMR a_4.m).it.key = a_20.m.it.key ∧
  (cutMR a_4.m).it.val = a_20.m.it.val ∧
  (cutMR a_4.m).it.en = a_20.m.it.en ∧
  (cutMR a_4.m).it.gone = a_20.m.it.gone ∧
  ((0 : Nat) = (0 : Nat) ∧
  (cutIL a_4.il (6 : Nat)).length = a_20.il.length ∧
  cap = a_20.ci) ∧
  ((0 : Nat) = (0 : Nat) ∧
  (cutML a_4.ml (6 : Nat)).length = a_20.ml.length ∧
  cap_1 = a_20.cm) ∧
  ((0 : Nat) = (0 : Nat) ∧
  (List.take (7 : Nat) a_4.nl).length = a_20.nl.length ∧
  cap_2 = a_20.cn) ∧
  (cutMR a_4.m).base = a_20.m.base ∧
  ((0 : Nat) = (0 : Nat) ∧
  (List.take (7 : Nat) a_4.ol).length = a_20.ol.length ∧
  a_4.co = a_20.co) ∧
  (a_20.il.length ≤ (cutIL a_4.il (6 : Nat)).length ∧
  RowsEq a_20.il.length (4 : Nat) (fun (i j : Nat) => encRows encItem (cutIL a_4.il (6 : Nat)) ((0 : Nat) + i) j) (encRows encItem a_20.il)) ∧
  (a_20.ml.length ≤ (cutML a_4.ml (6 : Nat)).length ∧
  RowsEq a_20.ml.length (2 : Nat) (fun (i j : Nat) => encRows encMark (cutML a_4.ml (6 : Nat)) ((0 : Nat) + i) j) (encRows encMark a_20.ml)) ∧
  (a_20.nl.length ≤ (List.take (7 : Nat) a_4.nl).length ∧
  RowsEq a_20.nl.length (1 : Nat) (fun (i j : Nat) => a.r2 ((0 : Nat) + i) j) (encRows encI a_20.nl)) ∧
  (a_20.ol.length ≤ a.n3 ∧
  RowsEq a_20.ol.length (1 : Nat) a.r3 (encRows encI a_20.ol)) ∧
  (a_20.il.length < (100000 : Nat) ∧
  a_20.ml.length < (100000 : Nat) ∧
  a_20.nl.length < (100000 : Nat) ∧
  a_20.ol.length < (100000 : Nat)) ∧
  ∀ (b_3 : Caps), True →
  (256 : Nat) ≤ (140737488355328 : Nat) ∧
  ∀ (cap_3 : Nat), (1 : Nat) ≤ cap_3 →
  cap_3 ≤ lenMax →
  (Bool.false = Bool.true →
  ((0 : Int) ≤ (1 : Int) ∧
  (1 : Int) < (1 : Int)) ∧
  False) ∧
  (Bool.false = Bool.false →
  InR IntKind.i64 (1 : Int) ∧
  ∃ (a_25 : MsgA), (cutMR a_4.m).k = a_25.m.k ∧
  (cutMR a_4.m).f = a_25.m.f ∧
  (cutMR a_4.m).t = a_25.m.t ∧
  (cutMR a_4.m).ep = a_25.m.ep ∧
  (cutMR a_4.m).ti = a_25.m.ti ∧
  (cutMR a_4.m).sq = a_25.m.sq ∧
  (cutMR a_4.m).n = a_25.m.n ∧
  (cutMR a_4.m).id = a_25.m.id ∧
  (cutMR a_4.m).op = a_25.m.op ∧
  (cutMR a_4.m).key = a_25.m.key ∧
  (cutMR a_4.m).err = a_25.m.err ∧
  (cutMR a_4.m).last = a_25.m.last ∧
  (cutMR a_4.m).it.key = a_25.m.it.key ∧
  (cutMR a_4.m).it.val = a_25.m.it.val ∧
  (cutMR a_4.m).it.en = a_25.m.it.en ∧
  (cutMR a_4.m).it.gone = a_25.m.it.gone ∧
  ((0 : Nat) = (0 : Nat) ∧
  (cutIL a_4.il (6 : Nat)).length = a_25.il.length ∧
  cap = a_25.ci) ∧
  ((0 : Nat) = (0 : Nat) ∧
  (cutML a_4.ml (6 : Nat)).length = a_25.ml.length ∧
  cap_1 = a_25.cm) ∧
  ((0 : Nat) = (0 : Nat) ∧
  (List.take (7 : Nat) a_4.nl).length = a_25.nl.length ∧
  cap_2 = a_25.cn) ∧
  (cutMR a_4.m).base = a_25.m.base ∧
  ((0 : Nat) = (0 : Nat) ∧
  (List.take (7 : Nat) a_4.ol).length = a_25.ol.length ∧
  a_4.co = a_25.co) ∧
  (a_25.il.length ≤ (cutIL a_4.il (6 : Nat)).length ∧
  RowsEq a_25.il.length (4 : Nat) (fun (i j : Nat) => encRows encItem (cutIL a_4.il (6 : Nat)) ((0 : Nat) + i) j) (encRows encItem a_25.il)) ∧
  (a_25.ml.length ≤ (cutML a_4.ml (6 : Nat)).length ∧
  RowsEq a_25.ml.length (2 : Nat) (fun (i j : Nat) => encRows encMark (cutML a_4.ml (6 : Nat)) ((0 : Nat) + i) j) (encRows encMark a_25.ml)) ∧
  (a_25.nl.length ≤ (List.take (7 : Nat) a_4.nl).length ∧
  RowsEq a_25.nl.length (1 : Nat) (fun (i j : Nat) => a.r2 ((0 : Nat) + i) j) (encRows encI a_25.nl)) ∧
  (a_25.ol.length ≤ a.n3 ∧
  RowsEq a_25.ol.length (1 : Nat) a.r3 (encRows encI a_25.ol)) ∧
  (a_25.il.length < (100000 : Nat) ∧
  a_25.ml.length < (100000 : Nat) ∧
  a_25.nl.length < (100000 : Nat)) ∧
  ∀ (b_4 : SpB), True →
  (Bool.false = Bool.true →
  ∃ (a_28 : EqMA), (0 : Int) = a_28.a.m.k ∧
  (0 : Int) = a_28.a.m.f ∧
  (0 : Int) = a_28.a.m.t ∧
  (0 : Int) = a_28.a.m.ep ∧
  (0 : Int) = a_28.a.m.ti ∧
  (0 : Int) = a_28.a.m.sq ∧
  (0 : Int) = a_28.a.m.n ∧
  (0 : Int) = a_28.a.m.id ∧
  (0 : Int) = a_28.a.m.op ∧
  (ByteArray.mk #[]) = a_28.a.m.key ∧
  (0 : Int) = a_28.a.m.err ∧
  Bool.false = a_28.a.m.last ∧
  (ByteArray.mk #[]) = a_28.a.m.it.key ∧
  (ByteArray.mk #[]) = a_28.a.m.it.val ∧
  (0 : Int) = a_28.a.m.it.en ∧
  Bool.false = a_28.a.m.it.gone ∧
  ((0 : Nat) = a_28.a.il.length ∧
  (0 : Nat) = a_28.a.ci) ∧
  ((0 : Nat) = a_28.a.ml.length ∧
  (0 : Nat) = a_28.a.cm) ∧
  ((0 : Nat) = a_28.a.nl.length ∧
  (0 : Nat) = a_28.a.cn) ∧
  (0 : Int) = a_28.a.m.base ∧
  ((0 : Nat) = a_28.a.ol.length ∧
  (0 : Nat) = a_28.a.co) ∧
  (cutMR a_4.m).k = a_28.a.m.k ∧
  (cutMR a_4.m).f = a_28.a.m.f ∧
  (cutMR a_4.m).t = a_28.a.m.t ∧
  (cutMR a_4.m).ep = a_28.a.m.ep ∧
  (cutMR a_4.m).ti = a_28.a.m.ti ∧
  (cutMR a_4.m).sq = a_28.a.m.sq ∧
  (cutMR a_4.m).n = a_28.a.m.n ∧
  (cutMR a_4.m).id = a_28.a.m.id ∧
  (cutMR a_4.m).op = a_28.a.m.op ∧
  (cutMR a_4.m).key = a_28.a.m.key ∧
  (cutMR a_4.m).err = a_28.a.m.err ∧
  (cutMR a_4.m).last = a_28.a.m.last ∧
  (cutMR a_4.m).it.key = a_28.a.m.it.key ∧
  (cutMR a_4.m).it.val = a_28.a.m.it.val ∧
  (cutMR a_4.m).it.en = a_28.a.m.it.en ∧
  (cutMR a_4.m).it.gone = a_28.a.m.it.gone ∧
  ((0 : Nat) = (0 : Nat) ∧
  (cutIL a_4.il (6 : Nat)).length = a_28.a.il.length ∧
  b.fst = a_28.c.i) ∧
  ((0 : Nat) = (0 : Nat) ∧
  (cutML a_4.ml (6 : Nat)).length = a_28.a.ml.length ∧
  b.snd = a_28.c.m) ∧
  ((0 : Nat) = (0 : Nat) ∧
  (List.take (7 : Nat) a_4.nl).length = a_28.a.nl.length ∧
  a_4.cn = a_28.c.n) ∧
  (cutMR a_4.m).base = a_28.a.m.base ∧
  ((0 : Nat) = (0 : Nat) ∧
  (List.take (7 : Nat) a_4.ol).length = a_28.a.ol.length ∧
  a_4.co = a_28.c.o) ∧
  a_28.a.il.length = (0 : Nat) ∧
  a_28.a.ml.length = (0 : Nat) ∧
  a_28.a.nl.length = (0 : Nat) ∧
  a_28.a.ol.length = (0 : Nat) ∧
  (a_28.a.il.length ≤ (cutIL a_4.il (6 : Nat)).length ∧
  RowsEq a_28.a.il.length (4 : Nat) (encRows encItem (cutIL a_4.il (6 : Nat))) (encRows encItem a_28.a.il)) ∧
  (a_28.a.ml.length ≤ (cutML a_4.ml (6 : Nat)).length ∧
  RowsEq a_28.a.ml.length (2 : Nat) (encRows encMark (cutML a_4.ml (6 : Nat))) (encRows encMark a_28.a.ml)) ∧
  (a_28.a.nl.length ≤ a.n2 ∧
  RowsEq a_28.a.nl.length (1 : Nat) a.r2 (encRows encI a_28.a.nl)) ∧
  (a_28.a.ol.length ≤ a.n3 ∧
  RowsEq a_28.a.ol.length (1 : Nat) a.r3 (encRows encI a_28.a.ol)) ∧
  (a_28.a.il.length < (100000 : Nat) ∧
  a_28.a.ml.length < (100000 : Nat) ∧
  a_28.a.nl.length < (100000 : Nat) ∧
  a_28.a.ol.length < (100000 : Nat)) ∧
  ∀ (b_5 : Unit), True →
  ∃ (a_30 : MsgA), (0 : Int) = a_30.m.k ∧
  (0 : Int) = a_30.m.f ∧
  (0 : Int) = a_30.m.t ∧
  (0 : Int) = a_30.m.ep ∧
  (0 : Int) = a_30.m.ti ∧
  (0 : Int) = a_30.m.sq ∧
  (0 : Int) = a_30.m.n ∧
  (0 : Int) = a_30.m.id ∧
  (0 : Int) = a_30.m.op ∧
  (ByteArray.mk #[]) = a_30.m.key ∧
  (0 : Int) = a_30.m.err ∧
  Bool.false = a_30.m.last ∧
  (ByteArray.mk #[]) = a_30.m.it.key ∧
  (ByteArray.mk #[]) = a_30.m.it.val ∧
  (0 : Int) = a_30.m.it.en ∧
  Bool.false = a_30.m.it.gone ∧
  ((0 : Nat) = a_30.il.length ∧
  (0 : Nat) = a_30.ci) ∧
  ((0 : Nat) = a_30.ml.length ∧
  (0 : Nat) = a_30.cm) ∧
  ((0 : Nat) = a_30.nl.length ∧
  (0 : Nat) = a_30.cn) ∧
  (0 : Int) = a_30.m.base ∧
  ((0 : Nat) = a_30.ol.length ∧
  (0 : Nat) = a_30.co) ∧
  a_30.il.length = (0 : Nat) ∧
  a_30.ml.length = (0 : Nat) ∧
  a_30.nl.length = (0 : Nat) ∧
  a_30.ol.length = (0 : Nat) ∧
  (a_30.il.length < (100000 : Nat) ∧
  a_30.ml.length < (100000 : Nat) ∧
  a_30.nl.length < (100000 : Nat)) ∧
  ∀ (b_6 : SpB), True →
  (Bool.false = Bool.true →
  (Bool.false = Bool.true →
  ∃ (b : Unit), Bool.false = Bool.true ∧
  True ∧
  True) ∧
  (Bool.false = Bool.false →
  ((0 : Int) ≤ (1 : Int) ∧
  (1 : Int) ≤ (↑cap_3 : Int)) ∧
  ((0 : Int) ≤ (1 : Int) ∧
  (1 : Int) ≤ (1 : Int)) ∧
  ((0 : Int) ≤ (0 : Int) ∧
  (0 : Int) ≤ (1 : Int)) ∧
  ((0 : Int) ≤ (0 : Int) ∧
  (0 : Int) ≤ (↑cap_3 : Int)) ∧
  ((0 : Int) ≤ (1 : Int) ∧
  (1 : Int) ≤ (1 : Int)) ∧
  ((0 : Int) ≤ (1 : Int) ∧
  (1 : Int) ≤ (↑(cap_3 - (0 : Nat)) : Int)) ∧
  ((0 : Int) ≤ (0 : Int) ∧
  (0 : Int) ≤ (1 : Int)) ∧
  ∃ (b : Unit), Bool.false = Bool.true ∧
  True ∧
  True)) ∧
  (Bool.false = Bool.false →
  ((0 : Int) ≤ (0 : Int) ∧
  (0 : Int) < (1 : Int)) ∧
  ∃ (a_33 : MsgA), a_20.m.k = a_33.m.k ∧
  a_20.m.f = a_33.m.f ∧
  a_20.m.t = a_33.m.t ∧
  a_20.m.ep = a_33.m.ep ∧
  a_20.m.ti = a_33.m.ti ∧
  a_20.m.sq = a_33.m.sq ∧
  a_20.m.n = a_33.m.n ∧
  a_20.m.id = a_33.m.id ∧
  a_20.m.op = a_33.m.op ∧
  a_20.m.key = a_33.m.key ∧
  a_20.m.err = a_33.m.err ∧
  a_20.m.last = a_33.m.last ∧
  a_20.m.it.key = a_33.m.it.key ∧
  a_20.m.it.val = a_33.m.it.val ∧
  a_20.m.it.en = a_33.m.it.en ∧
  a_20.m.it.gone = a_33.m.it.gone ∧
  ((0 : Nat) = (0 : Nat) ∧
  a_20.il.length = a_33.il.length ∧
  b_3.i = a_33.ci) ∧
  ((0 : Nat) = (0 : Nat) ∧
  a_20.ml.length = a_33.ml.length ∧
  b_3.m = a_33.cm) ∧
  ((0 : Nat) = (0 : Nat) ∧
  a_20.nl.length = a_33.nl.length ∧
  b_3.n = a_33.cn) ∧
  a_20.m.base = a_33.m.base ∧
  ((0 : Nat) = (0 : Nat) ∧
  a_20.ol.length = a_33.ol.length ∧
  b_3.o = a_33.co) ∧
  (a_33.il.length ≤ a_20.il.length ∧
  RowsEq a_33.il.length (4 : Nat) (encRows encItem a_20.il) (encRows encItem a_33.il)) ∧
  (a_33.ml.length ≤ a_20.ml.length ∧
  RowsEq a_33.ml.length (2 : Nat) (encRows encMark a_20.ml) (encRows encMark a_33.ml)) ∧
  (a_33.nl.length ≤ a_20.nl.length ∧
  RowsEq a_33.nl.length (1 : Nat) (encRows encI a_20.nl) (encRows encI a_33.nl)) ∧
  (a_33.ol.length ≤ a_20.ol.length ∧
  RowsEq a_33.ol.length (1 : Nat) (encRows encI a_20.ol) (encRows encI a_33.ol)) ∧
  (a_33.il.length < (100000 : Nat) ∧
  a_33.ml.length < (100000 : Nat) ∧
  a_33.nl.length < (100000 : Nat) ∧
  a_33.ol.length < (100000 : Nat)) ∧
  ∀ (b_7 : Caps), True →
  (Bool.false = Bool.true →
  ∃ (a_36 : EqMA), a_33.m.k = a_36.a.m.k ∧
  a_33.m.f = a_36.a.m.f ∧
  a_33.m.t = a_36.a.m.t ∧
  a_33.m.ep = a_36.a.m.ep ∧
  a_33.m.ti = a_36.a.m.ti ∧
  a_33.m.sq = a_36.a.m.sq ∧
  a_33.m.n = a_36.a.m.n ∧
  a_33.m.id = a_36.a.m.id ∧
  a_33.m.op = a_36.a.m.op ∧
  a_33.m.key = a_36.a.m.key ∧
  a_33.m.err = a_36.a.m.err ∧
  a_33.m.last = a_36.a.m.last ∧
  a_33.m.it.key = a_36.a.m.it.key ∧
  a_33.m.it.val = a_36.a.m.it.val ∧
  a_33.m.it.en = a_36.a.m.it.en ∧
  a_33.m.it.gone = a_36.a.m.it.gone ∧
  ((0 : Nat) = (0 : Nat) ∧
  a_33.il.length = a_36.a.il.length ∧
  b_7.i = a_36.a.ci) ∧
  ((0 : Nat) = (0 : Nat) ∧
  a_33.ml.length = a_36.a.ml.length ∧
  b_7.m = a_36.a.cm) ∧
  ((0 : Nat) = (0 : Nat) ∧
  a_33.nl.length = a_36.a.nl.length ∧
  b_7.n = a_36.a.cn) ∧
  a_33.m.base = a_36.a.m.base ∧
  ((0 : Nat) = (0 : Nat) ∧
  a_33.ol.length = a_36.a.ol.length ∧
  b_7.o = a_36.a.co) ∧
  (cutMR a_4.m).k = a_36.a.m.k ∧
  (cutMR a_4.m).f = a_36.a.m.f ∧
  (cutMR a_4.m).t = a_36.a.m.t ∧
  (cutMR a_4.m).ep = a_36.a.m.ep ∧
  (cutMR a_4.m).ti = a_36.a.m.ti ∧
  (cutMR a_4.m).sq = a_36.a.m.sq ∧
  (cutMR a_4.m).n = a_36.a.m.n ∧
  (cutMR a_4.m).id = a_36.a.m.id ∧
  (cutMR a_4.m).op = a_36.a.m.op ∧
  (cutMR a_4.m).key = a_36.a.m.key ∧
  (cutMR a_4.m).err = a_36.a.m.err ∧
  (cutMR a_4.m).last = a_36.a.m.last ∧
  (cutMR a_4.m).it.key = a_36.a.m.it.key ∧
  (cutMR a_4.m).it.val = a_36.a.m.it.val ∧
  (cutMR a_4.m).it.en = a_36.a.m.it.en ∧
  (cutMR a_4.m).it.gone = a_36.a.m.it.gone ∧
  ((0 : Nat) = (0 : Nat) ∧
  (cutIL a_4.il (6 : Nat)).length = a_36.a.il.length ∧
  b.fst = a_36.c.i) ∧
  ((0 : Nat) = (0 : Nat) ∧
  (cutML a_4.ml (6 : Nat)).length = a_36.a.ml.length ∧
  b.snd = a_36.c.m) ∧
  ((0 : Nat) = (0 : Nat) ∧
  (List.take (7 : Nat) a_4.nl).length = a_36.a.nl.length ∧
  a_4.cn = a_36.c.n) ∧
  (cutMR a_4.m).base = a_36.a.m.base ∧
  ((0 : Nat) = (0 : Nat) ∧
  (List.take (7 : Nat) a_4.ol).length = a_36.a.ol.length ∧
  a_4.co = a_36.c.o) ∧
  (a_36.a.il.length ≤ a_33.il.length ∧
  RowsEq a_36.a.il.length (4 : Nat) (encRows encItem a_33.il) (encRows encItem a_36.a.il)) ∧
  (a_36.a.ml.length ≤ a_33.ml.length ∧
  RowsEq a_36.a.ml.length (2 : Nat) (encRows encMark a_33.ml) (encRows encMark a_36.a.ml)) ∧
  (a_36.a.nl.length ≤ a_33.nl.length ∧
  RowsEq a_36.a.nl.length (1 : Nat) (encRows encI a_33.nl) (encRows encI a_36.a.nl)) ∧
  (a_36.a.ol.length ≤ a_33.ol.length ∧
  RowsEq a_36.a.ol.length (1 : Nat) (encRows encI a_33.ol) (encRows encI a_36.a.ol)) ∧
  (a_36.a.il.length ≤ (cutIL a_4.il (6 : Nat)).length ∧
  RowsEq a_36.a.il.length (4 : Nat) (encRows encItem (cutIL a_4.il (6 : Nat))) (encRows encItem a_36.a.il)) ∧
  (a_36.a.ml.length ≤ (cutML a_4.ml (6 : Nat)).length ∧
  RowsEq a_36.a.ml.length (2 : Nat) (encRows encMark (cutML a_4.ml (6 : Nat))) (encRows encMark a_36.a.ml)) ∧
  (a_36.a.nl.length ≤ a.n2 ∧
  RowsEq a_36.a.nl.length (1 : Nat) a.r2 (encRows encI a_36.a.nl)) ∧
  (a_36.a.ol.length ≤ a.n3 ∧
  RowsEq a_36.a.ol.length (1 : Nat) a.r3 (encRows encI a_36.a.ol)) ∧
  (a_36.a.il.length < (100000 : Nat) ∧
  a_36.a.ml.length < (100000 : Nat) ∧
  a_36.a.nl.length < (100000 : Nat) ∧
  a_36.a.ol.length < (100000 : Nat)) ∧
  ∀ (b : Unit), True →
  ∃ (b : Unit), Bool.true = Bool.true ∧
  True ∧
  True) ∧
  (Bool.false = Bool.false →
  ((0 : Int) ≤ (1 : Int) ∧
  (1 : Int) ≤ (↑cap_3 : Int)) ∧
  ((0 : Int) ≤ (1 : Int) ∧
  (1 : Int) ≤ (1 : Int)) ∧
  ((0 : Int) ≤ (0 : Int) ∧
  (0 : Int) ≤ (1 : Int)) ∧
  ((0 : Int) ≤ (0 : Int) ∧
  (0 : Int) ≤ (↑cap_3 : Int)) ∧
  ((0 : Int) ≤ (1 : Int) ∧
  (1 : Int) ≤ (1 : Int)) ∧
  ((0 : Int) ≤ (1 : Int) ∧
  (1 : Int) ≤ (↑(cap_3 - (0 : Nat)) : Int)) ∧
  ((0 : Int) ≤ (0 : Int) ∧
  (0 : Int) ≤ (1 : Int)) ∧
  ∃ (a_36 : EqMA), a_33.m.k = a_36.a.m.k ∧
  a_33.m.f = a_36.a.m.f ∧
  a_33.m.t = a_36.a.m.t ∧
  a_33.m.ep = a_36.a.m.ep ∧
  a_33.m.ti = a_36.a.m.ti ∧
  a_33.m.sq = a_36.a.m.sq ∧
  a_33.m.n = a_36.a.m.n ∧
  a_33.m.id = a_36.a.m.id ∧
  a_33.m.op = a_36.a.m.op ∧
  a_33.m.key = a_36.a.m.key ∧
  a_33.m.err = a_36.a.m.err ∧
  a_33.m.last = a_36.a.m.last ∧
  a_33.m.it.key = a_36.a.m.it.key ∧
  a_33.m.it.val = a_36.a.m.it.val ∧
  a_33.m.it.en = a_36.a.m.it.en ∧
  a_33.m.it.gone = a_36.a.m.it.gone ∧
  ((0 : Nat) = (0 : Nat) ∧
  a_33.il.length = a_36.a.il.length ∧
  b_7.i = a_36.a.ci) ∧
  ((0 : Nat) = (0 : Nat) ∧
  a_33.ml.length = a_36.a.ml.length ∧
  b_7.m = a_36.a.cm) ∧
  ((0 : Nat) = (0 : Nat) ∧
  a_33.nl.length = a_36.a.nl.length ∧
  b_7.n = a_36.a.cn) ∧
  a_33.m.base = a_36.a.m.base ∧
  ((0 : Nat) = (0 : Nat) ∧
  a_33.ol.length = a_36.a.ol.length ∧
  b_7.o = a_36.a.co) ∧
  (cutMR a_4.m).k = a_36.a.m.k ∧
  (cutMR a_4.m).f = a_36.a.m.f ∧
  (cutMR a_4.m).t = a_36.a.m.t ∧
  (cutMR a_4.m).ep = a_36.a.m.ep ∧
  (cutMR a_4.m).ti = a_36.a.m.ti ∧
  (cutMR a_4.m).sq = a_36.a.m.sq ∧
  (cutMR a_4.m).n = a_36.a.m.n ∧
  (cutMR a_4.m).id = a_36.a.m.id ∧
  (cutMR a_4.m).op = a_36.a.m.op ∧
  (cutMR a_4.m).key = a_36.a.m.key ∧
  (cutMR a_4.m).err = a_36.a.m.err ∧
  (cutMR a_4.m).last = a_36.a.m.last ∧
  (cutMR a_4.m).it.key = a_36.a.m.it.key ∧
  (cutMR a_4.m).it.val = a_36.a.m.it.val ∧
  (cutMR a_4.m).it.en = a_36.a.m.it.en ∧
  (cutMR a_4.m).it.gone = a_36.a.m.it.gone ∧
  ((0 : Nat) = (0 : Nat) ∧
  (cutIL a_4.il (6 : Nat)).length = a_36.a.il.length ∧
  b.fst = a_36.c.i) ∧
  ((0 : Nat) = (0 : Nat) ∧
  (cutML a_4.ml (6 : Nat)).length = a_36.a.ml.length ∧
  b.snd = a_36.c.m) ∧
  ((0 : Nat) = (0 : Nat) ∧
  (List.take (7 : Nat) a_4.nl).length = a_36.a.nl.length ∧
  a_4.cn = a_36.c.n) ∧
  (cutMR a_4.m).base = a_36.a.m.base ∧
  ((0 : Nat) = (0 : Nat) ∧
  (List.take (7 : Nat) a_4.ol).length = a_36.a.ol.length ∧
  a_4.co = a_36.c.o) ∧
  (a_36.a.il.length ≤ a_33.il.length ∧
  RowsEq a_36.a.il.length (4 : Nat) (encRows encItem a_33.il) (encRows encItem a_36.a.il)) ∧
  (a_36.a.ml.length ≤ a_33.ml.length ∧
  RowsEq a_36.a.ml.length (2 : Nat) (encRows encMark a_33.ml) (encRows encMark a_36.a.ml)) ∧
  (a_36.a.nl.length ≤ a_33.nl.length ∧
  RowsEq a_36.a.nl.length (1 : Nat) (encRows encI a_33.nl) (encRows encI a_36.a.nl)) ∧
  (a_36.a.ol.length ≤ a_33.ol.length ∧
  RowsEq a_36.a.ol.length (1 : Nat) (encRows encI a_33.ol) (encRows encI a_36.a.ol)) ∧
  (a_36.a.il.length ≤ (cutIL a_4.il (6 : Nat)).length ∧
  RowsEq a_36.a.il.length (4 : Nat) (encRows encItem (cutIL a_4.il (6 : Nat))) (encRows encItem a_36.a.il)) ∧
  (a_36.a.ml.length ≤ (cutML a_4.ml (6 : Nat)).length ∧
  RowsEq a_36.a.ml.length (2 : Nat) (encRows encMark (cutML a_4.ml (6 : Nat))) (encRows encMark a_36.a.ml)) ∧
  (a_36.a.nl.length ≤ a.n2 ∧
  RowsEq a_36.a.nl.length (1 : Nat) a.r2 (encRows encI a_36.a.nl)) ∧
  (a_36.a.ol.length ≤ a.n3 ∧
  RowsEq a_36.a.ol.length (1 : Nat) a.r3 (encRows encI a_36.a.ol)) ∧
  (a_36.a.il.length < (100000 : Nat) ∧
  a_36.a.ml.length < (100000 : Nat) ∧
  a_36.a.nl.length < (100000 : Nat) ∧
  a_36.a.ol.length < (100000 : Nat)) ∧
  ∀ (b : Unit), True →
  ∃ (b : Unit), Bool.true = Bool.true ∧
  True ∧
  True))) ∧
  (Bool.false = Bool.false →
  ((0 : Int) ≤ (0 : Int) ∧
  (0 : Int) < (1 : Int)) ∧
  ∃ (a_28 : MsgA), a_20.m.k = a_28.m.k ∧
  a_20.m.f = a_28.m.f ∧
  a_20.m.t = a_28.m.t ∧
  a_20.m.ep = a_28.m.ep ∧
  a_20.m.ti = a_28.m.ti ∧
  a_20.m.sq = a_28.m.sq ∧
  a_20.m.n = a_28.m.n ∧
  a_20.m.id = a_28.m.id ∧
  a_20.m.op = a_28.m.op ∧
  a_20.m.key = a_28.m.key ∧
  a_20.m.err = a_28.m.err ∧
  a_20.m.last = a_28.m.last ∧
  a_20.m.it.key = a_28.m.it.key ∧
  a_20.m.it.val = a_28.m.it.val ∧
  a_20.m.it.en = a_28.m.it.en ∧
  a_20.m.it.gone = a_28.m.it.gone ∧
  ((0 : Nat) = (0 : Nat) ∧
  a_20.il.length = a_28.il.length ∧
  b_3.i = a_28.ci) ∧
  ((0 : Nat) = (0 : Nat) ∧
  a_20.ml.length = a_28.ml.length ∧
  b_3.m = a_28.cm) ∧
  ((0 : Nat) = (0 : Nat) ∧
  a_20.nl.length = a_28.nl.length ∧
  b_3.n = a_28.cn) ∧
  a_20.m.base = a_28.m.base ∧
  ((0 : Nat) = (0 : Nat) ∧
  a_20.ol.length = a_28.ol.length ∧
  b_3.o = a_28.co) ∧
  (a_28.il.length ≤ a_20.il.length ∧
  RowsEq a_28.il.length (4 : Nat) (encRows encItem a_20.il) (encRows encItem a_28.il)) ∧
  (a_28.ml.length ≤ a_20.ml.length ∧
  RowsEq a_28.ml.length (2 : Nat) (encRows encMark a_20.ml) (encRows encMark a_28.ml)) ∧
  (a_28.nl.length ≤ a_20.nl.length ∧
  RowsEq a_28.nl.length (1 : Nat) (encRows encI a_20.nl) (encRows encI a_28.nl)) ∧
  (a_28.ol.length ≤ a_20.ol.length ∧
  RowsEq a_28.ol.length (1 : Nat) (encRows encI a_20.ol) (encRows encI a_28.ol)) ∧
  (a_28.il.length < (100000 : Nat) ∧
  a_28.ml.length < (100000 : Nat) ∧
  a_28.nl.length < (100000 : Nat) ∧
  a_28.ol.length < (100000 : Nat)) ∧
  ∀ (b_5 : Caps), True →
  ∃ (a_30 : EqMA), a_28.m.k = a_30.a.m.k ∧
  a_28.m.f = a_30.a.m.f ∧
  a_28.m.t = a_30.a.m.t ∧
  a_28.m.ep = a_30.a.m.ep ∧
  a_28.m.ti = a_30.a.m.ti ∧
  a_28.m.sq = a_30.a.m.sq ∧
  a_28.m.n = a_30.a.m.n ∧
  a_28.m.id = a_30.a.m.id ∧
  a_28.m.op = a_30.a.m.op ∧
  a_28.m.key = a_30.a.m.key ∧
  a_28.m.err = a_30.a.m.err ∧
  a_28.m.last = a_30.a.m.last ∧
  a_28.m.it.key = a_30.a.m.it.key ∧
  a_28.m.it.val = a_30.a.m.it.val ∧
  a_28.m.it.en = a_30.a.m.it.en ∧
  a_28.m.it.gone = a_30.a.m.it.gone ∧
  ((0 : Nat) = (0 : Nat) ∧
  a_28.il.length = a_30.a.il.length ∧
  b_5.i = a_30.a.ci) ∧
  ((0 : Nat) = (0 : Nat) ∧
  a_28.ml.length = a_30.a.ml.length ∧
  b_5.m = a_30.a.cm) ∧
  ((0 : Nat) = (0 : Nat) ∧
  a_28.nl.length = a_30.a.nl.length ∧
  b_5.n = a_30.a.cn) ∧
  a_28.m.base = a_30.a.m.base ∧
  ((0 : Nat) = (0 : Nat) ∧
  a_28.ol.length = a_30.a.ol.length ∧
  b_5.o = a_30.a.co) ∧
  (cutMR a_4.m).k = a_30.a.m.k ∧
  (cutMR a_4.m).f = a_30.a.m.f ∧
  (cutMR a_4.m).t = a_30.a.m.t ∧
  (cutMR a_4.m).ep = a_30.a.m.ep ∧
  (cutMR a_4.m).ti = a_30.a.m.ti ∧
  (cutMR a_4.m).sq = a_30.a.m.sq ∧
  (cutMR a_4.m).n = a_30.a.m.n ∧
  (cutMR a_4.m).id = a_30.a.m.id ∧
  (cutMR a_4.m).op = a_30.a.m.op ∧
  (cutMR a_4.m).key = a_30.a.m.key ∧
  (cutMR a_4.m).err = a_30.a.m.err ∧
  (cutMR a_4.m).last = a_30.a.m.last ∧
  (cutMR a_4.m).it.key = a_30.a.m.it.key ∧
  (cutMR a_4.m).it.val = a_30.a.m.it.val ∧
  (cutMR a_4.m).it.en = a_30.a.m.it.en ∧
  (cutMR a_4.m).it.gone = a_30.a.m.it.gone ∧
  ((0 : Nat) = (0 : Nat) ∧
  (cutIL a_4.il (6 : Nat)).length = a_30.a.il.length ∧
  b.fst = a_30.c.i) ∧
  ((0 : Nat) = (0 : Nat) ∧
  (cutML a_4.ml (6 : Nat)).length = a_30.a.ml.length ∧
  b.snd = a_30.c.m) ∧
  ((0 : Nat) = (0 : Nat) ∧
  (List.take (7 : Nat) a_4.nl).length = a_30.a.nl.length ∧
  a_4.cn = a_30.c.n) ∧
  (cutMR a_4.m).base = a_30.a.m.base ∧
  ((0 : Nat) = (0 : Nat) ∧
  (List.take (7 : Nat) a_4.ol).length = a_30.a.ol.length ∧
  a_4.co = a_30.c.o) ∧
  (a_30.a.il.length ≤ a_28.il.length ∧
  RowsEq a_30.a.il.length (4 : Nat) (encRows encItem a_28.il) (encRows encItem a_30.a.il)) ∧
  (a_30.a.ml.length ≤ a_28.ml.length ∧
  RowsEq a_30.a.ml.length (2 : Nat) (encRows encMark a_28.ml) (encRows encMark a_30.a.ml)) ∧
  (a_30.a.nl.length ≤ a_28.nl.length ∧
  RowsEq a_30.a.nl.length (1 : Nat) (encRows encI a_28.nl) (encRows encI a_30.a.nl)) ∧
  (a_30.a.ol.length ≤ a_28.ol.length ∧
  RowsEq a_30.a.ol.length (1 : Nat) (encRows encI a_28.ol) (encRows encI a_30.a.ol)) ∧
  (a_30.a.il.length ≤ (cutIL a_4.il (6 : Nat)).length ∧
  RowsEq a_30.a.il.length (4 : Nat) (encRows encItem (cutIL a_4.il (6 : Nat))) (encRows encItem a_30.a.il)) ∧
  (a_30.a.ml.length ≤ (cutML a_4.ml (6 : Nat)).length ∧
  RowsEq a_30.a.ml.length (2 : Nat) (encRows encMark (cutML a_4.ml (6 : Nat))) (encRows encMark a_30.a.ml)) ∧
  (a_30.a.nl.length ≤ a.n2 ∧
  RowsEq a_30.a.nl.length (1 : Nat) a.r2 (encRows encI a_30.a.nl)) ∧
  (a_30.a.ol.length ≤ a.n3 ∧
  RowsEq a_30.a.ol.length (1 : Nat) a.r3 (encRows encI a_30.a.ol)) ∧
  (a_30.a.il.length < (100000 : Nat) ∧
  a_30.a.ml.length < (100000 : Nat) ∧
  a_30.a.nl.length < (100000 : Nat) ∧
  a_30.a.ol.length < (100000 : Nat)) ∧
  ∀ (b_6 : Unit), True →
  ∃ (a_32 : MsgA), a_28.m.k = a_32.m.k ∧
  a_28.m.f = a_32.m.f ∧
  a_28.m.t = a_32.m.t ∧
  a_28.m.ep = a_32.m.ep ∧
  a_28.m.ti = a_32.m.ti ∧
  a_28.m.sq = a_32.m.sq ∧
  a_28.m.n = a_32.m.n ∧
  a_28.m.id = a_32.m.id ∧
  a_28.m.op = a_32.m.op ∧
  a_28.m.key = a_32.m.key ∧
  a_28.m.err = a_32.m.err ∧
  a_28.m.last = a_32.m.last ∧
  a_28.m.it.key = a_32.m.it.key ∧
  a_28.m.it.val = a_32.m.it.val ∧
  a_28.m.it.en = a_32.m.it.en ∧
  a_28.m.it.gone = a_32.m.it.gone ∧
  ((0 : Nat) = (0 : Nat) ∧
  a_28.il.length = a_32.il.length ∧
  b_5.i = a_32.ci) ∧
  ((0 : Nat) = (0 : Nat) ∧
  a_28.ml.length = a_32.ml.length ∧
  b_5.m = a_32.cm) ∧
  ((0 : Nat) = (0 : Nat) ∧
  a_28.nl.length = a_32.nl.length ∧
  b_5.n = a_32.cn) ∧
  a_28.m.base = a_32.m.base ∧
  ((0 : Nat) = (0 : Nat) ∧
  a_28.ol.length = a_32.ol.length ∧
  b_5.o = a_32.co) ∧
  (a_32.il.length ≤ a_28.il.length ∧
  RowsEq a_32.il.length (4 : Nat) (encRows encItem a_28.il) (encRows encItem a_32.il)) ∧
  (a_32.ml.length ≤ a_28.ml.length ∧
  RowsEq a_32.ml.length (2 : Nat) (encRows encMark a_28.ml) (encRows encMark a_32.ml)) ∧
  (a_32.nl.length ≤ a_28.nl.length ∧
  RowsEq a_32.nl.length (1 : Nat) (encRows encI a_28.nl) (encRows encI a_32.nl)) ∧
  (a_32.ol.length ≤ a_28.ol.length ∧
  RowsEq a_32.ol.length (1 : Nat) (encRows encI a_28.ol) (encRows encI a_32.ol)) ∧
  (a_32.il.length < (100000 : Nat) ∧
  a_32.ml.length < (100000 : Nat) ∧
  a_32.nl.length < (100000 : Nat)) ∧
  ∀ (b_7 : SpB), True →
  (Bool.false = Bool.true →
  (Bool.false = Bool.true →
  ∃ (b : Unit), Bool.false = Bool.true ∧
  True ∧
  True) ∧
  (Bool.false = Bool.false →
  ((0 : Int) ≤ (1 : Int) ∧
  (1 : Int) ≤ (↑cap_3 : Int)) ∧
  ((0 : Int) ≤ (1 : Int) ∧
  (1 : Int) ≤ (1 : Int)) ∧
  ((0 : Int) ≤ (0 : Int) ∧
  (0 : Int) ≤ (1 : Int)) ∧
  ((0 : Int) ≤ (0 : Int) ∧
  (0 : Int) ≤ (↑cap_3 : Int)) ∧
  ((0 : Int) ≤ (1 : Int) ∧
  (1 : Int) ≤ (1 : Int)) ∧
  ((0 : Int) ≤ (1 : Int) ∧
  (1 : Int) ≤ (↑(cap_3 - (0 : Nat)) : Int)) ∧
  ((0 : Int) ≤ (0 : Int) ∧
  (0 : Int) ≤ (1 : Int)) ∧
  ∃ (b : Unit), Bool.false = Bool.true ∧
  True ∧
  True)) ∧
  (Bool.false = Bool.false →
  ((0 : Int) ≤ (0 : Int) ∧
  (0 : Int) < (1 : Int)) ∧
  ∃ (a_35 : MsgA), a_20.m.k = a_35.m.k ∧
  a_20.m.f = a_35.m.f ∧
  a_20.m.t = a_35.m.t ∧
  a_20.m.ep = a_35.m.ep ∧
  a_20.m.ti = a_35.m.ti ∧
  a_20.m.sq = a_35.m.sq ∧
  a_20.m.n = a_35.m.n ∧
  a_20.m.id = a_35.m.id ∧
  a_20.m.op = a_35.m.op ∧
  a_20.m.key = a_35.m.key ∧
  a_20.m.err = a_35.m.err ∧
  a_20.m.last = a_35.m.last ∧
  a_20.m.it.key = a_35.m.it.key ∧
  a_20.m.it.val = a_35.m.it.val ∧
  a_20.m.it.en = a_35.m.it.en ∧
  a_20.m.it.gone = a_35.m.it.gone ∧
  ((0 : Nat) = (0 : Nat) ∧
  a_20.il.length = a_35.il.length ∧
  b_3.i = a_35.ci) ∧
  ((0 : Nat) = (0 : Nat) ∧
  a_20.ml.length = a_35.ml.length ∧
  b_3.m = a_35.cm) ∧
  ((0 : Nat) = (0 : Nat) ∧
  a_20.nl.length = a_35.nl.length ∧
  b_3.n = a_35.cn) ∧
  a_20.m.base = a_35.m.base ∧
  ((0 : Nat) = (0 : Nat) ∧
  a_20.ol.length = a_35.ol.length ∧
  b_3.o = a_35.co) ∧
  (a_35.il.length ≤ a_20.il.length ∧
  RowsEq a_35.il.length (4 : Nat) (encRows encItem a_20.il) (encRows encItem a_35.il)) ∧
  (a_35.ml.length ≤ a_20.ml.length ∧
  RowsEq a_35.ml.length (2 : Nat) (encRows encMark a_20.ml) (encRows encMark a_35.ml)) ∧
  (a_35.nl.length ≤ a_20.nl.length ∧
  RowsEq a_35.nl.length (1 : Nat) (encRows encI a_20.nl) (encRows encI a_35.nl)) ∧
  (a_35.ol.length ≤ a_20.ol.length ∧
  RowsEq a_35.ol.length (1 : Nat) (encRows encI a_20.ol) (encRows encI a_35.ol)) ∧
  (a_35.il.length < (100000 : Nat) ∧
  a_35.ml.length < (100000 : Nat) ∧
  a_35.nl.length < (100000 : Nat) ∧
  a_35.ol.length < (100000 : Nat)) ∧
  ∀ (b_8 : Caps), True →
  (Bool.false = Bool.true →
  ∃ (a_38 : EqMA), a_35.m.k = a_38.a.m.k ∧
  a_35.m.f = a_38.a.m.f ∧
  a_35.m.t = a_38.a.m.t ∧
  a_35.m.ep = a_38.a.m.ep ∧
  a_35.m.ti = a_38.a.m.ti ∧
  a_35.m.sq = a_38.a.m.sq ∧
  a_35.m.n = a_38.a.m.n ∧
  a_35.m.id = a_38.a.m.id ∧
  a_35.m.op = a_38.a.m.op ∧
  a_35.m.key = a_38.a.m.key ∧
  a_35.m.err = a_38.a.m.err ∧
  a_35.m.last = a_38.a.m.last ∧
  a_35.m.it.key = a_38.a.m.it.key ∧
  a_35.m.it.val = a_38.a.m.it.val ∧
  a_35.m.it.en = a_38.a.m.it.en ∧
  a_35.m.it.gone = a_38.a.m.it.gone ∧
  ((0 : Nat) = (0 : Nat) ∧
  a_35.il.length = a_38.a.il.length ∧
  b_8.i = a_38.a.ci) ∧
  ((0 : Nat) = (0 : Nat) ∧
  a_35.ml.length = a_38.a.ml.length ∧
  b_8.m = a_38.a.cm) ∧
  ((0 : Nat) = (0 : Nat) ∧
  a_35.nl.length = a_38.a.nl.length ∧
  b_8.n = a_38.a.cn) ∧
  a_35.m.base = a_38.a.m.base ∧
  ((0 : Nat) = (0 : Nat) ∧
  a_35.ol.length = a_38.a.ol.length ∧
  b_8.o = a_38.a.co) ∧
  (cutMR a_4.m).k = a_38.a.m.k ∧
  (cutMR a_4.m).f = a_38.a.m.f ∧
  (cutMR a_4.m).t = a_38.a.m.t ∧
  (cutMR a_4.m).ep = a_38.a.m.ep ∧
  (cutMR a_4.m).ti = a_38.a.m.ti ∧
  (cutMR a_4.m).sq = a_38.a.m.sq ∧
  (cutMR a_4.m).n = a_38.a.m.n ∧
  (cutMR a_4.m).id = a_38.a.m.id ∧
  (cutMR a_4.m).op = a_38.a.m.op ∧
  (cutMR a_4.m).key = a_38.a.m.key ∧
  (cutMR a_4.m).err = a_38.a.m.err ∧
  (cutMR a_4.m).last = a_38.a.m.last ∧
  (cutMR a_4.m).it.key = a_38.a.m.it.key ∧
  (cutMR a_4.m).it.val = a_38.a.m.it.val ∧
  (cutMR a_4.m).it.en = a_38.a.m.it.en ∧
  (cutMR a_4.m).it.gone = a_38.a.m.it.gone ∧
  ((0 : Nat) = (0 : Nat) ∧
  (cutIL a_4.il (6 : Nat)).length = a_38.a.il.length ∧
  b.fst = a_38.c.i) ∧
  ((0 : Nat) = (0 : Nat) ∧
  (cutML a_4.ml (6 : Nat)).length = a_38.a.ml.length ∧
  b.snd = a_38.c.m) ∧
  ((0 : Nat) = (0 : Nat) ∧
  (List.take (7 : Nat) a_4.nl).length = a_38.a.nl.length ∧
  a_4.cn = a_38.c.n) ∧
  (cutMR a_4.m).base = a_38.a.m.base ∧
  ((0 : Nat) = (0 : Nat) ∧
  (List.take (7 : Nat) a_4.ol).length = a_38.a.ol.length ∧
  a_4.co = a_38.c.o) ∧
  (a_38.a.il.length ≤ a_35.il.length ∧
  RowsEq a_38.a.il.length (4 : Nat) (encRows encItem a_35.il) (encRows encItem a_38.a.il)) ∧
  (a_38.a.ml.length ≤ a_35.ml.length ∧
  RowsEq a_38.a.ml.length (2 : Nat) (encRows encMark a_35.ml) (encRows encMark a_38.a.ml)) ∧
  (a_38.a.nl.length ≤ a_35.nl.length ∧
  RowsEq a_38.a.nl.length (1 : Nat) (encRows encI a_35.nl) (encRows encI a_38.a.nl)) ∧
  (a_38.a.ol.length ≤ a_35.ol.length ∧
  RowsEq a_38.a.ol.length (1 : Nat) (encRows encI a_35.ol) (encRows encI a_38.a.ol)) ∧
  (a_38.a.il.length ≤ (cutIL a_4.il (6 : Nat)).length ∧
  RowsEq a_38.a.il.length (4 : Nat) (encRows encItem (cutIL a_4.il (6 : Nat))) (encRows encItem a_38.a.il)) ∧
  (a_38.a.ml.length ≤ (cutML a_4.ml (6 : Nat)).length ∧
  RowsEq a_38.a.ml.length (2 : Nat) (encRows encMark (cutML a_4.ml (6 : Nat))) (encRows encMark a_38.a.ml)) ∧
  (a_38.a.nl.length ≤ a.n2 ∧
  RowsEq a_38.a.nl.length (1 : Nat) a.r2 (encRows encI a_38.a.nl)) ∧
  (a_38.a.ol.length ≤ a.n3 ∧
  RowsEq a_38.a.ol.length (1 : Nat) a.r3 (encRows encI a_38.a.ol)) ∧
  (a_38.a.il.length < (100000 : Nat) ∧
  a_38.a.ml.length < (100000 : Nat) ∧
  a_38.a.nl.length < (100000 : Nat) ∧
  a_38.a.ol.length < (100000 : Nat)) ∧
  ∀ (b : Unit), True →
  ∃ (b : Unit), Bool.true = Bool.true ∧
  True ∧
  True) ∧
  (Bool.false = Bool.false →
  ((0 : Int) ≤ (1 : Int) ∧
  (1 : Int) ≤ (↑cap_3 : Int)) ∧
  ((0 : Int) ≤ (1 : Int) ∧
  (1 : Int) ≤ (1 : Int)) ∧
  ((0 : Int) ≤ (0 : Int) ∧
  (0 : Int) ≤ (1 : Int)) ∧
  ((0 : Int) ≤ (0 : Int) ∧
  (0 : Int) ≤ (↑cap_3 : Int)) ∧
  ((0 : Int) ≤ (1 : Int) ∧
  (1 : Int) ≤ (1 : Int)) ∧
  ((0 : Int) ≤ (1 : Int) ∧
  (1 : Int) ≤ (↑(cap_3 - (0 : Nat)) : Int)) ∧
  ((0 : Int) ≤ (0 : Int) ∧
  (0 : Int) ≤ (1 : Int)) ∧
  ∃ (a_38 : EqMA), a_35.m.k = a_38.a.m.k ∧
  a_35.m.f = a_38.a.m.f ∧
  a_35.m.t = a_38.a.m.t ∧
  a_35.m.ep = a_38.a.m.ep ∧
  a_35.m.ti = a_38.a.m.ti ∧
  a_35.m.sq = a_38.a.m.sq ∧
  a_35.m.n = a_38.a.m.n ∧
  a_35.m.id = a_38.a.m.id ∧
  a_35.m.op = a_38.a.m.op ∧
  a_35.m.key = a_38.a.m.key ∧
  a_35.m.err = a_38.a.m.err ∧
  a_35.m.last = a_38.a.m.last ∧
  a_35.m.it.key = a_38.a.m.it.key ∧
  a_35.m.it.val = a_38.a.m.it.val ∧
  a_35.m.it.en = a_38.a.m.it.en ∧
  a_35.m.it.gone = a_38.a.m.it.gone ∧
  ((0 : Nat) = (0 : Nat) ∧
  a_35.il.length = a_38.a.il.length ∧
  b_8.i = a_38.a.ci) ∧
  ((0 : Nat) = (0 : Nat) ∧
  a_35.ml.length = a_38.a.ml.length ∧
  b_8.m = a_38.a.cm) ∧
  ((0 : Nat) = (0 : Nat) ∧
  a_35.nl.length = a_38.a.nl.length ∧
  b_8.n = a_38.a.cn) ∧
  a_35.m.base = a_38.a.m.base ∧
  ((0 : Nat) = (0 : Nat) ∧
  a_35.ol.length = a_38.a.ol.length ∧
  b_8.o = a_38.a.co) ∧
  (cutMR a_4.m).k = a_38.a.m.k ∧
  (cutMR a_4.m).f = a_38.a.m.f ∧
  (cutMR a_4.m).t = a_38.a.m.t ∧
  (cutMR a_4.m).ep = a_38.a.m.ep ∧
  (cutMR a_4.m).ti = a_38.a.m.ti ∧
  (cutMR a_4.m).sq = a_38.a.m.sq ∧
  (cutMR a_4.m).n = a_38.a.m.n ∧
  (cutMR a_4.m).id = a_38.a.m.id ∧
  (cutMR a_4.m).op = a_38.a.m.op ∧
  (cutMR a_4.m).key = a_38.a.m.key ∧
  (cutMR a_4.m).err = a_38.a.m.err ∧
  (cutMR a_4.m).last = a_38.a.m.last ∧
  (cutMR a_4.m).it.key = a_38.a.m.it.key ∧
  (cutMR a_4.m).it.val = a_38.a.m.it.val ∧
  (cutMR a_4.m).it.en = a_38.a.m.it.en ∧
  (cutMR a_4.m).it.gone = a_38.a.m.it.gone ∧
  ((0 : Nat) = (0 : Nat) ∧
  (cutIL a_4.il (6 : Nat)).length = a_38.a.il.length ∧
  b.fst = a_38.c.i) ∧
  ((0 : Nat) = (0 : Nat) ∧
  (cutML a_4.ml (6 : Nat)).length = a_38.a.ml.length ∧
  b.snd = a_38.c.m) ∧
  ((0 : Nat) = (0 : Nat) ∧
  (List.take (7 : Nat) a_4.nl).length = a_38.a.nl.length ∧
  a_4.cn = a_38.c.n) ∧
  (cutMR a_4.m).base = a_38.a.m.base ∧
  ((0 : Nat) = (0 : Nat) ∧
  (List.take (7 : Nat) a_4.ol).length = a_38.a.ol.length ∧
  a_4.co = a_38.c.o) ∧
  (a_38.a.il.length ≤ a_35.il.length ∧
  RowsEq a_38.a.il.length (4 : Nat) (encRows encItem a_35.il) (encRows encItem a_38.a.il)) ∧
  (a_38.a.ml.length ≤ a_35.ml.length ∧
  RowsEq a_38.a.ml.length (2 : Nat) (encRows encMark a_35.ml) (encRows encMark a_38.a.ml)) ∧
  (a_38.a.nl.length ≤ a_35.nl.length ∧
  RowsEq a_38.a.nl.length (1 : Nat) (encRows encI a_35.nl) (encRows encI a_38.a.nl)) ∧
  (a_38.a.ol.length ≤ a_35.ol.length ∧
  RowsEq a_38.a.ol.length (1 : Nat) (encRows encI a_35.ol) (encRows encI a_38.a.ol)) ∧
  (a_38.a.il.length ≤ (cutIL a_4.il (6 : Nat)).length ∧
  RowsEq a_38.a.il.length (4 : Nat) (encRows encItem (cutIL a_4.il (6 : Nat))) (encRows encItem a_38.a.il)) ∧
  (a_38.a.ml.length ≤ (cutML a_4.ml (6 : Nat)).length ∧
  RowsEq a_38.a.ml.length (2 : Nat) (encRows encMark (cutML a_4.ml (6 : Nat))) (encRows encMark a_38.a.ml)) ∧
  (a_38.a.nl.length ≤ a.n2 ∧
  RowsEq a_38.a.nl.length (1 : Nat) a.r2 (encRows encI a_38.a.nl)) ∧
  (a_38.a.ol.length ≤ a.n3 ∧
  RowsEq a_38.a.ol.length (1 : Nat) a.r3 (encRows encI a_38.a.ol)) ∧
  (a_38.a.il.length < (100000 : Nat) ∧
  a_38.a.ml.length < (100000 : Nat) ∧
  a_38.a.nl.length < (100000 : Nat) ∧
  a_38.a.ol.length < (100000 : Nat)) ∧
  ∀ (b : Unit), True →
  ∃ (b : Unit), Bool.true = Bool.true ∧
  True ∧
  True))))) ∧
  (Bool.true = Bool.false →
  InR IntKind.i64 (0 : Int) ∧
  ∃ (a_18 : MsgA), (cutMR a_4.m).k = a_18.m.k ∧
  (cutMR a_4.m).f = a_18.m.f ∧
  (cutMR a_4.m).t = a_18.m.t ∧
  (cutMR a_4.m).ep = a_18.m.ep ∧
  (cutMR a_4.m).ti = a_18.m.ti ∧
  (cutMR a_4.m).sq = a_18.m.sq ∧
  (cutMR a_4.m).n = a_18.m.n ∧
  (cutMR a_4.m).id = a_18.m.id ∧
  (cutMR a_4.m).op = a_18.m.op ∧
  (cutMR a_4.m).key = a_18.m.key ∧
  (cutMR a_4.m).err = a_18.m.err ∧
  (cutMR a_4.m).last = a_18.m.last ∧
  (cutMR a_4.m).it.key = a_18.m.it.key ∧
  (cutMR a_4.m).it.val = a_18.m.it.val ∧
  (cutMR a_4.m).it.en = a_18.m.it.en ∧
  (cutMR a_4.m).it.gone = a_18.m.it.gone ∧
  ((0 : Nat) = (0 : Nat) ∧
  (cutIL a_4.il (6 : Nat)).length = a_18.il.length ∧
  cap = a_18.ci) ∧
  ((0 : Nat) = (0 : Nat) ∧
  (cutML a_4.ml (6 : Nat)).length = a_18.ml.length ∧
  cap_1 = a_18.cm) ∧
  ((0 : Nat) = (0 : Nat) ∧
  (List.take (7 : Nat) a_4.nl).length = a_18.nl.length ∧
  cap_2 = a_18.cn) ∧
  (cutMR a_4.m).base = a_18.m.base ∧
  ((0 : Nat) = (0 : Nat) ∧
  (List.take (7 : Nat) a_4.ol).length = a_18.ol.length ∧
  a_4.co = a_18.co) ∧
  (a_18.il.length ≤ (cutIL a_4.il (6 : Nat)).length ∧
  RowsEq a_18.il.length (4 : Nat) (fun (i j : Nat) => encRows encItem (cutIL a_4.il (6 : Nat)) ((0 : Nat) + i) j) (encRows encItem a_18.il)) ∧
  (a_18.ml.length ≤ (cutML a_4.ml (6 : Nat)).length ∧
  RowsEq a_18.ml.length (2 : Nat) (fun (i j : Nat) => encRows encMark (cutML a_4.ml (6 : Nat)) ((0 : Nat) + i) j) (encRows encMark a_18.ml)) ∧
  (a_18.nl.length ≤ (List.take (7 : Nat) a_4.nl).length ∧
  RowsEq a_18.nl.length (1 : Nat) (fun (i j : Nat) => a.r2 ((0 : Nat) + i) j) (encRows encI a_18.nl)) ∧
  (a_18.ol.length ≤ a.n3 ∧
  RowsEq a_18.ol.length (1 : Nat) a.r3 (encRows encI a_18.ol)) ∧
  (a_18.il.length < (100000 : Nat) ∧
  a_18.ml.length < (100000 : Nat) ∧
  a_18.nl.length < (100000 : Nat)) ∧
  ∀ (b_2 : SpB), True →
  ∃ (a_20 : EqMA), (0 : Int) = a_20.a.m.k ∧
  (0 : Int) = a_20.a.m.f ∧
  (0 : Int) = a_20.a.m.t ∧
  (0 : Int) = a_20.a.m.ep ∧
  (0 : Int) = a_20.a.m.ti ∧
  (0 : Int) = a_20.a.m.sq ∧
  (0 : Int) = a_20.a.m.n ∧
  (0 : Int) = a_20.a.m.id ∧
  (0 : Int) = a_20.a.m.op ∧
  (ByteArray.mk #[]) = a_20.a.m.key ∧
  (0 : Int) = a_20.a.m.err ∧
  Bool.false = a_20.a.m.last ∧
  (ByteArray.mk #[]) = a_20.a.m.it.key ∧
  (ByteArray.mk #[]) = a_20.a.m.it.val ∧
  (0 : Int) = a_20.a.m.it.en ∧
  Bool.false = a_20.a.m.it.gone ∧
  ((0 : Nat) = a_20.a.il.length ∧
  (0 : Nat) = a_20.a.ci) ∧
  ((0 : Nat) = a_20.a.ml.length ∧
  (0 : Nat) = a_20.a.cm) ∧
  ((0 : Nat) = a_20.a.nl.length ∧
  (0 : Nat) = a_20.a.cn) ∧
  (0 : Int) = a_20.a.m.base ∧
  ((0 : Nat) = a_20.a.ol.length ∧
  (0 : Nat) = a_20.a.co) ∧
  (cutMR a_4.m).k = a_20.a.m.k ∧
  (cutMR a_4.m).f = a_20.a.m.f ∧
  (cutMR a_4.m).t = a_20.a.m.t ∧
  (cutMR a_4.m).ep = a_20.a.m.ep ∧
  (cutMR a_4.m).ti = a_20.a.m.ti ∧
  (cutMR a_4.m).sq = a_20.a.m.sq ∧
  (cutMR a_4.m).n = a_20.a.m.n ∧
  (cutMR a_4.m).id = a_20.a.m.id ∧
  (cutMR a_4.m).op = a_20.a.m.op ∧
  (cutMR a_4.m).key = a_20.a.m.key ∧
  (cutMR a_4.m).err = a_20.a.m.err ∧
  (cutMR a_4.m).last = a_20.a.m.last ∧
  (cutMR a_4.m).it.key = a_20.a.m.it.key ∧
  (cutMR a_4.m).it.val = a_20.a.m.it.val ∧
  (cutMR a_4.m).it.en = a_20.a.m.it.en ∧
  (cutMR a_4.m).it.gone = a_20.a.m.it.gone ∧
  ((0 : Nat) = (0 : Nat) ∧
  (cutIL a_4.il (6 : Nat)).length = a_20.a.il.length ∧
  b.fst = a_20.c.i) ∧
  ((0 : Nat) = (0 : Nat) ∧
  (cutML a_4.ml (6 : Nat)).length = a_20.a.ml.length ∧
  b.snd = a_20.c.m) ∧
  ((0 : Nat) = (0 : Nat) ∧
  (List.take (7 : Nat) a_4.nl).length = a_20.a.nl.length ∧
  a_4.cn = a_20.c.n) ∧
  (cutMR a_4.m).base = a_20.a.m.base ∧
  ((0 : Nat) = (0 : Nat) ∧
  (List.take (7 : Nat) a_4.ol).length = a_20.a.ol.length ∧
  a_4.co = a_20.c.o) ∧
  a_20.a.il.length = (0 : Nat) ∧
  a_20.a.ml.length = (0 : Nat) ∧
  a_20.a.nl.length = (0 : Nat) ∧
  a_20.a.ol.length = (0 : Nat) ∧
  (a_20.a.il.length ≤ (cutIL a_4.il (6 : Nat)).length ∧
  RowsEq a_20.a.il.length (4 : Nat) (encRows encItem (cutIL a_4.il (6 : Nat))) (encRows encItem a_20.a.il)) ∧
  (a_20.a.ml.length ≤ (cutML a_4.ml (6 : Nat)).length ∧
  RowsEq a_20.a.ml.length (2 : Nat) (encRows encMark (cutML a_4.ml (6 : Nat))) (encRows encMark a_20.a.ml)) ∧
  (a_20.a.nl.length ≤ a.n2 ∧
  RowsEq a_20.a.nl.length (1 : Nat) a.r2 (encRows encI a_20.a.nl)) ∧
  (a_20.a.ol.length ≤ a.n3 ∧
  RowsEq a_20.a.ol.length (1 : Nat) a.r3 (encRows encI a_20.a.ol)) ∧
  (a_20.a.il.length < (100000 : Nat) ∧
  a_20.a.ml.length < (100000 : Nat) ∧
  a_20.a.nl.length < (100000 : Nat) ∧
  a_20.a.ol.length < (100000 : Nat)) ∧
  ∀ (b : Unit), True →
  ∃ (a : MsgA), (0 : Int) = a.m.k ∧
  (0 : Int) = a.m.f ∧
  (0 : Int) = a.m.t ∧
  (0 : Int) = a.m.ep ∧
  (0 : Int) = a.m.ti ∧
  (0 : Int) = a.m.sq ∧
  (0 : Int) = a.m.n ∧
  (0 : Int) = a.m.id ∧
  (0 : Int) = a.m.op ∧
  (ByteArray.mk #[]) = a.m.key ∧
  (0 : Int) = a.m.err ∧
  Bool.false = a.m.last ∧
  (ByteArray.mk #[]) = a.m.it.key ∧
  (ByteArray.mk #[]) = a.m.it.val ∧
  (0 : Int) = a.m.it.en ∧
  Bool.false = a.m.it.gone ∧
  ((0 : Nat) = a.il.length ∧
  (0 : Nat) = a.ci) ∧
  ((0 : Nat) = a.ml.length ∧
  (0 : Nat) = a.cm) ∧
  ((0 : Nat) = a.nl.length ∧
  (0 : Nat) = a.cn) ∧
  (0 : Int) = a.m.base ∧
  ((0 : Nat) = a.ol.length ∧
  (0 : Nat) = a.co) ∧
  a.il.length = (0 : Nat) ∧
  a.ml.length = (0 : Nat) ∧
  a.nl.length = (0 : Nat) ∧
  a.ol.length = (0 : Nat) ∧
  (a.il.length < (100000 : Nat) ∧
  a.ml.length < (100000 : Nat) ∧
  a.nl.length < (100000 : Nat)) ∧
  ∀ (b : SpB), True →
  ∃ (b : Unit), Bool.false = Bool.true ∧
  True ∧
  True))) (by kernel_rfl) (by
  rintro ⟨m, n0, c0, r0, n1, c1, r1, n2, c2, r2, n3, c3, r3⟩ ⟨⟨p0, k0⟩, ⟨p1, k1⟩, ⟨p2, k2⟩, ⟨p3, k3⟩⟩
  dsimp only at p0 k0 p1 k1 p2 k2 p3 k3 ⊢
  simp only [Nat.zero_add, InR]
  have l0 := itemsOf_len n0 r0
  have l1 := marksOf_len n1 r1
  have l2 := intsOf_len n2 r2
  have l3 := intsOf_len n3 r3
  have h0 : RowsEq (itemsOf n0 r0).length 4 r0 (encRows encItem (itemsOf n0 r0)) := by rw [l0]; exact itemsOf_rows k0
  have h1 : RowsEq (marksOf n1 r1).length 2 r1 (encRows encMark (marksOf n1 r1)) := by rw [l1]; exact marksOf_rows k1
  have h2 : RowsEq (intsOf n2 r2).length 1 r2 (encRows encI (intsOf n2 r2)) := by rw [l2]; exact intsOf_rows k2
  have h3 : RowsEq (intsOf n3 r3).length 1 r3 (encRows encI (intsOf n3 r3)) := by rw [l3]; exact intsOf_rows k3
  have t2 := List.length_take (l := intsOf n2 r2) (i := 7)
  have t3 := List.length_take (l := intsOf n3 r3) (i := 7)
  have g2 := rows_take h2 7 (by omega)
  have g3 := rows_take h3 7 (by omega)
  refine ⟨(), trivial, fun _ _ => ⟨⟨m, itemsOf n0 r0, marksOf n1 r1, intsOf n2 r2, intsOf n3 r3, c0, c1, c2, c3⟩, ?_⟩⟩
  ((repeat' apply And.intro) <;> first | with_reducible rfl | omega | (dsimp only; omega) | exact RowsEq.refl _ _ _ | assumption | rfl | trivial | exact Nat.le_refl _ | skip)
  dsimp only
  clear h0 h1 h2 h3 k0 k1 k2 k3
  generalize itemsOf n0 r0 = il0 at *
  generalize marksOf n1 r1 = ml0 at *
  generalize intsOf n2 r2 = nl0 at *
  generalize intsOf n3 r3 = ol0 at *
  generalize cutMR m = mC at *
  generalize cutIL il0 6 = il at *
  generalize cutML ml0 6 = ml at *
  generalize nl0.take 7 = nl at *
  generalize ol0.take 7 = ol at *
  rintro ⟨d0, d1⟩ ⟨b1, b2⟩
  dsimp only at b1 b2 ⊢
  refine ⟨⟨mC, il, ml, nl, ol, d0, d1, c2, c3⟩, ?_⟩
  ((repeat' apply And.intro) <;> first | with_reducible rfl | omega | (dsimp only; omega) | exact RowsEq.refl _ _ _ | assumption | rfl | trivial | exact Nat.le_refl _ | skip)
  refine fun q hq => ⟨fun _ => ⟨(), trivial, trivial, trivial⟩, fun hqt => ?_⟩
  have hok := hq.1 (by simpa using hqt)
  have okc : ∀ x y z u, okMR ⟨mC, il, ml, nl, ol, x, y, z, u⟩ := fun x y z u => ⟨hok.k, hok.f, hok.t, hok.ft, hok.ep, hok.ti, hok.sq, hok.id, hok.base, hok.n, hok.op, hok.key, hok.err, hok.it, hok.il, hok.ml, hok.nl, hok.ol, hok.ia, hok.ma⟩
  have i0 := hok.il
  have i1 := hok.ml
  have i2 : nl.length < 100000 := by omega
  have i3 : ol.length < 100000 := by omega
  dsimp only at i0 i1
  clear hq
  ((repeat' apply And.intro) <;> first | with_reducible rfl | omega | (dsimp only; omega) | exact RowsEq.refl _ _ _ | assumption | rfl | trivial | exact Nat.le_refl _ | skip)
  refine fun ca _ _ => ?_
  ((repeat' apply And.intro) <;> first | with_reducible rfl | omega | (dsimp only; omega) | exact RowsEq.refl _ _ _ | assumption | rfl | trivial | exact Nat.le_refl _ | skip)
  refine fun cb _ _ => ?_
  ((repeat' apply And.intro) <;> first | with_reducible rfl | omega | (dsimp only; omega) | exact RowsEq.refl _ _ _ | assumption | rfl | trivial | exact Nat.le_refl _ | skip)
  refine fun cc _ _ => ⟨⟨(), ?_⟩, fun _ _ => ⟨fun _ => ⟨⟨by decide, by decide⟩, ⟨mC, il, ml, nl, ol, ca, cb, cc, c3⟩, ?_⟩, fun g => (by cases g)⟩⟩
  · ((repeat' apply And.intro) <;> first | with_reducible rfl | omega | (dsimp only; omega) | exact RowsEq.refl _ _ _ | assumption | rfl | trivial | exact Nat.le_refl _ | skip)
  ((repeat' apply And.intro) <;> first | with_reducible rfl | omega | (dsimp only; omega) | exact RowsEq.refl _ _ _ | assumption | rfl | trivial | exact Nat.le_refl _ | skip)
  · exact okc _ _ _ _
  refine fun _ _ => ⟨⟨mC, il, ml, nl, ol, ca, cb, cc, c3⟩, ?_⟩
  ((repeat' apply And.intro) <;> first | with_reducible rfl | omega | (dsimp only; omega) | exact RowsEq.refl _ _ _ | assumption | rfl | trivial | exact Nat.le_refl _ | skip)
  refine fun x1 _ => ⟨by decide, fun cD e1 _ => ⟨fun g => (by cases g), fun _ => ⟨by decide, ⟨mC, il, ml, nl, ol, ca, cb, cc, c3⟩, ?_⟩⟩⟩
  ((repeat' apply And.intro) <;> first | with_reducible rfl | omega | (dsimp only; omega) | exact RowsEq.refl _ _ _ | assumption | rfl | trivial | exact Nat.le_refl _ | skip)
  refine fun x2 _ => ⟨fun g => (by cases g), fun _ => ⟨⟨by decide, by decide⟩, ⟨mC, il, ml, nl, ol, x1.i, x1.m, x1.n, x1.o⟩, ?_⟩⟩
  ((repeat' apply And.intro) <;> first | with_reducible rfl | omega | (dsimp only; omega) | exact RowsEq.refl _ _ _ | assumption | rfl | trivial | exact Nat.le_refl _ | skip)
  refine fun x3 _ => ⟨⟨⟨mC, il, ml, nl, ol, x3.i, x3.m, x3.n, x3.o⟩, ⟨d0, d1, c2, c3⟩⟩, ?_⟩
  ((repeat' apply And.intro) <;> first | with_reducible rfl | omega | (dsimp only; omega) | exact RowsEq.refl _ _ _ | assumption | rfl | trivial | exact Nat.le_refl _ | skip)
  refine fun _ _ => ⟨⟨mC, il, ml, nl, ol, x3.i, x3.m, x3.n, x3.o⟩, ?_⟩
  ((repeat' apply And.intro) <;> first | with_reducible rfl | omega | (dsimp only; omega) | exact RowsEq.refl _ _ _ | assumption | rfl | trivial | exact Nat.le_refl _ | skip)
  refine fun x4 _ => ⟨fun g => (by cases g), fun _ => ⟨⟨by decide, by decide⟩, ⟨mC, il, ml, nl, ol, x1.i, x1.m, x1.n, x1.o⟩, ?_⟩⟩
  ((repeat' apply And.intro) <;> first | with_reducible rfl | omega | (dsimp only; omega) | exact RowsEq.refl _ _ _ | assumption | rfl | trivial | exact Nat.le_refl _ | skip)
  refine fun x5 _ => ⟨fun g => (by cases g), fun _ => ?_⟩
  ((repeat' apply And.intro) <;> first | with_reducible rfl | omega | (dsimp only; omega) | exact RowsEq.refl _ _ _ | assumption | rfl | trivial | exact Nat.le_refl _ | skip)
  refine ⟨⟨⟨mC, il, ml, nl, ol, x5.i, x5.m, x5.n, x5.o⟩, ⟨d0, d1, c2, c3⟩⟩, ?_⟩
  ((repeat' apply And.intro) <;> first | with_reducible rfl | omega | (dsimp only; omega) | exact RowsEq.refl _ _ _ | assumption | rfl | trivial | exact Nat.le_refl _ | skip)
  exact fun _ _ => ⟨(), trivial, trivial, trivial⟩)
theorem instOwnL : ∀ ads, okADs [.rcd [.c (.int .i64), .c (.int .i64), .c (.int .i64), .c (.int .i64), .c (.int .i64), .c (.int .i64), .c (.int .i64), .c (.int .i64), .c (.int .i64), .c .str, .c (.int .i64), .c .bool, .c .str, .c .str, .c (.int .i64), .c .bool, .s 31 [.str, .str, .int .i64, .bool], .s 56 [.int .i64, .str], .s 3 [.int .i64], .c (.int .i64), .s 3 [.int .i64]]] ads → ∃ a : OwnA, cOwnL.pre a ∧ cOwnL.args a = svs 0 ads ∧ cOwnL.ro a = chs 0 [.rcd [.c (.int .i64), .c (.int .i64), .c (.int .i64), .c (.int .i64), .c (.int .i64), .c (.int .i64), .c (.int .i64), .c (.int .i64), .c (.int .i64), .c .str, .c (.int .i64), .c .bool, .c .str, .c .str, .c (.int .i64), .c .bool, .s 31 [.str, .str, .int .i64, .bool], .s 56 [.int .i64, .str], .s 3 [.int .i64], .c (.int .i64), .s 3 [.int .i64]]] ads ∧ cOwnL.m = slcs ads := by
  rintro ads ⟨_, _, rfl, ⟨xs, rfl, hxs⟩, rfl⟩
  obtain ⟨_, _, rfl, ⟨v0, rfl, _⟩, hxs⟩ := hxs
  obtain ⟨_, _, rfl, ⟨v1, rfl, _⟩, hxs⟩ := hxs
  obtain ⟨_, _, rfl, ⟨v2, rfl, _⟩, hxs⟩ := hxs
  obtain ⟨_, _, rfl, ⟨v3, rfl, _⟩, hxs⟩ := hxs
  obtain ⟨_, _, rfl, ⟨v4, rfl, _⟩, hxs⟩ := hxs
  obtain ⟨_, _, rfl, ⟨v5, rfl, _⟩, hxs⟩ := hxs
  obtain ⟨_, _, rfl, ⟨v6, rfl, _⟩, hxs⟩ := hxs
  obtain ⟨_, _, rfl, ⟨v7, rfl, _⟩, hxs⟩ := hxs
  obtain ⟨_, _, rfl, ⟨v8, rfl, _⟩, hxs⟩ := hxs
  obtain ⟨_, _, rfl, ⟨v9, rfl, _⟩, hxs⟩ := hxs
  obtain ⟨_, _, rfl, ⟨v10, rfl, _⟩, hxs⟩ := hxs
  obtain ⟨_, _, rfl, ⟨v11, rfl, _⟩, hxs⟩ := hxs
  obtain ⟨_, _, rfl, ⟨v12, rfl, _⟩, hxs⟩ := hxs
  obtain ⟨_, _, rfl, ⟨v13, rfl, _⟩, hxs⟩ := hxs
  obtain ⟨_, _, rfl, ⟨v14, rfl, _⟩, hxs⟩ := hxs
  obtain ⟨_, _, rfl, ⟨v15, rfl, _⟩, hxs⟩ := hxs
  obtain ⟨_, _, rfl, ⟨n0, c0, r0, rfl, p0, _, k0⟩, hxs⟩ := hxs
  obtain ⟨_, _, rfl, ⟨n1, c1, r1, rfl, p1, _, k1⟩, hxs⟩ := hxs
  obtain ⟨_, _, rfl, ⟨n2, c2, r2, rfl, p2, _, k2⟩, hxs⟩ := hxs
  obtain ⟨_, _, rfl, ⟨v16, rfl, _⟩, hxs⟩ := hxs
  obtain ⟨_, _, rfl, ⟨n3, c3, r3, rfl, p3, _, k3⟩, hxs⟩ := hxs
  obtain rfl := hxs
  exact ⟨⟨⟨toI v0, toI v1, toI v2, toI v3, toI v4, toI v5, toI v6, toI v7, toI v8, toS v9, toI v10, toB v11, ⟨toS v12, toS v13, toI v14, toB v15⟩, toI v16⟩, n0, c0, r0, n1, c1, r1, n2, c2, r2, n3, c3, r3⟩, ⟨⟨p0, k0⟩, ⟨p1, k1⟩, ⟨p2, k2⟩, ⟨p3, k3⟩⟩, rfl, rfl, rfl⟩
end Go.Proofs.Ythgnaehfepcblaa
