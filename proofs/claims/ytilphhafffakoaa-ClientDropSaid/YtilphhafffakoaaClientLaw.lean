/-
  The statements' functions over the layer client; no condition but that lists are short.
-/
import Derived.Test.YtilphhafffakoaaClient
import Derived.Test.YtilphhafffakoaaSxZ
namespace Go.Proofs.Ytilphhafffakoaa
open Go.Sx
set_option maxRecDepth 100000

noncomputable def cBegun : Con where
  α := Unit
  β := Unit
  m := 0
  m' := 0
  pre := fun _ => True
  args := fun _ => []
  hp := fun _ => []
  ro := fun _ => []
  post := fun _ _ => True
  res := fun _ _ => .a .tt
  hp' := fun _ _ => []
set_option maxHeartbeats 4000000 in
theorem bodyBegun : fnBody (Yf Try.prog) [] 6 cBegun fun _ => [] := fnBody.of (p :=
  ∀ (a : Unit), True →
  ∀ (cap : Nat), (1 : Nat) ≤ cap →
  cap ≤ lenMax →
  ∀ (cap : Nat), (1 : Nat) ≤ cap →
  cap ≤ lenMax →
  ((1 : Nat) ≤ (0 : Nat) →
  cap = (0 : Nat)) →
  ∀ (cap : Nat), (1 : Nat) ≤ cap →
  cap ≤ lenMax →
  ((1 : Nat) ≤ (0 : Nat) →
  cap = (0 : Nat)) →
  ∃ (b : Unit), Bool.true = Bool.true ∧
  True ∧
  True) (by kernel_rfl) (by
  repeat' (first | intro _ | exact ⟨(), rfl, trivial, trivial⟩))

/-! ### Of, eq -/

structure OfA where
  l : List CallR
  cap : Nat
noncomputable def cOf : Con where
  α := OfA
  β := Nat
  m := 1
  m' := 2
  pre := fun a => a.l.length < 1000
  args := fun a => [.a (.slc 0 0 13 a.l.length a.cap)]
  hp := fun _ => []
  ro := fun a => [(0, .arr 48 ksCall a.l.length (encRows encCall a.l))]
  post := fun _ _ => True
  res := fun a cap => .a (.slc 1 0 13 a.l.length cap)
  hp' := fun a _ => [(1, .arr 35 ksCall a.l.length (encRows encCall a.l))]
def iOf (a : OfA) : An := .flat 3 (Nat × Nat) (fun s x => ((s.new (.arr 35 ksCall x.1 (encRows encCall (a.l.take x.1)))).set 3 (.a (.slc s.nx 0 13 x.1 x.2))).int 4 x.1) (fun _ x => x.1 ≤ a.l.length) (fun _ x => a.l.length - x.1)
set_option maxHeartbeats 4000000 in
theorem bodyOf : fnBody (Y Try.prog) [] 14 cOf fun a => [(14, [iOf a], [])] := fnBody.of (p :=
  ∀ (a : OfA), a.l.length < (1000 : Nat) →
  (∃ (a_2 : Nat × Nat), (0 : Int) = (↑a_2.fst : Int) ∧
  ((0 : Nat) = a_2.fst ∧
  (0 : Nat) = a_2.snd) ∧
  ((0 : Nat) = (0 : Nat) ∧
  a.l.length = a.l.length ∧
  a.cap = a.cap) ∧
  a_2.fst = (0 : Nat) ∧
  (a.l.length ≤ a.l.length ∧
  RowsEq a.l.length (13 : Nat) (encRows encCall a.l) (encRows encCall a.l)) ∧
  a_2.fst ≤ a.l.length ∧
  True) ∧
  ∀ (a_2 : Nat × Nat), a_2.fst ≤ a.l.length →
  (Decidable.decide ((↑a_2.fst : Int) < (↑a.l.length : Int)) = Bool.true →
  ((0 : Int) ≤ (↑a_2.fst : Int) ∧
  (↑a_2.fst : Int) < (↑a.l.length : Int)) ∧
  (0 : Nat) + (↑a_2.fst : Int).toNat < a.l.length ∧
  (InR IntKind.i64 (gl a.l ((0 : Nat) + (↑a_2.fst : Int).toNat)).id →
  InR IntKind.i64 (gl a.l ((0 : Nat) + (↑a_2.fst : Int).toNat)).op →
  InR IntKind.i64 (gl a.l ((0 : Nat) + (↑a_2.fst : Int).toNat)).node →
  InR IntKind.i64 (gl a.l ((0 : Nat) + (↑a_2.fst : Int).toNat)).frm →
  InR IntKind.i64 (gl a.l ((0 : Nat) + (↑a_2.fst : Int).toNat)).to →
  (0 : Nat) + a_2.fst ≤ a_2.fst ∧
  (1 : Nat) ≤ (1 : Nat) ∧
  (a_2.fst + (1 : Nat)) * (128 : Nat) ≤ (140737488355328 : Nat) ∧
  ∀ (cap : Nat), a_2.fst + (1 : Nat) ≤ cap →
  cap ≤ lenMax →
  (a_2.fst + (1 : Nat) ≤ a_2.snd →
  cap = a_2.snd) →
  InR IntKind.i64 ((↑a_2.fst : Int) + (1 : Int)) ∧
  ∃ (a' : Nat × Nat), (↑a_2.fst : Int) + (1 : Int) = (↑a'.fst : Int) ∧
  ((0 : Nat) = (0 : Nat) ∧
  a_2.fst + (1 : Nat) = a'.fst ∧
  cap = a'.snd) ∧
  ((0 : Nat) = (0 : Nat) ∧
  a.l.length = a.l.length ∧
  a.cap = a.cap) ∧
  (a'.fst ≤ a_2.fst + (1 : Nat) ∧
  RowsEq a'.fst (13 : Nat) (appRows (encRows encCall (List.take a_2.fst a.l)) (0 : Nat) a_2.fst fun (i j : Nat) => flatRows (13 : Nat) [Value.int IntKind.i64 (gl a.l ((0 : Nat) + (↑a_2.fst : Int).toNat)).id, Value.int IntKind.i64 (gl a.l ((0 : Nat) + (↑a_2.fst : Int).toNat)).op, Value.string (gl a.l ((0 : Nat) + (↑a_2.fst : Int).toNat)).key, Value.int IntKind.i64 (gl a.l ((0 : Nat) + (↑a_2.fst : Int).toNat)).node, Value.int IntKind.i64 (gl a.l ((0 : Nat) + (↑a_2.fst : Int).toNat)).frm, Value.int IntKind.i64 (gl a.l ((0 : Nat) + (↑a_2.fst : Int).toNat)).to, Value.bool (gl a.l ((0 : Nat) + (↑a_2.fst : Int).toNat)).done, Value.int IntKind.i64 (gl a.l ((0 : Nat) + (↑a_2.fst : Int).toNat)).r.id, Value.int IntKind.i64 (gl a.l ((0 : Nat) + (↑a_2.fst : Int).toNat)).r.op, Value.string (gl a.l ((0 : Nat) + (↑a_2.fst : Int).toNat)).r.key, Value.int IntKind.i64 (gl a.l ((0 : Nat) + (↑a_2.fst : Int).toNat)).r.err, Value.string (gl a.l ((0 : Nat) + (↑a_2.fst : Int).toNat)).r.val, Value.bool (gl a.l ((0 : Nat) + (↑a_2.fst : Int).toNat)).r.has] ((0 : Nat) + i) j) (encRows encCall (List.take a'.fst a.l))) ∧
  (a.l.length ≤ a.l.length ∧
  RowsEq a.l.length (13 : Nat) (encRows encCall a.l) (encRows encCall a.l)) ∧
  a'.fst ≤ a.l.length ∧
  a.l.length - a'.fst < a.l.length - a_2.fst)) ∧
  (Decidable.decide ((↑a_2.fst : Int) < (↑a.l.length : Int)) = Bool.false →
  ∃ (b : Nat), ((0 : Nat) = (0 : Nat) ∧
  a_2.fst = a.l.length ∧
  a_2.snd = b) ∧
  (a.l.length ≤ a_2.fst ∧
  RowsEq a.l.length (13 : Nat) (encRows encCall (List.take a_2.fst a.l)) (encRows encCall a.l)) ∧
  True ∧
  True)) (by kernel_rfl) (by
  intro a h
  refine ⟨⟨(0, 0), by simp⟩, fun x hx => ⟨fun h1 => ?_, fun h1 => ?_⟩⟩
  · have h2 : x.1 < a.l.length := by simpa using h1
    have h3 := take_succ_gl h2
    refine ⟨by omega, by omega, fun _ _ _ _ _ => ⟨by omega, by omega, by omega, fun cap _ _ _ => ⟨by simp only [InR]; omega, (x.1 + 1, cap), ?_⟩⟩⟩
    dsimp only
    rw [h3]
    (repeat' apply And.intro)
    all_goals (first | exact .push (by simp; omega) (by omega) (by simp; rfl) | (first | exact trivial | rfl | omega | assumption | exact RowsEq.refl _ _ _ | (simp only [InR]; omega) | (simp; done) | (simp; omega) | grind))
  · have h2 : x.1 = a.l.length := by have : ¬ x.1 < a.l.length := by simpa using h1
                                     omega
    exact ⟨x.2, ⟨rfl, h2, rfl⟩, ⟨by omega, by rw [h2, List.take_length]; exact .refl _ _ _⟩, trivial, trivial⟩)

structure EqA where
  l : List CallR
  c1 : Nat
  c2 : Nat
noncomputable def cEq : Con where
  α := EqA
  β := Unit
  m := 2
  m' := 2
  pre := fun a => a.l.length < 1000
  args := fun a => [.a (.slc 0 0 13 a.l.length a.c1), .a (.slc 1 0 13 a.l.length a.c2)]
  hp := fun _ => []
  ro := fun a => [(0, .arr 35 ksCall a.l.length (encRows encCall a.l)), (1, .arr 35 ksCall a.l.length (encRows encCall a.l))]
  post := fun _ _ => True
  res := fun _ _ => .a .tt
  hp' := fun _ _ => []
def iEq (a : EqA) : An := .flat 4 Nat (fun s i => s.int 5 i) (fun _ i => i ≤ a.l.length) (fun _ i => a.l.length - i)
set_option maxHeartbeats 4000000 in
theorem bodyEq : fnBody (Y Try.prog) [] 13 cEq fun a => [(13, [iEq a], [])] := fnBody.of (p :=
  ∀ (a : EqA), a.l.length < (1000 : Nat) →
  (((↑a.l.length : Int) != (↑a.l.length : Int)) = Bool.true →
  ∃ (b : Unit), Bool.false = Bool.true ∧
  True ∧
  True) ∧
  (((↑a.l.length : Int) != (↑a.l.length : Int)) = Bool.false →
  (∃ (a_3 : Nat), (0 : Int) = (↑a_3 : Int) ∧
  ((↑a.l.length : Int) != (↑a.l.length : Int)) = ((↑a.l.length : Int) != (↑a.l.length : Int)) ∧
  Bool.false = Bool.false ∧
  ((0 : Nat) = (0 : Nat) ∧
  a.l.length = a.l.length ∧
  a.c1 = a.c1) ∧
  ((0 : Nat) = (0 : Nat) ∧
  a.l.length = a.l.length ∧
  a.c2 = a.c2) ∧
  (a.l.length ≤ a.l.length ∧
  RowsEq a.l.length (13 : Nat) (encRows encCall a.l) (encRows encCall a.l)) ∧
  (a.l.length ≤ a.l.length ∧
  RowsEq a.l.length (13 : Nat) (encRows encCall a.l) (encRows encCall a.l)) ∧
  a_3 ≤ a.l.length ∧
  True) ∧
  ∀ (a_3 : Nat), a_3 ≤ a.l.length →
  (Decidable.decide ((↑a_3 : Int) < (↑a.l.length : Int)) = Bool.true →
  (((0 : Int) ≤ (↑a_3 : Int) ∧
  (↑a_3 : Int) < (↑a.l.length : Int)) ∧
  (0 : Nat) + (↑a_3 : Int).toNat < a.l.length ∧
  ((0 : Int) ≤ (↑a_3 : Int) ∧
  (↑a_3 : Int) < (↑a.l.length : Int)) ∧
  (0 : Nat) + (↑a_3 : Int).toNat < a.l.length ∧
  (InR IntKind.i64 (gl a.l ((0 : Nat) + (↑a_3 : Int).toNat)).id →
  InR IntKind.i64 (gl a.l ((0 : Nat) + (↑a_3 : Int).toNat)).id →
  (((gl a.l ((0 : Nat) + (↑a_3 : Int).toNat)).id != (gl a.l ((0 : Nat) + (↑a_3 : Int).toNat)).id) = Bool.true →
  ∃ (b : Unit), Bool.false = Bool.true ∧
  True ∧
  True) ∧
  (((gl a.l ((0 : Nat) + (↑a_3 : Int).toNat)).id != (gl a.l ((0 : Nat) + (↑a_3 : Int).toNat)).id) = Bool.false →
  InR IntKind.i64 (gl a.l ((0 : Nat) + (↑a_3 : Int).toNat)).op →
  InR IntKind.i64 (gl a.l ((0 : Nat) + (↑a_3 : Int).toNat)).op →
  (((gl a.l ((0 : Nat) + (↑a_3 : Int).toNat)).op != (gl a.l ((0 : Nat) + (↑a_3 : Int).toNat)).op) = Bool.true →
  ∃ (b : Unit), Bool.false = Bool.true ∧
  True ∧
  True) ∧
  (((gl a.l ((0 : Nat) + (↑a_3 : Int).toNat)).op != (gl a.l ((0 : Nat) + (↑a_3 : Int).toNat)).op) = Bool.false →
  ((!Decidable.decide ((gl a.l ((0 : Nat) + (↑a_3 : Int).toNat)).key = (gl a.l ((0 : Nat) + (↑a_3 : Int).toNat)).key)) = Bool.true →
  ∃ (b : Unit), Bool.false = Bool.true ∧
  True ∧
  True) ∧
  ((!Decidable.decide ((gl a.l ((0 : Nat) + (↑a_3 : Int).toNat)).key = (gl a.l ((0 : Nat) + (↑a_3 : Int).toNat)).key)) = Bool.false →
  InR IntKind.i64 (gl a.l ((0 : Nat) + (↑a_3 : Int).toNat)).node →
  InR IntKind.i64 (gl a.l ((0 : Nat) + (↑a_3 : Int).toNat)).node →
  (((gl a.l ((0 : Nat) + (↑a_3 : Int).toNat)).node != (gl a.l ((0 : Nat) + (↑a_3 : Int).toNat)).node) = Bool.true →
  ∃ (b : Unit), Bool.false = Bool.true ∧
  True ∧
  True) ∧
  (((gl a.l ((0 : Nat) + (↑a_3 : Int).toNat)).node != (gl a.l ((0 : Nat) + (↑a_3 : Int).toNat)).node) = Bool.false →
  InR IntKind.i64 (gl a.l ((0 : Nat) + (↑a_3 : Int).toNat)).frm →
  InR IntKind.i64 (gl a.l ((0 : Nat) + (↑a_3 : Int).toNat)).frm →
  (((gl a.l ((0 : Nat) + (↑a_3 : Int).toNat)).frm != (gl a.l ((0 : Nat) + (↑a_3 : Int).toNat)).frm) = Bool.true →
  ∃ (b : Unit), Bool.false = Bool.true ∧
  True ∧
  True) ∧
  (((gl a.l ((0 : Nat) + (↑a_3 : Int).toNat)).frm != (gl a.l ((0 : Nat) + (↑a_3 : Int).toNat)).frm) = Bool.false →
  InR IntKind.i64 (gl a.l ((0 : Nat) + (↑a_3 : Int).toNat)).to →
  InR IntKind.i64 (gl a.l ((0 : Nat) + (↑a_3 : Int).toNat)).to →
  (((gl a.l ((0 : Nat) + (↑a_3 : Int).toNat)).to != (gl a.l ((0 : Nat) + (↑a_3 : Int).toNat)).to) = Bool.true →
  ∃ (b : Unit), Bool.false = Bool.true ∧
  True ∧
  True) ∧
  (((gl a.l ((0 : Nat) + (↑a_3 : Int).toNat)).to != (gl a.l ((0 : Nat) + (↑a_3 : Int).toNat)).to) = Bool.false →
  ((!(gl a.l ((0 : Nat) + (↑a_3 : Int).toNat)).done == (gl a.l ((0 : Nat) + (↑a_3 : Int).toNat)).done) = Bool.true →
  ∃ (b : Unit), Bool.false = Bool.true ∧
  True ∧
  True) ∧
  ((!(gl a.l ((0 : Nat) + (↑a_3 : Int).toNat)).done == (gl a.l ((0 : Nat) + (↑a_3 : Int).toNat)).done) = Bool.false →
  InR IntKind.i64 (gl a.l ((0 : Nat) + (↑a_3 : Int).toNat)).r.id →
  InR IntKind.i64 (gl a.l ((0 : Nat) + (↑a_3 : Int).toNat)).r.id →
  (((gl a.l ((0 : Nat) + (↑a_3 : Int).toNat)).r.id == (gl a.l ((0 : Nat) + (↑a_3 : Int).toNat)).r.id) = Bool.true →
  InR IntKind.i64 (gl a.l ((0 : Nat) + (↑a_3 : Int).toNat)).r.op →
  InR IntKind.i64 (gl a.l ((0 : Nat) + (↑a_3 : Int).toNat)).r.op →
  (((gl a.l ((0 : Nat) + (↑a_3 : Int).toNat)).r.op == (gl a.l ((0 : Nat) + (↑a_3 : Int).toNat)).r.op) = Bool.true →
  (Decidable.decide ((gl a.l ((0 : Nat) + (↑a_3 : Int).toNat)).r.key = (gl a.l ((0 : Nat) + (↑a_3 : Int).toNat)).r.key) = Bool.true →
  InR IntKind.i64 (gl a.l ((0 : Nat) + (↑a_3 : Int).toNat)).r.err →
  InR IntKind.i64 (gl a.l ((0 : Nat) + (↑a_3 : Int).toNat)).r.err →
  (((gl a.l ((0 : Nat) + (↑a_3 : Int).toNat)).r.err == (gl a.l ((0 : Nat) + (↑a_3 : Int).toNat)).r.err) = Bool.true →
  (Decidable.decide ((gl a.l ((0 : Nat) + (↑a_3 : Int).toNat)).r.val = (gl a.l ((0 : Nat) + (↑a_3 : Int).toNat)).r.val) = Bool.true →
  ((!(gl a.l ((0 : Nat) + (↑a_3 : Int).toNat)).r.has == (gl a.l ((0 : Nat) + (↑a_3 : Int).toNat)).r.has) = Bool.true →
  ∃ (b : Unit), Bool.false = Bool.true ∧
  True ∧
  True) ∧
  ((!(gl a.l ((0 : Nat) + (↑a_3 : Int).toNat)).r.has == (gl a.l ((0 : Nat) + (↑a_3 : Int).toNat)).r.has) = Bool.false →
  InR IntKind.i64 ((↑a_3 : Int) + (1 : Int)) ∧
  ∃ (a' : Nat), (↑a_3 : Int) + (1 : Int) = (↑a' : Int) ∧
  ((↑a.l.length : Int) != (↑a.l.length : Int)) = ((↑a.l.length : Int) != (↑a.l.length : Int)) ∧
  Bool.false = Bool.false ∧
  ((0 : Nat) = (0 : Nat) ∧
  a.l.length = a.l.length ∧
  a.c1 = a.c1) ∧
  ((0 : Nat) = (0 : Nat) ∧
  a.l.length = a.l.length ∧
  a.c2 = a.c2) ∧
  (a.l.length ≤ a.l.length ∧
  RowsEq a.l.length (13 : Nat) (encRows encCall a.l) (encRows encCall a.l)) ∧
  (a.l.length ≤ a.l.length ∧
  RowsEq a.l.length (13 : Nat) (encRows encCall a.l) (encRows encCall a.l)) ∧
  a' ≤ a.l.length ∧
  a.l.length - a' < a.l.length - a_3)) ∧
  (Decidable.decide ((gl a.l ((0 : Nat) + (↑a_3 : Int).toNat)).r.val = (gl a.l ((0 : Nat) + (↑a_3 : Int).toNat)).r.val) = Bool.false →
  ∃ (b : Unit), Bool.false = Bool.true ∧
  True ∧
  True)) ∧
  (((gl a.l ((0 : Nat) + (↑a_3 : Int).toNat)).r.err == (gl a.l ((0 : Nat) + (↑a_3 : Int).toNat)).r.err) = Bool.false →
  ∃ (b : Unit), Bool.false = Bool.true ∧
  True ∧
  True)) ∧
  (Decidable.decide ((gl a.l ((0 : Nat) + (↑a_3 : Int).toNat)).r.key = (gl a.l ((0 : Nat) + (↑a_3 : Int).toNat)).r.key) = Bool.false →
  ∃ (b : Unit), Bool.false = Bool.true ∧
  True ∧
  True)) ∧
  (((gl a.l ((0 : Nat) + (↑a_3 : Int).toNat)).r.op == (gl a.l ((0 : Nat) + (↑a_3 : Int).toNat)).r.op) = Bool.false →
  ∃ (b : Unit), Bool.false = Bool.true ∧
  True ∧
  True)) ∧
  (((gl a.l ((0 : Nat) + (↑a_3 : Int).toNat)).r.id == (gl a.l ((0 : Nat) + (↑a_3 : Int).toNat)).r.id) = Bool.false →
  ∃ (b : Unit), Bool.false = Bool.true ∧
  True ∧
  True)))))))))) ∧
  ((0 : Int) ≤ (↑a_3 : Int) ∧
  (↑a_3 : Int) < (↑a.l.length : Int)) ∧
  (0 : Nat) + (↑a_3 : Int).toNat < a.l.length ∧
  ((0 : Int) ≤ (↑a_3 : Int) ∧
  (↑a_3 : Int) < (↑a.l.length : Int)) ∧
  (0 : Nat) + (↑a_3 : Int).toNat < a.l.length ∧
  (InR IntKind.i64 (gl a.l ((0 : Nat) + (↑a_3 : Int).toNat)).id →
  InR IntKind.i64 (gl a.l ((0 : Nat) + (↑a_3 : Int).toNat)).id →
  (((gl a.l ((0 : Nat) + (↑a_3 : Int).toNat)).id != (gl a.l ((0 : Nat) + (↑a_3 : Int).toNat)).id) = Bool.true →
  ∃ (b : Unit), Bool.false = Bool.true ∧
  True ∧
  True) ∧
  (((gl a.l ((0 : Nat) + (↑a_3 : Int).toNat)).id != (gl a.l ((0 : Nat) + (↑a_3 : Int).toNat)).id) = Bool.false →
  InR IntKind.i64 (gl a.l ((0 : Nat) + (↑a_3 : Int).toNat)).op →
  InR IntKind.i64 (gl a.l ((0 : Nat) + (↑a_3 : Int).toNat)).op →
  (((gl a.l ((0 : Nat) + (↑a_3 : Int).toNat)).op != (gl a.l ((0 : Nat) + (↑a_3 : Int).toNat)).op) = Bool.true →
  ∃ (b : Unit), Bool.false = Bool.true ∧
  True ∧
  True) ∧
  (((gl a.l ((0 : Nat) + (↑a_3 : Int).toNat)).op != (gl a.l ((0 : Nat) + (↑a_3 : Int).toNat)).op) = Bool.false →
  ((!Decidable.decide ((gl a.l ((0 : Nat) + (↑a_3 : Int).toNat)).key = (gl a.l ((0 : Nat) + (↑a_3 : Int).toNat)).key)) = Bool.true →
  ∃ (b : Unit), Bool.false = Bool.true ∧
  True ∧
  True) ∧
  ((!Decidable.decide ((gl a.l ((0 : Nat) + (↑a_3 : Int).toNat)).key = (gl a.l ((0 : Nat) + (↑a_3 : Int).toNat)).key)) = Bool.false →
  InR IntKind.i64 (gl a.l ((0 : Nat) + (↑a_3 : Int).toNat)).node →
  InR IntKind.i64 (gl a.l ((0 : Nat) + (↑a_3 : Int).toNat)).node →
  (((gl a.l ((0 : Nat) + (↑a_3 : Int).toNat)).node != (gl a.l ((0 : Nat) + (↑a_3 : Int).toNat)).node) = Bool.true →
  ∃ (b : Unit), Bool.false = Bool.true ∧
  True ∧
  True) ∧
  (((gl a.l ((0 : Nat) + (↑a_3 : Int).toNat)).node != (gl a.l ((0 : Nat) + (↑a_3 : Int).toNat)).node) = Bool.false →
  InR IntKind.i64 (gl a.l ((0 : Nat) + (↑a_3 : Int).toNat)).frm →
  InR IntKind.i64 (gl a.l ((0 : Nat) + (↑a_3 : Int).toNat)).frm →
  (((gl a.l ((0 : Nat) + (↑a_3 : Int).toNat)).frm != (gl a.l ((0 : Nat) + (↑a_3 : Int).toNat)).frm) = Bool.true →
  ∃ (b : Unit), Bool.false = Bool.true ∧
  True ∧
  True) ∧
  (((gl a.l ((0 : Nat) + (↑a_3 : Int).toNat)).frm != (gl a.l ((0 : Nat) + (↑a_3 : Int).toNat)).frm) = Bool.false →
  InR IntKind.i64 (gl a.l ((0 : Nat) + (↑a_3 : Int).toNat)).to →
  InR IntKind.i64 (gl a.l ((0 : Nat) + (↑a_3 : Int).toNat)).to →
  (((gl a.l ((0 : Nat) + (↑a_3 : Int).toNat)).to != (gl a.l ((0 : Nat) + (↑a_3 : Int).toNat)).to) = Bool.true →
  ∃ (b : Unit), Bool.false = Bool.true ∧
  True ∧
  True) ∧
  (((gl a.l ((0 : Nat) + (↑a_3 : Int).toNat)).to != (gl a.l ((0 : Nat) + (↑a_3 : Int).toNat)).to) = Bool.false →
  ((!(gl a.l ((0 : Nat) + (↑a_3 : Int).toNat)).done == (gl a.l ((0 : Nat) + (↑a_3 : Int).toNat)).done) = Bool.true →
  ∃ (b : Unit), Bool.false = Bool.true ∧
  True ∧
  True) ∧
  ((!(gl a.l ((0 : Nat) + (↑a_3 : Int).toNat)).done == (gl a.l ((0 : Nat) + (↑a_3 : Int).toNat)).done) = Bool.false →
  InR IntKind.i64 (gl a.l ((0 : Nat) + (↑a_3 : Int).toNat)).r.id →
  InR IntKind.i64 (gl a.l ((0 : Nat) + (↑a_3 : Int).toNat)).r.id →
  (((gl a.l ((0 : Nat) + (↑a_3 : Int).toNat)).r.id == (gl a.l ((0 : Nat) + (↑a_3 : Int).toNat)).r.id) = Bool.true →
  InR IntKind.i64 (gl a.l ((0 : Nat) + (↑a_3 : Int).toNat)).r.op →
  InR IntKind.i64 (gl a.l ((0 : Nat) + (↑a_3 : Int).toNat)).r.op →
  (((gl a.l ((0 : Nat) + (↑a_3 : Int).toNat)).r.op == (gl a.l ((0 : Nat) + (↑a_3 : Int).toNat)).r.op) = Bool.true →
  (Decidable.decide ((gl a.l ((0 : Nat) + (↑a_3 : Int).toNat)).r.key = (gl a.l ((0 : Nat) + (↑a_3 : Int).toNat)).r.key) = Bool.true →
  InR IntKind.i64 (gl a.l ((0 : Nat) + (↑a_3 : Int).toNat)).r.err →
  InR IntKind.i64 (gl a.l ((0 : Nat) + (↑a_3 : Int).toNat)).r.err →
  (((gl a.l ((0 : Nat) + (↑a_3 : Int).toNat)).r.err == (gl a.l ((0 : Nat) + (↑a_3 : Int).toNat)).r.err) = Bool.true →
  (Decidable.decide ((gl a.l ((0 : Nat) + (↑a_3 : Int).toNat)).r.val = (gl a.l ((0 : Nat) + (↑a_3 : Int).toNat)).r.val) = Bool.true →
  ((!(gl a.l ((0 : Nat) + (↑a_3 : Int).toNat)).r.has == (gl a.l ((0 : Nat) + (↑a_3 : Int).toNat)).r.has) = Bool.true →
  ∃ (b : Unit), Bool.false = Bool.true ∧
  True ∧
  True) ∧
  ((!(gl a.l ((0 : Nat) + (↑a_3 : Int).toNat)).r.has == (gl a.l ((0 : Nat) + (↑a_3 : Int).toNat)).r.has) = Bool.false →
  InR IntKind.i64 ((↑a_3 : Int) + (1 : Int)) ∧
  ∃ (a' : Nat), (↑a_3 : Int) + (1 : Int) = (↑a' : Int) ∧
  ((↑a.l.length : Int) != (↑a.l.length : Int)) = ((↑a.l.length : Int) != (↑a.l.length : Int)) ∧
  Bool.false = Bool.false ∧
  ((0 : Nat) = (0 : Nat) ∧
  a.l.length = a.l.length ∧
  a.c1 = a.c1) ∧
  ((0 : Nat) = (0 : Nat) ∧
  a.l.length = a.l.length ∧
  a.c2 = a.c2) ∧
  (a.l.length ≤ a.l.length ∧
  RowsEq a.l.length (13 : Nat) (encRows encCall a.l) (encRows encCall a.l)) ∧
  (a.l.length ≤ a.l.length ∧
  RowsEq a.l.length (13 : Nat) (encRows encCall a.l) (encRows encCall a.l)) ∧
  a' ≤ a.l.length ∧
  a.l.length - a' < a.l.length - a_3)) ∧
  (Decidable.decide ((gl a.l ((0 : Nat) + (↑a_3 : Int).toNat)).r.val = (gl a.l ((0 : Nat) + (↑a_3 : Int).toNat)).r.val) = Bool.false →
  ∃ (b : Unit), Bool.false = Bool.true ∧
  True ∧
  True)) ∧
  (((gl a.l ((0 : Nat) + (↑a_3 : Int).toNat)).r.err == (gl a.l ((0 : Nat) + (↑a_3 : Int).toNat)).r.err) = Bool.false →
  ∃ (b : Unit), Bool.false = Bool.true ∧
  True ∧
  True)) ∧
  (Decidable.decide ((gl a.l ((0 : Nat) + (↑a_3 : Int).toNat)).r.key = (gl a.l ((0 : Nat) + (↑a_3 : Int).toNat)).r.key) = Bool.false →
  ∃ (b : Unit), Bool.false = Bool.true ∧
  True ∧
  True)) ∧
  (((gl a.l ((0 : Nat) + (↑a_3 : Int).toNat)).r.op == (gl a.l ((0 : Nat) + (↑a_3 : Int).toNat)).r.op) = Bool.false →
  ∃ (b : Unit), Bool.false = Bool.true ∧
  True ∧
  True)) ∧
  (((gl a.l ((0 : Nat) + (↑a_3 : Int).toNat)).r.id == (gl a.l ((0 : Nat) + (↑a_3 : Int).toNat)).r.id) = Bool.false →
  ∃ (b : Unit), Bool.false = Bool.true ∧
  True ∧
  True)))))))))) ∧
  (Decidable.decide ((↑a_3 : Int) < (↑a.l.length : Int)) = Bool.false →
  ∃ (b : Unit), Bool.true = Bool.true ∧
  True ∧
  True))) (by kernel_rfl) (by
  intro a h
  refine ⟨by simp, fun _ => ⟨⟨0, by simp⟩, fun i hi => ⟨fun h1 => ?_, fun _ => ⟨(), rfl, trivial, trivial⟩⟩⟩⟩
  have h2 : i < a.l.length := by simpa using h1
  simp [h2]
  repeat' (first | intro _ | apply And.intro)
  all_goals (first | (refine ⟨i + 1, ?_⟩; (repeat' apply And.intro) <;> (first | exact trivial | rfl | omega | assumption | exact RowsEq.refl _ _ _ | (simp only [InR]; omega) | (simp; done) | (simp; omega) | grind)) | (first | exact trivial | rfl | omega | assumption | exact RowsEq.refl _ _ _ | (simp only [InR]; omega) | (simp; done) | (simp; omega) | grind)))
theorem callBegun : CallsBy (Y Try.prog).G.X 6 cBegun := fn_ok okYf (tab := []) trivial bodyBegun
theorem callOf : CallsBy (Y Try.prog).G.X 14 cOf := fn_ok okY (tab := []) trivial bodyOf
theorem callEq : CallsBy (Y Try.prog).G.X 13 cEq := fn_ok okY (tab := []) trivial bodyEq
theorem callOpen : CallsBy (Y Try.prog).G.X 12 cOpen := fn_ok okY (tab := [(15, cAll)]) ⟨callAll, trivial⟩ bodyOpen
theorem callDrop : CallsBy (Y Try.prog).G.X 11 cDrop := fn_ok okY (tab := [(15, cAll), (10, cEnd)]) ⟨callAll, callEnd, trivial⟩ bodyDrop

theorem rowsEq_endL_no {l : List CallR} {r : ReplyR} {pos : Int} {n m : Nat} (h : endOk l r = false) : RowsEq n m (encRows encCall (endL l r pos)) (encRows encCall l) := by
  unfold endL; rw [h]; exact .refl _ _ _

/-! ### ClientAll -/

def ksOp : List CK := [.int .i64, .int .i64, .int .i64, .int .i64, .int .i64, .str, .int .i64, .int .i64, .str, .int .i64, .str, .bool]
structure OpsA where
  n : Nat
  cap : Nat
  rows : Nat → Nat → Value
noncomputable def cClientAll : Con where
  α := OpsA
  β := Unit
  m := 1
  m' := 1
  pre := fun a => a.n ≤ a.cap ∧ a.cap ≤ lenMax
  args := fun a => [.a (.slc 0 0 12 a.n a.cap)]
  hp := fun _ => []
  ro := fun a => [(0, .arr 31 ksOp a.n a.rows)]
  post := fun _ _ => True
  res := fun _ _ => .a .tt
  hp' := fun _ _ => []
noncomputable def tabAll : List (Nat × Con) := [(6, cBegun), (8, cCut), (9, cBegin), (10, cEnd), (15, cAll), (12, cOpen), (11, cDrop), (14, cOf), (13, cEq)]
theorem tabAll_ok : TabOk (Y Try.prog).G.X tabAll := ⟨callBegun, callCut, callBegin, callEnd, callAll, callOpen, callDrop, callOf, callEq, trivial⟩

/-- calls have their numbers in order -/
structure ids (l : List CallR) : Prop where
  at_ : ∀ j, j < l.length → (gl l j).id = (j : Int) + 1
theorem ids_nil : ids [] := ⟨fun j h => absurd h (Nat.not_lt_zero _)⟩
theorem ids_endL {l : List CallR} {r : ReplyR} {pos : Int} (h : ids l) : ids (endL l r pos) := by
  unfold endL
  split
  · refine ⟨fun j hj => ?_⟩
    rw [List.length_set] at hj
    by_cases e : (r.id - 1).toNat = j
    · subst e; rw [gl_set_self hj]; exact h.at_ _ hj
    · rw [gl_set_ne e]; exact h.at_ j hj
  · exact h
theorem ids_new {a : BeginA} (h : ids a.l) : ids (a.l ++ [newCall a]) := by
  refine ⟨fun j hj => ?_⟩
  by_cases hlt : j < a.l.length
  · rw [gl_append_left hlt]; exact h.at_ j hlt
  · have : j = a.l.length := by simp at hj; omega
    subst this
    rw [gl_append_right (Nat.le_refl _), Nat.sub_self]
    rfl
theorem ids_dropGo {l : List CallR} {node pos : Int} (h : ids l) : ∀ k, ids (dropGo l node pos k).1
  | 0 => h
  | k + 1 => by
    unfold dropGo; dsimp only
    split
    · exact ids_endL (ids_dropGo h k)
    · exact ids_dropGo h k
/-- the same, call by call -/
def ownGo (l0 : List CallR) (node pos : Int) : Nat → List CallR × Nat
  | 0 => (l0, 0)
  | i + 1 => let p := ownGo l0 node pos i
    if (gl p.1 i).node == node && !(gl p.1 i).done then (p.1.set i (endC (gl p.1 i) pos (downR (gl p.1 i))), p.2 + 1) else p
theorem ownGo_succ (l0 : List CallR) (node pos : Int) (i : Nat) : ownGo l0 node pos (i + 1) = if (gl (ownGo l0 node pos i).1 i).node == node && !(gl (ownGo l0 node pos i).1 i).done then ((ownGo l0 node pos i).1.set i (endC (gl (ownGo l0 node pos i).1 i) pos (downR (gl (ownGo l0 node pos i).1 i))), (ownGo l0 node pos i).2 + 1) else ownGo l0 node pos i := rfl
theorem openN_bound {L : List CallR} {k : Nat} (h : k < 1000) : (openN (L.take k) : Int) + 1 ≤ 9223372036854775807 := by
  have h1 := openN_le (L.take k)
  have h2 := List.length_take_le k L
  omega
theorem ownGo_length (l0 : List CallR) (node pos : Int) : ∀ i, (ownGo l0 node pos i).1.length = l0.length
  | 0 => rfl
  | i + 1 => by
    have := ownGo_length l0 node pos i
    unfold ownGo; dsimp only
    split
    · rw [List.length_set, this]
    · exact this
theorem ownGo_le (l0 : List CallR) (node pos : Int) : ∀ i, (ownGo l0 node pos i).2 ≤ i
  | 0 => Nat.le_refl _
  | i + 1 => by
    have := ownGo_le l0 node pos i
    unfold ownGo; dsimp only
    split
    · exact Nat.succ_le_succ this
    · omega
theorem ownGo_gl (l0 : List CallR) (node pos : Int) : ∀ i j, i ≤ j → gl (ownGo l0 node pos i).1 j = gl l0 j
  | 0, _, _ => rfl
  | i + 1, j, h => by
    have := ownGo_gl l0 node pos i j (by omega)
    unfold ownGo; dsimp only
    split
    · rw [gl_set_ne (by omega)]; exact this
    · exact this
theorem ownGo_eq {l0 : List CallR} {node pos : Int} (h : ids l0) : ∀ i, i ≤ l0.length → ownGo l0 node pos i = dropGo l0 node pos i
  | 0, _ => rfl
  | i + 1, hi => by
    have ih := ownGo_eq (node := node) (pos := pos) h i (by omega)
    have hlen := ownGo_length l0 node pos i
    have hg := ownGo_gl l0 node pos i i (Nat.le_refl _)
    have hid := h.at_ i (by omega)
    unfold ownGo dropGo
    dsimp only
    rw [← ih, hg]
    have e1 : (gl l0 i).id - 1 = (i : Int) := by omega
    have hok : endOk (ownGo l0 node pos i).1 (downR (gl l0 i)) = !(gl l0 i).done := by
      have h1 : decide (1 ≤ (gl l0 i).id) = true := by simp; omega
      have h2 : decide ((gl l0 i).id ≤ ((ownGo l0 node pos i).1.length : Int)) = true := by simp; omega
      show (decide (1 ≤ (gl l0 i).id) && decide ((gl l0 i).id ≤ ((ownGo l0 node pos i).1.length : Int)) && (!(gl (ownGo l0 node pos i).1 ((gl l0 i).id - 1).toNat).done && ((gl (ownGo l0 node pos i).1 ((gl l0 i).id - 1).toNat).op == (gl l0 i).op && decide ((gl (ownGo l0 node pos i).1 ((gl l0 i).id - 1).toNat).key = (gl l0 i).key)))) = _
      rw [h1, h2, e1, Int.toNat_natCast, hg]; simp
    rw [hok]
    cases hn : ((gl l0 i).node == node && !(gl l0 i).done)
    · simp
    · have h3 : (!(gl l0 i).done) = true := by simp only [Bool.and_eq_true] at hn; exact hn.2
      simp only [if_true]
      have e2 : endL (ownGo l0 node pos i).1 (downR (gl l0 i)) pos = (ownGo l0 node pos i).1.set i (endC (gl l0 i) pos (downR (gl l0 i))) := by
        unfold endL
        rw [hok, h3, if_pos rfl]
        simp only [downR, e1, Int.toNat_natCast, hg]
      rw [e2]

theorem rowsEq_own {l : List CallR} {k : Nat} {node pos : Int} {n : Nat} (hk : k < l.length) (h : ((gl l k).node == node && !(gl l k).done) = true) {L : List CallR × Nat} :
    RowsEq n 13 (updR (updR (updR (encRows encCall l) k 6 [.bool true]) k 5 [.int .i64 pos]) k 7
      [.int .i64 (gl l k).id, .int .i64 (gl l k).op, .string (gl l k).key, .int .i64 8, .string ⟨#[]⟩, .bool false]) (encRows encCall (if (gl l k).node == node && !(gl l k).done then (l.set k (endC (gl l k) pos (downR (gl l k))), L.2 + 1) else L).1) := by
  rw [if_pos h]
  refine .set _ hk (fun i hi => by simp only [updR_other hi]) ?_
  simp only [updR_self]
  rfl

/-- the log's and the list's calls -/
structure St where
  l : List CallR
  c1 : Nat
  c2 : Nat
/-- the state where the log (slot 4) and the list (slot 5, tag T) have these calls -/
def stCalls (s : S) (L T : Nat) (x : St) : S :=
  ((s.at_ (s.tg 4) (.obj 51 [.slc L 0 13 x.l.length x.c1])).at_ L (.arr 48 ksCall x.l.length (encRows encCall x.l))).at_ T (.arr 35 ksCall x.l.length (encRows encCall x.l)) |>.set 5 (.a (.slc T 0 13 x.l.length x.c2))
/-- likewise, from where both are nil -/
def stCalls0 (s : S) (x : St) : S :=
  (((s.at_ (s.tg 4) (.obj 51 [.slc s.nx 0 13 x.l.length x.c1])).new (.arr 48 ksCall x.l.length (encRows encCall x.l))).new (.arr 35 ksCall x.l.length (encRows encCall x.l))).set 5 (.a (.slc (s.nx + 1) 0 13 x.l.length x.c2))
/-- the statement's own loop over the open calls of a node -/
def iOwn (x : St) (node pos : Int) : An := .flat 14 Nat (fun s k => ((s.int 12 k).int 11 (ownGo x.l node pos k).2).at_ (s.tg 5) (.arr 35 ksCall x.l.length (encRows encCall (ownGo x.l node pos k).1))) (fun _ k => k ≤ x.l.length) (fun _ k => x.l.length - k)
def iCnt (x : St) : An := .flat 41 Nat (fun s k => (s.int 15 k).int 14 (openN (x.l.take k))) (fun _ k => k ≤ x.l.length) (fun _ k => x.l.length - k)
/-- behind an operation -/
def cutOp (i : Nat) : An := .mk 39 St (fun s x => stCalls s (s.in_ (s.tg 4) 0) (s.tg 5) x) (fun _ x => x.l.length ≤ i + 1 ∧ ids x.l) (fun _ _ => 0) fun x => .mk 60 [iCnt x] []
def iAll (a : OpsA) : An := .mk 7 (Nat × St) (fun s x => (stCalls0 s x.2).int 6 x.1) (fun _ x => x.1 ≤ a.n ∧ x.1 ≤ 50 ∧ x.2.l.length ≤ x.1 ∧ ids x.2.l) (fun _ x => 50 - x.1) fun x => .mk 60 [iOwn x.2 (toI (a.rows x.1 2)) (toI (a.rows x.1 3))] [cutOp x.1]
set_option maxHeartbeats 4000000 in
theorem bodyClientAll : fnBody (Y Try.prog) tabAll 3 cClientAll fun a => [(3, [iAll a], [])] := fnBody.of (p :=
  ∀ (a : OpsA), a.n ≤ a.cap ∧
  a.cap ≤ lenMax →
  ∃ (a_2 : Unit), True ∧
  ∀ (b : Unit), True →
  (∃ (a_4 : Nat × St), (0 : Int) = (↑a_4.fst : Int) ∧
  ((0 : Nat) = a_4.snd.l.length ∧
  (0 : Nat) = a_4.snd.c2) ∧
  (0 : Nat) = (0 : Nat) ∧
  Bool.false = Bool.false ∧
  Bool.true = Bool.true ∧
  Bool.false = Bool.false ∧
  ((0 : Nat) = (0 : Nat) ∧
  a.n = a.n ∧
  a.cap = a.cap) ∧
  a_4.snd.l.length = (0 : Nat) ∧
  ((0 : Nat) = a_4.snd.l.length ∧
  (0 : Nat) = a_4.snd.c1) ∧
  (a.n ≤ a.n ∧
  RowsEq a.n (12 : Nat) a.rows a.rows) ∧
  a_4.snd.l.length = (0 : Nat) ∧
  (a_4.fst ≤ a.n ∧
  a_4.fst ≤ (50 : Nat) ∧
  a_4.snd.l.length ≤ a_4.fst ∧
  ids a_4.snd.l) ∧
  True) ∧
  ∀ (a_4 : Nat × St), a_4.fst ≤ a.n ∧
  a_4.fst ≤ (50 : Nat) ∧
  a_4.snd.l.length ≤ a_4.fst ∧
  ids a_4.snd.l →
  (Decidable.decide ((↑a_4.fst : Int) < (↑a.n : Int)) = Bool.true →
  (Decidable.decide ((↑a_4.fst : Int) < (50 : Int)) = Bool.true →
  ((0 : Int) ≤ (↑a_4.fst : Int) ∧
  (↑a_4.fst : Int) < (↑a.n : Int)) ∧
  (0 : Nat) + (↑a_4.fst : Int).toNat < a.n ∧
  ∃ (a_8 : ByteArray × Int), toS (a.rows ((0 : Nat) + (↑a_4.fst : Int).toNat) (5 : Nat)) = a_8.fst ∧
  (20 : Int) = a_8.snd ∧
  (0 : Int) ≤ a_8.snd ∧
  ∀ (b : Unit), True →
  ∃ (a_10 : ByteArray × Int), toS (a.rows ((0 : Nat) + (↑a_4.fst : Int).toNat) (8 : Nat)) = a_10.fst ∧
  (20 : Int) = a_10.snd ∧
  (0 : Int) ≤ a_10.snd ∧
  ∀ (b : Unit), True →
  ∃ (a_12 : ByteArray × Int), toS (a.rows ((0 : Nat) + (↑a_4.fst : Int).toNat) (10 : Nat)) = a_12.fst ∧
  (20 : Int) = a_12.snd ∧
  (0 : Int) ≤ a_12.snd ∧
  ∀ (b : Unit), True →
  (InR IntKind.i64 (toI (a.rows ((0 : Nat) + (↑a_4.fst : Int).toNat) (0 : Nat))) →
  ((toI (a.rows ((0 : Nat) + (↑a_4.fst : Int).toNat) (0 : Nat)) == (0 : Int)) = Bool.true →
  InR IntKind.i64 (toI (a.rows ((0 : Nat) + (↑a_4.fst : Int).toNat) (1 : Nat))) →
  InR IntKind.i64 (toI (a.rows ((0 : Nat) + (↑a_4.fst : Int).toNat) (2 : Nat))) →
  InR IntKind.i64 (toI (a.rows ((0 : Nat) + (↑a_4.fst : Int).toNat) (3 : Nat))) →
  ∃ (a_19 : BeginA), (0 : Nat) = (0 : Nat) ∧
  toI (a.rows ((0 : Nat) + (↑a_4.fst : Int).toNat) (1 : Nat)) = a_19.op ∧
  cutB a_8.fst a_8.snd = a_19.key ∧
  toI (a.rows ((0 : Nat) + (↑a_4.fst : Int).toNat) (2 : Nat)) = a_19.node ∧
  toI (a.rows ((0 : Nat) + (↑a_4.fst : Int).toNat) (3 : Nat)) = a_19.pos ∧
  ((0 : Nat) = (0 : Nat) ∧
  a_4.snd.l.length = a_19.l.length ∧
  a_4.snd.c1 = a_19.cap) ∧
  (a_19.l.length ≤ a_4.snd.l.length ∧
  RowsEq a_19.l.length (13 : Nat) (encRows encCall a_4.snd.l) (encRows encCall a_19.l)) ∧
  a_19.l.length < (1000 : Nat) ∧
  ∀ (b : Nat), True →
  InR IntKind.i64 ((↑a_4.snd.l.length : Int) + (1 : Int)) ∧
  (((↑a_19.l.length : Int) + (1 : Int) != (↑a_4.snd.l.length : Int) + (1 : Int)) = Bool.true →
  ∃ (b : Unit), Bool.false = Bool.true ∧
  True ∧
  True) ∧
  (((↑a_19.l.length : Int) + (1 : Int) != (↑a_4.snd.l.length : Int) + (1 : Int)) = Bool.false →
  InR IntKind.i64 ((↑a_4.snd.l.length : Int) + (1 : Int)) ∧
  (InR IntKind.i64 (toI (a.rows ((0 : Nat) + (↑a_4.fst : Int).toNat) (1 : Nat))) →
  InR IntKind.i64 (toI (a.rows ((0 : Nat) + (↑a_4.fst : Int).toNat) (2 : Nat))) →
  InR IntKind.i64 (toI (a.rows ((0 : Nat) + (↑a_4.fst : Int).toNat) (3 : Nat))) →
  (0 : Nat) + a_4.snd.l.length ≤ a_4.snd.l.length ∧
  (1 : Nat) ≤ (1 : Nat) ∧
  (a_4.snd.l.length + (1 : Nat)) * (128 : Nat) ≤ (140737488355328 : Nat) ∧
  ∀ (cap : Nat), a_4.snd.l.length + (1 : Nat) ≤ cap →
  cap ≤ lenMax →
  (a_4.snd.l.length + (1 : Nat) ≤ a_4.snd.c2 →
  cap = a_4.snd.c2) →
  ∃ (a_28 : St), ((0 : Nat) = (0 : Nat) ∧
  a_4.snd.l.length + (1 : Nat) = a_28.l.length ∧
  cap = a_28.c2) ∧
  (0 : Nat) = (0 : Nat) ∧
  Decidable.decide ((↑a_4.fst : Int) < (50 : Int)) = Decidable.decide ((↑a_4.fst : Int) < (50 : Int)) ∧
  (↑a_4.fst : Int) = (↑a_4.fst : Int) ∧
  (0 : Nat) = (0 : Nat) ∧
  Bool.false = Bool.false ∧
  Bool.true = Bool.true ∧
  Bool.false = Bool.false ∧
  ((0 : Nat) = (0 : Nat) ∧
  a.n = a.n ∧
  a.cap = a.cap) ∧
  toI (a.rows ((0 : Nat) + (↑a_4.fst : Int).toNat) (0 : Nat)) = toI (a.rows ((0 : Nat) + (↑a_4.fst : Int).toNat) (0 : Nat)) ∧
  toI (a.rows ((0 : Nat) + (↑a_4.fst : Int).toNat) (1 : Nat)) = toI (a.rows ((0 : Nat) + (↑a_4.fst : Int).toNat) (1 : Nat)) ∧
  toI (a.rows ((0 : Nat) + (↑a_4.fst : Int).toNat) (2 : Nat)) = toI (a.rows ((0 : Nat) + (↑a_4.fst : Int).toNat) (2 : Nat)) ∧
  toI (a.rows ((0 : Nat) + (↑a_4.fst : Int).toNat) (3 : Nat)) = toI (a.rows ((0 : Nat) + (↑a_4.fst : Int).toNat) (3 : Nat)) ∧
  toI (a.rows ((0 : Nat) + (↑a_4.fst : Int).toNat) (4 : Nat)) = toI (a.rows ((0 : Nat) + (↑a_4.fst : Int).toNat) (4 : Nat)) ∧
  cutB a_8.fst a_8.snd = cutB a_8.fst a_8.snd ∧
  toI (a.rows ((0 : Nat) + (↑a_4.fst : Int).toNat) (6 : Nat)) = toI (a.rows ((0 : Nat) + (↑a_4.fst : Int).toNat) (6 : Nat)) ∧
  toI (a.rows ((0 : Nat) + (↑a_4.fst : Int).toNat) (7 : Nat)) = toI (a.rows ((0 : Nat) + (↑a_4.fst : Int).toNat) (7 : Nat)) ∧
  cutB a_10.fst a_10.snd = cutB a_10.fst a_10.snd ∧
  toI (a.rows ((0 : Nat) + (↑a_4.fst : Int).toNat) (9 : Nat)) = toI (a.rows ((0 : Nat) + (↑a_4.fst : Int).toNat) (9 : Nat)) ∧
  cutB a_12.fst a_12.snd = cutB a_12.fst a_12.snd ∧
  toB (a.rows ((0 : Nat) + (↑a_4.fst : Int).toNat) (11 : Nat)) = toB (a.rows ((0 : Nat) + (↑a_4.fst : Int).toNat) (11 : Nat)) ∧
  (a_28.l.length ≤ a_4.snd.l.length + (1 : Nat) ∧
  RowsEq a_28.l.length (13 : Nat) (appRows (encRows encCall a_4.snd.l) (0 : Nat) a_4.snd.l.length fun (i j : Nat) => flatRows (13 : Nat) [Value.int IntKind.i64 ((↑a_4.snd.l.length : Int) + (1 : Int)), Value.int IntKind.i64 (toI (a.rows ((0 : Nat) + (↑a_4.fst : Int).toNat) (1 : Nat))), Value.string (cutB a_8.fst a_8.snd), Value.int IntKind.i64 (toI (a.rows ((0 : Nat) + (↑a_4.fst : Int).toNat) (2 : Nat))), Value.int IntKind.i64 (toI (a.rows ((0 : Nat) + (↑a_4.fst : Int).toNat) (3 : Nat))), Value.int IntKind.i64 (0 : Int), Value.bool Bool.false, Value.int IntKind.i64 (0 : Int), Value.int IntKind.i64 (0 : Int), Value.string { data := #[] }, Value.int IntKind.i64 (0 : Int), Value.string { data := #[] }, Value.bool Bool.false] ((0 : Nat) + i) j) (encRows encCall a_28.l)) ∧
  ((0 : Nat) = (0 : Nat) ∧
  (a_19.l ++ [newCall a_19]).length = a_28.l.length ∧
  b = a_28.c1) ∧
  (a.n ≤ a.n ∧
  RowsEq a.n (12 : Nat) a.rows a.rows) ∧
  (a_28.l.length ≤ (a_19.l ++ [newCall a_19]).length ∧
  RowsEq a_28.l.length (13 : Nat) (encRows encCall (a_19.l ++ [newCall a_19])) (encRows encCall a_28.l)) ∧
  (a_28.l.length ≤ a_4.fst + (1 : Nat) ∧
  ids a_28.l) ∧
  True))) ∧
  ((toI (a.rows ((0 : Nat) + (↑a_4.fst : Int).toNat) (0 : Nat)) == (0 : Int)) = Bool.false →
  ((toI (a.rows ((0 : Nat) + (↑a_4.fst : Int).toNat) (0 : Nat)) == (1 : Int)) = Bool.true →
  InR IntKind.i64 (toI (a.rows ((0 : Nat) + (↑a_4.fst : Int).toNat) (4 : Nat))) →
  InR IntKind.i64 (toI (a.rows ((0 : Nat) + (↑a_4.fst : Int).toNat) (4 : Nat))) →
  (Decidable.decide ((1 : Int) ≤ toI (a.rows ((0 : Nat) + (↑a_4.fst : Int).toNat) (4 : Nat))) = Bool.true →
  InR IntKind.i64 (toI (a.rows ((0 : Nat) + (↑a_4.fst : Int).toNat) (4 : Nat))) →
  (Decidable.decide (toI (a.rows ((0 : Nat) + (↑a_4.fst : Int).toNat) (4 : Nat)) ≤ (↑a_4.snd.l.length : Int)) = Bool.true →
  InR IntKind.i64 (toI (a.rows ((0 : Nat) + (↑a_4.fst : Int).toNat) (4 : Nat))) →
  InR IntKind.i64 (toI (a.rows ((0 : Nat) + (↑a_4.fst : Int).toNat) (4 : Nat)) - (1 : Int)) ∧
  ((0 : Int) ≤ toI (a.rows ((0 : Nat) + (↑a_4.fst : Int).toNat) (4 : Nat)) - (1 : Int) ∧
  toI (a.rows ((0 : Nat) + (↑a_4.fst : Int).toNat) (4 : Nat)) - (1 : Int) < (↑a_4.snd.l.length : Int)) ∧
  (InR IntKind.i64 (toI (a.rows ((0 : Nat) + (↑a_4.fst : Int).toNat) (3 : Nat))) →
  (2 : Int) ≠ (0 : Int) ∧
  (((toI (a.rows ((0 : Nat) + (↑a_4.fst : Int).toNat) (3 : Nat))).tmod (2 : Int) == (0 : Int)) = Bool.true →
  (0 : Nat) + (toI (a.rows ((0 : Nat) + (↑a_4.fst : Int).toNat) (4 : Nat)) - (1 : Int)).toNat < a_4.snd.l.length ∧
  (InR IntKind.i64 (gl a_4.snd.l ((0 : Nat) + (toI (a.rows ((0 : Nat) + (↑a_4.fst : Int).toNat) (4 : Nat)) - (1 : Int)).toNat)).op →
  (0 : Nat) + (toI (a.rows ((0 : Nat) + (↑a_4.fst : Int).toNat) (4 : Nat)) - (1 : Int)).toNat < a_4.snd.l.length ∧
  (0 : Nat) + (toI (a.rows ((0 : Nat) + (↑a_4.fst : Int).toNat) (4 : Nat)) - (1 : Int)).toNat < a_4.snd.l.length ∧
  ((!(gl a_4.snd.l ((0 : Nat) + (toI (a.rows ((0 : Nat) + (↑a_4.fst : Int).toNat) (4 : Nat)) - (1 : Int)).toNat)).done) = Bool.true →
  InR IntKind.i64 (gl a_4.snd.l ((0 : Nat) + (toI (a.rows ((0 : Nat) + (↑a_4.fst : Int).toNat) (4 : Nat)) - (1 : Int)).toNat)).op →
  (0 : Nat) + (toI (a.rows ((0 : Nat) + (↑a_4.fst : Int).toNat) (4 : Nat)) - (1 : Int)).toNat < a_4.snd.l.length ∧
  (InR IntKind.i64 (gl a_4.snd.l ((0 : Nat) + (toI (a.rows ((0 : Nat) + (↑a_4.fst : Int).toNat) (4 : Nat)) - (1 : Int)).toNat)).op →
  (((gl a_4.snd.l ((0 : Nat) + (toI (a.rows ((0 : Nat) + (↑a_4.fst : Int).toNat) (4 : Nat)) - (1 : Int)).toNat)).op == (gl a_4.snd.l ((0 : Nat) + (toI (a.rows ((0 : Nat) + (↑a_4.fst : Int).toNat) (4 : Nat)) - (1 : Int)).toNat)).op) = Bool.true →
  (0 : Nat) + (toI (a.rows ((0 : Nat) + (↑a_4.fst : Int).toNat) (4 : Nat)) - (1 : Int)).toNat < a_4.snd.l.length ∧
  (Decidable.decide ((gl a_4.snd.l ((0 : Nat) + (toI (a.rows ((0 : Nat) + (↑a_4.fst : Int).toNat) (4 : Nat)) - (1 : Int)).toNat)).key = (gl a_4.snd.l ((0 : Nat) + (toI (a.rows ((0 : Nat) + (↑a_4.fst : Int).toNat) (4 : Nat)) - (1 : Int)).toNat)).key) = Bool.true →
  InR IntKind.i64 (toI (a.rows ((0 : Nat) + (↑a_4.fst : Int).toNat) (3 : Nat))) →
  (0 : Nat) + (toI (a.rows ((0 : Nat) + (↑a_4.fst : Int).toNat) (4 : Nat)) - (1 : Int)).toNat < a_4.snd.l.length ∧
  (0 : Nat) + (toI (a.rows ((0 : Nat) + (↑a_4.fst : Int).toNat) (4 : Nat)) - (1 : Int)).toNat < a_4.snd.l.length ∧
  (0 : Nat) + (toI (a.rows ((0 : Nat) + (↑a_4.fst : Int).toNat) (4 : Nat)) - (1 : Int)).toNat < a_4.snd.l.length ∧
  (InR IntKind.i64 (toI (a.rows ((0 : Nat) + (↑a_4.fst : Int).toNat) (3 : Nat))) →
  ∃ (a_33 : EndA), (0 : Nat) = (0 : Nat) ∧
  toI (a.rows ((0 : Nat) + (↑a_4.fst : Int).toNat) (4 : Nat)) = a_33.r.id ∧
  (gl a_4.snd.l ((0 : Nat) + (toI (a.rows ((0 : Nat) + (↑a_4.fst : Int).toNat) (4 : Nat)) - (1 : Int)).toNat)).op = a_33.r.op ∧
  (gl a_4.snd.l ((0 : Nat) + (toI (a.rows ((0 : Nat) + (↑a_4.fst : Int).toNat) (4 : Nat)) - (1 : Int)).toNat)).key = a_33.r.key ∧
  toI (a.rows ((0 : Nat) + (↑a_4.fst : Int).toNat) (9 : Nat)) = a_33.r.err ∧
  cutB a_12.fst a_12.snd = a_33.r.val ∧
  toB (a.rows ((0 : Nat) + (↑a_4.fst : Int).toNat) (11 : Nat)) = a_33.r.has ∧
  toI (a.rows ((0 : Nat) + (↑a_4.fst : Int).toNat) (3 : Nat)) = a_33.pos ∧
  ((0 : Nat) = (0 : Nat) ∧
  a_4.snd.l.length = a_33.l.length ∧
  a_4.snd.c1 = a_33.cap) ∧
  (a_33.l.length ≤ a_4.snd.l.length ∧
  RowsEq a_33.l.length (13 : Nat) (encRows encCall a_4.snd.l) (encRows encCall a_33.l)) ∧
  a_33.l.length < (1000 : Nat) ∧
  ∀ (b : Unit), True →
  ((!endOk a_33.l a_33.r == Bool.true) = Bool.true →
  ∃ (b : Unit), Bool.false = Bool.true ∧
  True ∧
  True) ∧
  ((!endOk a_33.l a_33.r == Bool.true) = Bool.false →
  ∃ (a_36 : St), ((0 : Nat) = (0 : Nat) ∧
  a_4.snd.l.length = a_36.l.length ∧
  a_4.snd.c2 = a_36.c2) ∧
  (0 : Nat) = (0 : Nat) ∧
  Decidable.decide ((↑a_4.fst : Int) < (50 : Int)) = Decidable.decide ((↑a_4.fst : Int) < (50 : Int)) ∧
  (↑a_4.fst : Int) = (↑a_4.fst : Int) ∧
  (0 : Nat) = (0 : Nat) ∧
  Bool.false = Bool.false ∧
  Bool.true = Bool.true ∧
  Bool.false = Bool.false ∧
  ((0 : Nat) = (0 : Nat) ∧
  a.n = a.n ∧
  a.cap = a.cap) ∧
  toI (a.rows ((0 : Nat) + (↑a_4.fst : Int).toNat) (0 : Nat)) = toI (a.rows ((0 : Nat) + (↑a_4.fst : Int).toNat) (0 : Nat)) ∧
  toI (a.rows ((0 : Nat) + (↑a_4.fst : Int).toNat) (1 : Nat)) = toI (a.rows ((0 : Nat) + (↑a_4.fst : Int).toNat) (1 : Nat)) ∧
  toI (a.rows ((0 : Nat) + (↑a_4.fst : Int).toNat) (2 : Nat)) = toI (a.rows ((0 : Nat) + (↑a_4.fst : Int).toNat) (2 : Nat)) ∧
  toI (a.rows ((0 : Nat) + (↑a_4.fst : Int).toNat) (3 : Nat)) = toI (a.rows ((0 : Nat) + (↑a_4.fst : Int).toNat) (3 : Nat)) ∧
  toI (a.rows ((0 : Nat) + (↑a_4.fst : Int).toNat) (4 : Nat)) = toI (a.rows ((0 : Nat) + (↑a_4.fst : Int).toNat) (4 : Nat)) ∧
  cutB a_8.fst a_8.snd = cutB a_8.fst a_8.snd ∧
  toI (a.rows ((0 : Nat) + (↑a_4.fst : Int).toNat) (6 : Nat)) = toI (a.rows ((0 : Nat) + (↑a_4.fst : Int).toNat) (6 : Nat)) ∧
  toI (a.rows ((0 : Nat) + (↑a_4.fst : Int).toNat) (7 : Nat)) = toI (a.rows ((0 : Nat) + (↑a_4.fst : Int).toNat) (7 : Nat)) ∧
  cutB a_10.fst a_10.snd = cutB a_10.fst a_10.snd ∧
  toI (a.rows ((0 : Nat) + (↑a_4.fst : Int).toNat) (9 : Nat)) = toI (a.rows ((0 : Nat) + (↑a_4.fst : Int).toNat) (9 : Nat)) ∧
  cutB a_12.fst a_12.snd = cutB a_12.fst a_12.snd ∧
  toB (a.rows ((0 : Nat) + (↑a_4.fst : Int).toNat) (11 : Nat)) = toB (a.rows ((0 : Nat) + (↑a_4.fst : Int).toNat) (11 : Nat)) ∧
  (a_36.l.length ≤ a_4.snd.l.length ∧
  RowsEq a_36.l.length (13 : Nat) (updR (updR (updR (encRows encCall a_4.snd.l) ((0 : Nat) + (toI (a.rows ((0 : Nat) + (↑a_4.fst : Int).toNat) (4 : Nat)) - (1 : Int)).toNat) (6 : Nat) [Value.bool Bool.true]) ((0 : Nat) + (toI (a.rows ((0 : Nat) + (↑a_4.fst : Int).toNat) (4 : Nat)) - (1 : Int)).toNat) (5 : Nat) [Value.int IntKind.i64 (toI (a.rows ((0 : Nat) + (↑a_4.fst : Int).toNat) (3 : Nat)))]) ((0 : Nat) + (toI (a.rows ((0 : Nat) + (↑a_4.fst : Int).toNat) (4 : Nat)) - (1 : Int)).toNat) (7 : Nat) [Value.int IntKind.i64 (toI (a.rows ((0 : Nat) + (↑a_4.fst : Int).toNat) (4 : Nat))), Value.int IntKind.i64 (gl a_4.snd.l ((0 : Nat) + (toI (a.rows ((0 : Nat) + (↑a_4.fst : Int).toNat) (4 : Nat)) - (1 : Int)).toNat)).op, Value.string (gl a_4.snd.l ((0 : Nat) + (toI (a.rows ((0 : Nat) + (↑a_4.fst : Int).toNat) (4 : Nat)) - (1 : Int)).toNat)).key, Value.int IntKind.i64 (toI (a.rows ((0 : Nat) + (↑a_4.fst : Int).toNat) (9 : Nat))), Value.string (cutB a_12.fst a_12.snd), Value.bool (toB (a.rows ((0 : Nat) + (↑a_4.fst : Int).toNat) (11 : Nat)))]) (encRows encCall a_36.l)) ∧
  ((0 : Nat) = (0 : Nat) ∧
  (endL a_33.l a_33.r a_33.pos).length = a_36.l.length ∧
  a_33.cap = a_36.c1) ∧
  (a.n ≤ a.n ∧
  RowsEq a.n (12 : Nat) a.rows a.rows) ∧
  (a_36.l.length ≤ (endL a_33.l a_33.r a_33.pos).length ∧
  RowsEq a_36.l.length (13 : Nat) (encRows encCall (endL a_33.l a_33.r a_33.pos)) (encRows encCall a_36.l)) ∧
  (a_36.l.length ≤ a_4.fst + (1 : Nat) ∧
  ids a_36.l) ∧
  True))) ∧
  (Decidable.decide ((gl a_4.snd.l ((0 : Nat) + (toI (a.rows ((0 : Nat) + (↑a_4.fst : Int).toNat) (4 : Nat)) - (1 : Int)).toNat)).key = (gl a_4.snd.l ((0 : Nat) + (toI (a.rows ((0 : Nat) + (↑a_4.fst : Int).toNat) (4 : Nat)) - (1 : Int)).toNat)).key) = Bool.false →
  InR IntKind.i64 (toI (a.rows ((0 : Nat) + (↑a_4.fst : Int).toNat) (3 : Nat))) →
  ∃ (a_32 : EndA), (0 : Nat) = (0 : Nat) ∧
  toI (a.rows ((0 : Nat) + (↑a_4.fst : Int).toNat) (4 : Nat)) = a_32.r.id ∧
  (gl a_4.snd.l ((0 : Nat) + (toI (a.rows ((0 : Nat) + (↑a_4.fst : Int).toNat) (4 : Nat)) - (1 : Int)).toNat)).op = a_32.r.op ∧
  (gl a_4.snd.l ((0 : Nat) + (toI (a.rows ((0 : Nat) + (↑a_4.fst : Int).toNat) (4 : Nat)) - (1 : Int)).toNat)).key = a_32.r.key ∧
  toI (a.rows ((0 : Nat) + (↑a_4.fst : Int).toNat) (9 : Nat)) = a_32.r.err ∧
  cutB a_12.fst a_12.snd = a_32.r.val ∧
  toB (a.rows ((0 : Nat) + (↑a_4.fst : Int).toNat) (11 : Nat)) = a_32.r.has ∧
  toI (a.rows ((0 : Nat) + (↑a_4.fst : Int).toNat) (3 : Nat)) = a_32.pos ∧
  ((0 : Nat) = (0 : Nat) ∧
  a_4.snd.l.length = a_32.l.length ∧
  a_4.snd.c1 = a_32.cap) ∧
  (a_32.l.length ≤ a_4.snd.l.length ∧
  RowsEq a_32.l.length (13 : Nat) (encRows encCall a_4.snd.l) (encRows encCall a_32.l)) ∧
  a_32.l.length < (1000 : Nat) ∧
  ∀ (b : Unit), True →
  ((!endOk a_32.l a_32.r == Bool.false) = Bool.true →
  ∃ (b : Unit), Bool.false = Bool.true ∧
  True ∧
  True) ∧
  ((!endOk a_32.l a_32.r == Bool.false) = Bool.false →
  ∃ (a_35 : St), ((0 : Nat) = (0 : Nat) ∧
  a_4.snd.l.length = a_35.l.length ∧
  a_4.snd.c2 = a_35.c2) ∧
  (0 : Nat) = (0 : Nat) ∧
  Decidable.decide ((↑a_4.fst : Int) < (50 : Int)) = Decidable.decide ((↑a_4.fst : Int) < (50 : Int)) ∧
  (↑a_4.fst : Int) = (↑a_4.fst : Int) ∧
  (0 : Nat) = (0 : Nat) ∧
  Bool.false = Bool.false ∧
  Bool.true = Bool.true ∧
  Bool.false = Bool.false ∧
  ((0 : Nat) = (0 : Nat) ∧
  a.n = a.n ∧
  a.cap = a.cap) ∧
  toI (a.rows ((0 : Nat) + (↑a_4.fst : Int).toNat) (0 : Nat)) = toI (a.rows ((0 : Nat) + (↑a_4.fst : Int).toNat) (0 : Nat)) ∧
  toI (a.rows ((0 : Nat) + (↑a_4.fst : Int).toNat) (1 : Nat)) = toI (a.rows ((0 : Nat) + (↑a_4.fst : Int).toNat) (1 : Nat)) ∧
  toI (a.rows ((0 : Nat) + (↑a_4.fst : Int).toNat) (2 : Nat)) = toI (a.rows ((0 : Nat) + (↑a_4.fst : Int).toNat) (2 : Nat)) ∧
  toI (a.rows ((0 : Nat) + (↑a_4.fst : Int).toNat) (3 : Nat)) = toI (a.rows ((0 : Nat) + (↑a_4.fst : Int).toNat) (3 : Nat)) ∧
  toI (a.rows ((0 : Nat) + (↑a_4.fst : Int).toNat) (4 : Nat)) = toI (a.rows ((0 : Nat) + (↑a_4.fst : Int).toNat) (4 : Nat)) ∧
  cutB a_8.fst a_8.snd = cutB a_8.fst a_8.snd ∧
  toI (a.rows ((0 : Nat) + (↑a_4.fst : Int).toNat) (6 : Nat)) = toI (a.rows ((0 : Nat) + (↑a_4.fst : Int).toNat) (6 : Nat)) ∧
  toI (a.rows ((0 : Nat) + (↑a_4.fst : Int).toNat) (7 : Nat)) = toI (a.rows ((0 : Nat) + (↑a_4.fst : Int).toNat) (7 : Nat)) ∧
  cutB a_10.fst a_10.snd = cutB a_10.fst a_10.snd ∧
  toI (a.rows ((0 : Nat) + (↑a_4.fst : Int).toNat) (9 : Nat)) = toI (a.rows ((0 : Nat) + (↑a_4.fst : Int).toNat) (9 : Nat)) ∧
  cutB a_12.fst a_12.snd = cutB a_12.fst a_12.snd ∧
  toB (a.rows ((0 : Nat) + (↑a_4.fst : Int).toNat) (11 : Nat)) = toB (a.rows ((0 : Nat) + (↑a_4.fst : Int).toNat) (11 : Nat)) ∧
  (a_35.l.length ≤ a_4.snd.l.length ∧
  RowsEq a_35.l.length (13 : Nat) (encRows encCall a_4.snd.l) (encRows encCall a_35.l)) ∧
  ((0 : Nat) = (0 : Nat) ∧
  (endL a_32.l a_32.r a_32.pos).length = a_35.l.length ∧
  a_32.cap = a_35.c1) ∧
  (a.n ≤ a.n ∧
  RowsEq a.n (12 : Nat) a.rows a.rows) ∧
  (a_35.l.length ≤ (endL a_32.l a_32.r a_32.pos).length ∧
  RowsEq a_35.l.length (13 : Nat) (encRows encCall (endL a_32.l a_32.r a_32.pos)) (encRows encCall a_35.l)) ∧
  (a_35.l.length ≤ a_4.fst + (1 : Nat) ∧
  ids a_35.l) ∧
  True))) ∧
  (((gl a_4.snd.l ((0 : Nat) + (toI (a.rows ((0 : Nat) + (↑a_4.fst : Int).toNat) (4 : Nat)) - (1 : Int)).toNat)).op == (gl a_4.snd.l ((0 : Nat) + (toI (a.rows ((0 : Nat) + (↑a_4.fst : Int).toNat) (4 : Nat)) - (1 : Int)).toNat)).op) = Bool.false →
  InR IntKind.i64 (toI (a.rows ((0 : Nat) + (↑a_4.fst : Int).toNat) (3 : Nat))) →
  ∃ (a_31 : EndA), (0 : Nat) = (0 : Nat) ∧
  toI (a.rows ((0 : Nat) + (↑a_4.fst : Int).toNat) (4 : Nat)) = a_31.r.id ∧
  (gl a_4.snd.l ((0 : Nat) + (toI (a.rows ((0 : Nat) + (↑a_4.fst : Int).toNat) (4 : Nat)) - (1 : Int)).toNat)).op = a_31.r.op ∧
  (gl a_4.snd.l ((0 : Nat) + (toI (a.rows ((0 : Nat) + (↑a_4.fst : Int).toNat) (4 : Nat)) - (1 : Int)).toNat)).key = a_31.r.key ∧
  toI (a.rows ((0 : Nat) + (↑a_4.fst : Int).toNat) (9 : Nat)) = a_31.r.err ∧
  cutB a_12.fst a_12.snd = a_31.r.val ∧
  toB (a.rows ((0 : Nat) + (↑a_4.fst : Int).toNat) (11 : Nat)) = a_31.r.has ∧
  toI (a.rows ((0 : Nat) + (↑a_4.fst : Int).toNat) (3 : Nat)) = a_31.pos ∧
  ((0 : Nat) = (0 : Nat) ∧
  a_4.snd.l.length = a_31.l.length ∧
  a_4.snd.c1 = a_31.cap) ∧
  (a_31.l.length ≤ a_4.snd.l.length ∧
  RowsEq a_31.l.length (13 : Nat) (encRows encCall a_4.snd.l) (encRows encCall a_31.l)) ∧
  a_31.l.length < (1000 : Nat) ∧
  ∀ (b : Unit), True →
  ((!endOk a_31.l a_31.r == Bool.false) = Bool.true →
  ∃ (b : Unit), Bool.false = Bool.true ∧
  True ∧
  True) ∧
  ((!endOk a_31.l a_31.r == Bool.false) = Bool.false →
  ∃ (a_34 : St), ((0 : Nat) = (0 : Nat) ∧
  a_4.snd.l.length = a_34.l.length ∧
  a_4.snd.c2 = a_34.c2) ∧
  (0 : Nat) = (0 : Nat) ∧
  Decidable.decide ((↑a_4.fst : Int) < (50 : Int)) = Decidable.decide ((↑a_4.fst : Int) < (50 : Int)) ∧
  (↑a_4.fst : Int) = (↑a_4.fst : Int) ∧
  (0 : Nat) = (0 : Nat) ∧
  Bool.false = Bool.false ∧
  Bool.true = Bool.true ∧
  Bool.false = Bool.false ∧
  ((0 : Nat) = (0 : Nat) ∧
  a.n = a.n ∧
  a.cap = a.cap) ∧
  toI (a.rows ((0 : Nat) + (↑a_4.fst : Int).toNat) (0 : Nat)) = toI (a.rows ((0 : Nat) + (↑a_4.fst : Int).toNat) (0 : Nat)) ∧
  toI (a.rows ((0 : Nat) + (↑a_4.fst : Int).toNat) (1 : Nat)) = toI (a.rows ((0 : Nat) + (↑a_4.fst : Int).toNat) (1 : Nat)) ∧
  toI (a.rows ((0 : Nat) + (↑a_4.fst : Int).toNat) (2 : Nat)) = toI (a.rows ((0 : Nat) + (↑a_4.fst : Int).toNat) (2 : Nat)) ∧
  toI (a.rows ((0 : Nat) + (↑a_4.fst : Int).toNat) (3 : Nat)) = toI (a.rows ((0 : Nat) + (↑a_4.fst : Int).toNat) (3 : Nat)) ∧
  toI (a.rows ((0 : Nat) + (↑a_4.fst : Int).toNat) (4 : Nat)) = toI (a.rows ((0 : Nat) + (↑a_4.fst : Int).toNat) (4 : Nat)) ∧
  cutB a_8.fst a_8.snd = cutB a_8.fst a_8.snd ∧
  toI (a.rows ((0 : Nat) + (↑a_4.fst : Int).toNat) (6 : Nat)) = toI (a.rows ((0 : Nat) + (↑a_4.fst : Int).toNat) (6 : Nat)) ∧
  toI (a.rows ((0 : Nat) + (↑a_4.fst : Int).toNat) (7 : Nat)) = toI (a.rows ((0 : Nat) + (↑a_4.fst : Int).toNat) (7 : Nat)) ∧
  cutB a_10.fst a_10.snd = cutB a_10.fst a_10.snd ∧
  toI (a.rows ((0 : Nat) + (↑a_4.fst : Int).toNat) (9 : Nat)) = toI (a.rows ((0 : Nat) + (↑a_4.fst : Int).toNat) (9 : Nat)) ∧
  cutB a_12.fst a_12.snd = cutB a_12.fst a_12.snd ∧
  toB (a.rows ((0 : Nat) + (↑a_4.fst : Int).toNat) (11 : Nat)) = toB (a.rows ((0 : Nat) + (↑a_4.fst : Int).toNat) (11 : Nat)) ∧
  (a_34.l.length ≤ a_4.snd.l.length ∧
  RowsEq a_34.l.length (13 : Nat) (encRows encCall a_4.snd.l) (encRows encCall a_34.l)) ∧
  ((0 : Nat) = (0 : Nat) ∧
  (endL a_31.l a_31.r a_31.pos).length = a_34.l.length ∧
  a_31.cap = a_34.c1) ∧
  (a.n ≤ a.n ∧
  RowsEq a.n (12 : Nat) a.rows a.rows) ∧
  (a_34.l.length ≤ (endL a_31.l a_31.r a_31.pos).length ∧
  RowsEq a_34.l.length (13 : Nat) (encRows encCall (endL a_31.l a_31.r a_31.pos)) (encRows encCall a_34.l)) ∧
  (a_34.l.length ≤ a_4.fst + (1 : Nat) ∧
  ids a_34.l) ∧
  True)))) ∧
  ((!(gl a_4.snd.l ((0 : Nat) + (toI (a.rows ((0 : Nat) + (↑a_4.fst : Int).toNat) (4 : Nat)) - (1 : Int)).toNat)).done) = Bool.false →
  InR IntKind.i64 (toI (a.rows ((0 : Nat) + (↑a_4.fst : Int).toNat) (3 : Nat))) →
  ∃ (a_28 : EndA), (0 : Nat) = (0 : Nat) ∧
  toI (a.rows ((0 : Nat) + (↑a_4.fst : Int).toNat) (4 : Nat)) = a_28.r.id ∧
  (gl a_4.snd.l ((0 : Nat) + (toI (a.rows ((0 : Nat) + (↑a_4.fst : Int).toNat) (4 : Nat)) - (1 : Int)).toNat)).op = a_28.r.op ∧
  (gl a_4.snd.l ((0 : Nat) + (toI (a.rows ((0 : Nat) + (↑a_4.fst : Int).toNat) (4 : Nat)) - (1 : Int)).toNat)).key = a_28.r.key ∧
  toI (a.rows ((0 : Nat) + (↑a_4.fst : Int).toNat) (9 : Nat)) = a_28.r.err ∧
  cutB a_12.fst a_12.snd = a_28.r.val ∧
  toB (a.rows ((0 : Nat) + (↑a_4.fst : Int).toNat) (11 : Nat)) = a_28.r.has ∧
  toI (a.rows ((0 : Nat) + (↑a_4.fst : Int).toNat) (3 : Nat)) = a_28.pos ∧
  ((0 : Nat) = (0 : Nat) ∧
  a_4.snd.l.length = a_28.l.length ∧
  a_4.snd.c1 = a_28.cap) ∧
  (a_28.l.length ≤ a_4.snd.l.length ∧
  RowsEq a_28.l.length (13 : Nat) (encRows encCall a_4.snd.l) (encRows encCall a_28.l)) ∧
  a_28.l.length < (1000 : Nat) ∧
  ∀ (b : Unit), True →
  ((!endOk a_28.l a_28.r == Bool.false) = Bool.true →
  ∃ (b : Unit), Bool.false = Bool.true ∧
  True ∧
  True) ∧
  ((!endOk a_28.l a_28.r == Bool.false) = Bool.false →
  ∃ (a_31 : St), ((0 : Nat) = (0 : Nat) ∧
  a_4.snd.l.length = a_31.l.length ∧
  a_4.snd.c2 = a_31.c2) ∧
  (0 : Nat) = (0 : Nat) ∧
  Decidable.decide ((↑a_4.fst : Int) < (50 : Int)) = Decidable.decide ((↑a_4.fst : Int) < (50 : Int)) ∧
  (↑a_4.fst : Int) = (↑a_4.fst : Int) ∧
  (0 : Nat) = (0 : Nat) ∧
  Bool.false = Bool.false ∧
  Bool.true = Bool.true ∧
  Bool.false = Bool.false ∧
  ((0 : Nat) = (0 : Nat) ∧
  a.n = a.n ∧
  a.cap = a.cap) ∧
  toI (a.rows ((0 : Nat) + (↑a_4.fst : Int).toNat) (0 : Nat)) = toI (a.rows ((0 : Nat) + (↑a_4.fst : Int).toNat) (0 : Nat)) ∧
  toI (a.rows ((0 : Nat) + (↑a_4.fst : Int).toNat) (1 : Nat)) = toI (a.rows ((0 : Nat) + (↑a_4.fst : Int).toNat) (1 : Nat)) ∧
  toI (a.rows ((0 : Nat) + (↑a_4.fst : Int).toNat) (2 : Nat)) = toI (a.rows ((0 : Nat) + (↑a_4.fst : Int).toNat) (2 : Nat)) ∧
  toI (a.rows ((0 : Nat) + (↑a_4.fst : Int).toNat) (3 : Nat)) = toI (a.rows ((0 : Nat) + (↑a_4.fst : Int).toNat) (3 : Nat)) ∧
  toI (a.rows ((0 : Nat) + (↑a_4.fst : Int).toNat) (4 : Nat)) = toI (a.rows ((0 : Nat) + (↑a_4.fst : Int).toNat) (4 : Nat)) ∧
  cutB a_8.fst a_8.snd = cutB a_8.fst a_8.snd ∧
  toI (a.rows ((0 : Nat) + (↑a_4.fst : Int).toNat) (6 : Nat)) = toI (a.rows ((0 : Nat) + (↑a_4.fst : Int).toNat) (6 : Nat)) ∧
  toI (a.rows ((0 : Nat) + (↑a_4.fst : Int).toNat) (7 : Nat)) = toI (a.rows ((0 : Nat) + (↑a_4.fst : Int).toNat) (7 : Nat)) ∧
  cutB a_10.fst a_10.snd = cutB a_10.fst a_10.snd ∧
  toI (a.rows ((0 : Nat) + (↑a_4.fst : Int).toNat) (9 : Nat)) = toI (a.rows ((0 : Nat) + (↑a_4.fst : Int).toNat) (9 : Nat)) ∧
  cutB a_12.fst a_12.snd = cutB a_12.fst a_12.snd ∧
  toB (a.rows ((0 : Nat) + (↑a_4.fst : Int).toNat) (11 : Nat)) = toB (a.rows ((0 : Nat) + (↑a_4.fst : Int).toNat) (11 : Nat)) ∧
  (a_31.l.length ≤ a_4.snd.l.length ∧
  RowsEq a_31.l.length (13 : Nat) (encRows encCall a_4.snd.l) (encRows encCall a_31.l)) ∧
  ((0 : Nat) = (0 : Nat) ∧
  (endL a_28.l a_28.r a_28.pos).length = a_31.l.length ∧
  a_28.cap = a_31.c1) ∧
  (a.n ≤ a.n ∧
  RowsEq a.n (12 : Nat) a.rows a.rows) ∧
  (a_31.l.length ≤ (endL a_28.l a_28.r a_28.pos).length ∧
  RowsEq a_31.l.length (13 : Nat) (encRows encCall (endL a_28.l a_28.r a_28.pos)) (encRows encCall a_31.l)) ∧
  (a_31.l.length ≤ a_4.fst + (1 : Nat) ∧
  ids a_31.l) ∧
  True)))) ∧
  (((toI (a.rows ((0 : Nat) + (↑a_4.fst : Int).toNat) (3 : Nat))).tmod (2 : Int) == (0 : Int)) = Bool.false →
  (0 : Nat) + (toI (a.rows ((0 : Nat) + (↑a_4.fst : Int).toNat) (4 : Nat)) - (1 : Int)).toNat < a_4.snd.l.length ∧
  ((!(gl a_4.snd.l ((0 : Nat) + (toI (a.rows ((0 : Nat) + (↑a_4.fst : Int).toNat) (4 : Nat)) - (1 : Int)).toNat)).done) = Bool.true →
  InR IntKind.i64 (toI (a.rows ((0 : Nat) + (↑a_4.fst : Int).toNat) (7 : Nat))) →
  (0 : Nat) + (toI (a.rows ((0 : Nat) + (↑a_4.fst : Int).toNat) (4 : Nat)) - (1 : Int)).toNat < a_4.snd.l.length ∧
  (InR IntKind.i64 (gl a_4.snd.l ((0 : Nat) + (toI (a.rows ((0 : Nat) + (↑a_4.fst : Int).toNat) (4 : Nat)) - (1 : Int)).toNat)).op →
  ((toI (a.rows ((0 : Nat) + (↑a_4.fst : Int).toNat) (7 : Nat)) == (gl a_4.snd.l ((0 : Nat) + (toI (a.rows ((0 : Nat) + (↑a_4.fst : Int).toNat) (4 : Nat)) - (1 : Int)).toNat)).op) = Bool.true →
  (0 : Nat) + (toI (a.rows ((0 : Nat) + (↑a_4.fst : Int).toNat) (4 : Nat)) - (1 : Int)).toNat < a_4.snd.l.length ∧
  (Decidable.decide (cutB a_10.fst a_10.snd = (gl a_4.snd.l ((0 : Nat) + (toI (a.rows ((0 : Nat) + (↑a_4.fst : Int).toNat) (4 : Nat)) - (1 : Int)).toNat)).key) = Bool.true →
  InR IntKind.i64 (toI (a.rows ((0 : Nat) + (↑a_4.fst : Int).toNat) (3 : Nat))) →
  (0 : Nat) + (toI (a.rows ((0 : Nat) + (↑a_4.fst : Int).toNat) (4 : Nat)) - (1 : Int)).toNat < a_4.snd.l.length ∧
  (0 : Nat) + (toI (a.rows ((0 : Nat) + (↑a_4.fst : Int).toNat) (4 : Nat)) - (1 : Int)).toNat < a_4.snd.l.length ∧
  (0 : Nat) + (toI (a.rows ((0 : Nat) + (↑a_4.fst : Int).toNat) (4 : Nat)) - (1 : Int)).toNat < a_4.snd.l.length ∧
  (InR IntKind.i64 (toI (a.rows ((0 : Nat) + (↑a_4.fst : Int).toNat) (3 : Nat))) →
  ∃ (a_32 : EndA), (0 : Nat) = (0 : Nat) ∧
  toI (a.rows ((0 : Nat) + (↑a_4.fst : Int).toNat) (4 : Nat)) = a_32.r.id ∧
  toI (a.rows ((0 : Nat) + (↑a_4.fst : Int).toNat) (7 : Nat)) = a_32.r.op ∧
  cutB a_10.fst a_10.snd = a_32.r.key ∧
  toI (a.rows ((0 : Nat) + (↑a_4.fst : Int).toNat) (9 : Nat)) = a_32.r.err ∧
  cutB a_12.fst a_12.snd = a_32.r.val ∧
  toB (a.rows ((0 : Nat) + (↑a_4.fst : Int).toNat) (11 : Nat)) = a_32.r.has ∧
  toI (a.rows ((0 : Nat) + (↑a_4.fst : Int).toNat) (3 : Nat)) = a_32.pos ∧
  ((0 : Nat) = (0 : Nat) ∧
  a_4.snd.l.length = a_32.l.length ∧
  a_4.snd.c1 = a_32.cap) ∧
  (a_32.l.length ≤ a_4.snd.l.length ∧
  RowsEq a_32.l.length (13 : Nat) (encRows encCall a_4.snd.l) (encRows encCall a_32.l)) ∧
  a_32.l.length < (1000 : Nat) ∧
  ∀ (b : Unit), True →
  ((!endOk a_32.l a_32.r == Bool.true) = Bool.true →
  ∃ (b : Unit), Bool.false = Bool.true ∧
  True ∧
  True) ∧
  ((!endOk a_32.l a_32.r == Bool.true) = Bool.false →
  ∃ (a_35 : St), ((0 : Nat) = (0 : Nat) ∧
  a_4.snd.l.length = a_35.l.length ∧
  a_4.snd.c2 = a_35.c2) ∧
  (0 : Nat) = (0 : Nat) ∧
  Decidable.decide ((↑a_4.fst : Int) < (50 : Int)) = Decidable.decide ((↑a_4.fst : Int) < (50 : Int)) ∧
  (↑a_4.fst : Int) = (↑a_4.fst : Int) ∧
  (0 : Nat) = (0 : Nat) ∧
  Bool.false = Bool.false ∧
  Bool.true = Bool.true ∧
  Bool.false = Bool.false ∧
  ((0 : Nat) = (0 : Nat) ∧
  a.n = a.n ∧
  a.cap = a.cap) ∧
  toI (a.rows ((0 : Nat) + (↑a_4.fst : Int).toNat) (0 : Nat)) = toI (a.rows ((0 : Nat) + (↑a_4.fst : Int).toNat) (0 : Nat)) ∧
  toI (a.rows ((0 : Nat) + (↑a_4.fst : Int).toNat) (1 : Nat)) = toI (a.rows ((0 : Nat) + (↑a_4.fst : Int).toNat) (1 : Nat)) ∧
  toI (a.rows ((0 : Nat) + (↑a_4.fst : Int).toNat) (2 : Nat)) = toI (a.rows ((0 : Nat) + (↑a_4.fst : Int).toNat) (2 : Nat)) ∧
  toI (a.rows ((0 : Nat) + (↑a_4.fst : Int).toNat) (3 : Nat)) = toI (a.rows ((0 : Nat) + (↑a_4.fst : Int).toNat) (3 : Nat)) ∧
  toI (a.rows ((0 : Nat) + (↑a_4.fst : Int).toNat) (4 : Nat)) = toI (a.rows ((0 : Nat) + (↑a_4.fst : Int).toNat) (4 : Nat)) ∧
  cutB a_8.fst a_8.snd = cutB a_8.fst a_8.snd ∧
  toI (a.rows ((0 : Nat) + (↑a_4.fst : Int).toNat) (6 : Nat)) = toI (a.rows ((0 : Nat) + (↑a_4.fst : Int).toNat) (6 : Nat)) ∧
  toI (a.rows ((0 : Nat) + (↑a_4.fst : Int).toNat) (7 : Nat)) = toI (a.rows ((0 : Nat) + (↑a_4.fst : Int).toNat) (7 : Nat)) ∧
  cutB a_10.fst a_10.snd = cutB a_10.fst a_10.snd ∧
  toI (a.rows ((0 : Nat) + (↑a_4.fst : Int).toNat) (9 : Nat)) = toI (a.rows ((0 : Nat) + (↑a_4.fst : Int).toNat) (9 : Nat)) ∧
  cutB a_12.fst a_12.snd = cutB a_12.fst a_12.snd ∧
  toB (a.rows ((0 : Nat) + (↑a_4.fst : Int).toNat) (11 : Nat)) = toB (a.rows ((0 : Nat) + (↑a_4.fst : Int).toNat) (11 : Nat)) ∧
  (a_35.l.length ≤ a_4.snd.l.length ∧
  RowsEq a_35.l.length (13 : Nat) (updR (updR (updR (encRows encCall a_4.snd.l) ((0 : Nat) + (toI (a.rows ((0 : Nat) + (↑a_4.fst : Int).toNat) (4 : Nat)) - (1 : Int)).toNat) (6 : Nat) [Value.bool Bool.true]) ((0 : Nat) + (toI (a.rows ((0 : Nat) + (↑a_4.fst : Int).toNat) (4 : Nat)) - (1 : Int)).toNat) (5 : Nat) [Value.int IntKind.i64 (toI (a.rows ((0 : Nat) + (↑a_4.fst : Int).toNat) (3 : Nat)))]) ((0 : Nat) + (toI (a.rows ((0 : Nat) + (↑a_4.fst : Int).toNat) (4 : Nat)) - (1 : Int)).toNat) (7 : Nat) [Value.int IntKind.i64 (toI (a.rows ((0 : Nat) + (↑a_4.fst : Int).toNat) (4 : Nat))), Value.int IntKind.i64 (toI (a.rows ((0 : Nat) + (↑a_4.fst : Int).toNat) (7 : Nat))), Value.string (cutB a_10.fst a_10.snd), Value.int IntKind.i64 (toI (a.rows ((0 : Nat) + (↑a_4.fst : Int).toNat) (9 : Nat))), Value.string (cutB a_12.fst a_12.snd), Value.bool (toB (a.rows ((0 : Nat) + (↑a_4.fst : Int).toNat) (11 : Nat)))]) (encRows encCall a_35.l)) ∧
  ((0 : Nat) = (0 : Nat) ∧
  (endL a_32.l a_32.r a_32.pos).length = a_35.l.length ∧
  a_32.cap = a_35.c1) ∧
  (a.n ≤ a.n ∧
  RowsEq a.n (12 : Nat) a.rows a.rows) ∧
  (a_35.l.length ≤ (endL a_32.l a_32.r a_32.pos).length ∧
  RowsEq a_35.l.length (13 : Nat) (encRows encCall (endL a_32.l a_32.r a_32.pos)) (encRows encCall a_35.l)) ∧
  (a_35.l.length ≤ a_4.fst + (1 : Nat) ∧
  ids a_35.l) ∧
  True))) ∧
  (Decidable.decide (cutB a_10.fst a_10.snd = (gl a_4.snd.l ((0 : Nat) + (toI (a.rows ((0 : Nat) + (↑a_4.fst : Int).toNat) (4 : Nat)) - (1 : Int)).toNat)).key) = Bool.false →
  InR IntKind.i64 (toI (a.rows ((0 : Nat) + (↑a_4.fst : Int).toNat) (3 : Nat))) →
  ∃ (a_31 : EndA), (0 : Nat) = (0 : Nat) ∧
  toI (a.rows ((0 : Nat) + (↑a_4.fst : Int).toNat) (4 : Nat)) = a_31.r.id ∧
  toI (a.rows ((0 : Nat) + (↑a_4.fst : Int).toNat) (7 : Nat)) = a_31.r.op ∧
  cutB a_10.fst a_10.snd = a_31.r.key ∧
  toI (a.rows ((0 : Nat) + (↑a_4.fst : Int).toNat) (9 : Nat)) = a_31.r.err ∧
  cutB a_12.fst a_12.snd = a_31.r.val ∧
  toB (a.rows ((0 : Nat) + (↑a_4.fst : Int).toNat) (11 : Nat)) = a_31.r.has ∧
  toI (a.rows ((0 : Nat) + (↑a_4.fst : Int).toNat) (3 : Nat)) = a_31.pos ∧
  ((0 : Nat) = (0 : Nat) ∧
  a_4.snd.l.length = a_31.l.length ∧
  a_4.snd.c1 = a_31.cap) ∧
  (a_31.l.length ≤ a_4.snd.l.length ∧
  RowsEq a_31.l.length (13 : Nat) (encRows encCall a_4.snd.l) (encRows encCall a_31.l)) ∧
  a_31.l.length < (1000 : Nat) ∧
  ∀ (b : Unit), True →
  ((!endOk a_31.l a_31.r == Bool.false) = Bool.true →
  ∃ (b : Unit), Bool.false = Bool.true ∧
  True ∧
  True) ∧
  ((!endOk a_31.l a_31.r == Bool.false) = Bool.false →
  ∃ (a_34 : St), ((0 : Nat) = (0 : Nat) ∧
  a_4.snd.l.length = a_34.l.length ∧
  a_4.snd.c2 = a_34.c2) ∧
  (0 : Nat) = (0 : Nat) ∧
  Decidable.decide ((↑a_4.fst : Int) < (50 : Int)) = Decidable.decide ((↑a_4.fst : Int) < (50 : Int)) ∧
  (↑a_4.fst : Int) = (↑a_4.fst : Int) ∧
  (0 : Nat) = (0 : Nat) ∧
  Bool.false = Bool.false ∧
  Bool.true = Bool.true ∧
  Bool.false = Bool.false ∧
  ((0 : Nat) = (0 : Nat) ∧
  a.n = a.n ∧
  a.cap = a.cap) ∧
  toI (a.rows ((0 : Nat) + (↑a_4.fst : Int).toNat) (0 : Nat)) = toI (a.rows ((0 : Nat) + (↑a_4.fst : Int).toNat) (0 : Nat)) ∧
  toI (a.rows ((0 : Nat) + (↑a_4.fst : Int).toNat) (1 : Nat)) = toI (a.rows ((0 : Nat) + (↑a_4.fst : Int).toNat) (1 : Nat)) ∧
  toI (a.rows ((0 : Nat) + (↑a_4.fst : Int).toNat) (2 : Nat)) = toI (a.rows ((0 : Nat) + (↑a_4.fst : Int).toNat) (2 : Nat)) ∧
  toI (a.rows ((0 : Nat) + (↑a_4.fst : Int).toNat) (3 : Nat)) = toI (a.rows ((0 : Nat) + (↑a_4.fst : Int).toNat) (3 : Nat)) ∧
  toI (a.rows ((0 : Nat) + (↑a_4.fst : Int).toNat) (4 : Nat)) = toI (a.rows ((0 : Nat) + (↑a_4.fst : Int).toNat) (4 : Nat)) ∧
  cutB a_8.fst a_8.snd = cutB a_8.fst a_8.snd ∧
  toI (a.rows ((0 : Nat) + (↑a_4.fst : Int).toNat) (6 : Nat)) = toI (a.rows ((0 : Nat) + (↑a_4.fst : Int).toNat) (6 : Nat)) ∧
  toI (a.rows ((0 : Nat) + (↑a_4.fst : Int).toNat) (7 : Nat)) = toI (a.rows ((0 : Nat) + (↑a_4.fst : Int).toNat) (7 : Nat)) ∧
  cutB a_10.fst a_10.snd = cutB a_10.fst a_10.snd ∧
  toI (a.rows ((0 : Nat) + (↑a_4.fst : Int).toNat) (9 : Nat)) = toI (a.rows ((0 : Nat) + (↑a_4.fst : Int).toNat) (9 : Nat)) ∧
  cutB a_12.fst a_12.snd = cutB a_12.fst a_12.snd ∧
  toB (a.rows ((0 : Nat) + (↑a_4.fst : Int).toNat) (11 : Nat)) = toB (a.rows ((0 : Nat) + (↑a_4.fst : Int).toNat) (11 : Nat)) ∧
  (a_34.l.length ≤ a_4.snd.l.length ∧
  RowsEq a_34.l.length (13 : Nat) (encRows encCall a_4.snd.l) (encRows encCall a_34.l)) ∧
  ((0 : Nat) = (0 : Nat) ∧
  (endL a_31.l a_31.r a_31.pos).length = a_34.l.length ∧
  a_31.cap = a_34.c1) ∧
  (a.n ≤ a.n ∧
  RowsEq a.n (12 : Nat) a.rows a.rows) ∧
  (a_34.l.length ≤ (endL a_31.l a_31.r a_31.pos).length ∧
  RowsEq a_34.l.length (13 : Nat) (encRows encCall (endL a_31.l a_31.r a_31.pos)) (encRows encCall a_34.l)) ∧
  (a_34.l.length ≤ a_4.fst + (1 : Nat) ∧
  ids a_34.l) ∧
  True))) ∧
  ((toI (a.rows ((0 : Nat) + (↑a_4.fst : Int).toNat) (7 : Nat)) == (gl a_4.snd.l ((0 : Nat) + (toI (a.rows ((0 : Nat) + (↑a_4.fst : Int).toNat) (4 : Nat)) - (1 : Int)).toNat)).op) = Bool.false →
  InR IntKind.i64 (toI (a.rows ((0 : Nat) + (↑a_4.fst : Int).toNat) (3 : Nat))) →
  ∃ (a_30 : EndA), (0 : Nat) = (0 : Nat) ∧
  toI (a.rows ((0 : Nat) + (↑a_4.fst : Int).toNat) (4 : Nat)) = a_30.r.id ∧
  toI (a.rows ((0 : Nat) + (↑a_4.fst : Int).toNat) (7 : Nat)) = a_30.r.op ∧
  cutB a_10.fst a_10.snd = a_30.r.key ∧
  toI (a.rows ((0 : Nat) + (↑a_4.fst : Int).toNat) (9 : Nat)) = a_30.r.err ∧
  cutB a_12.fst a_12.snd = a_30.r.val ∧
  toB (a.rows ((0 : Nat) + (↑a_4.fst : Int).toNat) (11 : Nat)) = a_30.r.has ∧
  toI (a.rows ((0 : Nat) + (↑a_4.fst : Int).toNat) (3 : Nat)) = a_30.pos ∧
  ((0 : Nat) = (0 : Nat) ∧
  a_4.snd.l.length = a_30.l.length ∧
  a_4.snd.c1 = a_30.cap) ∧
  (a_30.l.length ≤ a_4.snd.l.length ∧
  RowsEq a_30.l.length (13 : Nat) (encRows encCall a_4.snd.l) (encRows encCall a_30.l)) ∧
  a_30.l.length < (1000 : Nat) ∧
  ∀ (b : Unit), True →
  ((!endOk a_30.l a_30.r == Bool.false) = Bool.true →
  ∃ (b : Unit), Bool.false = Bool.true ∧
  True ∧
  True) ∧
  ((!endOk a_30.l a_30.r == Bool.false) = Bool.false →
  ∃ (a_33 : St), ((0 : Nat) = (0 : Nat) ∧
  a_4.snd.l.length = a_33.l.length ∧
  a_4.snd.c2 = a_33.c2) ∧
  (0 : Nat) = (0 : Nat) ∧
  Decidable.decide ((↑a_4.fst : Int) < (50 : Int)) = Decidable.decide ((↑a_4.fst : Int) < (50 : Int)) ∧
  (↑a_4.fst : Int) = (↑a_4.fst : Int) ∧
  (0 : Nat) = (0 : Nat) ∧
  Bool.false = Bool.false ∧
  Bool.true = Bool.true ∧
  Bool.false = Bool.false ∧
  ((0 : Nat) = (0 : Nat) ∧
  a.n = a.n ∧
  a.cap = a.cap) ∧
  toI (a.rows ((0 : Nat) + (↑a_4.fst : Int).toNat) (0 : Nat)) = toI (a.rows ((0 : Nat) + (↑a_4.fst : Int).toNat) (0 : Nat)) ∧
  toI (a.rows ((0 : Nat) + (↑a_4.fst : Int).toNat) (1 : Nat)) = toI (a.rows ((0 : Nat) + (↑a_4.fst : Int).toNat) (1 : Nat)) ∧
  toI (a.rows ((0 : Nat) + (↑a_4.fst : Int).toNat) (2 : Nat)) = toI (a.rows ((0 : Nat) + (↑a_4.fst : Int).toNat) (2 : Nat)) ∧
  toI (a.rows ((0 : Nat) + (↑a_4.fst : Int).toNat) (3 : Nat)) = toI (a.rows ((0 : Nat) + (↑a_4.fst : Int).toNat) (3 : Nat)) ∧
  toI (a.rows ((0 : Nat) + (↑a_4.fst : Int).toNat) (4 : Nat)) = toI (a.rows ((0 : Nat) + (↑a_4.fst : Int).toNat) (4 : Nat)) ∧
  cutB a_8.fst a_8.snd = cutB a_8.fst a_8.snd ∧
  toI (a.rows ((0 : Nat) + (↑a_4.fst : Int).toNat) (6 : Nat)) = toI (a.rows ((0 : Nat) + (↑a_4.fst : Int).toNat) (6 : Nat)) ∧
  toI (a.rows ((0 : Nat) + (↑a_4.fst : Int).toNat) (7 : Nat)) = toI (a.rows ((0 : Nat) + (↑a_4.fst : Int).toNat) (7 : Nat)) ∧
  cutB a_10.fst a_10.snd = cutB a_10.fst a_10.snd ∧
  toI (a.rows ((0 : Nat) + (↑a_4.fst : Int).toNat) (9 : Nat)) = toI (a.rows ((0 : Nat) + (↑a_4.fst : Int).toNat) (9 : Nat)) ∧
  cutB a_12.fst a_12.snd = cutB a_12.fst a_12.snd ∧
  toB (a.rows ((0 : Nat) + (↑a_4.fst : Int).toNat) (11 : Nat)) = toB (a.rows ((0 : Nat) + (↑a_4.fst : Int).toNat) (11 : Nat)) ∧
  (a_33.l.length ≤ a_4.snd.l.length ∧
  RowsEq a_33.l.length (13 : Nat) (encRows encCall a_4.snd.l) (encRows encCall a_33.l)) ∧
  ((0 : Nat) = (0 : Nat) ∧
  (endL a_30.l a_30.r a_30.pos).length = a_33.l.length ∧
  a_30.cap = a_33.c1) ∧
  (a.n ≤ a.n ∧
  RowsEq a.n (12 : Nat) a.rows a.rows) ∧
  (a_33.l.length ≤ (endL a_30.l a_30.r a_30.pos).length ∧
  RowsEq a_33.l.length (13 : Nat) (encRows encCall (endL a_30.l a_30.r a_30.pos)) (encRows encCall a_33.l)) ∧
  (a_33.l.length ≤ a_4.fst + (1 : Nat) ∧
  ids a_33.l) ∧
  True)))) ∧
  ((!(gl a_4.snd.l ((0 : Nat) + (toI (a.rows ((0 : Nat) + (↑a_4.fst : Int).toNat) (4 : Nat)) - (1 : Int)).toNat)).done) = Bool.false →
  InR IntKind.i64 (toI (a.rows ((0 : Nat) + (↑a_4.fst : Int).toNat) (3 : Nat))) →
  ∃ (a_27 : EndA), (0 : Nat) = (0 : Nat) ∧
  toI (a.rows ((0 : Nat) + (↑a_4.fst : Int).toNat) (4 : Nat)) = a_27.r.id ∧
  toI (a.rows ((0 : Nat) + (↑a_4.fst : Int).toNat) (7 : Nat)) = a_27.r.op ∧
  cutB a_10.fst a_10.snd = a_27.r.key ∧
  toI (a.rows ((0 : Nat) + (↑a_4.fst : Int).toNat) (9 : Nat)) = a_27.r.err ∧
  cutB a_12.fst a_12.snd = a_27.r.val ∧
  toB (a.rows ((0 : Nat) + (↑a_4.fst : Int).toNat) (11 : Nat)) = a_27.r.has ∧
  toI (a.rows ((0 : Nat) + (↑a_4.fst : Int).toNat) (3 : Nat)) = a_27.pos ∧
  ((0 : Nat) = (0 : Nat) ∧
  a_4.snd.l.length = a_27.l.length ∧
  a_4.snd.c1 = a_27.cap) ∧
  (a_27.l.length ≤ a_4.snd.l.length ∧
  RowsEq a_27.l.length (13 : Nat) (encRows encCall a_4.snd.l) (encRows encCall a_27.l)) ∧
  a_27.l.length < (1000 : Nat) ∧
  ∀ (b : Unit), True →
  ((!endOk a_27.l a_27.r == Bool.false) = Bool.true →
  ∃ (b : Unit), Bool.false = Bool.true ∧
  True ∧
  True) ∧
  ((!endOk a_27.l a_27.r == Bool.false) = Bool.false →
  ∃ (a_30 : St), ((0 : Nat) = (0 : Nat) ∧
  a_4.snd.l.length = a_30.l.length ∧
  a_4.snd.c2 = a_30.c2) ∧
  (0 : Nat) = (0 : Nat) ∧
  Decidable.decide ((↑a_4.fst : Int) < (50 : Int)) = Decidable.decide ((↑a_4.fst : Int) < (50 : Int)) ∧
  (↑a_4.fst : Int) = (↑a_4.fst : Int) ∧
  (0 : Nat) = (0 : Nat) ∧
  Bool.false = Bool.false ∧
  Bool.true = Bool.true ∧
  Bool.false = Bool.false ∧
  ((0 : Nat) = (0 : Nat) ∧
  a.n = a.n ∧
  a.cap = a.cap) ∧
  toI (a.rows ((0 : Nat) + (↑a_4.fst : Int).toNat) (0 : Nat)) = toI (a.rows ((0 : Nat) + (↑a_4.fst : Int).toNat) (0 : Nat)) ∧
  toI (a.rows ((0 : Nat) + (↑a_4.fst : Int).toNat) (1 : Nat)) = toI (a.rows ((0 : Nat) + (↑a_4.fst : Int).toNat) (1 : Nat)) ∧
  toI (a.rows ((0 : Nat) + (↑a_4.fst : Int).toNat) (2 : Nat)) = toI (a.rows ((0 : Nat) + (↑a_4.fst : Int).toNat) (2 : Nat)) ∧
  toI (a.rows ((0 : Nat) + (↑a_4.fst : Int).toNat) (3 : Nat)) = toI (a.rows ((0 : Nat) + (↑a_4.fst : Int).toNat) (3 : Nat)) ∧
  toI (a.rows ((0 : Nat) + (↑a_4.fst : Int).toNat) (4 : Nat)) = toI (a.rows ((0 : Nat) + (↑a_4.fst : Int).toNat) (4 : Nat)) ∧
  cutB a_8.fst a_8.snd = cutB a_8.fst a_8.snd ∧
  toI (a.rows ((0 : Nat) + (↑a_4.fst : Int).toNat) (6 : Nat)) = toI (a.rows ((0 : Nat) + (↑a_4.fst : Int).toNat) (6 : Nat)) ∧
  toI (a.rows ((0 : Nat) + (↑a_4.fst : Int).toNat) (7 : Nat)) = toI (a.rows ((0 : Nat) + (↑a_4.fst : Int).toNat) (7 : Nat)) ∧
  cutB a_10.fst a_10.snd = cutB a_10.fst a_10.snd ∧
  toI (a.rows ((0 : Nat) + (↑a_4.fst : Int).toNat) (9 : Nat)) = toI (a.rows ((0 : Nat) + (↑a_4.fst : Int).toNat) (9 : Nat)) ∧
  cutB a_12.fst a_12.snd = cutB a_12.fst a_12.snd ∧
  toB (a.rows ((0 : Nat) + (↑a_4.fst : Int).toNat) (11 : Nat)) = toB (a.rows ((0 : Nat) + (↑a_4.fst : Int).toNat) (11 : Nat)) ∧
  (a_30.l.length ≤ a_4.snd.l.length ∧
  RowsEq a_30.l.length (13 : Nat) (encRows encCall a_4.snd.l) (encRows encCall a_30.l)) ∧
  ((0 : Nat) = (0 : Nat) ∧
  (endL a_27.l a_27.r a_27.pos).length = a_30.l.length ∧
  a_27.cap = a_30.c1) ∧
  (a.n ≤ a.n ∧
  RowsEq a.n (12 : Nat) a.rows a.rows) ∧
  (a_30.l.length ≤ (endL a_27.l a_27.r a_27.pos).length ∧
  RowsEq a_30.l.length (13 : Nat) (encRows encCall (endL a_27.l a_27.r a_27.pos)) (encRows encCall a_30.l)) ∧
  (a_30.l.length ≤ a_4.fst + (1 : Nat) ∧
  ids a_30.l) ∧
  True))))) ∧
  (Decidable.decide (toI (a.rows ((0 : Nat) + (↑a_4.fst : Int).toNat) (4 : Nat)) ≤ (↑a_4.snd.l.length : Int)) = Bool.false →
  InR IntKind.i64 (toI (a.rows ((0 : Nat) + (↑a_4.fst : Int).toNat) (3 : Nat))) →
  ∃ (a_23 : EndA), (0 : Nat) = (0 : Nat) ∧
  toI (a.rows ((0 : Nat) + (↑a_4.fst : Int).toNat) (4 : Nat)) = a_23.r.id ∧
  toI (a.rows ((0 : Nat) + (↑a_4.fst : Int).toNat) (7 : Nat)) = a_23.r.op ∧
  cutB a_10.fst a_10.snd = a_23.r.key ∧
  toI (a.rows ((0 : Nat) + (↑a_4.fst : Int).toNat) (9 : Nat)) = a_23.r.err ∧
  cutB a_12.fst a_12.snd = a_23.r.val ∧
  toB (a.rows ((0 : Nat) + (↑a_4.fst : Int).toNat) (11 : Nat)) = a_23.r.has ∧
  toI (a.rows ((0 : Nat) + (↑a_4.fst : Int).toNat) (3 : Nat)) = a_23.pos ∧
  ((0 : Nat) = (0 : Nat) ∧
  a_4.snd.l.length = a_23.l.length ∧
  a_4.snd.c1 = a_23.cap) ∧
  (a_23.l.length ≤ a_4.snd.l.length ∧
  RowsEq a_23.l.length (13 : Nat) (encRows encCall a_4.snd.l) (encRows encCall a_23.l)) ∧
  a_23.l.length < (1000 : Nat) ∧
  ∀ (b : Unit), True →
  ((!endOk a_23.l a_23.r == Bool.false) = Bool.true →
  ∃ (b : Unit), Bool.false = Bool.true ∧
  True ∧
  True) ∧
  ((!endOk a_23.l a_23.r == Bool.false) = Bool.false →
  ∃ (a_26 : St), ((0 : Nat) = (0 : Nat) ∧
  a_4.snd.l.length = a_26.l.length ∧
  a_4.snd.c2 = a_26.c2) ∧
  (0 : Nat) = (0 : Nat) ∧
  Decidable.decide ((↑a_4.fst : Int) < (50 : Int)) = Decidable.decide ((↑a_4.fst : Int) < (50 : Int)) ∧
  (↑a_4.fst : Int) = (↑a_4.fst : Int) ∧
  (0 : Nat) = (0 : Nat) ∧
  Bool.false = Bool.false ∧
  Bool.true = Bool.true ∧
  Bool.false = Bool.false ∧
  ((0 : Nat) = (0 : Nat) ∧
  a.n = a.n ∧
  a.cap = a.cap) ∧
  toI (a.rows ((0 : Nat) + (↑a_4.fst : Int).toNat) (0 : Nat)) = toI (a.rows ((0 : Nat) + (↑a_4.fst : Int).toNat) (0 : Nat)) ∧
  toI (a.rows ((0 : Nat) + (↑a_4.fst : Int).toNat) (1 : Nat)) = toI (a.rows ((0 : Nat) + (↑a_4.fst : Int).toNat) (1 : Nat)) ∧
  toI (a.rows ((0 : Nat) + (↑a_4.fst : Int).toNat) (2 : Nat)) = toI (a.rows ((0 : Nat) + (↑a_4.fst : Int).toNat) (2 : Nat)) ∧
  toI (a.rows ((0 : Nat) + (↑a_4.fst : Int).toNat) (3 : Nat)) = toI (a.rows ((0 : Nat) + (↑a_4.fst : Int).toNat) (3 : Nat)) ∧
  toI (a.rows ((0 : Nat) + (↑a_4.fst : Int).toNat) (4 : Nat)) = toI (a.rows ((0 : Nat) + (↑a_4.fst : Int).toNat) (4 : Nat)) ∧
  cutB a_8.fst a_8.snd = cutB a_8.fst a_8.snd ∧
  toI (a.rows ((0 : Nat) + (↑a_4.fst : Int).toNat) (6 : Nat)) = toI (a.rows ((0 : Nat) + (↑a_4.fst : Int).toNat) (6 : Nat)) ∧
  toI (a.rows ((0 : Nat) + (↑a_4.fst : Int).toNat) (7 : Nat)) = toI (a.rows ((0 : Nat) + (↑a_4.fst : Int).toNat) (7 : Nat)) ∧
  cutB a_10.fst a_10.snd = cutB a_10.fst a_10.snd ∧
  toI (a.rows ((0 : Nat) + (↑a_4.fst : Int).toNat) (9 : Nat)) = toI (a.rows ((0 : Nat) + (↑a_4.fst : Int).toNat) (9 : Nat)) ∧
  cutB a_12.fst a_12.snd = cutB a_12.fst a_12.snd ∧
  toB (a.rows ((0 : Nat) + (↑a_4.fst : Int).toNat) (11 : Nat)) = toB (a.rows ((0 : Nat) + (↑a_4.fst : Int).toNat) (11 : Nat)) ∧
  (a_26.l.length ≤ a_4.snd.l.length ∧
  RowsEq a_26.l.length (13 : Nat) (encRows encCall a_4.snd.l) (encRows encCall a_26.l)) ∧
  ((0 : Nat) = (0 : Nat) ∧
  (endL a_23.l a_23.r a_23.pos).length = a_26.l.length ∧
  a_23.cap = a_26.c1) ∧
  (a.n ≤ a.n ∧
  RowsEq a.n (12 : Nat) a.rows a.rows) ∧
  (a_26.l.length ≤ (endL a_23.l a_23.r a_23.pos).length ∧
  RowsEq a_26.l.length (13 : Nat) (encRows encCall (endL a_23.l a_23.r a_23.pos)) (encRows encCall a_26.l)) ∧
  (a_26.l.length ≤ a_4.fst + (1 : Nat) ∧
  ids a_26.l) ∧
  True))) ∧
  (Decidable.decide ((1 : Int) ≤ toI (a.rows ((0 : Nat) + (↑a_4.fst : Int).toNat) (4 : Nat))) = Bool.false →
  InR IntKind.i64 (toI (a.rows ((0 : Nat) + (↑a_4.fst : Int).toNat) (3 : Nat))) →
  ∃ (a_21 : EndA), (0 : Nat) = (0 : Nat) ∧
  toI (a.rows ((0 : Nat) + (↑a_4.fst : Int).toNat) (4 : Nat)) = a_21.r.id ∧
  toI (a.rows ((0 : Nat) + (↑a_4.fst : Int).toNat) (7 : Nat)) = a_21.r.op ∧
  cutB a_10.fst a_10.snd = a_21.r.key ∧
  toI (a.rows ((0 : Nat) + (↑a_4.fst : Int).toNat) (9 : Nat)) = a_21.r.err ∧
  cutB a_12.fst a_12.snd = a_21.r.val ∧
  toB (a.rows ((0 : Nat) + (↑a_4.fst : Int).toNat) (11 : Nat)) = a_21.r.has ∧
  toI (a.rows ((0 : Nat) + (↑a_4.fst : Int).toNat) (3 : Nat)) = a_21.pos ∧
  ((0 : Nat) = (0 : Nat) ∧
  a_4.snd.l.length = a_21.l.length ∧
  a_4.snd.c1 = a_21.cap) ∧
  (a_21.l.length ≤ a_4.snd.l.length ∧
  RowsEq a_21.l.length (13 : Nat) (encRows encCall a_4.snd.l) (encRows encCall a_21.l)) ∧
  a_21.l.length < (1000 : Nat) ∧
  ∀ (b : Unit), True →
  ((!endOk a_21.l a_21.r == Bool.false) = Bool.true →
  ∃ (b : Unit), Bool.false = Bool.true ∧
  True ∧
  True) ∧
  ((!endOk a_21.l a_21.r == Bool.false) = Bool.false →
  ∃ (a_24 : St), ((0 : Nat) = (0 : Nat) ∧
  a_4.snd.l.length = a_24.l.length ∧
  a_4.snd.c2 = a_24.c2) ∧
  (0 : Nat) = (0 : Nat) ∧
  Decidable.decide ((↑a_4.fst : Int) < (50 : Int)) = Decidable.decide ((↑a_4.fst : Int) < (50 : Int)) ∧
  (↑a_4.fst : Int) = (↑a_4.fst : Int) ∧
  (0 : Nat) = (0 : Nat) ∧
  Bool.false = Bool.false ∧
  Bool.true = Bool.true ∧
  Bool.false = Bool.false ∧
  ((0 : Nat) = (0 : Nat) ∧
  a.n = a.n ∧
  a.cap = a.cap) ∧
  toI (a.rows ((0 : Nat) + (↑a_4.fst : Int).toNat) (0 : Nat)) = toI (a.rows ((0 : Nat) + (↑a_4.fst : Int).toNat) (0 : Nat)) ∧
  toI (a.rows ((0 : Nat) + (↑a_4.fst : Int).toNat) (1 : Nat)) = toI (a.rows ((0 : Nat) + (↑a_4.fst : Int).toNat) (1 : Nat)) ∧
  toI (a.rows ((0 : Nat) + (↑a_4.fst : Int).toNat) (2 : Nat)) = toI (a.rows ((0 : Nat) + (↑a_4.fst : Int).toNat) (2 : Nat)) ∧
  toI (a.rows ((0 : Nat) + (↑a_4.fst : Int).toNat) (3 : Nat)) = toI (a.rows ((0 : Nat) + (↑a_4.fst : Int).toNat) (3 : Nat)) ∧
  toI (a.rows ((0 : Nat) + (↑a_4.fst : Int).toNat) (4 : Nat)) = toI (a.rows ((0 : Nat) + (↑a_4.fst : Int).toNat) (4 : Nat)) ∧
  cutB a_8.fst a_8.snd = cutB a_8.fst a_8.snd ∧
  toI (a.rows ((0 : Nat) + (↑a_4.fst : Int).toNat) (6 : Nat)) = toI (a.rows ((0 : Nat) + (↑a_4.fst : Int).toNat) (6 : Nat)) ∧
  toI (a.rows ((0 : Nat) + (↑a_4.fst : Int).toNat) (7 : Nat)) = toI (a.rows ((0 : Nat) + (↑a_4.fst : Int).toNat) (7 : Nat)) ∧
  cutB a_10.fst a_10.snd = cutB a_10.fst a_10.snd ∧
  toI (a.rows ((0 : Nat) + (↑a_4.fst : Int).toNat) (9 : Nat)) = toI (a.rows ((0 : Nat) + (↑a_4.fst : Int).toNat) (9 : Nat)) ∧
  cutB a_12.fst a_12.snd = cutB a_12.fst a_12.snd ∧
  toB (a.rows ((0 : Nat) + (↑a_4.fst : Int).toNat) (11 : Nat)) = toB (a.rows ((0 : Nat) + (↑a_4.fst : Int).toNat) (11 : Nat)) ∧
  (a_24.l.length ≤ a_4.snd.l.length ∧
  RowsEq a_24.l.length (13 : Nat) (encRows encCall a_4.snd.l) (encRows encCall a_24.l)) ∧
  ((0 : Nat) = (0 : Nat) ∧
  (endL a_21.l a_21.r a_21.pos).length = a_24.l.length ∧
  a_21.cap = a_24.c1) ∧
  (a.n ≤ a.n ∧
  RowsEq a.n (12 : Nat) a.rows a.rows) ∧
  (a_24.l.length ≤ (endL a_21.l a_21.r a_21.pos).length ∧
  RowsEq a_24.l.length (13 : Nat) (encRows encCall (endL a_21.l a_21.r a_21.pos)) (encRows encCall a_24.l)) ∧
  (a_24.l.length ≤ a_4.fst + (1 : Nat) ∧
  ids a_24.l) ∧
  True))) ∧
  ((toI (a.rows ((0 : Nat) + (↑a_4.fst : Int).toNat) (0 : Nat)) == (1 : Int)) = Bool.false →
  (∃ (a_17 : Nat), (0 : Int) = (↑(ownGo a_4.snd.l (toI (a.rows a_4.fst (2 : Nat))) (toI (a.rows a_4.fst (3 : Nat))) a_17).snd : Int) ∧
  (0 : Int) = (↑a_17 : Int) ∧
  (toI (a.rows ((0 : Nat) + (↑a_4.fst : Int).toNat) (0 : Nat)) == (1 : Int)) = (toI (a.rows ((0 : Nat) + (↑a_4.fst : Int).toNat) (0 : Nat)) == (1 : Int)) ∧
  (toI (a.rows ((0 : Nat) + (↑a_4.fst : Int).toNat) (0 : Nat)) == (0 : Int)) = (toI (a.rows ((0 : Nat) + (↑a_4.fst : Int).toNat) (0 : Nat)) == (0 : Int)) ∧
  toI (a.rows ((0 : Nat) + (↑a_4.fst : Int).toNat) (0 : Nat)) = toI (a.rows ((0 : Nat) + (↑a_4.fst : Int).toNat) (0 : Nat)) ∧
  (0 : Nat) = (0 : Nat) ∧
  Decidable.decide ((↑a_4.fst : Int) < (50 : Int)) = Decidable.decide ((↑a_4.fst : Int) < (50 : Int)) ∧
  (↑a_4.fst : Int) = (↑a_4.fst : Int) ∧
  ((0 : Nat) = (0 : Nat) ∧
  a_4.snd.l.length = a_4.snd.l.length ∧
  a_4.snd.c2 = a_4.snd.c2) ∧
  (0 : Nat) = (0 : Nat) ∧
  Bool.false = Bool.false ∧
  Bool.true = Bool.true ∧
  Bool.false = Bool.false ∧
  ((0 : Nat) = (0 : Nat) ∧
  a.n = a.n ∧
  a.cap = a.cap) ∧
  toI (a.rows ((0 : Nat) + (↑a_4.fst : Int).toNat) (0 : Nat)) = toI (a.rows ((0 : Nat) + (↑a_4.fst : Int).toNat) (0 : Nat)) ∧
  toI (a.rows ((0 : Nat) + (↑a_4.fst : Int).toNat) (1 : Nat)) = toI (a.rows ((0 : Nat) + (↑a_4.fst : Int).toNat) (1 : Nat)) ∧
  toI (a.rows ((0 : Nat) + (↑a_4.fst : Int).toNat) (2 : Nat)) = toI (a.rows ((0 : Nat) + (↑a_4.fst : Int).toNat) (2 : Nat)) ∧
  toI (a.rows ((0 : Nat) + (↑a_4.fst : Int).toNat) (3 : Nat)) = toI (a.rows ((0 : Nat) + (↑a_4.fst : Int).toNat) (3 : Nat)) ∧
  toI (a.rows ((0 : Nat) + (↑a_4.fst : Int).toNat) (4 : Nat)) = toI (a.rows ((0 : Nat) + (↑a_4.fst : Int).toNat) (4 : Nat)) ∧
  cutB a_8.fst a_8.snd = cutB a_8.fst a_8.snd ∧
  toI (a.rows ((0 : Nat) + (↑a_4.fst : Int).toNat) (6 : Nat)) = toI (a.rows ((0 : Nat) + (↑a_4.fst : Int).toNat) (6 : Nat)) ∧
  toI (a.rows ((0 : Nat) + (↑a_4.fst : Int).toNat) (7 : Nat)) = toI (a.rows ((0 : Nat) + (↑a_4.fst : Int).toNat) (7 : Nat)) ∧
  cutB a_10.fst a_10.snd = cutB a_10.fst a_10.snd ∧
  toI (a.rows ((0 : Nat) + (↑a_4.fst : Int).toNat) (9 : Nat)) = toI (a.rows ((0 : Nat) + (↑a_4.fst : Int).toNat) (9 : Nat)) ∧
  cutB a_12.fst a_12.snd = cutB a_12.fst a_12.snd ∧
  toB (a.rows ((0 : Nat) + (↑a_4.fst : Int).toNat) (11 : Nat)) = toB (a.rows ((0 : Nat) + (↑a_4.fst : Int).toNat) (11 : Nat)) ∧
  (a_4.snd.l.length ≤ a_4.snd.l.length ∧
  RowsEq a_4.snd.l.length (13 : Nat) (encRows encCall a_4.snd.l) (encRows encCall (ownGo a_4.snd.l (toI (a.rows a_4.fst (2 : Nat))) (toI (a.rows a_4.fst (3 : Nat))) a_17).fst)) ∧
  ((0 : Nat) = (0 : Nat) ∧
  a_4.snd.l.length = a_4.snd.l.length ∧
  a_4.snd.c1 = a_4.snd.c1) ∧
  (a.n ≤ a.n ∧
  RowsEq a.n (12 : Nat) a.rows a.rows) ∧
  (a_4.snd.l.length ≤ a_4.snd.l.length ∧
  RowsEq a_4.snd.l.length (13 : Nat) (encRows encCall a_4.snd.l) (encRows encCall a_4.snd.l)) ∧
  a_17 ≤ a_4.snd.l.length ∧
  True) ∧
  ∀ (a_17 : Nat), a_17 ≤ a_4.snd.l.length →
  (Decidable.decide ((↑a_17 : Int) < (↑a_4.snd.l.length : Int)) = Bool.true →
  ((0 : Int) ≤ (↑a_17 : Int) ∧
  (↑a_17 : Int) < (↑a_4.snd.l.length : Int)) ∧
  (0 : Nat) + (↑a_17 : Int).toNat < a_4.snd.l.length ∧
  (InR IntKind.i64 (gl (ownGo a_4.snd.l (toI (a.rows a_4.fst (2 : Nat))) (toI (a.rows a_4.fst (3 : Nat))) a_17).fst ((0 : Nat) + (↑a_17 : Int).toNat)).node →
  InR IntKind.i64 (toI (a.rows ((0 : Nat) + (↑a_4.fst : Int).toNat) (2 : Nat))) →
  (((gl (ownGo a_4.snd.l (toI (a.rows a_4.fst (2 : Nat))) (toI (a.rows a_4.fst (3 : Nat))) a_17).fst ((0 : Nat) + (↑a_17 : Int).toNat)).node == toI (a.rows ((0 : Nat) + (↑a_4.fst : Int).toNat) (2 : Nat))) = Bool.true →
  (0 : Nat) + (↑a_17 : Int).toNat < a_4.snd.l.length ∧
  ((!(gl (ownGo a_4.snd.l (toI (a.rows a_4.fst (2 : Nat))) (toI (a.rows a_4.fst (3 : Nat))) a_17).fst ((0 : Nat) + (↑a_17 : Int).toNat)).done) = Bool.true →
  InR IntKind.i64 (toI (a.rows ((0 : Nat) + (↑a_4.fst : Int).toNat) (3 : Nat))) →
  (0 : Nat) + (↑a_17 : Int).toNat < a_4.snd.l.length ∧
  (InR IntKind.i64 (gl (ownGo a_4.snd.l (toI (a.rows a_4.fst (2 : Nat))) (toI (a.rows a_4.fst (3 : Nat))) a_17).fst ((0 : Nat) + (↑a_17 : Int).toNat)).id →
  (0 : Nat) + (↑a_17 : Int).toNat < a_4.snd.l.length ∧
  (InR IntKind.i64 (gl (ownGo a_4.snd.l (toI (a.rows a_4.fst (2 : Nat))) (toI (a.rows a_4.fst (3 : Nat))) a_17).fst ((0 : Nat) + (↑a_17 : Int).toNat)).op →
  (0 : Nat) + (↑a_17 : Int).toNat < a_4.snd.l.length ∧
  (0 : Nat) + (↑a_17 : Int).toNat < a_4.snd.l.length ∧
  (0 : Nat) + (↑a_17 : Int).toNat < a_4.snd.l.length ∧
  (0 : Nat) + (↑a_17 : Int).toNat < a_4.snd.l.length ∧
  InR IntKind.i64 ((↑(ownGo a_4.snd.l (toI (a.rows a_4.fst (2 : Nat))) (toI (a.rows a_4.fst (3 : Nat))) a_17).snd : Int) + (1 : Int)) ∧
  InR IntKind.i64 ((↑a_17 : Int) + (1 : Int)) ∧
  ∃ (a' : Nat), (↑(ownGo a_4.snd.l (toI (a.rows a_4.fst (2 : Nat))) (toI (a.rows a_4.fst (3 : Nat))) a_17).snd : Int) + (1 : Int) = (↑(ownGo a_4.snd.l (toI (a.rows a_4.fst (2 : Nat))) (toI (a.rows a_4.fst (3 : Nat))) a').snd : Int) ∧
  (↑a_17 : Int) + (1 : Int) = (↑a' : Int) ∧
  (toI (a.rows ((0 : Nat) + (↑a_4.fst : Int).toNat) (0 : Nat)) == (1 : Int)) = (toI (a.rows ((0 : Nat) + (↑a_4.fst : Int).toNat) (0 : Nat)) == (1 : Int)) ∧
  (toI (a.rows ((0 : Nat) + (↑a_4.fst : Int).toNat) (0 : Nat)) == (0 : Int)) = (toI (a.rows ((0 : Nat) + (↑a_4.fst : Int).toNat) (0 : Nat)) == (0 : Int)) ∧
  toI (a.rows ((0 : Nat) + (↑a_4.fst : Int).toNat) (0 : Nat)) = toI (a.rows ((0 : Nat) + (↑a_4.fst : Int).toNat) (0 : Nat)) ∧
  (0 : Nat) = (0 : Nat) ∧
  Decidable.decide ((↑a_4.fst : Int) < (50 : Int)) = Decidable.decide ((↑a_4.fst : Int) < (50 : Int)) ∧
  (↑a_4.fst : Int) = (↑a_4.fst : Int) ∧
  ((0 : Nat) = (0 : Nat) ∧
  a_4.snd.l.length = a_4.snd.l.length ∧
  a_4.snd.c2 = a_4.snd.c2) ∧
  (0 : Nat) = (0 : Nat) ∧
  Bool.false = Bool.false ∧
  Bool.true = Bool.true ∧
  Bool.false = Bool.false ∧
  ((0 : Nat) = (0 : Nat) ∧
  a.n = a.n ∧
  a.cap = a.cap) ∧
  toI (a.rows ((0 : Nat) + (↑a_4.fst : Int).toNat) (0 : Nat)) = toI (a.rows ((0 : Nat) + (↑a_4.fst : Int).toNat) (0 : Nat)) ∧
  toI (a.rows ((0 : Nat) + (↑a_4.fst : Int).toNat) (1 : Nat)) = toI (a.rows ((0 : Nat) + (↑a_4.fst : Int).toNat) (1 : Nat)) ∧
  toI (a.rows ((0 : Nat) + (↑a_4.fst : Int).toNat) (2 : Nat)) = toI (a.rows ((0 : Nat) + (↑a_4.fst : Int).toNat) (2 : Nat)) ∧
  toI (a.rows ((0 : Nat) + (↑a_4.fst : Int).toNat) (3 : Nat)) = toI (a.rows ((0 : Nat) + (↑a_4.fst : Int).toNat) (3 : Nat)) ∧
  toI (a.rows ((0 : Nat) + (↑a_4.fst : Int).toNat) (4 : Nat)) = toI (a.rows ((0 : Nat) + (↑a_4.fst : Int).toNat) (4 : Nat)) ∧
  cutB a_8.fst a_8.snd = cutB a_8.fst a_8.snd ∧
  toI (a.rows ((0 : Nat) + (↑a_4.fst : Int).toNat) (6 : Nat)) = toI (a.rows ((0 : Nat) + (↑a_4.fst : Int).toNat) (6 : Nat)) ∧
  toI (a.rows ((0 : Nat) + (↑a_4.fst : Int).toNat) (7 : Nat)) = toI (a.rows ((0 : Nat) + (↑a_4.fst : Int).toNat) (7 : Nat)) ∧
  cutB a_10.fst a_10.snd = cutB a_10.fst a_10.snd ∧
  toI (a.rows ((0 : Nat) + (↑a_4.fst : Int).toNat) (9 : Nat)) = toI (a.rows ((0 : Nat) + (↑a_4.fst : Int).toNat) (9 : Nat)) ∧
  cutB a_12.fst a_12.snd = cutB a_12.fst a_12.snd ∧
  toB (a.rows ((0 : Nat) + (↑a_4.fst : Int).toNat) (11 : Nat)) = toB (a.rows ((0 : Nat) + (↑a_4.fst : Int).toNat) (11 : Nat)) ∧
  (a_4.snd.l.length ≤ a_4.snd.l.length ∧
  RowsEq a_4.snd.l.length (13 : Nat) (updR (updR (updR (encRows encCall (ownGo a_4.snd.l (toI (a.rows a_4.fst (2 : Nat))) (toI (a.rows a_4.fst (3 : Nat))) a_17).fst) ((0 : Nat) + (↑a_17 : Int).toNat) (6 : Nat) [Value.bool Bool.true]) ((0 : Nat) + (↑a_17 : Int).toNat) (5 : Nat) [Value.int IntKind.i64 (toI (a.rows ((0 : Nat) + (↑a_4.fst : Int).toNat) (3 : Nat)))]) ((0 : Nat) + (↑a_17 : Int).toNat) (7 : Nat) [Value.int IntKind.i64 (gl (ownGo a_4.snd.l (toI (a.rows a_4.fst (2 : Nat))) (toI (a.rows a_4.fst (3 : Nat))) a_17).fst ((0 : Nat) + (↑a_17 : Int).toNat)).id, Value.int IntKind.i64 (gl (ownGo a_4.snd.l (toI (a.rows a_4.fst (2 : Nat))) (toI (a.rows a_4.fst (3 : Nat))) a_17).fst ((0 : Nat) + (↑a_17 : Int).toNat)).op, Value.string (gl (ownGo a_4.snd.l (toI (a.rows a_4.fst (2 : Nat))) (toI (a.rows a_4.fst (3 : Nat))) a_17).fst ((0 : Nat) + (↑a_17 : Int).toNat)).key, Value.int IntKind.i64 (8 : Int), Value.string { data := #[] }, Value.bool Bool.false]) (encRows encCall (ownGo a_4.snd.l (toI (a.rows a_4.fst (2 : Nat))) (toI (a.rows a_4.fst (3 : Nat))) a').fst)) ∧
  ((0 : Nat) = (0 : Nat) ∧
  a_4.snd.l.length = a_4.snd.l.length ∧
  a_4.snd.c1 = a_4.snd.c1) ∧
  (a.n ≤ a.n ∧
  RowsEq a.n (12 : Nat) a.rows a.rows) ∧
  (a_4.snd.l.length ≤ a_4.snd.l.length ∧
  RowsEq a_4.snd.l.length (13 : Nat) (encRows encCall a_4.snd.l) (encRows encCall a_4.snd.l)) ∧
  a' ≤ a_4.snd.l.length ∧
  a_4.snd.l.length - a' < a_4.snd.l.length - a_17))) ∧
  ((!(gl (ownGo a_4.snd.l (toI (a.rows a_4.fst (2 : Nat))) (toI (a.rows a_4.fst (3 : Nat))) a_17).fst ((0 : Nat) + (↑a_17 : Int).toNat)).done) = Bool.false →
  InR IntKind.i64 ((↑a_17 : Int) + (1 : Int)) ∧
  ∃ (a' : Nat), (↑(ownGo a_4.snd.l (toI (a.rows a_4.fst (2 : Nat))) (toI (a.rows a_4.fst (3 : Nat))) a_17).snd : Int) = (↑(ownGo a_4.snd.l (toI (a.rows a_4.fst (2 : Nat))) (toI (a.rows a_4.fst (3 : Nat))) a').snd : Int) ∧
  (↑a_17 : Int) + (1 : Int) = (↑a' : Int) ∧
  (toI (a.rows ((0 : Nat) + (↑a_4.fst : Int).toNat) (0 : Nat)) == (1 : Int)) = (toI (a.rows ((0 : Nat) + (↑a_4.fst : Int).toNat) (0 : Nat)) == (1 : Int)) ∧
  (toI (a.rows ((0 : Nat) + (↑a_4.fst : Int).toNat) (0 : Nat)) == (0 : Int)) = (toI (a.rows ((0 : Nat) + (↑a_4.fst : Int).toNat) (0 : Nat)) == (0 : Int)) ∧
  toI (a.rows ((0 : Nat) + (↑a_4.fst : Int).toNat) (0 : Nat)) = toI (a.rows ((0 : Nat) + (↑a_4.fst : Int).toNat) (0 : Nat)) ∧
  (0 : Nat) = (0 : Nat) ∧
  Decidable.decide ((↑a_4.fst : Int) < (50 : Int)) = Decidable.decide ((↑a_4.fst : Int) < (50 : Int)) ∧
  (↑a_4.fst : Int) = (↑a_4.fst : Int) ∧
  ((0 : Nat) = (0 : Nat) ∧
  a_4.snd.l.length = a_4.snd.l.length ∧
  a_4.snd.c2 = a_4.snd.c2) ∧
  (0 : Nat) = (0 : Nat) ∧
  Bool.false = Bool.false ∧
  Bool.true = Bool.true ∧
  Bool.false = Bool.false ∧
  ((0 : Nat) = (0 : Nat) ∧
  a.n = a.n ∧
  a.cap = a.cap) ∧
  toI (a.rows ((0 : Nat) + (↑a_4.fst : Int).toNat) (0 : Nat)) = toI (a.rows ((0 : Nat) + (↑a_4.fst : Int).toNat) (0 : Nat)) ∧
  toI (a.rows ((0 : Nat) + (↑a_4.fst : Int).toNat) (1 : Nat)) = toI (a.rows ((0 : Nat) + (↑a_4.fst : Int).toNat) (1 : Nat)) ∧
  toI (a.rows ((0 : Nat) + (↑a_4.fst : Int).toNat) (2 : Nat)) = toI (a.rows ((0 : Nat) + (↑a_4.fst : Int).toNat) (2 : Nat)) ∧
  toI (a.rows ((0 : Nat) + (↑a_4.fst : Int).toNat) (3 : Nat)) = toI (a.rows ((0 : Nat) + (↑a_4.fst : Int).toNat) (3 : Nat)) ∧
  toI (a.rows ((0 : Nat) + (↑a_4.fst : Int).toNat) (4 : Nat)) = toI (a.rows ((0 : Nat) + (↑a_4.fst : Int).toNat) (4 : Nat)) ∧
  cutB a_8.fst a_8.snd = cutB a_8.fst a_8.snd ∧
  toI (a.rows ((0 : Nat) + (↑a_4.fst : Int).toNat) (6 : Nat)) = toI (a.rows ((0 : Nat) + (↑a_4.fst : Int).toNat) (6 : Nat)) ∧
  toI (a.rows ((0 : Nat) + (↑a_4.fst : Int).toNat) (7 : Nat)) = toI (a.rows ((0 : Nat) + (↑a_4.fst : Int).toNat) (7 : Nat)) ∧
  cutB a_10.fst a_10.snd = cutB a_10.fst a_10.snd ∧
  toI (a.rows ((0 : Nat) + (↑a_4.fst : Int).toNat) (9 : Nat)) = toI (a.rows ((0 : Nat) + (↑a_4.fst : Int).toNat) (9 : Nat)) ∧
  cutB a_12.fst a_12.snd = cutB a_12.fst a_12.snd ∧
  toB (a.rows ((0 : Nat) + (↑a_4.fst : Int).toNat) (11 : Nat)) = toB (a.rows ((0 : Nat) + (↑a_4.fst : Int).toNat) (11 : Nat)) ∧
  (a_4.snd.l.length ≤ a_4.snd.l.length ∧
  RowsEq a_4.snd.l.length (13 : Nat) (encRows encCall (ownGo a_4.snd.l (toI (a.rows a_4.fst (2 : Nat))) (toI (a.rows a_4.fst (3 : Nat))) a_17).fst) (encRows encCall (ownGo a_4.snd.l (toI (a.rows a_4.fst (2 : Nat))) (toI (a.rows a_4.fst (3 : Nat))) a').fst)) ∧
  ((0 : Nat) = (0 : Nat) ∧
  a_4.snd.l.length = a_4.snd.l.length ∧
  a_4.snd.c1 = a_4.snd.c1) ∧
  (a.n ≤ a.n ∧
  RowsEq a.n (12 : Nat) a.rows a.rows) ∧
  (a_4.snd.l.length ≤ a_4.snd.l.length ∧
  RowsEq a_4.snd.l.length (13 : Nat) (encRows encCall a_4.snd.l) (encRows encCall a_4.snd.l)) ∧
  a' ≤ a_4.snd.l.length ∧
  a_4.snd.l.length - a' < a_4.snd.l.length - a_17)) ∧
  (((gl (ownGo a_4.snd.l (toI (a.rows a_4.fst (2 : Nat))) (toI (a.rows a_4.fst (3 : Nat))) a_17).fst ((0 : Nat) + (↑a_17 : Int).toNat)).node == toI (a.rows ((0 : Nat) + (↑a_4.fst : Int).toNat) (2 : Nat))) = Bool.false →
  InR IntKind.i64 ((↑a_17 : Int) + (1 : Int)) ∧
  ∃ (a' : Nat), (↑(ownGo a_4.snd.l (toI (a.rows a_4.fst (2 : Nat))) (toI (a.rows a_4.fst (3 : Nat))) a_17).snd : Int) = (↑(ownGo a_4.snd.l (toI (a.rows a_4.fst (2 : Nat))) (toI (a.rows a_4.fst (3 : Nat))) a').snd : Int) ∧
  (↑a_17 : Int) + (1 : Int) = (↑a' : Int) ∧
  (toI (a.rows ((0 : Nat) + (↑a_4.fst : Int).toNat) (0 : Nat)) == (1 : Int)) = (toI (a.rows ((0 : Nat) + (↑a_4.fst : Int).toNat) (0 : Nat)) == (1 : Int)) ∧
  (toI (a.rows ((0 : Nat) + (↑a_4.fst : Int).toNat) (0 : Nat)) == (0 : Int)) = (toI (a.rows ((0 : Nat) + (↑a_4.fst : Int).toNat) (0 : Nat)) == (0 : Int)) ∧
  toI (a.rows ((0 : Nat) + (↑a_4.fst : Int).toNat) (0 : Nat)) = toI (a.rows ((0 : Nat) + (↑a_4.fst : Int).toNat) (0 : Nat)) ∧
  (0 : Nat) = (0 : Nat) ∧
  Decidable.decide ((↑a_4.fst : Int) < (50 : Int)) = Decidable.decide ((↑a_4.fst : Int) < (50 : Int)) ∧
  (↑a_4.fst : Int) = (↑a_4.fst : Int) ∧
  ((0 : Nat) = (0 : Nat) ∧
  a_4.snd.l.length = a_4.snd.l.length ∧
  a_4.snd.c2 = a_4.snd.c2) ∧
  (0 : Nat) = (0 : Nat) ∧
  Bool.false = Bool.false ∧
  Bool.true = Bool.true ∧
  Bool.false = Bool.false ∧
  ((0 : Nat) = (0 : Nat) ∧
  a.n = a.n ∧
  a.cap = a.cap) ∧
  toI (a.rows ((0 : Nat) + (↑a_4.fst : Int).toNat) (0 : Nat)) = toI (a.rows ((0 : Nat) + (↑a_4.fst : Int).toNat) (0 : Nat)) ∧
  toI (a.rows ((0 : Nat) + (↑a_4.fst : Int).toNat) (1 : Nat)) = toI (a.rows ((0 : Nat) + (↑a_4.fst : Int).toNat) (1 : Nat)) ∧
  toI (a.rows ((0 : Nat) + (↑a_4.fst : Int).toNat) (2 : Nat)) = toI (a.rows ((0 : Nat) + (↑a_4.fst : Int).toNat) (2 : Nat)) ∧
  toI (a.rows ((0 : Nat) + (↑a_4.fst : Int).toNat) (3 : Nat)) = toI (a.rows ((0 : Nat) + (↑a_4.fst : Int).toNat) (3 : Nat)) ∧
  toI (a.rows ((0 : Nat) + (↑a_4.fst : Int).toNat) (4 : Nat)) = toI (a.rows ((0 : Nat) + (↑a_4.fst : Int).toNat) (4 : Nat)) ∧
  cutB a_8.fst a_8.snd = cutB a_8.fst a_8.snd ∧
  toI (a.rows ((0 : Nat) + (↑a_4.fst : Int).toNat) (6 : Nat)) = toI (a.rows ((0 : Nat) + (↑a_4.fst : Int).toNat) (6 : Nat)) ∧
  toI (a.rows ((0 : Nat) + (↑a_4.fst : Int).toNat) (7 : Nat)) = toI (a.rows ((0 : Nat) + (↑a_4.fst : Int).toNat) (7 : Nat)) ∧
  cutB a_10.fst a_10.snd = cutB a_10.fst a_10.snd ∧
  toI (a.rows ((0 : Nat) + (↑a_4.fst : Int).toNat) (9 : Nat)) = toI (a.rows ((0 : Nat) + (↑a_4.fst : Int).toNat) (9 : Nat)) ∧
  cutB a_12.fst a_12.snd = cutB a_12.fst a_12.snd ∧
  toB (a.rows ((0 : Nat) + (↑a_4.fst : Int).toNat) (11 : Nat)) = toB (a.rows ((0 : Nat) + (↑a_4.fst : Int).toNat) (11 : Nat)) ∧
  (a_4.snd.l.length ≤ a_4.snd.l.length ∧
  RowsEq a_4.snd.l.length (13 : Nat) (encRows encCall (ownGo a_4.snd.l (toI (a.rows a_4.fst (2 : Nat))) (toI (a.rows a_4.fst (3 : Nat))) a_17).fst) (encRows encCall (ownGo a_4.snd.l (toI (a.rows a_4.fst (2 : Nat))) (toI (a.rows a_4.fst (3 : Nat))) a').fst)) ∧
  ((0 : Nat) = (0 : Nat) ∧
  a_4.snd.l.length = a_4.snd.l.length ∧
  a_4.snd.c1 = a_4.snd.c1) ∧
  (a.n ≤ a.n ∧
  RowsEq a.n (12 : Nat) a.rows a.rows) ∧
  (a_4.snd.l.length ≤ a_4.snd.l.length ∧
  RowsEq a_4.snd.l.length (13 : Nat) (encRows encCall a_4.snd.l) (encRows encCall a_4.snd.l)) ∧
  a' ≤ a_4.snd.l.length ∧
  a_4.snd.l.length - a' < a_4.snd.l.length - a_17))) ∧
  (Decidable.decide ((↑a_17 : Int) < (↑a_4.snd.l.length : Int)) = Bool.false →
  InR IntKind.i64 (toI (a.rows ((0 : Nat) + (↑a_4.fst : Int).toNat) (2 : Nat))) →
  InR IntKind.i64 (toI (a.rows ((0 : Nat) + (↑a_4.fst : Int).toNat) (3 : Nat))) →
  ∃ (a_22 : DropA), (0 : Nat) = (0 : Nat) ∧
  toI (a.rows ((0 : Nat) + (↑a_4.fst : Int).toNat) (2 : Nat)) = a_22.node ∧
  toI (a.rows ((0 : Nat) + (↑a_4.fst : Int).toNat) (3 : Nat)) = a_22.pos ∧
  ((0 : Nat) = (0 : Nat) ∧
  a_4.snd.l.length = a_22.l.length ∧
  a_4.snd.c1 = a_22.cap) ∧
  (a_22.l.length ≤ a_4.snd.l.length ∧
  RowsEq a_22.l.length (13 : Nat) (encRows encCall a_4.snd.l) (encRows encCall a_22.l)) ∧
  a_22.l.length < (1000 : Nat) ∧
  ∀ (b : Unit), True →
  (((↑(dropGo a_22.l a_22.node a_22.pos a_22.l.length).snd : Int) != (↑(ownGo a_4.snd.l (toI (a.rows a_4.fst (2 : Nat))) (toI (a.rows a_4.fst (3 : Nat))) a_17).snd : Int)) = Bool.true →
  ∃ (b : Unit), Bool.false = Bool.true ∧
  True ∧
  True) ∧
  (((↑(dropGo a_22.l a_22.node a_22.pos a_22.l.length).snd : Int) != (↑(ownGo a_4.snd.l (toI (a.rows a_4.fst (2 : Nat))) (toI (a.rows a_4.fst (3 : Nat))) a_17).snd : Int)) = Bool.false →
  ∃ (a_25 : St), ((0 : Nat) = (0 : Nat) ∧
  a_4.snd.l.length = a_25.l.length ∧
  a_4.snd.c2 = a_25.c2) ∧
  (0 : Nat) = (0 : Nat) ∧
  Decidable.decide ((↑a_4.fst : Int) < (50 : Int)) = Decidable.decide ((↑a_4.fst : Int) < (50 : Int)) ∧
  (↑a_4.fst : Int) = (↑a_4.fst : Int) ∧
  (0 : Nat) = (0 : Nat) ∧
  Bool.false = Bool.false ∧
  Bool.true = Bool.true ∧
  Bool.false = Bool.false ∧
  ((0 : Nat) = (0 : Nat) ∧
  a.n = a.n ∧
  a.cap = a.cap) ∧
  toI (a.rows ((0 : Nat) + (↑a_4.fst : Int).toNat) (0 : Nat)) = toI (a.rows ((0 : Nat) + (↑a_4.fst : Int).toNat) (0 : Nat)) ∧
  toI (a.rows ((0 : Nat) + (↑a_4.fst : Int).toNat) (1 : Nat)) = toI (a.rows ((0 : Nat) + (↑a_4.fst : Int).toNat) (1 : Nat)) ∧
  toI (a.rows ((0 : Nat) + (↑a_4.fst : Int).toNat) (2 : Nat)) = toI (a.rows ((0 : Nat) + (↑a_4.fst : Int).toNat) (2 : Nat)) ∧
  toI (a.rows ((0 : Nat) + (↑a_4.fst : Int).toNat) (3 : Nat)) = toI (a.rows ((0 : Nat) + (↑a_4.fst : Int).toNat) (3 : Nat)) ∧
  toI (a.rows ((0 : Nat) + (↑a_4.fst : Int).toNat) (4 : Nat)) = toI (a.rows ((0 : Nat) + (↑a_4.fst : Int).toNat) (4 : Nat)) ∧
  cutB a_8.fst a_8.snd = cutB a_8.fst a_8.snd ∧
  toI (a.rows ((0 : Nat) + (↑a_4.fst : Int).toNat) (6 : Nat)) = toI (a.rows ((0 : Nat) + (↑a_4.fst : Int).toNat) (6 : Nat)) ∧
  toI (a.rows ((0 : Nat) + (↑a_4.fst : Int).toNat) (7 : Nat)) = toI (a.rows ((0 : Nat) + (↑a_4.fst : Int).toNat) (7 : Nat)) ∧
  cutB a_10.fst a_10.snd = cutB a_10.fst a_10.snd ∧
  toI (a.rows ((0 : Nat) + (↑a_4.fst : Int).toNat) (9 : Nat)) = toI (a.rows ((0 : Nat) + (↑a_4.fst : Int).toNat) (9 : Nat)) ∧
  cutB a_12.fst a_12.snd = cutB a_12.fst a_12.snd ∧
  toB (a.rows ((0 : Nat) + (↑a_4.fst : Int).toNat) (11 : Nat)) = toB (a.rows ((0 : Nat) + (↑a_4.fst : Int).toNat) (11 : Nat)) ∧
  (a_25.l.length ≤ a_4.snd.l.length ∧
  RowsEq a_25.l.length (13 : Nat) (encRows encCall (ownGo a_4.snd.l (toI (a.rows a_4.fst (2 : Nat))) (toI (a.rows a_4.fst (3 : Nat))) a_17).fst) (encRows encCall a_25.l)) ∧
  ((0 : Nat) = (0 : Nat) ∧
  (dropGo a_22.l a_22.node a_22.pos a_22.l.length).fst.length = a_25.l.length ∧
  a_22.cap = a_25.c1) ∧
  (a.n ≤ a.n ∧
  RowsEq a.n (12 : Nat) a.rows a.rows) ∧
  (a_25.l.length ≤ (dropGo a_22.l a_22.node a_22.pos a_22.l.length).fst.length ∧
  RowsEq a_25.l.length (13 : Nat) (encRows encCall (dropGo a_22.l a_22.node a_22.pos a_22.l.length).fst) (encRows encCall a_25.l)) ∧
  (a_25.l.length ≤ a_4.fst + (1 : Nat) ∧
  ids a_25.l) ∧
  True))))) ∧
  ∀ (a_14 : St), a_14.l.length ≤ a_4.fst + (1 : Nat) ∧
  ids a_14.l →
  (∃ (a_16 : Nat), (0 : Int) = (↑(openN (List.take a_16 a_14.l)) : Int) ∧
  (0 : Int) = (↑a_16 : Int) ∧
  ((0 : Nat) = (0 : Nat) ∧
  a_14.l.length = a_14.l.length ∧
  a_14.c2 = a_14.c2) ∧
  (0 : Nat) = (0 : Nat) ∧
  Decidable.decide ((↑a_4.fst : Int) < (50 : Int)) = Decidable.decide ((↑a_4.fst : Int) < (50 : Int)) ∧
  (↑a_4.fst : Int) = (↑a_4.fst : Int) ∧
  (0 : Nat) = (0 : Nat) ∧
  Bool.false = Bool.false ∧
  Bool.true = Bool.true ∧
  Bool.false = Bool.false ∧
  ((0 : Nat) = (0 : Nat) ∧
  a.n = a.n ∧
  a.cap = a.cap) ∧
  toI (a.rows ((0 : Nat) + (↑a_4.fst : Int).toNat) (0 : Nat)) = toI (a.rows ((0 : Nat) + (↑a_4.fst : Int).toNat) (0 : Nat)) ∧
  toI (a.rows ((0 : Nat) + (↑a_4.fst : Int).toNat) (1 : Nat)) = toI (a.rows ((0 : Nat) + (↑a_4.fst : Int).toNat) (1 : Nat)) ∧
  toI (a.rows ((0 : Nat) + (↑a_4.fst : Int).toNat) (2 : Nat)) = toI (a.rows ((0 : Nat) + (↑a_4.fst : Int).toNat) (2 : Nat)) ∧
  toI (a.rows ((0 : Nat) + (↑a_4.fst : Int).toNat) (3 : Nat)) = toI (a.rows ((0 : Nat) + (↑a_4.fst : Int).toNat) (3 : Nat)) ∧
  toI (a.rows ((0 : Nat) + (↑a_4.fst : Int).toNat) (4 : Nat)) = toI (a.rows ((0 : Nat) + (↑a_4.fst : Int).toNat) (4 : Nat)) ∧
  cutB a_8.fst a_8.snd = cutB a_8.fst a_8.snd ∧
  toI (a.rows ((0 : Nat) + (↑a_4.fst : Int).toNat) (6 : Nat)) = toI (a.rows ((0 : Nat) + (↑a_4.fst : Int).toNat) (6 : Nat)) ∧
  toI (a.rows ((0 : Nat) + (↑a_4.fst : Int).toNat) (7 : Nat)) = toI (a.rows ((0 : Nat) + (↑a_4.fst : Int).toNat) (7 : Nat)) ∧
  cutB a_10.fst a_10.snd = cutB a_10.fst a_10.snd ∧
  toI (a.rows ((0 : Nat) + (↑a_4.fst : Int).toNat) (9 : Nat)) = toI (a.rows ((0 : Nat) + (↑a_4.fst : Int).toNat) (9 : Nat)) ∧
  cutB a_12.fst a_12.snd = cutB a_12.fst a_12.snd ∧
  toB (a.rows ((0 : Nat) + (↑a_4.fst : Int).toNat) (11 : Nat)) = toB (a.rows ((0 : Nat) + (↑a_4.fst : Int).toNat) (11 : Nat)) ∧
  (a_14.l.length ≤ a_14.l.length ∧
  RowsEq a_14.l.length (13 : Nat) (encRows encCall a_14.l) (encRows encCall a_14.l)) ∧
  ((0 : Nat) = (0 : Nat) ∧
  a_14.l.length = a_14.l.length ∧
  a_14.c1 = a_14.c1) ∧
  (a.n ≤ a.n ∧
  RowsEq a.n (12 : Nat) a.rows a.rows) ∧
  (a_14.l.length ≤ a_14.l.length ∧
  RowsEq a_14.l.length (13 : Nat) (encRows encCall a_14.l) (encRows encCall a_14.l)) ∧
  a_16 ≤ a_14.l.length ∧
  True) ∧
  ∀ (a_16 : Nat), a_16 ≤ a_14.l.length →
  (Decidable.decide ((↑a_16 : Int) < (↑a_14.l.length : Int)) = Bool.true →
  ((0 : Int) ≤ (↑a_16 : Int) ∧
  (↑a_16 : Int) < (↑a_14.l.length : Int)) ∧
  (0 : Nat) + (↑a_16 : Int).toNat < a_14.l.length ∧
  ((!(gl a_14.l ((0 : Nat) + (↑a_16 : Int).toNat)).done) = Bool.true →
  InR IntKind.i64 ((↑(openN (List.take a_16 a_14.l)) : Int) + (1 : Int)) ∧
  InR IntKind.i64 ((↑a_16 : Int) + (1 : Int)) ∧
  ∃ (a' : Nat), (↑(openN (List.take a_16 a_14.l)) : Int) + (1 : Int) = (↑(openN (List.take a' a_14.l)) : Int) ∧
  (↑a_16 : Int) + (1 : Int) = (↑a' : Int) ∧
  ((0 : Nat) = (0 : Nat) ∧
  a_14.l.length = a_14.l.length ∧
  a_14.c2 = a_14.c2) ∧
  (0 : Nat) = (0 : Nat) ∧
  Decidable.decide ((↑a_4.fst : Int) < (50 : Int)) = Decidable.decide ((↑a_4.fst : Int) < (50 : Int)) ∧
  (↑a_4.fst : Int) = (↑a_4.fst : Int) ∧
  (0 : Nat) = (0 : Nat) ∧
  Bool.false = Bool.false ∧
  Bool.true = Bool.true ∧
  Bool.false = Bool.false ∧
  ((0 : Nat) = (0 : Nat) ∧
  a.n = a.n ∧
  a.cap = a.cap) ∧
  toI (a.rows ((0 : Nat) + (↑a_4.fst : Int).toNat) (0 : Nat)) = toI (a.rows ((0 : Nat) + (↑a_4.fst : Int).toNat) (0 : Nat)) ∧
  toI (a.rows ((0 : Nat) + (↑a_4.fst : Int).toNat) (1 : Nat)) = toI (a.rows ((0 : Nat) + (↑a_4.fst : Int).toNat) (1 : Nat)) ∧
  toI (a.rows ((0 : Nat) + (↑a_4.fst : Int).toNat) (2 : Nat)) = toI (a.rows ((0 : Nat) + (↑a_4.fst : Int).toNat) (2 : Nat)) ∧
  toI (a.rows ((0 : Nat) + (↑a_4.fst : Int).toNat) (3 : Nat)) = toI (a.rows ((0 : Nat) + (↑a_4.fst : Int).toNat) (3 : Nat)) ∧
  toI (a.rows ((0 : Nat) + (↑a_4.fst : Int).toNat) (4 : Nat)) = toI (a.rows ((0 : Nat) + (↑a_4.fst : Int).toNat) (4 : Nat)) ∧
  cutB a_8.fst a_8.snd = cutB a_8.fst a_8.snd ∧
  toI (a.rows ((0 : Nat) + (↑a_4.fst : Int).toNat) (6 : Nat)) = toI (a.rows ((0 : Nat) + (↑a_4.fst : Int).toNat) (6 : Nat)) ∧
  toI (a.rows ((0 : Nat) + (↑a_4.fst : Int).toNat) (7 : Nat)) = toI (a.rows ((0 : Nat) + (↑a_4.fst : Int).toNat) (7 : Nat)) ∧
  cutB a_10.fst a_10.snd = cutB a_10.fst a_10.snd ∧
  toI (a.rows ((0 : Nat) + (↑a_4.fst : Int).toNat) (9 : Nat)) = toI (a.rows ((0 : Nat) + (↑a_4.fst : Int).toNat) (9 : Nat)) ∧
  cutB a_12.fst a_12.snd = cutB a_12.fst a_12.snd ∧
  toB (a.rows ((0 : Nat) + (↑a_4.fst : Int).toNat) (11 : Nat)) = toB (a.rows ((0 : Nat) + (↑a_4.fst : Int).toNat) (11 : Nat)) ∧
  (a_14.l.length ≤ a_14.l.length ∧
  RowsEq a_14.l.length (13 : Nat) (encRows encCall a_14.l) (encRows encCall a_14.l)) ∧
  ((0 : Nat) = (0 : Nat) ∧
  a_14.l.length = a_14.l.length ∧
  a_14.c1 = a_14.c1) ∧
  (a.n ≤ a.n ∧
  RowsEq a.n (12 : Nat) a.rows a.rows) ∧
  (a_14.l.length ≤ a_14.l.length ∧
  RowsEq a_14.l.length (13 : Nat) (encRows encCall a_14.l) (encRows encCall a_14.l)) ∧
  a' ≤ a_14.l.length ∧
  a_14.l.length - a' < a_14.l.length - a_16) ∧
  ((!(gl a_14.l ((0 : Nat) + (↑a_16 : Int).toNat)).done) = Bool.false →
  InR IntKind.i64 ((↑a_16 : Int) + (1 : Int)) ∧
  ∃ (a' : Nat), (↑(openN (List.take a_16 a_14.l)) : Int) = (↑(openN (List.take a' a_14.l)) : Int) ∧
  (↑a_16 : Int) + (1 : Int) = (↑a' : Int) ∧
  ((0 : Nat) = (0 : Nat) ∧
  a_14.l.length = a_14.l.length ∧
  a_14.c2 = a_14.c2) ∧
  (0 : Nat) = (0 : Nat) ∧
  Decidable.decide ((↑a_4.fst : Int) < (50 : Int)) = Decidable.decide ((↑a_4.fst : Int) < (50 : Int)) ∧
  (↑a_4.fst : Int) = (↑a_4.fst : Int) ∧
  (0 : Nat) = (0 : Nat) ∧
  Bool.false = Bool.false ∧
  Bool.true = Bool.true ∧
  Bool.false = Bool.false ∧
  ((0 : Nat) = (0 : Nat) ∧
  a.n = a.n ∧
  a.cap = a.cap) ∧
  toI (a.rows ((0 : Nat) + (↑a_4.fst : Int).toNat) (0 : Nat)) = toI (a.rows ((0 : Nat) + (↑a_4.fst : Int).toNat) (0 : Nat)) ∧
  toI (a.rows ((0 : Nat) + (↑a_4.fst : Int).toNat) (1 : Nat)) = toI (a.rows ((0 : Nat) + (↑a_4.fst : Int).toNat) (1 : Nat)) ∧
  toI (a.rows ((0 : Nat) + (↑a_4.fst : Int).toNat) (2 : Nat)) = toI (a.rows ((0 : Nat) + (↑a_4.fst : Int).toNat) (2 : Nat)) ∧
  toI (a.rows ((0 : Nat) + (↑a_4.fst : Int).toNat) (3 : Nat)) = toI (a.rows ((0 : Nat) + (↑a_4.fst : Int).toNat) (3 : Nat)) ∧
  toI (a.rows ((0 : Nat) + (↑a_4.fst : Int).toNat) (4 : Nat)) = toI (a.rows ((0 : Nat) + (↑a_4.fst : Int).toNat) (4 : Nat)) ∧
  cutB a_8.fst a_8.snd = cutB a_8.fst a_8.snd ∧
  toI (a.rows ((0 : Nat) + (↑a_4.fst : Int).toNat) (6 : Nat)) = toI (a.rows ((0 : Nat) + (↑a_4.fst : Int).toNat) (6 : Nat)) ∧
  toI (a.rows ((0 : Nat) + (↑a_4.fst : Int).toNat) (7 : Nat)) = toI (a.rows ((0 : Nat) + (↑a_4.fst : Int).toNat) (7 : Nat)) ∧
  cutB a_10.fst a_10.snd = cutB a_10.fst a_10.snd ∧
  toI (a.rows ((0 : Nat) + (↑a_4.fst : Int).toNat) (9 : Nat)) = toI (a.rows ((0 : Nat) + (↑a_4.fst : Int).toNat) (9 : Nat)) ∧
  cutB a_12.fst a_12.snd = cutB a_12.fst a_12.snd ∧
  toB (a.rows ((0 : Nat) + (↑a_4.fst : Int).toNat) (11 : Nat)) = toB (a.rows ((0 : Nat) + (↑a_4.fst : Int).toNat) (11 : Nat)) ∧
  (a_14.l.length ≤ a_14.l.length ∧
  RowsEq a_14.l.length (13 : Nat) (encRows encCall a_14.l) (encRows encCall a_14.l)) ∧
  ((0 : Nat) = (0 : Nat) ∧
  a_14.l.length = a_14.l.length ∧
  a_14.c1 = a_14.c1) ∧
  (a.n ≤ a.n ∧
  RowsEq a.n (12 : Nat) a.rows a.rows) ∧
  (a_14.l.length ≤ a_14.l.length ∧
  RowsEq a_14.l.length (13 : Nat) (encRows encCall a_14.l) (encRows encCall a_14.l)) ∧
  a' ≤ a_14.l.length ∧
  a_14.l.length - a' < a_14.l.length - a_16)) ∧
  (Decidable.decide ((↑a_16 : Int) < (↑a_14.l.length : Int)) = Bool.false →
  ∃ (a_19 : AllA), (0 : Nat) = (0 : Nat) ∧
  ((0 : Nat) = (0 : Nat) ∧
  a_14.l.length = a_19.l.length ∧
  a_14.c1 = a_19.cap) ∧
  (a_19.l.length ≤ a_14.l.length ∧
  RowsEq a_19.l.length (13 : Nat) (encRows encCall a_14.l) (encRows encCall a_19.l)) ∧
  a_19.l.length < (1000 : Nat) ∧
  ∀ (b : Unit), True →
  (((↑(openN a_19.l) : Int) != (↑(openN (List.take a_16 a_14.l)) : Int)) = Bool.true →
  ∃ (b : Unit), Bool.false = Bool.true ∧
  True ∧
  True) ∧
  (((↑(openN a_19.l) : Int) != (↑(openN (List.take a_16 a_14.l)) : Int)) = Bool.false →
  InR IntKind.i64 ((↑a_4.fst : Int) + (1 : Int)) ∧
  ∃ (a' : Nat × St), (↑a_4.fst : Int) + (1 : Int) = (↑a'.fst : Int) ∧
  ((0 : Nat) = (0 : Nat) ∧
  a_14.l.length = a'.snd.l.length ∧
  a_14.c2 = a'.snd.c2) ∧
  (0 : Nat) = (0 : Nat) ∧
  Bool.false = Bool.false ∧
  Bool.true = Bool.true ∧
  Bool.false = Bool.false ∧
  ((0 : Nat) = (0 : Nat) ∧
  a.n = a.n ∧
  a.cap = a.cap) ∧
  (a'.snd.l.length ≤ a_14.l.length ∧
  RowsEq a'.snd.l.length (13 : Nat) (encRows encCall a_14.l) (encRows encCall a'.snd.l)) ∧
  ((0 : Nat) = (0 : Nat) ∧
  a_14.l.length = a'.snd.l.length ∧
  a_14.c1 = a'.snd.c1) ∧
  (a.n ≤ a.n ∧
  RowsEq a.n (12 : Nat) a.rows a.rows) ∧
  (a'.snd.l.length ≤ a_14.l.length ∧
  RowsEq a'.snd.l.length (13 : Nat) (encRows encCall a_14.l) (encRows encCall a'.snd.l)) ∧
  (a'.fst ≤ a.n ∧
  a'.fst ≤ (50 : Nat) ∧
  a'.snd.l.length ≤ a'.fst ∧
  ids a'.snd.l) ∧
  (50 : Nat) - a'.fst < (50 : Nat) - a_4.fst))) ∧
  (Decidable.decide ((↑a_4.fst : Int) < (50 : Int)) = Bool.false →
  ∃ (a : AllA), (0 : Nat) = (0 : Nat) ∧
  ((0 : Nat) = (0 : Nat) ∧
  a_4.snd.l.length = a.l.length ∧
  a_4.snd.c1 = a.cap) ∧
  (a.l.length ≤ a_4.snd.l.length ∧
  RowsEq a.l.length (13 : Nat) (encRows encCall a_4.snd.l) (encRows encCall a.l)) ∧
  a.l.length < (1000 : Nat) ∧
  ∀ (b : Nat), True →
  ∃ (a_8 : OfA), ((0 : Nat) = (0 : Nat) ∧
  a.l.length = a_8.l.length ∧
  b = a_8.cap) ∧
  (a_8.l.length ≤ a.l.length ∧
  RowsEq a_8.l.length (13 : Nat) (encRows encCall a.l) (encRows encCall a_8.l)) ∧
  a_8.l.length < (1000 : Nat) ∧
  ∀ (b : Nat), True →
  ∃ (a : EqA), ((0 : Nat) = (0 : Nat) ∧
  a_8.l.length = a.l.length ∧
  b = a.c1) ∧
  ((0 : Nat) = (0 : Nat) ∧
  a_4.snd.l.length = a.l.length ∧
  a_4.snd.c2 = a.c2) ∧
  (a.l.length ≤ a_8.l.length ∧
  RowsEq a.l.length (13 : Nat) (encRows encCall a_8.l) (encRows encCall a.l)) ∧
  (a.l.length ≤ a_4.snd.l.length ∧
  RowsEq a.l.length (13 : Nat) (encRows encCall a_4.snd.l) (encRows encCall a.l)) ∧
  a.l.length < (1000 : Nat) ∧
  ∀ (b : Unit), True →
  ∃ (b : Unit), Bool.true = Bool.true ∧
  True ∧
  True)) ∧
  (Decidable.decide ((↑a_4.fst : Int) < (↑a.n : Int)) = Bool.false →
  ∃ (a : AllA), (0 : Nat) = (0 : Nat) ∧
  ((0 : Nat) = (0 : Nat) ∧
  a_4.snd.l.length = a.l.length ∧
  a_4.snd.c1 = a.cap) ∧
  (a.l.length ≤ a_4.snd.l.length ∧
  RowsEq a.l.length (13 : Nat) (encRows encCall a_4.snd.l) (encRows encCall a.l)) ∧
  a.l.length < (1000 : Nat) ∧
  ∀ (b : Nat), True →
  ∃ (a_7 : OfA), ((0 : Nat) = (0 : Nat) ∧
  a.l.length = a_7.l.length ∧
  b = a_7.cap) ∧
  (a_7.l.length ≤ a.l.length ∧
  RowsEq a_7.l.length (13 : Nat) (encRows encCall a.l) (encRows encCall a_7.l)) ∧
  a_7.l.length < (1000 : Nat) ∧
  ∀ (b : Nat), True →
  ∃ (a : EqA), ((0 : Nat) = (0 : Nat) ∧
  a_7.l.length = a.l.length ∧
  b = a.c1) ∧
  ((0 : Nat) = (0 : Nat) ∧
  a_4.snd.l.length = a.l.length ∧
  a_4.snd.c2 = a.c2) ∧
  (a.l.length ≤ a_7.l.length ∧
  RowsEq a.l.length (13 : Nat) (encRows encCall a_7.l) (encRows encCall a.l)) ∧
  (a.l.length ≤ a_4.snd.l.length ∧
  RowsEq a.l.length (13 : Nat) (encRows encCall a_4.snd.l) (encRows encCall a.l)) ∧
  a.l.length < (1000 : Nat) ∧
  ∀ (b : Unit), True →
  ∃ (b : Unit), Bool.true = Bool.true ∧
  True ∧
  True)) (by kernel_rfl) (by
  intro a h
  refine ⟨(), trivial, fun _ _ => ⟨⟨(0, ⟨[], 0, 0⟩), by simp [ids_nil]⟩, fun x hx => ?_⟩⟩
  obtain ⟨i, l, c1, c2⟩ := x
  obtain ⟨hi1, hi2, hi3, hi4⟩ := hx
  dsimp only at *
  have ho1 := fun k => ownGo_length l (toI (a.rows i 2)) (toI (a.rows i 3)) k
  have ho2 := fun k => ownGo_le l (toI (a.rows i 2)) (toI (a.rows i 3)) k
  have he := ownGo_eq (node := toI (a.rows i 2)) (pos := toI (a.rows i 3)) hi4 l.length (Nat.le_refl _)
  repeat' (first | intro _ | apply And.intro | apply Exists.intro () | apply Exists.intro ((_, _) : ByteArray × Int) | apply Exists.intro (BeginA.mk _ _ _ _ _ _) | apply Exists.intro (EndA.mk _ _ (ReplyR.mk _ _ _ _ _ _) _) | apply Exists.intro (DropA.mk _ _ _ _) | apply Exists.intro (AllA.mk _ _) | apply Exists.intro (OfA.mk _ _) | apply Exists.intro (EqA.mk _ _ _) | apply Exists.intro (St.mk _ _ _) | apply Exists.intro ((i + 1, St.mk _ _ _) : Nat × St) | apply Exists.intro (_ : Nat))
  all_goals (try with_reducible exact cast0)
  all_goals (try with_reducible exact cast1 _)
  all_goals (try with_reducible exact RowsEq.refl _ _ _)
  all_goals (try with_reducible rfl)
  all_goals (try dsimp only)
  all_goals (try exact trivial)
  all_goals (try simp only [Int.toNat_natCast, Nat.zero_add, decide_eq_true_eq, decide_eq_false_iff_not] at *)
  all_goals (try omega)
  all_goals (try (simp only [endL_length, ownGo_length, dropGo_length, List.length_append, List.length_singleton]; done))
  all_goals (try (simp only [endL_length, ownGo_length, dropGo_length, List.length_append, List.length_singleton]; omega))
  all_goals (try (first | exact ids_endL ‹_› | exact ids_dropGo ‹_› _ | exact ids_new ‹_›))
  all_goals (try (exfalso; grind [endOk]))
  all_goals (try (refine rowsEq_endL_no ?_; grind [endOk]))
  all_goals (try exact .push rfl (by simp) rfl)
  all_goals (try exact ids_new (a := ⟨_, _, _, _, _, _⟩) hi4)
  all_goals (try (with_reducible refine rowsEq_endL (r := ⟨_, _, _, _, _, _⟩) ?_; first | assumption | (simp_all; done) | grind [endOk]))
  all_goals (try (rw [ownGo_eq hi4 _ (by omega)]; exact ids_dropGo hi4 _))
  all_goals (try (rw [← he]; refine .of_eq (congrArg (fun k => encRows encCall (ownGo l (toI (a.rows i 2)) (toI (a.rows i 3)) k).1) ?_); omega))
  all_goals (try with_reducible exact .refl _ _ _)
  all_goals (try (rw [ownGo]; exact .refl _ _ _))
  all_goals (try (simp only [List.take_zero]; rfl))
  all_goals (try (rw [ownGo_succ]; refine rowsEq_own (by rw [ho1]; omega) ?_; simp_all))
  all_goals (try (rw [ownGo_succ]; simp_all; done))
  all_goals (try (rw [openN_succ (by omega)]; simp_all; done))
  all_goals (try (with_reducible refine openN_bound ?_; omega))
  all_goals (try grind))
theorem instClientAll : ∀ ads, okADs [.slc 31 ksOp] ads → ∃ a : OpsA, cClientAll.pre a ∧ cClientAll.args a = svs 0 ads ∧ cClientAll.ro a = chs 0 [.slc 31 ksOp] ads ∧ cClientAll.m = slcs ads := by
  rintro ads ⟨d, r, rfl, ⟨n, cap, rows, rfl, h1, h2, h3⟩, rfl⟩
  exact ⟨⟨n, cap, rows⟩, ⟨h1, h2⟩, rfl, rfl, rfl⟩
end Go.Proofs.Ytilphhafffakoaa
