/-
  The layer client's functions, as what they do to a list of calls; no condition but that lists are short.
-/
import Derived.Test.YtilphhafffakoaaK
namespace Go.Proofs.Ytilphhafffakoaa
open Go.Sx
set_option maxRecDepth 100000

structure ReplyR where
  id : Int
  op : Int
  key : ByteArray
  err : Int
  val : ByteArray
  has : Bool
  deriving Inhabited
structure CallR where
  id : Int
  op : Int
  key : ByteArray
  node : Int
  frm : Int
  to : Int
  done : Bool
  r : ReplyR
  deriving Inhabited
def encCall (c : CallR) : List Value := [.int .i64 c.id, .int .i64 c.op, .string c.key, .int .i64 c.node, .int .i64 c.frm, .int .i64 c.to, .bool c.done,
  .int .i64 c.r.id, .int .i64 c.r.op, .string c.r.key, .int .i64 c.r.err, .string c.r.val, .bool c.r.has]
def encReplyA (r : ReplyR) : List A := [.int .i64 r.id, .int .i64 r.op, .str r.key, .int .i64 r.err, .str r.val, .bool r.has]
def zeroReply : ReplyR := ⟨0, 0, .empty, 0, .empty, false⟩
def ksCall : List CK := [.int .i64, .int .i64, .str, .int .i64, .int .i64, .int .i64, .bool, .int .i64, .int .i64, .str, .int .i64, .str, .bool]

/-- a text is cut -/
def cutB (s : ByteArray) (n : Int) : ByteArray := if n < s.size then s.extract 0 n.toNat else s
noncomputable def cCut : Con where
  α := ByteArray × Int
  β := Unit
  m := 0
  m' := 0
  pre := fun a => 0 ≤ a.2
  args := fun a => [.a (.str a.1), .a (.int .i64 a.2)]
  hp := fun _ => []
  ro := fun _ => []
  post := fun _ _ => True
  res := fun a _ => .a (.str (cutB a.1 a.2))
  hp' := fun _ _ => []

/-- a log's cells, its calls -/
def logHp (o a : Nat) (l : List CallR) (cap : Nat) : List (Nat × Chunk) := [(o, .obj 51 [.slc a 0 13 l.length cap]), (a, .arr 48 ksCall l.length (encRows encCall l))]

structure BeginA where
  l : List CallR
  cap : Nat
  op : Int
  key : ByteArray
  node : Int
  pos : Int
def newCall (a : BeginA) : CallR := ⟨a.l.length + 1, a.op, a.key, a.node, a.pos, 0, false, zeroReply⟩
noncomputable def cBegin : Con where
  α := BeginA
  β := Nat
  m := 2
  m' := 3
  pre := fun a => a.l.length < 1000
  args := fun a => [.a (.ptr 0 0 0 0), .a (.int .i64 a.op), .a (.str a.key), .a (.int .i64 a.node), .a (.int .i64 a.pos)]
  hp := fun a => logHp 0 1 a.l a.cap
  ro := fun _ => []
  post := fun _ _ => True
  res := fun a _ => .a (.int .i64 (a.l.length + 1))
  hp' := fun a cap => logHp 0 2 (a.l ++ [newCall a]) cap

set_option maxHeartbeats 4000000 in
theorem bodyCut : fnBody (Y Try.prog) [] 8 cCut fun _ => [] := fnBody.of (p :=
  ∀ (a : ByteArray × Int), (0 : Int) ≤ a.snd →
  (Decidable.decide (a.snd < (↑a.fst.size : Int)) = Bool.true →
  ((0 : Int) ≤ a.snd ∧
  a.snd ≤ (↑a.fst.size : Int)) ∧
  ∃ (b : Unit), a.fst.extract (0 : Nat) a.snd.toNat = cutB a.fst a.snd ∧
  True ∧
  True) ∧
  (Decidable.decide (a.snd < (↑a.fst.size : Int)) = Bool.false →
  ∃ (b : Unit), a.fst = cutB a.fst a.snd ∧
  True ∧
  True)) (by kernel_rfl) (by
  intro a h
  refine ⟨fun h1 => ?_, fun h1 => ⟨(), ?_, trivial, trivial⟩⟩
  · have h2 : a.2 < a.1.size := by simpa using h1
    exact ⟨by omega, (), by simp [cutB, h2], trivial, trivial⟩
  · have h2 : ¬ a.2 < a.1.size := by simpa using h1
    simp [cutB, h2])
set_option maxHeartbeats 4000000 in
theorem bodyBegin : fnBody (Y Try.prog) [] 9 cBegin fun _ => [] := fnBody.of (p :=
  ∀ (a : BeginA), a.l.length < (1000 : Nat) →
  InR IntKind.i64 ((↑a.l.length : Int) + (1 : Int)) ∧
  (0 : Nat) + a.l.length ≤ a.l.length ∧
  (1 : Nat) ≤ (1 : Nat) ∧
  (a.l.length + (1 : Nat)) * (128 : Nat) ≤ (140737488355328 : Nat) ∧
  ∀ (cap : Nat), a.l.length + (1 : Nat) ≤ cap →
  cap ≤ lenMax →
  (a.l.length + (1 : Nat) ≤ a.cap →
  cap = a.cap) →
  ∃ (b : Nat), (↑a.l.length : Int) + (1 : Int) = (↑a.l.length : Int) + (1 : Int) ∧
  ((0 : Nat) = (0 : Nat) ∧
  a.l.length + (1 : Nat) = (a.l ++ [newCall a]).length ∧
  cap = b) ∧
  ((a.l ++ [newCall a]).length ≤ a.l.length + (1 : Nat) ∧
  RowsEq (a.l ++ [newCall a]).length (13 : Nat) (appRows (encRows encCall a.l) (0 : Nat) a.l.length fun (i j : Nat) => flatRows (13 : Nat) [Value.int IntKind.i64 ((↑a.l.length : Int) + (1 : Int)), Value.int IntKind.i64 a.op, Value.string a.key, Value.int IntKind.i64 a.node, Value.int IntKind.i64 a.pos, Value.int IntKind.i64 (0 : Int), Value.bool Bool.false, Value.int IntKind.i64 (0 : Int), Value.int IntKind.i64 (0 : Int), Value.string { data := #[] }, Value.int IntKind.i64 (0 : Int), Value.string { data := #[] }, Value.bool Bool.false] ((0 : Nat) + i) j) (encRows encCall (a.l ++ [newCall a]))) ∧
  True ∧
  True) (by kernel_rfl) (by
  intro a h
  refine ⟨by simp only [InR]; omega, by omega, by omega, by omega, fun cap h1 h2 h3 => ⟨cap, rfl, ⟨rfl, by simp, rfl⟩, ⟨by simp, ?_⟩, trivial, trivial⟩⟩
  exact .push rfl (by simp) rfl)

/-! ### End -/

def endOk (l : List CallR) (r : ReplyR) : Bool := decide (1 ≤ r.id) && decide (r.id ≤ l.length) && (!(gl l (r.id - 1).toNat).done && ((gl l (r.id - 1).toNat).op == r.op && decide ((gl l (r.id - 1).toNat).key = r.key)))
def endC (c : CallR) (pos : Int) (r : ReplyR) : CallR := { c with done := true, to := pos, r := r }
def endL (l : List CallR) (r : ReplyR) (pos : Int) : List CallR := if endOk l r then l.set (r.id - 1).toNat (endC (gl l (r.id - 1).toNat) pos r) else l
theorem endL_length (l : List CallR) (r : ReplyR) (pos : Int) : (endL l r pos).length = l.length := by unfold endL; split <;> simp

/-- a call that ends, cell by cell -/
theorem rowsEq_endL {l : List CallR} {r : ReplyR} {pos : Int} {n : Nat} (h : endOk l r = true) :
    RowsEq n 13 (updR (updR (updR (encRows encCall l) (r.id - 1).toNat 6 [.bool true]) (r.id - 1).toNat 5 [.int .i64 pos]) (r.id - 1).toNat 7
      [.int .i64 r.id, .int .i64 r.op, .string r.key, .int .i64 r.err, .string r.val, .bool r.has]) (encRows encCall (endL l r pos)) := by
  have e : endL l r pos = l.set (r.id - 1).toNat (endC (gl l (r.id - 1).toNat) pos r) := by unfold endL; rw [if_pos h]
  rw [e]
  refine .set _ (by simp only [endOk, Bool.and_eq_true, decide_eq_true_eq] at h; omega) (fun i hi => by simp only [updR_other hi]) ?_
  simp only [updR_self]
  rfl

structure EndA where
  l : List CallR
  cap : Nat
  r : ReplyR
  pos : Int
noncomputable def cEnd : Con where
  α := EndA
  β := Unit
  m := 2
  m' := 2
  pre := fun a => a.l.length < 1000
  args := fun a => [.a (.ptr 0 0 0 0), .agg (encReplyA a.r), .a (.int .i64 a.pos)]
  hp := fun a => logHp 0 1 a.l a.cap
  ro := fun _ => []
  post := fun _ _ => True
  res := fun a _ => .a (.bool (endOk a.l a.r))
  hp' := fun a _ => logHp 0 1 (endL a.l a.r a.pos) a.cap
set_option maxHeartbeats 4000000 in
theorem bodyEnd : fnBody (Y Try.prog) [] 10 cEnd fun _ => [] := fnBody.of (p :=
  ∀ (a : EndA), a.l.length < (1000 : Nat) →
  InR IntKind.i64 a.r.id →
  (Decidable.decide (a.r.id < (1 : Int)) = Bool.true →
  ∃ (b : Unit), Bool.false = endOk a.l a.r ∧
  ((0 : Nat) = (0 : Nat) ∧
  a.l.length = (endL a.l a.r a.pos).length ∧
  a.cap = a.cap) ∧
  ((endL a.l a.r a.pos).length ≤ a.l.length ∧
  RowsEq (endL a.l a.r a.pos).length (13 : Nat) (encRows encCall a.l) (encRows encCall (endL a.l a.r a.pos))) ∧
  True ∧
  True) ∧
  (Decidable.decide (a.r.id < (1 : Int)) = Bool.false →
  InR IntKind.i64 a.r.id →
  (Decidable.decide ((↑a.l.length : Int) < a.r.id) = Bool.true →
  ∃ (b : Unit), Bool.false = endOk a.l a.r ∧
  ((0 : Nat) = (0 : Nat) ∧
  a.l.length = (endL a.l a.r a.pos).length ∧
  a.cap = a.cap) ∧
  ((endL a.l a.r a.pos).length ≤ a.l.length ∧
  RowsEq (endL a.l a.r a.pos).length (13 : Nat) (encRows encCall a.l) (encRows encCall (endL a.l a.r a.pos))) ∧
  True ∧
  True) ∧
  (Decidable.decide ((↑a.l.length : Int) < a.r.id) = Bool.false →
  InR IntKind.i64 a.r.id →
  InR IntKind.i64 (a.r.id - (1 : Int)) ∧
  ((0 : Int) ≤ a.r.id - (1 : Int) ∧
  a.r.id - (1 : Int) < (↑a.l.length : Int)) ∧
  (0 : Nat) + (a.r.id - (1 : Int)).toNat < a.l.length ∧
  ((gl a.l ((0 : Nat) + (a.r.id - (1 : Int)).toNat)).done = Bool.true →
  ∃ (b : Unit), Bool.false = endOk a.l a.r ∧
  ((0 : Nat) = (0 : Nat) ∧
  a.l.length = (endL a.l a.r a.pos).length ∧
  a.cap = a.cap) ∧
  ((endL a.l a.r a.pos).length ≤ a.l.length ∧
  RowsEq (endL a.l a.r a.pos).length (13 : Nat) (encRows encCall a.l) (encRows encCall (endL a.l a.r a.pos))) ∧
  True ∧
  True) ∧
  ((gl a.l ((0 : Nat) + (a.r.id - (1 : Int)).toNat)).done = Bool.false →
  (0 : Nat) + (a.r.id - (1 : Int)).toNat < a.l.length ∧
  (InR IntKind.i64 (gl a.l ((0 : Nat) + (a.r.id - (1 : Int)).toNat)).op →
  InR IntKind.i64 a.r.op →
  (((gl a.l ((0 : Nat) + (a.r.id - (1 : Int)).toNat)).op != a.r.op) = Bool.true →
  ∃ (b : Unit), Bool.false = endOk a.l a.r ∧
  ((0 : Nat) = (0 : Nat) ∧
  a.l.length = (endL a.l a.r a.pos).length ∧
  a.cap = a.cap) ∧
  ((endL a.l a.r a.pos).length ≤ a.l.length ∧
  RowsEq (endL a.l a.r a.pos).length (13 : Nat) (encRows encCall a.l) (encRows encCall (endL a.l a.r a.pos))) ∧
  True ∧
  True) ∧
  (((gl a.l ((0 : Nat) + (a.r.id - (1 : Int)).toNat)).op != a.r.op) = Bool.false →
  (0 : Nat) + (a.r.id - (1 : Int)).toNat < a.l.length ∧
  ((!Decidable.decide ((gl a.l ((0 : Nat) + (a.r.id - (1 : Int)).toNat)).key = a.r.key)) = Bool.true →
  ∃ (b : Unit), Bool.false = endOk a.l a.r ∧
  ((0 : Nat) = (0 : Nat) ∧
  a.l.length = (endL a.l a.r a.pos).length ∧
  a.cap = a.cap) ∧
  ((endL a.l a.r a.pos).length ≤ a.l.length ∧
  RowsEq (endL a.l a.r a.pos).length (13 : Nat) (encRows encCall a.l) (encRows encCall (endL a.l a.r a.pos))) ∧
  True ∧
  True) ∧
  ((!Decidable.decide ((gl a.l ((0 : Nat) + (a.r.id - (1 : Int)).toNat)).key = a.r.key)) = Bool.false →
  (0 : Nat) + (a.r.id - (1 : Int)).toNat < a.l.length ∧
  (0 : Nat) + (a.r.id - (1 : Int)).toNat < a.l.length ∧
  (0 : Nat) + (a.r.id - (1 : Int)).toNat < a.l.length ∧
  ∃ (b : Unit), Bool.true = endOk a.l a.r ∧
  ((0 : Nat) = (0 : Nat) ∧
  a.l.length = (endL a.l a.r a.pos).length ∧
  a.cap = a.cap) ∧
  ((endL a.l a.r a.pos).length ≤ a.l.length ∧
  RowsEq (endL a.l a.r a.pos).length (13 : Nat) (updR (updR (updR (encRows encCall a.l) ((0 : Nat) + (a.r.id - (1 : Int)).toNat) (6 : Nat) [Value.bool Bool.true]) ((0 : Nat) + (a.r.id - (1 : Int)).toNat) (5 : Nat) [Value.int IntKind.i64 a.pos]) ((0 : Nat) + (a.r.id - (1 : Int)).toNat) (7 : Nat) [Value.int IntKind.i64 a.r.id, Value.int IntKind.i64 a.r.op, Value.string a.r.key, Value.int IntKind.i64 a.r.err, Value.string a.r.val, Value.bool a.r.has]) (encRows encCall (endL a.l a.r a.pos))) ∧
  True ∧
  True))))))) (by kernel_rfl) (by
  intro a h
  have hl := endL_length a.l a.r a.pos
  have no : endOk a.l a.r = false → endL a.l a.r a.pos = a.l := fun e => by simp [endL, e]
  repeat' (first | intro _ | refine ⟨(), ?_⟩ | apply And.intro)
  all_goals (first | trivial | omega | (simp only [InR] at *; omega) | grind [endOk] | (rw [no (by grind [endOk])]; exact .refl _ _ _) | skip)
  simp only [Nat.zero_add]
  exact rowsEq_endL (by grind [endOk]))

/-! ### All, Open -/

structure AllA where
  l : List CallR
  cap : Nat
noncomputable def cAll : Con where
  α := AllA
  β := Nat
  m := 2
  m' := 3
  pre := fun a => a.l.length < 1000
  args := fun a => [.a (.ptr 0 0 0 0)]
  hp := fun _ => []
  ro := fun a => logHp 0 1 a.l a.cap
  post := fun _ _ => True
  res := fun a cap => .a (.slc 2 0 13 a.l.length cap)
  hp' := fun a _ => [(2, .arr 48 ksCall a.l.length (encRows encCall a.l))]
set_option maxHeartbeats 4000000 in
theorem bodyAll : fnBody (Y Try.prog) [] 15 cAll fun _ => [] := fnBody.of (p :=
  ∀ (a : AllA), a.l.length < (1000 : Nat) →
  ∀ (b : Bool), (b = Bool.true →
  a.l.length = (0 : Nat)) →
  (b = Bool.true →
  ∃ (b : Nat), ((0 : Nat) = a.l.length ∧
  (0 : Nat) = b) ∧
  a.l.length = (0 : Nat) ∧
  True ∧
  True) ∧
  (b = Bool.false →
  (0 : Nat) ≤ (0 : Nat) ∧
  (0 : Nat) + a.l.length ≤ a.l.length ∧
  ((0 : Nat) + a.l.length) * (128 : Nat) ≤ (140737488355328 : Nat) ∧
  ∀ (cap : Nat), (0 : Nat) + a.l.length ≤ cap →
  cap ≤ lenMax →
  ((0 : Nat) + a.l.length ≤ (0 : Nat) →
  cap = (0 : Nat)) →
  ∃ (b : Nat), ((0 : Nat) = (0 : Nat) ∧
  (0 : Nat) + a.l.length = a.l.length ∧
  cap = b) ∧
  (a.l.length ≤ (0 : Nat) + a.l.length ∧
  RowsEq a.l.length (13 : Nat) (appRows (flatRows (13 : Nat) []) (0 : Nat) (0 : Nat) fun (i j : Nat) => encRows encCall a.l ((0 : Nat) + i) j) (encRows encCall a.l)) ∧
  True ∧
  True)) (by kernel_rfl) (by
  intro a h b hb
  refine ⟨fun h1 => ⟨0, ⟨(hb h1).symm, rfl⟩, hb h1, trivial, trivial⟩, fun h1 => ⟨by omega, by omega, by omega, fun cap h2 h3 h4 => ⟨cap, ⟨rfl, by omega, rfl⟩, ⟨by omega, ?_⟩, trivial, trivial⟩⟩⟩
  exact .app (l := []) rfl .zero (.of_eq (by funext i; simp)))
theorem callCut : CallsBy (Y Try.prog).G.X 8 cCut := fn_ok okY (tab := []) trivial bodyCut
theorem callBegin : CallsBy (Y Try.prog).G.X 9 cBegin := fn_ok okY (tab := []) trivial bodyBegin
theorem callEnd : CallsBy (Y Try.prog).G.X 10 cEnd := fn_ok okY (tab := []) trivial bodyEnd
theorem callAll : CallsBy (Y Try.prog).G.X 15 cAll := fn_ok okY (tab := []) trivial bodyAll

def openN (l : List CallR) : Nat := (l.filter fun c => !c.done).length
theorem openN_le (l : List CallR) : openN l ≤ l.length := List.length_filter_le _ _
theorem openN_succ {l : List CallR} {i : Nat} (h : i < l.length) : openN (l.take (i + 1)) = openN (l.take i) + (if (gl l i).done then 0 else 1) := by
  rw [take_succ_gl h]; unfold openN; rw [List.filter_append]
  cases hd : (gl l i).done <;> simp [hd]
noncomputable def cOpen : Con where
  α := AllA
  β := Unit
  m := 2
  m' := 2
  pre := fun a => a.l.length < 1000
  args := fun a => [.a (.ptr 0 0 0 0)]
  hp := fun _ => []
  ro := fun a => logHp 0 1 a.l a.cap
  post := fun _ _ => True
  res := fun a _ => .a (.int .i64 (openN a.l))
  hp' := fun _ _ => []
def iOpen (a : AllA) : An := .flat 3 Nat (fun s i => (s.int 9 i).int 3 (openN (a.l.take i))) (fun _ i => i ≤ a.l.length) (fun _ i => a.l.length - i)
set_option maxHeartbeats 4000000 in
theorem bodyOpen : fnBody (Y Try.prog) [(15, cAll)] 12 cOpen fun a => [(12, [iOpen a], [])] := fnBody.of (p :=
  ∀ (a : AllA), a.l.length < (1000 : Nat) →
  ∃ (a_2 : AllA), (0 : Nat) = (0 : Nat) ∧
  ((0 : Nat) = (0 : Nat) ∧
  a.l.length = a_2.l.length ∧
  a.cap = a_2.cap) ∧
  (a_2.l.length ≤ a.l.length ∧
  RowsEq a_2.l.length (13 : Nat) (encRows encCall a.l) (encRows encCall a_2.l)) ∧
  a_2.l.length < (1000 : Nat) ∧
  ∀ (b : Nat), True →
  (∃ (a_4 : Nat), (0 : Int) = (↑(openN (List.take a_4 a.l)) : Int) ∧
  (0 : Int) = (↑a_4 : Int) ∧
  (↑a_2.l.length : Int) = (↑a_2.l.length : Int) ∧
  ((0 : Nat) = (0 : Nat) ∧
  a_2.l.length = a_2.l.length ∧
  b = b) ∧
  (0 : Int) = (0 : Int) ∧
  (0 : Nat) = (0 : Nat) ∧
  (a_2.l.length ≤ a_2.l.length ∧
  RowsEq a_2.l.length (13 : Nat) (encRows encCall a_2.l) (encRows encCall a_2.l)) ∧
  ((0 : Nat) = (0 : Nat) ∧
  a.l.length = a.l.length ∧
  a.cap = a.cap) ∧
  (a.l.length ≤ a.l.length ∧
  RowsEq a.l.length (13 : Nat) (encRows encCall a.l) (encRows encCall a.l)) ∧
  a_4 ≤ a.l.length ∧
  True) ∧
  ∀ (a_4 : Nat), a_4 ≤ a.l.length →
  (Decidable.decide ((↑a_4 : Int) < (↑a_2.l.length : Int)) = Bool.true →
  ((0 : Int) ≤ (↑a_4 : Int) ∧
  (↑a_4 : Int) < (↑a_2.l.length : Int)) ∧
  (0 : Nat) + (↑a_4 : Int).toNat < a_2.l.length ∧
  ((!(gl a_2.l ((0 : Nat) + (↑a_4 : Int).toNat)).done) = Bool.true →
  InR IntKind.i64 ((↑(openN (List.take a_4 a.l)) : Int) + (1 : Int)) ∧
  InR IntKind.i64 ((↑a_4 : Int) + (1 : Int)) ∧
  ∃ (a' : Nat), (↑(openN (List.take a_4 a.l)) : Int) + (1 : Int) = (↑(openN (List.take a' a.l)) : Int) ∧
  (↑a_4 : Int) + (1 : Int) = (↑a' : Int) ∧
  (↑a_2.l.length : Int) = (↑a_2.l.length : Int) ∧
  ((0 : Nat) = (0 : Nat) ∧
  a_2.l.length = a_2.l.length ∧
  b = b) ∧
  (0 : Int) = (0 : Int) ∧
  (0 : Nat) = (0 : Nat) ∧
  (a_2.l.length ≤ a_2.l.length ∧
  RowsEq a_2.l.length (13 : Nat) (encRows encCall a_2.l) (encRows encCall a_2.l)) ∧
  ((0 : Nat) = (0 : Nat) ∧
  a.l.length = a.l.length ∧
  a.cap = a.cap) ∧
  (a.l.length ≤ a.l.length ∧
  RowsEq a.l.length (13 : Nat) (encRows encCall a.l) (encRows encCall a.l)) ∧
  a' ≤ a.l.length ∧
  a.l.length - a' < a.l.length - a_4) ∧
  ((!(gl a_2.l ((0 : Nat) + (↑a_4 : Int).toNat)).done) = Bool.false →
  InR IntKind.i64 ((↑a_4 : Int) + (1 : Int)) ∧
  ∃ (a' : Nat), (↑(openN (List.take a_4 a.l)) : Int) = (↑(openN (List.take a' a.l)) : Int) ∧
  (↑a_4 : Int) + (1 : Int) = (↑a' : Int) ∧
  (↑a_2.l.length : Int) = (↑a_2.l.length : Int) ∧
  ((0 : Nat) = (0 : Nat) ∧
  a_2.l.length = a_2.l.length ∧
  b = b) ∧
  (0 : Int) = (0 : Int) ∧
  (0 : Nat) = (0 : Nat) ∧
  (a_2.l.length ≤ a_2.l.length ∧
  RowsEq a_2.l.length (13 : Nat) (encRows encCall a_2.l) (encRows encCall a_2.l)) ∧
  ((0 : Nat) = (0 : Nat) ∧
  a.l.length = a.l.length ∧
  a.cap = a.cap) ∧
  (a.l.length ≤ a.l.length ∧
  RowsEq a.l.length (13 : Nat) (encRows encCall a.l) (encRows encCall a.l)) ∧
  a' ≤ a.l.length ∧
  a.l.length - a' < a.l.length - a_4)) ∧
  (Decidable.decide ((↑a_4 : Int) < (↑a_2.l.length : Int)) = Bool.false →
  ∃ (b : Unit), (↑(openN (List.take a_4 a.l)) : Int) = (↑(openN a.l) : Int) ∧
  True ∧
  True)) (by kernel_rfl) (by
  intro a h
  have hle := fun i => openN_le (a.l.take i)
  refine ⟨⟨a.l, a.cap⟩, ?_⟩
  dsimp only
  refine ⟨rfl, ⟨rfl, rfl, rfl⟩, ⟨by omega, .refl _ _ _⟩, h, fun b _ => ⟨⟨0, by simp [openN]⟩, fun i hi => ⟨fun h1 => ?_, fun h1 => ?_⟩⟩⟩
  · have h2 : i < a.l.length := by simpa using h1
    have h3 := openN_succ h2
    have h4 := hle i
    simp only [List.length_take] at h4
    refine ⟨by omega, by omega, fun h5 => ⟨?_, ?_, i + 1, ?_⟩, fun h5 => ⟨?_, i + 1, ?_⟩⟩
    all_goals simp at h5
    all_goals simp [h5] at h3
    all_goals (repeat' apply And.intro)
    all_goals (first | exact trivial | rfl | omega | assumption | exact RowsEq.refl _ _ _ | (simp only [InR]; omega) | (simp; done) | (simp; omega) | grind)
  · have h2 : i = a.l.length := by have : ¬ i < a.l.length := by simpa using h1
                                   omega
    subst h2
    exact ⟨(), by simp, trivial, trivial⟩)

/-! ### Drop -/

def downR (c : CallR) : ReplyR := ⟨c.id, c.op, c.key, 8, .empty, false⟩
/-- the calls behind i steps; how many were ended -/
def dropGo (l0 : List CallR) (node pos : Int) : Nat → List CallR × Nat
  | 0 => (l0, 0)
  | i + 1 => let p := dropGo l0 node pos i
    if (gl l0 i).node == node && endOk p.1 (downR (gl l0 i)) then (endL p.1 (downR (gl l0 i)) pos, p.2 + 1) else p
theorem dropGo_length (l0 : List CallR) (node pos : Int) : ∀ i, (dropGo l0 node pos i).1.length = l0.length
  | 0 => rfl
  | i + 1 => by
    have := dropGo_length l0 node pos i
    unfold dropGo; dsimp only
    split
    · rw [endL_length, this]
    · exact this
theorem dropGo_le (l0 : List CallR) (node pos : Int) : ∀ i, (dropGo l0 node pos i).2 ≤ i
  | 0 => Nat.le_refl _
  | i + 1 => by
    have := dropGo_le l0 node pos i
    unfold dropGo; dsimp only
    split
    · exact Nat.succ_le_succ this
    · omega
structure DropA where
  l : List CallR
  cap : Nat
  node : Int
  pos : Int
noncomputable def cDrop : Con where
  α := DropA
  β := Unit
  m := 2
  m' := 2
  pre := fun a => a.l.length < 1000
  args := fun a => [.a (.ptr 0 0 0 0), .a (.int .i64 a.node), .a (.int .i64 a.pos)]
  hp := fun a => logHp 0 1 a.l a.cap
  ro := fun _ => []
  post := fun _ _ => True
  res := fun a _ => .a (.int .i64 (dropGo a.l a.node a.pos a.l.length).2)
  hp' := fun a _ => logHp 0 1 (dropGo a.l a.node a.pos a.l.length).1 a.cap
def iDrop (a : DropA) : An := .flat 3 Nat (fun s i => ((s.int 13 i).int 7 (dropGo a.l a.node a.pos i).2).at_ 1 (.arr 48 ksCall a.l.length (encRows encCall (dropGo a.l a.node a.pos i).1))) (fun _ i => i ≤ a.l.length) (fun _ i => a.l.length - i)
set_option maxHeartbeats 4000000 in
theorem bodyDrop : fnBody (Y Try.prog) [(15, cAll), (10, cEnd)] 11 cDrop fun a => [(11, [iDrop a], [])] := fnBody.of (p :=
  ∀ (a : DropA), a.l.length < (1000 : Nat) →
  ∃ (a_2 : AllA), (0 : Nat) = (0 : Nat) ∧
  ((0 : Nat) = (0 : Nat) ∧
  a.l.length = a_2.l.length ∧
  a.cap = a_2.cap) ∧
  (a_2.l.length ≤ a.l.length ∧
  RowsEq a_2.l.length (13 : Nat) (encRows encCall a.l) (encRows encCall a_2.l)) ∧
  a_2.l.length < (1000 : Nat) ∧
  ∀ (b : Nat), True →
  (∃ (a_4 : Nat), (0 : Int) = (↑(dropGo a.l a.node a.pos a_4).snd : Int) ∧
  (0 : Int) = (↑a_4 : Int) ∧
  (↑a_2.l.length : Int) = (↑a_2.l.length : Int) ∧
  ((0 : Nat) = (0 : Nat) ∧
  a_2.l.length = a_2.l.length ∧
  b = b) ∧
  (0 : Int) = (0 : Int) ∧
  (0 : Nat) = (0 : Nat) ∧
  a.node = a.node ∧
  a.pos = a.pos ∧
  (a_2.l.length ≤ a_2.l.length ∧
  RowsEq a_2.l.length (13 : Nat) (encRows encCall a_2.l) (encRows encCall a_2.l)) ∧
  ((0 : Nat) = (0 : Nat) ∧
  a.l.length = a.l.length ∧
  a.cap = a.cap) ∧
  (a.l.length ≤ a.l.length ∧
  RowsEq a.l.length (13 : Nat) (encRows encCall a.l) (encRows encCall (dropGo a.l a.node a.pos a_4).fst)) ∧
  a_4 ≤ a.l.length ∧
  True) ∧
  ∀ (a_4 : Nat), a_4 ≤ a.l.length →
  (Decidable.decide ((↑a_4 : Int) < (↑a_2.l.length : Int)) = Bool.true →
  ((0 : Int) ≤ (↑a_4 : Int) ∧
  (↑a_4 : Int) < (↑a_2.l.length : Int)) ∧
  (0 : Nat) + (↑a_4 : Int).toNat < a_2.l.length ∧
  (InR IntKind.i64 (gl a_2.l ((0 : Nat) + (↑a_4 : Int).toNat)).node →
  (((gl a_2.l ((0 : Nat) + (↑a_4 : Int).toNat)).node == a.node) = Bool.true →
  InR IntKind.i64 (gl a_2.l ((0 : Nat) + (↑a_4 : Int).toNat)).id →
  InR IntKind.i64 (gl a_2.l ((0 : Nat) + (↑a_4 : Int).toNat)).op →
  ∃ (a_11 : EndA), (0 : Nat) = (0 : Nat) ∧
  (gl a_2.l ((0 : Nat) + (↑a_4 : Int).toNat)).id = a_11.r.id ∧
  (gl a_2.l ((0 : Nat) + (↑a_4 : Int).toNat)).op = a_11.r.op ∧
  (gl a_2.l ((0 : Nat) + (↑a_4 : Int).toNat)).key = a_11.r.key ∧
  (8 : Int) = a_11.r.err ∧
  { data := #[] } = a_11.r.val ∧
  Bool.false = a_11.r.has ∧
  a.pos = a_11.pos ∧
  ((0 : Nat) = (0 : Nat) ∧
  a.l.length = a_11.l.length ∧
  a.cap = a_11.cap) ∧
  (a_11.l.length ≤ a.l.length ∧
  RowsEq a_11.l.length (13 : Nat) (encRows encCall (dropGo a.l a.node a.pos a_4).fst) (encRows encCall a_11.l)) ∧
  a_11.l.length < (1000 : Nat) ∧
  ∀ (b_1 : Unit), True →
  (endOk a_11.l a_11.r = Bool.true →
  InR IntKind.i64 ((↑(dropGo a.l a.node a.pos a_4).snd : Int) + (1 : Int)) ∧
  InR IntKind.i64 ((↑a_4 : Int) + (1 : Int)) ∧
  ∃ (a' : Nat), (↑(dropGo a.l a.node a.pos a_4).snd : Int) + (1 : Int) = (↑(dropGo a.l a.node a.pos a').snd : Int) ∧
  (↑a_4 : Int) + (1 : Int) = (↑a' : Int) ∧
  (↑a_2.l.length : Int) = (↑a_2.l.length : Int) ∧
  ((0 : Nat) = (0 : Nat) ∧
  a_2.l.length = a_2.l.length ∧
  b = b) ∧
  (0 : Int) = (0 : Int) ∧
  (0 : Nat) = (0 : Nat) ∧
  a.node = a.node ∧
  a.pos = a.pos ∧
  (a_2.l.length ≤ a_2.l.length ∧
  RowsEq a_2.l.length (13 : Nat) (encRows encCall a_2.l) (encRows encCall a_2.l)) ∧
  ((0 : Nat) = (0 : Nat) ∧
  (endL a_11.l a_11.r a_11.pos).length = a.l.length ∧
  a_11.cap = a.cap) ∧
  (a.l.length ≤ (endL a_11.l a_11.r a_11.pos).length ∧
  RowsEq a.l.length (13 : Nat) (encRows encCall (endL a_11.l a_11.r a_11.pos)) (encRows encCall (dropGo a.l a.node a.pos a').fst)) ∧
  a' ≤ a.l.length ∧
  a.l.length - a' < a.l.length - a_4) ∧
  (endOk a_11.l a_11.r = Bool.false →
  InR IntKind.i64 ((↑a_4 : Int) + (1 : Int)) ∧
  ∃ (a' : Nat), (↑(dropGo a.l a.node a.pos a_4).snd : Int) = (↑(dropGo a.l a.node a.pos a').snd : Int) ∧
  (↑a_4 : Int) + (1 : Int) = (↑a' : Int) ∧
  (↑a_2.l.length : Int) = (↑a_2.l.length : Int) ∧
  ((0 : Nat) = (0 : Nat) ∧
  a_2.l.length = a_2.l.length ∧
  b = b) ∧
  (0 : Int) = (0 : Int) ∧
  (0 : Nat) = (0 : Nat) ∧
  a.node = a.node ∧
  a.pos = a.pos ∧
  (a_2.l.length ≤ a_2.l.length ∧
  RowsEq a_2.l.length (13 : Nat) (encRows encCall a_2.l) (encRows encCall a_2.l)) ∧
  ((0 : Nat) = (0 : Nat) ∧
  (endL a_11.l a_11.r a_11.pos).length = a.l.length ∧
  a_11.cap = a.cap) ∧
  (a.l.length ≤ (endL a_11.l a_11.r a_11.pos).length ∧
  RowsEq a.l.length (13 : Nat) (encRows encCall (endL a_11.l a_11.r a_11.pos)) (encRows encCall (dropGo a.l a.node a.pos a').fst)) ∧
  a' ≤ a.l.length ∧
  a.l.length - a' < a.l.length - a_4)) ∧
  (((gl a_2.l ((0 : Nat) + (↑a_4 : Int).toNat)).node == a.node) = Bool.false →
  InR IntKind.i64 ((↑a_4 : Int) + (1 : Int)) ∧
  ∃ (a' : Nat), (↑(dropGo a.l a.node a.pos a_4).snd : Int) = (↑(dropGo a.l a.node a.pos a').snd : Int) ∧
  (↑a_4 : Int) + (1 : Int) = (↑a' : Int) ∧
  (↑a_2.l.length : Int) = (↑a_2.l.length : Int) ∧
  ((0 : Nat) = (0 : Nat) ∧
  a_2.l.length = a_2.l.length ∧
  b = b) ∧
  (0 : Int) = (0 : Int) ∧
  (0 : Nat) = (0 : Nat) ∧
  a.node = a.node ∧
  a.pos = a.pos ∧
  (a_2.l.length ≤ a_2.l.length ∧
  RowsEq a_2.l.length (13 : Nat) (encRows encCall a_2.l) (encRows encCall a_2.l)) ∧
  ((0 : Nat) = (0 : Nat) ∧
  a.l.length = a.l.length ∧
  a.cap = a.cap) ∧
  (a.l.length ≤ a.l.length ∧
  RowsEq a.l.length (13 : Nat) (encRows encCall (dropGo a.l a.node a.pos a_4).fst) (encRows encCall (dropGo a.l a.node a.pos a').fst)) ∧
  a' ≤ a.l.length ∧
  a.l.length - a' < a.l.length - a_4))) ∧
  (Decidable.decide ((↑a_4 : Int) < (↑a_2.l.length : Int)) = Bool.false →
  ∃ (b : Unit), (↑(dropGo a.l a.node a.pos a_4).snd : Int) = (↑(dropGo a.l a.node a.pos a.l.length).snd : Int) ∧
  ((0 : Nat) = (0 : Nat) ∧
  a.l.length = (dropGo a.l a.node a.pos a.l.length).fst.length ∧
  a.cap = a.cap) ∧
  ((dropGo a.l a.node a.pos a.l.length).fst.length ≤ a.l.length ∧
  RowsEq (dropGo a.l a.node a.pos a.l.length).fst.length (13 : Nat) (encRows encCall (dropGo a.l a.node a.pos a_4).fst) (encRows encCall (dropGo a.l a.node a.pos a.l.length).fst)) ∧
  True ∧
  True)) (by kernel_rfl) (by
  intro a h
  refine ⟨⟨a.l, a.cap⟩, ?_⟩
  dsimp only
  refine ⟨rfl, ⟨rfl, rfl, rfl⟩, ⟨by omega, .refl _ _ _⟩, h, fun b _ => ⟨⟨0, by simp [dropGo]⟩, fun i hi => ⟨fun h1 => ?_, fun h1 => ?_⟩⟩⟩
  · have h2 : i < a.l.length := by simpa using h1
    have h3 : dropGo a.l a.node a.pos (i + 1) = if (gl a.l i).node == a.node && endOk (dropGo a.l a.node a.pos i).1 (downR (gl a.l i)) then (endL (dropGo a.l a.node a.pos i).1 (downR (gl a.l i)) a.pos, (dropGo a.l a.node a.pos i).2 + 1) else dropGo a.l a.node a.pos i := rfl
    have h4 := dropGo_le a.l a.node a.pos i
    have h6 := dropGo_length a.l a.node a.pos i
    simp only [Int.toNat_natCast, Nat.zero_add]
    refine ⟨by omega, by omega, fun _ => ⟨fun h5 _ _ => ⟨⟨(dropGo a.l a.node a.pos i).1, a.cap, downR (gl a.l i), a.pos⟩, ?_⟩, fun h5 => ⟨?_, i + 1, ?_⟩⟩⟩
    · dsimp only
      refine ⟨by simp, rfl, rfl, rfl, rfl, rfl, rfl, rfl, ⟨by simp, by omega, rfl⟩, ⟨by omega, .refl _ _ _⟩, by omega, fun _ _ => ⟨fun h7 => ⟨?_, ?_, i + 1, ?_⟩, fun h7 => ⟨?_, i + 1, ?_⟩⟩⟩
      all_goals simp only [h5, h7, Bool.and_true, Bool.and_false, if_true, Bool.false_eq_true, if_false] at h3
      all_goals (try have h8 := endL_length (dropGo a.l a.node a.pos i).1 (downR (gl a.l i)) a.pos)
      all_goals (try have h9 : endL (dropGo a.l a.node a.pos i).1 (downR (gl a.l i)) a.pos = (dropGo a.l a.node a.pos i).1 := by simp [endL, h7])
      all_goals (try rw [h9])
      all_goals (try rw [h3])
      all_goals (repeat' apply And.intro)
      all_goals (first | exact trivial | rfl | omega | assumption | exact RowsEq.refl _ _ _ | (simp only [InR]; omega) | (simp; done) | (simp; omega) | grind)
    all_goals simp only [h5, Bool.false_and, Bool.false_eq_true, if_false] at h3
    all_goals (try rw [h3])
    all_goals (repeat' apply And.intro)
    all_goals (first | exact trivial | rfl | omega | assumption | exact RowsEq.refl _ _ _ | (simp only [InR]; omega) | (simp; done) | (simp; omega) | grind)
  · have h2 : i = a.l.length := by have : ¬ i < a.l.length := by simpa using h1
                                   omega
    subst h2
    have h6 := dropGo_length a.l a.node a.pos a.l.length
    exact ⟨(), rfl, ⟨rfl, h6.symm, rfl⟩, ⟨by omega, .refl _ _ _⟩, trivial, trivial⟩)
end Go.Proofs.Ytilphhafffakoaa
