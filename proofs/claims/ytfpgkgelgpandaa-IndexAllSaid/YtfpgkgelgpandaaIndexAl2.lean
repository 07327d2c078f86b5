/-
  The statement IndexAll's function; no condition.
-/
import Derived.Test.YtfpgkgelgpandaaIndexAl
namespace Go.Proofs.Ytfpgkgelgpandaa
open Go.Sx
set_option maxRecDepth 100000
set_option linter.unusedVariables false

theorem callRise : CallsBy (Y Try.prog).G.X 20 cRise := fn_ok okY (tab := []) trivial bodyRise
theorem callAt : CallsBy (Y Try.prog).G.X 17 cAt := fn_ok okY (tab := []) trivial bodyAt
def ksOp : List CK := [.int .i64, .str, .int .i64]
structure OpsA where
  n : Nat
  cap : Nat
  rows : Nat → Nat → Value
structure AllS where
  x : IdxR
  cap : Nat
  l : List (ByteArray × Int)
  cl : Nat
  i : Nat
noncomputable def cAll : Con where
  α := OpsA
  β := Unit
  m := 1
  m' := 1
  pre := fun a => a.n ≤ a.cap ∧ a.cap ≤ lenMax
  args := fun a => [.a (.slc 0 0 3 a.n a.cap)]
  hp := fun _ => []
  ro := fun a => [(0, .arr 39 ksOp a.n a.rows)]
  post := fun _ _ => True
  res := fun _ _ => .a .tt
  hp' := fun _ _ => []
noncomputable def tabAll : List (Nat × Con) := (17, cAt) :: (18, cEqT) :: (20, cRise) :: tabKeys
theorem tabAll_ok : TabOk (Y Try.prog).G.X tabAll := ⟨callAt, callEqT, callRise, tabKeys_ok⟩
def mL (l : List (ByteArray × Int)) (p : Int) (j : Nat) : List (ByteArray × Int) := (l.take j).filter fun e => decide (p ≤ e.2)
def iBl (a : OpsA) (y : AllS) : An := .flat 29 (Nat × Nat) (fun s z => ((s.new (.arr 43 ksE (mL y.l (toI (a.rows y.i 2)) z.1).length (encRows encE (mL y.l (toI (a.rows y.i 2)) z.1)))).set 10 (.a (.slc s.nx 0 2 (mL y.l (toI (a.rows y.i 2)) z.1).length z.2))).int 11 z.1)
  (fun _ z => z.1 ≤ y.l.length ∧ (mL y.l (toI (a.rows y.i 2)) z.1).length ≤ z.2) (fun _ z => y.l.length - z.1)
def iKs (z : AllS) : An := .flat 38 (Nat × Nat) (fun s q => ((s.new (.arr 9 [.str] q.1 (encRows encT ((z.l.map Prod.fst).take q.1)))).set 12 (.a (.slc s.nx 0 1 q.1 q.2))).int 13 q.1) (fun _ q => q.1 ≤ z.l.length) (fun _ q => z.l.length - q.1)
def cutAll (y : AllS) : An := .mk 36 AllS (fun s z => ((S.idx s (s.tg 4) z.x z.cap).at_ (s.tg 5) (.arr 43 ksE z.l.length (encRows encE z.l))).set 5 (.a (.slc (s.tg 5) 0 2 z.l.length z.cl)))
  (fun _ z => Has z.x z.l ∧ z.l.length ≤ y.i + 1 ∧ z.l.length ≤ z.cl) (fun _ _ => 0) fun z => .mk 60 [iKs z] []
def iAll (a : OpsA) : An := .mk 7 AllS (fun s y => (((S.idx s (s.tg 4) y.x y.cap).new (.arr 43 ksE y.l.length (encRows encE y.l))).set 5 (.a (.slc s.nx 0 2 y.l.length y.cl))).int 6 y.i)
  (fun _ y => Has y.x y.l ∧ y.l.length ≤ y.i ∧ y.i ≤ 80 ∧ y.l.length ≤ y.cl) (fun _ y => 80 - y.i) fun y => .mk 60 [iBl a y] [cutAll y]
theorem atL_spec (l : List (ByteArray × Int)) (key : ByteArray) : (∃ k : Nat, k < l.length ∧ atL l key = (k : Int) ∧ (gl l k).1 = key) ∨ (atL l key = -1 ∧ key ∉ l.map Prod.fst) := by
  unfold atL
  by_cases h : l.findIdx (fun e => decide (e.1 = key)) < l.length
  · refine .inl ⟨_, h, by rw [if_pos h], ?_⟩
    have := List.findIdx_getElem (w := h)
    rw [gl_eq h]; simpa using this
  · refine .inr ⟨by rw [if_neg h], fun hm => ?_⟩
    obtain ⟨e, h1, h2⟩ := List.mem_map.1 hm
    exact h (List.findIdx_lt_length_of_exists ⟨e, h1, by simpa using h2⟩)
theorem pair_out {l : List (ByteArray × Int)} {k : Nat} (h : k < l.length) : l.Perm (gl l k :: (l.take k ++ l.drop (k + 1))) := by
  refine (List.Perm.of_eq ?_).trans List.perm_middle
  rw [gl_eq h, List.getElem_cons_drop, List.take_append_drop]
theorem pair_set {l : List (ByteArray × Int)} {k : Nat} {e : ByteArray × Int} (h : k < l.length) : (e :: (l.take k ++ l.drop (k + 1))).Perm (l.set k e) := by
  refine List.perm_middle.symm.trans (List.Perm.of_eq ?_)
  rw [List.set_eq_take_append_cons_drop, if_pos h]
theorem Has.nodup {x : IdxR} {l : List (ByteArray × Int)} (h : Has x l) : (l.map Prod.fst).Nodup := by
  refine (h.perm.map Prod.fst).nodup_iff.1 ?_
  unfold ents
  rw [List.map_map]
  show List.Pairwise _ _
  rw [List.pairwise_map, List.pairwise_filter, List.pairwise_iff_getElem]
  intro i j hi hj hij h1 h2 h3
  have := h.inv.dist i j hi hj (by rw [gl_eq hi]; exact h1) (by rw [gl_eq hj]; exact h2) (by rw [gl_eq hi, gl_eq hj]; exact h3)
  omega
theorem cut50 (s : ByteArray) : (cutB s 50).size ≤ lenMax := by
  unfold cutB
  split
  · rw [ByteArray.size_extract]; unfold lenMax; omega
  · unfold lenMax; omega
theorem mL_step {l : List (ByteArray × Int)} {p : Int} {j : Nat} (h : j < l.length) : mL l p (j + 1) = mL l p j ++ if p ≤ (gl l j).2 then [gl l j] else [] := by
  unfold mL
  rw [take_succ_gl h, List.filter_append]
  by_cases hp : p ≤ (gl l j).2 <;> simp [hp]
theorem mL_le (l : List (ByteArray × Int)) (p : Int) (j : Nat) : (mL l p j).length ≤ l.length := by
  unfold mL
  refine Nat.le_trans (List.length_filter_le _ _) ?_
  rw [List.length_take]; omega
set_option maxHeartbeats 4000000 in
theorem bodyAll : fnBody (Y Try.prog) tabAll 5 cAll fun a => [(5, [iAll a], [])] := fnBody.of (p :=
  ∀ (a : OpsA), a.n ≤ a.cap ∧
  a.cap ≤ lenMax →
  ∃ (a_2 : Unit), True ∧
  ∀ (b : Unit), True →
  (0 : Int) ≤ (16 : Int) ∧
  (16 : Int) ≤ (16 : Int) ∧
  (512 : Int) ≤ (281474976710656 : Int) ∧
  (∃ (a_4 : AllS), (0 : Int) = (↑a_4.i : Int) ∧
  ((0 : Nat) = a_4.l.length ∧
  (0 : Nat) = a_4.cl) ∧
  (0 : Nat) = (0 : Nat) ∧
  Bool.false = Bool.false ∧
  Bool.true = Bool.true ∧
  Bool.false = Bool.false ∧
  ((0 : Nat) = (0 : Nat) ∧
  a.n = a.n ∧
  a.cap = a.cap) ∧
  a_4.l.length = (0 : Nat) ∧
  ((0 : Nat) = (0 : Nat) ∧
  (16 : Nat) = a_4.x.t.length ∧
  (16 : Nat) = a_4.cap) ∧
  (0 : Int) = (↑a_4.x.n : Int) ∧
  (0 : Int) = (↑a_4.x.used : Int) ∧
  (a_4.x.t.length ≤ (16 : Nat) ∧
  RowsEq a_4.x.t.length (4 : Nat) (fun (x j : Nat) => [Value.string { data := #[] }, Value.int IntKind.i64 (0 : Int), Value.bool Bool.false, Value.bool Bool.false].getD j (Value.tuple #[])) (encRows encP a_4.x.t)) ∧
  (a.n ≤ a.n ∧
  RowsEq a.n (3 : Nat) a.rows a.rows) ∧
  (Has a_4.x a_4.l ∧
  a_4.l.length ≤ a_4.i ∧
  a_4.i ≤ (80 : Nat) ∧
  a_4.l.length ≤ a_4.cl) ∧
  True) ∧
  ∀ (a_4 : AllS), Has a_4.x a_4.l ∧
  a_4.l.length ≤ a_4.i ∧
  a_4.i ≤ (80 : Nat) ∧
  a_4.l.length ≤ a_4.cl →
  (Decidable.decide ((↑a_4.i : Int) < (↑a.n : Int)) = Bool.true →
  (Decidable.decide ((↑a_4.i : Int) < (80 : Int)) = Bool.true →
  ((0 : Int) ≤ (↑a_4.i : Int) ∧
  (↑a_4.i : Int) < (↑a.n : Int)) ∧
  (0 : Nat) + (↑a_4.i : Int).toNat < a.n ∧
  ∃ (a_8 : ByteArray × Int), toS (a.rows ((0 : Nat) + (↑a_4.i : Int).toNat) (1 : Nat)) = a_8.fst ∧
  (50 : Int) = a_8.snd ∧
  (0 : Int) ≤ a_8.snd ∧
  ∀ (b : Unit), True →
  ∃ (a_10 : AtA), ((0 : Nat) = (0 : Nat) ∧
  a_4.l.length = a_10.l.length ∧
  a_4.cl = a_10.cap) ∧
  cutB a_8.fst a_8.snd = a_10.key ∧
  (a_10.l.length ≤ a_4.l.length ∧
  RowsEq a_10.l.length (2 : Nat) (encRows encE a_4.l) (encRows encE a_10.l)) ∧
  a_10.l.length < (1000 : Nat) ∧
  ∀ (b : Unit), True →
  (InR IntKind.i64 (toI (a.rows ((0 : Nat) + (↑a_4.i : Int).toNat) (0 : Nat))) →
  ((toI (a.rows ((0 : Nat) + (↑a_4.i : Int).toNat) (0 : Nat)) == (0 : Int)) = Bool.true →
  (Decidable.decide ((0 : Int) ≤ atL a_10.l a_10.key) = Bool.true →
  ((0 : Int) ≤ atL a_10.l a_10.key ∧
  atL a_10.l a_10.key < (↑a_4.l.length : Int)) ∧
  (0 : Nat) + (atL a_10.l a_10.key).toNat < a_4.l.length ∧
  (InR IntKind.i64 (gl a_4.l ((0 : Nat) + (atL a_10.l a_10.key).toNat)).snd →
  InR IntKind.i64 (toI (a.rows ((0 : Nat) + (↑a_4.i : Int).toNat) (2 : Nat))) →
  ((0 : Int) ≤ atL a_10.l a_10.key ∧
  atL a_10.l a_10.key < (↑a_4.l.length : Int)) ∧
  (0 : Nat) + (atL a_10.l a_10.key).toNat < a_4.l.length ∧
  (InR IntKind.i64 (toI (a.rows ((0 : Nat) + (↑a_4.i : Int).toNat) (2 : Nat))) →
  ∃ (a_18 : PutA), (0 : Nat) = (0 : Nat) ∧
  cutB a_8.fst a_8.snd = a_18.key ∧
  toI (a.rows ((0 : Nat) + (↑a_4.i : Int).toNat) (2 : Nat)) = a_18.pos ∧
  ((0 : Nat) = (0 : Nat) ∧
  a_4.x.t.length = a_18.x.t.length ∧
  a_4.cap = a_18.cap) ∧
  (↑a_4.x.n : Int) = (↑a_18.x.n : Int) ∧
  (↑a_4.x.used : Int) = (↑a_18.x.used : Int) ∧
  (a_18.x.t.length ≤ a_4.x.t.length ∧
  RowsEq a_18.x.t.length (4 : Nat) (encRows encP a_4.x.t) (encRows encP a_18.x.t)) ∧
  (Inv a_18.x ∧
  a_18.x.n < (9999 : Nat) ∧
  a_18.key.size ≤ lenMax) ∧
  ∀ (b : Nat), True →
  ((putRet (roomy a_18.x) a_18.key != (gl a_4.l ((0 : Nat) + (atL a_10.l a_10.key).toNat)).snd) = Bool.true →
  ∃ (b : Unit), Bool.false = Bool.true ∧
  True ∧
  True) ∧
  ((putRet (roomy a_18.x) a_18.key != (gl a_4.l ((0 : Nat) + (atL a_10.l a_10.key).toNat)).snd) = Bool.false →
  ∃ (a_21 : AllS), ((0 : Nat) = (0 : Nat) ∧
  a_4.l.length = a_21.l.length ∧
  a_4.cl = a_21.cl) ∧
  atL a_10.l a_10.key = atL a_10.l a_10.key ∧
  (0 : Nat) = (0 : Nat) ∧
  Decidable.decide ((↑a_4.i : Int) < (80 : Int)) = Decidable.decide ((↑a_4.i : Int) < (80 : Int)) ∧
  (↑a_4.i : Int) = (↑a_4.i : Int) ∧
  (0 : Nat) = (0 : Nat) ∧
  Bool.false = Bool.false ∧
  Bool.true = Bool.true ∧
  Bool.false = Bool.false ∧
  ((0 : Nat) = (0 : Nat) ∧
  a.n = a.n ∧
  a.cap = a.cap) ∧
  toI (a.rows ((0 : Nat) + (↑a_4.i : Int).toNat) (0 : Nat)) = toI (a.rows ((0 : Nat) + (↑a_4.i : Int).toNat) (0 : Nat)) ∧
  cutB a_8.fst a_8.snd = cutB a_8.fst a_8.snd ∧
  toI (a.rows ((0 : Nat) + (↑a_4.i : Int).toNat) (2 : Nat)) = toI (a.rows ((0 : Nat) + (↑a_4.i : Int).toNat) (2 : Nat)) ∧
  (a_21.l.length ≤ a_4.l.length ∧
  RowsEq a_21.l.length (2 : Nat) (updR (encRows encE a_4.l) ((0 : Nat) + (atL a_10.l a_10.key).toNat) (1 : Nat) [Value.int IntKind.i64 (toI (a.rows ((0 : Nat) + (↑a_4.i : Int).toNat) (2 : Nat)))]) (encRows encE a_21.l)) ∧
  ((0 : Nat) = (0 : Nat) ∧
  (putX a_18.x a_18.key a_18.pos).t.length = a_21.x.t.length ∧
  b = a_21.cap) ∧
  (↑(putX a_18.x a_18.key a_18.pos).n : Int) = (↑a_21.x.n : Int) ∧
  (↑(putX a_18.x a_18.key a_18.pos).used : Int) = (↑a_21.x.used : Int) ∧
  (a_21.x.t.length ≤ (putX a_18.x a_18.key a_18.pos).t.length ∧
  RowsEq a_21.x.t.length (4 : Nat) (encRows encP (putX a_18.x a_18.key a_18.pos).t) (encRows encP a_21.x.t)) ∧
  (a.n ≤ a.n ∧
  RowsEq a.n (3 : Nat) a.rows a.rows) ∧
  (Has a_21.x a_21.l ∧
  a_21.l.length ≤ a_4.i + (1 : Nat) ∧
  a_21.l.length ≤ a_21.cl) ∧
  True)))) ∧
  (Decidable.decide ((0 : Int) ≤ atL a_10.l a_10.key) = Bool.false →
  InR IntKind.i64 (toI (a.rows ((0 : Nat) + (↑a_4.i : Int).toNat) (2 : Nat))) →
  (0 : Nat) + a_4.l.length ≤ a_4.l.length ∧
  (1 : Nat) ≤ (1 : Nat) ∧
  (a_4.l.length + (1 : Nat)) * (24 : Nat) ≤ (140737488355328 : Nat) ∧
  ∀ (cap : Nat), a_4.l.length + (1 : Nat) ≤ cap →
  cap ≤ lenMax →
  (a_4.l.length + (1 : Nat) ≤ a_4.cl →
  cap = a_4.cl) →
  InR IntKind.i64 (toI (a.rows ((0 : Nat) + (↑a_4.i : Int).toNat) (2 : Nat))) →
  ∃ (a_20 : PutA), (0 : Nat) = (0 : Nat) ∧
  cutB a_8.fst a_8.snd = a_20.key ∧
  toI (a.rows ((0 : Nat) + (↑a_4.i : Int).toNat) (2 : Nat)) = a_20.pos ∧
  ((0 : Nat) = (0 : Nat) ∧
  a_4.x.t.length = a_20.x.t.length ∧
  a_4.cap = a_20.cap) ∧
  (↑a_4.x.n : Int) = (↑a_20.x.n : Int) ∧
  (↑a_4.x.used : Int) = (↑a_20.x.used : Int) ∧
  (a_20.x.t.length ≤ a_4.x.t.length ∧
  RowsEq a_20.x.t.length (4 : Nat) (encRows encP a_4.x.t) (encRows encP a_20.x.t)) ∧
  (Inv a_20.x ∧
  a_20.x.n < (9999 : Nat) ∧
  a_20.key.size ≤ lenMax) ∧
  ∀ (b : Nat), True →
  ((putRet (roomy a_20.x) a_20.key != (0 : Int)) = Bool.true →
  ∃ (b : Unit), Bool.false = Bool.true ∧
  True ∧
  True) ∧
  ((putRet (roomy a_20.x) a_20.key != (0 : Int)) = Bool.false →
  ∃ (a_23 : AllS), ((0 : Nat) = (0 : Nat) ∧
  a_4.l.length + (1 : Nat) = a_23.l.length ∧
  cap = a_23.cl) ∧
  atL a_10.l a_10.key = atL a_10.l a_10.key ∧
  (0 : Nat) = (0 : Nat) ∧
  Decidable.decide ((↑a_4.i : Int) < (80 : Int)) = Decidable.decide ((↑a_4.i : Int) < (80 : Int)) ∧
  (↑a_4.i : Int) = (↑a_4.i : Int) ∧
  (0 : Nat) = (0 : Nat) ∧
  Bool.false = Bool.false ∧
  Bool.true = Bool.true ∧
  Bool.false = Bool.false ∧
  ((0 : Nat) = (0 : Nat) ∧
  a.n = a.n ∧
  a.cap = a.cap) ∧
  toI (a.rows ((0 : Nat) + (↑a_4.i : Int).toNat) (0 : Nat)) = toI (a.rows ((0 : Nat) + (↑a_4.i : Int).toNat) (0 : Nat)) ∧
  cutB a_8.fst a_8.snd = cutB a_8.fst a_8.snd ∧
  toI (a.rows ((0 : Nat) + (↑a_4.i : Int).toNat) (2 : Nat)) = toI (a.rows ((0 : Nat) + (↑a_4.i : Int).toNat) (2 : Nat)) ∧
  (a_23.l.length ≤ a_4.l.length + (1 : Nat) ∧
  RowsEq a_23.l.length (2 : Nat) (appRows (encRows encE a_4.l) (0 : Nat) a_4.l.length fun (i j : Nat) => flatRows (2 : Nat) [Value.string (cutB a_8.fst a_8.snd), Value.int IntKind.i64 (toI (a.rows ((0 : Nat) + (↑a_4.i : Int).toNat) (2 : Nat)))] ((0 : Nat) + i) j) (encRows encE a_23.l)) ∧
  ((0 : Nat) = (0 : Nat) ∧
  (putX a_20.x a_20.key a_20.pos).t.length = a_23.x.t.length ∧
  b = a_23.cap) ∧
  (↑(putX a_20.x a_20.key a_20.pos).n : Int) = (↑a_23.x.n : Int) ∧
  (↑(putX a_20.x a_20.key a_20.pos).used : Int) = (↑a_23.x.used : Int) ∧
  (a_23.x.t.length ≤ (putX a_20.x a_20.key a_20.pos).t.length ∧
  RowsEq a_23.x.t.length (4 : Nat) (encRows encP (putX a_20.x a_20.key a_20.pos).t) (encRows encP a_23.x.t)) ∧
  (a.n ≤ a.n ∧
  RowsEq a.n (3 : Nat) a.rows a.rows) ∧
  (Has a_23.x a_23.l ∧
  a_23.l.length ≤ a_4.i + (1 : Nat) ∧
  a_23.l.length ≤ a_23.cl) ∧
  True))) ∧
  ((toI (a.rows ((0 : Nat) + (↑a_4.i : Int).toNat) (0 : Nat)) == (0 : Int)) = Bool.false →
  ((toI (a.rows ((0 : Nat) + (↑a_4.i : Int).toNat) (0 : Nat)) == (1 : Int)) = Bool.true →
  ∃ (a_15 : KeyA), (0 : Nat) = (0 : Nat) ∧
  cutB a_8.fst a_8.snd = a_15.key ∧
  ((0 : Nat) = (0 : Nat) ∧
  a_4.x.t.length = a_15.x.t.length ∧
  a_4.cap = a_15.cap) ∧
  (↑a_4.x.n : Int) = (↑a_15.x.n : Int) ∧
  (↑a_4.x.used : Int) = (↑a_15.x.used : Int) ∧
  (a_15.x.t.length ≤ a_4.x.t.length ∧
  RowsEq a_15.x.t.length (4 : Nat) (encRows encP a_4.x.t) (encRows encP a_15.x.t)) ∧
  (Inv a_15.x ∧
  a_15.x.n < (10000 : Nat) ∧
  a_15.key.size ≤ lenMax ∧
  ((0 : Int) ≤ (findP a_15.x.t a_15.key).fst →
  (1 : Nat) ≤ a_15.x.n)) ∧
  ∀ (b : Unit), True →
  ((!Decidable.decide ((0 : Int) ≤ (findP a_15.x.t a_15.key).fst) == Decidable.decide ((0 : Int) ≤ atL a_10.l a_10.key)) = Bool.true →
  ∃ (b : Unit), Bool.false = Bool.true ∧
  True ∧
  True) ∧
  ((!Decidable.decide ((0 : Int) ≤ (findP a_15.x.t a_15.key).fst) == Decidable.decide ((0 : Int) ≤ atL a_10.l a_10.key)) = Bool.false →
  (Decidable.decide ((0 : Int) ≤ atL a_10.l a_10.key) = Bool.true →
  ((0 : Int) ≤ atL a_10.l a_10.key ∧
  atL a_10.l a_10.key ≤ (↑a_4.cl : Int)) ∧
  ((0 : Int) ≤ atL a_10.l a_10.key ∧
  atL a_10.l a_10.key ≤ (↑(atL a_10.l a_10.key).toNat : Int)) ∧
  InR IntKind.i64 (atL a_10.l a_10.key + (1 : Int)) ∧
  ((0 : Int) ≤ atL a_10.l a_10.key + (1 : Int) ∧
  atL a_10.l a_10.key + (1 : Int) ≤ (↑a_4.l.length : Int)) ∧
  (0 : Nat) + ((atL a_10.l a_10.key).toNat - (0 : Nat)) ≤ a_4.l.length ∧
  (0 : Nat) + (atL a_10.l a_10.key + (1 : Int)).toNat + (a_4.l.length - (atL a_10.l a_10.key + (1 : Int)).toNat) ≤ a_4.l.length ∧
  ((atL a_10.l a_10.key).toNat - (0 : Nat) + (a_4.l.length - (atL a_10.l a_10.key + (1 : Int)).toNat)) * (24 : Nat) ≤ (140737488355328 : Nat) ∧
  ∀ (cap : Nat), (atL a_10.l a_10.key).toNat - (0 : Nat) + (a_4.l.length - (atL a_10.l a_10.key + (1 : Int)).toNat) ≤ cap →
  cap ≤ lenMax →
  ((atL a_10.l a_10.key).toNat - (0 : Nat) + (a_4.l.length - (atL a_10.l a_10.key + (1 : Int)).toNat) ≤ (atL a_10.l a_10.key).toNat - (0 : Nat) →
  cap = (atL a_10.l a_10.key).toNat - (0 : Nat)) →
  ∃ (a_22 : AllS), ((0 : Nat) = (0 : Nat) ∧
  (atL a_10.l a_10.key).toNat - (0 : Nat) + (a_4.l.length - (atL a_10.l a_10.key + (1 : Int)).toNat) = a_22.l.length ∧
  cap = a_22.cl) ∧
  atL a_10.l a_10.key = atL a_10.l a_10.key ∧
  (0 : Nat) = (0 : Nat) ∧
  Decidable.decide ((↑a_4.i : Int) < (80 : Int)) = Decidable.decide ((↑a_4.i : Int) < (80 : Int)) ∧
  (↑a_4.i : Int) = (↑a_4.i : Int) ∧
  (0 : Nat) = (0 : Nat) ∧
  Bool.false = Bool.false ∧
  Bool.true = Bool.true ∧
  Bool.false = Bool.false ∧
  ((0 : Nat) = (0 : Nat) ∧
  a.n = a.n ∧
  a.cap = a.cap) ∧
  toI (a.rows ((0 : Nat) + (↑a_4.i : Int).toNat) (0 : Nat)) = toI (a.rows ((0 : Nat) + (↑a_4.i : Int).toNat) (0 : Nat)) ∧
  cutB a_8.fst a_8.snd = cutB a_8.fst a_8.snd ∧
  toI (a.rows ((0 : Nat) + (↑a_4.i : Int).toNat) (2 : Nat)) = toI (a.rows ((0 : Nat) + (↑a_4.i : Int).toNat) (2 : Nat)) ∧
  (a_22.l.length ≤ (atL a_10.l a_10.key).toNat - (0 : Nat) + (a_4.l.length - (atL a_10.l a_10.key + (1 : Int)).toNat) ∧
  RowsEq a_22.l.length (2 : Nat) (appRows (encRows encE a_4.l) (0 : Nat) ((atL a_10.l a_10.key).toNat - (0 : Nat)) fun (i j : Nat) => encRows encE a_4.l ((0 : Nat) + (atL a_10.l a_10.key + (1 : Int)).toNat + i) j) (encRows encE a_22.l)) ∧
  ((0 : Nat) = (0 : Nat) ∧
  (dropI a_15.x a_15.key).t.length = a_22.x.t.length ∧
  a_15.cap = a_22.cap) ∧
  (↑(dropI a_15.x a_15.key).n : Int) = (↑a_22.x.n : Int) ∧
  (↑(dropI a_15.x a_15.key).used : Int) = (↑a_22.x.used : Int) ∧
  (a_22.x.t.length ≤ (dropI a_15.x a_15.key).t.length ∧
  RowsEq a_22.x.t.length (4 : Nat) (encRows encP (dropI a_15.x a_15.key).t) (encRows encP a_22.x.t)) ∧
  (a.n ≤ a.n ∧
  RowsEq a.n (3 : Nat) a.rows a.rows) ∧
  (Has a_22.x a_22.l ∧
  a_22.l.length ≤ a_4.i + (1 : Nat) ∧
  a_22.l.length ≤ a_22.cl) ∧
  True) ∧
  (Decidable.decide ((0 : Int) ≤ atL a_10.l a_10.key) = Bool.false →
  ∃ (a_19 : AllS), ((0 : Nat) = (0 : Nat) ∧
  a_4.l.length = a_19.l.length ∧
  a_4.cl = a_19.cl) ∧
  atL a_10.l a_10.key = atL a_10.l a_10.key ∧
  (0 : Nat) = (0 : Nat) ∧
  Decidable.decide ((↑a_4.i : Int) < (80 : Int)) = Decidable.decide ((↑a_4.i : Int) < (80 : Int)) ∧
  (↑a_4.i : Int) = (↑a_4.i : Int) ∧
  (0 : Nat) = (0 : Nat) ∧
  Bool.false = Bool.false ∧
  Bool.true = Bool.true ∧
  Bool.false = Bool.false ∧
  ((0 : Nat) = (0 : Nat) ∧
  a.n = a.n ∧
  a.cap = a.cap) ∧
  toI (a.rows ((0 : Nat) + (↑a_4.i : Int).toNat) (0 : Nat)) = toI (a.rows ((0 : Nat) + (↑a_4.i : Int).toNat) (0 : Nat)) ∧
  cutB a_8.fst a_8.snd = cutB a_8.fst a_8.snd ∧
  toI (a.rows ((0 : Nat) + (↑a_4.i : Int).toNat) (2 : Nat)) = toI (a.rows ((0 : Nat) + (↑a_4.i : Int).toNat) (2 : Nat)) ∧
  (a_19.l.length ≤ a_4.l.length ∧
  RowsEq a_19.l.length (2 : Nat) (encRows encE a_4.l) (encRows encE a_19.l)) ∧
  ((0 : Nat) = (0 : Nat) ∧
  (dropI a_15.x a_15.key).t.length = a_19.x.t.length ∧
  a_15.cap = a_19.cap) ∧
  (↑(dropI a_15.x a_15.key).n : Int) = (↑a_19.x.n : Int) ∧
  (↑(dropI a_15.x a_15.key).used : Int) = (↑a_19.x.used : Int) ∧
  (a_19.x.t.length ≤ (dropI a_15.x a_15.key).t.length ∧
  RowsEq a_19.x.t.length (4 : Nat) (encRows encP (dropI a_15.x a_15.key).t) (encRows encP a_19.x.t)) ∧
  (a.n ≤ a.n ∧
  RowsEq a.n (3 : Nat) a.rows a.rows) ∧
  (Has a_19.x a_19.l ∧
  a_19.l.length ≤ a_4.i + (1 : Nat) ∧
  a_19.l.length ≤ a_19.cl) ∧
  True))) ∧
  ((toI (a.rows ((0 : Nat) + (↑a_4.i : Int).toNat) (0 : Nat)) == (1 : Int)) = Bool.false →
  ((toI (a.rows ((0 : Nat) + (↑a_4.i : Int).toNat) (0 : Nat)) == (2 : Int)) = Bool.true →
  (∃ (a_16 : Nat × Nat), (0 : Int) = (↑a_16.fst : Int) ∧
  ((0 : Nat) = (mL a_4.l (toI (a.rows a_4.i (2 : Nat))) a_16.fst).length ∧
  (0 : Nat) = a_16.snd) ∧
  (toI (a.rows ((0 : Nat) + (↑a_4.i : Int).toNat) (0 : Nat)) == (2 : Int)) = (toI (a.rows ((0 : Nat) + (↑a_4.i : Int).toNat) (0 : Nat)) == (2 : Int)) ∧
  (toI (a.rows ((0 : Nat) + (↑a_4.i : Int).toNat) (0 : Nat)) == (1 : Int)) = (toI (a.rows ((0 : Nat) + (↑a_4.i : Int).toNat) (0 : Nat)) == (1 : Int)) ∧
  (toI (a.rows ((0 : Nat) + (↑a_4.i : Int).toNat) (0 : Nat)) == (0 : Int)) = (toI (a.rows ((0 : Nat) + (↑a_4.i : Int).toNat) (0 : Nat)) == (0 : Int)) ∧
  toI (a.rows ((0 : Nat) + (↑a_4.i : Int).toNat) (0 : Nat)) = toI (a.rows ((0 : Nat) + (↑a_4.i : Int).toNat) (0 : Nat)) ∧
  atL a_10.l a_10.key = atL a_10.l a_10.key ∧
  (0 : Nat) = (0 : Nat) ∧
  Decidable.decide ((↑a_4.i : Int) < (80 : Int)) = Decidable.decide ((↑a_4.i : Int) < (80 : Int)) ∧
  (↑a_4.i : Int) = (↑a_4.i : Int) ∧
  ((0 : Nat) = (0 : Nat) ∧
  a_4.l.length = a_4.l.length ∧
  a_4.cl = a_4.cl) ∧
  (0 : Nat) = (0 : Nat) ∧
  Bool.false = Bool.false ∧
  Bool.true = Bool.true ∧
  Bool.false = Bool.false ∧
  ((0 : Nat) = (0 : Nat) ∧
  a.n = a.n ∧
  a.cap = a.cap) ∧
  (mL a_4.l (toI (a.rows a_4.i (2 : Nat))) a_16.fst).length = (0 : Nat) ∧
  toI (a.rows ((0 : Nat) + (↑a_4.i : Int).toNat) (0 : Nat)) = toI (a.rows ((0 : Nat) + (↑a_4.i : Int).toNat) (0 : Nat)) ∧
  cutB a_8.fst a_8.snd = cutB a_8.fst a_8.snd ∧
  toI (a.rows ((0 : Nat) + (↑a_4.i : Int).toNat) (2 : Nat)) = toI (a.rows ((0 : Nat) + (↑a_4.i : Int).toNat) (2 : Nat)) ∧
  (a_4.l.length ≤ a_4.l.length ∧
  RowsEq a_4.l.length (2 : Nat) (encRows encE a_4.l) (encRows encE a_4.l)) ∧
  ((0 : Nat) = (0 : Nat) ∧
  a_4.x.t.length = a_4.x.t.length ∧
  a_4.cap = a_4.cap) ∧
  (↑a_4.x.n : Int) = (↑a_4.x.n : Int) ∧
  (↑a_4.x.used : Int) = (↑a_4.x.used : Int) ∧
  (a_4.x.t.length ≤ a_4.x.t.length ∧
  RowsEq a_4.x.t.length (4 : Nat) (encRows encP a_4.x.t) (encRows encP a_4.x.t)) ∧
  (a.n ≤ a.n ∧
  RowsEq a.n (3 : Nat) a.rows a.rows) ∧
  (a_16.fst ≤ a_4.l.length ∧
  (mL a_4.l (toI (a.rows a_4.i (2 : Nat))) a_16.fst).length ≤ a_16.snd) ∧
  True) ∧
  ∀ (a_16 : Nat × Nat), a_16.fst ≤ a_4.l.length ∧
  (mL a_4.l (toI (a.rows a_4.i (2 : Nat))) a_16.fst).length ≤ a_16.snd →
  (Decidable.decide ((↑a_16.fst : Int) < (↑a_4.l.length : Int)) = Bool.true →
  ((0 : Int) ≤ (↑a_16.fst : Int) ∧
  (↑a_16.fst : Int) < (↑a_4.l.length : Int)) ∧
  (0 : Nat) + (↑a_16.fst : Int).toNat < a_4.l.length ∧
  (InR IntKind.i64 (gl a_4.l ((0 : Nat) + (↑a_16.fst : Int).toNat)).snd →
  InR IntKind.i64 (toI (a.rows ((0 : Nat) + (↑a_4.i : Int).toNat) (2 : Nat))) →
  (Decidable.decide (toI (a.rows ((0 : Nat) + (↑a_4.i : Int).toNat) (2 : Nat)) ≤ (gl a_4.l ((0 : Nat) + (↑a_16.fst : Int).toNat)).snd) = Bool.true →
  ((0 : Int) ≤ (↑a_16.fst : Int) ∧
  (↑a_16.fst : Int) < (↑a_4.l.length : Int)) ∧
  (0 : Nat) + (↑a_16.fst : Int).toNat < a_4.l.length ∧
  (0 : Nat) + (mL a_4.l (toI (a.rows a_4.i (2 : Nat))) a_16.fst).length ≤ (mL a_4.l (toI (a.rows a_4.i (2 : Nat))) a_16.fst).length ∧
  (1 : Nat) ≤ (1 : Nat) ∧
  ((mL a_4.l (toI (a.rows a_4.i (2 : Nat))) a_16.fst).length + (1 : Nat)) * (24 : Nat) ≤ (140737488355328 : Nat) ∧
  ∀ (cap : Nat), (mL a_4.l (toI (a.rows a_4.i (2 : Nat))) a_16.fst).length + (1 : Nat) ≤ cap →
  cap ≤ lenMax →
  ((mL a_4.l (toI (a.rows a_4.i (2 : Nat))) a_16.fst).length + (1 : Nat) ≤ a_16.snd →
  cap = a_16.snd) →
  InR IntKind.i64 ((↑a_16.fst : Int) + (1 : Int)) ∧
  ∃ (a' : Nat × Nat), (↑a_16.fst : Int) + (1 : Int) = (↑a'.fst : Int) ∧
  ((0 : Nat) = (0 : Nat) ∧
  (mL a_4.l (toI (a.rows a_4.i (2 : Nat))) a_16.fst).length + (1 : Nat) = (mL a_4.l (toI (a.rows a_4.i (2 : Nat))) a'.fst).length ∧
  cap = a'.snd) ∧
  (toI (a.rows ((0 : Nat) + (↑a_4.i : Int).toNat) (0 : Nat)) == (2 : Int)) = (toI (a.rows ((0 : Nat) + (↑a_4.i : Int).toNat) (0 : Nat)) == (2 : Int)) ∧
  (toI (a.rows ((0 : Nat) + (↑a_4.i : Int).toNat) (0 : Nat)) == (1 : Int)) = (toI (a.rows ((0 : Nat) + (↑a_4.i : Int).toNat) (0 : Nat)) == (1 : Int)) ∧
  (toI (a.rows ((0 : Nat) + (↑a_4.i : Int).toNat) (0 : Nat)) == (0 : Int)) = (toI (a.rows ((0 : Nat) + (↑a_4.i : Int).toNat) (0 : Nat)) == (0 : Int)) ∧
  toI (a.rows ((0 : Nat) + (↑a_4.i : Int).toNat) (0 : Nat)) = toI (a.rows ((0 : Nat) + (↑a_4.i : Int).toNat) (0 : Nat)) ∧
  atL a_10.l a_10.key = atL a_10.l a_10.key ∧
  (0 : Nat) = (0 : Nat) ∧
  Decidable.decide ((↑a_4.i : Int) < (80 : Int)) = Decidable.decide ((↑a_4.i : Int) < (80 : Int)) ∧
  (↑a_4.i : Int) = (↑a_4.i : Int) ∧
  ((0 : Nat) = (0 : Nat) ∧
  a_4.l.length = a_4.l.length ∧
  a_4.cl = a_4.cl) ∧
  (0 : Nat) = (0 : Nat) ∧
  Bool.false = Bool.false ∧
  Bool.true = Bool.true ∧
  Bool.false = Bool.false ∧
  ((0 : Nat) = (0 : Nat) ∧
  a.n = a.n ∧
  a.cap = a.cap) ∧
  ((mL a_4.l (toI (a.rows a_4.i (2 : Nat))) a'.fst).length ≤ (mL a_4.l (toI (a.rows a_4.i (2 : Nat))) a_16.fst).length + (1 : Nat) ∧
  RowsEq (mL a_4.l (toI (a.rows a_4.i (2 : Nat))) a'.fst).length (2 : Nat) (appRows (encRows encE (mL a_4.l (toI (a.rows a_4.i (2 : Nat))) a_16.fst)) (0 : Nat) (mL a_4.l (toI (a.rows a_4.i (2 : Nat))) a_16.fst).length fun (i j : Nat) => flatRows (2 : Nat) [Value.string (gl a_4.l ((0 : Nat) + (↑a_16.fst : Int).toNat)).fst, Value.int IntKind.i64 (gl a_4.l ((0 : Nat) + (↑a_16.fst : Int).toNat)).snd] ((0 : Nat) + i) j) (encRows encE (mL a_4.l (toI (a.rows a_4.i (2 : Nat))) a'.fst))) ∧
  toI (a.rows ((0 : Nat) + (↑a_4.i : Int).toNat) (0 : Nat)) = toI (a.rows ((0 : Nat) + (↑a_4.i : Int).toNat) (0 : Nat)) ∧
  cutB a_8.fst a_8.snd = cutB a_8.fst a_8.snd ∧
  toI (a.rows ((0 : Nat) + (↑a_4.i : Int).toNat) (2 : Nat)) = toI (a.rows ((0 : Nat) + (↑a_4.i : Int).toNat) (2 : Nat)) ∧
  (a_4.l.length ≤ a_4.l.length ∧
  RowsEq a_4.l.length (2 : Nat) (encRows encE a_4.l) (encRows encE a_4.l)) ∧
  ((0 : Nat) = (0 : Nat) ∧
  a_4.x.t.length = a_4.x.t.length ∧
  a_4.cap = a_4.cap) ∧
  (↑a_4.x.n : Int) = (↑a_4.x.n : Int) ∧
  (↑a_4.x.used : Int) = (↑a_4.x.used : Int) ∧
  (a_4.x.t.length ≤ a_4.x.t.length ∧
  RowsEq a_4.x.t.length (4 : Nat) (encRows encP a_4.x.t) (encRows encP a_4.x.t)) ∧
  (a.n ≤ a.n ∧
  RowsEq a.n (3 : Nat) a.rows a.rows) ∧
  (a'.fst ≤ a_4.l.length ∧
  (mL a_4.l (toI (a.rows a_4.i (2 : Nat))) a'.fst).length ≤ a'.snd) ∧
  a_4.l.length - a'.fst < a_4.l.length - a_16.fst) ∧
  (Decidable.decide (toI (a.rows ((0 : Nat) + (↑a_4.i : Int).toNat) (2 : Nat)) ≤ (gl a_4.l ((0 : Nat) + (↑a_16.fst : Int).toNat)).snd) = Bool.false →
  InR IntKind.i64 ((↑a_16.fst : Int) + (1 : Int)) ∧
  ∃ (a' : Nat × Nat), (↑a_16.fst : Int) + (1 : Int) = (↑a'.fst : Int) ∧
  ((0 : Nat) = (0 : Nat) ∧
  (mL a_4.l (toI (a.rows a_4.i (2 : Nat))) a_16.fst).length = (mL a_4.l (toI (a.rows a_4.i (2 : Nat))) a'.fst).length ∧
  a_16.snd = a'.snd) ∧
  (toI (a.rows ((0 : Nat) + (↑a_4.i : Int).toNat) (0 : Nat)) == (2 : Int)) = (toI (a.rows ((0 : Nat) + (↑a_4.i : Int).toNat) (0 : Nat)) == (2 : Int)) ∧
  (toI (a.rows ((0 : Nat) + (↑a_4.i : Int).toNat) (0 : Nat)) == (1 : Int)) = (toI (a.rows ((0 : Nat) + (↑a_4.i : Int).toNat) (0 : Nat)) == (1 : Int)) ∧
  (toI (a.rows ((0 : Nat) + (↑a_4.i : Int).toNat) (0 : Nat)) == (0 : Int)) = (toI (a.rows ((0 : Nat) + (↑a_4.i : Int).toNat) (0 : Nat)) == (0 : Int)) ∧
  toI (a.rows ((0 : Nat) + (↑a_4.i : Int).toNat) (0 : Nat)) = toI (a.rows ((0 : Nat) + (↑a_4.i : Int).toNat) (0 : Nat)) ∧
  atL a_10.l a_10.key = atL a_10.l a_10.key ∧
  (0 : Nat) = (0 : Nat) ∧
  Decidable.decide ((↑a_4.i : Int) < (80 : Int)) = Decidable.decide ((↑a_4.i : Int) < (80 : Int)) ∧
  (↑a_4.i : Int) = (↑a_4.i : Int) ∧
  ((0 : Nat) = (0 : Nat) ∧
  a_4.l.length = a_4.l.length ∧
  a_4.cl = a_4.cl) ∧
  (0 : Nat) = (0 : Nat) ∧
  Bool.false = Bool.false ∧
  Bool.true = Bool.true ∧
  Bool.false = Bool.false ∧
  ((0 : Nat) = (0 : Nat) ∧
  a.n = a.n ∧
  a.cap = a.cap) ∧
  ((mL a_4.l (toI (a.rows a_4.i (2 : Nat))) a'.fst).length ≤ (mL a_4.l (toI (a.rows a_4.i (2 : Nat))) a_16.fst).length ∧
  RowsEq (mL a_4.l (toI (a.rows a_4.i (2 : Nat))) a'.fst).length (2 : Nat) (encRows encE (mL a_4.l (toI (a.rows a_4.i (2 : Nat))) a_16.fst)) (encRows encE (mL a_4.l (toI (a.rows a_4.i (2 : Nat))) a'.fst))) ∧
  toI (a.rows ((0 : Nat) + (↑a_4.i : Int).toNat) (0 : Nat)) = toI (a.rows ((0 : Nat) + (↑a_4.i : Int).toNat) (0 : Nat)) ∧
  cutB a_8.fst a_8.snd = cutB a_8.fst a_8.snd ∧
  toI (a.rows ((0 : Nat) + (↑a_4.i : Int).toNat) (2 : Nat)) = toI (a.rows ((0 : Nat) + (↑a_4.i : Int).toNat) (2 : Nat)) ∧
  (a_4.l.length ≤ a_4.l.length ∧
  RowsEq a_4.l.length (2 : Nat) (encRows encE a_4.l) (encRows encE a_4.l)) ∧
  ((0 : Nat) = (0 : Nat) ∧
  a_4.x.t.length = a_4.x.t.length ∧
  a_4.cap = a_4.cap) ∧
  (↑a_4.x.n : Int) = (↑a_4.x.n : Int) ∧
  (↑a_4.x.used : Int) = (↑a_4.x.used : Int) ∧
  (a_4.x.t.length ≤ a_4.x.t.length ∧
  RowsEq a_4.x.t.length (4 : Nat) (encRows encP a_4.x.t) (encRows encP a_4.x.t)) ∧
  (a.n ≤ a.n ∧
  RowsEq a.n (3 : Nat) a.rows a.rows) ∧
  (a'.fst ≤ a_4.l.length ∧
  (mL a_4.l (toI (a.rows a_4.i (2 : Nat))) a'.fst).length ≤ a'.snd) ∧
  a_4.l.length - a'.fst < a_4.l.length - a_16.fst))) ∧
  (Decidable.decide ((↑a_16.fst : Int) < (↑a_4.l.length : Int)) = Bool.false →
  InR IntKind.i64 (toI (a.rows ((0 : Nat) + (↑a_4.i : Int).toNat) (2 : Nat))) →
  ∃ (a_20 : LowA), (0 : Nat) = (0 : Nat) ∧
  toI (a.rows ((0 : Nat) + (↑a_4.i : Int).toNat) (2 : Nat)) = a_20.pos ∧
  ((0 : Nat) = (0 : Nat) ∧
  a_4.x.t.length = a_20.x.t.length ∧
  a_4.cap = a_20.cap) ∧
  (↑a_4.x.n : Int) = (↑a_20.x.n : Int) ∧
  (↑a_4.x.used : Int) = (↑a_20.x.used : Int) ∧
  (a_20.x.t.length ≤ a_4.x.t.length ∧
  RowsEq a_20.x.t.length (4 : Nat) (encRows encP a_4.x.t) (encRows encP a_20.x.t)) ∧
  (Inv a_20.x ∧
  a_20.x.n < (10000 : Nat) ∧
  belowN a_20.x.t a_20.pos a_20.x.t.length ≤ a_20.x.n) ∧
  ∀ (b : Unit), True →
  InR IntKind.i64 ((↑a_4.l.length : Int) - (↑(mL a_4.l (toI (a.rows a_4.i (2 : Nat))) a_16.fst).length : Int)) ∧
  (((↑(belowN a_20.x.t a_20.pos a_20.x.t.length) : Int) != (↑a_4.l.length : Int) - (↑(mL a_4.l (toI (a.rows a_4.i (2 : Nat))) a_16.fst).length : Int)) = Bool.true →
  ∃ (b : Unit), Bool.false = Bool.true ∧
  True ∧
  True) ∧
  (((↑(belowN a_20.x.t a_20.pos a_20.x.t.length) : Int) != (↑a_4.l.length : Int) - (↑(mL a_4.l (toI (a.rows a_4.i (2 : Nat))) a_16.fst).length : Int)) = Bool.false →
  ∃ (a_23 : AllS), ((0 : Nat) = (0 : Nat) ∧
  (mL a_4.l (toI (a.rows a_4.i (2 : Nat))) a_16.fst).length = a_23.l.length ∧
  a_16.snd = a_23.cl) ∧
  atL a_10.l a_10.key = atL a_10.l a_10.key ∧
  (0 : Nat) = (0 : Nat) ∧
  Decidable.decide ((↑a_4.i : Int) < (80 : Int)) = Decidable.decide ((↑a_4.i : Int) < (80 : Int)) ∧
  (↑a_4.i : Int) = (↑a_4.i : Int) ∧
  (0 : Nat) = (0 : Nat) ∧
  Bool.false = Bool.false ∧
  Bool.true = Bool.true ∧
  Bool.false = Bool.false ∧
  ((0 : Nat) = (0 : Nat) ∧
  a.n = a.n ∧
  a.cap = a.cap) ∧
  toI (a.rows ((0 : Nat) + (↑a_4.i : Int).toNat) (0 : Nat)) = toI (a.rows ((0 : Nat) + (↑a_4.i : Int).toNat) (0 : Nat)) ∧
  cutB a_8.fst a_8.snd = cutB a_8.fst a_8.snd ∧
  toI (a.rows ((0 : Nat) + (↑a_4.i : Int).toNat) (2 : Nat)) = toI (a.rows ((0 : Nat) + (↑a_4.i : Int).toNat) (2 : Nat)) ∧
  (a_23.l.length ≤ (mL a_4.l (toI (a.rows a_4.i (2 : Nat))) a_16.fst).length ∧
  RowsEq a_23.l.length (2 : Nat) (encRows encE (mL a_4.l (toI (a.rows a_4.i (2 : Nat))) a_16.fst)) (encRows encE a_23.l)) ∧
  ((0 : Nat) = (0 : Nat) ∧
  (belowI a_20.x a_20.pos).t.length = a_23.x.t.length ∧
  a_20.cap = a_23.cap) ∧
  (↑(belowI a_20.x a_20.pos).n : Int) = (↑a_23.x.n : Int) ∧
  (↑(belowI a_20.x a_20.pos).used : Int) = (↑a_23.x.used : Int) ∧
  (a_23.x.t.length ≤ (belowI a_20.x a_20.pos).t.length ∧
  RowsEq a_23.x.t.length (4 : Nat) (encRows encP (belowI a_20.x a_20.pos).t) (encRows encP a_23.x.t)) ∧
  (a.n ≤ a.n ∧
  RowsEq a.n (3 : Nat) a.rows a.rows) ∧
  (Has a_23.x a_23.l ∧
  a_23.l.length ≤ a_4.i + (1 : Nat) ∧
  a_23.l.length ≤ a_23.cl) ∧
  True))) ∧
  ((toI (a.rows ((0 : Nat) + (↑a_4.i : Int).toNat) (0 : Nat)) == (2 : Int)) = Bool.false →
  ∃ (a_16 : AllS), ((0 : Nat) = (0 : Nat) ∧
  a_4.l.length = a_16.l.length ∧
  a_4.cl = a_16.cl) ∧
  atL a_10.l a_10.key = atL a_10.l a_10.key ∧
  (0 : Nat) = (0 : Nat) ∧
  Decidable.decide ((↑a_4.i : Int) < (80 : Int)) = Decidable.decide ((↑a_4.i : Int) < (80 : Int)) ∧
  (↑a_4.i : Int) = (↑a_4.i : Int) ∧
  (0 : Nat) = (0 : Nat) ∧
  Bool.false = Bool.false ∧
  Bool.true = Bool.true ∧
  Bool.false = Bool.false ∧
  ((0 : Nat) = (0 : Nat) ∧
  a.n = a.n ∧
  a.cap = a.cap) ∧
  toI (a.rows ((0 : Nat) + (↑a_4.i : Int).toNat) (0 : Nat)) = toI (a.rows ((0 : Nat) + (↑a_4.i : Int).toNat) (0 : Nat)) ∧
  cutB a_8.fst a_8.snd = cutB a_8.fst a_8.snd ∧
  toI (a.rows ((0 : Nat) + (↑a_4.i : Int).toNat) (2 : Nat)) = toI (a.rows ((0 : Nat) + (↑a_4.i : Int).toNat) (2 : Nat)) ∧
  (a_16.l.length ≤ a_4.l.length ∧
  RowsEq a_16.l.length (2 : Nat) (encRows encE a_4.l) (encRows encE a_16.l)) ∧
  ((0 : Nat) = (0 : Nat) ∧
  a_4.x.t.length = a_16.x.t.length ∧
  a_4.cap = a_16.cap) ∧
  (↑a_4.x.n : Int) = (↑a_16.x.n : Int) ∧
  (↑a_4.x.used : Int) = (↑a_16.x.used : Int) ∧
  (a_16.x.t.length ≤ a_4.x.t.length ∧
  RowsEq a_16.x.t.length (4 : Nat) (encRows encP a_4.x.t) (encRows encP a_16.x.t)) ∧
  (a.n ≤ a.n ∧
  RowsEq a.n (3 : Nat) a.rows a.rows) ∧
  (Has a_16.x a_16.l ∧
  a_16.l.length ≤ a_4.i + (1 : Nat) ∧
  a_16.l.length ≤ a_16.cl) ∧
  True)))) ∧
  ∀ (a_12 : AllS), Has a_12.x a_12.l ∧
  a_12.l.length ≤ a_4.i + (1 : Nat) ∧
  a_12.l.length ≤ a_12.cl →
  (∃ (a_14 : Nat × Nat), (0 : Int) = (↑a_14.fst : Int) ∧
  ((0 : Nat) = a_14.fst ∧
  (0 : Nat) = a_14.snd) ∧
  ((0 : Nat) = (0 : Nat) ∧
  a_12.l.length = a_12.l.length ∧
  a_12.cl = a_12.cl) ∧
  atL a_10.l a_10.key = atL a_10.l a_10.key ∧
  (0 : Nat) = (0 : Nat) ∧
  Decidable.decide ((↑a_4.i : Int) < (80 : Int)) = Decidable.decide ((↑a_4.i : Int) < (80 : Int)) ∧
  (↑a_4.i : Int) = (↑a_4.i : Int) ∧
  (0 : Nat) = (0 : Nat) ∧
  Bool.false = Bool.false ∧
  Bool.true = Bool.true ∧
  Bool.false = Bool.false ∧
  ((0 : Nat) = (0 : Nat) ∧
  a.n = a.n ∧
  a.cap = a.cap) ∧
  a_14.fst = (0 : Nat) ∧
  toI (a.rows ((0 : Nat) + (↑a_4.i : Int).toNat) (0 : Nat)) = toI (a.rows ((0 : Nat) + (↑a_4.i : Int).toNat) (0 : Nat)) ∧
  cutB a_8.fst a_8.snd = cutB a_8.fst a_8.snd ∧
  toI (a.rows ((0 : Nat) + (↑a_4.i : Int).toNat) (2 : Nat)) = toI (a.rows ((0 : Nat) + (↑a_4.i : Int).toNat) (2 : Nat)) ∧
  (a_12.l.length ≤ a_12.l.length ∧
  RowsEq a_12.l.length (2 : Nat) (encRows encE a_12.l) (encRows encE a_12.l)) ∧
  ((0 : Nat) = (0 : Nat) ∧
  a_12.x.t.length = a_12.x.t.length ∧
  a_12.cap = a_12.cap) ∧
  (↑a_12.x.n : Int) = (↑a_12.x.n : Int) ∧
  (↑a_12.x.used : Int) = (↑a_12.x.used : Int) ∧
  (a_12.x.t.length ≤ a_12.x.t.length ∧
  RowsEq a_12.x.t.length (4 : Nat) (encRows encP a_12.x.t) (encRows encP a_12.x.t)) ∧
  (a.n ≤ a.n ∧
  RowsEq a.n (3 : Nat) a.rows a.rows) ∧
  a_14.fst ≤ a_12.l.length ∧
  True) ∧
  ∀ (a_14 : Nat × Nat), a_14.fst ≤ a_12.l.length →
  (Decidable.decide ((↑a_14.fst : Int) < (↑a_12.l.length : Int)) = Bool.true →
  ((0 : Int) ≤ (↑a_14.fst : Int) ∧
  (↑a_14.fst : Int) < (↑a_12.l.length : Int)) ∧
  (0 : Nat) + (↑a_14.fst : Int).toNat < a_12.l.length ∧
  (0 : Nat) + a_14.fst ≤ a_14.fst ∧
  (1 : Nat) ≤ (1 : Nat) ∧
  (a_14.fst + (1 : Nat)) * (16 : Nat) ≤ (140737488355328 : Nat) ∧
  ∀ (cap : Nat), a_14.fst + (1 : Nat) ≤ cap →
  cap ≤ lenMax →
  (a_14.fst + (1 : Nat) ≤ a_14.snd →
  cap = a_14.snd) →
  InR IntKind.i64 ((↑a_14.fst : Int) + (1 : Int)) ∧
  ∃ (a' : Nat × Nat), (↑a_14.fst : Int) + (1 : Int) = (↑a'.fst : Int) ∧
  ((0 : Nat) = (0 : Nat) ∧
  a_14.fst + (1 : Nat) = a'.fst ∧
  cap = a'.snd) ∧
  ((0 : Nat) = (0 : Nat) ∧
  a_12.l.length = a_12.l.length ∧
  a_12.cl = a_12.cl) ∧
  atL a_10.l a_10.key = atL a_10.l a_10.key ∧
  (0 : Nat) = (0 : Nat) ∧
  Decidable.decide ((↑a_4.i : Int) < (80 : Int)) = Decidable.decide ((↑a_4.i : Int) < (80 : Int)) ∧
  (↑a_4.i : Int) = (↑a_4.i : Int) ∧
  (0 : Nat) = (0 : Nat) ∧
  Bool.false = Bool.false ∧
  Bool.true = Bool.true ∧
  Bool.false = Bool.false ∧
  ((0 : Nat) = (0 : Nat) ∧
  a.n = a.n ∧
  a.cap = a.cap) ∧
  (a'.fst ≤ a_14.fst + (1 : Nat) ∧
  RowsEq a'.fst (1 : Nat) (appRows (encRows encT (List.take a_14.fst (List.map Prod.fst a_12.l))) (0 : Nat) a_14.fst fun (i j : Nat) => flatRows (1 : Nat) [Value.string (gl a_12.l ((0 : Nat) + (↑a_14.fst : Int).toNat)).fst] ((0 : Nat) + i) j) (encRows encT (List.take a'.fst (List.map Prod.fst a_12.l)))) ∧
  toI (a.rows ((0 : Nat) + (↑a_4.i : Int).toNat) (0 : Nat)) = toI (a.rows ((0 : Nat) + (↑a_4.i : Int).toNat) (0 : Nat)) ∧
  cutB a_8.fst a_8.snd = cutB a_8.fst a_8.snd ∧
  toI (a.rows ((0 : Nat) + (↑a_4.i : Int).toNat) (2 : Nat)) = toI (a.rows ((0 : Nat) + (↑a_4.i : Int).toNat) (2 : Nat)) ∧
  (a_12.l.length ≤ a_12.l.length ∧
  RowsEq a_12.l.length (2 : Nat) (encRows encE a_12.l) (encRows encE a_12.l)) ∧
  ((0 : Nat) = (0 : Nat) ∧
  a_12.x.t.length = a_12.x.t.length ∧
  a_12.cap = a_12.cap) ∧
  (↑a_12.x.n : Int) = (↑a_12.x.n : Int) ∧
  (↑a_12.x.used : Int) = (↑a_12.x.used : Int) ∧
  (a_12.x.t.length ≤ a_12.x.t.length ∧
  RowsEq a_12.x.t.length (4 : Nat) (encRows encP a_12.x.t) (encRows encP a_12.x.t)) ∧
  (a.n ≤ a.n ∧
  RowsEq a.n (3 : Nat) a.rows a.rows) ∧
  a'.fst ≤ a_12.l.length ∧
  a_12.l.length - a'.fst < a_12.l.length - a_14.fst) ∧
  (Decidable.decide ((↑a_14.fst : Int) < (↑a_12.l.length : Int)) = Bool.false →
  ∃ (a_17 : AtA), ((0 : Nat) = (0 : Nat) ∧
  a_12.l.length = a_17.l.length ∧
  a_12.cl = a_17.cap) ∧
  cutB a_8.fst a_8.snd = a_17.key ∧
  (a_17.l.length ≤ a_12.l.length ∧
  RowsEq a_17.l.length (2 : Nat) (encRows encE a_12.l) (encRows encE a_17.l)) ∧
  a_17.l.length < (1000 : Nat) ∧
  ∀ (b : Unit), True →
  ∃ (a_19 : KeyA), (0 : Nat) = (0 : Nat) ∧
  cutB a_8.fst a_8.snd = a_19.key ∧
  ((0 : Nat) = (0 : Nat) ∧
  a_12.x.t.length = a_19.x.t.length ∧
  a_12.cap = a_19.cap) ∧
  (↑a_12.x.n : Int) = (↑a_19.x.n : Int) ∧
  (↑a_12.x.used : Int) = (↑a_19.x.used : Int) ∧
  (a_19.x.t.length ≤ a_12.x.t.length ∧
  RowsEq a_19.x.t.length (4 : Nat) (encRows encP a_12.x.t) (encRows encP a_19.x.t)) ∧
  (Inv a_19.x ∧
  a_19.key.size ≤ lenMax) ∧
  ∀ (b : Unit), True →
  ((!(getI a_19.x a_19.key).snd == Decidable.decide ((0 : Int) ≤ atL a_17.l a_17.key)) = Bool.true →
  ∃ (b : Unit), Bool.false = Bool.true ∧
  True ∧
  True) ∧
  ((!(getI a_19.x a_19.key).snd == Decidable.decide ((0 : Int) ≤ atL a_17.l a_17.key)) = Bool.false →
  ((getI a_19.x a_19.key).snd = Bool.true →
  ((0 : Int) ≤ atL a_17.l a_17.key ∧
  atL a_17.l a_17.key < (↑a_12.l.length : Int)) ∧
  (0 : Nat) + (atL a_17.l a_17.key).toNat < a_12.l.length ∧
  (InR IntKind.i64 (gl a_12.l ((0 : Nat) + (atL a_17.l a_17.key).toNat)).snd →
  (((getI a_19.x a_19.key).fst != (gl a_12.l ((0 : Nat) + (atL a_17.l a_17.key).toNat)).snd) = Bool.true →
  ∃ (b : Unit), Bool.false = Bool.true ∧
  True ∧
  True) ∧
  (((getI a_19.x a_19.key).fst != (gl a_12.l ((0 : Nat) + (atL a_17.l a_17.key).toNat)).snd) = Bool.false →
  ((!(getI a_19.x a_19.key).snd) = Bool.true →
  (((getI a_19.x a_19.key).fst != (0 : Int)) = Bool.true →
  ∃ (b : Unit), Bool.false = Bool.true ∧
  True ∧
  True) ∧
  (((getI a_19.x a_19.key).fst != (0 : Int)) = Bool.false →
  InR IntKind.i64 (↑a_12.x.n : Int) →
  (((↑a_12.x.n : Int) != (↑a_12.l.length : Int)) = Bool.true →
  ∃ (b : Unit), Bool.false = Bool.true ∧
  True ∧
  True) ∧
  (((↑a_12.x.n : Int) != (↑a_12.l.length : Int)) = Bool.false →
  ∃ (a_29 : KeyA), (0 : Nat) = (0 : Nat) ∧
  ((0 : Nat) = (0 : Nat) ∧
  a_12.x.t.length = a_29.x.t.length ∧
  a_12.cap = a_29.cap) ∧
  (↑a_12.x.n : Int) = (↑a_29.x.n : Int) ∧
  (↑a_12.x.used : Int) = (↑a_29.x.used : Int) ∧
  (a_29.x.t.length ≤ a_12.x.t.length ∧
  RowsEq a_29.x.t.length (4 : Nat) (encRows encP a_12.x.t) (encRows encP a_29.x.t)) ∧
  a_29.x.t.length < (100000 : Nat) ∧
  ∀ (b : Nat), True →
  ∃ (a_31 : RiseA), ((0 : Nat) = (0 : Nat) ∧
  a_14.fst = a_31.l.length ∧
  a_14.snd = a_31.cap) ∧
  (a_31.l.length ≤ a_14.fst ∧
  RowsEq a_31.l.length (1 : Nat) (encRows encT (List.take a_14.fst (List.map Prod.fst a_12.l))) (encRows encT a_31.l)) ∧
  (a_31.l.length < (1000 : Nat) ∧
  a_31.l.Nodup) ∧
  ∀ (b_1 : Nat), True →
  ∃ (a_33 : TwoA), ((0 : Nat) = (0 : Nat) ∧
  (keysOf a_29.x.t).length = a_33.l.length ∧
  b = a_33.c1) ∧
  ((0 : Nat) = (0 : Nat) ∧
  a_31.l.length = a_33.l.length ∧
  b_1 = a_33.c2) ∧
  (a_33.l.length ≤ (keysOf a_29.x.t).length ∧
  RowsEq a_33.l.length (1 : Nat) (encRows encT (sortB (keysOf a_29.x.t))) (encRows encT a_33.l)) ∧
  (a_33.l.length ≤ a_31.l.length ∧
  RowsEq a_33.l.length (1 : Nat) (encRows encT (sortB a_31.l)) (encRows encT a_33.l)) ∧
  a_33.l.length < (100000 : Nat) ∧
  ∀ (b : Unit), True →
  InR IntKind.i64 ((↑a_4.i : Int) + (1 : Int)) ∧
  ∃ (a' : AllS), (↑a_4.i : Int) + (1 : Int) = (↑a'.i : Int) ∧
  ((0 : Nat) = (0 : Nat) ∧
  a_12.l.length = a'.l.length ∧
  a_12.cl = a'.cl) ∧
  (0 : Nat) = (0 : Nat) ∧
  Bool.false = Bool.false ∧
  Bool.true = Bool.true ∧
  Bool.false = Bool.false ∧
  ((0 : Nat) = (0 : Nat) ∧
  a.n = a.n ∧
  a.cap = a.cap) ∧
  (a'.l.length ≤ a_12.l.length ∧
  RowsEq a'.l.length (2 : Nat) (encRows encE a_12.l) (encRows encE a'.l)) ∧
  ((0 : Nat) = (0 : Nat) ∧
  a_12.x.t.length = a'.x.t.length ∧
  a_12.cap = a'.cap) ∧
  (↑a_12.x.n : Int) = (↑a'.x.n : Int) ∧
  (↑a_12.x.used : Int) = (↑a'.x.used : Int) ∧
  (a'.x.t.length ≤ a_12.x.t.length ∧
  RowsEq a'.x.t.length (4 : Nat) (encRows encP a_12.x.t) (encRows encP a'.x.t)) ∧
  (a.n ≤ a.n ∧
  RowsEq a.n (3 : Nat) a.rows a.rows) ∧
  (Has a'.x a'.l ∧
  a'.l.length ≤ a'.i ∧
  a'.i ≤ (80 : Nat) ∧
  a'.l.length ≤ a'.cl) ∧
  (80 : Nat) - a'.i < (80 : Nat) - a_4.i))) ∧
  ((!(getI a_19.x a_19.key).snd) = Bool.false →
  InR IntKind.i64 (↑a_12.x.n : Int) →
  (((↑a_12.x.n : Int) != (↑a_12.l.length : Int)) = Bool.true →
  ∃ (b : Unit), Bool.false = Bool.true ∧
  True ∧
  True) ∧
  (((↑a_12.x.n : Int) != (↑a_12.l.length : Int)) = Bool.false →
  ∃ (a_28 : KeyA), (0 : Nat) = (0 : Nat) ∧
  ((0 : Nat) = (0 : Nat) ∧
  a_12.x.t.length = a_28.x.t.length ∧
  a_12.cap = a_28.cap) ∧
  (↑a_12.x.n : Int) = (↑a_28.x.n : Int) ∧
  (↑a_12.x.used : Int) = (↑a_28.x.used : Int) ∧
  (a_28.x.t.length ≤ a_12.x.t.length ∧
  RowsEq a_28.x.t.length (4 : Nat) (encRows encP a_12.x.t) (encRows encP a_28.x.t)) ∧
  a_28.x.t.length < (100000 : Nat) ∧
  ∀ (b : Nat), True →
  ∃ (a_30 : RiseA), ((0 : Nat) = (0 : Nat) ∧
  a_14.fst = a_30.l.length ∧
  a_14.snd = a_30.cap) ∧
  (a_30.l.length ≤ a_14.fst ∧
  RowsEq a_30.l.length (1 : Nat) (encRows encT (List.take a_14.fst (List.map Prod.fst a_12.l))) (encRows encT a_30.l)) ∧
  (a_30.l.length < (1000 : Nat) ∧
  a_30.l.Nodup) ∧
  ∀ (b_1 : Nat), True →
  ∃ (a_32 : TwoA), ((0 : Nat) = (0 : Nat) ∧
  (keysOf a_28.x.t).length = a_32.l.length ∧
  b = a_32.c1) ∧
  ((0 : Nat) = (0 : Nat) ∧
  a_30.l.length = a_32.l.length ∧
  b_1 = a_32.c2) ∧
  (a_32.l.length ≤ (keysOf a_28.x.t).length ∧
  RowsEq a_32.l.length (1 : Nat) (encRows encT (sortB (keysOf a_28.x.t))) (encRows encT a_32.l)) ∧
  (a_32.l.length ≤ a_30.l.length ∧
  RowsEq a_32.l.length (1 : Nat) (encRows encT (sortB a_30.l)) (encRows encT a_32.l)) ∧
  a_32.l.length < (100000 : Nat) ∧
  ∀ (b : Unit), True →
  InR IntKind.i64 ((↑a_4.i : Int) + (1 : Int)) ∧
  ∃ (a' : AllS), (↑a_4.i : Int) + (1 : Int) = (↑a'.i : Int) ∧
  ((0 : Nat) = (0 : Nat) ∧
  a_12.l.length = a'.l.length ∧
  a_12.cl = a'.cl) ∧
  (0 : Nat) = (0 : Nat) ∧
  Bool.false = Bool.false ∧
  Bool.true = Bool.true ∧
  Bool.false = Bool.false ∧
  ((0 : Nat) = (0 : Nat) ∧
  a.n = a.n ∧
  a.cap = a.cap) ∧
  (a'.l.length ≤ a_12.l.length ∧
  RowsEq a'.l.length (2 : Nat) (encRows encE a_12.l) (encRows encE a'.l)) ∧
  ((0 : Nat) = (0 : Nat) ∧
  a_12.x.t.length = a'.x.t.length ∧
  a_12.cap = a'.cap) ∧
  (↑a_12.x.n : Int) = (↑a'.x.n : Int) ∧
  (↑a_12.x.used : Int) = (↑a'.x.used : Int) ∧
  (a'.x.t.length ≤ a_12.x.t.length ∧
  RowsEq a'.x.t.length (4 : Nat) (encRows encP a_12.x.t) (encRows encP a'.x.t)) ∧
  (a.n ≤ a.n ∧
  RowsEq a.n (3 : Nat) a.rows a.rows) ∧
  (Has a'.x a'.l ∧
  a'.l.length ≤ a'.i ∧
  a'.i ≤ (80 : Nat) ∧
  a'.l.length ≤ a'.cl) ∧
  (80 : Nat) - a'.i < (80 : Nat) - a_4.i))))) ∧
  ((getI a_19.x a_19.key).snd = Bool.false →
  ((!(getI a_19.x a_19.key).snd) = Bool.true →
  (((getI a_19.x a_19.key).fst != (0 : Int)) = Bool.true →
  ∃ (b : Unit), Bool.false = Bool.true ∧
  True ∧
  True) ∧
  (((getI a_19.x a_19.key).fst != (0 : Int)) = Bool.false →
  InR IntKind.i64 (↑a_12.x.n : Int) →
  (((↑a_12.x.n : Int) != (↑a_12.l.length : Int)) = Bool.true →
  ∃ (b : Unit), Bool.false = Bool.true ∧
  True ∧
  True) ∧
  (((↑a_12.x.n : Int) != (↑a_12.l.length : Int)) = Bool.false →
  ∃ (a_27 : KeyA), (0 : Nat) = (0 : Nat) ∧
  ((0 : Nat) = (0 : Nat) ∧
  a_12.x.t.length = a_27.x.t.length ∧
  a_12.cap = a_27.cap) ∧
  (↑a_12.x.n : Int) = (↑a_27.x.n : Int) ∧
  (↑a_12.x.used : Int) = (↑a_27.x.used : Int) ∧
  (a_27.x.t.length ≤ a_12.x.t.length ∧
  RowsEq a_27.x.t.length (4 : Nat) (encRows encP a_12.x.t) (encRows encP a_27.x.t)) ∧
  a_27.x.t.length < (100000 : Nat) ∧
  ∀ (b : Nat), True →
  ∃ (a_29 : RiseA), ((0 : Nat) = (0 : Nat) ∧
  a_14.fst = a_29.l.length ∧
  a_14.snd = a_29.cap) ∧
  (a_29.l.length ≤ a_14.fst ∧
  RowsEq a_29.l.length (1 : Nat) (encRows encT (List.take a_14.fst (List.map Prod.fst a_12.l))) (encRows encT a_29.l)) ∧
  (a_29.l.length < (1000 : Nat) ∧
  a_29.l.Nodup) ∧
  ∀ (b_1 : Nat), True →
  ∃ (a_31 : TwoA), ((0 : Nat) = (0 : Nat) ∧
  (keysOf a_27.x.t).length = a_31.l.length ∧
  b = a_31.c1) ∧
  ((0 : Nat) = (0 : Nat) ∧
  a_29.l.length = a_31.l.length ∧
  b_1 = a_31.c2) ∧
  (a_31.l.length ≤ (keysOf a_27.x.t).length ∧
  RowsEq a_31.l.length (1 : Nat) (encRows encT (sortB (keysOf a_27.x.t))) (encRows encT a_31.l)) ∧
  (a_31.l.length ≤ a_29.l.length ∧
  RowsEq a_31.l.length (1 : Nat) (encRows encT (sortB a_29.l)) (encRows encT a_31.l)) ∧
  a_31.l.length < (100000 : Nat) ∧
  ∀ (b : Unit), True →
  InR IntKind.i64 ((↑a_4.i : Int) + (1 : Int)) ∧
  ∃ (a' : AllS), (↑a_4.i : Int) + (1 : Int) = (↑a'.i : Int) ∧
  ((0 : Nat) = (0 : Nat) ∧
  a_12.l.length = a'.l.length ∧
  a_12.cl = a'.cl) ∧
  (0 : Nat) = (0 : Nat) ∧
  Bool.false = Bool.false ∧
  Bool.true = Bool.true ∧
  Bool.false = Bool.false ∧
  ((0 : Nat) = (0 : Nat) ∧
  a.n = a.n ∧
  a.cap = a.cap) ∧
  (a'.l.length ≤ a_12.l.length ∧
  RowsEq a'.l.length (2 : Nat) (encRows encE a_12.l) (encRows encE a'.l)) ∧
  ((0 : Nat) = (0 : Nat) ∧
  a_12.x.t.length = a'.x.t.length ∧
  a_12.cap = a'.cap) ∧
  (↑a_12.x.n : Int) = (↑a'.x.n : Int) ∧
  (↑a_12.x.used : Int) = (↑a'.x.used : Int) ∧
  (a'.x.t.length ≤ a_12.x.t.length ∧
  RowsEq a'.x.t.length (4 : Nat) (encRows encP a_12.x.t) (encRows encP a'.x.t)) ∧
  (a.n ≤ a.n ∧
  RowsEq a.n (3 : Nat) a.rows a.rows) ∧
  (Has a'.x a'.l ∧
  a'.l.length ≤ a'.i ∧
  a'.i ≤ (80 : Nat) ∧
  a'.l.length ≤ a'.cl) ∧
  (80 : Nat) - a'.i < (80 : Nat) - a_4.i))) ∧
  ((!(getI a_19.x a_19.key).snd) = Bool.false →
  InR IntKind.i64 (↑a_12.x.n : Int) →
  (((↑a_12.x.n : Int) != (↑a_12.l.length : Int)) = Bool.true →
  ∃ (b : Unit), Bool.false = Bool.true ∧
  True ∧
  True) ∧
  (((↑a_12.x.n : Int) != (↑a_12.l.length : Int)) = Bool.false →
  ∃ (a_26 : KeyA), (0 : Nat) = (0 : Nat) ∧
  ((0 : Nat) = (0 : Nat) ∧
  a_12.x.t.length = a_26.x.t.length ∧
  a_12.cap = a_26.cap) ∧
  (↑a_12.x.n : Int) = (↑a_26.x.n : Int) ∧
  (↑a_12.x.used : Int) = (↑a_26.x.used : Int) ∧
  (a_26.x.t.length ≤ a_12.x.t.length ∧
  RowsEq a_26.x.t.length (4 : Nat) (encRows encP a_12.x.t) (encRows encP a_26.x.t)) ∧
  a_26.x.t.length < (100000 : Nat) ∧
  ∀ (b : Nat), True →
  ∃ (a_28 : RiseA), ((0 : Nat) = (0 : Nat) ∧
  a_14.fst = a_28.l.length ∧
  a_14.snd = a_28.cap) ∧
  (a_28.l.length ≤ a_14.fst ∧
  RowsEq a_28.l.length (1 : Nat) (encRows encT (List.take a_14.fst (List.map Prod.fst a_12.l))) (encRows encT a_28.l)) ∧
  (a_28.l.length < (1000 : Nat) ∧
  a_28.l.Nodup) ∧
  ∀ (b_1 : Nat), True →
  ∃ (a_30 : TwoA), ((0 : Nat) = (0 : Nat) ∧
  (keysOf a_26.x.t).length = a_30.l.length ∧
  b = a_30.c1) ∧
  ((0 : Nat) = (0 : Nat) ∧
  a_28.l.length = a_30.l.length ∧
  b_1 = a_30.c2) ∧
  (a_30.l.length ≤ (keysOf a_26.x.t).length ∧
  RowsEq a_30.l.length (1 : Nat) (encRows encT (sortB (keysOf a_26.x.t))) (encRows encT a_30.l)) ∧
  (a_30.l.length ≤ a_28.l.length ∧
  RowsEq a_30.l.length (1 : Nat) (encRows encT (sortB a_28.l)) (encRows encT a_30.l)) ∧
  a_30.l.length < (100000 : Nat) ∧
  ∀ (b : Unit), True →
  InR IntKind.i64 ((↑a_4.i : Int) + (1 : Int)) ∧
  ∃ (a' : AllS), (↑a_4.i : Int) + (1 : Int) = (↑a'.i : Int) ∧
  ((0 : Nat) = (0 : Nat) ∧
  a_12.l.length = a'.l.length ∧
  a_12.cl = a'.cl) ∧
  (0 : Nat) = (0 : Nat) ∧
  Bool.false = Bool.false ∧
  Bool.true = Bool.true ∧
  Bool.false = Bool.false ∧
  ((0 : Nat) = (0 : Nat) ∧
  a.n = a.n ∧
  a.cap = a.cap) ∧
  (a'.l.length ≤ a_12.l.length ∧
  RowsEq a'.l.length (2 : Nat) (encRows encE a_12.l) (encRows encE a'.l)) ∧
  ((0 : Nat) = (0 : Nat) ∧
  a_12.x.t.length = a'.x.t.length ∧
  a_12.cap = a'.cap) ∧
  (↑a_12.x.n : Int) = (↑a'.x.n : Int) ∧
  (↑a_12.x.used : Int) = (↑a'.x.used : Int) ∧
  (a'.x.t.length ≤ a_12.x.t.length ∧
  RowsEq a'.x.t.length (4 : Nat) (encRows encP a_12.x.t) (encRows encP a'.x.t)) ∧
  (a.n ≤ a.n ∧
  RowsEq a.n (3 : Nat) a.rows a.rows) ∧
  (Has a'.x a'.l ∧
  a'.l.length ≤ a'.i ∧
  a'.i ≤ (80 : Nat) ∧
  a'.l.length ≤ a'.cl) ∧
  (80 : Nat) - a'.i < (80 : Nat) - a_4.i)))))) ∧
  (Decidable.decide ((↑a_4.i : Int) < (80 : Int)) = Bool.false →
  ∃ (b : Unit), Bool.true = Bool.true ∧
  True ∧
  True)) ∧
  (Decidable.decide ((↑a_4.i : Int) < (↑a.n : Int)) = Bool.false →
  ∃ (b : Unit), Bool.true = Bool.true ∧
  True ∧
  True)) (by kernel_rfl) (by
  rintro ⟨n, cap, rows⟩ ⟨hn1, hn2⟩
  simp only [Nat.zero_add, Nat.sub_zero, Int.toNat_natCast, InR]
  have h0 := empty_has (n := 16) (by omega) (by omega)
  refine ⟨(), trivial, fun _ _ => ⟨by omega, by omega, by omega, ⟨⟨emptyI 16, 16, [], 0, 0⟩, ?_⟩, fun y ⟨y1, y2, y3, y4⟩ => ⟨fun c1 => ⟨fun c2 => ⟨?_, ?_, (toS (rows y.i 1), 50), rfl, rfl, by simp, fun _ _ => ⟨⟨y.l, y.cl, cutB (toS (rows y.i 1)) 50⟩, ?_⟩⟩, fun _ => ⟨(), trivial, trivial, trivial⟩⟩, fun _ => ⟨(), trivial, trivial, trivial⟩⟩⟩⟩
  · try dsimp only
    (repeat' apply And.intro) <;> first | rfl | trivial | exact Nat.le_refl _ | omega | (dsimp only; omega) | exact RowsEq.refl _ _ _ | exact newRows | exact h0
  · simp only [decide_eq_true_eq] at c1; omega
  · simp only [decide_eq_true_eq] at c1; omega
  simp only [decide_eq_true_eq] at c1 c2
  try dsimp only
  have hu := cut50 (toS (rows y.i 1))
  generalize cutB (toS (rows y.i 1)) 50 = u at *
  generalize toI (rows y.i 2) = p
  generalize toI (rows y.i 0) = kd
  have yn := y1.n
  have yi := y1.inv
  (repeat' apply And.intro) <;> first | rfl | trivial | exact Nat.le_refl _ | omega | (dsimp only; omega) | exact RowsEq.refl _ _ _ | skip
  refine fun _ _ => ⟨fun _ => ⟨fun k0 => ⟨fun a0 => ?_, fun a0 => ?_⟩, fun k0 => ⟨fun k1 => ⟨⟨y.x, y.cap, u⟩, ?_⟩, fun k1 => ⟨fun k2 => ⟨⟨(0, 0), ?_⟩, fun q ⟨q1, q2⟩ => ⟨fun d1 => ?_, fun d1 _ => ⟨⟨y.x, y.cap, p⟩, ?_⟩⟩⟩, fun k2 => ⟨⟨y.x, y.cap, y.l, y.cl, 0⟩, ?_⟩⟩⟩⟩, fun z ⟨z1, z2, z3⟩ => ⟨⟨(0, 0), ?_⟩, fun q q1 => ⟨fun d1 => ?_, fun d1 => ⟨⟨z.l, z.cl, u⟩, ?_⟩⟩⟩⟩
  -- put, there
  · simp only [decide_eq_true_eq] at a0
    rcases atL_spec y.l u with ⟨k, e1, e2, e3⟩ | ⟨e2, _⟩
    rotate_left
    · omega
    rw [e2]
    try simp only [Int.toNat_natCast]
    have hp := pair_out e1
    rw [show gl y.l k = (u, (gl y.l k).2) from by rw [← e3]] at hp
    obtain ⟨g1, g2⟩ := putX_there (p := p) (y1.of_perm hp) (by omega)
    have g3 := g1.of_perm (pair_set e1)
    have hrow : RowsEq y.l.length 2 (updR (encRows encE y.l) k 1 [Go.Value.int Go.IntKind.i64 p]) (encRows encE (y.l.set k (u, p))) := by
      refine .set _ e1 (fun i hi => by simp only [updR_other hi]) ?_
      simp only [updR_self, ← e3]; rfl
    refine ⟨by omega, by omega, fun _ _ => ⟨by omega, by omega, fun _ => ⟨⟨y.x, y.cap, u, p⟩, ?_⟩⟩⟩
    (repeat' apply And.intro) <;> first | rfl | trivial | exact Nat.le_refl _ | omega | (dsimp only; omega) | exact RowsEq.refl _ _ _ | exact yi | exact hu | skip
    try dsimp only
    rw [g2]
    refine fun c3 _ => ⟨fun hc => (by simp at hc), fun _ => ⟨⟨putX y.x u p, c3, y.l.set k (u, p), y.cl, 0⟩, ?_⟩⟩
    try dsimp only
    rw [List.length_set]
    (repeat' apply And.intro) <;> first | rfl | trivial | exact Nat.le_refl _ | omega | (dsimp only; omega) | exact RowsEq.refl _ _ _ | exact hrow | exact g3
  -- put, new
  · simp only [decide_eq_false_iff_not] at a0
    rcases atL_spec y.l u with ⟨k, e1, e2, e3⟩ | ⟨e2, e3⟩
    · omega
    obtain ⟨g1, g2⟩ := putX_new (p := p) y1 (by omega) e3 hu
    have g3 := g1.of_perm (List.perm_append_singleton (u, p) y.l).symm
    refine fun _ => ⟨by omega, by omega, by omega, fun c3 _ _ _ _ => ⟨⟨y.x, y.cap, u, p⟩, ?_⟩⟩
    (repeat' apply And.intro) <;> first | rfl | trivial | exact Nat.le_refl _ | omega | (dsimp only; omega) | exact RowsEq.refl _ _ _ | exact yi | exact hu | skip
    try dsimp only
    rw [g2]
    refine fun c4 _ => ⟨fun hc => (by simp at hc), fun _ => ⟨⟨putX y.x u p, c4, y.l ++ [(u, p)], c3, 0⟩, ?_⟩⟩
    try dsimp only
    have hl : (y.l ++ [(u, p)]).length = y.l.length + 1 := by simp
    rw [hl]
    (repeat' apply And.intro) <;> first | rfl | trivial | exact Nat.le_refl _ | omega | (dsimp only; omega) | exact RowsEq.refl _ _ _ | exact g3 | exact .push rfl (by omega) rfl
  -- drop
  · rcases atL_spec y.l u with ⟨k, e1, e2, e3⟩ | ⟨e2, e3⟩
    · rw [e2]
      try simp only [Int.toNat_natCast]
      have hp := pair_out e1
      rw [show gl y.l k = (u, (gl y.l k).2) from by rw [← e3]] at hp
      obtain ⟨g1, g2⟩ := drop_there (y1.of_perm hp)
      have t1 : ((k : Int) + 1).toNat = k + 1 := rfl
      have hl : (y.l.take k ++ y.l.drop (k + 1)).length = k + (y.l.length - (k + 1)) := by simp; omega
      rw [t1]
      (repeat' apply And.intro) <;> first | rfl | trivial | exact Nat.le_refl _ | omega | (dsimp only; omega) | exact RowsEq.refl _ _ _ | exact yi | exact hu | skip
      try dsimp only
      refine fun _ _ => ⟨fun hc => (by exfalso; simp [g2] at hc), fun _ => ⟨fun _ => ⟨by omega, by omega, by omega, by omega, by omega, by omega, by omega, fun c3 _ _ _ => ⟨⟨dropI y.x u, y.cap, y.l.take k ++ y.l.drop (k + 1), c3, 0⟩, ?_⟩⟩, fun hc => (by exfalso; simp at hc <;> omega)⟩⟩
      try dsimp only
      rw [hl]
      (repeat' apply And.intro) <;> first | rfl | trivial | exact Nat.le_refl _ | omega | (dsimp only; omega) | exact RowsEq.refl _ _ _ | exact g1 | skip
      refine .app (by simp; omega) (.of_cells fun i hi => ?_) (.of_cells fun i hi => ?_)
      · unfold encRows; rw [gl_take hi, Nat.zero_add]
      · unfold encRows; rw [gl_drop]
    · rw [e2]
      have g1 := drop_none y1 e3
      have g2 := (y1.none_find e3).1
      (repeat' apply And.intro) <;> first | rfl | trivial | exact Nat.le_refl _ | omega | (dsimp only; omega) | exact RowsEq.refl _ _ _ | exact yi | exact hu | skip
      try dsimp only
      rw [g1, g2]
      refine fun _ _ => ⟨fun hc => (by exfalso; simp at hc), fun _ => ⟨fun hc => (by exfalso; simp at hc), fun _ => ⟨⟨y.x, y.cap, y.l, y.cl, 0⟩, ?_⟩⟩⟩
      try dsimp only
      (repeat' apply And.intro) <;> first | rfl | trivial | exact Nat.le_refl _ | omega | (dsimp only; omega) | exact RowsEq.refl _ _ _ | exact y1
  -- below
  · have e : mL y.l p 0 = [] := rfl
    try dsimp only
    rw [e]
    (repeat' apply And.intro) <;> first | rfl | trivial | exact Nat.le_refl _ | omega | (dsimp only; omega) | exact RowsEq.refl _ _ _
  · obtain ⟨j, cm⟩ := q
    dsimp only at q1 q2 d1 ⊢
    simp only [decide_eq_true_eq] at d1
    have hj : j < y.l.length := by omega
    have hs := mL_step (p := p) hj
    have hle := mL_le y.l p j
    try simp only [Int.toNat_natCast]
    refine ⟨by omega, by omega, fun _ _ => ⟨fun hc => ⟨by omega, by omega, by omega, by omega, by omega, fun c3 w1 _ _ => ⟨by omega, (j + 1, c3), ?_⟩⟩, fun hc => ⟨by omega, (j + 1, cm), ?_⟩⟩⟩
    · simp only [decide_eq_true_eq] at hc
      rw [if_pos hc] at hs
      have hl : (mL y.l p j ++ [gl y.l j]).length = (mL y.l p j).length + 1 := by simp
      try dsimp only
      rw [hs, hl]
      (repeat' apply And.intro) <;> first | rfl | trivial | exact Nat.le_refl _ | omega | (dsimp only; omega) | exact RowsEq.refl _ _ _ | exact .push rfl (by omega) rfl
    · simp only [decide_eq_false_iff_not] at hc
      rw [if_neg hc, List.append_nil] at hs
      try dsimp only
      rw [hs]
      (repeat' apply And.intro) <;> first | rfl | trivial | exact Nat.le_refl _ | omega | (dsimp only; omega) | exact RowsEq.refl _ _ _
  · obtain ⟨j, cm⟩ := q
    dsimp only at q1 q2 d1 ⊢
    simp only [decide_eq_false_iff_not] at d1
    have hj : j = y.l.length := by omega
    have em : mL y.l p j = y.l.filter fun e => decide (p ≤ e.2) := by unfold mL; rw [hj, List.take_length]
    obtain ⟨g1, g2, g3⟩ := below_has y1 p
    have hle := List.length_filter_le (fun e : ByteArray × Int => decide (p ≤ e.2)) y.l
    rw [em] at q2 ⊢
    (repeat' apply And.intro) <;> first | rfl | trivial | exact Nat.le_refl _ | omega | (dsimp only; omega) | exact RowsEq.refl _ _ _ | exact yi | skip
    try dsimp only
    rw [g2]
    refine fun _ _ => ⟨by omega, fun hc => (by exfalso; simp at hc <;> omega), fun _ => ⟨⟨belowI y.x p, y.cap, y.l.filter fun e => decide (p ≤ e.2), cm, 0⟩, ?_⟩⟩
    try dsimp only
    (repeat' apply And.intro) <;> first | rfl | trivial | exact Nat.le_refl _ | omega | (dsimp only; omega) | exact RowsEq.refl _ _ _ | exact g1
  -- nothing
  · try dsimp only
    (repeat' apply And.intro) <;> first | rfl | trivial | exact Nat.le_refl _ | omega | (dsimp only; omega) | exact RowsEq.refl _ _ _ | exact y1
  -- the keys
  · try dsimp only
    (repeat' apply And.intro) <;> first | rfl | trivial | exact Nat.le_refl _ | omega | (dsimp only; omega) | exact RowsEq.refl _ _ _
  · obtain ⟨j, ck⟩ := q
    have q1 : j ≤ z.l.length := q1
    dsimp only at d1 ⊢
    simp only [decide_eq_true_eq] at d1
    have hj : j < z.l.length := by omega
    have hs : (z.l.map Prod.fst).take (j + 1) = (z.l.map Prod.fst).take j ++ [(gl z.l j).1] := by
      rw [take_succ_gl (by simpa using hj), gl_map hj]
    try simp only [Int.toNat_natCast]
    refine ⟨by omega, by omega, by omega, by omega, by omega, fun c3 _ _ _ => ⟨by omega, (j + 1, c3), ?_⟩⟩
    try dsimp only
    rw [hs]
    (repeat' apply And.intro) <;> first | rfl | trivial | exact Nat.le_refl _ | omega | (dsimp only; omega) | exact RowsEq.refl _ _ _ | exact .push (by simp; omega) (by omega) rfl
  -- all is told
  · obtain ⟨j, ck⟩ := q
    have q1 : j ≤ z.l.length := q1
    dsimp only at d1 ⊢
    simp only [decide_eq_false_iff_not] at d1
    have hj : j = (z.l.map Prod.fst).length := by rw [List.length_map]; omega
    have hjl : (z.l.map Prod.fst).length = z.l.length := List.length_map _
    have zn := z1.n
    have zi := z1.inv
    have zk := z1.inv.hi
    have znd := z1.nodup
    have hkp : (keysOf z.x.t).Perm (z.l.map Prod.fst) := z1.perm.map Prod.fst
    have hks := sortB_congr hkp
    have hkl := hkp.length_eq
    have hsl := sortB_length (z.l.map Prod.fst)
    have ht : (z.l.map Prod.fst).take j = z.l.map Prod.fst := by rw [hj, List.take_length]
    rw [ht]
    (repeat' apply And.intro) <;> first | rfl | trivial | exact Nat.le_refl _ | omega | (dsimp only; omega) | exact RowsEq.refl _ _ _ | skip
    refine fun _ _ => ⟨⟨z.x, z.cap, u⟩, ?_⟩
    try dsimp only
    (repeat' apply And.intro) <;> first | rfl | trivial | exact Nat.le_refl _ | omega | (dsimp only; omega) | exact RowsEq.refl _ _ _ | exact zi | exact hu | skip
    rcases atL_spec z.l u with ⟨k, e1, e2, e3⟩ | ⟨e2, e3⟩
    · have hget : getI z.x u = ((gl z.l k).2, true) := get_there z1 (by
        have := gl_mem e1
        rwa [show gl z.l k = (u, (gl z.l k).2) from by rw [← e3]] at this)
      rw [hget, e2]
      try simp only [Int.toNat_natCast]
      refine fun _ _ => ⟨fun hc => ?_, fun _ => ⟨fun _ => ⟨by omega, by omega, fun _ => ⟨fun hc => ?_, fun _ => ⟨fun hc => ?_, fun _ _ => ⟨fun hc => ?_, fun _ => ⟨⟨z.x, z.cap, u⟩, ?_⟩⟩⟩⟩⟩, fun hc => ?_⟩⟩
      · exfalso; simp at hc <;> omega
      · exfalso; simp at hc
      · exfalso; simp at hc
      · exfalso; simp at hc <;> omega
      · try dsimp only
        rw [hks]
        (repeat' apply And.intro) <;> first | rfl | trivial | exact Nat.le_refl _ | omega | (dsimp only; omega) | exact RowsEq.refl _ _ _ | skip
        refine fun cK _ => ⟨⟨z.l.map Prod.fst, ck⟩, ?_⟩
        try dsimp only
        (repeat' apply And.intro) <;> first | rfl | trivial | exact Nat.le_refl _ | omega | (dsimp only; omega) | exact RowsEq.refl _ _ _ | exact znd | skip
        refine fun cR _ => ⟨⟨sortB (z.l.map Prod.fst), cK, cR⟩, ?_⟩
        try dsimp only
        (repeat' apply And.intro) <;> first | rfl | trivial | exact Nat.le_refl _ | omega | (dsimp only; omega) | exact RowsEq.refl _ _ _ | skip
        refine fun _ _ => ⟨by omega, ⟨z.x, z.cap, z.l, z.cl, y.i + 1⟩, ?_⟩
        try dsimp only
        (repeat' apply And.intro) <;> first | rfl | trivial | exact Nat.le_refl _ | omega | (dsimp only; omega) | exact RowsEq.refl _ _ _ | exact z1
      · exfalso; simp at hc
    · have hget := get_none z1 e3
      rw [hget, e2]
      refine fun _ _ => ⟨fun hc => ?_, fun _ => ⟨fun hc => ?_, fun _ => ⟨fun _ => ⟨fun hc => ?_, fun _ _ => ⟨fun hc => ?_, fun _ => ⟨⟨z.x, z.cap, u⟩, ?_⟩⟩⟩, fun hc => ?_⟩⟩⟩
      · exfalso; simp at hc
      · exfalso; simp at hc
      · exfalso; simp at hc
      · exfalso; simp at hc <;> omega
      · try dsimp only
        rw [hks]
        (repeat' apply And.intro) <;> first | rfl | trivial | exact Nat.le_refl _ | omega | (dsimp only; omega) | exact RowsEq.refl _ _ _ | skip
        refine fun cK _ => ⟨⟨z.l.map Prod.fst, ck⟩, ?_⟩
        try dsimp only
        (repeat' apply And.intro) <;> first | rfl | trivial | exact Nat.le_refl _ | omega | (dsimp only; omega) | exact RowsEq.refl _ _ _ | exact znd | skip
        refine fun cR _ => ⟨⟨sortB (z.l.map Prod.fst), cK, cR⟩, ?_⟩
        try dsimp only
        (repeat' apply And.intro) <;> first | rfl | trivial | exact Nat.le_refl _ | omega | (dsimp only; omega) | exact RowsEq.refl _ _ _ | skip
        refine fun _ _ => ⟨by omega, ⟨z.x, z.cap, z.l, z.cl, y.i + 1⟩, ?_⟩
        try dsimp only
        (repeat' apply And.intro) <;> first | rfl | trivial | exact Nat.le_refl _ | omega | (dsimp only; omega) | exact RowsEq.refl _ _ _ | exact z1
      · exfalso; simp at hc)
theorem instAll : ∀ ads, okADs [.slc 39 ksOp] ads → ∃ a : OpsA, cAll.pre a ∧ cAll.args a = svs 0 ads ∧ cAll.ro a = chs 0 [.slc 39 ksOp] ads ∧ cAll.m = slcs ads := by
  rintro ads ⟨d, r, rfl, ⟨n, cap, rows, rfl, h1, h2, h3⟩, rfl⟩
  exact ⟨⟨n, cap, rows⟩, ⟨h1, h2⟩, rfl, rfl, rfl⟩
end Go.Proofs.Ytfpgkgelgpandaa
