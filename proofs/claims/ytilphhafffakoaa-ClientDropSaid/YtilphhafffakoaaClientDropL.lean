/-
  The statement ClientDrop over the layer client; no condition.
-/
import Derived.Test.YtilphhafffakoaaClientLaw
namespace Go.Proofs.Ytilphhafffakoaa
open Go.Sx
set_option maxRecDepth 100000
set_option linter.unusedVariables false

/-! ### what the calls come to -/
def kB : ByteArray := ⟨#[107]⟩
def vB : ByteArray := ⟨#[118]⟩
structure DropsA where
  n : Nat
  cap : Nat
  nodes : Nat → Nat → Value
  node : Int
  nd : Nat
  capd : Nat
  done : Nat → Nat → Value
def DropsA.m (a : DropsA) : Nat := min a.n 20
def DropsA.was (a : DropsA) (i : Nat) : Bool := decide (i < a.nd) && toB (a.done i 0)
def rOf (i : Nat) : ReplyR := ⟨(i : Int) + 1, 1, kB, 0, vB, true⟩
/-- the log behind i steps -/
def logR (a : DropsA) : Nat → List CallR
  | 0 => []
  | i + 1 => if a.was i then endL (logR a i ++ [newCall ⟨logR a i, 0, 1, kB, toI (a.nodes i 0), i⟩]) (rOf i) i else logR a i ++ [newCall ⟨logR a i, 0, 1, kB, toI (a.nodes i 0), i⟩]
theorem logR_length (a : DropsA) : ∀ i, (logR a i).length = i
  | 0 => rfl
  | i + 1 => by
    have := logR_length a i
    unfold logR
    split
    · rw [endL_length]; simp [this]
    · simp [this]
theorem logR_ids (a : DropsA) : ∀ i, ids (logR a i)
  | 0 => ids_nil
  | i + 1 => by
    have := logR_ids a i
    unfold logR
    split
    · exact ids_endL (ids_new (a := ⟨_, _, _, _, _, _⟩) this)
    · exact ids_new (a := ⟨_, _, _, _, _, _⟩) this
/-- a call of the log -/
def callR (a : DropsA) (j : Nat) : CallR :=
  let c : CallR := ⟨(j : Int) + 1, 1, kB, toI (a.nodes j 0), j, 0, false, zeroReply⟩
  if a.was j then endC c j (rOf j) else c
theorem new_eq (a : DropsA) (i : Nat) : newCall ⟨logR a i, 0, 1, kB, toI (a.nodes i 0), i⟩ = ⟨(i : Int) + 1, 1, kB, toI (a.nodes i 0), i, 0, false, zeroReply⟩ := by
  simp [newCall, logR_length]
theorem endOk_new (a : DropsA) (i : Nat) (cap : Nat) : endOk (logR a i ++ [newCall ⟨logR a i, cap, 1, kB, toI (a.nodes i 0), i⟩]) (rOf i) = true := by
  have e : newCall ⟨logR a i, cap, 1, kB, toI (a.nodes i 0), i⟩ = newCall ⟨logR a i, 0, 1, kB, toI (a.nodes i 0), i⟩ := rfl
  have h : gl (logR a i ++ [newCall ⟨logR a i, 0, 1, kB, toI (a.nodes i 0), i⟩]) i = ⟨(i : Int) + 1, 1, kB, toI (a.nodes i 0), i, 0, false, zeroReply⟩ := by
    rw [gl_append_right (by rw [logR_length]; exact Nat.le_refl _), logR_length, Nat.sub_self, new_eq]; rfl
  have e1 : ((rOf i).id - 1).toNat = i := by simp [rOf]
  have h1 : decide (1 ≤ (rOf i).id) = true := by
    have : (rOf i).id = (i : Int) + 1 := rfl
    rw [this]; simp; omega
  have h2 : decide ((rOf i).id ≤ ((logR a i ++ [newCall ⟨logR a i, 0, 1, kB, toI (a.nodes i 0), i⟩]).length : Int)) = true := by simp [rOf, logR_length]
  unfold endOk
  rw [e, e1, h, h1, h2]
  simp [rOf]
theorem logR_gl (a : DropsA) : ∀ i j, j < i → gl (logR a i) j = callR a j
  | 0, _, h => absurd h (Nat.not_lt_zero _)
  | i + 1, j, h => by
    have hl := logR_length a i
    have e1 : ((rOf i).id - 1).toNat = i := by simp [rOf]
    have hi : gl (logR a i ++ [newCall ⟨logR a i, 0, 1, kB, toI (a.nodes i 0), i⟩]) i = ⟨(i : Int) + 1, 1, kB, toI (a.nodes i 0), i, 0, false, zeroReply⟩ := by
      rw [gl_append_right (by rw [hl]; exact Nat.le_refl _), hl, Nat.sub_self, new_eq]; rfl
    unfold logR
    by_cases hj : j = i
    · subst hj
      split
      · rename_i hw
        unfold endL
        rw [if_pos (endOk_new a j 0), e1, gl_set_self (by simp [hl]), hi]
        unfold callR
        rw [if_pos hw]
      · rename_i hw
        rw [hi]
        unfold callR
        rw [if_neg hw]
    · have hlt : j < i := by omega
      split
      · unfold endL
        rw [if_pos (endOk_new a i 0), e1, gl_set_ne (by omega), gl_append_left (by omega)]
        exact logR_gl a i j hlt
      · rw [gl_append_left (by omega)]
        exact logR_gl a i j hlt

theorem logR_yes {a : DropsA} {i : Nat} (h : a.was i = true) : logR a (i + 1) = endL (logR a i ++ [newCall ⟨logR a i, 0, 1, kB, toI (a.nodes i 0), i⟩]) (rOf i) i := by
  show (if a.was i then _ else _) = _
  rw [if_pos h]
theorem logR_no {a : DropsA} {i : Nat} (h : a.was i = false) : logR a (i + 1) = logR a i ++ [newCall ⟨logR a i, 0, 1, kB, toI (a.nodes i 0), i⟩] := by
  show (if a.was i then _ else _) = _
  rw [h]; rfl

/-- dropped, call by call -/
def dropC (node pos : Int) (c : CallR) : CallR := if c.node == node && !c.done then endC c pos (downR c) else c
theorem ownGo_all (l : List CallR) (node pos : Int) : ∀ k, k ≤ l.length → (∀ j, j < k → gl (ownGo l node pos k).1 j = dropC node pos (gl l j)) ∧ (ownGo l node pos k).2 = ((l.take k).filter fun c => c.node == node && !c.done).length
  | 0, _ => ⟨fun j h => absurd h (Nat.not_lt_zero _), by simp [ownGo]⟩
  | k + 1, hk => by
    obtain ⟨h1, h2⟩ := ownGo_all l node pos k (by omega)
    have hg := ownGo_gl l node pos k k (Nat.le_refl _)
    have hlen := ownGo_length l node pos k
    rw [ownGo_succ, hg, take_succ_gl (by omega), List.filter_append, List.length_append]
    by_cases hc : ((gl l k).node == node && !(gl l k).done) = true
    · rw [if_pos hc]
      refine ⟨fun j hj => ?_, by simp [hc, h2]⟩
      by_cases hjk : k = j
      · subst hjk
        rw [gl_set_self (by omega)]
        simp only [dropC, hc, if_true]
      · rw [gl_set_ne hjk]; exact h1 j (by omega)
    · rw [if_neg hc]
      have hc' : ((gl l k).node == node && !(gl l k).done) = false := by simpa using hc
      refine ⟨fun j hj => ?_, by simp [hc', h2]⟩
      by_cases hjk : k = j
      · subst hjk
        rw [hg]; simp only [dropC, hc', Bool.false_eq_true, if_false]
      · exact h1 j (by omega)
def wantR (a : DropsA) : Nat → Nat
  | 0 => 0
  | i + 1 => wantR a i + if (toI (a.nodes i 0) == a.node && !a.was i) then 1 else 0
theorem wantR_le (a : DropsA) : ∀ i, wantR a i ≤ i
  | 0 => Nat.le_refl _
  | i + 1 => by have := wantR_le a i; unfold wantR; split <;> omega
theorem callR_node (a : DropsA) (j : Nat) : (callR a j).node = toI (a.nodes j 0) := by unfold callR; dsimp only; split <;> rfl
theorem callR_done (a : DropsA) (j : Nat) : (callR a j).done = a.was j := by unfold callR; dsimp only; split <;> simp_all [endC]
theorem wantR_eq (a : DropsA) (m : Nat) : ∀ i, i ≤ m → wantR a i = (((logR a m).take i).filter fun c => c.node == a.node && !c.done).length
  | 0, _ => by simp [wantR]
  | i + 1, h => by
    rw [take_succ_gl (by rw [logR_length]; omega), List.filter_append, List.length_append, ← wantR_eq a m i (by omega), logR_gl a m i (by omega)]
    rw [show wantR a (i + 1) = wantR a i + if (toI (a.nodes i 0) == a.node && !a.was i) then 1 else 0 from rfl, ← callR_node, ← callR_done]
    cases hc : ((callR a i).node == a.node && !(callR a i).done) <;> simp [hc]
/-- the first time -/
theorem drop1 (a : DropsA) (m : Nat) (pos : Int) : (dropGo (logR a m) a.node pos (logR a m).length).2 = wantR a m ∧ ∀ j, j < m → gl (dropGo (logR a m) a.node pos (logR a m).length).1 j = dropC a.node pos (callR a j) := by
  have hl := logR_length a m
  rw [← ownGo_eq (logR_ids a m) _ (Nat.le_refl _)]
  obtain ⟨h1, h2⟩ := ownGo_all (logR a m) a.node pos (logR a m).length (Nat.le_refl _)
  refine ⟨by rw [h2, wantR_eq a m m (Nat.le_refl _), hl], fun j hj => ?_⟩
  rw [h1 j (by omega), logR_gl a m j hj]
/-- the second time -/
theorem drop2 (a : DropsA) (m : Nat) (pos q : Int) : (dropGo (dropGo (logR a m) a.node pos (logR a m).length).1 a.node q (dropGo (logR a m) a.node pos (logR a m).length).1.length) = ((dropGo (logR a m) a.node pos (logR a m).length).1, 0) := by
  have hl := logR_length a m
  have hL := dropGo_length (logR a m) a.node pos (logR a m).length
  obtain ⟨_, hg⟩ := drop1 a m pos
  have hi := ids_dropGo (node := a.node) (pos := pos) (logR_ids a m) (logR a m).length
  generalize (dropGo (logR a m) a.node pos (logR a m).length).1 = L at hL hg hi
  have hno : ∀ j, j < L.length → ((gl L j).node == a.node && !(gl L j).done) = false := by
    intro j hj
    rw [hg j (by omega)]
    unfold dropC
    split
    · simp [endC]
    · rename_i h; simpa using h
  rw [← ownGo_eq hi _ (Nat.le_refl _)]
  obtain ⟨h1, h2⟩ := ownGo_all L a.node q L.length (Nat.le_refl _)
  refine Prod.ext (ext_gl (ownGo_length _ _ _ _) fun j hj => ?_) ?_
  · rw [ownGo_length] at hj
    rw [h1 j hj]
    unfold dropC
    rw [hno j hj]; rfl
  · rw [h2]
    simp only [List.take_length, List.length_eq_zero_iff, List.filter_eq_nil_iff]
    intro c hc
    obtain ⟨j, hj, rfl⟩ := List.getElem_of_mem hc
    have := hno j hj
    rw [gl_eq hj] at this
    simp [this]

theorem wantR_bound {a : DropsA} {k : Nat} (h : k < 1000) : (wantR a k : Int) + 1 ≤ 9223372036854775807 := by
  have := wantR_le a k
  omega
theorem wantR_yes {a : DropsA} {k : Nat} (h1 : toI (a.nodes k 0) = a.node) (h2 : a.was k = false) : (wantR a k : Int) + 1 = (wantR a (k + 1) : Int) := by
  rw [show wantR a (k + 1) = wantR a k + if (toI (a.nodes k 0) == a.node && !a.was k) then 1 else 0 from rfl, h2]; simp [h1]
theorem wantR_no {a : DropsA} {k : Nat} (h : toI (a.nodes k 0) ≠ a.node ∨ a.was k = true) : (wantR a k : Int) = (wantR a (k + 1) : Int) := by
  rw [show wantR a (k + 1) = wantR a k + if (toI (a.nodes k 0) == a.node && !a.was k) then 1 else 0 from rfl]
  rcases h with h | h <;> simp [h]

theorem was_no {a : DropsA} {i : Nat} (h : i < a.nd → toB (a.done i 0) = false) : a.was i = false := by simpa [DropsA.was] using h
theorem drop_done (a : DropsA) (p : Int) (j : Nat) : (dropC a.node p (callR a j)).done = (a.was j || (toI (a.nodes j 0) == a.node)) := by
  unfold dropC
  rw [callR_node, callR_done]
  cases h1 : a.was j <;> cases h2 : (toI (a.nodes j 0) == a.node) <;> simp [endC, callR_done, h1]
theorem drop_to {a : DropsA} {p : Int} {j : Nat} (h : a.was j = false) (h2 : (dropC a.node p (callR a j)).done = true) : (dropC a.node p (callR a j)).to = p ∧ (dropC a.node p (callR a j)).r.err = 8 := by
  rw [drop_done, h, Bool.false_or] at h2
  unfold dropC
  rw [callR_node, callR_done, h, h2]
  exact ⟨rfl, rfl⟩
theorem chk1 {a : DropsA} {p : Int} {j : Nat} (h : (!(dropC a.node p (callR a j)).done == (toI (a.nodes j 0) == a.node)) = true) (hw : a.was j = false) : False := by
  rw [drop_done, hw] at h; revert h; cases (toI (a.nodes j 0) == a.node) <;> decide
theorem chk2 {a : DropsA} {p : Int} {j : Nat} (h : ((dropC a.node p (callR a j)).to != p) = true) (hw : a.was j = false) (h2 : (dropC a.node p (callR a j)).done = true) : False := by
  rw [(drop_to hw h2).1] at h; simp at h
theorem chk3 {a : DropsA} {p : Int} {j : Nat} (h : ((dropC a.node p (callR a j)).r.err != 8) = true) (hw : a.was j = false) (h2 : (dropC a.node p (callR a j)).done = true) : False := by
  rw [(drop_to hw h2).2] at h; simp at h
theorem wantNe {a : DropsA} {i k : Nat} (h : ((wantR a i : Int) != (wantR a k : Int)) = true) (h1 : i ≤ a.m) (h2 : k ≤ a.m) (h3 : ¬ (i : Int) < min (a.n : Int) 20) (h4 : ¬ (k : Int) < min (a.n : Int) 20) : False := by
  have hm : a.m = min a.n 20 := rfl
  have e : k = i := by omega
  subst e
  simp at h
theorem wasYes {a : DropsA} {i n m : Nat} (h1 : i < a.nd) (h2 : toB (a.done i 0) = true) {l : List CallR} (e : l = logR a i) : RowsEq n m (encRows encCall (endL (l ++ [newCall ⟨l, 0, 1, kB, toI (a.nodes i 0), i⟩]) (rOf i) i)) (encRows encCall (logR a (i + 1))) := by
  subst e
  rw [logR_yes (by simp [DropsA.was, h1, h2])]; exact RowsEq.refl _ _ _
theorem wasNo {a : DropsA} {i n m : Nat} (h : i < a.nd → toB (a.done i 0) = false) {l : List CallR} (e : l = logR a i) : RowsEq n m (encRows encCall (l ++ [newCall ⟨l, 0, 1, kB, toI (a.nodes i 0), i⟩])) (encRows encCall (logR a (i + 1))) := by
  subst e
  rw [logR_no (by simpa [DropsA.was] using h)]; exact RowsEq.refl _ _ _

/-! ### the statement's function -/
noncomputable def cClientDrop : Con where
  α := DropsA
  β := Unit
  m := 2
  m' := 2
  pre := fun a => a.n ≤ a.cap ∧ a.cap ≤ lenMax ∧ a.nd ≤ a.capd ∧ a.capd ≤ lenMax
  args := fun a => [.a (.slc 0 0 1 a.n a.cap), .a (.int .i64 a.node), .a (.slc 1 0 1 a.nd a.capd)]
  hp := fun _ => []
  ro := fun a => [(0, .arr 3 [.int .i64] a.n a.nodes), (1, .arr 4 [.bool] a.nd a.done)]
  post := fun _ _ => True
  res := fun _ _ => .a .tt
  hp' := fun _ _ => []
def stLog (s : S) (L : Nat) (l : List CallR) (c : Nat) : S := (s.at_ (s.tg 8) (.obj 51 [.slc L 0 13 l.length c])).at_ L (.arr 48 ksCall l.length (encRows encCall l))
def iBegin (a : DropsA) : An := .flat 7 (Nat × Nat) (fun s x => (((s.at_ (s.tg 8) (.obj 51 [.slc s.nx 0 13 x.1 x.2])).new (.arr 48 ksCall x.1 (encRows encCall (logR a x.1)))).int 10 x.1)) (fun _ x => x.1 ≤ a.m) (fun _ x => a.m - x.1)
def iWant (a : DropsA) : An := .flat 14 Nat (fun s i => (s.int 12 i).int 11 (wantR a i)) (fun _ i => i ≤ a.m) (fun _ i => a.m - i)
def iCheck (a : DropsA) : An := .flat 22 Nat (fun s i => s.int 14 i) (fun _ i => i ≤ a.m) (fun _ i => a.m - i)
set_option maxHeartbeats 4000000 in
theorem bodyClientDrop : fnBody (Y Try.prog) tabAll 5 cClientDrop fun a => [(5, [iBegin a, iWant a, iCheck a], [])] := fnBody.of (p :=
  ∀ (a : DropsA), a.n ≤ a.cap ∧
  a.cap ≤ lenMax ∧
  a.nd ≤ a.capd ∧
  a.capd ≤ lenMax →
  ∃ (a_2 : Unit), True ∧
  ∀ (b : Unit), True →
  (∃ (a_4 : Nat × Nat), (0 : Int) = (↑a_4.fst : Int) ∧
  ((bif Bool.false then Max.max (↑a.n : Int) (20 : Int) else Min.min (↑a.n : Int) (20 : Int)) = bif Bool.false then Max.max (↑a.n : Int) (20 : Int) else Min.min (↑a.n : Int) (20 : Int)) ∧
  (0 : Nat) = (0 : Nat) ∧
  Bool.false = Bool.false ∧
  Bool.true = Bool.true ∧
  Bool.false = Bool.false ∧
  ((0 : Nat) = (0 : Nat) ∧
  a.n = a.n ∧
  a.cap = a.cap) ∧
  a.node = a.node ∧
  ((0 : Nat) = (0 : Nat) ∧
  a.nd = a.nd ∧
  a.capd = a.capd) ∧
  ((0 : Nat) = a_4.fst ∧
  (0 : Nat) = a_4.snd) ∧
  (a.n ≤ a.n ∧
  RowsEq a.n (1 : Nat) a.nodes a.nodes) ∧
  (a.nd ≤ a.nd ∧
  RowsEq a.nd (1 : Nat) a.done a.done) ∧
  a_4.fst = (0 : Nat) ∧
  a_4.fst ≤ a.m ∧
  True) ∧
  ∀ (a_4 : Nat × Nat), a_4.fst ≤ a.m →
  (Decidable.decide ((↑a_4.fst : Int) < bif Bool.false then Max.max (↑a.n : Int) (20 : Int) else Min.min (↑a.n : Int) (20 : Int)) = Bool.true →
  ((0 : Int) ≤ (↑a_4.fst : Int) ∧
  (↑a_4.fst : Int) < (↑a.n : Int)) ∧
  (0 : Nat) + (↑a_4.fst : Int).toNat < a.n ∧
  (InR IntKind.i64 (toI (a.nodes ((0 : Nat) + (↑a_4.fst : Int).toNat) (0 : Nat))) →
  ∃ (a_8 : BeginA), (0 : Nat) = (0 : Nat) ∧
  (1 : Int) = a_8.op ∧
  { data := #[(107 : UInt8)] } = a_8.key ∧
  toI (a.nodes ((0 : Nat) + (↑a_4.fst : Int).toNat) (0 : Nat)) = a_8.node ∧
  (↑a_4.fst : Int) = a_8.pos ∧
  ((0 : Nat) = (0 : Nat) ∧
  a_4.fst = a_8.l.length ∧
  a_4.snd = a_8.cap) ∧
  (a_8.l.length ≤ a_4.fst ∧
  RowsEq a_8.l.length (13 : Nat) (encRows encCall (logR a a_4.fst)) (encRows encCall a_8.l)) ∧
  a_8.l.length < (1000 : Nat) ∧
  ∀ (b : Nat), True →
  (Decidable.decide ((↑a_4.fst : Int) < (↑a.nd : Int)) = Bool.true →
  ((0 : Int) ≤ (↑a_4.fst : Int) ∧
  (↑a_4.fst : Int) < (↑a.nd : Int)) ∧
  (0 : Nat) + (↑a_4.fst : Int).toNat < a.nd ∧
  (toB (a.done ((0 : Nat) + (↑a_4.fst : Int).toNat) (0 : Nat)) = Bool.true →
  InR IntKind.i64 ((↑a_4.fst : Int) + (1 : Int)) ∧
  ∃ (a_12 : EndA), (0 : Nat) = (0 : Nat) ∧
  (↑a_4.fst : Int) + (1 : Int) = a_12.r.id ∧
  (1 : Int) = a_12.r.op ∧
  { data := #[(107 : UInt8)] } = a_12.r.key ∧
  (0 : Int) = a_12.r.err ∧
  { data := #[(118 : UInt8)] } = a_12.r.val ∧
  Bool.true = a_12.r.has ∧
  (↑a_4.fst : Int) = a_12.pos ∧
  ((0 : Nat) = (0 : Nat) ∧
  (a_8.l ++ [newCall a_8]).length = a_12.l.length ∧
  b = a_12.cap) ∧
  (a_12.l.length ≤ (a_8.l ++ [newCall a_8]).length ∧
  RowsEq a_12.l.length (13 : Nat) (encRows encCall (a_8.l ++ [newCall a_8])) (encRows encCall a_12.l)) ∧
  a_12.l.length < (1000 : Nat) ∧
  ∀ (b : Unit), True →
  ((!endOk a_12.l a_12.r) = Bool.true →
  ∃ (b : Unit), Bool.false = Bool.true ∧
  True ∧
  True) ∧
  ((!endOk a_12.l a_12.r) = Bool.false →
  InR IntKind.i64 ((↑a_4.fst : Int) + (1 : Int)) ∧
  ∃ (a' : Nat × Nat), (↑a_4.fst : Int) + (1 : Int) = (↑a'.fst : Int) ∧
  ((bif Bool.false then Max.max (↑a.n : Int) (20 : Int) else Min.min (↑a.n : Int) (20 : Int)) = bif Bool.false then Max.max (↑a.n : Int) (20 : Int) else Min.min (↑a.n : Int) (20 : Int)) ∧
  (0 : Nat) = (0 : Nat) ∧
  Bool.false = Bool.false ∧
  Bool.true = Bool.true ∧
  Bool.false = Bool.false ∧
  ((0 : Nat) = (0 : Nat) ∧
  a.n = a.n ∧
  a.cap = a.cap) ∧
  a.node = a.node ∧
  ((0 : Nat) = (0 : Nat) ∧
  a.nd = a.nd ∧
  a.capd = a.capd) ∧
  ((0 : Nat) = (0 : Nat) ∧
  (endL a_12.l a_12.r a_12.pos).length = a'.fst ∧
  a_12.cap = a'.snd) ∧
  (a.n ≤ a.n ∧
  RowsEq a.n (1 : Nat) a.nodes a.nodes) ∧
  (a.nd ≤ a.nd ∧
  RowsEq a.nd (1 : Nat) a.done a.done) ∧
  (a'.fst ≤ (endL a_12.l a_12.r a_12.pos).length ∧
  RowsEq a'.fst (13 : Nat) (encRows encCall (endL a_12.l a_12.r a_12.pos)) (encRows encCall (logR a a'.fst))) ∧
  a'.fst ≤ a.m ∧
  a.m - a'.fst < a.m - a_4.fst)) ∧
  (toB (a.done ((0 : Nat) + (↑a_4.fst : Int).toNat) (0 : Nat)) = Bool.false →
  InR IntKind.i64 ((↑a_4.fst : Int) + (1 : Int)) ∧
  ∃ (a' : Nat × Nat), (↑a_4.fst : Int) + (1 : Int) = (↑a'.fst : Int) ∧
  ((bif Bool.false then Max.max (↑a.n : Int) (20 : Int) else Min.min (↑a.n : Int) (20 : Int)) = bif Bool.false then Max.max (↑a.n : Int) (20 : Int) else Min.min (↑a.n : Int) (20 : Int)) ∧
  (0 : Nat) = (0 : Nat) ∧
  Bool.false = Bool.false ∧
  Bool.true = Bool.true ∧
  Bool.false = Bool.false ∧
  ((0 : Nat) = (0 : Nat) ∧
  a.n = a.n ∧
  a.cap = a.cap) ∧
  a.node = a.node ∧
  ((0 : Nat) = (0 : Nat) ∧
  a.nd = a.nd ∧
  a.capd = a.capd) ∧
  ((0 : Nat) = (0 : Nat) ∧
  (a_8.l ++ [newCall a_8]).length = a'.fst ∧
  b = a'.snd) ∧
  (a.n ≤ a.n ∧
  RowsEq a.n (1 : Nat) a.nodes a.nodes) ∧
  (a.nd ≤ a.nd ∧
  RowsEq a.nd (1 : Nat) a.done a.done) ∧
  (a'.fst ≤ (a_8.l ++ [newCall a_8]).length ∧
  RowsEq a'.fst (13 : Nat) (encRows encCall (a_8.l ++ [newCall a_8])) (encRows encCall (logR a a'.fst))) ∧
  a'.fst ≤ a.m ∧
  a.m - a'.fst < a.m - a_4.fst)) ∧
  (Decidable.decide ((↑a_4.fst : Int) < (↑a.nd : Int)) = Bool.false →
  InR IntKind.i64 ((↑a_4.fst : Int) + (1 : Int)) ∧
  ∃ (a' : Nat × Nat), (↑a_4.fst : Int) + (1 : Int) = (↑a'.fst : Int) ∧
  ((bif Bool.false then Max.max (↑a.n : Int) (20 : Int) else Min.min (↑a.n : Int) (20 : Int)) = bif Bool.false then Max.max (↑a.n : Int) (20 : Int) else Min.min (↑a.n : Int) (20 : Int)) ∧
  (0 : Nat) = (0 : Nat) ∧
  Bool.false = Bool.false ∧
  Bool.true = Bool.true ∧
  Bool.false = Bool.false ∧
  ((0 : Nat) = (0 : Nat) ∧
  a.n = a.n ∧
  a.cap = a.cap) ∧
  a.node = a.node ∧
  ((0 : Nat) = (0 : Nat) ∧
  a.nd = a.nd ∧
  a.capd = a.capd) ∧
  ((0 : Nat) = (0 : Nat) ∧
  (a_8.l ++ [newCall a_8]).length = a'.fst ∧
  b = a'.snd) ∧
  (a.n ≤ a.n ∧
  RowsEq a.n (1 : Nat) a.nodes a.nodes) ∧
  (a.nd ≤ a.nd ∧
  RowsEq a.nd (1 : Nat) a.done a.done) ∧
  (a'.fst ≤ (a_8.l ++ [newCall a_8]).length ∧
  RowsEq a'.fst (13 : Nat) (encRows encCall (a_8.l ++ [newCall a_8])) (encRows encCall (logR a a'.fst))) ∧
  a'.fst ≤ a.m ∧
  a.m - a'.fst < a.m - a_4.fst))) ∧
  (Decidable.decide ((↑a_4.fst : Int) < bif Bool.false then Max.max (↑a.n : Int) (20 : Int) else Min.min (↑a.n : Int) (20 : Int)) = Bool.false →
  (∃ (a_7 : Nat), (0 : Int) = (↑(wantR a a_7) : Int) ∧
  (0 : Int) = (↑a_7 : Int) ∧
  Decidable.decide ((↑a_4.fst : Int) < bif Bool.false then Max.max (↑a.n : Int) (20 : Int) else Min.min (↑a.n : Int) (20 : Int)) = Decidable.decide ((↑a_4.fst : Int) < bif Bool.false then Max.max (↑a.n : Int) (20 : Int) else Min.min (↑a.n : Int) (20 : Int)) ∧
  (↑a_4.fst : Int) = (↑a_4.fst : Int) ∧
  ((bif Bool.false then Max.max (↑a.n : Int) (20 : Int) else Min.min (↑a.n : Int) (20 : Int)) = bif Bool.false then Max.max (↑a.n : Int) (20 : Int) else Min.min (↑a.n : Int) (20 : Int)) ∧
  (0 : Nat) = (0 : Nat) ∧
  Bool.false = Bool.false ∧
  Bool.true = Bool.true ∧
  Bool.false = Bool.false ∧
  ((0 : Nat) = (0 : Nat) ∧
  a.n = a.n ∧
  a.cap = a.cap) ∧
  a.node = a.node ∧
  ((0 : Nat) = (0 : Nat) ∧
  a.nd = a.nd ∧
  a.capd = a.capd) ∧
  ((0 : Nat) = (0 : Nat) ∧
  a_4.fst = a_4.fst ∧
  a_4.snd = a_4.snd) ∧
  (a.n ≤ a.n ∧
  RowsEq a.n (1 : Nat) a.nodes a.nodes) ∧
  (a.nd ≤ a.nd ∧
  RowsEq a.nd (1 : Nat) a.done a.done) ∧
  (a_4.fst ≤ a_4.fst ∧
  RowsEq a_4.fst (13 : Nat) (encRows encCall (logR a a_4.fst)) (encRows encCall (logR a a_4.fst))) ∧
  a_7 ≤ a.m ∧
  True) ∧
  ∀ (a_7 : Nat), a_7 ≤ a.m →
  (Decidable.decide ((↑a_7 : Int) < bif Bool.false then Max.max (↑a.n : Int) (20 : Int) else Min.min (↑a.n : Int) (20 : Int)) = Bool.true →
  ((0 : Int) ≤ (↑a_7 : Int) ∧
  (↑a_7 : Int) < (↑a.n : Int)) ∧
  (0 : Nat) + (↑a_7 : Int).toNat < a.n ∧
  (InR IntKind.i64 (toI (a.nodes ((0 : Nat) + (↑a_7 : Int).toNat) (0 : Nat))) →
  ((toI (a.nodes ((0 : Nat) + (↑a_7 : Int).toNat) (0 : Nat)) == a.node) = Bool.true →
  (Decidable.decide ((↑a_7 : Int) < (↑a.nd : Int)) = Bool.true →
  ((0 : Int) ≤ (↑a_7 : Int) ∧
  (↑a_7 : Int) < (↑a.nd : Int)) ∧
  (0 : Nat) + (↑a_7 : Int).toNat < a.nd ∧
  ((!toB (a.done ((0 : Nat) + (↑a_7 : Int).toNat) (0 : Nat))) = Bool.true →
  InR IntKind.i64 ((↑(wantR a a_7) : Int) + (1 : Int)) ∧
  InR IntKind.i64 ((↑a_7 : Int) + (1 : Int)) ∧
  ∃ (a' : Nat), (↑(wantR a a_7) : Int) + (1 : Int) = (↑(wantR a a') : Int) ∧
  (↑a_7 : Int) + (1 : Int) = (↑a' : Int) ∧
  Decidable.decide ((↑a_4.fst : Int) < bif Bool.false then Max.max (↑a.n : Int) (20 : Int) else Min.min (↑a.n : Int) (20 : Int)) = Decidable.decide ((↑a_4.fst : Int) < bif Bool.false then Max.max (↑a.n : Int) (20 : Int) else Min.min (↑a.n : Int) (20 : Int)) ∧
  (↑a_4.fst : Int) = (↑a_4.fst : Int) ∧
  ((bif Bool.false then Max.max (↑a.n : Int) (20 : Int) else Min.min (↑a.n : Int) (20 : Int)) = bif Bool.false then Max.max (↑a.n : Int) (20 : Int) else Min.min (↑a.n : Int) (20 : Int)) ∧
  (0 : Nat) = (0 : Nat) ∧
  Bool.false = Bool.false ∧
  Bool.true = Bool.true ∧
  Bool.false = Bool.false ∧
  ((0 : Nat) = (0 : Nat) ∧
  a.n = a.n ∧
  a.cap = a.cap) ∧
  a.node = a.node ∧
  ((0 : Nat) = (0 : Nat) ∧
  a.nd = a.nd ∧
  a.capd = a.capd) ∧
  ((0 : Nat) = (0 : Nat) ∧
  a_4.fst = a_4.fst ∧
  a_4.snd = a_4.snd) ∧
  (a.n ≤ a.n ∧
  RowsEq a.n (1 : Nat) a.nodes a.nodes) ∧
  (a.nd ≤ a.nd ∧
  RowsEq a.nd (1 : Nat) a.done a.done) ∧
  (a_4.fst ≤ a_4.fst ∧
  RowsEq a_4.fst (13 : Nat) (encRows encCall (logR a a_4.fst)) (encRows encCall (logR a a_4.fst))) ∧
  a' ≤ a.m ∧
  a.m - a' < a.m - a_7) ∧
  ((!toB (a.done ((0 : Nat) + (↑a_7 : Int).toNat) (0 : Nat))) = Bool.false →
  InR IntKind.i64 ((↑a_7 : Int) + (1 : Int)) ∧
  ∃ (a' : Nat), (↑(wantR a a_7) : Int) = (↑(wantR a a') : Int) ∧
  (↑a_7 : Int) + (1 : Int) = (↑a' : Int) ∧
  Decidable.decide ((↑a_4.fst : Int) < bif Bool.false then Max.max (↑a.n : Int) (20 : Int) else Min.min (↑a.n : Int) (20 : Int)) = Decidable.decide ((↑a_4.fst : Int) < bif Bool.false then Max.max (↑a.n : Int) (20 : Int) else Min.min (↑a.n : Int) (20 : Int)) ∧
  (↑a_4.fst : Int) = (↑a_4.fst : Int) ∧
  ((bif Bool.false then Max.max (↑a.n : Int) (20 : Int) else Min.min (↑a.n : Int) (20 : Int)) = bif Bool.false then Max.max (↑a.n : Int) (20 : Int) else Min.min (↑a.n : Int) (20 : Int)) ∧
  (0 : Nat) = (0 : Nat) ∧
  Bool.false = Bool.false ∧
  Bool.true = Bool.true ∧
  Bool.false = Bool.false ∧
  ((0 : Nat) = (0 : Nat) ∧
  a.n = a.n ∧
  a.cap = a.cap) ∧
  a.node = a.node ∧
  ((0 : Nat) = (0 : Nat) ∧
  a.nd = a.nd ∧
  a.capd = a.capd) ∧
  ((0 : Nat) = (0 : Nat) ∧
  a_4.fst = a_4.fst ∧
  a_4.snd = a_4.snd) ∧
  (a.n ≤ a.n ∧
  RowsEq a.n (1 : Nat) a.nodes a.nodes) ∧
  (a.nd ≤ a.nd ∧
  RowsEq a.nd (1 : Nat) a.done a.done) ∧
  (a_4.fst ≤ a_4.fst ∧
  RowsEq a_4.fst (13 : Nat) (encRows encCall (logR a a_4.fst)) (encRows encCall (logR a a_4.fst))) ∧
  a' ≤ a.m ∧
  a.m - a' < a.m - a_7)) ∧
  (Decidable.decide ((↑a_7 : Int) < (↑a.nd : Int)) = Bool.false →
  InR IntKind.i64 ((↑(wantR a a_7) : Int) + (1 : Int)) ∧
  InR IntKind.i64 ((↑a_7 : Int) + (1 : Int)) ∧
  ∃ (a' : Nat), (↑(wantR a a_7) : Int) + (1 : Int) = (↑(wantR a a') : Int) ∧
  (↑a_7 : Int) + (1 : Int) = (↑a' : Int) ∧
  Decidable.decide ((↑a_4.fst : Int) < bif Bool.false then Max.max (↑a.n : Int) (20 : Int) else Min.min (↑a.n : Int) (20 : Int)) = Decidable.decide ((↑a_4.fst : Int) < bif Bool.false then Max.max (↑a.n : Int) (20 : Int) else Min.min (↑a.n : Int) (20 : Int)) ∧
  (↑a_4.fst : Int) = (↑a_4.fst : Int) ∧
  ((bif Bool.false then Max.max (↑a.n : Int) (20 : Int) else Min.min (↑a.n : Int) (20 : Int)) = bif Bool.false then Max.max (↑a.n : Int) (20 : Int) else Min.min (↑a.n : Int) (20 : Int)) ∧
  (0 : Nat) = (0 : Nat) ∧
  Bool.false = Bool.false ∧
  Bool.true = Bool.true ∧
  Bool.false = Bool.false ∧
  ((0 : Nat) = (0 : Nat) ∧
  a.n = a.n ∧
  a.cap = a.cap) ∧
  a.node = a.node ∧
  ((0 : Nat) = (0 : Nat) ∧
  a.nd = a.nd ∧
  a.capd = a.capd) ∧
  ((0 : Nat) = (0 : Nat) ∧
  a_4.fst = a_4.fst ∧
  a_4.snd = a_4.snd) ∧
  (a.n ≤ a.n ∧
  RowsEq a.n (1 : Nat) a.nodes a.nodes) ∧
  (a.nd ≤ a.nd ∧
  RowsEq a.nd (1 : Nat) a.done a.done) ∧
  (a_4.fst ≤ a_4.fst ∧
  RowsEq a_4.fst (13 : Nat) (encRows encCall (logR a a_4.fst)) (encRows encCall (logR a a_4.fst))) ∧
  a' ≤ a.m ∧
  a.m - a' < a.m - a_7)) ∧
  ((toI (a.nodes ((0 : Nat) + (↑a_7 : Int).toNat) (0 : Nat)) == a.node) = Bool.false →
  InR IntKind.i64 ((↑a_7 : Int) + (1 : Int)) ∧
  ∃ (a' : Nat), (↑(wantR a a_7) : Int) = (↑(wantR a a') : Int) ∧
  (↑a_7 : Int) + (1 : Int) = (↑a' : Int) ∧
  Decidable.decide ((↑a_4.fst : Int) < bif Bool.false then Max.max (↑a.n : Int) (20 : Int) else Min.min (↑a.n : Int) (20 : Int)) = Decidable.decide ((↑a_4.fst : Int) < bif Bool.false then Max.max (↑a.n : Int) (20 : Int) else Min.min (↑a.n : Int) (20 : Int)) ∧
  (↑a_4.fst : Int) = (↑a_4.fst : Int) ∧
  ((bif Bool.false then Max.max (↑a.n : Int) (20 : Int) else Min.min (↑a.n : Int) (20 : Int)) = bif Bool.false then Max.max (↑a.n : Int) (20 : Int) else Min.min (↑a.n : Int) (20 : Int)) ∧
  (0 : Nat) = (0 : Nat) ∧
  Bool.false = Bool.false ∧
  Bool.true = Bool.true ∧
  Bool.false = Bool.false ∧
  ((0 : Nat) = (0 : Nat) ∧
  a.n = a.n ∧
  a.cap = a.cap) ∧
  a.node = a.node ∧
  ((0 : Nat) = (0 : Nat) ∧
  a.nd = a.nd ∧
  a.capd = a.capd) ∧
  ((0 : Nat) = (0 : Nat) ∧
  a_4.fst = a_4.fst ∧
  a_4.snd = a_4.snd) ∧
  (a.n ≤ a.n ∧
  RowsEq a.n (1 : Nat) a.nodes a.nodes) ∧
  (a.nd ≤ a.nd ∧
  RowsEq a.nd (1 : Nat) a.done a.done) ∧
  (a_4.fst ≤ a_4.fst ∧
  RowsEq a_4.fst (13 : Nat) (encRows encCall (logR a a_4.fst)) (encRows encCall (logR a a_4.fst))) ∧
  a' ≤ a.m ∧
  a.m - a' < a.m - a_7))) ∧
  (Decidable.decide ((↑a_7 : Int) < bif Bool.false then Max.max (↑a.n : Int) (20 : Int) else Min.min (↑a.n : Int) (20 : Int)) = Bool.false →
  ∃ (a_10 : DropA), (0 : Nat) = (0 : Nat) ∧
  a.node = a_10.node ∧
  (50 : Int) = a_10.pos ∧
  ((0 : Nat) = (0 : Nat) ∧
  a_4.fst = a_10.l.length ∧
  a_4.snd = a_10.cap) ∧
  (a_10.l.length ≤ a_4.fst ∧
  RowsEq a_10.l.length (13 : Nat) (encRows encCall (logR a a_4.fst)) (encRows encCall a_10.l)) ∧
  a_10.l.length < (1000 : Nat) ∧
  ∀ (b : Unit), True →
  (((↑(dropGo a_10.l a_10.node a_10.pos a_10.l.length).snd : Int) != (↑(wantR a a_7) : Int)) = Bool.true →
  ∃ (b : Unit), Bool.false = Bool.true ∧
  True ∧
  True) ∧
  (((↑(dropGo a_10.l a_10.node a_10.pos a_10.l.length).snd : Int) != (↑(wantR a a_7) : Int)) = Bool.false →
  ∃ (a_13 : DropA), (0 : Nat) = (0 : Nat) ∧
  a.node = a_13.node ∧
  (60 : Int) = a_13.pos ∧
  ((0 : Nat) = (0 : Nat) ∧
  (dropGo a_10.l a_10.node a_10.pos a_10.l.length).fst.length = a_13.l.length ∧
  a_10.cap = a_13.cap) ∧
  (a_13.l.length ≤ (dropGo a_10.l a_10.node a_10.pos a_10.l.length).fst.length ∧
  RowsEq a_13.l.length (13 : Nat) (encRows encCall (dropGo a_10.l a_10.node a_10.pos a_10.l.length).fst) (encRows encCall a_13.l)) ∧
  a_13.l.length < (1000 : Nat) ∧
  ∀ (b : Unit), True →
  (((↑(dropGo a_13.l a_13.node a_13.pos a_13.l.length).snd : Int) != (0 : Int)) = Bool.true →
  ∃ (b : Unit), Bool.false = Bool.true ∧
  True ∧
  True) ∧
  (((↑(dropGo a_13.l a_13.node a_13.pos a_13.l.length).snd : Int) != (0 : Int)) = Bool.false →
  ∃ (a_16 : AllA), (0 : Nat) = (0 : Nat) ∧
  ((0 : Nat) = (0 : Nat) ∧
  (dropGo a_13.l a_13.node a_13.pos a_13.l.length).fst.length = a_16.l.length ∧
  a_13.cap = a_16.cap) ∧
  (a_16.l.length ≤ (dropGo a_13.l a_13.node a_13.pos a_13.l.length).fst.length ∧
  RowsEq a_16.l.length (13 : Nat) (encRows encCall (dropGo a_13.l a_13.node a_13.pos a_13.l.length).fst) (encRows encCall a_16.l)) ∧
  a_16.l.length < (1000 : Nat) ∧
  ∀ (b : Nat), True →
  (∃ (a_18 : Nat), (0 : Int) = (↑a_18 : Int) ∧
  ((0 : Nat) = (0 : Nat) ∧
  a_16.l.length = a_16.l.length ∧
  b = b) ∧
  ((↑(dropGo a_13.l a_13.node a_13.pos a_13.l.length).snd : Int) != (0 : Int)) = ((↑(dropGo a_13.l a_13.node a_13.pos a_13.l.length).snd : Int) != (0 : Int)) ∧
  Decidable.decide ((↑a_7 : Int) < bif Bool.false then Max.max (↑a.n : Int) (20 : Int) else Min.min (↑a.n : Int) (20 : Int)) = Decidable.decide ((↑a_7 : Int) < bif Bool.false then Max.max (↑a.n : Int) (20 : Int) else Min.min (↑a.n : Int) (20 : Int)) ∧
  (↑(wantR a a_7) : Int) = (↑(wantR a a_7) : Int) ∧
  (↑a_7 : Int) = (↑a_7 : Int) ∧
  Decidable.decide ((↑a_4.fst : Int) < bif Bool.false then Max.max (↑a.n : Int) (20 : Int) else Min.min (↑a.n : Int) (20 : Int)) = Decidable.decide ((↑a_4.fst : Int) < bif Bool.false then Max.max (↑a.n : Int) (20 : Int) else Min.min (↑a.n : Int) (20 : Int)) ∧
  (↑a_4.fst : Int) = (↑a_4.fst : Int) ∧
  ((bif Bool.false then Max.max (↑a.n : Int) (20 : Int) else Min.min (↑a.n : Int) (20 : Int)) = bif Bool.false then Max.max (↑a.n : Int) (20 : Int) else Min.min (↑a.n : Int) (20 : Int)) ∧
  (0 : Nat) = (0 : Nat) ∧
  Bool.false = Bool.false ∧
  Bool.true = Bool.true ∧
  Bool.false = Bool.false ∧
  ((0 : Nat) = (0 : Nat) ∧
  a.n = a.n ∧
  a.cap = a.cap) ∧
  a.node = a.node ∧
  ((0 : Nat) = (0 : Nat) ∧
  a.nd = a.nd ∧
  a.capd = a.capd) ∧
  (a_16.l.length ≤ a_16.l.length ∧
  RowsEq a_16.l.length (13 : Nat) (encRows encCall a_16.l) (encRows encCall a_16.l)) ∧
  ((0 : Nat) = (0 : Nat) ∧
  (dropGo a_13.l a_13.node a_13.pos a_13.l.length).fst.length = (dropGo a_13.l a_13.node a_13.pos a_13.l.length).fst.length ∧
  a_13.cap = a_13.cap) ∧
  ((dropGo a_13.l a_13.node a_13.pos a_13.l.length).fst.length ≤ (dropGo a_13.l a_13.node a_13.pos a_13.l.length).fst.length ∧
  RowsEq (dropGo a_13.l a_13.node a_13.pos a_13.l.length).fst.length (13 : Nat) (encRows encCall (dropGo a_13.l a_13.node a_13.pos a_13.l.length).fst) (encRows encCall (dropGo a_13.l a_13.node a_13.pos a_13.l.length).fst)) ∧
  (a.n ≤ a.n ∧
  RowsEq a.n (1 : Nat) a.nodes a.nodes) ∧
  (a.nd ≤ a.nd ∧
  RowsEq a.nd (1 : Nat) a.done a.done) ∧
  a_18 ≤ a.m ∧
  True) ∧
  ∀ (a_18 : Nat), a_18 ≤ a.m →
  (Decidable.decide ((↑a_18 : Int) < bif Bool.false then Max.max (↑a.n : Int) (20 : Int) else Min.min (↑a.n : Int) (20 : Int)) = Bool.true →
  (Decidable.decide ((↑a_18 : Int) < (↑a.nd : Int)) = Bool.true →
  ((0 : Int) ≤ (↑a_18 : Int) ∧
  (↑a_18 : Int) < (↑a.nd : Int)) ∧
  (0 : Nat) + (↑a_18 : Int).toNat < a.nd ∧
  ((0 : Int) ≤ (↑a_18 : Int) ∧
  (↑a_18 : Int) < (↑a_16.l.length : Int)) ∧
  (0 : Nat) + (↑a_18 : Int).toNat < a_16.l.length ∧
  (toB (a.done ((0 : Nat) + (↑a_18 : Int).toNat) (0 : Nat)) = Bool.true →
  ((!(gl a_16.l ((0 : Nat) + (↑a_18 : Int).toNat)).done == Bool.true) = Bool.true →
  ∃ (b : Unit), Bool.false = Bool.true ∧
  True ∧
  True) ∧
  ((!(gl a_16.l ((0 : Nat) + (↑a_18 : Int).toNat)).done == Bool.true) = Bool.false →
  (toB (a.done ((0 : Nat) + (↑a_18 : Int).toNat) (0 : Nat)) = Bool.true →
  InR IntKind.i64 (gl a_16.l ((0 : Nat) + (↑a_18 : Int).toNat)).to →
  (((gl a_16.l ((0 : Nat) + (↑a_18 : Int).toNat)).to != (↑a_18 : Int)) = Bool.true →
  ∃ (b : Unit), Bool.false = Bool.true ∧
  True ∧
  True) ∧
  (((gl a_16.l ((0 : Nat) + (↑a_18 : Int).toNat)).to != (↑a_18 : Int)) = Bool.false →
  ((!Decidable.decide ((gl a_16.l ((0 : Nat) + (↑a_18 : Int).toNat)).r.val = { data := #[(118 : UInt8)] })) = Bool.true →
  ∃ (b : Unit), Bool.false = Bool.true ∧
  True ∧
  True) ∧
  ((!Decidable.decide ((gl a_16.l ((0 : Nat) + (↑a_18 : Int).toNat)).r.val = { data := #[(118 : UInt8)] })) = Bool.false →
  ((!toB (a.done ((0 : Nat) + (↑a_18 : Int).toNat) (0 : Nat))) = Bool.true →
  ((gl a_16.l ((0 : Nat) + (↑a_18 : Int).toNat)).done = Bool.true →
  InR IntKind.i64 (gl a_16.l ((0 : Nat) + (↑a_18 : Int).toNat)).to →
  (((gl a_16.l ((0 : Nat) + (↑a_18 : Int).toNat)).to != (50 : Int)) = Bool.true →
  ∃ (b : Unit), Bool.false = Bool.true ∧
  True ∧
  True) ∧
  (((gl a_16.l ((0 : Nat) + (↑a_18 : Int).toNat)).to != (50 : Int)) = Bool.false →
  InR IntKind.i64 (gl a_16.l ((0 : Nat) + (↑a_18 : Int).toNat)).r.err →
  (((gl a_16.l ((0 : Nat) + (↑a_18 : Int).toNat)).r.err != (8 : Int)) = Bool.true →
  ∃ (b : Unit), Bool.false = Bool.true ∧
  True ∧
  True) ∧
  (((gl a_16.l ((0 : Nat) + (↑a_18 : Int).toNat)).r.err != (8 : Int)) = Bool.false →
  InR IntKind.i64 ((↑a_18 : Int) + (1 : Int)) ∧
  ∃ (a' : Nat), (↑a_18 : Int) + (1 : Int) = (↑a' : Int) ∧
  ((0 : Nat) = (0 : Nat) ∧
  a_16.l.length = a_16.l.length ∧
  b = b) ∧
  ((↑(dropGo a_13.l a_13.node a_13.pos a_13.l.length).snd : Int) != (0 : Int)) = ((↑(dropGo a_13.l a_13.node a_13.pos a_13.l.length).snd : Int) != (0 : Int)) ∧
  Decidable.decide ((↑a_7 : Int) < bif Bool.false then Max.max (↑a.n : Int) (20 : Int) else Min.min (↑a.n : Int) (20 : Int)) = Decidable.decide ((↑a_7 : Int) < bif Bool.false then Max.max (↑a.n : Int) (20 : Int) else Min.min (↑a.n : Int) (20 : Int)) ∧
  (↑(wantR a a_7) : Int) = (↑(wantR a a_7) : Int) ∧
  (↑a_7 : Int) = (↑a_7 : Int) ∧
  Decidable.decide ((↑a_4.fst : Int) < bif Bool.false then Max.max (↑a.n : Int) (20 : Int) else Min.min (↑a.n : Int) (20 : Int)) = Decidable.decide ((↑a_4.fst : Int) < bif Bool.false then Max.max (↑a.n : Int) (20 : Int) else Min.min (↑a.n : Int) (20 : Int)) ∧
  (↑a_4.fst : Int) = (↑a_4.fst : Int) ∧
  ((bif Bool.false then Max.max (↑a.n : Int) (20 : Int) else Min.min (↑a.n : Int) (20 : Int)) = bif Bool.false then Max.max (↑a.n : Int) (20 : Int) else Min.min (↑a.n : Int) (20 : Int)) ∧
  (0 : Nat) = (0 : Nat) ∧
  Bool.false = Bool.false ∧
  Bool.true = Bool.true ∧
  Bool.false = Bool.false ∧
  ((0 : Nat) = (0 : Nat) ∧
  a.n = a.n ∧
  a.cap = a.cap) ∧
  a.node = a.node ∧
  ((0 : Nat) = (0 : Nat) ∧
  a.nd = a.nd ∧
  a.capd = a.capd) ∧
  (a_16.l.length ≤ a_16.l.length ∧
  RowsEq a_16.l.length (13 : Nat) (encRows encCall a_16.l) (encRows encCall a_16.l)) ∧
  ((0 : Nat) = (0 : Nat) ∧
  (dropGo a_13.l a_13.node a_13.pos a_13.l.length).fst.length = (dropGo a_13.l a_13.node a_13.pos a_13.l.length).fst.length ∧
  a_13.cap = a_13.cap) ∧
  ((dropGo a_13.l a_13.node a_13.pos a_13.l.length).fst.length ≤ (dropGo a_13.l a_13.node a_13.pos a_13.l.length).fst.length ∧
  RowsEq (dropGo a_13.l a_13.node a_13.pos a_13.l.length).fst.length (13 : Nat) (encRows encCall (dropGo a_13.l a_13.node a_13.pos a_13.l.length).fst) (encRows encCall (dropGo a_13.l a_13.node a_13.pos a_13.l.length).fst)) ∧
  (a.n ≤ a.n ∧
  RowsEq a.n (1 : Nat) a.nodes a.nodes) ∧
  (a.nd ≤ a.nd ∧
  RowsEq a.nd (1 : Nat) a.done a.done) ∧
  a' ≤ a.m ∧
  a.m - a' < a.m - a_18))) ∧
  ((gl a_16.l ((0 : Nat) + (↑a_18 : Int).toNat)).done = Bool.false →
  InR IntKind.i64 ((↑a_18 : Int) + (1 : Int)) ∧
  ∃ (a' : Nat), (↑a_18 : Int) + (1 : Int) = (↑a' : Int) ∧
  ((0 : Nat) = (0 : Nat) ∧
  a_16.l.length = a_16.l.length ∧
  b = b) ∧
  ((↑(dropGo a_13.l a_13.node a_13.pos a_13.l.length).snd : Int) != (0 : Int)) = ((↑(dropGo a_13.l a_13.node a_13.pos a_13.l.length).snd : Int) != (0 : Int)) ∧
  Decidable.decide ((↑a_7 : Int) < bif Bool.false then Max.max (↑a.n : Int) (20 : Int) else Min.min (↑a.n : Int) (20 : Int)) = Decidable.decide ((↑a_7 : Int) < bif Bool.false then Max.max (↑a.n : Int) (20 : Int) else Min.min (↑a.n : Int) (20 : Int)) ∧
  (↑(wantR a a_7) : Int) = (↑(wantR a a_7) : Int) ∧
  (↑a_7 : Int) = (↑a_7 : Int) ∧
  Decidable.decide ((↑a_4.fst : Int) < bif Bool.false then Max.max (↑a.n : Int) (20 : Int) else Min.min (↑a.n : Int) (20 : Int)) = Decidable.decide ((↑a_4.fst : Int) < bif Bool.false then Max.max (↑a.n : Int) (20 : Int) else Min.min (↑a.n : Int) (20 : Int)) ∧
  (↑a_4.fst : Int) = (↑a_4.fst : Int) ∧
  ((bif Bool.false then Max.max (↑a.n : Int) (20 : Int) else Min.min (↑a.n : Int) (20 : Int)) = bif Bool.false then Max.max (↑a.n : Int) (20 : Int) else Min.min (↑a.n : Int) (20 : Int)) ∧
  (0 : Nat) = (0 : Nat) ∧
  Bool.false = Bool.false ∧
  Bool.true = Bool.true ∧
  Bool.false = Bool.false ∧
  ((0 : Nat) = (0 : Nat) ∧
  a.n = a.n ∧
  a.cap = a.cap) ∧
  a.node = a.node ∧
  ((0 : Nat) = (0 : Nat) ∧
  a.nd = a.nd ∧
  a.capd = a.capd) ∧
  (a_16.l.length ≤ a_16.l.length ∧
  RowsEq a_16.l.length (13 : Nat) (encRows encCall a_16.l) (encRows encCall a_16.l)) ∧
  ((0 : Nat) = (0 : Nat) ∧
  (dropGo a_13.l a_13.node a_13.pos a_13.l.length).fst.length = (dropGo a_13.l a_13.node a_13.pos a_13.l.length).fst.length ∧
  a_13.cap = a_13.cap) ∧
  ((dropGo a_13.l a_13.node a_13.pos a_13.l.length).fst.length ≤ (dropGo a_13.l a_13.node a_13.pos a_13.l.length).fst.length ∧
  RowsEq (dropGo a_13.l a_13.node a_13.pos a_13.l.length).fst.length (13 : Nat) (encRows encCall (dropGo a_13.l a_13.node a_13.pos a_13.l.length).fst) (encRows encCall (dropGo a_13.l a_13.node a_13.pos a_13.l.length).fst)) ∧
  (a.n ≤ a.n ∧
  RowsEq a.n (1 : Nat) a.nodes a.nodes) ∧
  (a.nd ≤ a.nd ∧
  RowsEq a.nd (1 : Nat) a.done a.done) ∧
  a' ≤ a.m ∧
  a.m - a' < a.m - a_18)) ∧
  ((!toB (a.done ((0 : Nat) + (↑a_18 : Int).toNat) (0 : Nat))) = Bool.false →
  InR IntKind.i64 ((↑a_18 : Int) + (1 : Int)) ∧
  ∃ (a' : Nat), (↑a_18 : Int) + (1 : Int) = (↑a' : Int) ∧
  ((0 : Nat) = (0 : Nat) ∧
  a_16.l.length = a_16.l.length ∧
  b = b) ∧
  ((↑(dropGo a_13.l a_13.node a_13.pos a_13.l.length).snd : Int) != (0 : Int)) = ((↑(dropGo a_13.l a_13.node a_13.pos a_13.l.length).snd : Int) != (0 : Int)) ∧
  Decidable.decide ((↑a_7 : Int) < bif Bool.false then Max.max (↑a.n : Int) (20 : Int) else Min.min (↑a.n : Int) (20 : Int)) = Decidable.decide ((↑a_7 : Int) < bif Bool.false then Max.max (↑a.n : Int) (20 : Int) else Min.min (↑a.n : Int) (20 : Int)) ∧
  (↑(wantR a a_7) : Int) = (↑(wantR a a_7) : Int) ∧
  (↑a_7 : Int) = (↑a_7 : Int) ∧
  Decidable.decide ((↑a_4.fst : Int) < bif Bool.false then Max.max (↑a.n : Int) (20 : Int) else Min.min (↑a.n : Int) (20 : Int)) = Decidable.decide ((↑a_4.fst : Int) < bif Bool.false then Max.max (↑a.n : Int) (20 : Int) else Min.min (↑a.n : Int) (20 : Int)) ∧
  (↑a_4.fst : Int) = (↑a_4.fst : Int) ∧
  ((bif Bool.false then Max.max (↑a.n : Int) (20 : Int) else Min.min (↑a.n : Int) (20 : Int)) = bif Bool.false then Max.max (↑a.n : Int) (20 : Int) else Min.min (↑a.n : Int) (20 : Int)) ∧
  (0 : Nat) = (0 : Nat) ∧
  Bool.false = Bool.false ∧
  Bool.true = Bool.true ∧
  Bool.false = Bool.false ∧
  ((0 : Nat) = (0 : Nat) ∧
  a.n = a.n ∧
  a.cap = a.cap) ∧
  a.node = a.node ∧
  ((0 : Nat) = (0 : Nat) ∧
  a.nd = a.nd ∧
  a.capd = a.capd) ∧
  (a_16.l.length ≤ a_16.l.length ∧
  RowsEq a_16.l.length (13 : Nat) (encRows encCall a_16.l) (encRows encCall a_16.l)) ∧
  ((0 : Nat) = (0 : Nat) ∧
  (dropGo a_13.l a_13.node a_13.pos a_13.l.length).fst.length = (dropGo a_13.l a_13.node a_13.pos a_13.l.length).fst.length ∧
  a_13.cap = a_13.cap) ∧
  ((dropGo a_13.l a_13.node a_13.pos a_13.l.length).fst.length ≤ (dropGo a_13.l a_13.node a_13.pos a_13.l.length).fst.length ∧
  RowsEq (dropGo a_13.l a_13.node a_13.pos a_13.l.length).fst.length (13 : Nat) (encRows encCall (dropGo a_13.l a_13.node a_13.pos a_13.l.length).fst) (encRows encCall (dropGo a_13.l a_13.node a_13.pos a_13.l.length).fst)) ∧
  (a.n ≤ a.n ∧
  RowsEq a.n (1 : Nat) a.nodes a.nodes) ∧
  (a.nd ≤ a.nd ∧
  RowsEq a.nd (1 : Nat) a.done a.done) ∧
  a' ≤ a.m ∧
  a.m - a' < a.m - a_18)))) ∧
  (toB (a.done ((0 : Nat) + (↑a_18 : Int).toNat) (0 : Nat)) = Bool.false →
  ((!toB (a.done ((0 : Nat) + (↑a_18 : Int).toNat) (0 : Nat))) = Bool.true →
  ((gl a_16.l ((0 : Nat) + (↑a_18 : Int).toNat)).done = Bool.true →
  InR IntKind.i64 (gl a_16.l ((0 : Nat) + (↑a_18 : Int).toNat)).to →
  (((gl a_16.l ((0 : Nat) + (↑a_18 : Int).toNat)).to != (50 : Int)) = Bool.true →
  ∃ (b : Unit), Bool.false = Bool.true ∧
  True ∧
  True) ∧
  (((gl a_16.l ((0 : Nat) + (↑a_18 : Int).toNat)).to != (50 : Int)) = Bool.false →
  InR IntKind.i64 (gl a_16.l ((0 : Nat) + (↑a_18 : Int).toNat)).r.err →
  (((gl a_16.l ((0 : Nat) + (↑a_18 : Int).toNat)).r.err != (8 : Int)) = Bool.true →
  ∃ (b : Unit), Bool.false = Bool.true ∧
  True ∧
  True) ∧
  (((gl a_16.l ((0 : Nat) + (↑a_18 : Int).toNat)).r.err != (8 : Int)) = Bool.false →
  InR IntKind.i64 ((↑a_18 : Int) + (1 : Int)) ∧
  ∃ (a' : Nat), (↑a_18 : Int) + (1 : Int) = (↑a' : Int) ∧
  ((0 : Nat) = (0 : Nat) ∧
  a_16.l.length = a_16.l.length ∧
  b = b) ∧
  ((↑(dropGo a_13.l a_13.node a_13.pos a_13.l.length).snd : Int) != (0 : Int)) = ((↑(dropGo a_13.l a_13.node a_13.pos a_13.l.length).snd : Int) != (0 : Int)) ∧
  Decidable.decide ((↑a_7 : Int) < bif Bool.false then Max.max (↑a.n : Int) (20 : Int) else Min.min (↑a.n : Int) (20 : Int)) = Decidable.decide ((↑a_7 : Int) < bif Bool.false then Max.max (↑a.n : Int) (20 : Int) else Min.min (↑a.n : Int) (20 : Int)) ∧
  (↑(wantR a a_7) : Int) = (↑(wantR a a_7) : Int) ∧
  (↑a_7 : Int) = (↑a_7 : Int) ∧
  Decidable.decide ((↑a_4.fst : Int) < bif Bool.false then Max.max (↑a.n : Int) (20 : Int) else Min.min (↑a.n : Int) (20 : Int)) = Decidable.decide ((↑a_4.fst : Int) < bif Bool.false then Max.max (↑a.n : Int) (20 : Int) else Min.min (↑a.n : Int) (20 : Int)) ∧
  (↑a_4.fst : Int) = (↑a_4.fst : Int) ∧
  ((bif Bool.false then Max.max (↑a.n : Int) (20 : Int) else Min.min (↑a.n : Int) (20 : Int)) = bif Bool.false then Max.max (↑a.n : Int) (20 : Int) else Min.min (↑a.n : Int) (20 : Int)) ∧
  (0 : Nat) = (0 : Nat) ∧
  Bool.false = Bool.false ∧
  Bool.true = Bool.true ∧
  Bool.false = Bool.false ∧
  ((0 : Nat) = (0 : Nat) ∧
  a.n = a.n ∧
  a.cap = a.cap) ∧
  a.node = a.node ∧
  ((0 : Nat) = (0 : Nat) ∧
  a.nd = a.nd ∧
  a.capd = a.capd) ∧
  (a_16.l.length ≤ a_16.l.length ∧
  RowsEq a_16.l.length (13 : Nat) (encRows encCall a_16.l) (encRows encCall a_16.l)) ∧
  ((0 : Nat) = (0 : Nat) ∧
  (dropGo a_13.l a_13.node a_13.pos a_13.l.length).fst.length = (dropGo a_13.l a_13.node a_13.pos a_13.l.length).fst.length ∧
  a_13.cap = a_13.cap) ∧
  ((dropGo a_13.l a_13.node a_13.pos a_13.l.length).fst.length ≤ (dropGo a_13.l a_13.node a_13.pos a_13.l.length).fst.length ∧
  RowsEq (dropGo a_13.l a_13.node a_13.pos a_13.l.length).fst.length (13 : Nat) (encRows encCall (dropGo a_13.l a_13.node a_13.pos a_13.l.length).fst) (encRows encCall (dropGo a_13.l a_13.node a_13.pos a_13.l.length).fst)) ∧
  (a.n ≤ a.n ∧
  RowsEq a.n (1 : Nat) a.nodes a.nodes) ∧
  (a.nd ≤ a.nd ∧
  RowsEq a.nd (1 : Nat) a.done a.done) ∧
  a' ≤ a.m ∧
  a.m - a' < a.m - a_18))) ∧
  ((gl a_16.l ((0 : Nat) + (↑a_18 : Int).toNat)).done = Bool.false →
  InR IntKind.i64 ((↑a_18 : Int) + (1 : Int)) ∧
  ∃ (a' : Nat), (↑a_18 : Int) + (1 : Int) = (↑a' : Int) ∧
  ((0 : Nat) = (0 : Nat) ∧
  a_16.l.length = a_16.l.length ∧
  b = b) ∧
  ((↑(dropGo a_13.l a_13.node a_13.pos a_13.l.length).snd : Int) != (0 : Int)) = ((↑(dropGo a_13.l a_13.node a_13.pos a_13.l.length).snd : Int) != (0 : Int)) ∧
  Decidable.decide ((↑a_7 : Int) < bif Bool.false then Max.max (↑a.n : Int) (20 : Int) else Min.min (↑a.n : Int) (20 : Int)) = Decidable.decide ((↑a_7 : Int) < bif Bool.false then Max.max (↑a.n : Int) (20 : Int) else Min.min (↑a.n : Int) (20 : Int)) ∧
  (↑(wantR a a_7) : Int) = (↑(wantR a a_7) : Int) ∧
  (↑a_7 : Int) = (↑a_7 : Int) ∧
  Decidable.decide ((↑a_4.fst : Int) < bif Bool.false then Max.max (↑a.n : Int) (20 : Int) else Min.min (↑a.n : Int) (20 : Int)) = Decidable.decide ((↑a_4.fst : Int) < bif Bool.false then Max.max (↑a.n : Int) (20 : Int) else Min.min (↑a.n : Int) (20 : Int)) ∧
  (↑a_4.fst : Int) = (↑a_4.fst : Int) ∧
  ((bif Bool.false then Max.max (↑a.n : Int) (20 : Int) else Min.min (↑a.n : Int) (20 : Int)) = bif Bool.false then Max.max (↑a.n : Int) (20 : Int) else Min.min (↑a.n : Int) (20 : Int)) ∧
  (0 : Nat) = (0 : Nat) ∧
  Bool.false = Bool.false ∧
  Bool.true = Bool.true ∧
  Bool.false = Bool.false ∧
  ((0 : Nat) = (0 : Nat) ∧
  a.n = a.n ∧
  a.cap = a.cap) ∧
  a.node = a.node ∧
  ((0 : Nat) = (0 : Nat) ∧
  a.nd = a.nd ∧
  a.capd = a.capd) ∧
  (a_16.l.length ≤ a_16.l.length ∧
  RowsEq a_16.l.length (13 : Nat) (encRows encCall a_16.l) (encRows encCall a_16.l)) ∧
  ((0 : Nat) = (0 : Nat) ∧
  (dropGo a_13.l a_13.node a_13.pos a_13.l.length).fst.length = (dropGo a_13.l a_13.node a_13.pos a_13.l.length).fst.length ∧
  a_13.cap = a_13.cap) ∧
  ((dropGo a_13.l a_13.node a_13.pos a_13.l.length).fst.length ≤ (dropGo a_13.l a_13.node a_13.pos a_13.l.length).fst.length ∧
  RowsEq (dropGo a_13.l a_13.node a_13.pos a_13.l.length).fst.length (13 : Nat) (encRows encCall (dropGo a_13.l a_13.node a_13.pos a_13.l.length).fst) (encRows encCall (dropGo a_13.l a_13.node a_13.pos a_13.l.length).fst)) ∧
  (a.n ≤ a.n ∧
  RowsEq a.n (1 : Nat) a.nodes a.nodes) ∧
  (a.nd ≤ a.nd ∧
  RowsEq a.nd (1 : Nat) a.done a.done) ∧
  a' ≤ a.m ∧
  a.m - a' < a.m - a_18)) ∧
  ((!toB (a.done ((0 : Nat) + (↑a_18 : Int).toNat) (0 : Nat))) = Bool.false →
  InR IntKind.i64 ((↑a_18 : Int) + (1 : Int)) ∧
  ∃ (a' : Nat), (↑a_18 : Int) + (1 : Int) = (↑a' : Int) ∧
  ((0 : Nat) = (0 : Nat) ∧
  a_16.l.length = a_16.l.length ∧
  b = b) ∧
  ((↑(dropGo a_13.l a_13.node a_13.pos a_13.l.length).snd : Int) != (0 : Int)) = ((↑(dropGo a_13.l a_13.node a_13.pos a_13.l.length).snd : Int) != (0 : Int)) ∧
  Decidable.decide ((↑a_7 : Int) < bif Bool.false then Max.max (↑a.n : Int) (20 : Int) else Min.min (↑a.n : Int) (20 : Int)) = Decidable.decide ((↑a_7 : Int) < bif Bool.false then Max.max (↑a.n : Int) (20 : Int) else Min.min (↑a.n : Int) (20 : Int)) ∧
  (↑(wantR a a_7) : Int) = (↑(wantR a a_7) : Int) ∧
  (↑a_7 : Int) = (↑a_7 : Int) ∧
  Decidable.decide ((↑a_4.fst : Int) < bif Bool.false then Max.max (↑a.n : Int) (20 : Int) else Min.min (↑a.n : Int) (20 : Int)) = Decidable.decide ((↑a_4.fst : Int) < bif Bool.false then Max.max (↑a.n : Int) (20 : Int) else Min.min (↑a.n : Int) (20 : Int)) ∧
  (↑a_4.fst : Int) = (↑a_4.fst : Int) ∧
  ((bif Bool.false then Max.max (↑a.n : Int) (20 : Int) else Min.min (↑a.n : Int) (20 : Int)) = bif Bool.false then Max.max (↑a.n : Int) (20 : Int) else Min.min (↑a.n : Int) (20 : Int)) ∧
  (0 : Nat) = (0 : Nat) ∧
  Bool.false = Bool.false ∧
  Bool.true = Bool.true ∧
  Bool.false = Bool.false ∧
  ((0 : Nat) = (0 : Nat) ∧
  a.n = a.n ∧
  a.cap = a.cap) ∧
  a.node = a.node ∧
  ((0 : Nat) = (0 : Nat) ∧
  a.nd = a.nd ∧
  a.capd = a.capd) ∧
  (a_16.l.length ≤ a_16.l.length ∧
  RowsEq a_16.l.length (13 : Nat) (encRows encCall a_16.l) (encRows encCall a_16.l)) ∧
  ((0 : Nat) = (0 : Nat) ∧
  (dropGo a_13.l a_13.node a_13.pos a_13.l.length).fst.length = (dropGo a_13.l a_13.node a_13.pos a_13.l.length).fst.length ∧
  a_13.cap = a_13.cap) ∧
  ((dropGo a_13.l a_13.node a_13.pos a_13.l.length).fst.length ≤ (dropGo a_13.l a_13.node a_13.pos a_13.l.length).fst.length ∧
  RowsEq (dropGo a_13.l a_13.node a_13.pos a_13.l.length).fst.length (13 : Nat) (encRows encCall (dropGo a_13.l a_13.node a_13.pos a_13.l.length).fst) (encRows encCall (dropGo a_13.l a_13.node a_13.pos a_13.l.length).fst)) ∧
  (a.n ≤ a.n ∧
  RowsEq a.n (1 : Nat) a.nodes a.nodes) ∧
  (a.nd ≤ a.nd ∧
  RowsEq a.nd (1 : Nat) a.done a.done) ∧
  a' ≤ a.m ∧
  a.m - a' < a.m - a_18)))) ∧
  (toB (a.done ((0 : Nat) + (↑a_18 : Int).toNat) (0 : Nat)) = Bool.false →
  ((0 : Int) ≤ (↑a_18 : Int) ∧
  (↑a_18 : Int) < (↑a.n : Int)) ∧
  (0 : Nat) + (↑a_18 : Int).toNat < a.n ∧
  (InR IntKind.i64 (toI (a.nodes ((0 : Nat) + (↑a_18 : Int).toNat) (0 : Nat))) →
  ((!(gl a_16.l ((0 : Nat) + (↑a_18 : Int).toNat)).done == (toI (a.nodes ((0 : Nat) + (↑a_18 : Int).toNat) (0 : Nat)) == a.node)) = Bool.true →
  ∃ (b : Unit), Bool.false = Bool.true ∧
  True ∧
  True) ∧
  ((!(gl a_16.l ((0 : Nat) + (↑a_18 : Int).toNat)).done == (toI (a.nodes ((0 : Nat) + (↑a_18 : Int).toNat) (0 : Nat)) == a.node)) = Bool.false →
  (toB (a.done ((0 : Nat) + (↑a_18 : Int).toNat) (0 : Nat)) = Bool.true →
  InR IntKind.i64 (gl a_16.l ((0 : Nat) + (↑a_18 : Int).toNat)).to →
  (((gl a_16.l ((0 : Nat) + (↑a_18 : Int).toNat)).to != (↑a_18 : Int)) = Bool.true →
  ∃ (b : Unit), Bool.false = Bool.true ∧
  True ∧
  True) ∧
  (((gl a_16.l ((0 : Nat) + (↑a_18 : Int).toNat)).to != (↑a_18 : Int)) = Bool.false →
  ((!Decidable.decide ((gl a_16.l ((0 : Nat) + (↑a_18 : Int).toNat)).r.val = { data := #[(118 : UInt8)] })) = Bool.true →
  ∃ (b : Unit), Bool.false = Bool.true ∧
  True ∧
  True) ∧
  ((!Decidable.decide ((gl a_16.l ((0 : Nat) + (↑a_18 : Int).toNat)).r.val = { data := #[(118 : UInt8)] })) = Bool.false →
  ((!toB (a.done ((0 : Nat) + (↑a_18 : Int).toNat) (0 : Nat))) = Bool.true →
  ((gl a_16.l ((0 : Nat) + (↑a_18 : Int).toNat)).done = Bool.true →
  InR IntKind.i64 (gl a_16.l ((0 : Nat) + (↑a_18 : Int).toNat)).to →
  (((gl a_16.l ((0 : Nat) + (↑a_18 : Int).toNat)).to != (50 : Int)) = Bool.true →
  ∃ (b : Unit), Bool.false = Bool.true ∧
  True ∧
  True) ∧
  (((gl a_16.l ((0 : Nat) + (↑a_18 : Int).toNat)).to != (50 : Int)) = Bool.false →
  InR IntKind.i64 (gl a_16.l ((0 : Nat) + (↑a_18 : Int).toNat)).r.err →
  (((gl a_16.l ((0 : Nat) + (↑a_18 : Int).toNat)).r.err != (8 : Int)) = Bool.true →
  ∃ (b : Unit), Bool.false = Bool.true ∧
  True ∧
  True) ∧
  (((gl a_16.l ((0 : Nat) + (↑a_18 : Int).toNat)).r.err != (8 : Int)) = Bool.false →
  InR IntKind.i64 ((↑a_18 : Int) + (1 : Int)) ∧
  ∃ (a' : Nat), (↑a_18 : Int) + (1 : Int) = (↑a' : Int) ∧
  ((0 : Nat) = (0 : Nat) ∧
  a_16.l.length = a_16.l.length ∧
  b = b) ∧
  ((↑(dropGo a_13.l a_13.node a_13.pos a_13.l.length).snd : Int) != (0 : Int)) = ((↑(dropGo a_13.l a_13.node a_13.pos a_13.l.length).snd : Int) != (0 : Int)) ∧
  Decidable.decide ((↑a_7 : Int) < bif Bool.false then Max.max (↑a.n : Int) (20 : Int) else Min.min (↑a.n : Int) (20 : Int)) = Decidable.decide ((↑a_7 : Int) < bif Bool.false then Max.max (↑a.n : Int) (20 : Int) else Min.min (↑a.n : Int) (20 : Int)) ∧
  (↑(wantR a a_7) : Int) = (↑(wantR a a_7) : Int) ∧
  (↑a_7 : Int) = (↑a_7 : Int) ∧
  Decidable.decide ((↑a_4.fst : Int) < bif Bool.false then Max.max (↑a.n : Int) (20 : Int) else Min.min (↑a.n : Int) (20 : Int)) = Decidable.decide ((↑a_4.fst : Int) < bif Bool.false then Max.max (↑a.n : Int) (20 : Int) else Min.min (↑a.n : Int) (20 : Int)) ∧
  (↑a_4.fst : Int) = (↑a_4.fst : Int) ∧
  ((bif Bool.false then Max.max (↑a.n : Int) (20 : Int) else Min.min (↑a.n : Int) (20 : Int)) = bif Bool.false then Max.max (↑a.n : Int) (20 : Int) else Min.min (↑a.n : Int) (20 : Int)) ∧
  (0 : Nat) = (0 : Nat) ∧
  Bool.false = Bool.false ∧
  Bool.true = Bool.true ∧
  Bool.false = Bool.false ∧
  ((0 : Nat) = (0 : Nat) ∧
  a.n = a.n ∧
  a.cap = a.cap) ∧
  a.node = a.node ∧
  ((0 : Nat) = (0 : Nat) ∧
  a.nd = a.nd ∧
  a.capd = a.capd) ∧
  (a_16.l.length ≤ a_16.l.length ∧
  RowsEq a_16.l.length (13 : Nat) (encRows encCall a_16.l) (encRows encCall a_16.l)) ∧
  ((0 : Nat) = (0 : Nat) ∧
  (dropGo a_13.l a_13.node a_13.pos a_13.l.length).fst.length = (dropGo a_13.l a_13.node a_13.pos a_13.l.length).fst.length ∧
  a_13.cap = a_13.cap) ∧
  ((dropGo a_13.l a_13.node a_13.pos a_13.l.length).fst.length ≤ (dropGo a_13.l a_13.node a_13.pos a_13.l.length).fst.length ∧
  RowsEq (dropGo a_13.l a_13.node a_13.pos a_13.l.length).fst.length (13 : Nat) (encRows encCall (dropGo a_13.l a_13.node a_13.pos a_13.l.length).fst) (encRows encCall (dropGo a_13.l a_13.node a_13.pos a_13.l.length).fst)) ∧
  (a.n ≤ a.n ∧
  RowsEq a.n (1 : Nat) a.nodes a.nodes) ∧
  (a.nd ≤ a.nd ∧
  RowsEq a.nd (1 : Nat) a.done a.done) ∧
  a' ≤ a.m ∧
  a.m - a' < a.m - a_18))) ∧
  ((gl a_16.l ((0 : Nat) + (↑a_18 : Int).toNat)).done = Bool.false →
  InR IntKind.i64 ((↑a_18 : Int) + (1 : Int)) ∧
  ∃ (a' : Nat), (↑a_18 : Int) + (1 : Int) = (↑a' : Int) ∧
  ((0 : Nat) = (0 : Nat) ∧
  a_16.l.length = a_16.l.length ∧
  b = b) ∧
  ((↑(dropGo a_13.l a_13.node a_13.pos a_13.l.length).snd : Int) != (0 : Int)) = ((↑(dropGo a_13.l a_13.node a_13.pos a_13.l.length).snd : Int) != (0 : Int)) ∧
  Decidable.decide ((↑a_7 : Int) < bif Bool.false then Max.max (↑a.n : Int) (20 : Int) else Min.min (↑a.n : Int) (20 : Int)) = Decidable.decide ((↑a_7 : Int) < bif Bool.false then Max.max (↑a.n : Int) (20 : Int) else Min.min (↑a.n : Int) (20 : Int)) ∧
  (↑(wantR a a_7) : Int) = (↑(wantR a a_7) : Int) ∧
  (↑a_7 : Int) = (↑a_7 : Int) ∧
  Decidable.decide ((↑a_4.fst : Int) < bif Bool.false then Max.max (↑a.n : Int) (20 : Int) else Min.min (↑a.n : Int) (20 : Int)) = Decidable.decide ((↑a_4.fst : Int) < bif Bool.false then Max.max (↑a.n : Int) (20 : Int) else Min.min (↑a.n : Int) (20 : Int)) ∧
  (↑a_4.fst : Int) = (↑a_4.fst : Int) ∧
  ((bif Bool.false then Max.max (↑a.n : Int) (20 : Int) else Min.min (↑a.n : Int) (20 : Int)) = bif Bool.false then Max.max (↑a.n : Int) (20 : Int) else Min.min (↑a.n : Int) (20 : Int)) ∧
  (0 : Nat) = (0 : Nat) ∧
  Bool.false = Bool.false ∧
  Bool.true = Bool.true ∧
  Bool.false = Bool.false ∧
  ((0 : Nat) = (0 : Nat) ∧
  a.n = a.n ∧
  a.cap = a.cap) ∧
  a.node = a.node ∧
  ((0 : Nat) = (0 : Nat) ∧
  a.nd = a.nd ∧
  a.capd = a.capd) ∧
  (a_16.l.length ≤ a_16.l.length ∧
  RowsEq a_16.l.length (13 : Nat) (encRows encCall a_16.l) (encRows encCall a_16.l)) ∧
  ((0 : Nat) = (0 : Nat) ∧
  (dropGo a_13.l a_13.node a_13.pos a_13.l.length).fst.length = (dropGo a_13.l a_13.node a_13.pos a_13.l.length).fst.length ∧
  a_13.cap = a_13.cap) ∧
  ((dropGo a_13.l a_13.node a_13.pos a_13.l.length).fst.length ≤ (dropGo a_13.l a_13.node a_13.pos a_13.l.length).fst.length ∧
  RowsEq (dropGo a_13.l a_13.node a_13.pos a_13.l.length).fst.length (13 : Nat) (encRows encCall (dropGo a_13.l a_13.node a_13.pos a_13.l.length).fst) (encRows encCall (dropGo a_13.l a_13.node a_13.pos a_13.l.length).fst)) ∧
  (a.n ≤ a.n ∧
  RowsEq a.n (1 : Nat) a.nodes a.nodes) ∧
  (a.nd ≤ a.nd ∧
  RowsEq a.nd (1 : Nat) a.done a.done) ∧
  a' ≤ a.m ∧
  a.m - a' < a.m - a_18)) ∧
  ((!toB (a.done ((0 : Nat) + (↑a_18 : Int).toNat) (0 : Nat))) = Bool.false →
  InR IntKind.i64 ((↑a_18 : Int) + (1 : Int)) ∧
  ∃ (a' : Nat), (↑a_18 : Int) + (1 : Int) = (↑a' : Int) ∧
  ((0 : Nat) = (0 : Nat) ∧
  a_16.l.length = a_16.l.length ∧
  b = b) ∧
  ((↑(dropGo a_13.l a_13.node a_13.pos a_13.l.length).snd : Int) != (0 : Int)) = ((↑(dropGo a_13.l a_13.node a_13.pos a_13.l.length).snd : Int) != (0 : Int)) ∧
  Decidable.decide ((↑a_7 : Int) < bif Bool.false then Max.max (↑a.n : Int) (20 : Int) else Min.min (↑a.n : Int) (20 : Int)) = Decidable.decide ((↑a_7 : Int) < bif Bool.false then Max.max (↑a.n : Int) (20 : Int) else Min.min (↑a.n : Int) (20 : Int)) ∧
  (↑(wantR a a_7) : Int) = (↑(wantR a a_7) : Int) ∧
  (↑a_7 : Int) = (↑a_7 : Int) ∧
  Decidable.decide ((↑a_4.fst : Int) < bif Bool.false then Max.max (↑a.n : Int) (20 : Int) else Min.min (↑a.n : Int) (20 : Int)) = Decidable.decide ((↑a_4.fst : Int) < bif Bool.false then Max.max (↑a.n : Int) (20 : Int) else Min.min (↑a.n : Int) (20 : Int)) ∧
  (↑a_4.fst : Int) = (↑a_4.fst : Int) ∧
  ((bif Bool.false then Max.max (↑a.n : Int) (20 : Int) else Min.min (↑a.n : Int) (20 : Int)) = bif Bool.false then Max.max (↑a.n : Int) (20 : Int) else Min.min (↑a.n : Int) (20 : Int)) ∧
  (0 : Nat) = (0 : Nat) ∧
  Bool.false = Bool.false ∧
  Bool.true = Bool.true ∧
  Bool.false = Bool.false ∧
  ((0 : Nat) = (0 : Nat) ∧
  a.n = a.n ∧
  a.cap = a.cap) ∧
  a.node = a.node ∧
  ((0 : Nat) = (0 : Nat) ∧
  a.nd = a.nd ∧
  a.capd = a.capd) ∧
  (a_16.l.length ≤ a_16.l.length ∧
  RowsEq a_16.l.length (13 : Nat) (encRows encCall a_16.l) (encRows encCall a_16.l)) ∧
  ((0 : Nat) = (0 : Nat) ∧
  (dropGo a_13.l a_13.node a_13.pos a_13.l.length).fst.length = (dropGo a_13.l a_13.node a_13.pos a_13.l.length).fst.length ∧
  a_13.cap = a_13.cap) ∧
  ((dropGo a_13.l a_13.node a_13.pos a_13.l.length).fst.length ≤ (dropGo a_13.l a_13.node a_13.pos a_13.l.length).fst.length ∧
  RowsEq (dropGo a_13.l a_13.node a_13.pos a_13.l.length).fst.length (13 : Nat) (encRows encCall (dropGo a_13.l a_13.node a_13.pos a_13.l.length).fst) (encRows encCall (dropGo a_13.l a_13.node a_13.pos a_13.l.length).fst)) ∧
  (a.n ≤ a.n ∧
  RowsEq a.n (1 : Nat) a.nodes a.nodes) ∧
  (a.nd ≤ a.nd ∧
  RowsEq a.nd (1 : Nat) a.done a.done) ∧
  a' ≤ a.m ∧
  a.m - a' < a.m - a_18)))) ∧
  (toB (a.done ((0 : Nat) + (↑a_18 : Int).toNat) (0 : Nat)) = Bool.false →
  ((!toB (a.done ((0 : Nat) + (↑a_18 : Int).toNat) (0 : Nat))) = Bool.true →
  ((gl a_16.l ((0 : Nat) + (↑a_18 : Int).toNat)).done = Bool.true →
  InR IntKind.i64 (gl a_16.l ((0 : Nat) + (↑a_18 : Int).toNat)).to →
  (((gl a_16.l ((0 : Nat) + (↑a_18 : Int).toNat)).to != (50 : Int)) = Bool.true →
  ∃ (b : Unit), Bool.false = Bool.true ∧
  True ∧
  True) ∧
  (((gl a_16.l ((0 : Nat) + (↑a_18 : Int).toNat)).to != (50 : Int)) = Bool.false →
  InR IntKind.i64 (gl a_16.l ((0 : Nat) + (↑a_18 : Int).toNat)).r.err →
  (((gl a_16.l ((0 : Nat) + (↑a_18 : Int).toNat)).r.err != (8 : Int)) = Bool.true →
  ∃ (b : Unit), Bool.false = Bool.true ∧
  True ∧
  True) ∧
  (((gl a_16.l ((0 : Nat) + (↑a_18 : Int).toNat)).r.err != (8 : Int)) = Bool.false →
  InR IntKind.i64 ((↑a_18 : Int) + (1 : Int)) ∧
  ∃ (a' : Nat), (↑a_18 : Int) + (1 : Int) = (↑a' : Int) ∧
  ((0 : Nat) = (0 : Nat) ∧
  a_16.l.length = a_16.l.length ∧
  b = b) ∧
  ((↑(dropGo a_13.l a_13.node a_13.pos a_13.l.length).snd : Int) != (0 : Int)) = ((↑(dropGo a_13.l a_13.node a_13.pos a_13.l.length).snd : Int) != (0 : Int)) ∧
  Decidable.decide ((↑a_7 : Int) < bif Bool.false then Max.max (↑a.n : Int) (20 : Int) else Min.min (↑a.n : Int) (20 : Int)) = Decidable.decide ((↑a_7 : Int) < bif Bool.false then Max.max (↑a.n : Int) (20 : Int) else Min.min (↑a.n : Int) (20 : Int)) ∧
  (↑(wantR a a_7) : Int) = (↑(wantR a a_7) : Int) ∧
  (↑a_7 : Int) = (↑a_7 : Int) ∧
  Decidable.decide ((↑a_4.fst : Int) < bif Bool.false then Max.max (↑a.n : Int) (20 : Int) else Min.min (↑a.n : Int) (20 : Int)) = Decidable.decide ((↑a_4.fst : Int) < bif Bool.false then Max.max (↑a.n : Int) (20 : Int) else Min.min (↑a.n : Int) (20 : Int)) ∧
  (↑a_4.fst : Int) = (↑a_4.fst : Int) ∧
  ((bif Bool.false then Max.max (↑a.n : Int) (20 : Int) else Min.min (↑a.n : Int) (20 : Int)) = bif Bool.false then Max.max (↑a.n : Int) (20 : Int) else Min.min (↑a.n : Int) (20 : Int)) ∧
  (0 : Nat) = (0 : Nat) ∧
  Bool.false = Bool.false ∧
  Bool.true = Bool.true ∧
  Bool.false = Bool.false ∧
  ((0 : Nat) = (0 : Nat) ∧
  a.n = a.n ∧
  a.cap = a.cap) ∧
  a.node = a.node ∧
  ((0 : Nat) = (0 : Nat) ∧
  a.nd = a.nd ∧
  a.capd = a.capd) ∧
  (a_16.l.length ≤ a_16.l.length ∧
  RowsEq a_16.l.length (13 : Nat) (encRows encCall a_16.l) (encRows encCall a_16.l)) ∧
  ((0 : Nat) = (0 : Nat) ∧
  (dropGo a_13.l a_13.node a_13.pos a_13.l.length).fst.length = (dropGo a_13.l a_13.node a_13.pos a_13.l.length).fst.length ∧
  a_13.cap = a_13.cap) ∧
  ((dropGo a_13.l a_13.node a_13.pos a_13.l.length).fst.length ≤ (dropGo a_13.l a_13.node a_13.pos a_13.l.length).fst.length ∧
  RowsEq (dropGo a_13.l a_13.node a_13.pos a_13.l.length).fst.length (13 : Nat) (encRows encCall (dropGo a_13.l a_13.node a_13.pos a_13.l.length).fst) (encRows encCall (dropGo a_13.l a_13.node a_13.pos a_13.l.length).fst)) ∧
  (a.n ≤ a.n ∧
  RowsEq a.n (1 : Nat) a.nodes a.nodes) ∧
  (a.nd ≤ a.nd ∧
  RowsEq a.nd (1 : Nat) a.done a.done) ∧
  a' ≤ a.m ∧
  a.m - a' < a.m - a_18))) ∧
  ((gl a_16.l ((0 : Nat) + (↑a_18 : Int).toNat)).done = Bool.false →
  InR IntKind.i64 ((↑a_18 : Int) + (1 : Int)) ∧
  ∃ (a' : Nat), (↑a_18 : Int) + (1 : Int) = (↑a' : Int) ∧
  ((0 : Nat) = (0 : Nat) ∧
  a_16.l.length = a_16.l.length ∧
  b = b) ∧
  ((↑(dropGo a_13.l a_13.node a_13.pos a_13.l.length).snd : Int) != (0 : Int)) = ((↑(dropGo a_13.l a_13.node a_13.pos a_13.l.length).snd : Int) != (0 : Int)) ∧
  Decidable.decide ((↑a_7 : Int) < bif Bool.false then Max.max (↑a.n : Int) (20 : Int) else Min.min (↑a.n : Int) (20 : Int)) = Decidable.decide ((↑a_7 : Int) < bif Bool.false then Max.max (↑a.n : Int) (20 : Int) else Min.min (↑a.n : Int) (20 : Int)) ∧
  (↑(wantR a a_7) : Int) = (↑(wantR a a_7) : Int) ∧
  (↑a_7 : Int) = (↑a_7 : Int) ∧
  Decidable.decide ((↑a_4.fst : Int) < bif Bool.false then Max.max (↑a.n : Int) (20 : Int) else Min.min (↑a.n : Int) (20 : Int)) = Decidable.decide ((↑a_4.fst : Int) < bif Bool.false then Max.max (↑a.n : Int) (20 : Int) else Min.min (↑a.n : Int) (20 : Int)) ∧
  (↑a_4.fst : Int) = (↑a_4.fst : Int) ∧
  ((bif Bool.false then Max.max (↑a.n : Int) (20 : Int) else Min.min (↑a.n : Int) (20 : Int)) = bif Bool.false then Max.max (↑a.n : Int) (20 : Int) else Min.min (↑a.n : Int) (20 : Int)) ∧
  (0 : Nat) = (0 : Nat) ∧
  Bool.false = Bool.false ∧
  Bool.true = Bool.true ∧
  Bool.false = Bool.false ∧
  ((0 : Nat) = (0 : Nat) ∧
  a.n = a.n ∧
  a.cap = a.cap) ∧
  a.node = a.node ∧
  ((0 : Nat) = (0 : Nat) ∧
  a.nd = a.nd ∧
  a.capd = a.capd) ∧
  (a_16.l.length ≤ a_16.l.length ∧
  RowsEq a_16.l.length (13 : Nat) (encRows encCall a_16.l) (encRows encCall a_16.l)) ∧
  ((0 : Nat) = (0 : Nat) ∧
  (dropGo a_13.l a_13.node a_13.pos a_13.l.length).fst.length = (dropGo a_13.l a_13.node a_13.pos a_13.l.length).fst.length ∧
  a_13.cap = a_13.cap) ∧
  ((dropGo a_13.l a_13.node a_13.pos a_13.l.length).fst.length ≤ (dropGo a_13.l a_13.node a_13.pos a_13.l.length).fst.length ∧
  RowsEq (dropGo a_13.l a_13.node a_13.pos a_13.l.length).fst.length (13 : Nat) (encRows encCall (dropGo a_13.l a_13.node a_13.pos a_13.l.length).fst) (encRows encCall (dropGo a_13.l a_13.node a_13.pos a_13.l.length).fst)) ∧
  (a.n ≤ a.n ∧
  RowsEq a.n (1 : Nat) a.nodes a.nodes) ∧
  (a.nd ≤ a.nd ∧
  RowsEq a.nd (1 : Nat) a.done a.done) ∧
  a' ≤ a.m ∧
  a.m - a' < a.m - a_18)) ∧
  ((!toB (a.done ((0 : Nat) + (↑a_18 : Int).toNat) (0 : Nat))) = Bool.false →
  InR IntKind.i64 ((↑a_18 : Int) + (1 : Int)) ∧
  ∃ (a' : Nat), (↑a_18 : Int) + (1 : Int) = (↑a' : Int) ∧
  ((0 : Nat) = (0 : Nat) ∧
  a_16.l.length = a_16.l.length ∧
  b = b) ∧
  ((↑(dropGo a_13.l a_13.node a_13.pos a_13.l.length).snd : Int) != (0 : Int)) = ((↑(dropGo a_13.l a_13.node a_13.pos a_13.l.length).snd : Int) != (0 : Int)) ∧
  Decidable.decide ((↑a_7 : Int) < bif Bool.false then Max.max (↑a.n : Int) (20 : Int) else Min.min (↑a.n : Int) (20 : Int)) = Decidable.decide ((↑a_7 : Int) < bif Bool.false then Max.max (↑a.n : Int) (20 : Int) else Min.min (↑a.n : Int) (20 : Int)) ∧
  (↑(wantR a a_7) : Int) = (↑(wantR a a_7) : Int) ∧
  (↑a_7 : Int) = (↑a_7 : Int) ∧
  Decidable.decide ((↑a_4.fst : Int) < bif Bool.false then Max.max (↑a.n : Int) (20 : Int) else Min.min (↑a.n : Int) (20 : Int)) = Decidable.decide ((↑a_4.fst : Int) < bif Bool.false then Max.max (↑a.n : Int) (20 : Int) else Min.min (↑a.n : Int) (20 : Int)) ∧
  (↑a_4.fst : Int) = (↑a_4.fst : Int) ∧
  ((bif Bool.false then Max.max (↑a.n : Int) (20 : Int) else Min.min (↑a.n : Int) (20 : Int)) = bif Bool.false then Max.max (↑a.n : Int) (20 : Int) else Min.min (↑a.n : Int) (20 : Int)) ∧
  (0 : Nat) = (0 : Nat) ∧
  Bool.false = Bool.false ∧
  Bool.true = Bool.true ∧
  Bool.false = Bool.false ∧
  ((0 : Nat) = (0 : Nat) ∧
  a.n = a.n ∧
  a.cap = a.cap) ∧
  a.node = a.node ∧
  ((0 : Nat) = (0 : Nat) ∧
  a.nd = a.nd ∧
  a.capd = a.capd) ∧
  (a_16.l.length ≤ a_16.l.length ∧
  RowsEq a_16.l.length (13 : Nat) (encRows encCall a_16.l) (encRows encCall a_16.l)) ∧
  ((0 : Nat) = (0 : Nat) ∧
  (dropGo a_13.l a_13.node a_13.pos a_13.l.length).fst.length = (dropGo a_13.l a_13.node a_13.pos a_13.l.length).fst.length ∧
  a_13.cap = a_13.cap) ∧
  ((dropGo a_13.l a_13.node a_13.pos a_13.l.length).fst.length ≤ (dropGo a_13.l a_13.node a_13.pos a_13.l.length).fst.length ∧
  RowsEq (dropGo a_13.l a_13.node a_13.pos a_13.l.length).fst.length (13 : Nat) (encRows encCall (dropGo a_13.l a_13.node a_13.pos a_13.l.length).fst) (encRows encCall (dropGo a_13.l a_13.node a_13.pos a_13.l.length).fst)) ∧
  (a.n ≤ a.n ∧
  RowsEq a.n (1 : Nat) a.nodes a.nodes) ∧
  (a.nd ≤ a.nd ∧
  RowsEq a.nd (1 : Nat) a.done a.done) ∧
  a' ≤ a.m ∧
  a.m - a' < a.m - a_18)))))) ∧
  (Decidable.decide ((↑a_18 : Int) < (↑a.nd : Int)) = Bool.false →
  ((0 : Int) ≤ (↑a_18 : Int) ∧
  (↑a_18 : Int) < (↑a_16.l.length : Int)) ∧
  (0 : Nat) + (↑a_18 : Int).toNat < a_16.l.length ∧
  ((0 : Int) ≤ (↑a_18 : Int) ∧
  (↑a_18 : Int) < (↑a.n : Int)) ∧
  (0 : Nat) + (↑a_18 : Int).toNat < a.n ∧
  (InR IntKind.i64 (toI (a.nodes ((0 : Nat) + (↑a_18 : Int).toNat) (0 : Nat))) →
  ((!(gl a_16.l ((0 : Nat) + (↑a_18 : Int).toNat)).done == (toI (a.nodes ((0 : Nat) + (↑a_18 : Int).toNat) (0 : Nat)) == a.node)) = Bool.true →
  ∃ (b : Unit), Bool.false = Bool.true ∧
  True ∧
  True) ∧
  ((!(gl a_16.l ((0 : Nat) + (↑a_18 : Int).toNat)).done == (toI (a.nodes ((0 : Nat) + (↑a_18 : Int).toNat) (0 : Nat)) == a.node)) = Bool.false →
  ((gl a_16.l ((0 : Nat) + (↑a_18 : Int).toNat)).done = Bool.true →
  InR IntKind.i64 (gl a_16.l ((0 : Nat) + (↑a_18 : Int).toNat)).to →
  (((gl a_16.l ((0 : Nat) + (↑a_18 : Int).toNat)).to != (50 : Int)) = Bool.true →
  ∃ (b : Unit), Bool.false = Bool.true ∧
  True ∧
  True) ∧
  (((gl a_16.l ((0 : Nat) + (↑a_18 : Int).toNat)).to != (50 : Int)) = Bool.false →
  InR IntKind.i64 (gl a_16.l ((0 : Nat) + (↑a_18 : Int).toNat)).r.err →
  (((gl a_16.l ((0 : Nat) + (↑a_18 : Int).toNat)).r.err != (8 : Int)) = Bool.true →
  ∃ (b : Unit), Bool.false = Bool.true ∧
  True ∧
  True) ∧
  (((gl a_16.l ((0 : Nat) + (↑a_18 : Int).toNat)).r.err != (8 : Int)) = Bool.false →
  InR IntKind.i64 ((↑a_18 : Int) + (1 : Int)) ∧
  ∃ (a' : Nat), (↑a_18 : Int) + (1 : Int) = (↑a' : Int) ∧
  ((0 : Nat) = (0 : Nat) ∧
  a_16.l.length = a_16.l.length ∧
  b = b) ∧
  ((↑(dropGo a_13.l a_13.node a_13.pos a_13.l.length).snd : Int) != (0 : Int)) = ((↑(dropGo a_13.l a_13.node a_13.pos a_13.l.length).snd : Int) != (0 : Int)) ∧
  Decidable.decide ((↑a_7 : Int) < bif Bool.false then Max.max (↑a.n : Int) (20 : Int) else Min.min (↑a.n : Int) (20 : Int)) = Decidable.decide ((↑a_7 : Int) < bif Bool.false then Max.max (↑a.n : Int) (20 : Int) else Min.min (↑a.n : Int) (20 : Int)) ∧
  (↑(wantR a a_7) : Int) = (↑(wantR a a_7) : Int) ∧
  (↑a_7 : Int) = (↑a_7 : Int) ∧
  Decidable.decide ((↑a_4.fst : Int) < bif Bool.false then Max.max (↑a.n : Int) (20 : Int) else Min.min (↑a.n : Int) (20 : Int)) = Decidable.decide ((↑a_4.fst : Int) < bif Bool.false then Max.max (↑a.n : Int) (20 : Int) else Min.min (↑a.n : Int) (20 : Int)) ∧
  (↑a_4.fst : Int) = (↑a_4.fst : Int) ∧
  ((bif Bool.false then Max.max (↑a.n : Int) (20 : Int) else Min.min (↑a.n : Int) (20 : Int)) = bif Bool.false then Max.max (↑a.n : Int) (20 : Int) else Min.min (↑a.n : Int) (20 : Int)) ∧
  (0 : Nat) = (0 : Nat) ∧
  Bool.false = Bool.false ∧
  Bool.true = Bool.true ∧
  Bool.false = Bool.false ∧
  ((0 : Nat) = (0 : Nat) ∧
  a.n = a.n ∧
  a.cap = a.cap) ∧
  a.node = a.node ∧
  ((0 : Nat) = (0 : Nat) ∧
  a.nd = a.nd ∧
  a.capd = a.capd) ∧
  (a_16.l.length ≤ a_16.l.length ∧
  RowsEq a_16.l.length (13 : Nat) (encRows encCall a_16.l) (encRows encCall a_16.l)) ∧
  ((0 : Nat) = (0 : Nat) ∧
  (dropGo a_13.l a_13.node a_13.pos a_13.l.length).fst.length = (dropGo a_13.l a_13.node a_13.pos a_13.l.length).fst.length ∧
  a_13.cap = a_13.cap) ∧
  ((dropGo a_13.l a_13.node a_13.pos a_13.l.length).fst.length ≤ (dropGo a_13.l a_13.node a_13.pos a_13.l.length).fst.length ∧
  RowsEq (dropGo a_13.l a_13.node a_13.pos a_13.l.length).fst.length (13 : Nat) (encRows encCall (dropGo a_13.l a_13.node a_13.pos a_13.l.length).fst) (encRows encCall (dropGo a_13.l a_13.node a_13.pos a_13.l.length).fst)) ∧
  (a.n ≤ a.n ∧
  RowsEq a.n (1 : Nat) a.nodes a.nodes) ∧
  (a.nd ≤ a.nd ∧
  RowsEq a.nd (1 : Nat) a.done a.done) ∧
  a' ≤ a.m ∧
  a.m - a' < a.m - a_18))) ∧
  ((gl a_16.l ((0 : Nat) + (↑a_18 : Int).toNat)).done = Bool.false →
  InR IntKind.i64 ((↑a_18 : Int) + (1 : Int)) ∧
  ∃ (a' : Nat), (↑a_18 : Int) + (1 : Int) = (↑a' : Int) ∧
  ((0 : Nat) = (0 : Nat) ∧
  a_16.l.length = a_16.l.length ∧
  b = b) ∧
  ((↑(dropGo a_13.l a_13.node a_13.pos a_13.l.length).snd : Int) != (0 : Int)) = ((↑(dropGo a_13.l a_13.node a_13.pos a_13.l.length).snd : Int) != (0 : Int)) ∧
  Decidable.decide ((↑a_7 : Int) < bif Bool.false then Max.max (↑a.n : Int) (20 : Int) else Min.min (↑a.n : Int) (20 : Int)) = Decidable.decide ((↑a_7 : Int) < bif Bool.false then Max.max (↑a.n : Int) (20 : Int) else Min.min (↑a.n : Int) (20 : Int)) ∧
  (↑(wantR a a_7) : Int) = (↑(wantR a a_7) : Int) ∧
  (↑a_7 : Int) = (↑a_7 : Int) ∧
  Decidable.decide ((↑a_4.fst : Int) < bif Bool.false then Max.max (↑a.n : Int) (20 : Int) else Min.min (↑a.n : Int) (20 : Int)) = Decidable.decide ((↑a_4.fst : Int) < bif Bool.false then Max.max (↑a.n : Int) (20 : Int) else Min.min (↑a.n : Int) (20 : Int)) ∧
  (↑a_4.fst : Int) = (↑a_4.fst : Int) ∧
  ((bif Bool.false then Max.max (↑a.n : Int) (20 : Int) else Min.min (↑a.n : Int) (20 : Int)) = bif Bool.false then Max.max (↑a.n : Int) (20 : Int) else Min.min (↑a.n : Int) (20 : Int)) ∧
  (0 : Nat) = (0 : Nat) ∧
  Bool.false = Bool.false ∧
  Bool.true = Bool.true ∧
  Bool.false = Bool.false ∧
  ((0 : Nat) = (0 : Nat) ∧
  a.n = a.n ∧
  a.cap = a.cap) ∧
  a.node = a.node ∧
  ((0 : Nat) = (0 : Nat) ∧
  a.nd = a.nd ∧
  a.capd = a.capd) ∧
  (a_16.l.length ≤ a_16.l.length ∧
  RowsEq a_16.l.length (13 : Nat) (encRows encCall a_16.l) (encRows encCall a_16.l)) ∧
  ((0 : Nat) = (0 : Nat) ∧
  (dropGo a_13.l a_13.node a_13.pos a_13.l.length).fst.length = (dropGo a_13.l a_13.node a_13.pos a_13.l.length).fst.length ∧
  a_13.cap = a_13.cap) ∧
  ((dropGo a_13.l a_13.node a_13.pos a_13.l.length).fst.length ≤ (dropGo a_13.l a_13.node a_13.pos a_13.l.length).fst.length ∧
  RowsEq (dropGo a_13.l a_13.node a_13.pos a_13.l.length).fst.length (13 : Nat) (encRows encCall (dropGo a_13.l a_13.node a_13.pos a_13.l.length).fst) (encRows encCall (dropGo a_13.l a_13.node a_13.pos a_13.l.length).fst)) ∧
  (a.n ≤ a.n ∧
  RowsEq a.n (1 : Nat) a.nodes a.nodes) ∧
  (a.nd ≤ a.nd ∧
  RowsEq a.nd (1 : Nat) a.done a.done) ∧
  a' ≤ a.m ∧
  a.m - a' < a.m - a_18))))) ∧
  (Decidable.decide ((↑a_18 : Int) < bif Bool.false then Max.max (↑a.n : Int) (20 : Int) else Min.min (↑a.n : Int) (20 : Int)) = Bool.false →
  ∃ (b : Unit), ((↑a_16.l.length : Int) == bif Bool.false then Max.max (↑a.n : Int) (20 : Int) else Min.min (↑a.n : Int) (20 : Int)) = Bool.true ∧
  True ∧
  True)))))) (by kernel_rfl) (by
  intro a h
  obtain ⟨g1, g2, g3, g4⟩ := h
  have hm : a.m = min a.n 20 := rfl
  refine ⟨(), trivial, fun _ _ => ⟨⟨(0, 0), by simp⟩, fun x hx => ?_⟩⟩
  obtain ⟨i, c1⟩ := x
  dsimp only at *
  simp only [cond_false]
  have hL := logR_length a
  have hw := wantR_le a
  have hok := endOk_new a i c1
  simp only [kB] at hok
  repeat' (first | intro _ | apply And.intro | apply Exists.intro () | apply Exists.intro (BeginA.mk (logR a i) _ _ _ _ _) | apply Exists.intro (EndA.mk _ _ (rOf i) _) | apply Exists.intro (DropA.mk _ _ a.node _) | apply Exists.intro (AllA.mk _ _) | apply Exists.intro ((i + 1, _) : Nat × Nat) | apply Exists.intro (_ : Nat))
  all_goals (try with_reducible exact cast0)
  all_goals (try with_reducible exact cast1 _)
  all_goals (try with_reducible exact RowsEq.refl _ _ _)
  all_goals (try with_reducible rfl)
  all_goals (try dsimp only)
  all_goals (try exact trivial)
  all_goals (try simp only [Int.toNat_natCast, Nat.zero_add, decide_eq_true_eq, decide_eq_false_iff_not, cond_false, drop2, (drop1 a i 50).1] at *)
  all_goals (try omega)
  all_goals (try exact rfl)
  all_goals (try exact (hL i).symm)
  all_goals (try (simp only [hL, endL_length, dropGo_length, List.length_append, List.length_singleton]; first | done | omega))
  all_goals (try (with_reducible refine wantR_bound ?_; omega))
  all_goals (try (with_reducible refine wantR_yes ?_ ?_ <;> simp_all [DropsA.was]; done))
  all_goals (try (with_reducible refine wantR_yes ?_ (was_no ?_) <;> first | assumption | (simp_all; done) | omega | (intro; omega)))
  all_goals (try (with_reducible refine wantR_no ?_; simp_all [DropsA.was]; done))
  all_goals (try (refine wasYes ?_ ?_ rfl <;> first | assumption | omega))
  all_goals (try (refine wasNo ?_ rfl <;> first | assumption | omega | (intro; omega) | (intro; assumption)))
  all_goals (try (simp only [hok, Bool.not_true] at *; done))
  all_goals (try (refine (wantNe (a := a) ?_ ?_ ?_ ?_ ?_).elim <;> first | assumption | omega))
  all_goals (try (simp (disch := omega) only [(drop1 a i 50).2] at *))
  all_goals (try (simp_all [dropC, callR, endC, downR, rOf, DropsA.was, zeroReply, kB, vB]; done))
  all_goals (try (refine (chk1 (a := a) (by assumption) (was_no ?_)).elim <;> intro <;> first | assumption | omega))
  all_goals (try (refine (chk2 (a := a) (by assumption) (was_no ?_) (by assumption)).elim <;> intro <;> first | assumption | omega))
  all_goals (try (refine (chk3 (a := a) (by assumption) (was_no ?_) (by assumption)).elim <;> intro <;> first | assumption | omega))
  all_goals (try (refine (wantNe (a := a) (i := i) (by assumption) ?_ ?_ ?_ ?_).elim <;> first | assumption | omega))
  all_goals (try (simp only [dropGo_length, hL, beq_iff_eq]; omega)))
theorem instClientDrop : ∀ ads, okADs [.slc 3 [.int .i64], .int .i64, .slc 4 [.bool]] ads → ∃ a : DropsA, cClientDrop.pre a ∧ cClientDrop.args a = svs 0 ads ∧ cClientDrop.ro a = chs 0 [.slc 3 [.int .i64], .int .i64, .slc 4 [.bool]] ads ∧ cClientDrop.m = slcs ads := by
  rintro ads ⟨d, r, rfl, ⟨n, cap, rows, rfl, h1, h2, h3⟩, d2, r2, rfl, ⟨i, rfl, hi⟩, d3, r3, rfl, ⟨n3, cap3, rows3, rfl, h4, h5, h6⟩, rfl⟩
  exact ⟨⟨n, cap, rows, i, n3, cap3, rows3⟩, ⟨h1, h2, h4, h5⟩, rfl, rfl, rfl⟩
end Go.Proofs.Ytilphhafffakoaa
