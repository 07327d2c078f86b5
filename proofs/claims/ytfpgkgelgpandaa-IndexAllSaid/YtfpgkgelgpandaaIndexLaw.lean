/-
  The statements' functions over the layer index that have keys by numbers; no condition.
-/
import Derived.Test.YtfpgkgelgpandaaIndex3
import Derived.Test.YtfpgkgelgpandaaSxZ
namespace Go.Proofs.Ytfpgkgelgpandaa
open Go.Sx
set_option maxRecDepth 100000
set_option linter.unusedVariables false

noncomputable def cBegun : Con where
  α := Unit
  β := Unit
  m := 0
  m' := 0
  pre := fun _ => True
  args := fun _ => []
  hp := fun _ => []
  ro := fun _ => []
  post := fun _ _ => True
  res := fun _ _ => .a .tt
  hp' := fun _ _ => []
set_option maxHeartbeats 4000000 in
theorem bodyBegun : fnBody (Yf Try.prog) [] 8 cBegun fun _ => [] := fnBody.of (p :=
  ∀ (a : Unit), True →
  (0 : Int) ≤ (16 : Int) ∧
  (16 : Int) ≤ (16 : Int) ∧
  (512 : Int) ≤ (281474976710656 : Int) ∧
  ∃ (b : Unit), Bool.true = Bool.true ∧
  True ∧
  True) (by kernel_rfl) (by
  exact fun _ _ => ⟨by omega, by omega, by omega, (), rfl, trivial, trivial⟩)
theorem callBegun : CallsBy (Y Try.prog).G.X 8 cBegun := fn_ok okYf (tab := []) trivial bodyBegun

/-! ### keys by numbers -/

def nameOf (i : Nat) : ByteArray := ((ByteArray.empty.push (UInt8.ofNat (97 + i % 26))).push (UInt8.ofNat (97 + i / 26 % 26))).push (UInt8.ofNat (97 + i / 676))
noncomputable def cName : Con where
  α := Nat
  β := Unit
  m := 0
  m' := 0
  pre := fun i => i < 1000
  args := fun i => [.a (.int .i64 i)]
  hp := fun _ => []
  ro := fun _ => []
  post := fun _ _ => True
  res := fun i _ => .a (.str (nameOf i))
  hp' := fun _ _ => []
set_option maxHeartbeats 4000000 in
theorem bodyName : fnBody (Y Try.prog) [] 11 cName fun _ => [] := fnBody.of (p :=
  ∀ (a : Nat), a < (1000 : Nat) →
  (26 : Int) ≠ (0 : Int) ∧
  InR IntKind.i64 ((97 : Int) + (↑a : Int).tmod (26 : Int)) ∧
  (26 : Int) ≠ (0 : Int) ∧
  InR IntKind.i64 ((↑a : Int).tdiv (26 : Int)) ∧
  (26 : Int) ≠ (0 : Int) ∧
  InR IntKind.i64 ((97 : Int) + ((↑a : Int).tdiv (26 : Int)).tmod (26 : Int)) ∧
  (676 : Int) ≠ (0 : Int) ∧
  InR IntKind.i64 ((↑a : Int).tdiv (676 : Int)) ∧
  InR IntKind.i64 ((97 : Int) + (↑a : Int).tdiv (676 : Int)) ∧
  (3 : Nat) ≤ (3 : Nat) ∧
  ∃ (b : Unit), List.foldl (fun (s : ByteArray) (n : Int) => s.push (UInt8.ofNat n.toNat)) ByteArray.empty (List.map (fun (i : Nat) => toI (flatRows (1 : Nat) [Value.int IntKind.u8 (uw IntKind.u8 ((97 : Int) + (↑a : Int).tmod (26 : Int))), Value.int IntKind.u8 (uw IntKind.u8 ((97 : Int) + ((↑a : Int).tdiv (26 : Int)).tmod (26 : Int))), Value.int IntKind.u8 (uw IntKind.u8 ((97 : Int) + (↑a : Int).tdiv (676 : Int)))] ((0 : Nat) + i) (0 : Nat))) (List.range (3 : Nat))) = nameOf a ∧
  True ∧
  True) (by kernel_rfl) (by
  intro a h
  have d1 : (a : Int).tmod 26 = ((a % 26 : Nat) : Int) := rfl
  have d2 : (a : Int).tdiv 26 = ((a / 26 : Nat) : Int) := rfl
  have d3 : (a : Int).tdiv 676 = ((a / 676 : Nat) : Int) := rfl
  have d4 : ((a / 26 : Nat) : Int).tmod 26 = ((a / 26 % 26 : Nat) : Int) := rfl
  simp only [d1, d2, d3, d4]
  have u1 : uw .u8 (97 + ((a % 26 : Nat) : Int)) = ((97 + a % 26 : Nat) : Int) := by simp only [uw]; omega
  have u2 : uw .u8 (97 + ((a / 26 % 26 : Nat) : Int)) = ((97 + a / 26 % 26 : Nat) : Int) := by simp only [uw]; omega
  have u3 : uw .u8 (97 + ((a / 676 : Nat) : Int)) = ((97 + a / 676 : Nat) : Int) := by simp only [uw]; omega
  rw [u1, u2, u3]
  simp only [InR]
  refine ⟨by omega, by omega, by omega, by omega, by omega, by omega, by omega, by omega, by omega, by omega, (), rfl, trivial, trivial⟩)
theorem callName : CallsBy (Y Try.prog).G.X 11 cName := fn_ok okY (tab := []) trivial bodyName
theorem nameOf_size (i : Nat) : (nameOf i).size = 3 := rfl
theorem nameOf_inj {i j : Nat} (hi : i < 1000) (hj : j < 1000) (h : nameOf i = nameOf j) : i = j := by
  have e := congrArg (fun b : ByteArray => b.data.toList) h
  simp only [nameOf, ByteArray.data_push, Array.toList_push] at e
  simp only [ByteArray.data_empty, List.append_assoc, List.cons_append, List.nil_append, List.cons.injEq, and_true] at e
  obtain ⟨_, e0, e1, e2⟩ := (show _ ∧ _ ∧ _ ∧ _ from ⟨trivial, by simpa using e⟩)
  have f0 := congrArg UInt8.toNat e0
  have f1 := congrArg UInt8.toNat e1
  have f2 := congrArg UInt8.toNat e2
  simp only [UInt8.toNat_ofNat'] at f0 f1 f2
  omega

/-- entries by numbers -/
def LM (n : Nat) (p : Nat → Bool) (f : Nat → Int) : List (ByteArray × Int) := ((List.range n).filter p).map fun k => (nameOf k, f k)
theorem LM_congr {n : Nat} {p p' : Nat → Bool} {f f' : Nat → Int} (h : ∀ k, k < n → p k = p' k) (h2 : ∀ k, k < n → p k = true → f k = f' k) : LM n p f = LM n p' f' := by
  unfold LM
  rw [List.filter_congr (q := p') fun k hk => h k (List.mem_range.1 hk)]
  refine List.map_congr_left fun k hk => ?_
  obtain ⟨h3, h4⟩ := List.mem_filter.1 hk
  have h3 := List.mem_range.1 h3
  rw [h2 k h3 (by rw [h k h3]; exact h4)]
theorem LM_mem {n : Nat} {p : Nat → Bool} {f : Nat → Int} (hn : n ≤ 1000) {i : Nat} (hi : i < n) (hp : p i = true) : (nameOf i, f i) ∈ LM n p f :=
  List.mem_map.2 ⟨i, List.mem_filter.2 ⟨List.mem_range.2 hi, hp⟩, rfl⟩
theorem LM_not {n : Nat} {p : Nat → Bool} {f : Nat → Int} (hn : n ≤ 1000) {i : Nat} (hi : i < n) (hp : p i = false) : nameOf i ∉ (LM n p f).map Prod.fst := by
  intro hm
  obtain ⟨⟨_, _⟩, h1, rfl⟩ := List.mem_map.1 hm
  obtain ⟨k, h2, h3⟩ := List.mem_map.1 h1
  obtain ⟨h4, h5⟩ := List.mem_filter.1 h2
  have h4 := List.mem_range.1 h4
  have : k = i := nameOf_inj (by omega) (by omega) (congrArg Prod.fst h3)
  subst this
  rw [hp] at h5; cases h5
theorem filter_out {p : Nat → Bool} {i : Nat} : ∀ {l : List Nat}, l.Nodup → i ∈ l → p i = true → (l.filter p).Perm (i :: l.filter fun k => p k && decide (k ≠ i))
  | [], _, h, _ => by cases h
  | a :: r, hn, h, hp => by
    obtain ⟨h1, h2⟩ := List.nodup_cons.1 hn
    by_cases e : a = i
    · subst e
      have : (a :: r).filter (fun k => p k && decide (k ≠ a)) = r.filter p := by
        rw [List.filter_cons]
        simp only [ne_eq, not_true_eq_false, decide_false, Bool.and_false, Bool.false_eq_true, if_false]
        refine List.filter_congr fun k hk => ?_
        have : k ≠ a := fun e => h1 (e ▸ hk)
        simp [this]
      rw [this, List.filter_cons, if_pos hp]
    · have hr : i ∈ r := (List.mem_cons.1 h).resolve_left fun h => e h.symm
      have ih := filter_out h2 hr hp
      rw [List.filter_cons, List.filter_cons]
      by_cases ha : p a = true
      · rw [if_pos ha, if_pos (by simp [ha, e])]
        exact (ih.cons a).trans (.swap _ _ _)
      · rw [if_neg ha, if_neg (by simp [ha])]; exact ih
/-- one of them ahead -/
theorem LM_out {n : Nat} {p : Nat → Bool} {f : Nat → Int} {i : Nat} (hi : i < n) (hp : p i = true) : (LM n p f).Perm ((nameOf i, f i) :: LM n (fun k => p k && decide (k ≠ i)) f) :=
  (filter_out List.nodup_range (List.mem_range.2 hi) hp).map _
/-- one more, or one anew -/
theorem LM_in {n : Nat} {p p' : Nat → Bool} {f f' : Nat → Int} {i : Nat} (hi : i < n) (hp : p' i = true) (h1 : ∀ k, k < n → k ≠ i → p k = p' k) (h2 : ∀ k, k < n → k ≠ i → p k = true → f k = f' k) :
    ((nameOf i, f' i) :: LM n (fun k => p k && decide (k ≠ i)) f).Perm (LM n p' f') := by
  refine List.Perm.symm ((LM_out hi hp).trans (.of_eq ?_))
  congr 1
  refine LM_congr (fun k hk => ?_) fun k hk h => ?_
  · by_cases e : k = i
    · simp [e]
    · simp [e, h1 k hk e]
  · simp only [Bool.and_eq_true, decide_eq_true_eq] at h
    exact (h2 k hk h.2 (by rw [h1 k hk h.2]; exact h.1)).symm
theorem LM_none {n : Nat} {p : Nat → Bool} {f : Nat → Int} {i : Nat} (hi : i < n) (hp : p i = false) : LM n (fun k => p k && decide (k ≠ i)) f = LM n p f :=
  LM_congr (fun k _ => by by_cases e : k = i <;> simp [e, hp]) fun _ _ _ => rfl
theorem LM_all (n : Nat) (f : Nat → Int) : (LM n (fun _ => true) f).length = n := by
  unfold LM
  rw [List.length_map, List.filter_eq_self.2 fun _ _ => rfl, List.length_range]

/-- put, by numbers -/
theorem put_num {x : IdxR} {n : Nat} {p p' : Nat → Bool} {f f' : Nat → Int} (h : Has x (LM n p f)) (hn : n ≤ 1000) {i : Nat} {v : Int} (hi : i < n) (hv : f' i = v) (hp : p' i = true) (h1 : ∀ k, k < n → k ≠ i → p k = p' k) (h2 : ∀ k, k < n → k ≠ i → p k = true → f k = f' k) :
    Has (putX x (nameOf i) v) (LM n p' f') ∧ putRet (roomy x) (nameOf i) = (if p i then f i else 0) ∧ x.n ≤ n := by
  have hx : x.n ≤ n := by
    rw [h.n]; unfold LM
    rw [List.length_map]
    exact Nat.le_trans (List.length_filter_le _ _) (by simp)
  subst hv
  cases hpi : p i with
  | true =>
    obtain ⟨g1, g2⟩ := putX_there (p := f' i) (h.of_perm (LM_out hi hpi)) (by omega)
    exact ⟨g1.of_perm (LM_in hi hp h1 h2), by simpa using g2, hx⟩
  | false =>
    obtain ⟨g1, g2⟩ := putX_new (p := f' i) h (by omega) (LM_not hn hi hpi) (by rw [nameOf_size]; unfold lenMax; omega)
    refine ⟨g1.of_perm ?_, by simpa using g2, hx⟩
    rw [← LM_none (f := f) hi hpi]
    exact LM_in hi hp h1 h2
/-- drop, by numbers -/
theorem drop_num {x : IdxR} {n : Nat} {p p' : Nat → Bool} {f : Nat → Int} (h : Has x (LM n p f)) {i : Nat} (hi : i < n) (hp : p i = true) (hp' : p' i = false) (h1 : ∀ k, k < n → k ≠ i → p k = p' k) :
    Has (dropI x (nameOf i)) (LM n p' f) ∧ 0 ≤ (findP x.t (nameOf i)).1 ∧ 1 ≤ x.n := by
  have h0 := h.of_perm (LM_out hi hp)
  obtain ⟨g1, g2⟩ := drop_there h0
  refine ⟨g1.of_perm (.of_eq (LM_congr (fun k hk => ?_) fun _ _ _ => rfl)), g2, by rw [h0.n]; simp⟩
  by_cases e : k = i
  · simp [e, hp']
  · simp [e, h1 k hk e]
theorem Has.num_le {x : IdxR} {n : Nat} {p : Nat → Bool} {f : Nat → Int} (h : Has x (LM n p f)) : x.n ≤ n := by
  rw [h.n]; unfold LM
  rw [List.length_map]
  exact Nat.le_trans (List.length_filter_le _ _) (by simp)

/-! ### IndexMany -/

def S.idx (s : S) (t : Nat) (x : IdxR) (cap : Nat) : S := (s.at_ t (.obj 52 [.slc (s.in_ t 0) 0 4 x.t.length cap, .int .i64 x.n, .int .i64 x.used])).at_ (s.in_ t 0) (.arr 56 ksP x.t.length (encRows encP x.t))
structure ManyA where
  n : Int
  step : Int
structure ManyS where
  x : IdxR
  cap : Nat
  i : Nat
def plus1 (k : Nat) : Int := (k : Int) + 1
def iMany1 (a : ManyA) : An := .flat 8 ManyS (fun s y => (S.idx s (s.tg 6) y.x y.cap).int 7 y.i)
  (fun _ y => y.i ≤ a.n.toNat ∧ Has y.x (LM a.n.toNat (fun k => decide (k < y.i)) plus1)) (fun _ y => a.n.toNat - y.i)
def iMany2 (a : ManyA) : An := .flat 14 ManyS (fun s y => ((S.idx s (s.tg 6) y.x y.cap).int 8 y.i).int 9 (a.step.toNat * y.i : Nat))
  (fun _ y => a.step.toNat * y.i < a.n.toNat + a.step.toNat ∧ y.i ≤ a.n.toNat ∧ Has y.x (LM a.n.toNat (fun k => !(decide (k % a.step.toNat = 0) && decide (k < a.step.toNat * y.i))) plus1)) (fun _ y => a.n.toNat + a.step.toNat - a.step.toNat * y.i)
def iMany3 (a : ManyA) : An := .flat 20 ManyS (fun s y => (S.idx s (s.tg 6) y.x y.cap).int 10 y.i)
  (fun _ y => y.i ≤ a.n.toNat ∧ Has y.x (LM a.n.toNat (fun k => !decide (k % a.step.toNat = 0)) plus1)) (fun _ y => a.n.toNat - y.i)
def iMany4 (a : ManyA) : An := .flat 26 ManyS (fun s y => (S.idx s (s.tg 6) y.x y.cap).int 13 (a.step.toNat * y.i : Nat))
  (fun _ y => a.step.toNat * y.i < a.n.toNat + a.step.toNat ∧ Has y.x (LM a.n.toNat (fun k => !decide (k % a.step.toNat = 0) || decide (k < a.step.toNat * y.i)) fun k => if k % a.step.toNat = 0 then 7 else plus1 k)) (fun _ y => a.n.toNat + a.step.toNat - a.step.toNat * y.i)
noncomputable def cMany : Con where
  α := ManyA
  β := Unit
  m := 0
  m' := 0
  pre := fun _ => True
  args := fun a => [.a (.int .i64 a.n), .a (.int .i64 a.step)]
  hp := fun _ => []
  ro := fun _ => []
  post := fun _ _ => True
  res := fun _ _ => .a .tt
  hp' := fun _ _ => []
noncomputable def tabIdx : List (Nat × Con) := [(8, cBegun), (11, cName), (10, cPut), (13, cGet), (12, cDrop), (15, cBelow)]
theorem tabIdx_ok : TabOk (Y Try.prog).G.X tabIdx := ⟨callBegun, callName, callPut, callGet, callDrop, callBelow, trivial⟩
theorem newRows {n : Nat} : RowsEq n 4 (fun (x j : Nat) => [Go.Value.string { data := #[] }, Go.Value.int Go.IntKind.i64 0, Go.Value.bool Bool.false, Go.Value.bool Bool.false].getD j (Go.Value.tuple #[])) (encRows encP (emptyI n).t) := by
  refine .of_cells fun i hi => ?_
  unfold encRows
  rw [show gl (emptyI n).t i = ⟨.empty, 0, false, false⟩ from gl_replicate hi]
  rfl
theorem mult_next {S g k : Nat} (hS : 1 ≤ S) : (k % S = 0 ∧ k < S * (g + 1)) ↔ (k % S = 0 ∧ k < S * g) ∨ k = S * g := by
  constructor
  · rintro ⟨h1, h2⟩
    obtain ⟨q, rfl⟩ := Nat.dvd_of_mod_eq_zero h1
    have hq : q < g + 1 := Nat.lt_of_mul_lt_mul_left h2
    by_cases e : q = g
    · exact .inr (by rw [e])
    · exact .inl ⟨h1, Nat.mul_lt_mul_of_pos_left (by omega) (by omega)⟩
  · rintro (⟨h1, h2⟩ | rfl)
    · exact ⟨h1, Nat.lt_of_lt_of_le h2 (Nat.mul_le_mul_left _ (by omega))⟩
    · exact ⟨Nat.mul_mod_right _ _, by rw [Nat.mul_succ]; omega⟩
set_option maxHeartbeats 4000000 in
theorem bodyMany : fnBody (Y Try.prog) tabIdx 3 cMany fun a => [(3, [iMany1 a, iMany2 a, iMany3 a, iMany4 a], [])] := fnBody.of (p :=
  ∀ (a : ManyA), True →
  ∃ (a_2 : Unit), True ∧
  ∀ (b : Unit), True →
  (Decidable.decide (a.n < (0 : Int)) = Bool.true →
  ∃ (b : Unit), Bool.true = Bool.true ∧
  True ∧
  True) ∧
  (Decidable.decide (a.n < (0 : Int)) = Bool.false →
  (Decidable.decide ((300 : Int) < a.n) = Bool.true →
  ∃ (b : Unit), Bool.true = Bool.true ∧
  True ∧
  True) ∧
  (Decidable.decide ((300 : Int) < a.n) = Bool.false →
  (Decidable.decide (a.step < (1 : Int)) = Bool.true →
  ∃ (b : Unit), Bool.true = Bool.true ∧
  True ∧
  True) ∧
  (Decidable.decide (a.step < (1 : Int)) = Bool.false →
  (Decidable.decide ((20 : Int) < a.step) = Bool.true →
  ∃ (b : Unit), Bool.true = Bool.true ∧
  True ∧
  True) ∧
  (Decidable.decide ((20 : Int) < a.step) = Bool.false →
  (0 : Int) ≤ (16 : Int) ∧
  (16 : Int) ≤ (16 : Int) ∧
  (512 : Int) ≤ (281474976710656 : Int) ∧
  (∃ (a_8 : ManyS), (0 : Int) = (↑a_8.i : Int) ∧
  (0 : Nat) = (0 : Nat) ∧
  Decidable.decide ((20 : Int) < a.step) = Decidable.decide ((20 : Int) < a.step) ∧
  Bool.false = Bool.false ∧
  Bool.true = Bool.true ∧
  Bool.false = Bool.false ∧
  a.n = a.n ∧
  a.step = a.step ∧
  ((0 : Nat) = (0 : Nat) ∧
  (16 : Nat) = a_8.x.t.length ∧
  (16 : Nat) = a_8.cap) ∧
  (0 : Int) = (↑a_8.x.n : Int) ∧
  (0 : Int) = (↑a_8.x.used : Int) ∧
  (a_8.x.t.length ≤ (16 : Nat) ∧
  RowsEq a_8.x.t.length (4 : Nat) (fun (x j : Nat) => [Value.string { data := #[] }, Value.int IntKind.i64 (0 : Int), Value.bool Bool.false, Value.bool Bool.false].getD j (Value.tuple #[])) (encRows encP a_8.x.t)) ∧
  (a_8.i ≤ a.n.toNat ∧
  Has a_8.x (LM a.n.toNat (fun (k : Nat) => Decidable.decide (k < a_8.i)) plus1)) ∧
  True) ∧
  ∀ (a_8 : ManyS), a_8.i ≤ a.n.toNat ∧
  Has a_8.x (LM a.n.toNat (fun (k : Nat) => Decidable.decide (k < a_8.i)) plus1) →
  (Decidable.decide ((↑a_8.i : Int) < a.n) = Bool.true →
  ∃ (a_11 : Nat), (↑a_8.i : Int) = (↑a_11 : Int) ∧
  a_11 < (1000 : Nat) ∧
  ∀ (b : Unit), True →
  InR IntKind.i64 ((↑a_8.i : Int) + (1 : Int)) ∧
  ∃ (a_13 : PutA), (0 : Nat) = (0 : Nat) ∧
  nameOf a_11 = a_13.key ∧
  (↑a_8.i : Int) + (1 : Int) = a_13.pos ∧
  ((0 : Nat) = (0 : Nat) ∧
  a_8.x.t.length = a_13.x.t.length ∧
  a_8.cap = a_13.cap) ∧
  (↑a_8.x.n : Int) = (↑a_13.x.n : Int) ∧
  (↑a_8.x.used : Int) = (↑a_13.x.used : Int) ∧
  (a_13.x.t.length ≤ a_8.x.t.length ∧
  RowsEq a_13.x.t.length (4 : Nat) (encRows encP a_8.x.t) (encRows encP a_13.x.t)) ∧
  (Inv a_13.x ∧
  a_13.x.n < (9999 : Nat) ∧
  a_13.key.size ≤ lenMax) ∧
  ∀ (b : Nat), True →
  ((putRet (roomy a_13.x) a_13.key != (0 : Int)) = Bool.true →
  ∃ (b : Unit), Bool.false = Bool.true ∧
  True ∧
  True) ∧
  ((putRet (roomy a_13.x) a_13.key != (0 : Int)) = Bool.false →
  InR IntKind.i64 ((↑a_8.i : Int) + (1 : Int)) ∧
  ∃ (a' : ManyS), (↑a_8.i : Int) + (1 : Int) = (↑a'.i : Int) ∧
  (0 : Nat) = (0 : Nat) ∧
  Decidable.decide ((20 : Int) < a.step) = Decidable.decide ((20 : Int) < a.step) ∧
  Bool.false = Bool.false ∧
  Bool.true = Bool.true ∧
  Bool.false = Bool.false ∧
  a.n = a.n ∧
  a.step = a.step ∧
  ((0 : Nat) = (0 : Nat) ∧
  (putX a_13.x a_13.key a_13.pos).t.length = a'.x.t.length ∧
  b = a'.cap) ∧
  (↑(putX a_13.x a_13.key a_13.pos).n : Int) = (↑a'.x.n : Int) ∧
  (↑(putX a_13.x a_13.key a_13.pos).used : Int) = (↑a'.x.used : Int) ∧
  (a'.x.t.length ≤ (putX a_13.x a_13.key a_13.pos).t.length ∧
  RowsEq a'.x.t.length (4 : Nat) (encRows encP (putX a_13.x a_13.key a_13.pos).t) (encRows encP a'.x.t)) ∧
  (a'.i ≤ a.n.toNat ∧
  Has a'.x (LM a.n.toNat (fun (k : Nat) => Decidable.decide (k < a'.i)) plus1)) ∧
  a.n.toNat - a'.i < a.n.toNat - a_8.i)) ∧
  (Decidable.decide ((↑a_8.i : Int) < a.n) = Bool.false →
  (∃ (a_11 : ManyS), (0 : Int) = (↑(a.step.toNat * a_11.i) : Int) ∧
  (0 : Int) = (↑a_11.i : Int) ∧
  Decidable.decide ((↑a_8.i : Int) < a.n) = Decidable.decide ((↑a_8.i : Int) < a.n) ∧
  (↑a_8.i : Int) = (↑a_8.i : Int) ∧
  (0 : Nat) = (0 : Nat) ∧
  Decidable.decide ((20 : Int) < a.step) = Decidable.decide ((20 : Int) < a.step) ∧
  Bool.false = Bool.false ∧
  Bool.true = Bool.true ∧
  Bool.false = Bool.false ∧
  a.n = a.n ∧
  a.step = a.step ∧
  ((0 : Nat) = (0 : Nat) ∧
  a_8.x.t.length = a_11.x.t.length ∧
  a_8.cap = a_11.cap) ∧
  (↑a_8.x.n : Int) = (↑a_11.x.n : Int) ∧
  (↑a_8.x.used : Int) = (↑a_11.x.used : Int) ∧
  (a_11.x.t.length ≤ a_8.x.t.length ∧
  RowsEq a_11.x.t.length (4 : Nat) (encRows encP a_8.x.t) (encRows encP a_11.x.t)) ∧
  (a.step.toNat * a_11.i < a.n.toNat + a.step.toNat ∧
  a_11.i ≤ a.n.toNat ∧
  Has a_11.x (LM a.n.toNat (fun (k : Nat) => !(Decidable.decide (k % a.step.toNat = (0 : Nat)) && Decidable.decide (k < a.step.toNat * a_11.i))) plus1)) ∧
  True) ∧
  ∀ (a_11 : ManyS), a.step.toNat * a_11.i < a.n.toNat + a.step.toNat ∧
  a_11.i ≤ a.n.toNat ∧
  Has a_11.x (LM a.n.toNat (fun (k : Nat) => !(Decidable.decide (k % a.step.toNat = (0 : Nat)) && Decidable.decide (k < a.step.toNat * a_11.i))) plus1) →
  (Decidable.decide ((↑(a.step.toNat * a_11.i) : Int) < a.n) = Bool.true →
  ∃ (a_14 : Nat), (↑(a.step.toNat * a_11.i) : Int) = (↑a_14 : Int) ∧
  a_14 < (1000 : Nat) ∧
  ∀ (b : Unit), True →
  ∃ (a_16 : KeyA), (0 : Nat) = (0 : Nat) ∧
  nameOf a_14 = a_16.key ∧
  ((0 : Nat) = (0 : Nat) ∧
  a_11.x.t.length = a_16.x.t.length ∧
  a_11.cap = a_16.cap) ∧
  (↑a_11.x.n : Int) = (↑a_16.x.n : Int) ∧
  (↑a_11.x.used : Int) = (↑a_16.x.used : Int) ∧
  (a_16.x.t.length ≤ a_11.x.t.length ∧
  RowsEq a_16.x.t.length (4 : Nat) (encRows encP a_11.x.t) (encRows encP a_16.x.t)) ∧
  (Inv a_16.x ∧
  a_16.x.n < (10000 : Nat) ∧
  a_16.key.size ≤ lenMax ∧
  ((0 : Int) ≤ (findP a_16.x.t a_16.key).fst →
  (1 : Nat) ≤ a_16.x.n)) ∧
  ∀ (b : Unit), True →
  ((!Decidable.decide ((0 : Int) ≤ (findP a_16.x.t a_16.key).fst)) = Bool.true →
  ∃ (b : Unit), Bool.false = Bool.true ∧
  True ∧
  True) ∧
  ((!Decidable.decide ((0 : Int) ≤ (findP a_16.x.t a_16.key).fst)) = Bool.false →
  InR IntKind.i64 ((↑a_11.i : Int) + (1 : Int)) ∧
  InR IntKind.i64 ((↑(a.step.toNat * a_11.i) : Int) + a.step) ∧
  ∃ (a' : ManyS), (↑(a.step.toNat * a_11.i) : Int) + a.step = (↑(a.step.toNat * a'.i) : Int) ∧
  (↑a_11.i : Int) + (1 : Int) = (↑a'.i : Int) ∧
  Decidable.decide ((↑a_8.i : Int) < a.n) = Decidable.decide ((↑a_8.i : Int) < a.n) ∧
  (↑a_8.i : Int) = (↑a_8.i : Int) ∧
  (0 : Nat) = (0 : Nat) ∧
  Decidable.decide ((20 : Int) < a.step) = Decidable.decide ((20 : Int) < a.step) ∧
  Bool.false = Bool.false ∧
  Bool.true = Bool.true ∧
  Bool.false = Bool.false ∧
  a.n = a.n ∧
  a.step = a.step ∧
  ((0 : Nat) = (0 : Nat) ∧
  (dropI a_16.x a_16.key).t.length = a'.x.t.length ∧
  a_16.cap = a'.cap) ∧
  (↑(dropI a_16.x a_16.key).n : Int) = (↑a'.x.n : Int) ∧
  (↑(dropI a_16.x a_16.key).used : Int) = (↑a'.x.used : Int) ∧
  (a'.x.t.length ≤ (dropI a_16.x a_16.key).t.length ∧
  RowsEq a'.x.t.length (4 : Nat) (encRows encP (dropI a_16.x a_16.key).t) (encRows encP a'.x.t)) ∧
  (a.step.toNat * a'.i < a.n.toNat + a.step.toNat ∧
  a'.i ≤ a.n.toNat ∧
  Has a'.x (LM a.n.toNat (fun (k : Nat) => !(Decidable.decide (k % a.step.toNat = (0 : Nat)) && Decidable.decide (k < a.step.toNat * a'.i))) plus1)) ∧
  a.n.toNat + a.step.toNat - a.step.toNat * a'.i < a.n.toNat + a.step.toNat - a.step.toNat * a_11.i)) ∧
  (Decidable.decide ((↑(a.step.toNat * a_11.i) : Int) < a.n) = Bool.false →
  (∃ (a_14 : ManyS), (0 : Int) = (↑a_14.i : Int) ∧
  Decidable.decide ((↑(a.step.toNat * a_11.i) : Int) < a.n) = Decidable.decide ((↑(a.step.toNat * a_11.i) : Int) < a.n) ∧
  (↑(a.step.toNat * a_11.i) : Int) = (↑(a.step.toNat * a_11.i) : Int) ∧
  (↑a_11.i : Int) = (↑a_11.i : Int) ∧
  Decidable.decide ((↑a_8.i : Int) < a.n) = Decidable.decide ((↑a_8.i : Int) < a.n) ∧
  (↑a_8.i : Int) = (↑a_8.i : Int) ∧
  (0 : Nat) = (0 : Nat) ∧
  Decidable.decide ((20 : Int) < a.step) = Decidable.decide ((20 : Int) < a.step) ∧
  Bool.false = Bool.false ∧
  Bool.true = Bool.true ∧
  Bool.false = Bool.false ∧
  a.n = a.n ∧
  a.step = a.step ∧
  ((0 : Nat) = (0 : Nat) ∧
  a_11.x.t.length = a_14.x.t.length ∧
  a_11.cap = a_14.cap) ∧
  (↑a_11.x.n : Int) = (↑a_14.x.n : Int) ∧
  (↑a_11.x.used : Int) = (↑a_14.x.used : Int) ∧
  (a_14.x.t.length ≤ a_11.x.t.length ∧
  RowsEq a_14.x.t.length (4 : Nat) (encRows encP a_11.x.t) (encRows encP a_14.x.t)) ∧
  (a_14.i ≤ a.n.toNat ∧
  Has a_14.x (LM a.n.toNat (fun (k : Nat) => !Decidable.decide (k % a.step.toNat = (0 : Nat))) plus1)) ∧
  True) ∧
  ∀ (a_14 : ManyS), a_14.i ≤ a.n.toNat ∧
  Has a_14.x (LM a.n.toNat (fun (k : Nat) => !Decidable.decide (k % a.step.toNat = (0 : Nat))) plus1) →
  (Decidable.decide ((↑a_14.i : Int) < a.n) = Bool.true →
  ∃ (a_17 : Nat), (↑a_14.i : Int) = (↑a_17 : Int) ∧
  a_17 < (1000 : Nat) ∧
  ∀ (b : Unit), True →
  ∃ (a_19 : KeyA), (0 : Nat) = (0 : Nat) ∧
  nameOf a_17 = a_19.key ∧
  ((0 : Nat) = (0 : Nat) ∧
  a_14.x.t.length = a_19.x.t.length ∧
  a_14.cap = a_19.cap) ∧
  (↑a_14.x.n : Int) = (↑a_19.x.n : Int) ∧
  (↑a_14.x.used : Int) = (↑a_19.x.used : Int) ∧
  (a_19.x.t.length ≤ a_14.x.t.length ∧
  RowsEq a_19.x.t.length (4 : Nat) (encRows encP a_14.x.t) (encRows encP a_19.x.t)) ∧
  (Inv a_19.x ∧
  a_19.key.size ≤ lenMax) ∧
  ∀ (b : Unit), True →
  a.step ≠ (0 : Int) ∧
  ((!(getI a_19.x a_19.key).snd == ((↑a_14.i : Int).tmod a.step != (0 : Int))) = Bool.true →
  ∃ (b : Unit), Bool.false = Bool.true ∧
  True ∧
  True) ∧
  ((!(getI a_19.x a_19.key).snd == ((↑a_14.i : Int).tmod a.step != (0 : Int))) = Bool.false →
  ((getI a_19.x a_19.key).snd = Bool.true →
  InR IntKind.i64 ((↑a_14.i : Int) + (1 : Int)) ∧
  (((getI a_19.x a_19.key).fst != (↑a_14.i : Int) + (1 : Int)) = Bool.true →
  ∃ (b : Unit), Bool.false = Bool.true ∧
  True ∧
  True) ∧
  (((getI a_19.x a_19.key).fst != (↑a_14.i : Int) + (1 : Int)) = Bool.false →
  InR IntKind.i64 ((↑a_14.i : Int) + (1 : Int)) ∧
  ∃ (a' : ManyS), (↑a_14.i : Int) + (1 : Int) = (↑a'.i : Int) ∧
  Decidable.decide ((↑(a.step.toNat * a_11.i) : Int) < a.n) = Decidable.decide ((↑(a.step.toNat * a_11.i) : Int) < a.n) ∧
  (↑(a.step.toNat * a_11.i) : Int) = (↑(a.step.toNat * a_11.i) : Int) ∧
  (↑a_11.i : Int) = (↑a_11.i : Int) ∧
  Decidable.decide ((↑a_8.i : Int) < a.n) = Decidable.decide ((↑a_8.i : Int) < a.n) ∧
  (↑a_8.i : Int) = (↑a_8.i : Int) ∧
  (0 : Nat) = (0 : Nat) ∧
  Decidable.decide ((20 : Int) < a.step) = Decidable.decide ((20 : Int) < a.step) ∧
  Bool.false = Bool.false ∧
  Bool.true = Bool.true ∧
  Bool.false = Bool.false ∧
  a.n = a.n ∧
  a.step = a.step ∧
  ((0 : Nat) = (0 : Nat) ∧
  a_14.x.t.length = a'.x.t.length ∧
  a_14.cap = a'.cap) ∧
  (↑a_14.x.n : Int) = (↑a'.x.n : Int) ∧
  (↑a_14.x.used : Int) = (↑a'.x.used : Int) ∧
  (a'.x.t.length ≤ a_14.x.t.length ∧
  RowsEq a'.x.t.length (4 : Nat) (encRows encP a_14.x.t) (encRows encP a'.x.t)) ∧
  (a'.i ≤ a.n.toNat ∧
  Has a'.x (LM a.n.toNat (fun (k : Nat) => !Decidable.decide (k % a.step.toNat = (0 : Nat))) plus1)) ∧
  a.n.toNat - a'.i < a.n.toNat - a_14.i)) ∧
  ((getI a_19.x a_19.key).snd = Bool.false →
  InR IntKind.i64 ((↑a_14.i : Int) + (1 : Int)) ∧
  ∃ (a' : ManyS), (↑a_14.i : Int) + (1 : Int) = (↑a'.i : Int) ∧
  Decidable.decide ((↑(a.step.toNat * a_11.i) : Int) < a.n) = Decidable.decide ((↑(a.step.toNat * a_11.i) : Int) < a.n) ∧
  (↑(a.step.toNat * a_11.i) : Int) = (↑(a.step.toNat * a_11.i) : Int) ∧
  (↑a_11.i : Int) = (↑a_11.i : Int) ∧
  Decidable.decide ((↑a_8.i : Int) < a.n) = Decidable.decide ((↑a_8.i : Int) < a.n) ∧
  (↑a_8.i : Int) = (↑a_8.i : Int) ∧
  (0 : Nat) = (0 : Nat) ∧
  Decidable.decide ((20 : Int) < a.step) = Decidable.decide ((20 : Int) < a.step) ∧
  Bool.false = Bool.false ∧
  Bool.true = Bool.true ∧
  Bool.false = Bool.false ∧
  a.n = a.n ∧
  a.step = a.step ∧
  ((0 : Nat) = (0 : Nat) ∧
  a_14.x.t.length = a'.x.t.length ∧
  a_14.cap = a'.cap) ∧
  (↑a_14.x.n : Int) = (↑a'.x.n : Int) ∧
  (↑a_14.x.used : Int) = (↑a'.x.used : Int) ∧
  (a'.x.t.length ≤ a_14.x.t.length ∧
  RowsEq a'.x.t.length (4 : Nat) (encRows encP a_14.x.t) (encRows encP a'.x.t)) ∧
  (a'.i ≤ a.n.toNat ∧
  Has a'.x (LM a.n.toNat (fun (k : Nat) => !Decidable.decide (k % a.step.toNat = (0 : Nat))) plus1)) ∧
  a.n.toNat - a'.i < a.n.toNat - a_14.i))) ∧
  (Decidable.decide ((↑a_14.i : Int) < a.n) = Bool.false →
  (∃ (a_17 : ManyS), (0 : Int) = (↑(a.step.toNat * a_17.i) : Int) ∧
  Decidable.decide ((↑a_14.i : Int) < a.n) = Decidable.decide ((↑a_14.i : Int) < a.n) ∧
  (↑a_14.i : Int) = (↑a_14.i : Int) ∧
  Decidable.decide ((↑(a.step.toNat * a_11.i) : Int) < a.n) = Decidable.decide ((↑(a.step.toNat * a_11.i) : Int) < a.n) ∧
  (↑(a.step.toNat * a_11.i) : Int) = (↑(a.step.toNat * a_11.i) : Int) ∧
  (↑a_11.i : Int) = (↑a_11.i : Int) ∧
  Decidable.decide ((↑a_8.i : Int) < a.n) = Decidable.decide ((↑a_8.i : Int) < a.n) ∧
  (↑a_8.i : Int) = (↑a_8.i : Int) ∧
  (0 : Nat) = (0 : Nat) ∧
  Decidable.decide ((20 : Int) < a.step) = Decidable.decide ((20 : Int) < a.step) ∧
  Bool.false = Bool.false ∧
  Bool.true = Bool.true ∧
  Bool.false = Bool.false ∧
  a.n = a.n ∧
  a.step = a.step ∧
  ((0 : Nat) = (0 : Nat) ∧
  a_14.x.t.length = a_17.x.t.length ∧
  a_14.cap = a_17.cap) ∧
  (↑a_14.x.n : Int) = (↑a_17.x.n : Int) ∧
  (↑a_14.x.used : Int) = (↑a_17.x.used : Int) ∧
  (a_17.x.t.length ≤ a_14.x.t.length ∧
  RowsEq a_17.x.t.length (4 : Nat) (encRows encP a_14.x.t) (encRows encP a_17.x.t)) ∧
  (a.step.toNat * a_17.i < a.n.toNat + a.step.toNat ∧
  Has a_17.x (LM a.n.toNat (fun (k : Nat) => !Decidable.decide (k % a.step.toNat = (0 : Nat)) || Decidable.decide (k < a.step.toNat * a_17.i)) fun (k : Nat) => if k % a.step.toNat = (0 : Nat) then (7 : Int) else plus1 k)) ∧
  True) ∧
  ∀ (a_17 : ManyS), a.step.toNat * a_17.i < a.n.toNat + a.step.toNat ∧
  Has a_17.x (LM a.n.toNat (fun (k : Nat) => !Decidable.decide (k % a.step.toNat = (0 : Nat)) || Decidable.decide (k < a.step.toNat * a_17.i)) fun (k : Nat) => if k % a.step.toNat = (0 : Nat) then (7 : Int) else plus1 k) →
  (Decidable.decide ((↑(a.step.toNat * a_17.i) : Int) < a.n) = Bool.true →
  ∃ (a_20 : Nat), (↑(a.step.toNat * a_17.i) : Int) = (↑a_20 : Int) ∧
  a_20 < (1000 : Nat) ∧
  ∀ (b : Unit), True →
  ∃ (a_22 : PutA), (0 : Nat) = (0 : Nat) ∧
  nameOf a_20 = a_22.key ∧
  (7 : Int) = a_22.pos ∧
  ((0 : Nat) = (0 : Nat) ∧
  a_17.x.t.length = a_22.x.t.length ∧
  a_17.cap = a_22.cap) ∧
  (↑a_17.x.n : Int) = (↑a_22.x.n : Int) ∧
  (↑a_17.x.used : Int) = (↑a_22.x.used : Int) ∧
  (a_22.x.t.length ≤ a_17.x.t.length ∧
  RowsEq a_22.x.t.length (4 : Nat) (encRows encP a_17.x.t) (encRows encP a_22.x.t)) ∧
  (Inv a_22.x ∧
  a_22.x.n < (9999 : Nat) ∧
  a_22.key.size ≤ lenMax) ∧
  ∀ (b : Nat), True →
  ((putRet (roomy a_22.x) a_22.key != (0 : Int)) = Bool.true →
  ∃ (b : Unit), Bool.false = Bool.true ∧
  True ∧
  True) ∧
  ((putRet (roomy a_22.x) a_22.key != (0 : Int)) = Bool.false →
  InR IntKind.i64 ((↑(a.step.toNat * a_17.i) : Int) + a.step) ∧
  ∃ (a' : ManyS), (↑(a.step.toNat * a_17.i) : Int) + a.step = (↑(a.step.toNat * a'.i) : Int) ∧
  Decidable.decide ((↑a_14.i : Int) < a.n) = Decidable.decide ((↑a_14.i : Int) < a.n) ∧
  (↑a_14.i : Int) = (↑a_14.i : Int) ∧
  Decidable.decide ((↑(a.step.toNat * a_11.i) : Int) < a.n) = Decidable.decide ((↑(a.step.toNat * a_11.i) : Int) < a.n) ∧
  (↑(a.step.toNat * a_11.i) : Int) = (↑(a.step.toNat * a_11.i) : Int) ∧
  (↑a_11.i : Int) = (↑a_11.i : Int) ∧
  Decidable.decide ((↑a_8.i : Int) < a.n) = Decidable.decide ((↑a_8.i : Int) < a.n) ∧
  (↑a_8.i : Int) = (↑a_8.i : Int) ∧
  (0 : Nat) = (0 : Nat) ∧
  Decidable.decide ((20 : Int) < a.step) = Decidable.decide ((20 : Int) < a.step) ∧
  Bool.false = Bool.false ∧
  Bool.true = Bool.true ∧
  Bool.false = Bool.false ∧
  a.n = a.n ∧
  a.step = a.step ∧
  ((0 : Nat) = (0 : Nat) ∧
  (putX a_22.x a_22.key a_22.pos).t.length = a'.x.t.length ∧
  b = a'.cap) ∧
  (↑(putX a_22.x a_22.key a_22.pos).n : Int) = (↑a'.x.n : Int) ∧
  (↑(putX a_22.x a_22.key a_22.pos).used : Int) = (↑a'.x.used : Int) ∧
  (a'.x.t.length ≤ (putX a_22.x a_22.key a_22.pos).t.length ∧
  RowsEq a'.x.t.length (4 : Nat) (encRows encP (putX a_22.x a_22.key a_22.pos).t) (encRows encP a'.x.t)) ∧
  (a.step.toNat * a'.i < a.n.toNat + a.step.toNat ∧
  Has a'.x (LM a.n.toNat (fun (k : Nat) => !Decidable.decide (k % a.step.toNat = (0 : Nat)) || Decidable.decide (k < a.step.toNat * a'.i)) fun (k : Nat) => if k % a.step.toNat = (0 : Nat) then (7 : Int) else plus1 k)) ∧
  a.n.toNat + a.step.toNat - a.step.toNat * a'.i < a.n.toNat + a.step.toNat - a.step.toNat * a_17.i)) ∧
  (Decidable.decide ((↑(a.step.toNat * a_17.i) : Int) < a.n) = Bool.false →
  InR IntKind.i64 (↑a_17.x.n : Int) →
  (((↑a_17.x.n : Int) == a.n) = Bool.true →
  ∃ (b : Unit), Decidable.decide ((↑a_11.i : Int) ≤ a.n) = Bool.true ∧
  True ∧
  True) ∧
  (((↑a_17.x.n : Int) == a.n) = Bool.false →
  ∃ (b : Unit), Bool.false = Bool.true ∧
  True ∧
  True)))))))))) (by kernel_rfl) (by
  rintro ⟨n, st⟩ _
  refine ⟨(), trivial, fun _ _ => ⟨fun _ => ⟨(), rfl, trivial, trivial⟩, fun c1 => ⟨fun _ => ⟨(), rfl, trivial, trivial⟩, fun c2 => ⟨fun _ => ⟨(), rfl, trivial, trivial⟩, fun c3 => ⟨fun _ => ⟨(), rfl, trivial, trivial⟩, fun c4 => ?_⟩⟩⟩⟩⟩
  simp only [decide_eq_false_iff_not] at c1 c2 c3 c4
  obtain ⟨N, rfl⟩ : ∃ N : Nat, n = N := ⟨n.toNat, by omega⟩
  obtain ⟨S, rfl⟩ : ∃ S : Nat, st = S := ⟨st.toNat, by omega⟩
  simp only [Int.toNat_natCast, InR]
  have hS : 1 ≤ S := by omega
  refine ⟨by omega, by omega, by omega, ⟨⟨emptyI 16, 16, 0⟩, ?_⟩, fun y1 ⟨i1, h1⟩ => ⟨fun c5 => ⟨y1.i, ?_⟩, fun c5 => ⟨⟨⟨y1.x, y1.cap, 0⟩, ?_⟩, fun y2 ⟨i2, j2, h2⟩ => ⟨fun c6 => ⟨S * y2.i, ?_⟩, fun c6 => ⟨⟨⟨y2.x, y2.cap, 0⟩, ?_⟩, fun y3 ⟨i3, h3⟩ => ⟨fun c7 => ⟨y3.i, ?_⟩, fun c7 => ⟨⟨⟨y3.x, y3.cap, 0⟩, ?_⟩, fun y4 ⟨i4, h4⟩ => ⟨fun c8 => ⟨S * y4.i, ?_⟩, fun c8 => ?_⟩⟩⟩⟩⟩⟩⟩⟩
  · have : Has (emptyI 16) (LM N (fun k => decide (k < 0)) plus1) := by
      have e : LM N (fun k => decide (k < 0)) plus1 = [] := by simp [LM]
      rw [e]; exact empty_has (by omega) (by omega)
    dsimp only
    (repeat' apply And.intro) <;> first | rfl | trivial | omega | exact newRows | exact this
  · simp only [decide_eq_true_eq] at c5
    obtain ⟨g1, g2, g3⟩ := put_num (p' := fun k => decide (k < y1.i + 1)) (f' := plus1) (v := (y1.i : Int) + 1) h1 (by omega) (i := y1.i) (by omega) rfl (by simp) (fun k _ hk => by simp; omega) (fun _ _ _ _ => rfl)
    refine ⟨rfl, by omega, fun _ _ => ⟨by omega, ⟨y1.x, y1.cap, nameOf y1.i, (y1.i : Int) + 1⟩, ?_⟩⟩
    have g2 : putRet (roomy y1.x) (nameOf y1.i) = 0 := by simpa using g2
    (repeat' apply And.intro) <;> first | rfl | trivial | exact Nat.le_refl _ | omega | (dsimp only; omega) | exact RowsEq.refl _ _ _ | exact h1.inv | (rw [nameOf_size]; unfold lenMax; omega) | skip
    refine fun cap _ => ⟨fun hc => (by dsimp only at hc; rw [g2] at hc; cases hc), fun _ => ⟨by omega, ⟨putX y1.x (nameOf y1.i) ((y1.i : Int) + 1), cap, y1.i + 1⟩, ?_⟩⟩
    dsimp only
    (repeat' apply And.intro) <;> first | rfl | trivial | exact Nat.le_refl _ | omega | (dsimp only; omega) | exact RowsEq.refl _ _ _ | exact g1
  · simp only [decide_eq_false_iff_not] at c5
    have : Has y1.x (LM N (fun k => !(decide (k % S = 0) && decide (k < S * 0))) plus1) := by
      rw [LM_congr (p' := fun k => decide (k < y1.i)) (f' := plus1) (fun k hk => by simp; omega) (fun _ _ _ => rfl)]; exact h1
    dsimp only
    (repeat' apply And.intro) <;> first | rfl | trivial | exact Nat.le_refl _ | omega | (dsimp only; omega) | exact RowsEq.refl _ _ _ | exact this
  · simp only [decide_eq_true_eq] at c6
    have hlt : S * y2.i < N := by omega
    obtain ⟨g1, g2, g3⟩ := drop_num (p' := fun k => !(decide (k % S = 0) && decide (k < S * (y2.i + 1)))) h2 hlt (by simp) (by simp [Nat.mul_succ]; omega) (fun k _ hk => by
      have := mult_next (g := y2.i) (k := k) hS
      rw [Bool.eq_iff_iff]; simp only [Bool.not_eq_true', Bool.and_eq_false_iff, decide_eq_false_iff_not]; grind)
    have hn := h2.num_le
    have hg : S * y2.i + S = S * (y2.i + 1) := (Nat.mul_succ _ _).symm
    have hy : y2.i ≤ S * y2.i := Nat.le_mul_of_pos_left _ (by omega)
    refine ⟨rfl, by omega, fun _ _ => ⟨⟨y2.x, y2.cap, nameOf (S * y2.i)⟩, ?_⟩⟩
    (repeat' apply And.intro) <;> first | rfl | trivial | exact Nat.le_refl _ | omega | (dsimp only; omega) | exact RowsEq.refl _ _ _ | exact h2.inv | (rw [nameOf_size]; unfold lenMax; omega) | (exact fun _ => g3) | skip
    refine fun _ _ => ⟨fun hc => (by dsimp only at hc; simp [g2] at hc), fun _ => ⟨by omega, by omega, ⟨dropI y2.x (nameOf (S * y2.i)), y2.cap, y2.i + 1⟩, ?_⟩⟩
    dsimp only
    (repeat' apply And.intro) <;> first | rfl | trivial | exact Nat.le_refl _ | omega | (dsimp only; omega) | exact RowsEq.refl _ _ _ | exact g1
  · simp only [decide_eq_false_iff_not] at c6
    have : Has y2.x (LM N (fun k => !decide (k % S = 0)) plus1) := by
      rw [LM_congr (p' := fun k => !(decide (k % S = 0) && decide (k < S * y2.i))) (f' := plus1) (fun k hk => by simp [show k < S * y2.i by omega]) (fun _ _ _ => rfl)]; exact h2
    dsimp only
    (repeat' apply And.intro) <;> first | rfl | trivial | exact Nat.le_refl _ | omega | (dsimp only; omega) | exact RowsEq.refl _ _ _ | exact this
  · simp only [decide_eq_true_eq] at c7
    have hm : ((y3.i : Int).tmod (S : Int)) = ((y3.i % S : Nat) : Int) := rfl
    have hget : getI y3.x (nameOf y3.i) = if y3.i % S = 0 then (0, false) else ((y3.i : Int) + 1, true) := by
      split
      · rename_i e; exact get_none h3 (LM_not (by omega) (by omega) (by simp [e]))
      · rename_i e; exact get_there h3 (LM_mem (f := plus1) (by omega) (by omega) (by simp [e]))
    refine ⟨rfl, by omega, fun _ _ => ⟨⟨y3.x, y3.cap, nameOf y3.i⟩, ?_⟩⟩
    (repeat' apply And.intro) <;> first | rfl | trivial | exact Nat.le_refl _ | omega | (dsimp only; omega) | exact RowsEq.refl _ _ _ | exact h3.inv | (rw [nameOf_size]; unfold lenMax; omega) | skip
    dsimp only
    rw [hget, hm]
    have fin : ∀ q : Prop, (q → q) := fun _ h => h
    refine fun _ _ => ⟨by omega, fun hc => ?_, fun hc => ⟨fun hd => ⟨by omega, fun he => ?_, fun he => ⟨by omega, ⟨y3.x, y3.cap, y3.i + 1⟩, ?_⟩⟩, fun hd => ⟨by omega, ⟨y3.x, y3.cap, y3.i + 1⟩, ?_⟩⟩⟩
    · exfalso; split at hc <;> rename_i e <;> simp [e] at hc <;> omega
    · exfalso; split at hd <;> rename_i e
      · cases hd
      · simp [e] at he
    · dsimp only
      (repeat' apply And.intro) <;> first | rfl | trivial | exact Nat.le_refl _ | omega | (dsimp only; omega) | exact RowsEq.refl _ _ _ | exact h3
    · dsimp only
      (repeat' apply And.intro) <;> first | rfl | trivial | exact Nat.le_refl _ | omega | (dsimp only; omega) | exact RowsEq.refl _ _ _ | exact h3
  · simp only [decide_eq_false_iff_not] at c7
    have : Has y3.x (LM N (fun k => !decide (k % S = 0) || decide (k < S * 0)) fun k => if k % S = 0 then 7 else plus1 k) := by
      rw [LM_congr (p' := fun k => !decide (k % S = 0)) (f' := plus1) (fun k hk => by simp) (fun k _ h => by simp at h; simp [h])]; exact h3
    dsimp only
    (repeat' apply And.intro) <;> first | rfl | trivial | exact Nat.le_refl _ | omega | (dsimp only; omega) | exact RowsEq.refl _ _ _ | exact this
  · simp only [decide_eq_true_eq] at c8
    have hlt : S * y4.i < N := by omega
    obtain ⟨g1, g2, g3⟩ := put_num (p' := fun k => !decide (k % S = 0) || decide (k < S * (y4.i + 1))) (f' := fun k => if k % S = 0 then 7 else plus1 k) (v := 7) h4 (by omega) (i := S * y4.i) hlt (by simp) (by simp [Nat.mul_succ]; omega) (fun k _ hk => by
      have := mult_next (g := y4.i) (k := k) hS
      rw [Bool.eq_iff_iff]; simp only [Bool.or_eq_true, Bool.not_eq_true', decide_eq_false_iff_not, decide_eq_true_eq]; grind) (fun _ _ _ _ => rfl)
    have g2 : putRet (roomy y4.x) (nameOf (S * y4.i)) = 0 := by simpa using g2
    have hg : S * y4.i + S = S * (y4.i + 1) := (Nat.mul_succ _ _).symm
    refine ⟨rfl, by omega, fun _ _ => ⟨⟨y4.x, y4.cap, nameOf (S * y4.i), 7⟩, ?_⟩⟩
    (repeat' apply And.intro) <;> first | rfl | trivial | exact Nat.le_refl _ | omega | (dsimp only; omega) | exact RowsEq.refl _ _ _ | exact h4.inv | (rw [nameOf_size]; unfold lenMax; omega) | skip
    refine fun cap _ => ⟨fun hc => (by dsimp only at hc; rw [g2] at hc; cases hc), fun _ => ⟨by omega, ⟨putX y4.x (nameOf (S * y4.i)) 7, cap, y4.i + 1⟩, ?_⟩⟩
    dsimp only
    (repeat' apply And.intro) <;> first | rfl | trivial | exact Nat.le_refl _ | omega | (dsimp only; omega) | exact RowsEq.refl _ _ _ | exact g1
  · simp only [decide_eq_false_iff_not] at c8
    have hn : y4.x.n = N := by
      rw [h4.n, LM_congr (p' := fun _ => true) (f' := fun k => if k % S = 0 then 7 else plus1 k) (fun k hk => by simp [show k < S * y4.i by omega]) (fun _ _ _ => rfl), LM_all]
    refine fun _ => ⟨fun _ => ⟨(), by simp; omega, trivial, trivial⟩, fun hc => by rw [hn] at hc; simp at hc⟩)
theorem instMany : ∀ ads, okADs [.int .i64, .int .i64] ads → ∃ a : ManyA, cMany.pre a ∧ cMany.args a = svs 0 ads ∧ cMany.ro a = chs 0 [.int .i64, .int .i64] ads ∧ cMany.m = slcs ads := by
  rintro ads ⟨d, r, rfl, ⟨n, rfl, hn⟩, d2, r2, rfl, ⟨st, rfl, hs⟩, rfl⟩
  exact ⟨⟨n, st⟩, trivial, rfl, rfl, rfl⟩
end Go.Proofs.Ytfpgkgelgpandaa
