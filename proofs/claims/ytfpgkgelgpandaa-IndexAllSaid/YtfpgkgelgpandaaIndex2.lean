/-
  The layer index, on from Put where the table need not grow: grow, Put, Get, Drop, Below, Len, New; no condition but that tables are short.
-/
import Derived.Test.YtfpgkgelgpandaaIndex
namespace Go.Proofs.Ytfpgkgelgpandaa
open Go.Sx
set_option maxRecDepth 100000
set_option linter.unusedVariables false

/-! ### grow -/

/-- the entries of a table's first i places, put into another -/
def putAll (t : List PlaceR) (y : IdxR) : Nat → IdxR
  | 0 => y
  | i + 1 => if (gl t i).has then putI (putAll t y i) (gl t i).key (gl t i).pos else putAll t y i
def emptyI (n : Nat) : IdxR := ⟨List.replicate n ⟨.empty, 0, false, false⟩, 0, 0⟩
theorem putAll_length (t : List PlaceR) (y : IdxR) : ∀ i, (putAll t y i).t.length = y.t.length
  | 0 => rfl
  | i + 1 => by
    unfold putAll
    split
    · rw [putI_length, putAll_length t y i]
    · exact putAll_length t y i
theorem gl_replicate {α : Type} [Inhabited α] {n i : Nat} {x : α} (h : i < n) : gl (List.replicate n x) i = x := by
  rw [gl_eq (by simpa using h)]; simp
def growI (x : IdxR) : IdxR := putAll x.t (emptyI (max 16 (4 * x.n))) x.t.length
structure GrowA where
  x : IdxR
  cap : Nat
noncomputable def cGrow : Con where
  α := GrowA
  β := Nat
  m := 2
  m' := 3
  pre := fun a => 1 ≤ a.x.t.length ∧ a.x.t.length < 100000 ∧ a.x.n < 10000 ∧ (∀ i, i < a.x.t.length → (gl a.x.t i).key.size ≤ lenMax) ∧
    ∀ i, i < a.x.t.length → (gl a.x.t i).has = true → 2 * (putAll a.x.t (emptyI (max 16 (4 * a.x.n))) i).used < max 16 (4 * a.x.n) ∧ (putAll a.x.t (emptyI (max 16 (4 * a.x.n))) i).n < 100000 ∧
      ((findP (putAll a.x.t (emptyI (max 16 (4 * a.x.n))) i).t (gl a.x.t i).key).1 < 0 → 0 ≤ (findP (putAll a.x.t (emptyI (max 16 (4 * a.x.n))) i).t (gl a.x.t i).key).2)
  args := fun a => [.a (.ptr 0 0 0 0)]
  hp := fun a => [(0, .obj 52 [.slc 1 0 4 a.x.t.length a.cap, .int .i64 a.x.n, .int .i64 a.x.used])]
  ro := fun a => [(1, .arr 56 ksP a.x.t.length (encRows encP a.x.t))]
  post := fun _ _ => True
  res := fun _ _ => .tup []
  hp' := fun a cap => idxHp 0 2 (growI a.x).t cap (growI a.x).n (growI a.x).used
def iGrow (a : GrowA) : An := .flat 3 (Nat × Nat) (fun s x => (((s.at_ (s.tg 0) (.obj 52 [.slc (s.in_ (s.tg 0) 0) 0 4 (max 16 (4 * a.x.n)) x.2, .int .i64 (putAll a.x.t (emptyI (max 16 (4 * a.x.n))) x.1).n, .int .i64 (putAll a.x.t (emptyI (max 16 (4 * a.x.n))) x.1).used])).at_ (s.in_ (s.tg 0) 0) (.arr 56 ksP (max 16 (4 * a.x.n)) (encRows encP (putAll a.x.t (emptyI (max 16 (4 * a.x.n))) x.1).t))).int 21 x.1))
  (fun _ x => x.1 ≤ a.x.t.length) (fun _ x => a.x.t.length - x.1)
set_option maxHeartbeats 4000000 in
theorem bodyGrow : fnBody (Y Try.prog) [(10, cPut0)] 21 cGrow fun a => [(21, [iGrow a], [])] := fnBody.of (p :=
  ∀ (a : GrowA), ((1 : Nat) ≤ a.x.t.length ∧
  a.x.t.length < (100000 : Nat) ∧
  a.x.n < (10000 : Nat) ∧
  (∀ (i : Nat), i < a.x.t.length →
  (gl a.x.t i).key.size ≤ lenMax) ∧
  ∀ (i : Nat), i < a.x.t.length →
  (gl a.x.t i).has = Bool.true →
  (2 : Nat) * (putAll a.x.t (emptyI (Max.max (16 : Nat) ((4 : Nat) * a.x.n))) i).used < Max.max (16 : Nat) ((4 : Nat) * a.x.n) ∧
  (putAll a.x.t (emptyI (Max.max (16 : Nat) ((4 : Nat) * a.x.n))) i).n < (100000 : Nat) ∧
  ((findP (putAll a.x.t (emptyI (Max.max (16 : Nat) ((4 : Nat) * a.x.n))) i).t (gl a.x.t i).key).fst < (0 : Int) →
  (0 : Int) ≤ (findP (putAll a.x.t (emptyI (Max.max (16 : Nat) ((4 : Nat) * a.x.n))) i).t (gl a.x.t i).key).snd)) →
  InR IntKind.i64 (↑a.x.n : Int) →
  InR IntKind.i64 ((4 : Int) * (↑a.x.n : Int)) ∧
  ((0 : Int) ≤ bif Bool.true then Max.max (16 : Int) ((4 : Int) * (↑a.x.n : Int)) else Min.min (16 : Int) ((4 : Int) * (↑a.x.n : Int))) ∧
  ((bif Bool.true then Max.max (16 : Int) ((4 : Int) * (↑a.x.n : Int)) else Min.min (16 : Int) ((4 : Int) * (↑a.x.n : Int))) ≤ bif Bool.true then Max.max (16 : Int) ((4 : Int) * (↑a.x.n : Int)) else Min.min (16 : Int) ((4 : Int) * (↑a.x.n : Int))) ∧
  ((32 : Int) * bif Bool.true then Max.max (16 : Int) ((4 : Int) * (↑a.x.n : Int)) else Min.min (16 : Int) ((4 : Int) * (↑a.x.n : Int))) ≤ (281474976710656 : Int) ∧
  (∃ (a_3 : Nat × Nat), (0 : Int) = (↑a_3.fst : Int) ∧
  (↑a.x.t.length : Int) = (↑a.x.t.length : Int) ∧
  ((0 : Nat) = (0 : Nat) ∧
  a.x.t.length = a.x.t.length ∧
  a.cap = a.cap) ∧
  ((0 : Nat) = (0 : Nat) ∧
  a.x.t.length = a.x.t.length ∧
  a.cap = a.cap) ∧
  (0 : Nat) = (0 : Nat) ∧
  ((0 : Nat) = (0 : Nat) ∧
  (bif Bool.true then Max.max (16 : Int) ((4 : Int) * (↑a.x.n : Int)) else Min.min (16 : Int) ((4 : Int) * (↑a.x.n : Int))).toNat = Max.max (16 : Nat) ((4 : Nat) * a.x.n) ∧
  (bif Bool.true then Max.max (16 : Int) ((4 : Int) * (↑a.x.n : Int)) else Min.min (16 : Int) ((4 : Int) * (↑a.x.n : Int))).toNat = a_3.snd) ∧
  (0 : Int) = (↑(putAll a.x.t (emptyI (Max.max (16 : Nat) ((4 : Nat) * a.x.n))) a_3.fst).n : Int) ∧
  (0 : Int) = (↑(putAll a.x.t (emptyI (Max.max (16 : Nat) ((4 : Nat) * a.x.n))) a_3.fst).used : Int) ∧
  (a.x.t.length ≤ a.x.t.length ∧
  RowsEq a.x.t.length (4 : Nat) (encRows encP a.x.t) (encRows encP a.x.t)) ∧
  (Max.max (16 : Nat) ((4 : Nat) * a.x.n) ≤ (bif Bool.true then Max.max (16 : Int) ((4 : Int) * (↑a.x.n : Int)) else Min.min (16 : Int) ((4 : Int) * (↑a.x.n : Int))).toNat ∧
  RowsEq (Max.max (16 : Nat) ((4 : Nat) * a.x.n)) (4 : Nat) (fun (x j : Nat) => [Value.string { data := #[] }, Value.int IntKind.i64 (0 : Int), Value.bool Bool.false, Value.bool Bool.false].getD j (Value.tuple #[])) (encRows encP (putAll a.x.t (emptyI (Max.max (16 : Nat) ((4 : Nat) * a.x.n))) a_3.fst).t)) ∧
  a_3.fst ≤ a.x.t.length ∧
  True) ∧
  ∀ (a_3 : Nat × Nat), a_3.fst ≤ a.x.t.length →
  (Decidable.decide ((↑a_3.fst : Int) < (↑a.x.t.length : Int)) = Bool.true →
  ((0 : Int) ≤ (↑a_3.fst : Int) ∧
  (↑a_3.fst : Int) < (↑a.x.t.length : Int)) ∧
  (0 : Nat) + (↑a_3.fst : Int).toNat < a.x.t.length ∧
  ((gl a.x.t ((0 : Nat) + (↑a_3.fst : Int).toNat)).has = Bool.true →
  InR IntKind.i64 (gl a.x.t ((0 : Nat) + (↑a_3.fst : Int).toNat)).pos →
  ∃ (a_8 : PutA), (0 : Nat) = (0 : Nat) ∧
  (gl a.x.t ((0 : Nat) + (↑a_3.fst : Int).toNat)).key = a_8.key ∧
  (gl a.x.t ((0 : Nat) + (↑a_3.fst : Int).toNat)).pos = a_8.pos ∧
  ((0 : Nat) = (0 : Nat) ∧
  Max.max (16 : Nat) ((4 : Nat) * a.x.n) = a_8.x.t.length ∧
  a_3.snd = a_8.cap) ∧
  (↑(putAll a.x.t (emptyI (Max.max (16 : Nat) ((4 : Nat) * a.x.n))) a_3.fst).n : Int) = (↑a_8.x.n : Int) ∧
  (↑(putAll a.x.t (emptyI (Max.max (16 : Nat) ((4 : Nat) * a.x.n))) a_3.fst).used : Int) = (↑a_8.x.used : Int) ∧
  (a_8.x.t.length ≤ Max.max (16 : Nat) ((4 : Nat) * a.x.n) ∧
  RowsEq a_8.x.t.length (4 : Nat) (encRows encP (putAll a.x.t (emptyI (Max.max (16 : Nat) ((4 : Nat) * a.x.n))) a_3.fst).t) (encRows encP a_8.x.t)) ∧
  ((1 : Nat) ≤ a_8.x.t.length ∧
  a_8.x.t.length < (100000 : Nat) ∧
  a_8.key.size ≤ lenMax ∧
  (2 : Nat) * a_8.x.used < a_8.x.t.length ∧
  a_8.x.n < (100000 : Nat) ∧
  ((findP a_8.x.t a_8.key).fst < (0 : Int) →
  (0 : Int) ≤ (findP a_8.x.t a_8.key).snd)) ∧
  ∀ (b : Unit), True →
  InR IntKind.i64 ((↑a_3.fst : Int) + (1 : Int)) ∧
  ∃ (a' : Nat × Nat), (↑a_3.fst : Int) + (1 : Int) = (↑a'.fst : Int) ∧
  (↑a.x.t.length : Int) = (↑a.x.t.length : Int) ∧
  ((0 : Nat) = (0 : Nat) ∧
  a.x.t.length = a.x.t.length ∧
  a.cap = a.cap) ∧
  ((0 : Nat) = (0 : Nat) ∧
  a.x.t.length = a.x.t.length ∧
  a.cap = a.cap) ∧
  (0 : Nat) = (0 : Nat) ∧
  ((0 : Nat) = (0 : Nat) ∧
  (putI a_8.x a_8.key a_8.pos).t.length = Max.max (16 : Nat) ((4 : Nat) * a.x.n) ∧
  a_8.cap = a'.snd) ∧
  (↑(putI a_8.x a_8.key a_8.pos).n : Int) = (↑(putAll a.x.t (emptyI (Max.max (16 : Nat) ((4 : Nat) * a.x.n))) a'.fst).n : Int) ∧
  (↑(putI a_8.x a_8.key a_8.pos).used : Int) = (↑(putAll a.x.t (emptyI (Max.max (16 : Nat) ((4 : Nat) * a.x.n))) a'.fst).used : Int) ∧
  (a.x.t.length ≤ a.x.t.length ∧
  RowsEq a.x.t.length (4 : Nat) (encRows encP a.x.t) (encRows encP a.x.t)) ∧
  (Max.max (16 : Nat) ((4 : Nat) * a.x.n) ≤ (putI a_8.x a_8.key a_8.pos).t.length ∧
  RowsEq (Max.max (16 : Nat) ((4 : Nat) * a.x.n)) (4 : Nat) (encRows encP (putI a_8.x a_8.key a_8.pos).t) (encRows encP (putAll a.x.t (emptyI (Max.max (16 : Nat) ((4 : Nat) * a.x.n))) a'.fst).t)) ∧
  a'.fst ≤ a.x.t.length ∧
  a.x.t.length - a'.fst < a.x.t.length - a_3.fst) ∧
  ((gl a.x.t ((0 : Nat) + (↑a_3.fst : Int).toNat)).has = Bool.false →
  InR IntKind.i64 ((↑a_3.fst : Int) + (1 : Int)) ∧
  ∃ (a' : Nat × Nat), (↑a_3.fst : Int) + (1 : Int) = (↑a'.fst : Int) ∧
  (↑a.x.t.length : Int) = (↑a.x.t.length : Int) ∧
  ((0 : Nat) = (0 : Nat) ∧
  a.x.t.length = a.x.t.length ∧
  a.cap = a.cap) ∧
  ((0 : Nat) = (0 : Nat) ∧
  a.x.t.length = a.x.t.length ∧
  a.cap = a.cap) ∧
  (0 : Nat) = (0 : Nat) ∧
  ((0 : Nat) = (0 : Nat) ∧
  Max.max (16 : Nat) ((4 : Nat) * a.x.n) = Max.max (16 : Nat) ((4 : Nat) * a.x.n) ∧
  a_3.snd = a'.snd) ∧
  (↑(putAll a.x.t (emptyI (Max.max (16 : Nat) ((4 : Nat) * a.x.n))) a_3.fst).n : Int) = (↑(putAll a.x.t (emptyI (Max.max (16 : Nat) ((4 : Nat) * a.x.n))) a'.fst).n : Int) ∧
  (↑(putAll a.x.t (emptyI (Max.max (16 : Nat) ((4 : Nat) * a.x.n))) a_3.fst).used : Int) = (↑(putAll a.x.t (emptyI (Max.max (16 : Nat) ((4 : Nat) * a.x.n))) a'.fst).used : Int) ∧
  (a.x.t.length ≤ a.x.t.length ∧
  RowsEq a.x.t.length (4 : Nat) (encRows encP a.x.t) (encRows encP a.x.t)) ∧
  (Max.max (16 : Nat) ((4 : Nat) * a.x.n) ≤ Max.max (16 : Nat) ((4 : Nat) * a.x.n) ∧
  RowsEq (Max.max (16 : Nat) ((4 : Nat) * a.x.n)) (4 : Nat) (encRows encP (putAll a.x.t (emptyI (Max.max (16 : Nat) ((4 : Nat) * a.x.n))) a_3.fst).t) (encRows encP (putAll a.x.t (emptyI (Max.max (16 : Nat) ((4 : Nat) * a.x.n))) a'.fst).t)) ∧
  a'.fst ≤ a.x.t.length ∧
  a.x.t.length - a'.fst < a.x.t.length - a_3.fst)) ∧
  (Decidable.decide ((↑a_3.fst : Int) < (↑a.x.t.length : Int)) = Bool.false →
  ∃ (b : Nat), ((0 : Nat) = (0 : Nat) ∧
  Max.max (16 : Nat) ((4 : Nat) * a.x.n) = (growI a.x).t.length ∧
  a_3.snd = b) ∧
  (↑(putAll a.x.t (emptyI (Max.max (16 : Nat) ((4 : Nat) * a.x.n))) a_3.fst).n : Int) = (↑(growI a.x).n : Int) ∧
  (↑(putAll a.x.t (emptyI (Max.max (16 : Nat) ((4 : Nat) * a.x.n))) a_3.fst).used : Int) = (↑(growI a.x).used : Int) ∧
  ((growI a.x).t.length ≤ Max.max (16 : Nat) ((4 : Nat) * a.x.n) ∧
  RowsEq (growI a.x).t.length (4 : Nat) (encRows encP (putAll a.x.t (emptyI (Max.max (16 : Nat) ((4 : Nat) * a.x.n))) a_3.fst).t) (encRows encP (growI a.x).t)) ∧
  True ∧
  True)) (by kernel_rfl) (by
  intro a h
  obtain ⟨h1, h2, h3, h4, h5⟩ := h
  obtain ⟨M, hM⟩ : ∃ M, M = max 16 (4 * a.x.n) := ⟨_, rfl⟩
  have hMi : (max 16 (4 * (a.x.n : Int)) : Int) = (M : Int) := by omega
  simp only [cond_true, ← hM] at h5 ⊢
  simp only [hMi, Nat.zero_add, Int.toNat_natCast]
  have hlen : ∀ i, (putAll a.x.t (emptyI M) i).t.length = M := fun i => by rw [putAll_length]; simp [emptyI]
  have hg : growI a.x = putAll a.x.t (emptyI M) a.x.t.length := by unfold growI; rw [← hM]
  rw [hg, hlen]
  refine fun _ => ⟨by simp only [InR]; omega, by omega, by omega, by omega, ⟨(0, M), ?_⟩, fun x hx => ?_⟩
  · dsimp only
    (repeat' apply And.intro) <;> first | exact RowsEq.refl _ _ _ | skip
    all_goals first | exact trivial | rfl | omega | skip
    refine .of_cells fun i hi => ?_
    unfold encRows
    rw [show gl (putAll a.x.t (emptyI M) 0).t i = ⟨.empty, 0, false, false⟩ from gl_replicate hi]
    rfl
  · obtain ⟨i, cap⟩ := x
    have hx' : i ≤ a.x.t.length := hx
    have h6 := h5 i
    have sy : (gl a.x.t i).has = true → putAll a.x.t (emptyI M) (i + 1) = putI (putAll a.x.t (emptyI M) i) (gl a.x.t i).key (gl a.x.t i).pos := fun e => if_pos e
    have sn : (gl a.x.t i).has = false → putAll a.x.t (emptyI M) (i + 1) = putAll a.x.t (emptyI M) i := fun e => if_neg (by rw [e]; decide)
    have se : ¬ i < a.x.t.length → putAll a.x.t (emptyI M) a.x.t.length = putAll a.x.t (emptyI M) i := fun e => by rw [show a.x.t.length = i by omega]
    dsimp only at *
    repeat' (first | intro _ | apply And.intro | apply Exists.intro (PutA.mk (putAll a.x.t (emptyI M) i) cap _ _) | apply Exists.intro ((i + 1, cap) : Nat × Nat) | apply Exists.intro (cap : Nat))
    all_goals (try with_reducible rfl)
    all_goals (try with_reducible exact RowsEq.refl _ _ _)
    all_goals (try dsimp only)
    all_goals (try simp only [decide_eq_true_eq, decide_eq_false_iff_not, Bool.not_eq_true', Bool.not_eq_false', InR] at *)
    all_goals (try simp only [hlen, putI_length])
    all_goals (try exact trivial)
    all_goals (try omega)
    all_goals first
      | exact h4 i (by omega)
      | exact (h6 (by omega) (by assumption)).1
      | exact (h6 (by omega) (by assumption)).2.1
      | exact (h6 (by omega) (by assumption)).2.2 (by assumption)
      | (rw [sy (by assumption)]; done)
      | (rw [sy (by assumption)]; exact RowsEq.refl _ _ _)
      | (rw [sn (by assumption)]; done)
      | (rw [sn (by assumption)]; exact RowsEq.refl _ _ _)
      | (rw [se (by omega)]; done)
      | (rw [se (by omega)]; exact RowsEq.refl _ _ _))
theorem callGrow : CallsBy (Y Try.prog).G.X 21 cGrow := fn_ok okY (tab := [(10, cPut0)]) ⟨callPut0, trivial⟩ bodyGrow
end Go.Proofs.Ytfpgkgelgpandaa
