/-
  The layer index's functions as what they do to tables that are in order.
-/
import Derived.Test.YtfpgkgelgpandaaTab
namespace Go.Proofs.Ytfpgkgelgpandaa
open Go.Sx
set_option maxRecDepth 100000
set_option linter.unusedVariables false

noncomputable def cPut : Con where
  α := PutA
  β := Nat
  m := 2
  m' := 3
  pre := fun a => Inv a.x ∧ a.x.n < 9999 ∧ a.key.size ≤ lenMax
  args := fun a => [.a (.ptr 0 0 0 0), .a (.str a.key), .a (.int .i64 a.pos)]
  hp := fun a => idxHp 0 1 a.x.t a.cap a.x.n a.x.used
  ro := fun _ => []
  post := fun _ _ => True
  res := fun a _ => .a (.int .i64 (putRet (roomy a.x) a.key))
  hp' := fun a cap => idxHp 0 2 (putX a.x a.key a.pos).t cap (putX a.x a.key a.pos).n (putX a.x a.key a.pos).used
set_option maxHeartbeats 4000000 in
theorem bodyPut : fnBody (Y Try.prog) [(22, cFind), (21, cGrow)] 10 cPut fun _ => [] := fnBody.of (p :=
  ∀ (a : PutA), Inv a.x ∧
  a.x.n < (9999 : Nat) ∧
  a.key.size ≤ lenMax →
  InR IntKind.i64 (↑a.x.used : Int) →
  InR IntKind.i64 ((2 : Int) * (↑a.x.used : Int)) ∧
  (Decidable.decide ((↑a.x.t.length : Int) ≤ (2 : Int) * (↑a.x.used : Int)) = Bool.true →
  ∃ (a_4 : GrowA), (0 : Nat) = (0 : Nat) ∧
  ((0 : Nat) = (0 : Nat) ∧
  a.x.t.length = a_4.x.t.length ∧
  a.cap = a_4.cap) ∧
  (↑a.x.n : Int) = (↑a_4.x.n : Int) ∧
  (↑a.x.used : Int) = (↑a_4.x.used : Int) ∧
  (a_4.x.t.length ≤ a.x.t.length ∧
  RowsEq a_4.x.t.length (4 : Nat) (encRows encP a.x.t) (encRows encP a_4.x.t)) ∧
  ((1 : Nat) ≤ a_4.x.t.length ∧
  a_4.x.t.length < (100000 : Nat) ∧
  a_4.x.n < (10000 : Nat) ∧
  (∀ (i : Nat), i < a_4.x.t.length →
  (gl a_4.x.t i).key.size ≤ lenMax) ∧
  ∀ (i : Nat), i < a_4.x.t.length →
  (gl a_4.x.t i).has = Bool.true →
  (2 : Nat) * (putAll a_4.x.t (emptyI (Max.max (16 : Nat) ((4 : Nat) * a_4.x.n))) i).used < Max.max (16 : Nat) ((4 : Nat) * a_4.x.n) ∧
  (putAll a_4.x.t (emptyI (Max.max (16 : Nat) ((4 : Nat) * a_4.x.n))) i).n < (100000 : Nat) ∧
  ((findP (putAll a_4.x.t (emptyI (Max.max (16 : Nat) ((4 : Nat) * a_4.x.n))) i).t (gl a_4.x.t i).key).fst < (0 : Int) →
  (0 : Int) ≤ (findP (putAll a_4.x.t (emptyI (Max.max (16 : Nat) ((4 : Nat) * a_4.x.n))) i).t (gl a_4.x.t i).key).snd)) ∧
  ∀ (b : Nat), True →
  ∃ (a_6 : FindA), (0 : Nat) = (0 : Nat) ∧
  a.key = a_6.key ∧
  ((0 : Nat) = (0 : Nat) ∧
  (growI a_4.x).t.length = a_6.t.length ∧
  b = a_6.cap) ∧
  (↑(growI a_4.x).n : Int) = (↑a_6.n : Int) ∧
  (↑(growI a_4.x).used : Int) = (↑a_6.used : Int) ∧
  (a_6.t.length ≤ (growI a_4.x).t.length ∧
  RowsEq a_6.t.length (4 : Nat) (encRows encP (growI a_4.x).t) (encRows encP a_6.t)) ∧
  ((1 : Nat) ≤ a_6.t.length ∧
  a_6.t.length < (100000 : Nat) ∧
  a_6.key.size ≤ lenMax) ∧
  ∀ (b_1 : Unit), True →
  (Decidable.decide ((0 : Int) ≤ (findP a_6.t a_6.key).fst) = Bool.true →
  ((0 : Int) ≤ (findP a_6.t a_6.key).fst ∧
  (findP a_6.t a_6.key).fst < (↑(growI a_4.x).t.length : Int)) ∧
  (0 : Nat) + (findP a_6.t a_6.key).fst.toNat < (growI a_4.x).t.length ∧
  (InR IntKind.i64 (gl (growI a_4.x).t ((0 : Nat) + (findP a_6.t a_6.key).fst.toNat)).pos →
  ((0 : Int) ≤ (findP a_6.t a_6.key).fst ∧
  (findP a_6.t a_6.key).fst < (↑(growI a_4.x).t.length : Int)) ∧
  (0 : Nat) + (findP a_6.t a_6.key).fst.toNat < (growI a_4.x).t.length ∧
  ∃ (b_2 : Nat), (gl (growI a_4.x).t ((0 : Nat) + (findP a_6.t a_6.key).fst.toNat)).pos = putRet (roomy a.x) a.key ∧
  ((0 : Nat) = (0 : Nat) ∧
  (growI a_4.x).t.length = (putX a.x a.key a.pos).t.length ∧
  b = b_2) ∧
  (↑(growI a_4.x).n : Int) = (↑(putX a.x a.key a.pos).n : Int) ∧
  (↑(growI a_4.x).used : Int) = (↑(putX a.x a.key a.pos).used : Int) ∧
  ((putX a.x a.key a.pos).t.length ≤ (growI a_4.x).t.length ∧
  RowsEq (putX a.x a.key a.pos).t.length (4 : Nat) (updR (encRows encP (growI a_4.x).t) ((0 : Nat) + (findP a_6.t a_6.key).fst.toNat) (1 : Nat) [Value.int IntKind.i64 a.pos]) (encRows encP (putX a.x a.key a.pos).t)) ∧
  True ∧
  True)) ∧
  (Decidable.decide ((0 : Int) ≤ (findP a_6.t a_6.key).fst) = Bool.false →
  ((0 : Int) ≤ (findP a_6.t a_6.key).snd ∧
  (findP a_6.t a_6.key).snd < (↑(growI a_4.x).t.length : Int)) ∧
  (0 : Nat) + (findP a_6.t a_6.key).snd.toNat < (growI a_4.x).t.length ∧
  ((!(gl (growI a_4.x).t ((0 : Nat) + (findP a_6.t a_6.key).snd.toNat)).gone) = Bool.true →
  InR IntKind.i64 (↑(growI a_4.x).used : Int) →
  InR IntKind.i64 ((↑(growI a_4.x).used : Int) + (1 : Int)) ∧
  ((0 : Int) ≤ (findP a_6.t a_6.key).snd ∧
  (findP a_6.t a_6.key).snd < (↑(growI a_4.x).t.length : Int)) ∧
  (0 : Nat) + (findP a_6.t a_6.key).snd.toNat < (growI a_4.x).t.length ∧
  (InR IntKind.i64 (↑(growI a_4.x).n : Int) →
  InR IntKind.i64 ((↑(growI a_4.x).n : Int) + (1 : Int)) ∧
  ∃ (b_2 : Nat), (0 : Int) = putRet (roomy a.x) a.key ∧
  ((0 : Nat) = (0 : Nat) ∧
  (growI a_4.x).t.length = (putX a.x a.key a.pos).t.length ∧
  b = b_2) ∧
  (↑(growI a_4.x).n : Int) + (1 : Int) = (↑(putX a.x a.key a.pos).n : Int) ∧
  (↑(growI a_4.x).used : Int) + (1 : Int) = (↑(putX a.x a.key a.pos).used : Int) ∧
  ((putX a.x a.key a.pos).t.length ≤ (growI a_4.x).t.length ∧
  RowsEq (putX a.x a.key a.pos).t.length (4 : Nat) (updR (encRows encP (growI a_4.x).t) ((0 : Nat) + (findP a_6.t a_6.key).snd.toNat) (0 : Nat) [Value.string a.key, Value.int IntKind.i64 a.pos, Value.bool Bool.true, Value.bool Bool.false]) (encRows encP (putX a.x a.key a.pos).t)) ∧
  True ∧
  True)) ∧
  ((!(gl (growI a_4.x).t ((0 : Nat) + (findP a_6.t a_6.key).snd.toNat)).gone) = Bool.false →
  ((0 : Int) ≤ (findP a_6.t a_6.key).snd ∧
  (findP a_6.t a_6.key).snd < (↑(growI a_4.x).t.length : Int)) ∧
  (0 : Nat) + (findP a_6.t a_6.key).snd.toNat < (growI a_4.x).t.length ∧
  (InR IntKind.i64 (↑(growI a_4.x).n : Int) →
  InR IntKind.i64 ((↑(growI a_4.x).n : Int) + (1 : Int)) ∧
  ∃ (b_2 : Nat), (0 : Int) = putRet (roomy a.x) a.key ∧
  ((0 : Nat) = (0 : Nat) ∧
  (growI a_4.x).t.length = (putX a.x a.key a.pos).t.length ∧
  b = b_2) ∧
  (↑(growI a_4.x).n : Int) + (1 : Int) = (↑(putX a.x a.key a.pos).n : Int) ∧
  (↑(growI a_4.x).used : Int) = (↑(putX a.x a.key a.pos).used : Int) ∧
  ((putX a.x a.key a.pos).t.length ≤ (growI a_4.x).t.length ∧
  RowsEq (putX a.x a.key a.pos).t.length (4 : Nat) (updR (encRows encP (growI a_4.x).t) ((0 : Nat) + (findP a_6.t a_6.key).snd.toNat) (0 : Nat) [Value.string a.key, Value.int IntKind.i64 a.pos, Value.bool Bool.true, Value.bool Bool.false]) (encRows encP (putX a.x a.key a.pos).t)) ∧
  True ∧
  True)))) ∧
  (Decidable.decide ((↑a.x.t.length : Int) ≤ (2 : Int) * (↑a.x.used : Int)) = Bool.false →
  ∃ (a_4 : FindA), (0 : Nat) = (0 : Nat) ∧
  a.key = a_4.key ∧
  ((0 : Nat) = (0 : Nat) ∧
  a.x.t.length = a_4.t.length ∧
  a.cap = a_4.cap) ∧
  (↑a.x.n : Int) = (↑a_4.n : Int) ∧
  (↑a.x.used : Int) = (↑a_4.used : Int) ∧
  (a_4.t.length ≤ a.x.t.length ∧
  RowsEq a_4.t.length (4 : Nat) (encRows encP a.x.t) (encRows encP a_4.t)) ∧
  ((1 : Nat) ≤ a_4.t.length ∧
  a_4.t.length < (100000 : Nat) ∧
  a_4.key.size ≤ lenMax) ∧
  ∀ (b : Unit), True →
  (Decidable.decide ((0 : Int) ≤ (findP a_4.t a_4.key).fst) = Bool.true →
  ((0 : Int) ≤ (findP a_4.t a_4.key).fst ∧
  (findP a_4.t a_4.key).fst < (↑a.x.t.length : Int)) ∧
  (0 : Nat) + (findP a_4.t a_4.key).fst.toNat < a.x.t.length ∧
  (InR IntKind.i64 (gl a.x.t ((0 : Nat) + (findP a_4.t a_4.key).fst.toNat)).pos →
  ((0 : Int) ≤ (findP a_4.t a_4.key).fst ∧
  (findP a_4.t a_4.key).fst < (↑a.x.t.length : Int)) ∧
  (0 : Nat) + (findP a_4.t a_4.key).fst.toNat < a.x.t.length ∧
  ∃ (b : Nat), (gl a.x.t ((0 : Nat) + (findP a_4.t a_4.key).fst.toNat)).pos = putRet (roomy a.x) a.key ∧
  ((0 : Nat) = (0 : Nat) ∧
  a.x.t.length = (putX a.x a.key a.pos).t.length ∧
  a.cap = b) ∧
  (↑a.x.n : Int) = (↑(putX a.x a.key a.pos).n : Int) ∧
  (↑a.x.used : Int) = (↑(putX a.x a.key a.pos).used : Int) ∧
  ((putX a.x a.key a.pos).t.length ≤ a.x.t.length ∧
  RowsEq (putX a.x a.key a.pos).t.length (4 : Nat) (updR (encRows encP a.x.t) ((0 : Nat) + (findP a_4.t a_4.key).fst.toNat) (1 : Nat) [Value.int IntKind.i64 a.pos]) (encRows encP (putX a.x a.key a.pos).t)) ∧
  True ∧
  True)) ∧
  (Decidable.decide ((0 : Int) ≤ (findP a_4.t a_4.key).fst) = Bool.false →
  ((0 : Int) ≤ (findP a_4.t a_4.key).snd ∧
  (findP a_4.t a_4.key).snd < (↑a.x.t.length : Int)) ∧
  (0 : Nat) + (findP a_4.t a_4.key).snd.toNat < a.x.t.length ∧
  ((!(gl a.x.t ((0 : Nat) + (findP a_4.t a_4.key).snd.toNat)).gone) = Bool.true →
  InR IntKind.i64 (↑a.x.used : Int) →
  InR IntKind.i64 ((↑a.x.used : Int) + (1 : Int)) ∧
  ((0 : Int) ≤ (findP a_4.t a_4.key).snd ∧
  (findP a_4.t a_4.key).snd < (↑a.x.t.length : Int)) ∧
  (0 : Nat) + (findP a_4.t a_4.key).snd.toNat < a.x.t.length ∧
  (InR IntKind.i64 (↑a.x.n : Int) →
  InR IntKind.i64 ((↑a.x.n : Int) + (1 : Int)) ∧
  ∃ (b : Nat), (0 : Int) = putRet (roomy a.x) a.key ∧
  ((0 : Nat) = (0 : Nat) ∧
  a.x.t.length = (putX a.x a.key a.pos).t.length ∧
  a.cap = b) ∧
  (↑a.x.n : Int) + (1 : Int) = (↑(putX a.x a.key a.pos).n : Int) ∧
  (↑a.x.used : Int) + (1 : Int) = (↑(putX a.x a.key a.pos).used : Int) ∧
  ((putX a.x a.key a.pos).t.length ≤ a.x.t.length ∧
  RowsEq (putX a.x a.key a.pos).t.length (4 : Nat) (updR (encRows encP a.x.t) ((0 : Nat) + (findP a_4.t a_4.key).snd.toNat) (0 : Nat) [Value.string a.key, Value.int IntKind.i64 a.pos, Value.bool Bool.true, Value.bool Bool.false]) (encRows encP (putX a.x a.key a.pos).t)) ∧
  True ∧
  True)) ∧
  ((!(gl a.x.t ((0 : Nat) + (findP a_4.t a_4.key).snd.toNat)).gone) = Bool.false →
  ((0 : Int) ≤ (findP a_4.t a_4.key).snd ∧
  (findP a_4.t a_4.key).snd < (↑a.x.t.length : Int)) ∧
  (0 : Nat) + (findP a_4.t a_4.key).snd.toNat < a.x.t.length ∧
  (InR IntKind.i64 (↑a.x.n : Int) →
  InR IntKind.i64 ((↑a.x.n : Int) + (1 : Int)) ∧
  ∃ (b : Nat), (0 : Int) = putRet (roomy a.x) a.key ∧
  ((0 : Nat) = (0 : Nat) ∧
  a.x.t.length = (putX a.x a.key a.pos).t.length ∧
  a.cap = b) ∧
  (↑a.x.n : Int) + (1 : Int) = (↑(putX a.x a.key a.pos).n : Int) ∧
  (↑a.x.used : Int) = (↑(putX a.x a.key a.pos).used : Int) ∧
  ((putX a.x a.key a.pos).t.length ≤ a.x.t.length ∧
  RowsEq (putX a.x a.key a.pos).t.length (4 : Nat) (updR (encRows encP a.x.t) ((0 : Nat) + (findP a_4.t a_4.key).snd.toNat) (0 : Nat) [Value.string a.key, Value.int IntKind.i64 a.pos, Value.bool Bool.true, Value.bool Bool.false]) (encRows encP (putX a.x a.key a.pos).t)) ∧
  True ∧
  True))))) (by kernel_rfl) (by
  intro a h
  obtain ⟨h1, h2, h3⟩ := h
  obtain ⟨g1, g2⟩ := roomy_has (Has.mk h1 (List.Perm.refl _)) (show a.x.n < 10000 by omega)
  have k1 := h1.lo
  have k2 := h1.hi
  have k3 := h1.half
  simp only [Nat.zero_add, InR]
  refine fun _ => ⟨by omega, fun hc => ?_, fun hc => ?_⟩
  · have hr : roomy a.x = growI a.x := if_pos (by simp at hc; omega)
    have hpx : putX a.x a.key a.pos = putI (growI a.x) a.key a.pos := by unfold putX; rw [hr]
    have hn : (growI a.x).n = a.x.n := by rw [hr] at g1; rw [g1.n, h1.n]
    have hm := grow_pre h1 (show a.x.n < 10000 by omega)
    simp only [hr, hpx] at g1 g2 ⊢
    refine ⟨⟨a.x, a.cap⟩, ?_⟩
    dsimp only
    (repeat' apply And.intro) <;> first | exact trivial | rfl | omega | exact RowsEq.refl _ _ _ | exact h1.size | exact hm | skip
    refine fun cap _ => ⟨⟨(growI a.x).t, cap, (growI a.x).n, (growI a.x).used, a.key⟩, ?_⟩
    generalize growI a.x = y at *
    have m1 := g1.inv.lo
    have m2 := g1.inv.hi
    have m3 := g1.inv.half
    obtain ⟨l1, l2⟩ := findP_lt (t := y.t) a.key (by omega)
    have l3 := g1.free a.key
    have hl := putI_length y a.key a.pos
    have yes : 0 ≤ (findP y.t a.key).1 → putI y a.key a.pos = { y with t := y.t.set (findP y.t a.key).1.toNat { gl y.t (findP y.t a.key).1.toNat with pos := a.pos } } := fun e => if_pos e
    have no : ¬ 0 ≤ (findP y.t a.key).1 → putI y a.key a.pos = ⟨y.t.set (findP y.t a.key).2.toNat ⟨a.key, a.pos, true, false⟩, y.n + 1, if (gl y.t (findP y.t a.key).2.toNat).gone then y.used else y.used + 1⟩ := fun e => if_neg e
    dsimp only
    repeat' (first | intro _ | apply And.intro | apply Exists.intro (cap : Nat))
    all_goals (try with_reducible rfl)
    all_goals (try simp only [decide_eq_true_eq, decide_eq_false_iff_not, Bool.not_eq_true', Bool.not_eq_false'] at *)
    all_goals (try exact trivial)
    all_goals (try omega)
    all_goals (try (grind [putRet]))
    all_goals (try (with_reducible exact RowsEq.refl _ _ _))
    all_goals (first | (rw [yes (by assumption)]; refine .set _ (by omega) (fun i hi => by simp only [updR_other hi]) ?_; simp only [updR_self]; rfl) | (rw [no (by assumption)]; refine .set _ (by omega) (fun i hi => by simp only [updR_other hi]) ?_; simp only [updR_self]; rfl))
  · have hr : roomy a.x = a.x := if_neg (by simp at hc; omega)
    have hpx : putX a.x a.key a.pos = putI a.x a.key a.pos := by unfold putX; rw [hr]
    simp only [hr, hpx] at g1 g2 ⊢
    refine ⟨⟨a.x.t, a.cap, a.x.n, a.x.used, a.key⟩, ?_⟩
    have hn : a.x.n = a.x.n := rfl
    obtain ⟨cap, hcap⟩ : ∃ cap, cap = a.cap := ⟨_, rfl⟩
    rw [← hcap]
    generalize hy : a.x = y at *
    have m1 := g1.inv.lo
    have m2 := g1.inv.hi
    have m3 := g1.inv.half
    obtain ⟨l1, l2⟩ := findP_lt (t := y.t) a.key (by omega)
    have l3 := g1.free a.key
    have hl := putI_length y a.key a.pos
    have yes : 0 ≤ (findP y.t a.key).1 → putI y a.key a.pos = { y with t := y.t.set (findP y.t a.key).1.toNat { gl y.t (findP y.t a.key).1.toNat with pos := a.pos } } := fun e => if_pos e
    have no : ¬ 0 ≤ (findP y.t a.key).1 → putI y a.key a.pos = ⟨y.t.set (findP y.t a.key).2.toNat ⟨a.key, a.pos, true, false⟩, y.n + 1, if (gl y.t (findP y.t a.key).2.toNat).gone then y.used else y.used + 1⟩ := fun e => if_neg e
    dsimp only
    repeat' (first | intro _ | apply And.intro | apply Exists.intro (cap : Nat))
    all_goals (try with_reducible rfl)
    all_goals (try simp only [decide_eq_true_eq, decide_eq_false_iff_not, Bool.not_eq_true', Bool.not_eq_false'] at *)
    all_goals (try exact trivial)
    all_goals (try omega)
    all_goals (try (grind [putRet]))
    all_goals (try (with_reducible exact RowsEq.refl _ _ _))
    all_goals (first | (rw [yes (by assumption)]; refine .set _ (by omega) (fun i hi => by simp only [updR_other hi]) ?_; simp only [updR_self]; rfl) | (rw [no (by assumption)]; refine .set _ (by omega) (fun i hi => by simp only [updR_other hi]) ?_; simp only [updR_self]; rfl)))

structure KeyA where
  x : IdxR
  cap : Nat
  key : ByteArray
noncomputable def cGet : Con where
  α := KeyA
  β := Unit
  m := 2
  m' := 2
  pre := fun a => Inv a.x ∧ a.key.size ≤ lenMax
  args := fun a => [.a (.ptr 0 0 0 0), .a (.str a.key)]
  hp := fun _ => []
  ro := fun a => idxHp 0 1 a.x.t a.cap a.x.n a.x.used
  post := fun _ _ => True
  res := fun a _ => .tup [.a (.int .i64 (getI a.x a.key).1), .a (.bool (getI a.x a.key).2)]
  hp' := fun _ _ => []
set_option maxHeartbeats 4000000 in
theorem bodyGet : fnBody (Y Try.prog) [(22, cFind)] 13 cGet fun _ => [] := fnBody.of (p :=
  ∀ (a : KeyA), Inv a.x ∧
  a.key.size ≤ lenMax →
  ∃ (a_2 : FindA), (0 : Nat) = (0 : Nat) ∧
  a.key = a_2.key ∧
  ((0 : Nat) = (0 : Nat) ∧
  a.x.t.length = a_2.t.length ∧
  a.cap = a_2.cap) ∧
  (↑a.x.n : Int) = (↑a_2.n : Int) ∧
  (↑a.x.used : Int) = (↑a_2.used : Int) ∧
  (a_2.t.length ≤ a.x.t.length ∧
  RowsEq a_2.t.length (4 : Nat) (encRows encP a.x.t) (encRows encP a_2.t)) ∧
  ((1 : Nat) ≤ a_2.t.length ∧
  a_2.t.length < (100000 : Nat) ∧
  a_2.key.size ≤ lenMax) ∧
  ∀ (b : Unit), True →
  (Decidable.decide ((findP a_2.t a_2.key).fst < (0 : Int)) = Bool.true →
  ∃ (b : Unit), (0 : Int) = (getI a.x a.key).fst ∧
  Bool.false = (getI a.x a.key).snd ∧
  True ∧
  True) ∧
  (Decidable.decide ((findP a_2.t a_2.key).fst < (0 : Int)) = Bool.false →
  ((0 : Int) ≤ (findP a_2.t a_2.key).fst ∧
  (findP a_2.t a_2.key).fst < (↑a.x.t.length : Int)) ∧
  (0 : Nat) + (findP a_2.t a_2.key).fst.toNat < a.x.t.length ∧
  (InR IntKind.i64 (gl a.x.t ((0 : Nat) + (findP a_2.t a_2.key).fst.toNat)).pos →
  ∃ (b : Unit), (gl a.x.t ((0 : Nat) + (findP a_2.t a_2.key).fst.toNat)).pos = (getI a.x a.key).fst ∧
  Bool.true = (getI a.x a.key).snd ∧
  True ∧
  True))) (by kernel_rfl) (by
  intro a h
  obtain ⟨h1, h2⟩ := h
  have k1 := h1.lo
  have k2 := h1.hi
  obtain ⟨l1, l2⟩ := findP_lt (t := a.x.t) a.key (by omega)
  refine ⟨⟨a.x.t, a.cap, a.x.n, a.x.used, a.key⟩, ?_⟩
  simp only [Nat.zero_add, InR]
  repeat' (first | intro _ | apply And.intro | apply Exists.intro ())
  all_goals (try with_reducible rfl)
  all_goals (try simp only [decide_eq_true_eq, decide_eq_false_iff_not] at *)
  all_goals (try exact trivial)
  all_goals (try omega)
  all_goals (try (with_reducible exact RowsEq.refl _ _ _))
  all_goals (try (grind [getI])))
noncomputable def cDrop : Con where
  α := KeyA
  β := Unit
  m := 2
  m' := 2
  pre := fun a => Inv a.x ∧ a.x.n < 10000 ∧ a.key.size ≤ lenMax ∧ (0 ≤ (findP a.x.t a.key).1 → 1 ≤ a.x.n)
  args := fun a => [.a (.ptr 0 0 0 0), .a (.str a.key)]
  hp := fun a => idxHp 0 1 a.x.t a.cap a.x.n a.x.used
  ro := fun _ => []
  post := fun _ _ => True
  res := fun a _ => .a (.bool (decide (0 ≤ (findP a.x.t a.key).1)))
  hp' := fun a _ => idxHp 0 1 (dropI a.x a.key).t a.cap (dropI a.x a.key).n (dropI a.x a.key).used
set_option maxHeartbeats 4000000 in
theorem bodyDrop : fnBody (Y Try.prog) [(22, cFind)] 12 cDrop fun _ => [] := fnBody.of (p :=
  ∀ (a : KeyA), Inv a.x ∧
  a.x.n < (10000 : Nat) ∧
  a.key.size ≤ lenMax ∧
  ((0 : Int) ≤ (findP a.x.t a.key).fst →
  (1 : Nat) ≤ a.x.n) →
  ∃ (a_2 : FindA), (0 : Nat) = (0 : Nat) ∧
  a.key = a_2.key ∧
  ((0 : Nat) = (0 : Nat) ∧
  a.x.t.length = a_2.t.length ∧
  a.cap = a_2.cap) ∧
  (↑a.x.n : Int) = (↑a_2.n : Int) ∧
  (↑a.x.used : Int) = (↑a_2.used : Int) ∧
  (a_2.t.length ≤ a.x.t.length ∧
  RowsEq a_2.t.length (4 : Nat) (encRows encP a.x.t) (encRows encP a_2.t)) ∧
  ((1 : Nat) ≤ a_2.t.length ∧
  a_2.t.length < (100000 : Nat) ∧
  a_2.key.size ≤ lenMax) ∧
  ∀ (b : Unit), True →
  (Decidable.decide ((findP a_2.t a_2.key).fst < (0 : Int)) = Bool.true →
  ∃ (b : Unit), Bool.false = Decidable.decide ((0 : Int) ≤ (findP a.x.t a.key).fst) ∧
  ((0 : Nat) = (0 : Nat) ∧
  a.x.t.length = (dropI a.x a.key).t.length ∧
  a.cap = a.cap) ∧
  (↑a.x.n : Int) = (↑(dropI a.x a.key).n : Int) ∧
  (↑a.x.used : Int) = (↑(dropI a.x a.key).used : Int) ∧
  ((dropI a.x a.key).t.length ≤ a.x.t.length ∧
  RowsEq (dropI a.x a.key).t.length (4 : Nat) (encRows encP a.x.t) (encRows encP (dropI a.x a.key).t)) ∧
  True ∧
  True) ∧
  (Decidable.decide ((findP a_2.t a_2.key).fst < (0 : Int)) = Bool.false →
  ((0 : Int) ≤ (findP a_2.t a_2.key).fst ∧
  (findP a_2.t a_2.key).fst < (↑a.x.t.length : Int)) ∧
  (0 : Nat) + (findP a_2.t a_2.key).fst.toNat < a.x.t.length ∧
  (InR IntKind.i64 (↑a.x.n : Int) →
  InR IntKind.i64 ((↑a.x.n : Int) - (1 : Int)) ∧
  ∃ (b : Unit), Bool.true = Decidable.decide ((0 : Int) ≤ (findP a.x.t a.key).fst) ∧
  ((0 : Nat) = (0 : Nat) ∧
  a.x.t.length = (dropI a.x a.key).t.length ∧
  a.cap = a.cap) ∧
  (↑a.x.n : Int) - (1 : Int) = (↑(dropI a.x a.key).n : Int) ∧
  (↑a.x.used : Int) = (↑(dropI a.x a.key).used : Int) ∧
  ((dropI a.x a.key).t.length ≤ a.x.t.length ∧
  RowsEq (dropI a.x a.key).t.length (4 : Nat) (updR (encRows encP a.x.t) ((0 : Nat) + (findP a_2.t a_2.key).fst.toNat) (0 : Nat) [Value.string { data := #[] }, Value.int IntKind.i64 (0 : Int), Value.bool Bool.false, Value.bool Bool.true]) (encRows encP (dropI a.x a.key).t)) ∧
  True ∧
  True))) (by kernel_rfl) (by
  intro a h
  obtain ⟨h1, h2, h3, h4⟩ := h
  have k1 := h1.lo
  have k2 := h1.hi
  obtain ⟨l1, l2⟩ := findP_lt (t := a.x.t) a.key (by omega)
  have yes : 0 ≤ (findP a.x.t a.key).1 → dropI a.x a.key = ⟨a.x.t.set (findP a.x.t a.key).1.toNat goneP, a.x.n - 1, a.x.used⟩ := fun e => if_pos e
  have no : ¬ 0 ≤ (findP a.x.t a.key).1 → dropI a.x a.key = a.x := fun e => if_neg e
  refine ⟨⟨a.x.t, a.cap, a.x.n, a.x.used, a.key⟩, ?_⟩
  simp only [Nat.zero_add, InR]
  repeat' (first | intro _ | apply And.intro | apply Exists.intro ())
  all_goals (try with_reducible rfl)
  all_goals (try simp only [decide_eq_true_eq, decide_eq_false_iff_not] at *)
  all_goals (try exact trivial)
  all_goals (try omega)
  all_goals (try (with_reducible exact RowsEq.refl _ _ _))
  all_goals (try (grind))
  all_goals (first | (rw [yes (by omega)]; refine .set _ (by omega) (fun i hi => by simp only [updR_other hi]) ?_; simp only [updR_self]; rfl) | (rw [no (by omega)]; exact RowsEq.refl _ _ _) | skip))
structure LowA where
  x : IdxR
  cap : Nat
  pos : Int
noncomputable def cBelow : Con where
  α := LowA
  β := Unit
  m := 2
  m' := 2
  pre := fun a => Inv a.x ∧ a.x.n < 10000 ∧ belowN a.x.t a.pos a.x.t.length ≤ a.x.n
  args := fun a => [.a (.ptr 0 0 0 0), .a (.int .i64 a.pos)]
  hp := fun a => idxHp 0 1 a.x.t a.cap a.x.n a.x.used
  ro := fun _ => []
  post := fun _ _ => True
  res := fun a _ => .a (.int .i64 (belowN a.x.t a.pos a.x.t.length))
  hp' := fun a _ => idxHp 0 1 (belowI a.x a.pos).t a.cap (belowI a.x a.pos).n (belowI a.x a.pos).used
def iBelow (a : LowA) : An := .flat 5 Nat (fun s i => ((s.at_ (s.in_ (s.tg 0) 0) (.arr 56 ksP a.x.t.length (encRows encP (belowT a.x.t a.pos i)))).int 15 i).int 5 (belowN a.x.t a.pos i))
  (fun _ i => i ≤ a.x.t.length) (fun _ i => a.x.t.length - i)
set_option maxHeartbeats 4000000 in
theorem bodyBelow : fnBody (Y Try.prog) [] 15 cBelow fun a => [(15, [iBelow a], [])] := fnBody.of (p :=
  ∀ (a : LowA), Inv a.x ∧
  a.x.n < (10000 : Nat) ∧
  belowN a.x.t a.pos a.x.t.length ≤ a.x.n →
  (∃ (a_2 : Nat), (0 : Int) = (↑(belowN a.x.t a.pos a_2) : Int) ∧
  (0 : Int) = (↑a_2 : Int) ∧
  (↑a.x.t.length : Int) = (↑a.x.t.length : Int) ∧
  ((0 : Nat) = (0 : Nat) ∧
  a.x.t.length = a.x.t.length ∧
  a.cap = a.cap) ∧
  Bool.false = Bool.false ∧
  (0 : Int) = (0 : Int) ∧
  (0 : Nat) = (0 : Nat) ∧
  a.pos = a.pos ∧
  ((0 : Nat) = (0 : Nat) ∧
  a.x.t.length = a.x.t.length ∧
  a.cap = a.cap) ∧
  (↑a.x.n : Int) = (↑a.x.n : Int) ∧
  (↑a.x.used : Int) = (↑a.x.used : Int) ∧
  (a.x.t.length ≤ a.x.t.length ∧
  RowsEq a.x.t.length (4 : Nat) (encRows encP a.x.t) (encRows encP (belowT a.x.t a.pos a_2))) ∧
  a_2 ≤ a.x.t.length ∧
  True) ∧
  ∀ (a_2 : Nat), a_2 ≤ a.x.t.length →
  (Decidable.decide ((↑a_2 : Int) < (↑a.x.t.length : Int)) = Bool.true →
  ((0 : Int) ≤ (↑a_2 : Int) ∧
  (↑a_2 : Int) < (↑a.x.t.length : Int)) ∧
  (0 : Nat) + (↑a_2 : Int).toNat < a.x.t.length ∧
  ((gl (belowT a.x.t a.pos a_2) ((0 : Nat) + (↑a_2 : Int).toNat)).has = Bool.true →
  InR IntKind.i64 (gl (belowT a.x.t a.pos a_2) ((0 : Nat) + (↑a_2 : Int).toNat)).pos →
  (Decidable.decide ((gl (belowT a.x.t a.pos a_2) ((0 : Nat) + (↑a_2 : Int).toNat)).pos < a.pos) = Bool.true →
  ((0 : Int) ≤ (↑a_2 : Int) ∧
  (↑a_2 : Int) < (↑a.x.t.length : Int)) ∧
  (0 : Nat) + (↑a_2 : Int).toNat < a.x.t.length ∧
  InR IntKind.i64 ((↑(belowN a.x.t a.pos a_2) : Int) + (1 : Int)) ∧
  InR IntKind.i64 ((↑a_2 : Int) + (1 : Int)) ∧
  ∃ (a' : Nat), (↑(belowN a.x.t a.pos a_2) : Int) + (1 : Int) = (↑(belowN a.x.t a.pos a') : Int) ∧
  (↑a_2 : Int) + (1 : Int) = (↑a' : Int) ∧
  (↑a.x.t.length : Int) = (↑a.x.t.length : Int) ∧
  ((0 : Nat) = (0 : Nat) ∧
  a.x.t.length = a.x.t.length ∧
  a.cap = a.cap) ∧
  Bool.false = Bool.false ∧
  (0 : Int) = (0 : Int) ∧
  (0 : Nat) = (0 : Nat) ∧
  a.pos = a.pos ∧
  ((0 : Nat) = (0 : Nat) ∧
  a.x.t.length = a.x.t.length ∧
  a.cap = a.cap) ∧
  (↑a.x.n : Int) = (↑a.x.n : Int) ∧
  (↑a.x.used : Int) = (↑a.x.used : Int) ∧
  (a.x.t.length ≤ a.x.t.length ∧
  RowsEq a.x.t.length (4 : Nat) (updR (encRows encP (belowT a.x.t a.pos a_2)) ((0 : Nat) + (↑a_2 : Int).toNat) (0 : Nat) [Value.string { data := #[] }, Value.int IntKind.i64 (0 : Int), Value.bool Bool.false, Value.bool Bool.true]) (encRows encP (belowT a.x.t a.pos a'))) ∧
  a' ≤ a.x.t.length ∧
  a.x.t.length - a' < a.x.t.length - a_2) ∧
  (Decidable.decide ((gl (belowT a.x.t a.pos a_2) ((0 : Nat) + (↑a_2 : Int).toNat)).pos < a.pos) = Bool.false →
  InR IntKind.i64 ((↑a_2 : Int) + (1 : Int)) ∧
  ∃ (a' : Nat), (↑(belowN a.x.t a.pos a_2) : Int) = (↑(belowN a.x.t a.pos a') : Int) ∧
  (↑a_2 : Int) + (1 : Int) = (↑a' : Int) ∧
  (↑a.x.t.length : Int) = (↑a.x.t.length : Int) ∧
  ((0 : Nat) = (0 : Nat) ∧
  a.x.t.length = a.x.t.length ∧
  a.cap = a.cap) ∧
  Bool.false = Bool.false ∧
  (0 : Int) = (0 : Int) ∧
  (0 : Nat) = (0 : Nat) ∧
  a.pos = a.pos ∧
  ((0 : Nat) = (0 : Nat) ∧
  a.x.t.length = a.x.t.length ∧
  a.cap = a.cap) ∧
  (↑a.x.n : Int) = (↑a.x.n : Int) ∧
  (↑a.x.used : Int) = (↑a.x.used : Int) ∧
  (a.x.t.length ≤ a.x.t.length ∧
  RowsEq a.x.t.length (4 : Nat) (encRows encP (belowT a.x.t a.pos a_2)) (encRows encP (belowT a.x.t a.pos a'))) ∧
  a' ≤ a.x.t.length ∧
  a.x.t.length - a' < a.x.t.length - a_2)) ∧
  ((gl (belowT a.x.t a.pos a_2) ((0 : Nat) + (↑a_2 : Int).toNat)).has = Bool.false →
  InR IntKind.i64 ((↑a_2 : Int) + (1 : Int)) ∧
  ∃ (a' : Nat), (↑(belowN a.x.t a.pos a_2) : Int) = (↑(belowN a.x.t a.pos a') : Int) ∧
  (↑a_2 : Int) + (1 : Int) = (↑a' : Int) ∧
  (↑a.x.t.length : Int) = (↑a.x.t.length : Int) ∧
  ((0 : Nat) = (0 : Nat) ∧
  a.x.t.length = a.x.t.length ∧
  a.cap = a.cap) ∧
  Bool.false = Bool.false ∧
  (0 : Int) = (0 : Int) ∧
  (0 : Nat) = (0 : Nat) ∧
  a.pos = a.pos ∧
  ((0 : Nat) = (0 : Nat) ∧
  a.x.t.length = a.x.t.length ∧
  a.cap = a.cap) ∧
  (↑a.x.n : Int) = (↑a.x.n : Int) ∧
  (↑a.x.used : Int) = (↑a.x.used : Int) ∧
  (a.x.t.length ≤ a.x.t.length ∧
  RowsEq a.x.t.length (4 : Nat) (encRows encP (belowT a.x.t a.pos a_2)) (encRows encP (belowT a.x.t a.pos a'))) ∧
  a' ≤ a.x.t.length ∧
  a.x.t.length - a' < a.x.t.length - a_2)) ∧
  (Decidable.decide ((↑a_2 : Int) < (↑a.x.t.length : Int)) = Bool.false →
  InR IntKind.i64 (↑a.x.n : Int) →
  InR IntKind.i64 ((↑a.x.n : Int) - (↑(belowN a.x.t a.pos a_2) : Int)) ∧
  ∃ (b : Unit), (↑(belowN a.x.t a.pos a_2) : Int) = (↑(belowN a.x.t a.pos a.x.t.length) : Int) ∧
  ((0 : Nat) = (0 : Nat) ∧
  a.x.t.length = (belowI a.x a.pos).t.length ∧
  a.cap = a.cap) ∧
  (↑a.x.n : Int) - (↑(belowN a.x.t a.pos a_2) : Int) = (↑(belowI a.x a.pos).n : Int) ∧
  (↑a.x.used : Int) = (↑(belowI a.x a.pos).used : Int) ∧
  ((belowI a.x a.pos).t.length ≤ a.x.t.length ∧
  RowsEq (belowI a.x a.pos).t.length (4 : Nat) (encRows encP (belowT a.x.t a.pos a_2)) (encRows encP (belowI a.x a.pos).t)) ∧
  True ∧
  True)) (by kernel_rfl) (by
  intro a h
  obtain ⟨h1, h2, h3⟩ := h
  have k1 := h1.lo
  have k2 := h1.hi
  simp only [Nat.zero_add, InR]
  have hlen := belowT_length a.x.t a.pos
  refine ⟨⟨0, ?_⟩, fun i hi => ?_⟩
  · (repeat' apply And.intro) <;> (first | exact trivial | rfl | omega | assumption | exact RowsEq.refl _ _ _ | (simp only [InR]; omega) | (simp; done) | (simp; omega) | grind)
  · have hat := belowT_at a.x.t a.pos i hi i
    rw [if_neg (by simp)] at hat
    have sy : low a.pos (gl a.x.t i) = true → belowT a.x.t a.pos (i + 1) = (belowT a.x.t a.pos i).set i goneP := fun e => if_pos e
    have sn : ¬ low a.pos (gl a.x.t i) = true → belowT a.x.t a.pos (i + 1) = belowT a.x.t a.pos i := fun e => if_neg e
    have ny : low a.pos (gl a.x.t i) = true → belowN a.x.t a.pos (i + 1) = belowN a.x.t a.pos i + 1 := fun e => by show _ + (if _ then 1 else 0) = _; rw [if_pos e]
    have nn : ¬ low a.pos (gl a.x.t i) = true → belowN a.x.t a.pos (i + 1) = belowN a.x.t a.pos i := fun e => by show _ + (if _ then 1 else 0) = _; rw [if_neg e]; rfl
    have hn : ∀ i, belowN a.x.t a.pos i ≤ i := by
      intro i
      induction i with
      | zero => exact Nat.le_refl _
      | succ i ih => show _ + (if _ then 1 else 0) ≤ _; split <;> omega
    have hn1 := hn i
    have hfin : ¬ i < a.x.t.length → belowI a.x a.pos = ⟨belowT a.x.t a.pos i, a.x.n - belowN a.x.t a.pos i, a.x.used⟩ ∧ belowN a.x.t a.pos a.x.t.length = belowN a.x.t a.pos i := fun e => by
      have : i = a.x.t.length := by omega
      rw [this]; exact ⟨rfl, rfl⟩
    have ll : ∀ q : PlaceR, low a.pos q = true ↔ q.has = true ∧ q.pos < a.pos := fun q => by simp [low]
    simp only [Int.toNat_natCast, hat] at *
    clear hlen
    repeat' (first | intro _ | apply And.intro | apply Exists.intro (i + 1 : Nat) | apply Exists.intro ())
    all_goals (try with_reducible rfl)
    all_goals (try simp only [decide_eq_true_eq, decide_eq_false_iff_not, belowT_length] at *)
    all_goals (try exact trivial)
    all_goals (try omega)
    all_goals (try (with_reducible exact RowsEq.refl _ _ _))
    all_goals first
      | (rw [ny ((ll _).2 ⟨by assumption, by assumption⟩)]; done)
      | (rw [ny ((ll _).2 ⟨by assumption, by assumption⟩)]; rfl)
      | rfl
      | (rw [nn (fun e => by have := (ll _).1 e; grind)]; done)
      | (rw [sy ((ll _).2 ⟨by assumption, by assumption⟩)]; refine .set _ (by rw [belowT_length]; omega) (fun i hi => by simp only [updR_other hi]) ?_; simp only [updR_self]; rfl)
      | (rw [sn (fun e => by have := (ll _).1 e; grind)]; exact RowsEq.refl _ _ _)
      | (rw [(hfin (by omega)).2]; done)
      | (have hf := hfin (by omega); rw [hf.1]; first | rfl | omega | exact RowsEq.refl _ _ _ | (simp only; omega) | (simp only [belowT_length]; first | done | exact Nat.le_refl _)))
theorem callPut : CallsBy (Y Try.prog).G.X 10 cPut := fn_ok okY (tab := [(22, cFind), (21, cGrow)]) ⟨callFind, callGrow, trivial⟩ bodyPut
theorem callGet : CallsBy (Y Try.prog).G.X 13 cGet := fn_ok okY (tab := [(22, cFind)]) ⟨callFind, trivial⟩ bodyGet
theorem callDrop : CallsBy (Y Try.prog).G.X 12 cDrop := fn_ok okY (tab := [(22, cFind)]) ⟨callFind, trivial⟩ bodyDrop
theorem callBelow : CallsBy (Y Try.prog).G.X 15 cBelow := fn_ok okY (tab := []) trivial bodyBelow
end Go.Proofs.Ytfpgkgelgpandaa
