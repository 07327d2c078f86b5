/-
  The statements' functions over the layer net, where messages have no lists.
-/
import Derived.Test.YthgnaehfepcblaaNetl
namespace Go.Proofs.Ythgnaehfepcblaa
open Go.Sx
set_option maxRecDepth 100000
set_option linter.unusedVariables false

noncomputable def tabNet : List (Nat × Con) := [(8, cBegun), (12, cSend), (13, cLook), (14, cTake)]
theorem tabNet_ok : TabOk (Y Try.prog).G.X tabNet := ⟨callBegun, callSend, callLook, callTake, trivial⟩

/-! ### NetFull -/

structure FullA where
  k : Int
  more : Int
noncomputable def cFull : Con where
  α := FullA
  β := Unit
  m := 0
  m' := 0
  pre := fun _ => True
  args := fun a => [.a (.int .i64 a.k), .a (.int .i64 a.more)]
  hp := fun _ => []
  ro := fun _ => []
  post := fun _ _ => True
  res := fun _ _ => .a .tt
  hp' := fun _ _ => []
def fullL (k : Nat) : List MsgR := (List.range (min k 300)).map fun (i : Nat) => ⟨1, 1, 0, 0, (i : Int), 0⟩
def moreL (k : Nat) : List MsgR := List.replicate k ⟨1, 2, 0, 0, 0, 0⟩
theorem full_length (n : Nat) : (fullL n).length = min n 300 := by simp [fullL]
theorem more_length (n : Nat) : (moreL n).length = n := by simp [moreL]
theorem more_succ (n : Nat) : moreL (n + 1) = moreL n ++ [⟨1, 2, 0, 0, 0, 0⟩] := List.replicate_succ'
theorem full_step (n : Nat) : sentL (fullL n) [⟨1, 1, 0, 0, (n : Int), 0⟩] = fullL (n + 1) := by
  have hl := full_length n
  by_cases h : n < 300
  · unfold sentL
    rw [List.take_of_length_le (by simp; omega)]
    unfold fullL
    rw [show min n 300 = n by omega, show min (n + 1) 300 = n + 1 by omega, List.range_succ, List.map_append]
    rfl
  · unfold sentL
    rw [show 300 - (fullL n).length = 0 by omega]
    unfold fullL
    rw [show min n 300 = 300 by omega, show min (n + 1) 300 = 300 by omega]
    simp
def S.net0 (s : S) (t : Nat) (l : List MsgR) (cap : Nat) : S := (s.at_ t (.obj 51 [.slc s.nx 0 21 l.length cap])).new (.arr 36 ksMsg l.length (encRows encMsg l))
def iFull1 (a : FullA) : An := .flat 8 (Nat × Nat) (fun s x => (S.net0 s (s.tg 6) (fullL x.1) x.2).int 7 x.1) (fun _ x => (x.1 : Int) ≤ a.k ∧ (fullL x.1).length ≤ x.2) (fun _ x => a.k.toNat - x.1)
def iFull2 (a : FullA) : An := .flat 14 (Nat × Nat) (fun s x => ((s.new (.arr 36 ksMsg x.1 (encRows encMsg (moreL x.1)))).set 8 (.a (.slc s.nx 0 21 x.1 x.2))).int 9 x.1) (fun _ x => (x.1 : Int) ≤ a.more) (fun _ x => a.more.toNat - x.1)
set_option maxHeartbeats 4000000 in
theorem bodyFull : fnBody (Y Try.prog) tabNet 4 cFull fun a => [(4, [iFull1 a, iFull2 a], [])] := fnBody.of (p :=
  ∀ (a : FullA), True →
  ∃ (a_2 : Unit), True ∧
  ∀ (b : Unit), True →
  (Decidable.decide (a.k < (0 : Int)) = Bool.true →
  ∃ (b : Unit), Bool.true = Bool.true ∧
  True ∧
  True) ∧
  (Decidable.decide (a.k < (0 : Int)) = Bool.false →
  (Decidable.decide ((330 : Int) < a.k) = Bool.true →
  ∃ (b : Unit), Bool.true = Bool.true ∧
  True ∧
  True) ∧
  (Decidable.decide ((330 : Int) < a.k) = Bool.false →
  (Decidable.decide (a.more < (0 : Int)) = Bool.true →
  ∃ (b : Unit), Bool.true = Bool.true ∧
  True ∧
  True) ∧
  (Decidable.decide (a.more < (0 : Int)) = Bool.false →
  (Decidable.decide ((10 : Int) < a.more) = Bool.true →
  ∃ (b : Unit), Bool.true = Bool.true ∧
  True ∧
  True) ∧
  (Decidable.decide ((10 : Int) < a.more) = Bool.false →
  (∃ (a_8 : Nat × Nat), (0 : Int) = (↑a_8.fst : Int) ∧
  (0 : Nat) = (0 : Nat) ∧
  Decidable.decide ((10 : Int) < a.more) = Decidable.decide ((10 : Int) < a.more) ∧
  Bool.false = Bool.false ∧
  Bool.true = Bool.true ∧
  Bool.false = Bool.false ∧
  a.k = a.k ∧
  a.more = a.more ∧
  ((0 : Nat) = (fullL a_8.fst).length ∧
  (0 : Nat) = a_8.snd) ∧
  (fullL a_8.fst).length = (0 : Nat) ∧
  ((↑a_8.fst : Int) ≤ a.k ∧
  (fullL a_8.fst).length ≤ a_8.snd) ∧
  True) ∧
  ∀ (a_8 : Nat × Nat), (↑a_8.fst : Int) ≤ a.k ∧
  (fullL a_8.fst).length ≤ a_8.snd →
  (Decidable.decide ((↑a_8.fst : Int) < a.k) = Bool.true →
  ∃ (a_11 : SendA), (0 : Nat) = (0 : Nat) ∧
  ((0 : Nat) = (0 : Nat) ∧
  (1 : Nat) = a_11.ms.length ∧
  (1 : Nat) = a_11.mcap) ∧
  ((0 : Nat) = (0 : Nat) ∧
  (fullL a_8.fst).length = a_11.l.length ∧
  a_8.snd = a_11.cap) ∧
  (a_11.l.length ≤ (fullL a_8.fst).length ∧
  RowsEq a_11.l.length (21 : Nat) (encRows encMsg (fullL a_8.fst)) (encRows encMsg a_11.l)) ∧
  (a_11.ms.length ≤ (1 : Nat) ∧
  RowsEq a_11.ms.length (21 : Nat) (flatRows (21 : Nat) [Value.int IntKind.i64 (1 : Int), Value.int IntKind.i64 (1 : Int), Value.int IntKind.i64 (0 : Int), Value.int IntKind.i64 (0 : Int), Value.int IntKind.i64 (↑a_8.fst : Int), Value.int IntKind.i64 (0 : Int), Value.int IntKind.i64 (0 : Int), Value.int IntKind.i64 (0 : Int), Value.int IntKind.i64 (0 : Int), Value.string (ByteArray.mk #[]), Value.int IntKind.i64 (0 : Int), Value.bool Bool.false, Value.string (ByteArray.mk #[]), Value.string (ByteArray.mk #[]), Value.int IntKind.i64 (0 : Int), Value.bool Bool.false, Value.slice Option.none (0 : Nat) (0 : Nat), Value.slice Option.none (0 : Nat) (0 : Nat), Value.slice Option.none (0 : Nat) (0 : Nat), Value.int IntKind.i64 (0 : Int), Value.slice Option.none (0 : Nat) (0 : Nat)]) (encRows encMsg a_11.ms)) ∧
  (a_11.l.length ≤ (300 : Nat) ∧
  a_11.l.length ≤ a_11.cap ∧
  a_11.ms.length ≤ (1000 : Nat) ∧
  ∀ (m : MsgR), m ∈ a_11.ms →
  okM m) ∧
  ∀ (b : Nat), (sentL a_11.l a_11.ms).length ≤ b →
  (Decidable.decide ((↑a_8.fst : Int) < (300 : Int)) = Bool.true →
  (((↑(sentL a_11.l a_11.ms).length : Int) - (↑a_11.l.length : Int) != (1 : Int)) = Bool.true →
  ∃ (b : Unit), Bool.false = Bool.true ∧
  True ∧
  True) ∧
  (((↑(sentL a_11.l a_11.ms).length : Int) - (↑a_11.l.length : Int) != (1 : Int)) = Bool.false →
  InR IntKind.i64 ((↑a_8.fst : Int) + (1 : Int)) ∧
  ∃ (a' : Nat × Nat), (↑a_8.fst : Int) + (1 : Int) = (↑a'.fst : Int) ∧
  (0 : Nat) = (0 : Nat) ∧
  Decidable.decide ((10 : Int) < a.more) = Decidable.decide ((10 : Int) < a.more) ∧
  Bool.false = Bool.false ∧
  Bool.true = Bool.true ∧
  Bool.false = Bool.false ∧
  a.k = a.k ∧
  a.more = a.more ∧
  ((0 : Nat) = (0 : Nat) ∧
  (sentL a_11.l a_11.ms).length = (fullL a'.fst).length ∧
  b = a'.snd) ∧
  ((fullL a'.fst).length ≤ (sentL a_11.l a_11.ms).length ∧
  RowsEq (fullL a'.fst).length (21 : Nat) (encRows encMsg (sentL a_11.l a_11.ms)) (encRows encMsg (fullL a'.fst))) ∧
  ((↑a'.fst : Int) ≤ a.k ∧
  (fullL a'.fst).length ≤ a'.snd) ∧
  a.k.toNat - a'.fst < a.k.toNat - a_8.fst)) ∧
  (Decidable.decide ((↑a_8.fst : Int) < (300 : Int)) = Bool.false →
  (((↑(sentL a_11.l a_11.ms).length : Int) - (↑a_11.l.length : Int) != (0 : Int)) = Bool.true →
  ∃ (b : Unit), Bool.false = Bool.true ∧
  True ∧
  True) ∧
  (((↑(sentL a_11.l a_11.ms).length : Int) - (↑a_11.l.length : Int) != (0 : Int)) = Bool.false →
  InR IntKind.i64 ((↑a_8.fst : Int) + (1 : Int)) ∧
  ∃ (a' : Nat × Nat), (↑a_8.fst : Int) + (1 : Int) = (↑a'.fst : Int) ∧
  (0 : Nat) = (0 : Nat) ∧
  Decidable.decide ((10 : Int) < a.more) = Decidable.decide ((10 : Int) < a.more) ∧
  Bool.false = Bool.false ∧
  Bool.true = Bool.true ∧
  Bool.false = Bool.false ∧
  a.k = a.k ∧
  a.more = a.more ∧
  ((0 : Nat) = (0 : Nat) ∧
  (sentL a_11.l a_11.ms).length = (fullL a'.fst).length ∧
  b = a'.snd) ∧
  ((fullL a'.fst).length ≤ (sentL a_11.l a_11.ms).length ∧
  RowsEq (fullL a'.fst).length (21 : Nat) (encRows encMsg (sentL a_11.l a_11.ms)) (encRows encMsg (fullL a'.fst))) ∧
  ((↑a'.fst : Int) ≤ a.k ∧
  (fullL a'.fst).length ≤ a'.snd) ∧
  a.k.toNat - a'.fst < a.k.toNat - a_8.fst))) ∧
  (Decidable.decide ((↑a_8.fst : Int) < a.k) = Bool.false →
  (∃ (a_11 : Nat × Nat), (0 : Int) = (↑a_11.fst : Int) ∧
  ((0 : Nat) = a_11.fst ∧
  (0 : Nat) = a_11.snd) ∧
  Decidable.decide ((↑a_8.fst : Int) < a.k) = Decidable.decide ((↑a_8.fst : Int) < a.k) ∧
  (↑a_8.fst : Int) = (↑a_8.fst : Int) ∧
  (0 : Nat) = (0 : Nat) ∧
  Decidable.decide ((10 : Int) < a.more) = Decidable.decide ((10 : Int) < a.more) ∧
  Bool.false = Bool.false ∧
  Bool.true = Bool.true ∧
  Bool.false = Bool.false ∧
  a.k = a.k ∧
  a.more = a.more ∧
  a_11.fst = (0 : Nat) ∧
  ((0 : Nat) = (0 : Nat) ∧
  (fullL a_8.fst).length = (fullL a_8.fst).length ∧
  a_8.snd = a_8.snd) ∧
  ((fullL a_8.fst).length ≤ (fullL a_8.fst).length ∧
  RowsEq (fullL a_8.fst).length (21 : Nat) (encRows encMsg (fullL a_8.fst)) (encRows encMsg (fullL a_8.fst))) ∧
  (↑a_11.fst : Int) ≤ a.more ∧
  True) ∧
  ∀ (a_11 : Nat × Nat), (↑a_11.fst : Int) ≤ a.more →
  (Decidable.decide ((↑a_11.fst : Int) < a.more) = Bool.true →
  (0 : Nat) + a_11.fst ≤ a_11.fst ∧
  (1 : Nat) ≤ (1 : Nat) ∧
  (a_11.fst + (1 : Nat)) * (256 : Nat) ≤ (140737488355328 : Nat) ∧
  ∀ (cap : Nat), a_11.fst + (1 : Nat) ≤ cap →
  cap ≤ lenMax →
  (a_11.fst + (1 : Nat) ≤ a_11.snd →
  cap = a_11.snd) →
  InR IntKind.i64 ((↑a_11.fst : Int) + (1 : Int)) ∧
  ∃ (a' : Nat × Nat), (↑a_11.fst : Int) + (1 : Int) = (↑a'.fst : Int) ∧
  ((0 : Nat) = (0 : Nat) ∧
  a_11.fst + (1 : Nat) = a'.fst ∧
  cap = a'.snd) ∧
  Decidable.decide ((↑a_8.fst : Int) < a.k) = Decidable.decide ((↑a_8.fst : Int) < a.k) ∧
  (↑a_8.fst : Int) = (↑a_8.fst : Int) ∧
  (0 : Nat) = (0 : Nat) ∧
  Decidable.decide ((10 : Int) < a.more) = Decidable.decide ((10 : Int) < a.more) ∧
  Bool.false = Bool.false ∧
  Bool.true = Bool.true ∧
  Bool.false = Bool.false ∧
  a.k = a.k ∧
  a.more = a.more ∧
  (a'.fst ≤ a_11.fst + (1 : Nat) ∧
  RowsEq a'.fst (21 : Nat) (appRows (encRows encMsg (moreL a_11.fst)) (0 : Nat) a_11.fst fun (i j : Nat) => flatRows (21 : Nat) [Value.int IntKind.i64 (1 : Int), Value.int IntKind.i64 (2 : Int), Value.int IntKind.i64 (0 : Int), Value.int IntKind.i64 (0 : Int), Value.int IntKind.i64 (0 : Int), Value.int IntKind.i64 (0 : Int), Value.int IntKind.i64 (0 : Int), Value.int IntKind.i64 (0 : Int), Value.int IntKind.i64 (0 : Int), Value.string (ByteArray.mk #[]), Value.int IntKind.i64 (0 : Int), Value.bool Bool.false, Value.string (ByteArray.mk #[]), Value.string (ByteArray.mk #[]), Value.int IntKind.i64 (0 : Int), Value.bool Bool.false, Value.slice Option.none (0 : Nat) (0 : Nat), Value.slice Option.none (0 : Nat) (0 : Nat), Value.slice Option.none (0 : Nat) (0 : Nat), Value.int IntKind.i64 (0 : Int), Value.slice Option.none (0 : Nat) (0 : Nat)] ((0 : Nat) + i) j) (encRows encMsg (moreL a'.fst))) ∧
  ((0 : Nat) = (0 : Nat) ∧
  (fullL a_8.fst).length = (fullL a_8.fst).length ∧
  a_8.snd = a_8.snd) ∧
  ((fullL a_8.fst).length ≤ (fullL a_8.fst).length ∧
  RowsEq (fullL a_8.fst).length (21 : Nat) (encRows encMsg (fullL a_8.fst)) (encRows encMsg (fullL a_8.fst))) ∧
  (↑a'.fst : Int) ≤ a.more ∧
  a.more.toNat - a'.fst < a.more.toNat - a_11.fst) ∧
  (Decidable.decide ((↑a_11.fst : Int) < a.more) = Bool.false →
  ∃ (a_14 : SendA), (0 : Nat) = (0 : Nat) ∧
  ((0 : Nat) = (0 : Nat) ∧
  a_11.fst = a_14.ms.length ∧
  a_11.snd = a_14.mcap) ∧
  ((0 : Nat) = (0 : Nat) ∧
  (fullL a_8.fst).length = a_14.l.length ∧
  a_8.snd = a_14.cap) ∧
  (a_14.l.length ≤ (fullL a_8.fst).length ∧
  RowsEq a_14.l.length (21 : Nat) (encRows encMsg (fullL a_8.fst)) (encRows encMsg a_14.l)) ∧
  (a_14.ms.length ≤ a_11.fst ∧
  RowsEq a_14.ms.length (21 : Nat) (encRows encMsg (moreL a_11.fst)) (encRows encMsg a_14.ms)) ∧
  (a_14.l.length ≤ (300 : Nat) ∧
  a_14.l.length ≤ a_14.cap ∧
  a_14.ms.length ≤ (1000 : Nat) ∧
  ∀ (m : MsgR), m ∈ a_14.ms →
  okM m) ∧
  ∀ (b : Nat), (sentL a_14.l a_14.ms).length ≤ b →
  InR IntKind.i64 ((300 : Int) - a.k) ∧
  (((↑(sentL a_14.l a_14.ms).length : Int) - (↑a_14.l.length : Int) == bif Bool.false then Max.max a.more (bif Bool.true then Max.max (0 : Int) ((300 : Int) - a.k) else Min.min (0 : Int) ((300 : Int) - a.k)) else Min.min a.more (bif Bool.true then Max.max (0 : Int) ((300 : Int) - a.k) else Min.min (0 : Int) ((300 : Int) - a.k))) = Bool.true →
  InR IntKind.i64 (a.k + a.more) ∧
  ∃ (b : Unit), ((↑(sentL a_14.l a_14.ms).length : Int) == bif Bool.false then Max.max (300 : Int) (a.k + a.more) else Min.min (300 : Int) (a.k + a.more)) = Bool.true ∧
  True ∧
  True) ∧
  (((↑(sentL a_14.l a_14.ms).length : Int) - (↑a_14.l.length : Int) == bif Bool.false then Max.max a.more (bif Bool.true then Max.max (0 : Int) ((300 : Int) - a.k) else Min.min (0 : Int) ((300 : Int) - a.k)) else Min.min a.more (bif Bool.true then Max.max (0 : Int) ((300 : Int) - a.k) else Min.min (0 : Int) ((300 : Int) - a.k))) = Bool.false →
  ∃ (b : Unit), Bool.false = Bool.true ∧
  True ∧
  True)))))))) (by kernel_rfl) (by
  rintro ⟨k, more⟩ _
  dsimp only
  simp only [Nat.zero_add, Int.toNat_natCast, InR, decide_eq_true_eq, decide_eq_false_iff_not]
  refine ⟨(), trivial, fun _ _ => ⟨fun _ => ⟨(), trivial, trivial, trivial⟩, fun c1 => ⟨fun _ => ⟨(), trivial, trivial, trivial⟩, fun c2 => ⟨fun _ => ⟨(), trivial, trivial, trivial⟩, fun c3 => ⟨fun _ => ⟨(), trivial, trivial, trivial⟩, fun c4 => ⟨⟨(0, 0), ?_⟩, fun x hx => ⟨fun d => ?_, fun d => ⟨⟨(0, 0), ?_⟩, fun y hy => ⟨fun e => ?_, fun e => ?_⟩⟩⟩⟩⟩⟩⟩⟩⟩
  · have L0 : (fullL 0).length = 0 := rfl
    ((repeat' apply And.intro) <;> first | with_reducible rfl | omega | (dsimp only; omega) | exact RowsEq.refl _ _ _ | assumption | rfl | trivial | exact Nat.le_refl _ | skip)
  · obtain ⟨n, c⟩ := x
    dsimp only at d hx ⊢
    have hl := full_length n
    have hl1 := full_length (n + 1)
    refine ⟨⟨fullL n, c, [⟨1, 1, 0, 0, (n : Int), 0⟩], 1⟩, ?_⟩
    ((repeat' apply And.intro) <;> first | with_reducible rfl | omega | (dsimp only; omega) | exact RowsEq.refl _ _ _ | assumption | rfl | trivial | exact Nat.le_refl _ | skip)
    · exact .one (by simp) rfl
    · exact (by decide : 1 ≤ 1000)
    · intro m hm
      simp only [List.mem_singleton] at hm
      subst hm
      exact ⟨by dsimp only; decide, by dsimp only; decide, by dsimp only; decide, by dsimp only; decide, by dsimp only; decide, by dsimp only; decide, by dsimp only; decide, by dsimp only; decide, by dsimp only; decide, by dsimp only; omega, by dsimp only; omega, by dsimp only; decide, by dsimp only; decide⟩
    · dsimp only
      rw [full_step]
      refine fun b hb => ⟨fun f => ⟨fun g => (by exfalso; simp at g; omega), fun _ => ⟨by omega, (n + 1, b), ?_⟩⟩, fun f => ⟨fun g => (by exfalso; simp at g; omega), fun _ => ⟨by omega, (n + 1, b), ?_⟩⟩⟩
      · ((repeat' apply And.intro) <;> first | with_reducible rfl | omega | (dsimp only; omega) | exact RowsEq.refl _ _ _ | assumption | rfl | trivial | exact Nat.le_refl _ | skip)
      · ((repeat' apply And.intro) <;> first | with_reducible rfl | omega | (dsimp only; omega) | exact RowsEq.refl _ _ _ | assumption | rfl | trivial | exact Nat.le_refl _ | skip)
  · ((repeat' apply And.intro) <;> first | with_reducible rfl | omega | (dsimp only; omega) | exact RowsEq.refl _ _ _ | assumption | rfl | trivial | exact Nat.le_refl _ | skip)
  · obtain ⟨n, c⟩ := y
    dsimp only at e hy ⊢
    ((repeat' apply And.intro) <;> first | with_reducible rfl | omega | (dsimp only; omega) | exact RowsEq.refl _ _ _ | assumption | rfl | trivial | exact Nat.le_refl _ | skip)
    refine fun c' _ _ _ => ⟨by omega, (n + 1, c'), ?_⟩
    dsimp only
    rw [more_succ]
    ((repeat' apply And.intro) <;> first | with_reducible rfl | omega | (dsimp only; omega) | exact RowsEq.refl _ _ _ | assumption | rfl | trivial | exact Nat.le_refl _ | skip)
    exact .push (more_length n) (by omega) rfl
  · obtain ⟨i, c⟩ := x
    obtain ⟨n, c'⟩ := y
    dsimp only at d e hx hy ⊢
    have hi : (i : Int) = k := by omega
    have hn : (n : Int) = more := by omega
    have hl := full_length i
    have hm := more_length n
    have hs := sent_length (fullL i) (moreL n)
    refine ⟨⟨fullL i, c, moreL n, c'⟩, ?_⟩
    ((repeat' apply And.intro) <;> first | with_reducible rfl | omega | (dsimp only; omega) | exact RowsEq.refl _ _ _ | assumption | rfl | trivial | exact Nat.le_refl _ | skip)
    · intro m hm
      have := List.eq_of_mem_replicate hm
      subst this
      exact ⟨by dsimp only; decide, by dsimp only; decide, by dsimp only; decide, by dsimp only; decide, by dsimp only; decide, by dsimp only; decide, by dsimp only; decide, by dsimp only; decide, by dsimp only; decide, by dsimp only; decide, by dsimp only; decide, by dsimp only; decide, by dsimp only; decide⟩
    · dsimp only
      refine fun b hb => ⟨by omega, fun g => ⟨by omega, (), ?_, trivial, trivial⟩, fun g => ?_⟩
      · simp only [cond_false, beq_iff_eq] at g ⊢
        omega
      · exfalso
        simp only [cond_false, cond_true, beq_eq_false_iff_ne] at g
        omega)

/-! ### NetOrder -/

structure OrdA where
  n : Int
  tn : Nat
  cap : Nat
  rows : Nat → Nat → Value
noncomputable def cOrd : Con where
  α := OrdA
  β := Unit
  m := 1
  m' := 1
  pre := fun a => a.tn ≤ a.cap ∧ a.cap ≤ lenMax
  args := fun a => [.a (.int .i64 a.n), .a (.slc 0 0 1 a.tn a.cap)]
  hp := fun _ => []
  ro := fun a => [(0, .arr 3 [.int .i64] a.tn a.rows)]
  post := fun _ _ => True
  res := fun _ _ => .a .tt
  hp' := fun _ _ => []
def ordL (k : Nat) : List MsgR := (List.range k).map fun (i : Nat) => ⟨9, 1, 2, 0, 0, (i : Int)⟩
theorem ord_length (n : Nat) : (ordL n).length = n := by simp [ordL]
theorem ord_step {n : Nat} (h : n < 300) : sentL (ordL n) [⟨9, 1, 2, 0, 0, (n : Int)⟩] = ordL (n + 1) := by
  have hl := ord_length n
  unfold sentL
  rw [List.take_of_length_le (by simp; omega)]
  unfold ordL
  rw [List.range_succ, List.map_append]
  rfl
structure Ordered (l : List MsgR) : Prop where
  lt : l.Pairwise fun a b => a.sq < b.sq
  ge : ∀ m ∈ l, 0 ≤ m.sq
theorem ord_ordered (n : Nat) : Ordered (ordL n) := by
  refine ⟨?_, fun m hm => ?_⟩
  · unfold ordL
    rw [List.pairwise_map]
    exact List.pairwise_lt_range.imp fun h => by simpa using h
  · obtain ⟨i, _, rfl⟩ := List.mem_map.1 hm
    exact Int.natCast_nonneg i
theorem ord_erase {l : List MsgR} {i : Nat} (h : Ordered l) : Ordered (l.eraseIdx i) :=
  ⟨h.lt.sublist (List.eraseIdx_sublist ..), fun m hm => h.ge m ((List.eraseIdx_sublist ..).subset hm)⟩
def iOrd1 (a : OrdA) : An := .flat 8 (Nat × Nat) (fun s x => (S.net0 s (s.tg 6) (ordL x.1) x.2).int 7 x.1) (fun _ x => (x.1 : Int) ≤ a.n ∧ x.1 ≤ 60 ∧ (ordL x.1).length ≤ x.2) (fun _ x => a.n.toNat - x.1)
structure OrdS where
  l : List MsgR
  cap : Nat
  i : Nat
def iOrd2 (a : OrdA) : An := .flat 12 OrdS (fun s x => (S.net s (s.tg 6) x.l x.cap).int 8 x.i) (fun _ x => x.i ≤ 40 ∧ x.l.length ≤ 60 ∧ x.l.length ≤ x.cap ∧ Ordered x.l) (fun _ x => 40 - x.i)
def cutOrd (a : OrdA) : An := .mk 20 OrdS (fun s x => S.net s (s.tg 6) x.l x.cap) (fun _ x => x.l.length ≤ 60 ∧ x.l.length ≤ x.cap ∧ Ordered x.l) (fun _ _ => 0) fun x => .mk 60 [.flat 22 Nat (fun s i => (s.int 15 i).int 14 (if i = 0 then -1 else (gl x.l (i - 1)).sq)) (fun _ i => i ≤ x.l.length) (fun _ i => x.l.length - i)] []
set_option maxHeartbeats 4000000 in
theorem bodyOrd : fnBody (Y Try.prog) tabNet 7 cOrd fun a => [(7, [iOrd1 a, iOrd2 a], [cutOrd a])] := fnBody.of (p :=
  ∀ (a : OrdA), a.tn ≤ a.cap ∧
  a.cap ≤ lenMax →
  ∃ (a_2 : Unit), True ∧
  ∀ (b : Unit), True →
  (Decidable.decide (a.n < (0 : Int)) = Bool.true →
  ∃ (b : Unit), Bool.true = Bool.true ∧
  True ∧
  True) ∧
  (Decidable.decide (a.n < (0 : Int)) = Bool.false →
  (Decidable.decide ((60 : Int) < a.n) = Bool.true →
  ∃ (b : Unit), Bool.true = Bool.true ∧
  True ∧
  True) ∧
  (Decidable.decide ((60 : Int) < a.n) = Bool.false →
  (∃ (a_6 : Nat × Nat), (0 : Int) = (↑a_6.fst : Int) ∧
  (0 : Nat) = (0 : Nat) ∧
  Decidable.decide ((60 : Int) < a.n) = Decidable.decide ((60 : Int) < a.n) ∧
  Bool.false = Bool.false ∧
  Bool.true = Bool.true ∧
  Bool.false = Bool.false ∧
  a.n = a.n ∧
  ((0 : Nat) = (0 : Nat) ∧
  a.tn = a.tn ∧
  a.cap = a.cap) ∧
  ((0 : Nat) = (ordL a_6.fst).length ∧
  (0 : Nat) = a_6.snd) ∧
  (a.tn ≤ a.tn ∧
  RowsEq a.tn (1 : Nat) a.rows a.rows) ∧
  (ordL a_6.fst).length = (0 : Nat) ∧
  ((↑a_6.fst : Int) ≤ a.n ∧
  a_6.fst ≤ (60 : Nat) ∧
  (ordL a_6.fst).length ≤ a_6.snd) ∧
  True) ∧
  ∀ (a_6 : Nat × Nat), (↑a_6.fst : Int) ≤ a.n ∧
  a_6.fst ≤ (60 : Nat) ∧
  (ordL a_6.fst).length ≤ a_6.snd →
  (Decidable.decide ((↑a_6.fst : Int) < a.n) = Bool.true →
  ∃ (a_9 : SendA), (0 : Nat) = (0 : Nat) ∧
  ((0 : Nat) = (0 : Nat) ∧
  (1 : Nat) = a_9.ms.length ∧
  (1 : Nat) = a_9.mcap) ∧
  ((0 : Nat) = (0 : Nat) ∧
  (ordL a_6.fst).length = a_9.l.length ∧
  a_6.snd = a_9.cap) ∧
  (a_9.l.length ≤ (ordL a_6.fst).length ∧
  RowsEq a_9.l.length (21 : Nat) (encRows encMsg (ordL a_6.fst)) (encRows encMsg a_9.l)) ∧
  (a_9.ms.length ≤ (1 : Nat) ∧
  RowsEq a_9.ms.length (21 : Nat) (flatRows (21 : Nat) [Value.int IntKind.i64 (9 : Int), Value.int IntKind.i64 (1 : Int), Value.int IntKind.i64 (2 : Int), Value.int IntKind.i64 (0 : Int), Value.int IntKind.i64 (0 : Int), Value.int IntKind.i64 (↑a_6.fst : Int), Value.int IntKind.i64 (0 : Int), Value.int IntKind.i64 (0 : Int), Value.int IntKind.i64 (0 : Int), Value.string (ByteArray.mk #[]), Value.int IntKind.i64 (0 : Int), Value.bool Bool.false, Value.string (ByteArray.mk #[]), Value.string (ByteArray.mk #[]), Value.int IntKind.i64 (0 : Int), Value.bool Bool.false, Value.slice Option.none (0 : Nat) (0 : Nat), Value.slice Option.none (0 : Nat) (0 : Nat), Value.slice Option.none (0 : Nat) (0 : Nat), Value.int IntKind.i64 (0 : Int), Value.slice Option.none (0 : Nat) (0 : Nat)]) (encRows encMsg a_9.ms)) ∧
  (a_9.l.length ≤ (300 : Nat) ∧
  a_9.l.length ≤ a_9.cap ∧
  a_9.ms.length ≤ (1000 : Nat) ∧
  ∀ (m : MsgR), m ∈ a_9.ms →
  okM m) ∧
  ∀ (b : Nat), (sentL a_9.l a_9.ms).length ≤ b →
  InR IntKind.i64 ((↑a_6.fst : Int) + (1 : Int)) ∧
  ∃ (a' : Nat × Nat), (↑a_6.fst : Int) + (1 : Int) = (↑a'.fst : Int) ∧
  (0 : Nat) = (0 : Nat) ∧
  Decidable.decide ((60 : Int) < a.n) = Decidable.decide ((60 : Int) < a.n) ∧
  Bool.false = Bool.false ∧
  Bool.true = Bool.true ∧
  Bool.false = Bool.false ∧
  a.n = a.n ∧
  ((0 : Nat) = (0 : Nat) ∧
  a.tn = a.tn ∧
  a.cap = a.cap) ∧
  ((0 : Nat) = (0 : Nat) ∧
  (sentL a_9.l a_9.ms).length = (ordL a'.fst).length ∧
  b = a'.snd) ∧
  (a.tn ≤ a.tn ∧
  RowsEq a.tn (1 : Nat) a.rows a.rows) ∧
  ((ordL a'.fst).length ≤ (sentL a_9.l a_9.ms).length ∧
  RowsEq (ordL a'.fst).length (21 : Nat) (encRows encMsg (sentL a_9.l a_9.ms)) (encRows encMsg (ordL a'.fst))) ∧
  ((↑a'.fst : Int) ≤ a.n ∧
  a'.fst ≤ (60 : Nat) ∧
  (ordL a'.fst).length ≤ a'.snd) ∧
  a.n.toNat - a'.fst < a.n.toNat - a_6.fst) ∧
  (Decidable.decide ((↑a_6.fst : Int) < a.n) = Bool.false →
  ((∃ (a_9 : OrdS), (0 : Int) = (↑a_9.i : Int) ∧
  Decidable.decide ((↑a_6.fst : Int) < a.n) = Decidable.decide ((↑a_6.fst : Int) < a.n) ∧
  (↑a_6.fst : Int) = (↑a_6.fst : Int) ∧
  (0 : Nat) = (0 : Nat) ∧
  Decidable.decide ((60 : Int) < a.n) = Decidable.decide ((60 : Int) < a.n) ∧
  Bool.false = Bool.false ∧
  Bool.true = Bool.true ∧
  Bool.false = Bool.false ∧
  a.n = a.n ∧
  ((0 : Nat) = (0 : Nat) ∧
  a.tn = a.tn ∧
  a.cap = a.cap) ∧
  ((0 : Nat) = (0 : Nat) ∧
  (ordL a_6.fst).length = a_9.l.length ∧
  a_6.snd = a_9.cap) ∧
  (a.tn ≤ a.tn ∧
  RowsEq a.tn (1 : Nat) a.rows a.rows) ∧
  (a_9.l.length ≤ (ordL a_6.fst).length ∧
  RowsEq a_9.l.length (21 : Nat) (encRows encMsg (ordL a_6.fst)) (encRows encMsg a_9.l)) ∧
  (a_9.i ≤ (40 : Nat) ∧
  a_9.l.length ≤ (60 : Nat) ∧
  a_9.l.length ≤ a_9.cap ∧
  Ordered a_9.l) ∧
  True) ∧
  ∀ (a_9 : OrdS), a_9.i ≤ (40 : Nat) ∧
  a_9.l.length ≤ (60 : Nat) ∧
  a_9.l.length ≤ a_9.cap ∧
  Ordered a_9.l →
  (Decidable.decide ((↑a_9.i : Int) < (↑a.tn : Int)) = Bool.true →
  (Decidable.decide ((↑a_9.i : Int) < (40 : Int)) = Bool.true →
  (((↑a_9.l.length : Int) == (0 : Int)) = Bool.true →
  ∃ (a_14 : OrdS), Decidable.decide ((↑a_6.fst : Int) < a.n) = Decidable.decide ((↑a_6.fst : Int) < a.n) ∧
  (↑a_6.fst : Int) = (↑a_6.fst : Int) ∧
  (0 : Nat) = (0 : Nat) ∧
  Decidable.decide ((60 : Int) < a.n) = Decidable.decide ((60 : Int) < a.n) ∧
  Bool.false = Bool.false ∧
  Bool.true = Bool.true ∧
  Bool.false = Bool.false ∧
  a.n = a.n ∧
  ((0 : Nat) = (0 : Nat) ∧
  a.tn = a.tn ∧
  a.cap = a.cap) ∧
  ((0 : Nat) = (0 : Nat) ∧
  a_9.l.length = a_14.l.length ∧
  a_9.cap = a_14.cap) ∧
  (a.tn ≤ a.tn ∧
  RowsEq a.tn (1 : Nat) a.rows a.rows) ∧
  (a_14.l.length ≤ a_9.l.length ∧
  RowsEq a_14.l.length (21 : Nat) (encRows encMsg a_9.l) (encRows encMsg a_14.l)) ∧
  (a_14.l.length ≤ (60 : Nat) ∧
  a_14.l.length ≤ a_14.cap ∧
  Ordered a_14.l) ∧
  True) ∧
  (((↑a_9.l.length : Int) == (0 : Int)) = Bool.false →
  ((0 : Int) ≤ (↑a_9.i : Int) ∧
  (↑a_9.i : Int) < (↑a.tn : Int)) ∧
  (0 : Nat) + (↑a_9.i : Int).toNat < a.tn ∧
  (InR IntKind.i64 (toI (a.rows ((0 : Nat) + (↑a_9.i : Int).toNat) (0 : Nat))) →
  (↑a_9.l.length : Int) ≠ (0 : Int) ∧
  InR IntKind.i64 ((toI (a.rows ((0 : Nat) + (↑a_9.i : Int).toNat) (0 : Nat))).tmod (↑a_9.l.length : Int) + (↑a_9.l.length : Int)) ∧
  (↑a_9.l.length : Int) ≠ (0 : Int) ∧
  ∃ (a_15 : LookA), (0 : Nat) = (0 : Nat) ∧
  ((toI (a.rows ((0 : Nat) + (↑a_9.i : Int).toNat) (0 : Nat))).tmod (↑a_9.l.length : Int) + (↑a_9.l.length : Int)).tmod (↑a_9.l.length : Int) = a_15.i ∧
  ((0 : Nat) = (0 : Nat) ∧
  a_9.l.length = a_15.l.length ∧
  a_9.cap = a_15.cap) ∧
  (a_15.l.length ≤ a_9.l.length ∧
  RowsEq a_15.l.length (21 : Nat) (encRows encMsg a_9.l) (encRows encMsg a_15.l)) ∧
  a_15.l.length ≤ (300 : Nat) ∧
  ∀ (b : Unit), True →
  ∃ (a_17 : LookA), (0 : Nat) = (0 : Nat) ∧
  ((toI (a.rows ((0 : Nat) + (↑a_9.i : Int).toNat) (0 : Nat))).tmod (↑a_9.l.length : Int) + (↑a_9.l.length : Int)).tmod (↑a_9.l.length : Int) = a_17.i ∧
  ((0 : Nat) = (0 : Nat) ∧
  a_9.l.length = a_17.l.length ∧
  a_9.cap = a_17.cap) ∧
  (a_17.l.length ≤ a_9.l.length ∧
  RowsEq a_17.l.length (21 : Nat) (encRows encMsg a_9.l) (encRows encMsg a_17.l)) ∧
  (a_17.l.length ≤ (300 : Nat) ∧
  a_17.l.length ≤ a_17.cap) ∧
  ∀ (b : Nat), (dropM a_17.l a_17.i).length ≤ b →
  ((!lookB a_17.l a_17.i) = Bool.true →
  ∃ (b : Unit), Bool.false = Bool.true ∧
  True ∧
  True) ∧
  ((!lookB a_17.l a_17.i) = Bool.false →
  InR IntKind.i64 (lookM a_15.l a_15.i).sq →
  InR IntKind.i64 (lookM a_17.l a_17.i).sq →
  (((lookM a_15.l a_15.i).sq != (lookM a_17.l a_17.i).sq) = Bool.true →
  ∃ (b : Unit), Bool.false = Bool.true ∧
  True ∧
  True) ∧
  (((lookM a_15.l a_15.i).sq != (lookM a_17.l a_17.i).sq) = Bool.false →
  InR IntKind.i64 ((↑a_9.i : Int) + (1 : Int)) ∧
  ∃ (a' : OrdS), (↑a_9.i : Int) + (1 : Int) = (↑a'.i : Int) ∧
  Decidable.decide ((↑a_6.fst : Int) < a.n) = Decidable.decide ((↑a_6.fst : Int) < a.n) ∧
  (↑a_6.fst : Int) = (↑a_6.fst : Int) ∧
  (0 : Nat) = (0 : Nat) ∧
  Decidable.decide ((60 : Int) < a.n) = Decidable.decide ((60 : Int) < a.n) ∧
  Bool.false = Bool.false ∧
  Bool.true = Bool.true ∧
  Bool.false = Bool.false ∧
  a.n = a.n ∧
  ((0 : Nat) = (0 : Nat) ∧
  a.tn = a.tn ∧
  a.cap = a.cap) ∧
  ((0 : Nat) = (0 : Nat) ∧
  (dropM a_17.l a_17.i).length = a'.l.length ∧
  b = a'.cap) ∧
  (a.tn ≤ a.tn ∧
  RowsEq a.tn (1 : Nat) a.rows a.rows) ∧
  (a'.l.length ≤ (dropM a_17.l a_17.i).length ∧
  RowsEq a'.l.length (21 : Nat) (encRows encMsg (dropM a_17.l a_17.i)) (encRows encMsg a'.l)) ∧
  (a'.i ≤ (40 : Nat) ∧
  a'.l.length ≤ (60 : Nat) ∧
  a'.l.length ≤ a'.cap ∧
  Ordered a'.l) ∧
  (40 : Nat) - a'.i < (40 : Nat) - a_9.i))))) ∧
  (Decidable.decide ((↑a_9.i : Int) < (40 : Int)) = Bool.false →
  ∃ (a_13 : OrdS), Decidable.decide ((↑a_6.fst : Int) < a.n) = Decidable.decide ((↑a_6.fst : Int) < a.n) ∧
  (↑a_6.fst : Int) = (↑a_6.fst : Int) ∧
  (0 : Nat) = (0 : Nat) ∧
  Decidable.decide ((60 : Int) < a.n) = Decidable.decide ((60 : Int) < a.n) ∧
  Bool.false = Bool.false ∧
  Bool.true = Bool.true ∧
  Bool.false = Bool.false ∧
  a.n = a.n ∧
  ((0 : Nat) = (0 : Nat) ∧
  a.tn = a.tn ∧
  a.cap = a.cap) ∧
  ((0 : Nat) = (0 : Nat) ∧
  a_9.l.length = a_13.l.length ∧
  a_9.cap = a_13.cap) ∧
  (a.tn ≤ a.tn ∧
  RowsEq a.tn (1 : Nat) a.rows a.rows) ∧
  (a_13.l.length ≤ a_9.l.length ∧
  RowsEq a_13.l.length (21 : Nat) (encRows encMsg a_9.l) (encRows encMsg a_13.l)) ∧
  (a_13.l.length ≤ (60 : Nat) ∧
  a_13.l.length ≤ a_13.cap ∧
  Ordered a_13.l) ∧
  True)) ∧
  (Decidable.decide ((↑a_9.i : Int) < (↑a.tn : Int)) = Bool.false →
  ∃ (a_12 : OrdS), Decidable.decide ((↑a_6.fst : Int) < a.n) = Decidable.decide ((↑a_6.fst : Int) < a.n) ∧
  (↑a_6.fst : Int) = (↑a_6.fst : Int) ∧
  (0 : Nat) = (0 : Nat) ∧
  Decidable.decide ((60 : Int) < a.n) = Decidable.decide ((60 : Int) < a.n) ∧
  Bool.false = Bool.false ∧
  Bool.true = Bool.true ∧
  Bool.false = Bool.false ∧
  a.n = a.n ∧
  ((0 : Nat) = (0 : Nat) ∧
  a.tn = a.tn ∧
  a.cap = a.cap) ∧
  ((0 : Nat) = (0 : Nat) ∧
  a_9.l.length = a_12.l.length ∧
  a_9.cap = a_12.cap) ∧
  (a.tn ≤ a.tn ∧
  RowsEq a.tn (1 : Nat) a.rows a.rows) ∧
  (a_12.l.length ≤ a_9.l.length ∧
  RowsEq a_12.l.length (21 : Nat) (encRows encMsg a_9.l) (encRows encMsg a_12.l)) ∧
  (a_12.l.length ≤ (60 : Nat) ∧
  a_12.l.length ≤ a_12.cap ∧
  Ordered a_12.l) ∧
  True)) ∧
  ∀ (a_9 : OrdS), a_9.l.length ≤ (60 : Nat) ∧
  a_9.l.length ≤ a_9.cap ∧
  Ordered a_9.l →
  (∃ (a_11 : Nat), ((-1 : Int) = if a_11 = (0 : Nat) then (-1 : Int) else (gl a_9.l (a_11 - (1 : Nat))).sq) ∧
  (0 : Int) = (↑a_11 : Int) ∧
  Decidable.decide ((↑a_6.fst : Int) < a.n) = Decidable.decide ((↑a_6.fst : Int) < a.n) ∧
  (↑a_6.fst : Int) = (↑a_6.fst : Int) ∧
  (0 : Nat) = (0 : Nat) ∧
  Decidable.decide ((60 : Int) < a.n) = Decidable.decide ((60 : Int) < a.n) ∧
  Bool.false = Bool.false ∧
  Bool.true = Bool.true ∧
  Bool.false = Bool.false ∧
  a.n = a.n ∧
  ((0 : Nat) = (0 : Nat) ∧
  a.tn = a.tn ∧
  a.cap = a.cap) ∧
  ((0 : Nat) = (0 : Nat) ∧
  a_9.l.length = a_9.l.length ∧
  a_9.cap = a_9.cap) ∧
  (a.tn ≤ a.tn ∧
  RowsEq a.tn (1 : Nat) a.rows a.rows) ∧
  (a_9.l.length ≤ a_9.l.length ∧
  RowsEq a_9.l.length (21 : Nat) (encRows encMsg a_9.l) (encRows encMsg a_9.l)) ∧
  a_11 ≤ a_9.l.length ∧
  True) ∧
  ∀ (a_11 : Nat), a_11 ≤ a_9.l.length →
  (Decidable.decide ((↑a_11 : Int) < (↑a_9.l.length : Int)) = Bool.true →
  ∃ (a_14 : LookA), (0 : Nat) = (0 : Nat) ∧
  (↑a_11 : Int) = a_14.i ∧
  ((0 : Nat) = (0 : Nat) ∧
  a_9.l.length = a_14.l.length ∧
  a_9.cap = a_14.cap) ∧
  (a_14.l.length ≤ a_9.l.length ∧
  RowsEq a_14.l.length (21 : Nat) (encRows encMsg a_9.l) (encRows encMsg a_14.l)) ∧
  a_14.l.length ≤ (300 : Nat) ∧
  ∀ (b : Unit), True →
  ((!lookB a_14.l a_14.i) = Bool.true →
  ∃ (b : Unit), Bool.false = Bool.true ∧
  True ∧
  True) ∧
  ((!lookB a_14.l a_14.i) = Bool.false →
  InR IntKind.i64 (lookM a_14.l a_14.i).sq →
  (Decidable.decide ((lookM a_14.l a_14.i).sq ≤ if a_11 = (0 : Nat) then (-1 : Int) else (gl a_9.l (a_11 - (1 : Nat))).sq) = Bool.true →
  ∃ (b : Unit), Bool.false = Bool.true ∧
  True ∧
  True) ∧
  (Decidable.decide ((lookM a_14.l a_14.i).sq ≤ if a_11 = (0 : Nat) then (-1 : Int) else (gl a_9.l (a_11 - (1 : Nat))).sq) = Bool.false →
  InR IntKind.i64 (lookM a_14.l a_14.i).sq →
  InR IntKind.i64 ((↑a_11 : Int) + (1 : Int)) ∧
  ∃ (a' : Nat), ((lookM a_14.l a_14.i).sq = if a' = (0 : Nat) then (-1 : Int) else (gl a_9.l (a' - (1 : Nat))).sq) ∧
  (↑a_11 : Int) + (1 : Int) = (↑a' : Int) ∧
  Decidable.decide ((↑a_6.fst : Int) < a.n) = Decidable.decide ((↑a_6.fst : Int) < a.n) ∧
  (↑a_6.fst : Int) = (↑a_6.fst : Int) ∧
  (0 : Nat) = (0 : Nat) ∧
  Decidable.decide ((60 : Int) < a.n) = Decidable.decide ((60 : Int) < a.n) ∧
  Bool.false = Bool.false ∧
  Bool.true = Bool.true ∧
  Bool.false = Bool.false ∧
  a.n = a.n ∧
  ((0 : Nat) = (0 : Nat) ∧
  a.tn = a.tn ∧
  a.cap = a.cap) ∧
  ((0 : Nat) = (0 : Nat) ∧
  a_9.l.length = a_9.l.length ∧
  a_9.cap = a_9.cap) ∧
  (a.tn ≤ a.tn ∧
  RowsEq a.tn (1 : Nat) a.rows a.rows) ∧
  (a_9.l.length ≤ a_9.l.length ∧
  RowsEq a_9.l.length (21 : Nat) (encRows encMsg a_9.l) (encRows encMsg a_9.l)) ∧
  a' ≤ a_9.l.length ∧
  a_9.l.length - a' < a_9.l.length - a_11))) ∧
  (Decidable.decide ((↑a_11 : Int) < (↑a_9.l.length : Int)) = Bool.false →
  ∃ (b : Unit), Bool.true = Bool.true ∧
  True ∧
  True))))) (by kernel_rfl) (by
  rintro ⟨n, tn, tcap, rows⟩ ⟨h1, h2⟩
  dsimp only at h1 h2 ⊢
  simp only [Nat.zero_add, Int.toNat_natCast, InR, decide_eq_true_eq, decide_eq_false_iff_not]
  refine ⟨(), trivial, fun _ _ => ⟨fun _ => ⟨(), trivial, trivial, trivial⟩, fun c1 => ⟨fun _ => ⟨(), trivial, trivial, trivial⟩, fun c2 => ⟨⟨(0, 0), ?_⟩, fun x hx => ⟨fun d => ?_, fun d => ?_⟩⟩⟩⟩⟩
  · have L0 : (ordL 0).length = 0 := rfl
    ((repeat' apply And.intro) <;> first | with_reducible rfl | omega | (dsimp only; omega) | exact RowsEq.refl _ _ _ | assumption | rfl | trivial | exact Nat.le_refl _ | skip)
  · obtain ⟨n, c⟩ := x
    dsimp only at d hx ⊢
    have hl := ord_length n
    have hl1 := ord_length (n + 1)
    refine ⟨⟨ordL n, c, [⟨9, 1, 2, 0, 0, (n : Int)⟩], 1⟩, ?_⟩
    ((repeat' apply And.intro) <;> first | with_reducible rfl | omega | (dsimp only; omega) | exact RowsEq.refl _ _ _ | assumption | rfl | trivial | exact Nat.le_refl _ | skip)
    · exact .one (by simp) rfl
    · exact (by decide : 1 ≤ 1000)
    · intro m hm
      simp only [List.mem_singleton] at hm
      subst hm
      exact ⟨by dsimp only; decide, by dsimp only; decide, by dsimp only; decide, by dsimp only; decide, by dsimp only; decide, by dsimp only; decide, by dsimp only; decide, by dsimp only; decide, by dsimp only; decide, by dsimp only; decide, by dsimp only; decide, by dsimp only; omega, by dsimp only; omega⟩
    · dsimp only
      rw [ord_step (n := n) (by omega)]
      refine fun b hb => ⟨by omega, (n + 1, b), ?_⟩
      ((repeat' apply And.intro) <;> first | with_reducible rfl | omega | (dsimp only; omega) | exact RowsEq.refl _ _ _ | assumption | rfl | trivial | exact Nat.le_refl _ | skip)
  · obtain ⟨n', c⟩ := x
    dsimp only at d hx ⊢
    have hl := ord_length n'
    refine ⟨⟨⟨⟨ordL n', c, 0⟩, ?_⟩, fun y hy => ⟨fun e => ⟨fun f => ⟨fun g => ⟨y, ?_⟩, fun g => ?_⟩, fun f => ⟨y, ?_⟩⟩, fun e => ⟨y, ?_⟩⟩⟩, fun y hy => ⟨⟨0, ?_⟩, fun i hi => ⟨fun e => ?_, fun _ => ⟨(), trivial, trivial, trivial⟩⟩⟩⟩
    · ((repeat' apply And.intro) <;> first | with_reducible rfl | omega | (dsimp only; omega) | exact RowsEq.refl _ _ _ | assumption | rfl | trivial | exact Nat.le_refl _ | skip)
      exact ord_ordered n'
    · obtain ⟨y1, y2, y3, y4⟩ := hy
      ((repeat' apply And.intro) <;> first | with_reducible rfl | omega | (dsimp only; omega) | exact RowsEq.refl _ _ _ | assumption | rfl | trivial | exact Nat.le_refl _ | skip)
    · obtain ⟨l, c, i⟩ := y
      obtain ⟨y1, y2, y3, y4⟩ := hy
      dsimp only at e f g y1 y2 y3 y4 ⊢
      simp only [beq_eq_false_iff_ne] at g
      have hl0 : (0 : Int) < l.length := by omega
      generalize toI (rows i 0) = v
      have z1 := Int.tmod_lt_of_pos v hl0
      have z2 := Int.lt_tmod_of_pos v hl0
      have z3 : 0 ≤ (v.tmod l.length + l.length).tmod l.length ∧ (v.tmod l.length + l.length).tmod l.length < l.length := by
        rw [Int.tmod_eq_emod_of_nonneg (by omega)]
        exact ⟨Int.emod_nonneg _ (by omega), Int.emod_lt_of_pos _ hl0⟩
      refine ⟨by omega, by omega, fun _ => ⟨by omega, by omega, by omega, ⟨l, c, (v.tmod l.length + l.length).tmod l.length⟩, ?_⟩⟩
      generalize (v.tmod l.length + l.length).tmod l.length = q at *
      ((repeat' apply And.intro) <;> first | with_reducible rfl | omega | (dsimp only; omega) | exact RowsEq.refl _ _ _ | assumption | rfl | trivial | exact Nat.le_refl _ | skip)
      refine fun _ _ => ⟨⟨l, c, q⟩, ?_⟩
      ((repeat' apply And.intro) <;> first | with_reducible rfl | omega | (dsimp only; omega) | exact RowsEq.refl _ _ _ | assumption | rfl | trivial | exact Nat.le_refl _ | skip)
      have hb : lookB l q = true := by simp [lookB]; omega
      have hq : q.toNat < l.length := by omega
      have he : (dropM l q) = l.eraseIdx q.toNat := by simp [dropM, hb]
      have hel : (l.eraseIdx q.toNat).length = l.length - 1 := by rw [List.length_eraseIdx]; simp [hq]
      dsimp only
      rw [hb, he]
      refine fun b hb' => ⟨fun g => (by simp at g), fun _ _ _ => ⟨fun g => (by simp at g), fun _ => ⟨by omega, ⟨l.eraseIdx q.toNat, b, i + 1⟩, ?_⟩⟩⟩
      ((repeat' apply And.intro) <;> first | with_reducible rfl | omega | (dsimp only; omega) | exact RowsEq.refl _ _ _ | assumption | rfl | trivial | exact Nat.le_refl _ | skip)
      exact ord_erase y4
    · obtain ⟨y1, y2, y3, y4⟩ := hy
      ((repeat' apply And.intro) <;> first | with_reducible rfl | omega | (dsimp only; omega) | exact RowsEq.refl _ _ _ | assumption | rfl | trivial | exact Nat.le_refl _ | skip)
    · obtain ⟨y1, y2, y3, y4⟩ := hy
      ((repeat' apply And.intro) <;> first | with_reducible rfl | omega | (dsimp only; omega) | exact RowsEq.refl _ _ _ | assumption | rfl | trivial | exact Nat.le_refl _ | skip)
    · ((repeat' apply And.intro) <;> first | with_reducible rfl | omega | (dsimp only; omega) | exact RowsEq.refl _ _ _ | assumption | rfl | trivial | exact Nat.le_refl _ | skip)
    · obtain ⟨l, c, _⟩ := y
      obtain ⟨y2, y3, y4⟩ := hy
      dsimp only at e hi y2 y3 y4 ⊢
      have hi : i < l.length := by omega
      have hb : lookB l (i : Int) = true := by simp [lookB]; omega
      have hm : lookM l (i : Int) = gl l i := by simp [lookM, hb]
      refine ⟨⟨l, c, (i : Int)⟩, ?_⟩
      ((repeat' apply And.intro) <;> first | with_reducible rfl | omega | (dsimp only; omega) | exact RowsEq.refl _ _ _ | assumption | rfl | trivial | exact Nat.le_refl _ | skip)
      dsimp only
      rw [hb, hm]
      have hlt : (if i = 0 then (-1 : Int) else (gl l (i - 1)).sq) < (gl l i).sq := by
        split
        · have := y4.ge _ (gl_mem hi); omega
        · have := List.pairwise_iff_getElem.1 y4.lt (i - 1) i (by omega) hi (by omega)
          rw [gl_eq hi, gl_eq (show i - 1 < l.length by omega)]
          exact this
      refine fun _ _ => ⟨fun g => (by simp at g), fun _ _ => ⟨fun g => absurd hlt (by omega), fun _ _ => ⟨by omega, i + 1, ?_⟩⟩⟩
      ((repeat' apply And.intro) <;> first | with_reducible rfl | omega | (dsimp only; omega) | exact RowsEq.refl _ _ _ | assumption | rfl | trivial | exact Nat.le_refl _ | skip))

theorem instFull : ∀ ads, okADs [.int .i64, .int .i64] ads → ∃ a : FullA, cFull.pre a ∧ cFull.args a = svs 0 ads ∧ cFull.ro a = chs 0 [.int .i64, .int .i64] ads ∧ cFull.m = slcs ads := by
  rintro ads ⟨_, _, rfl, ⟨a, rfl, _⟩, _, _, rfl, ⟨b, rfl, _⟩, rfl⟩
  exact ⟨⟨a, b⟩, trivial, rfl, rfl, rfl⟩
theorem instOrd : ∀ ads, okADs [.int .i64, .slc 3 [.int .i64]] ads → ∃ a : OrdA, cOrd.pre a ∧ cOrd.args a = svs 0 ads ∧ cOrd.ro a = chs 0 [.int .i64, .slc 3 [.int .i64]] ads ∧ cOrd.m = slcs ads := by
  rintro ads ⟨_, _, rfl, ⟨a, rfl, _⟩, d, r, rfl, ⟨n, cap, rows, rfl, h1, h2, h3⟩, rfl⟩
  exact ⟨⟨a, n, cap, rows⟩, ⟨h1, h2⟩, rfl, rfl, rfl⟩
end Go.Proofs.Ythgnaehfepcblaa
