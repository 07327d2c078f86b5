/-
  The statement IndexKeys' function; no condition.
-/
import Derived.Test.YtfpgkgelgpandaaTexts
namespace Go.Proofs.Ytfpgkgelgpandaa
open Go.Sx
set_option maxRecDepth 100000
set_option linter.unusedVariables false

structure StrA where
  a : ByteArray
  b : ByteArray
noncomputable def cIKeys : Con where
  α := StrA
  β := Unit
  m := 0
  m' := 0
  pre := fun a => a.a.size ≤ lenMax ∧ a.b.size ≤ lenMax
  args := fun a => [.a (.str a.a), .a (.str a.b)]
  hp := fun _ => []
  ro := fun _ => []
  post := fun _ _ => True
  res := fun _ _ => .a .tt
  hp' := fun _ _ => []
noncomputable def tabKeys : List (Nat × Con) := (16, cCut) :: (19, cKeys) :: tabIdx
theorem tabKeys_ok : TabOk (Y Try.prog).G.X tabKeys := ⟨callCut, callKeys, tabIdx_ok⟩
theorem cutB_size {s : ByteArray} {n : Int} (h : s.size ≤ lenMax) : (cutB s n).size ≤ lenMax := by
  unfold cutB
  split
  · rw [ByteArray.size_extract]; omega
  · exact h
set_option maxHeartbeats 4000000 in
theorem bodyIKeys : fnBody (Y Try.prog) tabKeys 7 cIKeys fun _ => [] := fnBody.of (p :=
  ∀ (a : StrA), a.a.size ≤ lenMax ∧
  a.b.size ≤ lenMax →
  ∃ (a_2 : Unit), True ∧
  ∀ (b : Unit), True →
  ∃ (a_4 : ByteArray × Int), a.a = a_4.fst ∧
  (40 : Int) = a_4.snd ∧
  (0 : Int) ≤ a_4.snd ∧
  ∀ (b : Unit), True →
  ∃ (a_6 : ByteArray × Int), a.b = a_6.fst ∧
  (40 : Int) = a_6.snd ∧
  (0 : Int) ≤ a_6.snd ∧
  ∀ (b : Unit), True →
  (0 : Int) ≤ (16 : Int) ∧
  (16 : Int) ≤ (16 : Int) ∧
  (512 : Int) ≤ (281474976710656 : Int) ∧
  ∃ (a : PutA), (0 : Nat) = (0 : Nat) ∧
  cutB a_4.fst a_4.snd = a.key ∧
  (1 : Int) = a.pos ∧
  ((0 : Nat) = (0 : Nat) ∧
  (16 : Nat) = a.x.t.length ∧
  (16 : Nat) = a.cap) ∧
  (0 : Int) = (↑a.x.n : Int) ∧
  (0 : Int) = (↑a.x.used : Int) ∧
  (a.x.t.length ≤ (16 : Nat) ∧
  RowsEq a.x.t.length (4 : Nat) (fun (x j : Nat) => [Value.string { data := #[] }, Value.int IntKind.i64 (0 : Int), Value.bool Bool.false, Value.bool Bool.false].getD j (Value.tuple #[])) (encRows encP a.x.t)) ∧
  (Inv a.x ∧
  a.x.n < (9999 : Nat) ∧
  a.key.size ≤ lenMax) ∧
  ∀ (b : Nat), True →
  ∃ (a_8 : PutA), (0 : Nat) = (0 : Nat) ∧
  cutB a_6.fst a_6.snd = a_8.key ∧
  (2 : Int) = a_8.pos ∧
  ((0 : Nat) = (0 : Nat) ∧
  (putX a.x a.key a.pos).t.length = a_8.x.t.length ∧
  b = a_8.cap) ∧
  (↑(putX a.x a.key a.pos).n : Int) = (↑a_8.x.n : Int) ∧
  (↑(putX a.x a.key a.pos).used : Int) = (↑a_8.x.used : Int) ∧
  (a_8.x.t.length ≤ (putX a.x a.key a.pos).t.length ∧
  RowsEq a_8.x.t.length (4 : Nat) (encRows encP (putX a.x a.key a.pos).t) (encRows encP a_8.x.t)) ∧
  (Inv a_8.x ∧
  a_8.x.n < (9999 : Nat) ∧
  a_8.key.size ≤ lenMax) ∧
  ∀ (b : Nat), True →
  ∃ (a : KeyA), (0 : Nat) = (0 : Nat) ∧
  cutB a_4.fst a_4.snd = a.key ∧
  ((0 : Nat) = (0 : Nat) ∧
  (putX a_8.x a_8.key a_8.pos).t.length = a.x.t.length ∧
  b = a.cap) ∧
  (↑(putX a_8.x a_8.key a_8.pos).n : Int) = (↑a.x.n : Int) ∧
  (↑(putX a_8.x a_8.key a_8.pos).used : Int) = (↑a.x.used : Int) ∧
  (a.x.t.length ≤ (putX a_8.x a_8.key a_8.pos).t.length ∧
  RowsEq a.x.t.length (4 : Nat) (encRows encP (putX a_8.x a_8.key a_8.pos).t) (encRows encP a.x.t)) ∧
  (Inv a.x ∧
  a.key.size ≤ lenMax) ∧
  ∀ (b_1 : Unit), True →
  (Decidable.decide (cutB a_4.fst a_4.snd = cutB a_6.fst a_6.snd) = Bool.true →
  ((putRet (roomy a_8.x) a_8.key == (1 : Int)) = Bool.true →
  (((getI a.x a.key).fst == (2 : Int)) = Bool.true →
  ((getI a.x a.key).snd = Bool.true →
  InR IntKind.i64 (↑(putX a_8.x a_8.key a_8.pos).n : Int) →
  ∃ (b : Unit), ((↑(putX a_8.x a_8.key a_8.pos).n : Int) == (1 : Int)) = Bool.true ∧
  True ∧
  True) ∧
  ((getI a.x a.key).snd = Bool.false →
  ∃ (b : Unit), Bool.false = Bool.true ∧
  True ∧
  True)) ∧
  (((getI a.x a.key).fst == (2 : Int)) = Bool.false →
  ∃ (b : Unit), Bool.false = Bool.true ∧
  True ∧
  True)) ∧
  ((putRet (roomy a_8.x) a_8.key == (1 : Int)) = Bool.false →
  ∃ (b : Unit), Bool.false = Bool.true ∧
  True ∧
  True)) ∧
  (Decidable.decide (cutB a_4.fst a_4.snd = cutB a_6.fst a_6.snd) = Bool.false →
  ∃ (a_11 : KeyA), (0 : Nat) = (0 : Nat) ∧
  ((0 : Nat) = (0 : Nat) ∧
  (putX a_8.x a_8.key a_8.pos).t.length = a_11.x.t.length ∧
  b = a_11.cap) ∧
  (↑(putX a_8.x a_8.key a_8.pos).n : Int) = (↑a_11.x.n : Int) ∧
  (↑(putX a_8.x a_8.key a_8.pos).used : Int) = (↑a_11.x.used : Int) ∧
  (a_11.x.t.length ≤ (putX a_8.x a_8.key a_8.pos).t.length ∧
  RowsEq a_11.x.t.length (4 : Nat) (encRows encP (putX a_8.x a_8.key a_8.pos).t) (encRows encP a_11.x.t)) ∧
  a_11.x.t.length < (100000 : Nat) ∧
  ∀ (b_2 : Nat), True →
  ((putRet (roomy a_8.x) a_8.key == (0 : Int)) = Bool.true →
  (((getI a.x a.key).fst == (1 : Int)) = Bool.true →
  ((getI a.x a.key).snd = Bool.true →
  InR IntKind.i64 (↑(putX a_8.x a_8.key a_8.pos).n : Int) →
  (((↑(putX a_8.x a_8.key a_8.pos).n : Int) == (2 : Int)) = Bool.true →
  (((↑(keysOf a_11.x.t).length : Int) == (2 : Int)) = Bool.true →
  ((0 : Int) ≤ (0 : Int) ∧
  (0 : Int) < (↑(keysOf a_11.x.t).length : Int)) ∧
  (0 : Nat) < (keysOf a_11.x.t).length ∧
  ((0 : Int) ≤ (1 : Int) ∧
  (1 : Int) < (↑(keysOf a_11.x.t).length : Int)) ∧
  (1 : Nat) < (keysOf a_11.x.t).length ∧
  (Go.Op.bytesLess (gl (sortB (keysOf a_11.x.t)) (0 : Nat)).toList (gl (sortB (keysOf a_11.x.t)) (1 : Nat)).toList = Bool.true →
  ∃ (a : KeyA), (0 : Nat) = (0 : Nat) ∧
  cutB a_6.fst a_6.snd = a.key ∧
  ((0 : Nat) = (0 : Nat) ∧
  (putX a_8.x a_8.key a_8.pos).t.length = a.x.t.length ∧
  b = a.cap) ∧
  (↑(putX a_8.x a_8.key a_8.pos).n : Int) = (↑a.x.n : Int) ∧
  (↑(putX a_8.x a_8.key a_8.pos).used : Int) = (↑a.x.used : Int) ∧
  (a.x.t.length ≤ (putX a_8.x a_8.key a_8.pos).t.length ∧
  RowsEq a.x.t.length (4 : Nat) (encRows encP (putX a_8.x a_8.key a_8.pos).t) (encRows encP a.x.t)) ∧
  (Inv a.x ∧
  a.x.n < (10000 : Nat) ∧
  a.key.size ≤ lenMax ∧
  ((0 : Int) ≤ (findP a.x.t a.key).fst →
  (1 : Nat) ≤ a.x.n)) ∧
  ∀ (b : Unit), True →
  (Decidable.decide ((0 : Int) ≤ (findP a.x.t a.key).fst) = Bool.true →
  InR IntKind.i64 (↑(dropI a.x a.key).n : Int) →
  ∃ (b : Unit), ((↑(dropI a.x a.key).n : Int) == (1 : Int)) = Bool.true ∧
  True ∧
  True) ∧
  (Decidable.decide ((0 : Int) ≤ (findP a.x.t a.key).fst) = Bool.false →
  ∃ (b : Unit), Bool.false = Bool.true ∧
  True ∧
  True)) ∧
  (Go.Op.bytesLess (gl (sortB (keysOf a_11.x.t)) (0 : Nat)).toList (gl (sortB (keysOf a_11.x.t)) (1 : Nat)).toList = Bool.false →
  ∃ (b : Unit), Bool.false = Bool.true ∧
  True ∧
  True)) ∧
  (((↑(keysOf a_11.x.t).length : Int) == (2 : Int)) = Bool.false →
  ∃ (b : Unit), Bool.false = Bool.true ∧
  True ∧
  True)) ∧
  (((↑(putX a_8.x a_8.key a_8.pos).n : Int) == (2 : Int)) = Bool.false →
  ∃ (b : Unit), Bool.false = Bool.true ∧
  True ∧
  True)) ∧
  ((getI a.x a.key).snd = Bool.false →
  ∃ (b : Unit), Bool.false = Bool.true ∧
  True ∧
  True)) ∧
  (((getI a.x a.key).fst == (1 : Int)) = Bool.false →
  ∃ (b : Unit), Bool.false = Bool.true ∧
  True ∧
  True)) ∧
  ((putRet (roomy a_8.x) a_8.key == (0 : Int)) = Bool.false →
  ∃ (b : Unit), Bool.false = Bool.true ∧
  True ∧
  True))) (by kernel_rfl) (by
  rintro ⟨a, b⟩ ⟨ha, hb⟩
  refine ⟨(), trivial, fun _ _ => ⟨(a, 40), rfl, rfl, by simp, fun _ _ => ⟨(b, 40), rfl, rfl, by simp, fun _ _ => ⟨by omega, by omega, by omega, ⟨emptyI 16, 16, cutB a 40, 1⟩, ?_⟩⟩⟩⟩
  have hu := cutB_size (n := 40) ha
  have hv := cutB_size (n := 40) hb
  dsimp only
  generalize cutB a 40 = u at *
  generalize cutB b 40 = v at *
  have h0 := empty_has (n := 16) (by omega) (by omega)
  obtain ⟨h1, r1⟩ := putX_new (p := 1) h0 (by rw [h0.n]; decide) (by simp) hu
  have n1 := h1.n
  have z0 := h0.n
  simp only [List.length_cons, List.length_nil] at n1 z0
  (repeat' apply And.intro) <;> first | rfl | trivial | exact Nat.le_refl _ | omega | (dsimp only; omega) | exact RowsEq.refl _ _ _ | exact newRows | exact h0.inv | exact hu | skip
  refine fun c1 _ => ⟨⟨putX (emptyI 16) u 1, c1, v, 2⟩, ?_⟩
  dsimp only
  generalize putX (emptyI 16) u 1 = x1 at *
  (repeat' apply And.intro) <;> first | rfl | trivial | exact Nat.le_refl _ | omega | (dsimp only; omega) | exact RowsEq.refl _ _ _ | exact h1.inv | exact hv | skip
  by_cases e : u = v
  · subst e
    obtain ⟨h2, r2⟩ := putX_there (p := 2) h1 (by omega)
    have n2 := h2.n
    simp only [List.length_cons, List.length_nil] at n2
    refine fun c2 _ => ⟨⟨putX x1 u 2, c2, u⟩, ?_⟩
    dsimp only
    rw [r2]
    generalize putX x1 u 2 = x2 at *
    (repeat' apply And.intro) <;> first | rfl | trivial | exact Nat.le_refl _ | omega | (dsimp only; omega) | exact RowsEq.refl _ _ _ | exact h2.inv | exact hu | skip
    rw [get_there h2 List.mem_cons_self]
    refine fun _ _ => ⟨fun _ => ⟨fun _ => ⟨fun _ => ⟨fun _ _ => ⟨(), ?_, trivial, trivial⟩, fun hc => ?_⟩, fun hc => ?_⟩, fun hc => ?_⟩, fun hc => ?_⟩
    · simp; omega
    all_goals (exfalso; simp at hc)
  · obtain ⟨h2, r2⟩ := putX_new (k := v) (p := 2) h1 (by omega) (by simp [Ne.symm e]) hv
    have n2 := h2.n
    simp only [List.length_cons, List.length_nil] at n2
    refine fun c2 _ => ⟨⟨putX x1 v 2, c2, u⟩, ?_⟩
    dsimp only
    rw [r2]
    generalize putX x1 v 2 = x2 at *
    (repeat' apply And.intro) <;> first | rfl | trivial | exact Nat.le_refl _ | omega | (dsimp only; omega) | exact RowsEq.refl _ _ _ | exact h2.inv | exact hu | skip
    rw [get_there h2 (List.mem_cons_of_mem _ List.mem_cons_self)]
    have hk : (keysOf x2.t).Perm [v, u] := h2.perm.map Prod.fst
    have hkl : (keysOf x2.t).length = 2 := hk.length_eq
    have hlt : Op.bytesLess (gl (sortB (keysOf x2.t)) 0).toList (gl (sortB (keysOf x2.t)) 1).toList = true := by
      rw [sortB_congr hk]; exact (sortB_two (Ne.symm e)).2
    obtain ⟨h3, r3⟩ := drop_there h2
    have n3 := h3.n
    simp only [List.length_cons, List.length_nil] at n3
    have k2 := h2.inv.hi
    refine fun _ _ => ⟨fun hc => (by exfalso; simp [e] at hc), fun _ => ⟨⟨x2, c2, u⟩, ?_⟩⟩
    dsimp only
    (repeat' apply And.intro) <;> first | rfl | trivial | exact Nat.le_refl _ | omega | (dsimp only; omega) | exact RowsEq.refl _ _ _ | skip
    rw [hkl]
    refine fun c3 _ => ⟨fun _ => ⟨fun _ => ⟨fun _ _ => ⟨fun _ => ⟨fun _ => ⟨by omega, by omega, by omega, by omega, fun _ => ⟨⟨x2, c2, v⟩, ?_⟩, fun hc => ?_⟩, fun hc => ?_⟩, fun hc => ?_⟩, fun hc => ?_⟩, fun hc => ?_⟩, fun hc => ?_⟩
    · dsimp only
      generalize dropI x2 v = x3 at *
      (repeat' apply And.intro) <;> first | rfl | trivial | exact Nat.le_refl _ | omega | (dsimp only; omega) | exact RowsEq.refl _ _ _ | exact h2.inv | exact hv | (exact fun _ => by omega) | skip
      refine fun _ _ => ⟨fun _ _ => ⟨(), by simp; omega, trivial, trivial⟩, fun hc => ?_⟩
      exfalso; simp [r3] at hc
    · rw [hlt] at hc; cases hc
    · exfalso; simp at hc
    · exfalso; simp at hc; omega
    all_goals (exfalso; simp at hc))
theorem instIKeys : ∀ ads, okADs [.str, .str] ads → ∃ a : StrA, cIKeys.pre a ∧ cIKeys.args a = svs 0 ads ∧ cIKeys.ro a = chs 0 [.str, .str] ads ∧ cIKeys.m = slcs ads := by
  rintro ads ⟨d, r, rfl, ⟨a, rfl, ha⟩, d2, r2, rfl, ⟨b, rfl, hb⟩, rfl⟩
  exact ⟨⟨a, b⟩, ⟨ha, hb⟩, rfl, rfl, rfl⟩
end Go.Proofs.Ytfpgkgelgpandaa
