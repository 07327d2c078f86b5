/-
  The statements' functions over the layer ring; no condition.
-/
import Derived.Test.YtjhjachkconneaaRingl
namespace Go.Proofs.Ytjhjachkconneaa
open Go.Sx
set_option maxRecDepth 100000
set_option linter.unusedVariables false

noncomputable def cBegun : Con where
  α := Unit
  β := Unit
  m := 0
  m' := 0
  pre := fun _ => True
  args := fun _ => []
  hp := fun _ => []
  ro := fun _ => []
  post := fun _ _ => True
  res := fun _ _ => .a .tt
  hp' := fun _ _ => []
set_option maxHeartbeats 4000000 in
theorem bodyBegun : fnBody (Yf Try.prog) [] 10 cBegun fun _ => [] := fnBody.of (p :=
  ∀ (a : Unit), True →
  ∀ (cap : Nat), (1 : Nat) ≤ cap →
  cap ≤ lenMax →
  ((1 : Nat) ≤ (0 : Nat) →
  cap = (0 : Nat)) →
  ∀ (cap : Nat), (1 : Nat) ≤ cap →
  cap ≤ lenMax →
  ∀ (cap_1 : Nat), (2 : Nat) ≤ cap_1 →
  cap_1 ≤ lenMax →
  ((2 : Nat) ≤ cap →
  cap_1 = cap) →
  ∀ (cap : Nat), (3 : Nat) ≤ cap →
  cap ≤ lenMax →
  ((3 : Nat) ≤ cap_1 →
  cap = cap_1) →
  ∀ (cap_2 : Nat), (4 : Nat) ≤ cap_2 →
  cap_2 ≤ lenMax →
  ((4 : Nat) ≤ cap →
  cap_2 = cap) →
  ∀ (cap : Nat), (5 : Nat) ≤ cap →
  cap ≤ lenMax →
  ((5 : Nat) ≤ cap_2 →
  cap = cap_2) →
  ∀ (cap_3 : Nat), (6 : Nat) ≤ cap_3 →
  cap_3 ≤ lenMax →
  ((6 : Nat) ≤ cap →
  cap_3 = cap) →
  ∀ (cap : Nat), (7 : Nat) ≤ cap →
  cap ≤ lenMax →
  ((7 : Nat) ≤ cap_3 →
  cap = cap_3) →
  ∀ (cap_4 : Nat), (8 : Nat) ≤ cap_4 →
  cap_4 ≤ lenMax →
  ((8 : Nat) ≤ cap →
  cap_4 = cap) →
  ∀ (cap : Nat), (1 : Nat) ≤ cap →
  cap ≤ lenMax →
  ((1 : Nat) ≤ (0 : Nat) →
  cap = (0 : Nat)) →
  ∃ (b : Unit), Bool.true = Bool.true ∧
  True ∧
  True) (by kernel_rfl) (by
  repeat' (first | intro _ | exact ⟨(), rfl, trivial, trivial⟩))
theorem callBegun : CallsBy (Y Try.prog).G.X 10 cBegun := fn_ok okYf (tab := []) trivial bodyBegun

/-! ### a text is cut -/

def cutB (s : ByteArray) (n : Int) : ByteArray := if n < s.size then s.extract 0 n.toNat else s
noncomputable def cCutS : Con where
  α := ByteArray × Int
  β := Unit
  m := 0
  m' := 0
  pre := fun a => 0 ≤ a.2
  args := fun a => [.a (.str a.1), .a (.int .i64 a.2)]
  hp := fun _ => []
  ro := fun _ => []
  post := fun _ _ => True
  res := fun a _ => .a (.str (cutB a.1 a.2))
  hp' := fun _ _ => []
set_option maxHeartbeats 4000000 in
theorem bodyCutS : fnBody (Y Try.prog) [] 12 cCutS fun _ => [] := fnBody.of (p :=
  ∀ (a : ByteArray × Int), (0 : Int) ≤ a.snd →
  (Decidable.decide (a.snd < (↑a.fst.size : Int)) = Bool.true →
  ((0 : Int) ≤ a.snd ∧
  a.snd ≤ (↑a.fst.size : Int)) ∧
  ∃ (b : Unit), a.fst.extract (0 : Nat) a.snd.toNat = cutB a.fst a.snd ∧
  True ∧
  True) ∧
  (Decidable.decide (a.snd < (↑a.fst.size : Int)) = Bool.false →
  ∃ (b : Unit), a.fst = cutB a.fst a.snd ∧
  True ∧
  True)) (by kernel_rfl) (by
  intro a h
  refine ⟨fun h1 => ?_, fun h1 => ⟨(), ?_, trivial, trivial⟩⟩
  · have h2 : a.2 < a.1.size := by simpa using h1
    exact ⟨by omega, (), by simp [cutB, h2], trivial, trivial⟩
  · have h2 : ¬ a.2 < a.1.size := by simpa using h1
    simp [cutB, h2])
theorem callCutS : CallsBy (Y Try.prog).G.X 12 cCutS := fn_ok okY (tab := []) trivial bodyCutS

theorem cut_size {s : ByteArray} {n : Int} (h : s.size ≤ lenMax) : (cutB s n).size ≤ lenMax := by
  unfold cutB
  split
  · rw [ByteArray.size_extract]; omega
  · exact h

/-! ### nodes by bits -/

noncomputable def cBits : Con where
  α := Int
  β := Nat
  m := 0
  m' := 1
  pre := fun _ => True
  args := fun b => [.a (.int .i64 b)]
  hp := fun _ => []
  ro := fun _ => []
  post := fun _ _ => True
  res := fun b cap => .a (.slc 0 0 1 (bitsTo b 5).length cap)
  hp' := fun b _ => [(0, .arr 3 [.int .i64] (bitsTo b 5).length (encRows encI (bitsTo b 5)))]
def iBits (b : Int) : An := .flat 3 (Nat × Nat) (fun s x => ((s.new (.arr 3 [.int .i64] (bitsTo b x.1).length (encRows encI (bitsTo b x.1)))).set 3 (.a (.slc s.nx 0 1 (bitsTo b x.1).length x.2))).int 4 x.1)
  (fun _ x => x.1 ≤ 5) (fun _ x => 5 - x.1)
set_option maxHeartbeats 4000000 in
theorem bodyBits : fnBody (Y Try.prog) [] 11 cBits fun b => [(11, [iBits b], [])] := fnBody.of (p :=
  ∀ (a : Int), True →
  (∃ (a_2 : Nat × Nat), (0 : Int) = (↑a_2.fst : Int) ∧
  ((0 : Nat) = (bitsTo a a_2.fst).length ∧
  (0 : Nat) = a_2.snd) ∧
  a = a ∧
  (bitsTo a a_2.fst).length = (0 : Nat) ∧
  a_2.fst ≤ (5 : Nat) ∧
  True) ∧
  ∀ (a_2 : Nat × Nat), a_2.fst ≤ (5 : Nat) →
  (Decidable.decide ((↑a_2.fst : Int) < (5 : Int)) = Bool.true →
  (0 : Int) ≤ uw IntKind.u64 (↑a_2.fst : Int) ∧
  (2 : Int) ≠ (0 : Int) ∧
  (((a / (2 : Int) ^ Min.min (uw IntKind.u64 (↑a_2.fst : Int)).toNat (64 : Nat)).tmod (2 : Int) != (0 : Int)) = Bool.true →
  InR IntKind.i64 ((↑a_2.fst : Int) + (1 : Int)) ∧
  (0 : Nat) + (bitsTo a a_2.fst).length ≤ (bitsTo a a_2.fst).length ∧
  (1 : Nat) ≤ (1 : Nat) ∧
  ((bitsTo a a_2.fst).length + (1 : Nat)) * (8 : Nat) ≤ (140737488355328 : Nat) ∧
  ∀ (cap : Nat), (bitsTo a a_2.fst).length + (1 : Nat) ≤ cap →
  cap ≤ lenMax →
  ((bitsTo a a_2.fst).length + (1 : Nat) ≤ a_2.snd →
  cap = a_2.snd) →
  InR IntKind.i64 ((↑a_2.fst : Int) + (1 : Int)) ∧
  ∃ (a' : Nat × Nat), (↑a_2.fst : Int) + (1 : Int) = (↑a'.fst : Int) ∧
  ((0 : Nat) = (0 : Nat) ∧
  (bitsTo a a_2.fst).length + (1 : Nat) = (bitsTo a a'.fst).length ∧
  cap = a'.snd) ∧
  a = a ∧
  ((bitsTo a a'.fst).length ≤ (bitsTo a a_2.fst).length + (1 : Nat) ∧
  RowsEq (bitsTo a a'.fst).length (1 : Nat) (appRows (encRows encI (bitsTo a a_2.fst)) (0 : Nat) (bitsTo a a_2.fst).length fun (i j : Nat) => flatRows (1 : Nat) [Value.int IntKind.i64 ((↑a_2.fst : Int) + (1 : Int))] ((0 : Nat) + i) j) (encRows encI (bitsTo a a'.fst))) ∧
  a'.fst ≤ (5 : Nat) ∧
  (5 : Nat) - a'.fst < (5 : Nat) - a_2.fst) ∧
  (((a / (2 : Int) ^ Min.min (uw IntKind.u64 (↑a_2.fst : Int)).toNat (64 : Nat)).tmod (2 : Int) != (0 : Int)) = Bool.false →
  InR IntKind.i64 ((↑a_2.fst : Int) + (1 : Int)) ∧
  ∃ (a' : Nat × Nat), (↑a_2.fst : Int) + (1 : Int) = (↑a'.fst : Int) ∧
  ((0 : Nat) = (0 : Nat) ∧
  (bitsTo a a_2.fst).length = (bitsTo a a'.fst).length ∧
  a_2.snd = a'.snd) ∧
  a = a ∧
  ((bitsTo a a'.fst).length ≤ (bitsTo a a_2.fst).length ∧
  RowsEq (bitsTo a a'.fst).length (1 : Nat) (encRows encI (bitsTo a a_2.fst)) (encRows encI (bitsTo a a'.fst))) ∧
  a'.fst ≤ (5 : Nat) ∧
  (5 : Nat) - a'.fst < (5 : Nat) - a_2.fst)) ∧
  (Decidable.decide ((↑a_2.fst : Int) < (5 : Int)) = Bool.false →
  ∃ (b : Nat), ((0 : Nat) = (0 : Nat) ∧
  (bitsTo a a_2.fst).length = (bitsTo a (5 : Nat)).length ∧
  a_2.snd = b) ∧
  ((bitsTo a (5 : Nat)).length ≤ (bitsTo a a_2.fst).length ∧
  RowsEq (bitsTo a (5 : Nat)).length (1 : Nat) (encRows encI (bitsTo a a_2.fst)) (encRows encI (bitsTo a (5 : Nat)))) ∧
  True ∧
  True)) (by kernel_rfl) (by
  intro b _
  have hlen := bits_len b
  have hex : ∀ k : Nat, k < 5 → (b / 2 ^ min (uw .u64 (k : Int)).toNat 64) = b / 2 ^ k := fun k hk => by
    have : min (uw .u64 (k : Int)).toNat 64 = k := by simp only [uw]; omega
    rw [this]
  refine ⟨⟨(0, 0), ?_⟩, fun x hx => ⟨fun c1 => ?_, fun c1 => ?_⟩⟩
  · have e0 : bitsTo b 0 = [] := rfl
    dsimp only
    rw [e0]
    ((repeat' apply And.intro) <;> first | with_reducible rfl | omega | (dsimp only; omega) | exact RowsEq.refl _ _ _ | assumption | rfl | trivial | exact Nat.le_refl _ | skip)
  · obtain ⟨k, cap⟩ := x
    dsimp only at c1 hx ⊢
    simp only [decide_eq_true_eq] at c1
    have hk : k < 5 := by omega
    have hl := hlen k
    rw [hex k hk]
    have h0 : 0 ≤ uw .u64 (k : Int) := by simp only [uw]; omega
    simp only [Nat.zero_add, InR]
    refine ⟨h0, by decide, fun c2 => ?_, fun c2 => ?_⟩
    · have es : bitsTo b (k + 1) = bitsTo b k ++ [(k : Int) + 1] := by
        show bitsTo b k ++ (if bitQ b k = true then _ else _) = _
        rw [if_pos (show bitQ b k = true from c2)]
      have hn : (bitsTo b k ++ [(k : Int) + 1]).length = (bitsTo b k).length + 1 := by simp
      ((repeat' apply And.intro) <;> first | with_reducible rfl | omega | (dsimp only; omega) | exact RowsEq.refl _ _ _ | assumption | rfl | trivial | exact Nat.le_refl _ | skip)
      refine fun c _ _ _ => ⟨by omega, (k + 1, c), ?_⟩
      dsimp only
      rw [es, hn]
      ((repeat' apply And.intro) <;> first | rfl | trivial | exact Nat.le_refl _ | omega | (dsimp only; omega) | exact RowsEq.refl _ _ _ | exact .push rfl (by omega) rfl)
    · have es : bitsTo b (k + 1) = bitsTo b k := by
        show bitsTo b k ++ (if bitQ b k = true then _ else _) = _
        rw [if_neg (by rw [show bitQ b k = false from c2]; simp), List.append_nil]
      refine ⟨by omega, (k + 1, cap), ?_⟩
      dsimp only
      rw [es]
      ((repeat' apply And.intro) <;> first | with_reducible rfl | omega | (dsimp only; omega) | exact RowsEq.refl _ _ _ | assumption | rfl | trivial | exact Nat.le_refl _ | skip)
  · obtain ⟨k, cap⟩ := x
    dsimp only at c1 hx ⊢
    simp only [decide_eq_false_iff_not] at c1
    have hk : k = 5 := by omega
    subst hk
    refine ⟨cap, ?_⟩
    ((repeat' apply And.intro) <;> first | with_reducible rfl | omega | (dsimp only; omega) | exact RowsEq.refl _ _ _ | assumption | rfl | trivial | exact Nat.le_refl _ | skip))
theorem callBits : CallsBy (Y Try.prog).G.X 11 cBits := fn_ok okY (tab := []) trivial bodyBits

/-! ### a good ring is made -/

structure NewA where
  e : Int
  l : List Int
  cap : Nat
noncomputable def cNew : Con where
  α := NewA
  β := Nat × Nat
  m := 1
  m' := 4
  pre := fun a => 1 ≤ a.e ∧ a.e ≤ 1099511627776 ∧ mayN a.l = true
  args := fun a => [.a (.int .i64 a.e), .a (.slc 0 0 1 a.l.length a.cap)]
  hp := fun _ => []
  ro := fun a => [(0, .arr 3 [.int .i64] a.l.length (encRows encI a.l))]
  post := fun _ _ => True
  res := fun _ _ => .a (.ptr 1 0 0 0)
  hp' := fun a c => [(1, .obj 51 [.int .i64 a.e, .slc 2 0 1 a.l.length c.1, .slc 3 0 2 (ptsOf a.l).length c.2]), (2, .arr 3 [.int .i64] a.l.length (encRows encI a.l)), (3, .arr 53 ksPt (ptsOf a.l).length (encRows encPt (ptsOf a.l)))]
set_option maxHeartbeats 4000000 in
theorem bodyNew : fnBody (Y Try.prog) [(24, cMay), (25, cClone), (26, cPtsOf)] 13 cNew fun _ => [] := fnBody.of (p :=
  ∀ (a : NewA), (1 : Int) ≤ a.e ∧
  a.e ≤ (1099511627776 : Int) ∧
  mayN a.l = Bool.true →
  (Decidable.decide (a.e < (1 : Int)) = Bool.true →
  ∃ (b : Nat × Nat), False) ∧
  (Decidable.decide (a.e < (1 : Int)) = Bool.false →
  (Decidable.decide ((1099511627776 : Int) < a.e) = Bool.true →
  ∃ (b : Nat × Nat), False) ∧
  (Decidable.decide ((1099511627776 : Int) < a.e) = Bool.false →
  ∃ (a_4 : NodesA), ((0 : Nat) = (0 : Nat) ∧
  a.l.length = a_4.l.length ∧
  a.cap = a_4.cap) ∧
  (a_4.l.length ≤ a.l.length ∧
  RowsEq a_4.l.length (1 : Nat) (encRows encI a.l) (encRows encI a_4.l)) ∧
  a_4.l.length < (100000 : Nat) ∧
  ∀ (b : Unit), True →
  ((!mayN a_4.l) = Bool.true →
  ∃ (b : Nat × Nat), False) ∧
  ((!mayN a_4.l) = Bool.false →
  ∃ (a_7 : NodesA), ((0 : Nat) = (0 : Nat) ∧
  a.l.length = a_7.l.length ∧
  a.cap = a_7.cap) ∧
  (a_7.l.length ≤ a.l.length ∧
  RowsEq a_7.l.length (1 : Nat) (encRows encI a.l) (encRows encI a_7.l)) ∧
  a_7.l.length < (100000 : Nat) ∧
  ∀ (b : Nat), True →
  ∃ (a_9 : NodesA), ((0 : Nat) = (0 : Nat) ∧
  a.l.length = a_9.l.length ∧
  a.cap = a_9.cap) ∧
  (a_9.l.length ≤ a.l.length ∧
  RowsEq a_9.l.length (1 : Nat) (encRows encI a.l) (encRows encI a_9.l)) ∧
  a_9.l.length < (100000 : Nat) ∧
  ∀ (b_1 : Nat), True →
  ∃ (b_2 : Nat × Nat), (0 : Nat) = (0 : Nat) ∧
  a.e = a.e ∧
  ((0 : Nat) = (0 : Nat) ∧
  a_7.l.length = a.l.length ∧
  b = b_2.fst) ∧
  ((0 : Nat) = (0 : Nat) ∧
  (ptsOf a_9.l).length = (ptsOf a.l).length ∧
  b_1 = b_2.snd) ∧
  (a.l.length ≤ a_7.l.length ∧
  RowsEq a.l.length (1 : Nat) (encRows encI a_7.l) (encRows encI a.l)) ∧
  ((ptsOf a.l).length ≤ (ptsOf a_9.l).length ∧
  RowsEq (ptsOf a.l).length (2 : Nat) (encRows encPt (ptsOf a_9.l)) (encRows encPt (ptsOf a.l))) ∧
  True ∧
  True)))) (by kernel_rfl) (by
  rintro ⟨e, l, cap⟩ ⟨h1, h2, h3⟩
  dsimp only at h1 h2 h3 ⊢
  have hl := mayN_len h3
  refine ⟨fun c => (by simp at c; omega), fun _ => ⟨fun c => (by simp at c; omega), fun _ => ⟨⟨l, cap⟩, ?_⟩⟩⟩
  ((repeat' apply And.intro) <;> first | with_reducible rfl | omega | (dsimp only; omega) | exact RowsEq.refl _ _ _ | assumption | rfl | trivial | exact Nat.le_refl _ | skip)
  refine fun _ _ => ⟨fun c => (by dsimp only at c; rw [h3] at c; simp at c), fun _ => ⟨⟨l, cap⟩, ?_⟩⟩
  ((repeat' apply And.intro) <;> first | with_reducible rfl | omega | (dsimp only; omega) | exact RowsEq.refl _ _ _ | assumption | rfl | trivial | exact Nat.le_refl _ | skip)
  refine fun c1 _ => ⟨⟨l, cap⟩, ?_⟩
  ((repeat' apply And.intro) <;> first | with_reducible rfl | omega | (dsimp only; omega) | exact RowsEq.refl _ _ _ | assumption | rfl | trivial | exact Nat.le_refl _ | skip)
  refine fun c2 _ => ⟨(c1, c2), ?_⟩
  ((repeat' apply And.intro) <;> first | with_reducible rfl | omega | (dsimp only; omega) | exact RowsEq.refl _ _ _ | assumption | rfl | trivial | exact Nat.le_refl _ | skip))
theorem callNew : CallsBy (Y Try.prog).G.X 13 cNew := fn_ok okY (tab := [(24, cMay), (25, cClone), (26, cPtsOf)]) ⟨callMay, callClone, callPtsOf, trivial⟩ bodyNew

/-! ### the statements' functions -/

structure NearA where
  b : Int
  node : Int
  i : Int
  off : Int
noncomputable def cNear : Con where
  α := NearA
  β := Unit
  m := 0
  m' := 0
  pre := fun _ => True
  args := fun a => [.a (.int .i64 a.b), .a (.int .i64 a.node), .a (.int .i64 a.i), .a (.int .i64 a.off)]
  hp := fun _ => []
  ro := fun _ => []
  post := fun _ _ => True
  res := fun _ _ => .a .tt
  hp' := fun _ _ => []
structure OwnA where
  e : Int
  b : Int
  h : Int
  key : ByteArray
noncomputable def cOwn : Con where
  α := OwnA
  β := Unit
  m := 0
  m' := 0
  pre := fun a => a.key.size ≤ lenMax
  args := fun a => [.a (.int .i64 a.e), .a (.int .i64 a.b), .a (.int .u64 a.h), .a (.str a.key)]
  hp := fun _ => []
  ro := fun _ => []
  post := fun _ _ => True
  res := fun _ _ => .a .tt
  hp' := fun _ _ => []
structure BhA where
  b : Int
  n : Int
  h : Int
/-- bits, a number, a hash -/
noncomputable def cBnh : Con where
  α := BhA
  β := Unit
  m := 0
  m' := 0
  pre := fun _ => True
  args := fun a => [.a (.int .i64 a.b), .a (.int .i64 a.n), .a (.int .u64 a.h)]
  hp := fun _ => []
  ro := fun _ => []
  post := fun _ _ => True
  res := fun _ _ => .a .tt
  hp' := fun _ _ => []
noncomputable def cBh : Con where
  α := Int × Int
  β := Unit
  m := 0
  m' := 0
  pre := fun _ => True
  args := fun a => [.a (.int .i64 a.1), .a (.int .u64 a.2)]
  hp := fun _ => []
  ro := fun _ => []
  post := fun _ _ => True
  res := fun _ _ => .a .tt
  hp' := fun _ _ => []
structure EpA where
  b : Int
  x : Int
  y : Int
  key : ByteArray
noncomputable def cEp : Con where
  α := EpA
  β := Unit
  m := 0
  m' := 0
  pre := fun a => a.key.size ≤ lenMax
  args := fun a => [.a (.int .i64 a.b), .a (.int .i64 a.x), .a (.int .i64 a.y), .a (.str a.key)]
  hp := fun _ => []
  ro := fun _ => []
  post := fun _ _ => True
  res := fun _ _ => .a .tt
  hp' := fun _ _ => []
noncomputable def tabRing : List (Nat × Con) := [(10, cBegun), (11, cBits), (12, cCutS), (24, cMay), (25, cClone), (26, cPtsOf), (15, cEqInts), (16, cRNodes), (17, cRHas), (18, cHas), (19, cOwner), (20, cROwner), (21, cROf), (22, cMixOf), (23, cPoint)]
theorem tabRing_ok : TabOk (Y Try.prog).G.X tabRing := ⟨callBegun, callBits, callCutS, callMay, callClone, callPtsOf, callEqInts, callRNodes, callRHas, callHas, callOwner, callROwner, callRingOf, callROf, callRPoint, trivial⟩
noncomputable def tabRingN : List (Nat × Con) := (13, cNew) :: tabRing
theorem tabRingN_ok : TabOk (Y Try.prog).G.X tabRingN := ⟨callNew, tabRing_ok⟩
set_option maxHeartbeats 4000000 in
theorem bodyNear : fnBody (Y Try.prog) tabRingN 4 cNear fun _ => [] := fnBody.of (p :=
  ∀ (a : NearA), True →
  ∃ (a_2 : Unit), True ∧
  ∀ (b : Unit), True →
  ∃ (a_4 : Int), a.b = a_4 ∧
  True ∧
  ∀ (b : Nat), True →
  (((↑(bitsTo a_4 (5 : Nat)).length : Int) == (0 : Int)) = Bool.true →
  ∃ (b : Unit), Bool.true = Bool.true ∧
  True ∧
  True) ∧
  (((↑(bitsTo a_4 (5 : Nat)).length : Int) == (0 : Int)) = Bool.false →
  (Decidable.decide (a.node < (1 : Int)) = Bool.true →
  ∃ (b : Unit), Bool.true = Bool.true ∧
  True ∧
  True) ∧
  (Decidable.decide (a.node < (1 : Int)) = Bool.false →
  (Decidable.decide ((5 : Int) < a.node) = Bool.true →
  ∃ (b : Unit), Bool.true = Bool.true ∧
  True ∧
  True) ∧
  (Decidable.decide ((5 : Int) < a.node) = Bool.false →
  (Decidable.decide (a.i < (0 : Int)) = Bool.true →
  ∃ (b : Unit), Bool.true = Bool.true ∧
  True ∧
  True) ∧
  (Decidable.decide (a.i < (0 : Int)) = Bool.false →
  (Decidable.decide ((7 : Int) < a.i) = Bool.true →
  ∃ (b : Unit), Bool.true = Bool.true ∧
  True ∧
  True) ∧
  (Decidable.decide ((7 : Int) < a.i) = Bool.false →
  (Decidable.decide (a.off < (-2 : Int)) = Bool.true →
  ∃ (b : Unit), Bool.true = Bool.true ∧
  True ∧
  True) ∧
  (Decidable.decide (a.off < (-2 : Int)) = Bool.false →
  (Decidable.decide ((2 : Int) < a.off) = Bool.true →
  ∃ (b : Unit), Bool.true = Bool.true ∧
  True ∧
  True) ∧
  (Decidable.decide ((2 : Int) < a.off) = Bool.false →
  ∃ (a_13 : NewA), (1 : Int) = a_13.e ∧
  ((0 : Nat) = (0 : Nat) ∧
  (bitsTo a_4 (5 : Nat)).length = a_13.l.length ∧
  b = a_13.cap) ∧
  (a_13.l.length ≤ (bitsTo a_4 (5 : Nat)).length ∧
  RowsEq a_13.l.length (1 : Nat) (encRows encI (bitsTo a_4 (5 : Nat))) (encRows encI a_13.l)) ∧
  ((1 : Int) ≤ a_13.e ∧
  a_13.e ≤ (1099511627776 : Int) ∧
  mayN a_13.l = Bool.true) ∧
  ∀ (b_1 : Nat × Nat), True →
  ∃ (a_15 : Int × Int), a.node = a_15.fst ∧
  a.i = a_15.snd ∧
  ((0 : Int) ≤ a_15.fst ∧
  a_15.fst ≤ (100 : Int) ∧
  (0 : Int) ≤ a_15.snd ∧
  a_15.snd ≤ (100 : Int)) ∧
  ∀ (b_2 : Unit), True →
  ∃ (a_17 : OwnerA), (0 : Nat) = (0 : Nat) ∧
  uw IntKind.u64 (pointI a_15.fst a_15.snd + uw IntKind.u64 a.off) = a_17.h ∧
  a_13.e = a_17.r.e ∧
  ((0 : Nat) = (0 : Nat) ∧
  a_13.l.length = a_17.r.l.length ∧
  b_1.fst = a_17.r.c1) ∧
  ((0 : Nat) = (0 : Nat) ∧
  (ptsOf a_13.l).length = a_17.r.L.length ∧
  b_1.snd = a_17.r.c2) ∧
  (a_17.r.l.length ≤ a_13.l.length ∧
  RowsEq a_17.r.l.length (1 : Nat) (encRows encI a_13.l) (encRows encI a_17.r.l)) ∧
  (a_17.r.L.length ≤ (ptsOf a_13.l).length ∧
  RowsEq a_17.r.L.length (2 : Nat) (encRows encPt (ptsOf a_13.l)) (encRows encPt a_17.r.L)) ∧
  (a_17.r.L.length < (100000 : Nat) ∧
  (0 : Nat) < a_17.r.L.length) ∧
  ∀ (b_3 : Unit), True →
  ∃ (a_19 : ROwnA), ((0 : Nat) = (0 : Nat) ∧
  (bitsTo a_4 (5 : Nat)).length = a_19.l.length ∧
  b = a_19.cap) ∧
  uw IntKind.u64 (pointI a_15.fst a_15.snd + uw IntKind.u64 a.off) = a_19.h ∧
  (a_19.l.length ≤ (bitsTo a_4 (5 : Nat)).length ∧
  RowsEq a_19.l.length (1 : Nat) (encRows encI (bitsTo a_4 (5 : Nat))) (encRows encI a_19.l)) ∧
  a_19.l.length < (100000 : Nat) ∧
  ∀ (b : Unit), True →
  ∃ (b : Unit), (ownP a_17.r.L a_17.h == refOwner a_19.l a_19.h) = Bool.true ∧
  True ∧
  True)))))))) (by kernel_rfl) (by
  rintro ⟨b, node, i, off⟩ _
  refine ⟨(), trivial, fun _ _ => ⟨b, ?_⟩⟩
  ((repeat' apply And.intro) <;> first | with_reducible rfl | omega | (dsimp only; omega) | exact RowsEq.refl _ _ _ | assumption | rfl | trivial | exact Nat.le_refl _ | skip)
  dsimp only
  refine fun cap _ => ⟨fun _ => ⟨(), rfl, trivial, trivial⟩, fun c0 => ⟨fun _ => ⟨(), rfl, trivial, trivial⟩, fun c1 => ⟨fun _ => ⟨(), rfl, trivial, trivial⟩, fun c2 => ⟨fun _ => ⟨(), rfl, trivial, trivial⟩, fun c3 => ⟨fun _ => ⟨(), rfl, trivial, trivial⟩, fun c4 => ⟨fun _ => ⟨(), rfl, trivial, trivial⟩, fun c5 => ⟨fun _ => ⟨(), rfl, trivial, trivial⟩, fun c6 => ⟨⟨1, bitsTo b 5, cap⟩, ?_⟩⟩⟩⟩⟩⟩⟩⟩
  simp only [decide_eq_false_iff_not, beq_eq_false_iff_ne] at c0 c1 c2 c3 c4 c5 c6
  have hl := bits_len b 5
  have hm := bits_may (b := b) (by omega)
  have h8 := ptsOf_length hm
  ((repeat' apply And.intro) <;> first | with_reducible rfl | omega | (dsimp only; omega) | exact RowsEq.refl _ _ _ | assumption | rfl | trivial | exact Nat.le_refl _ | skip)
  refine fun c _ => ⟨(node, i), ?_⟩
  ((repeat' apply And.intro) <;> first | with_reducible rfl | omega | (dsimp only; omega) | exact RowsEq.refl _ _ _ | assumption | rfl | trivial | exact Nat.le_refl _ | skip)
  refine fun _ _ => ⟨⟨⟨1, bitsTo b 5, c.1, ptsOf (bitsTo b 5), c.2⟩, uw .u64 (pointI node i + uw .u64 off)⟩, ?_⟩
  ((repeat' apply And.intro) <;> first | with_reducible rfl | omega | (dsimp only; omega) | exact RowsEq.refl _ _ _ | assumption | rfl | trivial | exact Nat.le_refl _ | skip)
  refine fun _ _ => ⟨⟨bitsTo b 5, cap, uw .u64 (pointI node i + uw .u64 off)⟩, ?_⟩
  ((repeat' apply And.intro) <;> first | with_reducible rfl | omega | (dsimp only; omega) | exact RowsEq.refl _ _ _ | assumption | rfl | trivial | exact Nat.le_refl _ | skip)
  refine fun _ _ => ⟨(), ?_, trivial, trivial⟩
  dsimp only
  rw [own_law hm, beq_self_eq_true])
def iROwn : An := .flat 12 Nat (fun s i => s.int 12 i) (fun _ i => i ≤ 7) (fun _ i => 7 - i)
set_option maxHeartbeats 4000000 in
theorem bodyRingOwner : fnBody (Y Try.prog) tabRing 3 cOwn fun _ => [(3, [iROwn], [])] := fnBody.of (p :=
  ∀ (a : OwnA), a.key.size ≤ lenMax →
  ∃ (a_2 : Unit), True ∧
  ∀ (b : Unit), True →
  ∃ (a_4 : Int), a.b = a_4 ∧
  True ∧
  ∀ (b : Nat), True →
  ∃ (a_6 : ByteArray × Int), a.key = a_6.fst ∧
  (60 : Int) = a_6.snd ∧
  (0 : Int) ≤ a_6.snd ∧
  ∀ (b_1 : Unit), True →
  (Decidable.decide (a.e < (1 : Int)) = Bool.true →
  (Decidable.decide (a.e < (1 : Int)) = Bool.true →
  ∃ (b : Unit), Bool.true = Bool.true ∧
  True ∧
  True) ∧
  (Decidable.decide (a.e < (1 : Int)) = Bool.false →
  (Decidable.decide ((1099511627776 : Int) < a.e) = Bool.true →
  ∃ (b : Unit), Bool.true = Bool.true ∧
  True ∧
  True) ∧
  (Decidable.decide ((1099511627776 : Int) < a.e) = Bool.false →
  (((↑(bitsTo a_4 (5 : Nat)).length : Int) == (0 : Int)) = Bool.true →
  ∃ (b : Unit), Bool.true = Bool.true ∧
  True ∧
  True) ∧
  (((↑(bitsTo a_4 (5 : Nat)).length : Int) == (0 : Int)) = Bool.false →
  ∃ (b : Unit), Bool.false = Bool.true ∧
  True ∧
  True)))) ∧
  (Decidable.decide (a.e < (1 : Int)) = Bool.false →
  (Decidable.decide ((1099511627776 : Int) < a.e) = Bool.true →
  (Decidable.decide (a.e < (1 : Int)) = Bool.true →
  ∃ (b : Unit), Bool.true = Bool.true ∧
  True ∧
  True) ∧
  (Decidable.decide (a.e < (1 : Int)) = Bool.false →
  (Decidable.decide ((1099511627776 : Int) < a.e) = Bool.true →
  ∃ (b : Unit), Bool.true = Bool.true ∧
  True ∧
  True) ∧
  (Decidable.decide ((1099511627776 : Int) < a.e) = Bool.false →
  (((↑(bitsTo a_4 (5 : Nat)).length : Int) == (0 : Int)) = Bool.true →
  ∃ (b : Unit), Bool.true = Bool.true ∧
  True ∧
  True) ∧
  (((↑(bitsTo a_4 (5 : Nat)).length : Int) == (0 : Int)) = Bool.false →
  ∃ (b : Unit), Bool.false = Bool.true ∧
  True ∧
  True)))) ∧
  (Decidable.decide ((1099511627776 : Int) < a.e) = Bool.false →
  ∃ (a_10 : NodesA), ((0 : Nat) = (0 : Nat) ∧
  (bitsTo a_4 (5 : Nat)).length = a_10.l.length ∧
  b = a_10.cap) ∧
  (a_10.l.length ≤ (bitsTo a_4 (5 : Nat)).length ∧
  RowsEq a_10.l.length (1 : Nat) (encRows encI (bitsTo a_4 (5 : Nat))) (encRows encI a_10.l)) ∧
  a_10.l.length < (100000 : Nat) ∧
  ∀ (b_2 : Unit), True →
  ((!mayN a_10.l) = Bool.true →
  (Decidable.decide (a.e < (1 : Int)) = Bool.true →
  ∃ (b : Unit), Bool.true = Bool.true ∧
  True ∧
  True) ∧
  (Decidable.decide (a.e < (1 : Int)) = Bool.false →
  (Decidable.decide ((1099511627776 : Int) < a.e) = Bool.true →
  ∃ (b : Unit), Bool.true = Bool.true ∧
  True ∧
  True) ∧
  (Decidable.decide ((1099511627776 : Int) < a.e) = Bool.false →
  (((↑(bitsTo a_4 (5 : Nat)).length : Int) == (0 : Int)) = Bool.true →
  ∃ (b : Unit), Bool.true = Bool.true ∧
  True ∧
  True) ∧
  (((↑(bitsTo a_4 (5 : Nat)).length : Int) == (0 : Int)) = Bool.false →
  ∃ (b : Unit), Bool.false = Bool.true ∧
  True ∧
  True)))) ∧
  ((!mayN a_10.l) = Bool.false →
  ∃ (a_13 : NodesA), ((0 : Nat) = (0 : Nat) ∧
  (bitsTo a_4 (5 : Nat)).length = a_13.l.length ∧
  b = a_13.cap) ∧
  (a_13.l.length ≤ (bitsTo a_4 (5 : Nat)).length ∧
  RowsEq a_13.l.length (1 : Nat) (encRows encI (bitsTo a_4 (5 : Nat))) (encRows encI a_13.l)) ∧
  a_13.l.length < (100000 : Nat) ∧
  ∀ (b_3 : Nat), True →
  ∃ (a_15 : NodesA), ((0 : Nat) = (0 : Nat) ∧
  (bitsTo a_4 (5 : Nat)).length = a_15.l.length ∧
  b = a_15.cap) ∧
  (a_15.l.length ≤ (bitsTo a_4 (5 : Nat)).length ∧
  RowsEq a_15.l.length (1 : Nat) (encRows encI (bitsTo a_4 (5 : Nat))) (encRows encI a_15.l)) ∧
  a_15.l.length < (100000 : Nat) ∧
  ∀ (b_4 : Nat), True →
  (Decidable.decide (a.e < (1 : Int)) = Bool.true →
  ∃ (b : Unit), Bool.false = Bool.true ∧
  True ∧
  True) ∧
  (Decidable.decide (a.e < (1 : Int)) = Bool.false →
  (Decidable.decide ((1099511627776 : Int) < a.e) = Bool.true →
  ∃ (b : Unit), Bool.false = Bool.true ∧
  True ∧
  True) ∧
  (Decidable.decide ((1099511627776 : Int) < a.e) = Bool.false →
  (((↑(bitsTo a_4 (5 : Nat)).length : Int) == (0 : Int)) = Bool.true →
  ∃ (b : Unit), Bool.false = Bool.true ∧
  True ∧
  True) ∧
  (((↑(bitsTo a_4 (5 : Nat)).length : Int) == (0 : Int)) = Bool.false →
  InR IntKind.i64 a.e →
  ((a.e != a.e) = Bool.true →
  ∃ (b : Unit), Bool.false = Bool.true ∧
  True ∧
  True) ∧
  ((a.e != a.e) = Bool.false →
  ∃ (a_22 : RingA), (0 : Nat) = (0 : Nat) ∧
  a.e = a_22.e ∧
  ((0 : Nat) = (0 : Nat) ∧
  a_13.l.length = a_22.l.length ∧
  b_3 = a_22.c1) ∧
  ((0 : Nat) = (0 : Nat) ∧
  (ptsOf a_15.l).length = a_22.L.length ∧
  b_4 = a_22.c2) ∧
  (a_22.l.length ≤ a_13.l.length ∧
  RowsEq a_22.l.length (1 : Nat) (encRows encI a_13.l) (encRows encI a_22.l)) ∧
  (a_22.L.length ≤ (ptsOf a_15.l).length ∧
  RowsEq a_22.L.length (2 : Nat) (encRows encPt (ptsOf a_15.l)) (encRows encPt a_22.L)) ∧
  a_22.l.length < (100000 : Nat) ∧
  ∀ (b_5 : Nat), True →
  ∃ (a_24 : EqA), ((0 : Nat) = (0 : Nat) ∧
  a_22.l.length = a_24.l.length ∧
  b_5 = a_24.c) ∧
  ((0 : Nat) = (0 : Nat) ∧
  (bitsTo a_4 (5 : Nat)).length = a_24.l2.length ∧
  b = a_24.c2) ∧
  (a_24.l.length ≤ a_22.l.length ∧
  RowsEq a_24.l.length (1 : Nat) (encRows encI a_22.l) (encRows encI a_24.l)) ∧
  (a_24.l2.length ≤ (bitsTo a_4 (5 : Nat)).length ∧
  RowsEq a_24.l2.length (1 : Nat) (encRows encI (bitsTo a_4 (5 : Nat))) (encRows encI a_24.l2)) ∧
  a_24.l.length < (100000 : Nat) ∧
  ∀ (b_6 : Unit), True →
  ((!Decidable.decide (a_24.l = a_24.l2)) = Bool.true →
  ∃ (b : Unit), Bool.false = Bool.true ∧
  True ∧
  True) ∧
  ((!Decidable.decide (a_24.l = a_24.l2)) = Bool.false →
  (∃ (a_27 : Nat), (0 : Int) = (↑a_27 : Int) ∧
  (!Decidable.decide (a_24.l = a_24.l2)) = !Decidable.decide (a_24.l = a_24.l2) ∧
  ((↑(bitsTo a_4 (5 : Nat)).length : Int) == (0 : Int)) = ((↑(bitsTo a_4 (5 : Nat)).length : Int) == (0 : Int)) ∧
  (0 : Nat) = (0 : Nat) ∧
  cutB a_6.fst a_6.snd = cutB a_6.fst a_6.snd ∧
  ((0 : Nat) = (0 : Nat) ∧
  (bitsTo a_4 (5 : Nat)).length = (bitsTo a_4 (5 : Nat)).length ∧
  b = b) ∧
  Bool.false = Bool.false ∧
  Bool.true = Bool.true ∧
  Bool.false = Bool.false ∧
  a.e = a.e ∧
  a.b = a.b ∧
  a.h = a.h ∧
  a.e = a.e ∧
  ((0 : Nat) = (0 : Nat) ∧
  a_13.l.length = a_13.l.length ∧
  b_3 = b_3) ∧
  ((0 : Nat) = (0 : Nat) ∧
  (ptsOf a_15.l).length = (ptsOf a_15.l).length ∧
  b_4 = b_4) ∧
  ((ptsOf a_15.l).length ≤ (ptsOf a_15.l).length ∧
  RowsEq (ptsOf a_15.l).length (2 : Nat) (encRows encPt (ptsOf a_15.l)) (encRows encPt (ptsOf a_15.l))) ∧
  (a_13.l.length ≤ a_13.l.length ∧
  RowsEq a_13.l.length (1 : Nat) (encRows encI a_13.l) (encRows encI a_13.l)) ∧
  ((bitsTo a_4 (5 : Nat)).length ≤ (bitsTo a_4 (5 : Nat)).length ∧
  RowsEq (bitsTo a_4 (5 : Nat)).length (1 : Nat) (encRows encI (bitsTo a_4 (5 : Nat))) (encRows encI (bitsTo a_4 (5 : Nat)))) ∧
  a_27 ≤ (7 : Nat) ∧
  True) ∧
  ∀ (a_27 : Nat), a_27 ≤ (7 : Nat) →
  (Decidable.decide ((↑a_27 : Int) ≤ (6 : Int)) = Bool.true →
  ∃ (a_30 : RHasA), (0 : Nat) = (0 : Nat) ∧
  (↑a_27 : Int) = a_30.n ∧
  a.e = a_30.r.e ∧
  ((0 : Nat) = (0 : Nat) ∧
  a_13.l.length = a_30.r.l.length ∧
  b_3 = a_30.r.c1) ∧
  ((0 : Nat) = (0 : Nat) ∧
  (ptsOf a_15.l).length = a_30.r.L.length ∧
  b_4 = a_30.r.c2) ∧
  (a_30.r.l.length ≤ a_13.l.length ∧
  RowsEq a_30.r.l.length (1 : Nat) (encRows encI a_13.l) (encRows encI a_30.r.l)) ∧
  (a_30.r.L.length ≤ (ptsOf a_15.l).length ∧
  RowsEq a_30.r.L.length (2 : Nat) (encRows encPt (ptsOf a_15.l)) (encRows encPt a_30.r.L)) ∧
  a_30.r.l.length < (100000 : Nat) ∧
  ∀ (b_7 : Unit), True →
  ∃ (a_32 : HasA), ((0 : Nat) = (0 : Nat) ∧
  (bitsTo a_4 (5 : Nat)).length = a_32.l.length ∧
  b = a_32.cap) ∧
  (↑a_27 : Int) = a_32.n ∧
  (a_32.l.length ≤ (bitsTo a_4 (5 : Nat)).length ∧
  RowsEq a_32.l.length (1 : Nat) (encRows encI (bitsTo a_4 (5 : Nat))) (encRows encI a_32.l)) ∧
  a_32.l.length < (100000 : Nat) ∧
  ∀ (b_8 : Unit), True →
  ((!Decidable.decide (a_30.n ∈ a_30.r.l) == Decidable.decide (a_32.n ∈ a_32.l)) = Bool.true →
  ∃ (b : Unit), Bool.false = Bool.true ∧
  True ∧
  True) ∧
  ((!Decidable.decide (a_30.n ∈ a_30.r.l) == Decidable.decide (a_32.n ∈ a_32.l)) = Bool.false →
  InR IntKind.i64 ((↑a_27 : Int) + (1 : Int)) ∧
  ∃ (a' : Nat), (↑a_27 : Int) + (1 : Int) = (↑a' : Int) ∧
  (!Decidable.decide (a_24.l = a_24.l2)) = !Decidable.decide (a_24.l = a_24.l2) ∧
  ((↑(bitsTo a_4 (5 : Nat)).length : Int) == (0 : Int)) = ((↑(bitsTo a_4 (5 : Nat)).length : Int) == (0 : Int)) ∧
  (0 : Nat) = (0 : Nat) ∧
  cutB a_6.fst a_6.snd = cutB a_6.fst a_6.snd ∧
  ((0 : Nat) = (0 : Nat) ∧
  (bitsTo a_4 (5 : Nat)).length = (bitsTo a_4 (5 : Nat)).length ∧
  b = b) ∧
  Bool.false = Bool.false ∧
  Bool.true = Bool.true ∧
  Bool.false = Bool.false ∧
  a.e = a.e ∧
  a.b = a.b ∧
  a.h = a.h ∧
  a.e = a.e ∧
  ((0 : Nat) = (0 : Nat) ∧
  a_13.l.length = a_13.l.length ∧
  b_3 = b_3) ∧
  ((0 : Nat) = (0 : Nat) ∧
  (ptsOf a_15.l).length = (ptsOf a_15.l).length ∧
  b_4 = b_4) ∧
  ((ptsOf a_15.l).length ≤ (ptsOf a_15.l).length ∧
  RowsEq (ptsOf a_15.l).length (2 : Nat) (encRows encPt (ptsOf a_15.l)) (encRows encPt (ptsOf a_15.l))) ∧
  (a_13.l.length ≤ a_13.l.length ∧
  RowsEq a_13.l.length (1 : Nat) (encRows encI a_13.l) (encRows encI a_13.l)) ∧
  ((bitsTo a_4 (5 : Nat)).length ≤ (bitsTo a_4 (5 : Nat)).length ∧
  RowsEq (bitsTo a_4 (5 : Nat)).length (1 : Nat) (encRows encI (bitsTo a_4 (5 : Nat))) (encRows encI (bitsTo a_4 (5 : Nat)))) ∧
  a' ≤ (7 : Nat) ∧
  (7 : Nat) - a' < (7 : Nat) - a_27)) ∧
  (Decidable.decide ((↑a_27 : Int) ≤ (6 : Int)) = Bool.false →
  ∃ (a_30 : OwnerA), (0 : Nat) = (0 : Nat) ∧
  a.h = a_30.h ∧
  a.e = a_30.r.e ∧
  ((0 : Nat) = (0 : Nat) ∧
  a_13.l.length = a_30.r.l.length ∧
  b_3 = a_30.r.c1) ∧
  ((0 : Nat) = (0 : Nat) ∧
  (ptsOf a_15.l).length = a_30.r.L.length ∧
  b_4 = a_30.r.c2) ∧
  (a_30.r.l.length ≤ a_13.l.length ∧
  RowsEq a_30.r.l.length (1 : Nat) (encRows encI a_13.l) (encRows encI a_30.r.l)) ∧
  (a_30.r.L.length ≤ (ptsOf a_15.l).length ∧
  RowsEq a_30.r.L.length (2 : Nat) (encRows encPt (ptsOf a_15.l)) (encRows encPt a_30.r.L)) ∧
  (a_30.r.L.length < (100000 : Nat) ∧
  (0 : Nat) < a_30.r.L.length) ∧
  ∀ (b_7 : Unit), True →
  ∃ (a_32 : ROwnA), ((0 : Nat) = (0 : Nat) ∧
  (bitsTo a_4 (5 : Nat)).length = a_32.l.length ∧
  b = a_32.cap) ∧
  a.h = a_32.h ∧
  (a_32.l.length ≤ (bitsTo a_4 (5 : Nat)).length ∧
  RowsEq a_32.l.length (1 : Nat) (encRows encI (bitsTo a_4 (5 : Nat))) (encRows encI a_32.l)) ∧
  a_32.l.length < (100000 : Nat) ∧
  ∀ (b_8 : Unit), True →
  ((ownP a_30.r.L a_30.h == refOwner a_32.l a_32.h) = Bool.true →
  ∃ (a_35 : ROfA), (0 : Nat) = (0 : Nat) ∧
  cutB a_6.fst a_6.snd = a_35.key ∧
  a.e = a_35.r.e ∧
  ((0 : Nat) = (0 : Nat) ∧
  a_13.l.length = a_35.r.l.length ∧
  b_3 = a_35.r.c1) ∧
  ((0 : Nat) = (0 : Nat) ∧
  (ptsOf a_15.l).length = a_35.r.L.length ∧
  b_4 = a_35.r.c2) ∧
  (a_35.r.l.length ≤ a_13.l.length ∧
  RowsEq a_35.r.l.length (1 : Nat) (encRows encI a_13.l) (encRows encI a_35.r.l)) ∧
  (a_35.r.L.length ≤ (ptsOf a_15.l).length ∧
  RowsEq a_35.r.L.length (2 : Nat) (encRows encPt (ptsOf a_15.l)) (encRows encPt a_35.r.L)) ∧
  (a_35.r.L.length < (100000 : Nat) ∧
  (0 : Nat) < a_35.r.L.length ∧
  a_35.key.size ≤ lenMax) ∧
  ∀ (b_9 : Unit), True →
  ∃ (a : OfA), ((0 : Nat) = (0 : Nat) ∧
  (1 : Nat) = a.n ∧
  (1 : Nat) = a.cap) ∧
  (a.n ≤ (1 : Nat) ∧
  RowsEq a.n (1 : Nat) (flatRows (1 : Nat) [Value.string (cutB a_6.fst a_6.snd)]) fun (i x : Nat) => Value.string (a.g i)) ∧
  (a.n < (100000 : Nat) ∧
  ∀ (i : Nat), i < a.n →
  (a.g i).size ≤ lenMax) ∧
  ∀ (b_10 : Unit), True →
  ∃ (a_37 : ROwnA), ((0 : Nat) = (0 : Nat) ∧
  (bitsTo a_4 (5 : Nat)).length = a_37.l.length ∧
  b = a_37.cap) ∧
  hashG a.g a.n = a_37.h ∧
  (a_37.l.length ≤ (bitsTo a_4 (5 : Nat)).length ∧
  RowsEq a_37.l.length (1 : Nat) (encRows encI (bitsTo a_4 (5 : Nat))) (encRows encI a_37.l)) ∧
  a_37.l.length < (100000 : Nat) ∧
  ∀ (b : Unit), True →
  ∃ (b : Unit), (ownP a_35.r.L (hashG (fun (x : Nat) => a_35.key) (1 : Nat)) == refOwner a_37.l a_37.h) = Bool.true ∧
  True ∧
  True) ∧
  ((ownP a_30.r.L a_30.h == refOwner a_32.l a_32.h) = Bool.false →
  ∃ (b : Unit), Bool.false = Bool.true ∧
  True ∧
  True))))))))))) (by kernel_rfl) (by
  rintro ⟨e, b, h, key⟩ hk
  dsimp only at hk
  have hone : RowsEq 1 1 (flatRows 1 [Go.Value.string (cutB key 60)]) (fun (i x : Nat) => Go.Value.string (cutB key 60)) := .of_cells fun i hi => by
    have : i = 0 := by omega
    subst this; rfl
  have hck := cut_size (n := 60) hk
  refine ⟨(), trivial, fun _ _ => ⟨b, ?_⟩⟩
  ((repeat' apply And.intro) <;> first | with_reducible rfl | omega | (dsimp only; omega) | exact RowsEq.refl _ _ _ | assumption | rfl | trivial | exact Nat.le_refl _ | skip)
  dsimp only
  refine fun cap _ => ⟨(key, 60), rfl, rfl, (by dsimp only; omega), fun _ _ => ?_⟩
  dsimp only
  generalize cutB key 60 = k at *
  have hl := bits_len b 5
  refine ⟨fun c1 => ⟨fun _ => ⟨(), rfl, trivial, trivial⟩, fun c => absurd (c1.symm.trans c) (by simp)⟩, fun c1 => ⟨fun c2 => ⟨fun _ => ⟨(), rfl, trivial, trivial⟩, fun _ => ⟨fun _ => ⟨(), rfl, trivial, trivial⟩, fun c => absurd (c2.symm.trans c) (by simp)⟩⟩, fun c2 => ⟨⟨bitsTo b 5, cap⟩, ?_⟩⟩⟩
  ((repeat' apply And.intro) <;> first | with_reducible rfl | omega | (dsimp only; omega) | exact RowsEq.refl _ _ _ | assumption | rfl | trivial | exact Nat.le_refl _ | skip)
  dsimp only
  refine fun _ _ => ⟨fun c3 => ⟨fun _ => ⟨(), rfl, trivial, trivial⟩, fun _ => ⟨fun _ => ⟨(), rfl, trivial, trivial⟩, fun _ => ⟨fun _ => ⟨(), rfl, trivial, trivial⟩, fun c4 => ?_⟩⟩⟩, fun c3 => ⟨⟨bitsTo b 5, cap⟩, ?_⟩⟩
  · simp only [beq_eq_false_iff_ne] at c4
    have := bits_may (b := b) (by omega)
    rw [this] at c3; simp at c3
  have hm : mayN (bitsTo b 5) = true := by simpa using c3
  have h0 := mayN_pos hm
  have h8 := ptsOf_length hm
  ((repeat' apply And.intro) <;> first | with_reducible rfl | omega | (dsimp only; omega) | exact RowsEq.refl _ _ _ | assumption | rfl | trivial | exact Nat.le_refl _ | skip)
  refine fun n1 _ => ⟨⟨bitsTo b 5, cap⟩, ?_⟩
  ((repeat' apply And.intro) <;> first | with_reducible rfl | omega | (dsimp only; omega) | exact RowsEq.refl _ _ _ | assumption | rfl | trivial | exact Nat.le_refl _ | skip)
  dsimp only
  refine fun n2 _ => ⟨fun c => absurd (c1.symm.trans c) (by simp), fun _ => ⟨fun c => absurd (c2.symm.trans c) (by simp), fun _ => ⟨fun c => (by exfalso; simp only [beq_iff_eq] at c; omega), fun _ _ => ⟨fun c => (by simp at c), fun _ => ⟨⟨e, bitsTo b 5, n1, ptsOf (bitsTo b 5), n2⟩, ?_⟩⟩⟩⟩⟩
  ((repeat' apply And.intro) <;> first | with_reducible rfl | omega | (dsimp only; omega) | exact RowsEq.refl _ _ _ | assumption | rfl | trivial | exact Nat.le_refl _ | skip)
  refine fun n3 _ => ⟨⟨bitsTo b 5, n3, bitsTo b 5, cap⟩, ?_⟩
  ((repeat' apply And.intro) <;> first | with_reducible rfl | omega | (dsimp only; omega) | exact RowsEq.refl _ _ _ | assumption | rfl | trivial | exact Nat.le_refl _ | skip)
  dsimp only
  refine fun _ _ => ⟨fun c => (by simp at c), fun _ => ⟨⟨0, ?_⟩, fun i hi => ⟨fun d1 => ⟨⟨⟨e, bitsTo b 5, n1, ptsOf (bitsTo b 5), n2⟩, (i : Int)⟩, ?_⟩, fun d1 => ⟨⟨⟨e, bitsTo b 5, n1, ptsOf (bitsTo b 5), n2⟩, h⟩, ?_⟩⟩⟩⟩
  · ((repeat' apply And.intro) <;> first | with_reducible rfl | omega | (dsimp only; omega) | exact RowsEq.refl _ _ _ | assumption | rfl | trivial | exact Nat.le_refl _ | skip)
  · simp only [decide_eq_true_eq] at d1
    ((repeat' apply And.intro) <;> first | with_reducible rfl | omega | (dsimp only; omega) | exact RowsEq.refl _ _ _ | assumption | rfl | trivial | exact Nat.le_refl _ | skip)
    refine fun _ _ => ⟨⟨bitsTo b 5, cap, (i : Int)⟩, ?_⟩
    ((repeat' apply And.intro) <;> first | with_reducible rfl | omega | (dsimp only; omega) | exact RowsEq.refl _ _ _ | assumption | rfl | trivial | exact Nat.le_refl _ | skip)
    dsimp only
    simp only [InR]
    refine fun _ _ => ⟨fun c => (by simp at c), fun _ => ⟨by omega, i + 1, ?_⟩⟩
    ((repeat' apply And.intro) <;> first | with_reducible rfl | omega | (dsimp only; omega) | exact RowsEq.refl _ _ _ | assumption | rfl | trivial | exact Nat.le_refl _ | skip)
  · ((repeat' apply And.intro) <;> first | with_reducible rfl | omega | (dsimp only; omega) | exact RowsEq.refl _ _ _ | assumption | rfl | trivial | exact Nat.le_refl _ | skip)
    refine fun _ _ => ⟨⟨bitsTo b 5, cap, h⟩, ?_⟩
    ((repeat' apply And.intro) <;> first | with_reducible rfl | omega | (dsimp only; omega) | exact RowsEq.refl _ _ _ | assumption | rfl | trivial | exact Nat.le_refl _ | skip)
    dsimp only
    rw [own_law hm]
    refine fun _ _ => ⟨fun _ => ⟨⟨⟨e, bitsTo b 5, n1, ptsOf (bitsTo b 5), n2⟩, k⟩, ?_⟩, fun c => (by simp at c)⟩
    ((repeat' apply And.intro) <;> first | with_reducible rfl | omega | (dsimp only; omega) | exact RowsEq.refl _ _ _ | assumption | rfl | trivial | exact Nat.le_refl _ | skip)
    refine fun _ _ => ⟨⟨fun _ => k, 1, 1⟩, ?_⟩
    ((repeat' apply And.intro) <;> first | with_reducible rfl | omega | (dsimp only; omega) | exact RowsEq.refl _ _ _ | assumption | rfl | trivial | exact Nat.le_refl _ | skip)
    refine fun _ _ => ⟨⟨bitsTo b 5, cap, hashG (fun _ => k) 1⟩, ?_⟩
    ((repeat' apply And.intro) <;> first | with_reducible rfl | omega | (dsimp only; omega) | exact RowsEq.refl _ _ _ | assumption | rfl | trivial | exact Nat.le_refl _ | skip)
    dsimp only
    exact fun _ _ => ⟨(), by rw [own_law hm, beq_self_eq_true], trivial, trivial⟩)
set_option maxHeartbeats 4000000 in
theorem bodyJoin : fnBody (Y Try.prog) tabRingN 5 cBnh fun _ => [] := fnBody.of (p :=
  ∀ (a : BhA), True →
  ∃ (a_2 : Unit), True ∧
  ∀ (b : Unit), True →
  (5 : Int) ≠ (0 : Int) ∧
  InR IntKind.i64 (a.n.tmod (5 : Int) + (5 : Int)) ∧
  (5 : Int) ≠ (0 : Int) ∧
  InR IntKind.i64 ((1 : Int) + (a.n.tmod (5 : Int) + (5 : Int)).tmod (5 : Int)) ∧
  InR IntKind.i64 ((1 : Int) + (a.n.tmod (5 : Int) + (5 : Int)).tmod (5 : Int) - (1 : Int)) ∧
  (0 : Int) ≤ uw IntKind.u64 ((1 : Int) + (a.n.tmod (5 : Int) + (5 : Int)).tmod (5 : Int) - (1 : Int)) ∧
  ∃ (a_4 : Int), ibits Go.BinOp.andNot IntKind.i64 a.b (IntKind.i64.wrap ((1 : Int) * (2 : Int) ^ Min.min (uw IntKind.u64 ((1 : Int) + (a.n.tmod (5 : Int) + (5 : Int)).tmod (5 : Int) - (1 : Int))).toNat (64 : Nat))) = a_4 ∧
  True ∧
  ∀ (b : Nat), True →
  InR IntKind.i64 ((1 : Int) + (a.n.tmod (5 : Int) + (5 : Int)).tmod (5 : Int) - (1 : Int)) ∧
  (0 : Int) ≤ uw IntKind.u64 ((1 : Int) + (a.n.tmod (5 : Int) + (5 : Int)).tmod (5 : Int) - (1 : Int)) ∧
  ∃ (a_6 : Int), ibits Go.BinOp.or IntKind.i64 a.b (IntKind.i64.wrap ((1 : Int) * (2 : Int) ^ Min.min (uw IntKind.u64 ((1 : Int) + (a.n.tmod (5 : Int) + (5 : Int)).tmod (5 : Int) - (1 : Int))).toNat (64 : Nat))) = a_6 ∧
  True ∧
  ∀ (b_1 : Nat), True →
  (((↑(bitsTo a_4 (5 : Nat)).length : Int) == (0 : Int)) = Bool.true →
  ∃ (b : Unit), Bool.true = Bool.true ∧
  True ∧
  True) ∧
  (((↑(bitsTo a_4 (5 : Nat)).length : Int) == (0 : Int)) = Bool.false →
  ∃ (a_9 : NewA), (1 : Int) = a_9.e ∧
  ((0 : Nat) = (0 : Nat) ∧
  (bitsTo a_4 (5 : Nat)).length = a_9.l.length ∧
  b = a_9.cap) ∧
  (a_9.l.length ≤ (bitsTo a_4 (5 : Nat)).length ∧
  RowsEq a_9.l.length (1 : Nat) (encRows encI (bitsTo a_4 (5 : Nat))) (encRows encI a_9.l)) ∧
  ((1 : Int) ≤ a_9.e ∧
  a_9.e ≤ (1099511627776 : Int) ∧
  mayN a_9.l = Bool.true) ∧
  ∀ (b : Nat × Nat), True →
  ∃ (a_11 : NewA), (2 : Int) = a_11.e ∧
  ((0 : Nat) = (0 : Nat) ∧
  (bitsTo a_6 (5 : Nat)).length = a_11.l.length ∧
  b_1 = a_11.cap) ∧
  (a_11.l.length ≤ (bitsTo a_6 (5 : Nat)).length ∧
  RowsEq a_11.l.length (1 : Nat) (encRows encI (bitsTo a_6 (5 : Nat))) (encRows encI a_11.l)) ∧
  ((1 : Int) ≤ a_11.e ∧
  a_11.e ≤ (1099511627776 : Int) ∧
  mayN a_11.l = Bool.true) ∧
  ∀ (b_2 : Nat × Nat), True →
  ∃ (a_13 : OwnerA), (0 : Nat) = (0 : Nat) ∧
  a.h = a_13.h ∧
  a_9.e = a_13.r.e ∧
  ((0 : Nat) = (0 : Nat) ∧
  a_9.l.length = a_13.r.l.length ∧
  b.fst = a_13.r.c1) ∧
  ((0 : Nat) = (0 : Nat) ∧
  (ptsOf a_9.l).length = a_13.r.L.length ∧
  b.snd = a_13.r.c2) ∧
  (a_13.r.l.length ≤ a_9.l.length ∧
  RowsEq a_13.r.l.length (1 : Nat) (encRows encI a_9.l) (encRows encI a_13.r.l)) ∧
  (a_13.r.L.length ≤ (ptsOf a_9.l).length ∧
  RowsEq a_13.r.L.length (2 : Nat) (encRows encPt (ptsOf a_9.l)) (encRows encPt a_13.r.L)) ∧
  (a_13.r.L.length < (100000 : Nat) ∧
  (0 : Nat) < a_13.r.L.length) ∧
  ∀ (b : Unit), True →
  ∃ (a_15 : OwnerA), (0 : Nat) = (0 : Nat) ∧
  a.h = a_15.h ∧
  a_11.e = a_15.r.e ∧
  ((0 : Nat) = (0 : Nat) ∧
  a_11.l.length = a_15.r.l.length ∧
  b_2.fst = a_15.r.c1) ∧
  ((0 : Nat) = (0 : Nat) ∧
  (ptsOf a_11.l).length = a_15.r.L.length ∧
  b_2.snd = a_15.r.c2) ∧
  (a_15.r.l.length ≤ a_11.l.length ∧
  RowsEq a_15.r.l.length (1 : Nat) (encRows encI a_11.l) (encRows encI a_15.r.l)) ∧
  (a_15.r.L.length ≤ (ptsOf a_11.l).length ∧
  RowsEq a_15.r.L.length (2 : Nat) (encRows encPt (ptsOf a_11.l)) (encRows encPt a_15.r.L)) ∧
  (a_15.r.L.length < (100000 : Nat) ∧
  (0 : Nat) < a_15.r.L.length) ∧
  ∀ (b : Unit), True →
  ((ownP a_15.r.L a_15.h == ownP a_13.r.L a_13.h) = Bool.true →
  ∃ (b : Unit), (ownP a_13.r.L a_13.h != (1 : Int) + (a.n.tmod (5 : Int) + (5 : Int)).tmod (5 : Int)) = Bool.true ∧
  True ∧
  True) ∧
  ((ownP a_15.r.L a_15.h == ownP a_13.r.L a_13.h) = Bool.false →
  ((ownP a_15.r.L a_15.h == (1 : Int) + (a.n.tmod (5 : Int) + (5 : Int)).tmod (5 : Int)) = Bool.true →
  ∃ (b : Unit), (ownP a_13.r.L a_13.h != (1 : Int) + (a.n.tmod (5 : Int) + (5 : Int)).tmod (5 : Int)) = Bool.true ∧
  True ∧
  True) ∧
  ((ownP a_15.r.L a_15.h == (1 : Int) + (a.n.tmod (5 : Int) + (5 : Int)).tmod (5 : Int)) = Bool.false →
  ∃ (b : Unit), Bool.false = Bool.true ∧
  True ∧
  True)))) (by kernel_rfl) (by
  rintro ⟨b, n, h⟩ _
  dsimp only
  have t0 : 0 ≤ (n.tmod 5 + 5).tmod 5 ∧ (n.tmod 5 + 5).tmod 5 < 5 := by
    have z1 := Int.tmod_lt_of_pos n (show (0 : Int) < 5 by decide)
    have z2 := Int.lt_tmod_of_pos n (show (0 : Int) < 5 by decide)
    rw [Int.tmod_eq_emod_of_nonneg (by omega)]
    omega
  have hr : -5 < n.tmod 5 ∧ n.tmod 5 < 5 := ⟨Int.lt_tmod_of_pos n (by decide), Int.tmod_lt_of_pos n (by decide)⟩
  generalize (n.tmod 5 + 5).tmod 5 = t at *
  obtain ⟨j, ej, hj, es⟩ := shl_pow t0.1 t0.2
  rw [es]
  have hu : 0 ≤ uw .u64 (1 + t - 1) := by simp only [uw]; omega
  obtain ⟨b1, b2⟩ := bits_join b hj
  generalize ibits .andNot .i64 b (2 ^ j) = p at *
  generalize ibits .or .i64 b (2 ^ j) = q at *
  simp only [InR]
  refine ⟨(), trivial, fun _ _ => ⟨by decide, by omega, by decide, by omega, by omega, hu, p, rfl, trivial, fun c1 _ => ⟨by omega, hu, q, rfl, trivial, fun c2 _ => ⟨fun _ => ⟨(), trivial, trivial, trivial⟩, fun c0 => ⟨⟨1, bitsTo p 5, c1⟩, ?_⟩⟩⟩⟩⟩
  simp only [beq_eq_false_iff_ne] at c0
  have hl := bits_len p 5
  have hl2 := bits_len q 5
  have hm := bits_may (b := p) (by omega)
  have hq0 : 0 < (bitsTo q 5).length := List.length_pos_of_mem ((b2 _).2 (.inr rfl))
  have hm2 := bits_may (b := q) hq0
  have h8 := ptsOf_length hm
  have h82 := ptsOf_length hm2
  ((repeat' apply And.intro) <;> first | with_reducible rfl | omega | (dsimp only; omega) | exact RowsEq.refl _ _ _ | assumption | rfl | trivial | exact Nat.le_refl _ | skip)
  refine fun c3 _ => ⟨⟨2, bitsTo q 5, c2⟩, ?_⟩
  ((repeat' apply And.intro) <;> first | with_reducible rfl | omega | (dsimp only; omega) | exact RowsEq.refl _ _ _ | assumption | rfl | trivial | exact Nat.le_refl _ | skip)
  refine fun c4 _ => ⟨⟨⟨1, bitsTo p 5, c3.1, ptsOf (bitsTo p 5), c3.2⟩, h⟩, ?_⟩
  ((repeat' apply And.intro) <;> first | with_reducible rfl | omega | (dsimp only; omega) | exact RowsEq.refl _ _ _ | assumption | rfl | trivial | exact Nat.le_refl _ | skip)
  refine fun _ _ => ⟨⟨⟨2, bitsTo q 5, c4.1, ptsOf (bitsTo q 5), c4.2⟩, h⟩, ?_⟩
  ((repeat' apply And.intro) <;> first | with_reducible rfl | omega | (dsimp only; omega) | exact RowsEq.refl _ _ _ | assumption | rfl | trivial | exact Nat.le_refl _ | skip)
  dsimp only
  obtain ⟨l1, l2⟩ := own_join hm hm2 b1 b2 h
  have en : 1 + t = (j : Int) + 1 := by omega
  rw [en]
  generalize ownP (ptsOf (bitsTo p 5)) h = x at *
  generalize ownP (ptsOf (bitsTo q 5)) h = y at *
  refine fun _ _ => ⟨fun _ => ⟨(), by simpa using l2, trivial, trivial⟩, fun d1 => ⟨fun _ => ⟨(), by simpa using l2, trivial, trivial⟩, fun d2 => ?_⟩⟩
  simp only [beq_eq_false_iff_ne] at d1 d2
  exact absurd l1 (by omega))
set_option maxHeartbeats 4000000 in
theorem bodyAlone : fnBody (Y Try.prog) tabRingN 7 cBnh fun _ => [] := fnBody.of (p :=
  ∀ (a : BhA), True →
  ∃ (a_2 : Unit), True ∧
  ∀ (b : Unit), True →
  (5 : Int) ≠ (0 : Int) ∧
  InR IntKind.i64 (a.b.tmod (5 : Int) + (5 : Int)) ∧
  (5 : Int) ≠ (0 : Int) ∧
  InR IntKind.i64 ((1 : Int) + (a.b.tmod (5 : Int) + (5 : Int)).tmod (5 : Int)) ∧
  ∃ (a_4 : Int), a.n = a_4 ∧
  True ∧
  ∀ (b : Nat), True →
  ∃ (a_6 : NewA), (1 : Int) = a_6.e ∧
  ((0 : Nat) = (0 : Nat) ∧
  (1 : Nat) = a_6.l.length ∧
  (1 : Nat) = a_6.cap) ∧
  (a_6.l.length ≤ (1 : Nat) ∧
  RowsEq a_6.l.length (1 : Nat) (flatRows (1 : Nat) [Value.int IntKind.i64 ((1 : Int) + (a.b.tmod (5 : Int) + (5 : Int)).tmod (5 : Int))]) (encRows encI a_6.l)) ∧
  ((1 : Int) ≤ a_6.e ∧
  a_6.e ≤ (1099511627776 : Int) ∧
  mayN a_6.l = Bool.true) ∧
  ∀ (b_1 : Nat × Nat), True →
  ∃ (a_8 : OwnerA), (0 : Nat) = (0 : Nat) ∧
  a.h = a_8.h ∧
  a_6.e = a_8.r.e ∧
  ((0 : Nat) = (0 : Nat) ∧
  a_6.l.length = a_8.r.l.length ∧
  b_1.fst = a_8.r.c1) ∧
  ((0 : Nat) = (0 : Nat) ∧
  (ptsOf a_6.l).length = a_8.r.L.length ∧
  b_1.snd = a_8.r.c2) ∧
  (a_8.r.l.length ≤ a_6.l.length ∧
  RowsEq a_8.r.l.length (1 : Nat) (encRows encI a_6.l) (encRows encI a_8.r.l)) ∧
  (a_8.r.L.length ≤ (ptsOf a_6.l).length ∧
  RowsEq a_8.r.L.length (2 : Nat) (encRows encPt (ptsOf a_6.l)) (encRows encPt a_8.r.L)) ∧
  (a_8.r.L.length < (100000 : Nat) ∧
  (0 : Nat) < a_8.r.L.length) ∧
  ∀ (b_2 : Unit), True →
  ((ownP a_8.r.L a_8.h != (1 : Int) + (a.b.tmod (5 : Int) + (5 : Int)).tmod (5 : Int)) = Bool.true →
  ∃ (b : Unit), Bool.false = Bool.true ∧
  True ∧
  True) ∧
  ((ownP a_8.r.L a_8.h != (1 : Int) + (a.b.tmod (5 : Int) + (5 : Int)).tmod (5 : Int)) = Bool.false →
  (((↑(bitsTo a_4 (5 : Nat)).length : Int) == (0 : Int)) = Bool.true →
  ∃ (b : Unit), Bool.true = Bool.true ∧
  True ∧
  True) ∧
  (((↑(bitsTo a_4 (5 : Nat)).length : Int) == (0 : Int)) = Bool.false →
  ∃ (a_12 : NewA), (1 : Int) = a_12.e ∧
  ((0 : Nat) = (0 : Nat) ∧
  (bitsTo a_4 (5 : Nat)).length = a_12.l.length ∧
  b = a_12.cap) ∧
  (a_12.l.length ≤ (bitsTo a_4 (5 : Nat)).length ∧
  RowsEq a_12.l.length (1 : Nat) (encRows encI (bitsTo a_4 (5 : Nat))) (encRows encI a_12.l)) ∧
  ((1 : Int) ≤ a_12.e ∧
  a_12.e ≤ (1099511627776 : Int) ∧
  mayN a_12.l = Bool.true) ∧
  ∀ (b : Nat × Nat), True →
  ∃ (a_14 : OwnerA), (0 : Nat) = (0 : Nat) ∧
  a.h = a_14.h ∧
  a_12.e = a_14.r.e ∧
  ((0 : Nat) = (0 : Nat) ∧
  a_12.l.length = a_14.r.l.length ∧
  b.fst = a_14.r.c1) ∧
  ((0 : Nat) = (0 : Nat) ∧
  (ptsOf a_12.l).length = a_14.r.L.length ∧
  b.snd = a_14.r.c2) ∧
  (a_14.r.l.length ≤ a_12.l.length ∧
  RowsEq a_14.r.l.length (1 : Nat) (encRows encI a_12.l) (encRows encI a_14.r.l)) ∧
  (a_14.r.L.length ≤ (ptsOf a_12.l).length ∧
  RowsEq a_14.r.L.length (2 : Nat) (encRows encPt (ptsOf a_12.l)) (encRows encPt a_14.r.L)) ∧
  (a_14.r.L.length < (100000 : Nat) ∧
  (0 : Nat) < a_14.r.L.length) ∧
  ∀ (b_3 : Unit), True →
  ∃ (a : RHasA), (0 : Nat) = (0 : Nat) ∧
  ownP a_14.r.L a_14.h = a.n ∧
  a_12.e = a.r.e ∧
  ((0 : Nat) = (0 : Nat) ∧
  a_12.l.length = a.r.l.length ∧
  b.fst = a.r.c1) ∧
  ((0 : Nat) = (0 : Nat) ∧
  (ptsOf a_12.l).length = a.r.L.length ∧
  b.snd = a.r.c2) ∧
  (a.r.l.length ≤ a_12.l.length ∧
  RowsEq a.r.l.length (1 : Nat) (encRows encI a_12.l) (encRows encI a.r.l)) ∧
  (a.r.L.length ≤ (ptsOf a_12.l).length ∧
  RowsEq a.r.L.length (2 : Nat) (encRows encPt (ptsOf a_12.l)) (encRows encPt a.r.L)) ∧
  a.r.l.length < (100000 : Nat) ∧
  ∀ (b : Unit), True →
  ∃ (b : Unit), Decidable.decide (a.n ∈ a.r.l) = Bool.true ∧
  True ∧
  True))) (by kernel_rfl) (by
  rintro ⟨n, b, h⟩ _
  dsimp only
  have t0 : 0 ≤ (n.tmod 5 + 5).tmod 5 ∧ (n.tmod 5 + 5).tmod 5 < 5 := by
    have z1 := Int.tmod_lt_of_pos n (show (0 : Int) < 5 by decide)
    have z2 := Int.lt_tmod_of_pos n (show (0 : Int) < 5 by decide)
    rw [Int.tmod_eq_emod_of_nonneg (by omega)]
    omega
  have hr : -5 < n.tmod 5 ∧ n.tmod 5 < 5 := ⟨Int.lt_tmod_of_pos n (by decide), Int.tmod_lt_of_pos n (by decide)⟩
  generalize (n.tmod 5 + 5).tmod 5 = t at *
  have hm1 := mayN_one (n := 1 + t) (by omega) (by omega)
  have h81 := ptsOf_length hm1
  have hone : RowsEq 1 1 (flatRows 1 [Go.Value.int Go.IntKind.i64 (1 + t)]) (encRows encI [1 + t]) := .of_cells fun i hi => by
    have : i = 0 := by omega
    subst this; rfl
  simp only [InR]
  refine ⟨(), trivial, fun _ _ => ⟨by decide, by omega, by decide, by omega, b, rfl, trivial, fun c1 _ => ⟨⟨1, [1 + t], 1⟩, ?_⟩⟩⟩
  have hl1 : [1 + t].length = 1 := rfl
  ((repeat' apply And.intro) <;> first | with_reducible rfl | omega | (dsimp only; omega) | exact RowsEq.refl _ _ _ | assumption | rfl | trivial | exact Nat.le_refl _ | skip)
  refine fun c3 _ => ⟨⟨⟨1, [1 + t], c3.1, ptsOf [1 + t], c3.2⟩, h⟩, ?_⟩
  ((repeat' apply And.intro) <;> first | with_reducible rfl | omega | (dsimp only; omega) | exact RowsEq.refl _ _ _ | assumption | rfl | trivial | exact Nat.le_refl _ | skip)
  have e1 : ownP (ptsOf [1 + t]) h = 1 + t := List.mem_singleton.1 (own_mem hm1 h)
  dsimp only
  rw [e1]
  refine fun _ _ => ⟨fun hc => (by simp at hc), fun _ => ⟨fun _ => ⟨(), trivial, trivial, trivial⟩, fun c0 => ⟨⟨1, bitsTo b 5, c1⟩, ?_⟩⟩⟩
  simp only [beq_eq_false_iff_ne] at c0
  have hl := bits_len b 5
  have hm := bits_may (b := b) (by omega)
  have h8 := ptsOf_length hm
  ((repeat' apply And.intro) <;> first | with_reducible rfl | omega | (dsimp only; omega) | exact RowsEq.refl _ _ _ | assumption | rfl | trivial | exact Nat.le_refl _ | skip)
  refine fun c4 _ => ⟨⟨⟨1, bitsTo b 5, c4.1, ptsOf (bitsTo b 5), c4.2⟩, h⟩, ?_⟩
  ((repeat' apply And.intro) <;> first | with_reducible rfl | omega | (dsimp only; omega) | exact RowsEq.refl _ _ _ | assumption | rfl | trivial | exact Nat.le_refl _ | skip)
  refine fun _ _ => ⟨⟨⟨1, bitsTo b 5, c4.1, ptsOf (bitsTo b 5), c4.2⟩, ownP (ptsOf (bitsTo b 5)) h⟩, ?_⟩
  ((repeat' apply And.intro) <;> first | with_reducible rfl | omega | (dsimp only; omega) | exact RowsEq.refl _ _ _ | assumption | rfl | trivial | exact Nat.le_refl _ | skip)
  exact fun _ _ => ⟨(), decide_eq_true (own_mem hm h), trivial, trivial⟩)
set_option maxHeartbeats 4000000 in
theorem bodyEpoch : fnBody (Y Try.prog) tabRingN 8 cEp fun _ => [] := fnBody.of (p :=
  ∀ (a : EpA), a.key.size ≤ lenMax →
  ∃ (a_2 : Unit), True ∧
  ∀ (b : Unit), True →
  ∃ (a_4 : Int), a.b = a_4 ∧
  True ∧
  ∀ (b : Nat), True →
  (((↑(bitsTo a_4 (5 : Nat)).length : Int) == (0 : Int)) = Bool.true →
  ∃ (b : Unit), Bool.true = Bool.true ∧
  True ∧
  True) ∧
  (((↑(bitsTo a_4 (5 : Nat)).length : Int) == (0 : Int)) = Bool.false →
  (Decidable.decide (a.x < (1 : Int)) = Bool.true →
  ∃ (b : Unit), Bool.true = Bool.true ∧
  True ∧
  True) ∧
  (Decidable.decide (a.x < (1 : Int)) = Bool.false →
  (Decidable.decide (a.y < (1 : Int)) = Bool.true →
  ∃ (b : Unit), Bool.true = Bool.true ∧
  True ∧
  True) ∧
  (Decidable.decide (a.y < (1 : Int)) = Bool.false →
  (Decidable.decide ((1099511627776 : Int) < a.x) = Bool.true →
  ∃ (b : Unit), Bool.true = Bool.true ∧
  True ∧
  True) ∧
  (Decidable.decide ((1099511627776 : Int) < a.x) = Bool.false →
  (Decidable.decide ((1099511627776 : Int) < a.y) = Bool.true →
  ∃ (b : Unit), Bool.true = Bool.true ∧
  True ∧
  True) ∧
  (Decidable.decide ((1099511627776 : Int) < a.y) = Bool.false →
  (Decidable.decide ((60 : Int) < (↑a.key.size : Int)) = Bool.true →
  ∃ (b : Unit), Bool.true = Bool.true ∧
  True ∧
  True) ∧
  (Decidable.decide ((60 : Int) < (↑a.key.size : Int)) = Bool.false →
  ∃ (a_12 : NewA), a.x = a_12.e ∧
  ((0 : Nat) = (0 : Nat) ∧
  (bitsTo a_4 (5 : Nat)).length = a_12.l.length ∧
  b = a_12.cap) ∧
  (a_12.l.length ≤ (bitsTo a_4 (5 : Nat)).length ∧
  RowsEq a_12.l.length (1 : Nat) (encRows encI (bitsTo a_4 (5 : Nat))) (encRows encI a_12.l)) ∧
  ((1 : Int) ≤ a_12.e ∧
  a_12.e ≤ (1099511627776 : Int) ∧
  mayN a_12.l = Bool.true) ∧
  ∀ (b_1 : Nat × Nat), True →
  ∃ (a_14 : NewA), a.y = a_14.e ∧
  ((0 : Nat) = (0 : Nat) ∧
  (bitsTo a_4 (5 : Nat)).length = a_14.l.length ∧
  b = a_14.cap) ∧
  (a_14.l.length ≤ (bitsTo a_4 (5 : Nat)).length ∧
  RowsEq a_14.l.length (1 : Nat) (encRows encI (bitsTo a_4 (5 : Nat))) (encRows encI a_14.l)) ∧
  ((1 : Int) ≤ a_14.e ∧
  a_14.e ≤ (1099511627776 : Int) ∧
  mayN a_14.l = Bool.true) ∧
  ∀ (b : Nat × Nat), True →
  ∃ (a_16 : ROfA), (0 : Nat) = (0 : Nat) ∧
  a.key = a_16.key ∧
  a_12.e = a_16.r.e ∧
  ((0 : Nat) = (0 : Nat) ∧
  a_12.l.length = a_16.r.l.length ∧
  b_1.fst = a_16.r.c1) ∧
  ((0 : Nat) = (0 : Nat) ∧
  (ptsOf a_12.l).length = a_16.r.L.length ∧
  b_1.snd = a_16.r.c2) ∧
  (a_16.r.l.length ≤ a_12.l.length ∧
  RowsEq a_16.r.l.length (1 : Nat) (encRows encI a_12.l) (encRows encI a_16.r.l)) ∧
  (a_16.r.L.length ≤ (ptsOf a_12.l).length ∧
  RowsEq a_16.r.L.length (2 : Nat) (encRows encPt (ptsOf a_12.l)) (encRows encPt a_16.r.L)) ∧
  (a_16.r.L.length < (100000 : Nat) ∧
  (0 : Nat) < a_16.r.L.length ∧
  a_16.key.size ≤ lenMax) ∧
  ∀ (b_2 : Unit), True →
  ∃ (a_18 : ROfA), (0 : Nat) = (0 : Nat) ∧
  a.key = a_18.key ∧
  a_14.e = a_18.r.e ∧
  ((0 : Nat) = (0 : Nat) ∧
  a_14.l.length = a_18.r.l.length ∧
  b.fst = a_18.r.c1) ∧
  ((0 : Nat) = (0 : Nat) ∧
  (ptsOf a_14.l).length = a_18.r.L.length ∧
  b.snd = a_18.r.c2) ∧
  (a_18.r.l.length ≤ a_14.l.length ∧
  RowsEq a_18.r.l.length (1 : Nat) (encRows encI a_14.l) (encRows encI a_18.r.l)) ∧
  (a_18.r.L.length ≤ (ptsOf a_14.l).length ∧
  RowsEq a_18.r.L.length (2 : Nat) (encRows encPt (ptsOf a_14.l)) (encRows encPt a_18.r.L)) ∧
  (a_18.r.L.length < (100000 : Nat) ∧
  (0 : Nat) < a_18.r.L.length ∧
  a_18.key.size ≤ lenMax) ∧
  ∀ (b : Unit), True →
  ((ownP a_16.r.L (hashG (fun (x : Nat) => a_16.key) (1 : Nat)) == ownP a_18.r.L (hashG (fun (x : Nat) => a_18.key) (1 : Nat))) = Bool.true →
  InR IntKind.i64 a_12.e →
  ((a_12.e == a.x) = Bool.true →
  InR IntKind.i64 a_14.e →
  ((a_14.e == a.y) = Bool.true →
  ∃ (a_25 : ROfA), (0 : Nat) = (0 : Nat) ∧
  a.key = a_25.key ∧
  a_12.e = a_25.r.e ∧
  ((0 : Nat) = (0 : Nat) ∧
  a_12.l.length = a_25.r.l.length ∧
  b_1.fst = a_25.r.c1) ∧
  ((0 : Nat) = (0 : Nat) ∧
  (ptsOf a_12.l).length = a_25.r.L.length ∧
  b_1.snd = a_25.r.c2) ∧
  (a_25.r.l.length ≤ a_12.l.length ∧
  RowsEq a_25.r.l.length (1 : Nat) (encRows encI a_12.l) (encRows encI a_25.r.l)) ∧
  (a_25.r.L.length ≤ (ptsOf a_12.l).length ∧
  RowsEq a_25.r.L.length (2 : Nat) (encRows encPt (ptsOf a_12.l)) (encRows encPt a_25.r.L)) ∧
  (a_25.r.L.length < (100000 : Nat) ∧
  (0 : Nat) < a_25.r.L.length ∧
  a_25.key.size ≤ lenMax) ∧
  ∀ (b : Unit), True →
  ∃ (a_27 : OfA), ((0 : Nat) = (0 : Nat) ∧
  (1 : Nat) = a_27.n ∧
  (1 : Nat) = a_27.cap) ∧
  (a_27.n ≤ (1 : Nat) ∧
  RowsEq a_27.n (1 : Nat) (flatRows (1 : Nat) [Value.string a.key]) fun (i x : Nat) => Value.string (a_27.g i)) ∧
  (a_27.n < (100000 : Nat) ∧
  ∀ (i : Nat), i < a_27.n →
  (a_27.g i).size ≤ lenMax) ∧
  ∀ (b : Unit), True →
  ∃ (a : OwnerA), (0 : Nat) = (0 : Nat) ∧
  hashG a_27.g a_27.n = a.h ∧
  a_12.e = a.r.e ∧
  ((0 : Nat) = (0 : Nat) ∧
  a_12.l.length = a.r.l.length ∧
  b_1.fst = a.r.c1) ∧
  ((0 : Nat) = (0 : Nat) ∧
  (ptsOf a_12.l).length = a.r.L.length ∧
  b_1.snd = a.r.c2) ∧
  (a.r.l.length ≤ a_12.l.length ∧
  RowsEq a.r.l.length (1 : Nat) (encRows encI a_12.l) (encRows encI a.r.l)) ∧
  (a.r.L.length ≤ (ptsOf a_12.l).length ∧
  RowsEq a.r.L.length (2 : Nat) (encRows encPt (ptsOf a_12.l)) (encRows encPt a.r.L)) ∧
  (a.r.L.length < (100000 : Nat) ∧
  (0 : Nat) < a.r.L.length) ∧
  ∀ (b : Unit), True →
  ∃ (b : Unit), (ownP a_25.r.L (hashG (fun (x : Nat) => a_25.key) (1 : Nat)) == ownP a.r.L a.h) = Bool.true ∧
  True ∧
  True) ∧
  ((a_14.e == a.y) = Bool.false →
  ∃ (b : Unit), Bool.false = Bool.true ∧
  True ∧
  True)) ∧
  ((a_12.e == a.x) = Bool.false →
  ∃ (b : Unit), Bool.false = Bool.true ∧
  True ∧
  True)) ∧
  ((ownP a_16.r.L (hashG (fun (x : Nat) => a_16.key) (1 : Nat)) == ownP a_18.r.L (hashG (fun (x : Nat) => a_18.key) (1 : Nat))) = Bool.false →
  ∃ (b : Unit), Bool.false = Bool.true ∧
  True ∧
  True)))))))) (by kernel_rfl) (by
  rintro ⟨b, x, y, key⟩ hk
  dsimp only at hk
  have hone : RowsEq 1 1 (flatRows 1 [Go.Value.string key]) (fun (i x : Nat) => Go.Value.string key) := .of_cells fun i hi => by
    have : i = 0 := by omega
    subst this; rfl
  refine ⟨(), trivial, fun _ _ => ⟨b, ?_⟩⟩
  ((repeat' apply And.intro) <;> first | with_reducible rfl | omega | (dsimp only; omega) | exact RowsEq.refl _ _ _ | assumption | rfl | trivial | exact Nat.le_refl _ | skip)
  dsimp only
  refine fun cap _ => ⟨fun _ => ⟨(), rfl, trivial, trivial⟩, fun c0 => ⟨fun _ => ⟨(), rfl, trivial, trivial⟩, fun c1 => ⟨fun _ => ⟨(), rfl, trivial, trivial⟩, fun c2 => ⟨fun _ => ⟨(), rfl, trivial, trivial⟩, fun c3 => ⟨fun _ => ⟨(), rfl, trivial, trivial⟩, fun c4 => ⟨fun _ => ⟨(), rfl, trivial, trivial⟩, fun c5 => ⟨⟨x, bitsTo b 5, cap⟩, ?_⟩⟩⟩⟩⟩⟩⟩
  simp only [decide_eq_false_iff_not, beq_eq_false_iff_ne] at c0 c1 c2 c3 c4 c5
  have hl := bits_len b 5
  have hm := bits_may (b := b) (by omega)
  have h8 := ptsOf_length hm
  ((repeat' apply And.intro) <;> first | with_reducible rfl | omega | (dsimp only; omega) | exact RowsEq.refl _ _ _ | assumption | rfl | trivial | exact Nat.le_refl _ | skip)
  refine fun d1 _ => ⟨⟨y, bitsTo b 5, cap⟩, ?_⟩
  ((repeat' apply And.intro) <;> first | with_reducible rfl | omega | (dsimp only; omega) | exact RowsEq.refl _ _ _ | assumption | rfl | trivial | exact Nat.le_refl _ | skip)
  refine fun d2 _ => ⟨⟨⟨x, bitsTo b 5, d1.1, ptsOf (bitsTo b 5), d1.2⟩, key⟩, ?_⟩
  ((repeat' apply And.intro) <;> first | with_reducible rfl | omega | (dsimp only; omega) | exact RowsEq.refl _ _ _ | assumption | rfl | trivial | exact Nat.le_refl _ | skip)
  refine fun _ _ => ⟨⟨⟨y, bitsTo b 5, d2.1, ptsOf (bitsTo b 5), d2.2⟩, key⟩, ?_⟩
  ((repeat' apply And.intro) <;> first | with_reducible rfl | omega | (dsimp only; omega) | exact RowsEq.refl _ _ _ | assumption | rfl | trivial | exact Nat.le_refl _ | skip)
  dsimp only
  refine fun _ _ => ⟨fun _ _ => ⟨fun _ _ => ⟨fun _ => ⟨⟨⟨x, bitsTo b 5, d1.1, ptsOf (bitsTo b 5), d1.2⟩, key⟩, ?_⟩, fun hc => (by simp at hc)⟩, fun hc => (by simp at hc)⟩, fun hc => (by simp at hc)⟩
  ((repeat' apply And.intro) <;> first | with_reducible rfl | omega | (dsimp only; omega) | exact RowsEq.refl _ _ _ | assumption | rfl | trivial | exact Nat.le_refl _ | skip)
  refine fun _ _ => ⟨⟨fun _ => key, 1, 1⟩, ?_⟩
  ((repeat' apply And.intro) <;> first | with_reducible rfl | omega | (dsimp only; omega) | exact RowsEq.refl _ _ _ | assumption | rfl | trivial | exact Nat.le_refl _ | skip)
  refine fun _ _ => ⟨⟨⟨x, bitsTo b 5, d1.1, ptsOf (bitsTo b 5), d1.2⟩, hashG (fun _ => key) 1⟩, ?_⟩
  ((repeat' apply And.intro) <;> first | with_reducible rfl | omega | (dsimp only; omega) | exact RowsEq.refl _ _ _ | assumption | rfl | trivial | exact Nat.le_refl _ | skip)
  exact fun _ _ => ⟨(), beq_self_eq_true _, trivial, trivial⟩)
structure OwS where
  i : Nat
  o : List Int
def iOw1 (a : Int × Int) : An := .flat 11 OwS (fun s y => (s.at_ (s.tg 7) (.arr 3 [.int .i64] y.o.length (encRows encI y.o))).int 10 y.i) (fun _ y => y.i ≤ y.o.length ∧ y.o.length = (bitsTo a.1 5).length) (fun _ y => y.o.length - y.i)
def iOw2 (a : Int × Int) : An := .flat 16 OwS (fun s y => (s.at_ (s.tg 11) (.arr 3 [.int .i64] y.o.length (encRows encI y.o))).int 12 y.i) (fun _ y => y.i ≤ y.o.length ∧ y.o.length = (bitsTo a.1 5).length) (fun _ y => y.o.length - y.i)
set_option maxHeartbeats 4000000 in
theorem bodyOwn : fnBody (Y Try.prog) tabRingN 9 cBh fun a => [(9, [iOw1 a, iOw2 a], [])] := fnBody.of (p :=
  ∀ (a : Int × Int), True →
  ∃ (a_2 : Unit), True ∧
  ∀ (b : Unit), True →
  ∃ (a_4 : Int), a.fst = a_4 ∧
  True ∧
  ∀ (b : Nat), True →
  (((↑(bitsTo a_4 (5 : Nat)).length : Int) == (0 : Int)) = Bool.true →
  ∃ (b : Unit), Bool.true = Bool.true ∧
  True ∧
  True) ∧
  (((↑(bitsTo a_4 (5 : Nat)).length : Int) == (0 : Int)) = Bool.false →
  (0 : Nat) + (bitsTo a_4 (5 : Nat)).length ≤ (bitsTo a_4 (5 : Nat)).length ∧
  (bitsTo a_4 (5 : Nat)).length * (8 : Nat) ≤ (140737488355328 : Nat) ∧
  ∀ (cap : Nat), (bitsTo a_4 (5 : Nat)).length ≤ cap →
  cap ≤ lenMax →
  ∃ (a_9 : NewA), (1 : Int) = a_9.e ∧
  ((0 : Nat) = (0 : Nat) ∧
  (bitsTo a_4 (5 : Nat)).length = a_9.l.length ∧
  cap = a_9.cap) ∧
  (a_9.l.length ≤ (bitsTo a_4 (5 : Nat)).length ∧
  RowsEq a_9.l.length (1 : Nat) (fun (i j : Nat) => encRows encI (bitsTo a_4 (5 : Nat)) ((0 : Nat) + i) j) (encRows encI a_9.l)) ∧
  ((1 : Int) ≤ a_9.e ∧
  a_9.e ≤ (1099511627776 : Int) ∧
  mayN a_9.l = Bool.true) ∧
  ∀ (b_1 : Nat × Nat), True →
  ∃ (a_11 : OwnerA), (0 : Nat) = (0 : Nat) ∧
  a.snd = a_11.h ∧
  a_9.e = a_11.r.e ∧
  ((0 : Nat) = (0 : Nat) ∧
  a_9.l.length = a_11.r.l.length ∧
  b_1.fst = a_11.r.c1) ∧
  ((0 : Nat) = (0 : Nat) ∧
  (ptsOf a_9.l).length = a_11.r.L.length ∧
  b_1.snd = a_11.r.c2) ∧
  (a_11.r.l.length ≤ a_9.l.length ∧
  RowsEq a_11.r.l.length (1 : Nat) (encRows encI a_9.l) (encRows encI a_11.r.l)) ∧
  (a_11.r.L.length ≤ (ptsOf a_9.l).length ∧
  RowsEq a_11.r.L.length (2 : Nat) (encRows encPt (ptsOf a_9.l)) (encRows encPt a_11.r.L)) ∧
  (a_11.r.L.length < (100000 : Nat) ∧
  (0 : Nat) < a_11.r.L.length) ∧
  ∀ (b_2 : Unit), True →
  (∃ (a_13 : OwS), (0 : Int) = (↑a_13.i : Int) ∧
  ownP a_11.r.L a_11.h = ownP a_11.r.L a_11.h ∧
  (0 : Nat) = (0 : Nat) ∧
  ((0 : Nat) = (0 : Nat) ∧
  (bitsTo a_4 (5 : Nat)).length = (bitsTo a_4 (5 : Nat)).length ∧
  cap = cap) ∧
  ((↑(bitsTo a_4 (5 : Nat)).length : Int) == (0 : Int)) = ((↑(bitsTo a_4 (5 : Nat)).length : Int) == (0 : Int)) ∧
  ((0 : Nat) = (0 : Nat) ∧
  (bitsTo a_4 (5 : Nat)).length = (bitsTo a_4 (5 : Nat)).length ∧
  b = b) ∧
  Bool.false = Bool.false ∧
  Bool.true = Bool.true ∧
  Bool.false = Bool.false ∧
  a.fst = a.fst ∧
  a.snd = a.snd ∧
  a_9.e = a_9.e ∧
  ((0 : Nat) = (0 : Nat) ∧
  a_9.l.length = a_9.l.length ∧
  b_1.fst = b_1.fst) ∧
  ((0 : Nat) = (0 : Nat) ∧
  (ptsOf a_9.l).length = (ptsOf a_9.l).length ∧
  b_1.snd = b_1.snd) ∧
  (a_9.l.length ≤ a_9.l.length ∧
  RowsEq a_9.l.length (1 : Nat) (encRows encI a_9.l) (encRows encI a_9.l)) ∧
  ((ptsOf a_9.l).length ≤ (ptsOf a_9.l).length ∧
  RowsEq (ptsOf a_9.l).length (2 : Nat) (encRows encPt (ptsOf a_9.l)) (encRows encPt (ptsOf a_9.l))) ∧
  (a_13.o.length ≤ (bitsTo a_4 (5 : Nat)).length ∧
  RowsEq a_13.o.length (1 : Nat) (fun (i j : Nat) => encRows encI (bitsTo a_4 (5 : Nat)) ((0 : Nat) + i) j) (encRows encI a_13.o)) ∧
  ((bitsTo a_4 (5 : Nat)).length ≤ (bitsTo a_4 (5 : Nat)).length ∧
  RowsEq (bitsTo a_4 (5 : Nat)).length (1 : Nat) (encRows encI (bitsTo a_4 (5 : Nat))) (encRows encI (bitsTo a_4 (5 : Nat)))) ∧
  (a_13.i ≤ a_13.o.length ∧
  a_13.o.length = (bitsTo a.fst (5 : Nat)).length) ∧
  True) ∧
  ∀ (a_13 : OwS), a_13.i ≤ a_13.o.length ∧
  a_13.o.length = (bitsTo a.fst (5 : Nat)).length →
  (Decidable.decide ((↑a_13.i : Int) < (↑(bitsTo a_4 (5 : Nat)).length : Int)) = Bool.true →
  ((0 : Int) ≤ (↑a_13.i : Int) ∧
  (↑a_13.i : Int) < (↑(bitsTo a_4 (5 : Nat)).length : Int)) ∧
  (0 : Nat) + (↑a_13.i : Int).toNat < a_13.o.length ∧
  InR IntKind.i64 ((↑a_13.i : Int) + (1 : Int)) ∧
  ∃ (a' : OwS), (↑a_13.i : Int) + (1 : Int) = (↑a'.i : Int) ∧
  ownP a_11.r.L a_11.h = ownP a_11.r.L a_11.h ∧
  (0 : Nat) = (0 : Nat) ∧
  ((0 : Nat) = (0 : Nat) ∧
  (bitsTo a_4 (5 : Nat)).length = (bitsTo a_4 (5 : Nat)).length ∧
  cap = cap) ∧
  ((↑(bitsTo a_4 (5 : Nat)).length : Int) == (0 : Int)) = ((↑(bitsTo a_4 (5 : Nat)).length : Int) == (0 : Int)) ∧
  ((0 : Nat) = (0 : Nat) ∧
  (bitsTo a_4 (5 : Nat)).length = (bitsTo a_4 (5 : Nat)).length ∧
  b = b) ∧
  Bool.false = Bool.false ∧
  Bool.true = Bool.true ∧
  Bool.false = Bool.false ∧
  a.fst = a.fst ∧
  a.snd = a.snd ∧
  a_9.e = a_9.e ∧
  ((0 : Nat) = (0 : Nat) ∧
  a_9.l.length = a_9.l.length ∧
  b_1.fst = b_1.fst) ∧
  ((0 : Nat) = (0 : Nat) ∧
  (ptsOf a_9.l).length = (ptsOf a_9.l).length ∧
  b_1.snd = b_1.snd) ∧
  (a_9.l.length ≤ a_9.l.length ∧
  RowsEq a_9.l.length (1 : Nat) (encRows encI a_9.l) (encRows encI a_9.l)) ∧
  ((ptsOf a_9.l).length ≤ (ptsOf a_9.l).length ∧
  RowsEq (ptsOf a_9.l).length (2 : Nat) (encRows encPt (ptsOf a_9.l)) (encRows encPt (ptsOf a_9.l))) ∧
  (a'.o.length ≤ a_13.o.length ∧
  RowsEq a'.o.length (1 : Nat) (updR (encRows encI a_13.o) ((0 : Nat) + (↑a_13.i : Int).toNat) (0 : Nat) [Value.int IntKind.i64 (9 : Int)]) (encRows encI a'.o)) ∧
  ((bitsTo a_4 (5 : Nat)).length ≤ (bitsTo a_4 (5 : Nat)).length ∧
  RowsEq (bitsTo a_4 (5 : Nat)).length (1 : Nat) (encRows encI (bitsTo a_4 (5 : Nat))) (encRows encI (bitsTo a_4 (5 : Nat)))) ∧
  (a'.i ≤ a'.o.length ∧
  a'.o.length = (bitsTo a.fst (5 : Nat)).length) ∧
  a'.o.length - a'.i < a_13.o.length - a_13.i) ∧
  (Decidable.decide ((↑a_13.i : Int) < (↑(bitsTo a_4 (5 : Nat)).length : Int)) = Bool.false →
  ∃ (a_16 : RingA), (0 : Nat) = (0 : Nat) ∧
  a_9.e = a_16.e ∧
  ((0 : Nat) = (0 : Nat) ∧
  a_9.l.length = a_16.l.length ∧
  b_1.fst = a_16.c1) ∧
  ((0 : Nat) = (0 : Nat) ∧
  (ptsOf a_9.l).length = a_16.L.length ∧
  b_1.snd = a_16.c2) ∧
  (a_16.l.length ≤ a_9.l.length ∧
  RowsEq a_16.l.length (1 : Nat) (encRows encI a_9.l) (encRows encI a_16.l)) ∧
  (a_16.L.length ≤ (ptsOf a_9.l).length ∧
  RowsEq a_16.L.length (2 : Nat) (encRows encPt (ptsOf a_9.l)) (encRows encPt a_16.L)) ∧
  a_16.l.length < (100000 : Nat) ∧
  ∀ (b_3 : Nat), True →
  (∃ (a_18 : OwS), (0 : Int) = (↑a_18.i : Int) ∧
  ((0 : Nat) = (0 : Nat) ∧
  a_16.l.length = a_16.l.length ∧
  b_3 = b_3) ∧
  Decidable.decide ((↑a_13.i : Int) < (↑(bitsTo a_4 (5 : Nat)).length : Int)) = Decidable.decide ((↑a_13.i : Int) < (↑(bitsTo a_4 (5 : Nat)).length : Int)) ∧
  (↑a_13.i : Int) = (↑a_13.i : Int) ∧
  ownP a_11.r.L a_11.h = ownP a_11.r.L a_11.h ∧
  (0 : Nat) = (0 : Nat) ∧
  ((0 : Nat) = (0 : Nat) ∧
  (bitsTo a_4 (5 : Nat)).length = (bitsTo a_4 (5 : Nat)).length ∧
  cap = cap) ∧
  ((↑(bitsTo a_4 (5 : Nat)).length : Int) == (0 : Int)) = ((↑(bitsTo a_4 (5 : Nat)).length : Int) == (0 : Int)) ∧
  ((0 : Nat) = (0 : Nat) ∧
  (bitsTo a_4 (5 : Nat)).length = (bitsTo a_4 (5 : Nat)).length ∧
  b = b) ∧
  Bool.false = Bool.false ∧
  Bool.true = Bool.true ∧
  Bool.false = Bool.false ∧
  a.fst = a.fst ∧
  a.snd = a.snd ∧
  (a_18.o.length ≤ a_16.l.length ∧
  RowsEq a_18.o.length (1 : Nat) (encRows encI a_16.l) (encRows encI a_18.o)) ∧
  a_9.e = a_9.e ∧
  ((0 : Nat) = (0 : Nat) ∧
  a_9.l.length = a_9.l.length ∧
  b_1.fst = b_1.fst) ∧
  ((0 : Nat) = (0 : Nat) ∧
  (ptsOf a_9.l).length = (ptsOf a_9.l).length ∧
  b_1.snd = b_1.snd) ∧
  (a_9.l.length ≤ a_9.l.length ∧
  RowsEq a_9.l.length (1 : Nat) (encRows encI a_9.l) (encRows encI a_9.l)) ∧
  ((ptsOf a_9.l).length ≤ (ptsOf a_9.l).length ∧
  RowsEq (ptsOf a_9.l).length (2 : Nat) (encRows encPt (ptsOf a_9.l)) (encRows encPt (ptsOf a_9.l))) ∧
  (a_13.o.length ≤ a_13.o.length ∧
  RowsEq a_13.o.length (1 : Nat) (encRows encI a_13.o) (encRows encI a_13.o)) ∧
  ((bitsTo a_4 (5 : Nat)).length ≤ (bitsTo a_4 (5 : Nat)).length ∧
  RowsEq (bitsTo a_4 (5 : Nat)).length (1 : Nat) (encRows encI (bitsTo a_4 (5 : Nat))) (encRows encI (bitsTo a_4 (5 : Nat)))) ∧
  (a_18.i ≤ a_18.o.length ∧
  a_18.o.length = (bitsTo a.fst (5 : Nat)).length) ∧
  True) ∧
  ∀ (a_18 : OwS), a_18.i ≤ a_18.o.length ∧
  a_18.o.length = (bitsTo a.fst (5 : Nat)).length →
  (Decidable.decide ((↑a_18.i : Int) < (↑a_16.l.length : Int)) = Bool.true →
  ((0 : Int) ≤ (↑a_18.i : Int) ∧
  (↑a_18.i : Int) < (↑a_16.l.length : Int)) ∧
  (0 : Nat) + (↑a_18.i : Int).toNat < a_18.o.length ∧
  InR IntKind.i64 ((↑a_18.i : Int) + (1 : Int)) ∧
  ∃ (a' : OwS), (↑a_18.i : Int) + (1 : Int) = (↑a'.i : Int) ∧
  ((0 : Nat) = (0 : Nat) ∧
  a_16.l.length = a_16.l.length ∧
  b_3 = b_3) ∧
  Decidable.decide ((↑a_13.i : Int) < (↑(bitsTo a_4 (5 : Nat)).length : Int)) = Decidable.decide ((↑a_13.i : Int) < (↑(bitsTo a_4 (5 : Nat)).length : Int)) ∧
  (↑a_13.i : Int) = (↑a_13.i : Int) ∧
  ownP a_11.r.L a_11.h = ownP a_11.r.L a_11.h ∧
  (0 : Nat) = (0 : Nat) ∧
  ((0 : Nat) = (0 : Nat) ∧
  (bitsTo a_4 (5 : Nat)).length = (bitsTo a_4 (5 : Nat)).length ∧
  cap = cap) ∧
  ((↑(bitsTo a_4 (5 : Nat)).length : Int) == (0 : Int)) = ((↑(bitsTo a_4 (5 : Nat)).length : Int) == (0 : Int)) ∧
  ((0 : Nat) = (0 : Nat) ∧
  (bitsTo a_4 (5 : Nat)).length = (bitsTo a_4 (5 : Nat)).length ∧
  b = b) ∧
  Bool.false = Bool.false ∧
  Bool.true = Bool.true ∧
  Bool.false = Bool.false ∧
  a.fst = a.fst ∧
  a.snd = a.snd ∧
  (a'.o.length ≤ a_18.o.length ∧
  RowsEq a'.o.length (1 : Nat) (updR (encRows encI a_18.o) ((0 : Nat) + (↑a_18.i : Int).toNat) (0 : Nat) [Value.int IntKind.i64 (8 : Int)]) (encRows encI a'.o)) ∧
  a_9.e = a_9.e ∧
  ((0 : Nat) = (0 : Nat) ∧
  a_9.l.length = a_9.l.length ∧
  b_1.fst = b_1.fst) ∧
  ((0 : Nat) = (0 : Nat) ∧
  (ptsOf a_9.l).length = (ptsOf a_9.l).length ∧
  b_1.snd = b_1.snd) ∧
  (a_9.l.length ≤ a_9.l.length ∧
  RowsEq a_9.l.length (1 : Nat) (encRows encI a_9.l) (encRows encI a_9.l)) ∧
  ((ptsOf a_9.l).length ≤ (ptsOf a_9.l).length ∧
  RowsEq (ptsOf a_9.l).length (2 : Nat) (encRows encPt (ptsOf a_9.l)) (encRows encPt (ptsOf a_9.l))) ∧
  (a_13.o.length ≤ a_13.o.length ∧
  RowsEq a_13.o.length (1 : Nat) (encRows encI a_13.o) (encRows encI a_13.o)) ∧
  ((bitsTo a_4 (5 : Nat)).length ≤ (bitsTo a_4 (5 : Nat)).length ∧
  RowsEq (bitsTo a_4 (5 : Nat)).length (1 : Nat) (encRows encI (bitsTo a_4 (5 : Nat))) (encRows encI (bitsTo a_4 (5 : Nat)))) ∧
  (a'.i ≤ a'.o.length ∧
  a'.o.length = (bitsTo a.fst (5 : Nat)).length) ∧
  a'.o.length - a'.i < a_18.o.length - a_18.i) ∧
  (Decidable.decide ((↑a_18.i : Int) < (↑a_16.l.length : Int)) = Bool.false →
  ∃ (a_21 : OwnerA), (0 : Nat) = (0 : Nat) ∧
  a.snd = a_21.h ∧
  a_9.e = a_21.r.e ∧
  ((0 : Nat) = (0 : Nat) ∧
  a_9.l.length = a_21.r.l.length ∧
  b_1.fst = a_21.r.c1) ∧
  ((0 : Nat) = (0 : Nat) ∧
  (ptsOf a_9.l).length = a_21.r.L.length ∧
  b_1.snd = a_21.r.c2) ∧
  (a_21.r.l.length ≤ a_9.l.length ∧
  RowsEq a_21.r.l.length (1 : Nat) (encRows encI a_9.l) (encRows encI a_21.r.l)) ∧
  (a_21.r.L.length ≤ (ptsOf a_9.l).length ∧
  RowsEq a_21.r.L.length (2 : Nat) (encRows encPt (ptsOf a_9.l)) (encRows encPt a_21.r.L)) ∧
  (a_21.r.L.length < (100000 : Nat) ∧
  (0 : Nat) < a_21.r.L.length) ∧
  ∀ (b : Unit), True →
  ((ownP a_21.r.L a_21.h == ownP a_11.r.L a_11.h) = Bool.true →
  ∃ (a : RingA), (0 : Nat) = (0 : Nat) ∧
  a_9.e = a.e ∧
  ((0 : Nat) = (0 : Nat) ∧
  a_9.l.length = a.l.length ∧
  b_1.fst = a.c1) ∧
  ((0 : Nat) = (0 : Nat) ∧
  (ptsOf a_9.l).length = a.L.length ∧
  b_1.snd = a.c2) ∧
  (a.l.length ≤ a_9.l.length ∧
  RowsEq a.l.length (1 : Nat) (encRows encI a_9.l) (encRows encI a.l)) ∧
  (a.L.length ≤ (ptsOf a_9.l).length ∧
  RowsEq a.L.length (2 : Nat) (encRows encPt (ptsOf a_9.l)) (encRows encPt a.L)) ∧
  a.l.length < (100000 : Nat) ∧
  ∀ (b : Nat), True →
  (((↑a.l.length : Int) == (↑(bitsTo a_4 (5 : Nat)).length : Int)) = Bool.true →
  ((0 : Int) ≤ (0 : Int) ∧
  (0 : Int) < (↑(bitsTo a_4 (5 : Nat)).length : Int)) ∧
  (0 : Nat) < (bitsTo a_4 (5 : Nat)).length ∧
  (InR IntKind.i64 (gl (bitsTo a_4 (5 : Nat)) (0 : Nat)) →
  ∃ (a : RingA), (0 : Nat) = (0 : Nat) ∧
  a_9.e = a.e ∧
  ((0 : Nat) = (0 : Nat) ∧
  a_9.l.length = a.l.length ∧
  b_1.fst = a.c1) ∧
  ((0 : Nat) = (0 : Nat) ∧
  (ptsOf a_9.l).length = a.L.length ∧
  b_1.snd = a.c2) ∧
  (a.l.length ≤ a_9.l.length ∧
  RowsEq a.l.length (1 : Nat) (encRows encI a_9.l) (encRows encI a.l)) ∧
  (a.L.length ≤ (ptsOf a_9.l).length ∧
  RowsEq a.L.length (2 : Nat) (encRows encPt (ptsOf a_9.l)) (encRows encPt a.L)) ∧
  a.l.length < (100000 : Nat) ∧
  ∀ (b : Nat), True →
  ((0 : Int) ≤ (0 : Int) ∧
  (0 : Int) < (↑a.l.length : Int)) ∧
  (0 : Nat) < a.l.length ∧
  (InR IntKind.i64 (gl a.l (0 : Nat)) →
  ∃ (b : Unit), (gl a.l (0 : Nat) == gl (bitsTo a_4 (5 : Nat)) (0 : Nat)) = Bool.true ∧
  True ∧
  True))) ∧
  (((↑a.l.length : Int) == (↑(bitsTo a_4 (5 : Nat)).length : Int)) = Bool.false →
  ∃ (b : Unit), Bool.false = Bool.true ∧
  True ∧
  True)) ∧
  ((ownP a_21.r.L a_21.h == ownP a_11.r.L a_11.h) = Bool.false →
  ∃ (b : Unit), Bool.false = Bool.true ∧
  True ∧
  True))))) (by kernel_rfl) (by
  rintro ⟨b, h⟩ _
  refine ⟨(), trivial, fun _ _ => ⟨b, ?_⟩⟩
  ((repeat' apply And.intro) <;> first | with_reducible rfl | omega | (dsimp only; omega) | exact RowsEq.refl _ _ _ | assumption | rfl | trivial | exact Nat.le_refl _ | skip)
  dsimp only
  refine fun cap _ => ⟨fun _ => ⟨(), rfl, trivial, trivial⟩, fun c0 => ?_⟩
  simp only [beq_eq_false_iff_ne] at c0
  have hl := bits_len b 5
  have hm := bits_may (b := b) (by omega)
  have h8 := ptsOf_length hm
  have hset : ∀ (o : List Int) (i : Nat) (x : Int), i < o.length → RowsEq (o.set i x).length 1 (updR (encRows encI o) i 0 [Go.Value.int Go.IntKind.i64 x]) (encRows encI (o.set i x)) := fun o i x hi => by
    refine .set _ hi (fun k hk => by simp only [updR_other hk]) ?_
    simp only [updR_self]; rfl
  have hsl : ∀ (o : List Int) (i : Nat) (x : Int), (o.set i x).length = o.length := fun _ _ _ => List.length_set
  simp only [Nat.zero_add, Int.toNat_natCast, InR]
  refine ⟨by omega, by omega, fun oc _ _ => ⟨⟨1, bitsTo b 5, oc⟩, ?_⟩⟩
  ((repeat' apply And.intro) <;> first | with_reducible rfl | omega | (dsimp only; omega) | exact RowsEq.refl _ _ _ | assumption | rfl | trivial | exact Nat.le_refl _ | skip)
  refine fun c _ => ⟨⟨⟨1, bitsTo b 5, c.1, ptsOf (bitsTo b 5), c.2⟩, h⟩, ?_⟩
  ((repeat' apply And.intro) <;> first | with_reducible rfl | omega | (dsimp only; omega) | exact RowsEq.refl _ _ _ | assumption | rfl | trivial | exact Nat.le_refl _ | skip)
  refine fun _ _ => ⟨⟨⟨0, bitsTo b 5⟩, ?_⟩, fun y ⟨y1, y2⟩ => ⟨fun d1 => ?_, fun d1 => ⟨⟨1, bitsTo b 5, c.1, ptsOf (bitsTo b 5), c.2⟩, ?_⟩⟩⟩
  · ((repeat' apply And.intro) <;> first | with_reducible rfl | omega | (dsimp only; omega) | exact RowsEq.refl _ _ _ | assumption | rfl | trivial | exact Nat.le_refl _ | skip)
  · simp only [decide_eq_true_eq] at d1
    have hi : y.i < y.o.length := by omega
    refine ⟨by omega, hi, by omega, ⟨y.i + 1, y.o.set y.i 9⟩, ?_⟩
    have hs := hset y.o y.i 9 hi
    have hq := hsl y.o y.i 9
    ((repeat' apply And.intro) <;> first | with_reducible rfl | omega | (dsimp only; omega) | exact RowsEq.refl _ _ _ | assumption | rfl | trivial | exact Nat.le_refl _ | skip)
  ((repeat' apply And.intro) <;> first | with_reducible rfl | omega | (dsimp only; omega) | exact RowsEq.refl _ _ _ | assumption | rfl | trivial | exact Nat.le_refl _ | skip)
  refine fun c2 _ => ⟨⟨⟨0, bitsTo b 5⟩, ?_⟩, fun z ⟨z1, z2⟩ => ⟨fun d2 => ?_, fun d2 => ⟨⟨⟨1, bitsTo b 5, c.1, ptsOf (bitsTo b 5), c.2⟩, h⟩, ?_⟩⟩⟩
  · ((repeat' apply And.intro) <;> first | with_reducible rfl | omega | (dsimp only; omega) | exact RowsEq.refl _ _ _ | assumption | rfl | trivial | exact Nat.le_refl _ | skip)
  · dsimp only at d2 ⊢
    simp only [decide_eq_true_eq] at d2
    have hi : z.i < z.o.length := by omega
    refine ⟨by omega, hi, by omega, ⟨z.i + 1, z.o.set z.i 8⟩, ?_⟩
    have hs := hset z.o z.i 8 hi
    have hq := hsl z.o z.i 8
    ((repeat' apply And.intro) <;> first | with_reducible rfl | omega | (dsimp only; omega) | exact RowsEq.refl _ _ _ | assumption | rfl | trivial | exact Nat.le_refl _ | skip)
  ((repeat' apply And.intro) <;> first | with_reducible rfl | omega | (dsimp only; omega) | exact RowsEq.refl _ _ _ | assumption | rfl | trivial | exact Nat.le_refl _ | skip)
  dsimp only
  refine fun _ _ => ⟨fun _ => ⟨⟨1, bitsTo b 5, c.1, ptsOf (bitsTo b 5), c.2⟩, ?_⟩, fun hc => (by simp at hc)⟩
  ((repeat' apply And.intro) <;> first | with_reducible rfl | omega | (dsimp only; omega) | exact RowsEq.refl _ _ _ | assumption | rfl | trivial | exact Nat.le_refl _ | skip)
  dsimp only
  refine fun c3 _ => ⟨fun _ => ?_, fun hc => (by simp at hc)⟩
  ((repeat' apply And.intro) <;> first | with_reducible rfl | omega | (dsimp only; omega) | exact RowsEq.refl _ _ _ | assumption | rfl | trivial | exact Nat.le_refl _ | skip)
  refine fun _ => ⟨⟨1, bitsTo b 5, c.1, ptsOf (bitsTo b 5), c.2⟩, ?_⟩
  ((repeat' apply And.intro) <;> first | with_reducible rfl | omega | (dsimp only; omega) | exact RowsEq.refl _ _ _ | assumption | rfl | trivial | exact Nat.le_refl _ | skip)
  dsimp only
  intro c4 _
  ((repeat' apply And.intro) <;> first | with_reducible rfl | omega | (dsimp only; omega) | exact RowsEq.refl _ _ _ | assumption | rfl | trivial | exact Nat.le_refl _ | skip)
  exact fun _ => ⟨(), beq_self_eq_true _, trivial, trivial⟩)

theorem instNear : ∀ ads, okADs [.int .i64, .int .i64, .int .i64, .int .i64] ads → ∃ a : NearA, cNear.pre a ∧ cNear.args a = svs 0 ads ∧ cNear.ro a = chs 0 [.int .i64, .int .i64, .int .i64, .int .i64] ads ∧ cNear.m = slcs ads := by
  rintro ads ⟨_, _, rfl, ⟨a, rfl, _⟩, _, _, rfl, ⟨b, rfl, _⟩, _, _, rfl, ⟨c, rfl, _⟩, _, _, rfl, ⟨d, rfl, _⟩, rfl⟩
  exact ⟨⟨a, b, c, d⟩, trivial, rfl, rfl, rfl⟩
theorem instOwner : ∀ ads, okADs [.int .i64, .int .i64, .int .u64, .str] ads → ∃ a : OwnA, cOwn.pre a ∧ cOwn.args a = svs 0 ads ∧ cOwn.ro a = chs 0 [.int .i64, .int .i64, .int .u64, .str] ads ∧ cOwn.m = slcs ads := by
  rintro ads ⟨_, _, rfl, ⟨a, rfl, _⟩, _, _, rfl, ⟨b, rfl, _⟩, _, _, rfl, ⟨c, rfl, _⟩, _, _, rfl, ⟨s, rfl, hs⟩, rfl⟩
  exact ⟨⟨a, b, c, s⟩, hs, rfl, rfl, rfl⟩
theorem instBnh : ∀ ads, okADs [.int .i64, .int .i64, .int .u64] ads → ∃ a : BhA, cBnh.pre a ∧ cBnh.args a = svs 0 ads ∧ cBnh.ro a = chs 0 [.int .i64, .int .i64, .int .u64] ads ∧ cBnh.m = slcs ads := by
  rintro ads ⟨_, _, rfl, ⟨a, rfl, _⟩, _, _, rfl, ⟨b, rfl, _⟩, _, _, rfl, ⟨c, rfl, _⟩, rfl⟩
  exact ⟨⟨a, b, c⟩, trivial, rfl, rfl, rfl⟩
theorem instEp : ∀ ads, okADs [.int .i64, .int .i64, .int .i64, .str] ads → ∃ a : EpA, cEp.pre a ∧ cEp.args a = svs 0 ads ∧ cEp.ro a = chs 0 [.int .i64, .int .i64, .int .i64, .str] ads ∧ cEp.m = slcs ads := by
  rintro ads ⟨_, _, rfl, ⟨a, rfl, _⟩, _, _, rfl, ⟨b, rfl, _⟩, _, _, rfl, ⟨c, rfl, _⟩, _, _, rfl, ⟨s, rfl, hs⟩, rfl⟩
  exact ⟨⟨a, b, c, s⟩, hs, rfl, rfl, rfl⟩
theorem instBh : ∀ ads, okADs [.int .i64, .int .u64] ads → ∃ a : Int × Int, cBh.pre a ∧ cBh.args a = svs 0 ads ∧ cBh.ro a = chs 0 [.int .i64, .int .u64] ads ∧ cBh.m = slcs ads := by
  rintro ads ⟨_, _, rfl, ⟨a, rfl, _⟩, _, _, rfl, ⟨b, rfl, _⟩, rfl⟩
  exact ⟨(a, b), trivial, rfl, rfl, rfl⟩
end Go.Proofs.Ytjhjachkconneaa
