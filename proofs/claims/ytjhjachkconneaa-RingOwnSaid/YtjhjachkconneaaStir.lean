/-
  The layer mix: what the hash of texts comes to, a number stirred, a node's point; likewise as the document says it; no condition but that lists are short.
-/
import Derived.Test.YtjhjachkconneaaK
namespace Go.Proofs.Ytjhjachkconneaa
open Go.Sx
set_option maxRecDepth 100000
set_option linter.unusedVariables false

def x64 (a b : Int) : Int := ibits .xor .u64 a b
def w64 (a : Int) : Int := uw .u64 a
def stir1 (x : Int) : Int := w64 (x64 x (x / 1073741824) * 13787848793156543929)
def stir2 (x : Int) : Int := w64 (x64 x (x / 134217728) * 10723151780598845931)
def stir3 (x : Int) : Int := x64 x (x / 2147483648)
def stirI (x : Int) : Int := stir3 (stir2 (stir1 x))
noncomputable def cStir : Con where
  α := Int
  β := Unit
  m := 0
  m' := 0
  pre := fun _ => True
  args := fun a => [.a (.int .u64 a)]
  hp := fun _ => []
  ro := fun _ => []
  post := fun _ _ => True
  res := fun a _ => .a (.int .u64 (stirI a))
  hp' := fun _ _ => []
set_option maxHeartbeats 4000000 in
theorem bodyStir : fnBody (Y Try.prog) [] 36 cStir fun _ => [] := fnBody.of (p :=
  ∀ (a : Int), True →
  (0 : Int) ≤ (30 : Int) ∧
  (0 : Int) ≤ (27 : Int) ∧
  (0 : Int) ≤ (31 : Int) ∧
  ∃ (b : Unit), ibits Go.BinOp.xor IntKind.u64 (uw IntKind.u64 (ibits Go.BinOp.xor IntKind.u64 (uw IntKind.u64 (ibits Go.BinOp.xor IntKind.u64 a (a / (1073741824 : Int)) * (13787848793156543929 : Int))) (uw IntKind.u64 (ibits Go.BinOp.xor IntKind.u64 a (a / (1073741824 : Int)) * (13787848793156543929 : Int)) / (134217728 : Int)) * (10723151780598845931 : Int))) (uw IntKind.u64 (ibits Go.BinOp.xor IntKind.u64 (uw IntKind.u64 (ibits Go.BinOp.xor IntKind.u64 a (a / (1073741824 : Int)) * (13787848793156543929 : Int))) (uw IntKind.u64 (ibits Go.BinOp.xor IntKind.u64 a (a / (1073741824 : Int)) * (13787848793156543929 : Int)) / (134217728 : Int)) * (10723151780598845931 : Int)) / (2147483648 : Int)) = stirI a ∧
  True ∧
  True) (by kernel_rfl) (by
  intro a _
  exact ⟨by decide, by decide, by decide, (), rfl, trivial, trivial⟩)
theorem callStir : CallsBy (Y Try.prog).G.X 36 cStir := fn_ok okY (tab := []) trivial bodyStir

/-- behind i bytes -/
def hashTo (h : Int) (b : ByteArray) : Nat → Int
  | 0 => h
  | i + 1 => w64 (stirI (x64 (hashTo h b i) ((b.data.getD i 0).toNat : Int)) + 1)
def hash1 (h : Int) (b : ByteArray) : Int := stirI (x64 (hashTo h b b.size) (w64 (256 + w64 b.size)))
def hashG (g : Nat → ByteArray) : Nat → Int
  | 0 => 11400714819323198485
  | i + 1 => hash1 (hashG g i) (g i)
structure OfA where
  g : Nat → ByteArray
  n : Nat
  cap : Nat
noncomputable def cMixOf : Con where
  α := OfA
  β := Unit
  m := 1
  m' := 1
  pre := fun a => a.n < 100000 ∧ ∀ i, i < a.n → (a.g i).size ≤ lenMax
  args := fun a => [.a (.slc 0 0 1 a.n a.cap)]
  hp := fun _ => []
  ro := fun a => [(0, .arr 9 [.str] a.n (fun i _ => .string (a.g i)))]
  post := fun _ _ => True
  res := fun a _ => .a (.int .u64 (hashG a.g a.n))
  hp' := fun _ _ => []
def iOf2 (a : OfA) (i : Nat) : An := .flat 6 Nat (fun s j => (s.int 15 j).set 3 (.a (.int .u64 (hashTo (hashG a.g i) (a.g i) j)))) (fun _ j => j ≤ (a.g i).size) (fun _ j => (a.g i).size - j)
def iOf1 (a : OfA) : An := .mk 3 Nat (fun s i => (s.int 9 i).set 3 (.a (.int .u64 (hashG a.g i)))) (fun _ i => i ≤ a.n) (fun _ i => a.n - i) (fun i => .mk 60 [iOf2 a i] [])
set_option maxHeartbeats 4000000 in
theorem bodyMixOf : fnBody (Y Try.prog) [(36, cStir)] 29 cMixOf fun a => [(29, [iOf1 a], [])] := fnBody.of (p :=
  ∀ (a : OfA), (a.n < (100000 : Nat) ∧
  ∀ (i : Nat), i < a.n →
  (a.g i).size ≤ lenMax) →
  (∃ (a_2 : Nat), (11400714819323198485 : Int) = hashG a.g a_2 ∧
  (0 : Int) = (↑a_2 : Int) ∧
  (↑a.n : Int) = (↑a.n : Int) ∧
  ((0 : Nat) = (0 : Nat) ∧
  a.n = a.n ∧
  a.cap = a.cap) ∧
  (0 : Int) = (0 : Int) ∧
  ((0 : Nat) = (0 : Nat) ∧
  a.n = a.n ∧
  a.cap = a.cap) ∧
  (a.n ≤ a.n ∧
  RowsEq a.n (1 : Nat) (fun (i x : Nat) => Value.string (a.g i)) fun (i x : Nat) => Value.string (a.g i)) ∧
  a_2 ≤ a.n ∧
  True) ∧
  ∀ (a_2 : Nat), a_2 ≤ a.n →
  (Decidable.decide ((↑a_2 : Int) < (↑a.n : Int)) = Bool.true →
  ((0 : Int) ≤ (↑a_2 : Int) ∧
  (↑a_2 : Int) < (↑a.n : Int)) ∧
  (0 : Nat) + (↑a_2 : Int).toNat < a.n ∧
  (∃ (a_5 : Nat), hashG a.g a_2 = hashTo (hashG a.g a_2) (a.g a_2) a_5 ∧
  (0 : Int) = (↑a_5 : Int) ∧
  (↑(a.g ((0 : Nat) + (↑a_2 : Int).toNat)).size : Int) = (↑(a.g ((0 : Nat) + (↑a_2 : Int).toNat)).size : Int) ∧
  a.g ((0 : Nat) + (↑a_2 : Int).toNat) = a.g ((0 : Nat) + (↑a_2 : Int).toNat) ∧
  Decidable.decide ((↑a_2 : Int) < (↑a.n : Int)) = Decidable.decide ((↑a_2 : Int) < (↑a.n : Int)) ∧
  (↑a_2 : Int) = (↑a_2 : Int) ∧
  (↑a.n : Int) = (↑a.n : Int) ∧
  ((0 : Nat) = (0 : Nat) ∧
  a.n = a.n ∧
  a.cap = a.cap) ∧
  (0 : Int) = (0 : Int) ∧
  ((0 : Nat) = (0 : Nat) ∧
  a.n = a.n ∧
  a.cap = a.cap) ∧
  (a.n ≤ a.n ∧
  RowsEq a.n (1 : Nat) (fun (i x : Nat) => Value.string (a.g i)) fun (i x : Nat) => Value.string (a.g i)) ∧
  a_5 ≤ (a.g a_2).size ∧
  True) ∧
  ∀ (a_5 : Nat), a_5 ≤ (a.g a_2).size →
  (Decidable.decide ((↑a_5 : Int) < (↑(a.g ((0 : Nat) + (↑a_2 : Int).toNat)).size : Int)) = Bool.true →
  ((0 : Int) ≤ (↑a_5 : Int) ∧
  (↑a_5 : Int) < (↑(a.g ((0 : Nat) + (↑a_2 : Int).toNat)).size : Int)) ∧
  ∃ (a_8 : Int), ibits Go.BinOp.xor IntKind.u64 (hashTo (hashG a.g a_2) (a.g a_2) a_5) (↑((a.g ((0 : Nat) + (↑a_2 : Int).toNat)).data.getD (↑a_5 : Int).toNat (0 : UInt8)).toNat : Int) = a_8 ∧
  True ∧
  ∀ (b : Unit), True →
  InR IntKind.i64 ((↑a_5 : Int) + (1 : Int)) ∧
  ∃ (a' : Nat), uw IntKind.u64 (stirI a_8 + (1 : Int)) = hashTo (hashG a.g a_2) (a.g a_2) a' ∧
  (↑a_5 : Int) + (1 : Int) = (↑a' : Int) ∧
  (↑(a.g ((0 : Nat) + (↑a_2 : Int).toNat)).size : Int) = (↑(a.g ((0 : Nat) + (↑a_2 : Int).toNat)).size : Int) ∧
  a.g ((0 : Nat) + (↑a_2 : Int).toNat) = a.g ((0 : Nat) + (↑a_2 : Int).toNat) ∧
  Decidable.decide ((↑a_2 : Int) < (↑a.n : Int)) = Decidable.decide ((↑a_2 : Int) < (↑a.n : Int)) ∧
  (↑a_2 : Int) = (↑a_2 : Int) ∧
  (↑a.n : Int) = (↑a.n : Int) ∧
  ((0 : Nat) = (0 : Nat) ∧
  a.n = a.n ∧
  a.cap = a.cap) ∧
  (0 : Int) = (0 : Int) ∧
  ((0 : Nat) = (0 : Nat) ∧
  a.n = a.n ∧
  a.cap = a.cap) ∧
  (a.n ≤ a.n ∧
  RowsEq a.n (1 : Nat) (fun (i x : Nat) => Value.string (a.g i)) fun (i x : Nat) => Value.string (a.g i)) ∧
  a' ≤ (a.g a_2).size ∧
  (a.g a_2).size - a' < (a.g a_2).size - a_5) ∧
  (Decidable.decide ((↑a_5 : Int) < (↑(a.g ((0 : Nat) + (↑a_2 : Int).toNat)).size : Int)) = Bool.false →
  ∃ (a_8 : Int), ibits Go.BinOp.xor IntKind.u64 (hashTo (hashG a.g a_2) (a.g a_2) a_5) (uw IntKind.u64 ((256 : Int) + uw IntKind.u64 (↑(a.g ((0 : Nat) + (↑a_2 : Int).toNat)).size : Int))) = a_8 ∧
  True ∧
  ∀ (b : Unit), True →
  InR IntKind.i64 ((↑a_2 : Int) + (1 : Int)) ∧
  ∃ (a' : Nat), stirI a_8 = hashG a.g a' ∧
  (↑a_2 : Int) + (1 : Int) = (↑a' : Int) ∧
  (↑a.n : Int) = (↑a.n : Int) ∧
  ((0 : Nat) = (0 : Nat) ∧
  a.n = a.n ∧
  a.cap = a.cap) ∧
  (0 : Int) = (0 : Int) ∧
  ((0 : Nat) = (0 : Nat) ∧
  a.n = a.n ∧
  a.cap = a.cap) ∧
  (a.n ≤ a.n ∧
  RowsEq a.n (1 : Nat) (fun (i x : Nat) => Value.string (a.g i)) fun (i x : Nat) => Value.string (a.g i)) ∧
  a' ≤ a.n ∧
  a.n - a' < a.n - a_2)) ∧
  (Decidable.decide ((↑a_2 : Int) < (↑a.n : Int)) = Bool.false →
  ∃ (b : Unit), hashG a.g a_2 = hashG a.g a.n ∧
  True ∧
  True)) (by kernel_rfl) (by
  intro a h
  obtain ⟨hn, hs⟩ := h
  simp only [Nat.zero_add, Int.toNat_natCast]
  refine ⟨⟨0, by (repeat' apply And.intro) <;> (first | exact trivial | rfl | omega | assumption | exact RowsEq.refl _ _ _ | (simp only [InR]; omega) | (simp; done) | (simp; omega) | grind)⟩, fun i hi => ⟨fun h1 => ?_, fun h1 => ?_⟩⟩
  · have hi' : i < a.n := by simpa using h1
    have hsz := hs i hi'
    refine ⟨by omega, hi', ⟨0, by (repeat' apply And.intro) <;> (first | exact trivial | rfl | omega | assumption | exact RowsEq.refl _ _ _ | (simp only [InR]; omega) | (simp; done) | (simp; omega) | grind)⟩, fun j hj => ⟨fun h2 => ?_, fun h2 => ?_⟩⟩
    · have hj' : j < (a.g i).size := by simpa using h2
      refine ⟨by omega, _, rfl, trivial, fun _ _ => ⟨by simp only [InR, lenMax] at *; omega, j + 1, ?_⟩⟩
      (repeat' apply And.intro) <;> (first | exact trivial | rfl | omega | assumption | exact RowsEq.refl _ _ _ | (simp only [InR]; omega) | (simp; done) | (simp; omega) | grind)
    · have hj' : j = (a.g i).size := by have : ¬ j < (a.g i).size := by simpa using h2
                                        omega
      subst hj'
      refine ⟨_, rfl, trivial, fun _ _ => ⟨by simp only [InR]; omega, i + 1, ?_⟩⟩
      (repeat' apply And.intro) <;> (first | exact trivial | rfl | omega | assumption | exact RowsEq.refl _ _ _ | (simp only [InR]; omega) | (simp; done) | (simp; omega) | grind)
  · have hi' : i = a.n := by have : ¬ i < a.n := by simpa using h1
                             omega
    subst hi'
    exact ⟨(), rfl, trivial, trivial⟩)
theorem callMixOf : CallsBy (Y Try.prog).G.X 29 cMixOf := fn_ok okY (tab := [(36, cStir)]) ⟨callStir, trivial⟩ bodyMixOf
set_option maxHeartbeats 4000000 in
theorem bodyRStir : fnBody (Y Try.prog) [] 30 cStir fun _ => [] := fnBody.of (p :=
  ∀ (a : Int), True →
  (1073741824 : Int) ≠ (0 : Int) ∧
  (134217728 : Int) ≠ (0 : Int) ∧
  (2147483648 : Int) ≠ (0 : Int) ∧
  ∃ (b : Unit), ibits Go.BinOp.xor IntKind.u64 (uw IntKind.u64 (ibits Go.BinOp.xor IntKind.u64 (uw IntKind.u64 (ibits Go.BinOp.xor IntKind.u64 a (a / (1073741824 : Int)) * (13787848793156543929 : Int))) (uw IntKind.u64 (ibits Go.BinOp.xor IntKind.u64 a (a / (1073741824 : Int)) * (13787848793156543929 : Int)) / (134217728 : Int)) * (10723151780598845931 : Int))) (uw IntKind.u64 (ibits Go.BinOp.xor IntKind.u64 (uw IntKind.u64 (ibits Go.BinOp.xor IntKind.u64 a (a / (1073741824 : Int)) * (13787848793156543929 : Int))) (uw IntKind.u64 (ibits Go.BinOp.xor IntKind.u64 a (a / (1073741824 : Int)) * (13787848793156543929 : Int)) / (134217728 : Int)) * (10723151780598845931 : Int)) / (2147483648 : Int)) = stirI a ∧
  True ∧
  True) (by kernel_rfl) (by
  intro a _
  exact ⟨by decide, by decide, by decide, (), rfl, trivial, trivial⟩)
theorem callRStir : CallsBy (Y Try.prog).G.X 30 cStir := fn_ok okY (tab := []) trivial bodyRStir
def pointI (n i : Int) : Int := stirI (w64 (n * 1000003 + i))
noncomputable def cPoint : Con where
  α := Int × Int
  β := Unit
  m := 0
  m' := 0
  pre := fun a => 0 ≤ a.1 ∧ a.1 ≤ 100 ∧ 0 ≤ a.2 ∧ a.2 ≤ 100
  args := fun a => [.a (.int .i64 a.1), .a (.int .i64 a.2)]
  hp := fun _ => []
  ro := fun _ => []
  post := fun _ _ => True
  res := fun a _ => .a (.int .u64 (pointI a.1 a.2))
  hp' := fun _ _ => []
set_option maxHeartbeats 4000000 in
theorem bodyPoint : fnBody (Y Try.prog) [(36, cStir)] 31 cPoint fun _ => [] := fnBody.of (p :=
  ∀ (a : Int × Int), (0 : Int) ≤ a.fst ∧
  a.fst ≤ (100 : Int) ∧
  (0 : Int) ≤ a.snd ∧
  a.snd ≤ (100 : Int) →
  InR IntKind.i64 (a.fst * (1000003 : Int)) ∧
  InR IntKind.i64 (a.fst * (1000003 : Int) + a.snd) ∧
  ∃ (a_2 : Int), uw IntKind.u64 (a.fst * (1000003 : Int) + a.snd) = a_2 ∧
  True ∧
  ∀ (b : Unit), True →
  ∃ (b : Unit), stirI a_2 = pointI a.fst a.snd ∧
  True ∧
  True) (by kernel_rfl) (by
  intro a h
  obtain ⟨h1, h2, h3, h4⟩ := h
  simp only [InR]
  exact ⟨by omega, by omega, _, rfl, trivial, fun _ _ => ⟨(), rfl, trivial, trivial⟩⟩)
theorem callPoint : CallsBy (Y Try.prog).G.X 31 cPoint := fn_ok okY (tab := [(36, cStir)]) ⟨callStir, trivial⟩ bodyPoint
set_option maxHeartbeats 4000000 in
theorem bodyRPoint : fnBody (Y Try.prog) [(30, cStir)] 23 cPoint fun _ => [] := fnBody.of (p :=
  ∀ (a : Int × Int), (0 : Int) ≤ a.fst ∧
  a.fst ≤ (100 : Int) ∧
  (0 : Int) ≤ a.snd ∧
  a.snd ≤ (100 : Int) →
  InR IntKind.i64 (a.fst * (1000003 : Int)) ∧
  InR IntKind.i64 (a.fst * (1000003 : Int) + a.snd) ∧
  ∃ (a_2 : Int), uw IntKind.u64 (a.fst * (1000003 : Int) + a.snd) = a_2 ∧
  True ∧
  ∀ (b : Unit), True →
  ∃ (b : Unit), stirI a_2 = pointI a.fst a.snd ∧
  True ∧
  True) (by kernel_rfl) (by
  intro a h
  obtain ⟨h1, h2, h3, h4⟩ := h
  simp only [InR]
  exact ⟨by omega, by omega, _, rfl, trivial, fun _ _ => ⟨(), rfl, trivial, trivial⟩⟩)
theorem callRPoint : CallsBy (Y Try.prog).G.X 23 cPoint := fn_ok okY (tab := [(30, cStir)]) ⟨callRStir, trivial⟩ bodyRPoint

def iROf2 (a : OfA) (i : Nat) : An := .flat 6 Nat (fun s j => (s.int 5 j).set 3 (.a (.int .u64 (hashTo (hashG a.g i) (a.g i) j)))) (fun _ j => j ≤ (a.g i).size) (fun _ j => (a.g i).size - j)
def iROf1 (a : OfA) : An := .mk 3 Nat (fun s i => (s.int 4 i).set 3 (.a (.int .u64 (hashG a.g i)))) (fun _ i => i ≤ a.n) (fun _ i => a.n - i) (fun i => .mk 60 [iROf2 a i] [])
set_option maxHeartbeats 4000000 in
theorem bodyROf : fnBody (Y Try.prog) [(30, cStir)] 22 cMixOf fun a => [(22, [iROf1 a], [])] := fnBody.of (p :=
  ∀ (a : OfA), (a.n < (100000 : Nat) ∧
  ∀ (i : Nat), i < a.n →
  (a.g i).size ≤ lenMax) →
  (∃ (a_2 : Nat), (11400714819323198485 : Int) = hashG a.g a_2 ∧
  (0 : Int) = (↑a_2 : Int) ∧
  (0 : Int) = (0 : Int) ∧
  ((0 : Nat) = (0 : Nat) ∧
  a.n = a.n ∧
  a.cap = a.cap) ∧
  (a.n ≤ a.n ∧
  RowsEq a.n (1 : Nat) (fun (i x : Nat) => Value.string (a.g i)) fun (i x : Nat) => Value.string (a.g i)) ∧
  a_2 ≤ a.n ∧
  True) ∧
  ∀ (a_2 : Nat), a_2 ≤ a.n →
  (Decidable.decide ((↑a_2 : Int) < (↑a.n : Int)) = Bool.true →
  (∃ (a_5 : Nat), hashG a.g a_2 = hashTo (hashG a.g a_2) (a.g a_2) a_5 ∧
  (0 : Int) = (↑a_5 : Int) ∧
  Decidable.decide ((↑a_2 : Int) < (↑a.n : Int)) = Decidable.decide ((↑a_2 : Int) < (↑a.n : Int)) ∧
  (↑a_2 : Int) = (↑a_2 : Int) ∧
  (0 : Int) = (0 : Int) ∧
  ((0 : Nat) = (0 : Nat) ∧
  a.n = a.n ∧
  a.cap = a.cap) ∧
  (a.n ≤ a.n ∧
  RowsEq a.n (1 : Nat) (fun (i x : Nat) => Value.string (a.g i)) fun (i x : Nat) => Value.string (a.g i)) ∧
  a_5 ≤ (a.g a_2).size ∧
  True) ∧
  ∀ (a_5 : Nat), a_5 ≤ (a.g a_2).size →
  ((0 : Int) ≤ (↑a_2 : Int) ∧
  (↑a_2 : Int) < (↑a.n : Int)) ∧
  (0 : Nat) + (↑a_2 : Int).toNat < a.n ∧
  (Decidable.decide ((↑a_5 : Int) < (↑(a.g ((0 : Nat) + (↑a_2 : Int).toNat)).size : Int)) = Bool.true →
  ((0 : Int) ≤ (↑a_2 : Int) ∧
  (↑a_2 : Int) < (↑a.n : Int)) ∧
  (0 : Nat) + (↑a_2 : Int).toNat < a.n ∧
  ((0 : Int) ≤ (↑a_5 : Int) ∧
  (↑a_5 : Int) < (↑(a.g ((0 : Nat) + (↑a_2 : Int).toNat)).size : Int)) ∧
  ∃ (a_8 : Int), ibits Go.BinOp.xor IntKind.u64 (hashTo (hashG a.g a_2) (a.g a_2) a_5) (↑((a.g ((0 : Nat) + (↑a_2 : Int).toNat)).data.getD (↑a_5 : Int).toNat (0 : UInt8)).toNat : Int) = a_8 ∧
  True ∧
  ∀ (b : Unit), True →
  InR IntKind.i64 ((↑a_5 : Int) + (1 : Int)) ∧
  ∃ (a' : Nat), uw IntKind.u64 (stirI a_8 + (1 : Int)) = hashTo (hashG a.g a_2) (a.g a_2) a' ∧
  (↑a_5 : Int) + (1 : Int) = (↑a' : Int) ∧
  Decidable.decide ((↑a_2 : Int) < (↑a.n : Int)) = Decidable.decide ((↑a_2 : Int) < (↑a.n : Int)) ∧
  (↑a_2 : Int) = (↑a_2 : Int) ∧
  (0 : Int) = (0 : Int) ∧
  ((0 : Nat) = (0 : Nat) ∧
  a.n = a.n ∧
  a.cap = a.cap) ∧
  (a.n ≤ a.n ∧
  RowsEq a.n (1 : Nat) (fun (i x : Nat) => Value.string (a.g i)) fun (i x : Nat) => Value.string (a.g i)) ∧
  a' ≤ (a.g a_2).size ∧
  (a.g a_2).size - a' < (a.g a_2).size - a_5) ∧
  (Decidable.decide ((↑a_5 : Int) < (↑(a.g ((0 : Nat) + (↑a_2 : Int).toNat)).size : Int)) = Bool.false →
  ((0 : Int) ≤ (↑a_2 : Int) ∧
  (↑a_2 : Int) < (↑a.n : Int)) ∧
  (0 : Nat) + (↑a_2 : Int).toNat < a.n ∧
  ∃ (a_8 : Int), ibits Go.BinOp.xor IntKind.u64 (hashTo (hashG a.g a_2) (a.g a_2) a_5) (uw IntKind.u64 ((256 : Int) + uw IntKind.u64 (↑(a.g ((0 : Nat) + (↑a_2 : Int).toNat)).size : Int))) = a_8 ∧
  True ∧
  ∀ (b : Unit), True →
  InR IntKind.i64 ((↑a_2 : Int) + (1 : Int)) ∧
  ∃ (a' : Nat), stirI a_8 = hashG a.g a' ∧
  (↑a_2 : Int) + (1 : Int) = (↑a' : Int) ∧
  (0 : Int) = (0 : Int) ∧
  ((0 : Nat) = (0 : Nat) ∧
  a.n = a.n ∧
  a.cap = a.cap) ∧
  (a.n ≤ a.n ∧
  RowsEq a.n (1 : Nat) (fun (i x : Nat) => Value.string (a.g i)) fun (i x : Nat) => Value.string (a.g i)) ∧
  a' ≤ a.n ∧
  a.n - a' < a.n - a_2)) ∧
  (Decidable.decide ((↑a_2 : Int) < (↑a.n : Int)) = Bool.false →
  ∃ (b : Unit), hashG a.g a_2 = hashG a.g a.n ∧
  True ∧
  True)) (by kernel_rfl) (by
  rintro ⟨g, n, cap⟩ ⟨hn, hs⟩
  dsimp only at hn hs ⊢
  simp only [Nat.zero_add, Int.toNat_natCast]
  refine ⟨⟨0, ?_⟩, fun i hi => ⟨fun h1 => ⟨⟨0, ?_⟩, fun j hj => ?_⟩, fun h1 => ?_⟩⟩
  · ((repeat' apply And.intro) <;> first | with_reducible rfl | omega | (dsimp only; omega) | exact RowsEq.refl _ _ _ | assumption | rfl | trivial | exact Nat.le_refl _ | skip)
  · ((repeat' apply And.intro) <;> first | with_reducible rfl | omega | (dsimp only; omega) | exact RowsEq.refl _ _ _ | assumption | rfl | trivial | exact Nat.le_refl _ | skip)
  · simp only [decide_eq_true_eq] at h1
    have hi' : i < n := by omega
    have hsz := hs i hi'
    refine ⟨by omega, hi', fun h2 => ?_, fun h2 => ?_⟩
    · simp only [decide_eq_true_eq] at h2
      have hj' : j < (g i).size := by omega
      unfold lenMax at hsz
      simp only [InR]
      ((repeat' apply And.intro) <;> first | with_reducible rfl | omega | (dsimp only; omega) | exact RowsEq.refl _ _ _ | assumption | rfl | trivial | exact Nat.le_refl _ | skip)
      refine ⟨_, rfl, trivial, fun _ _ => ⟨by omega, j + 1, ?_⟩⟩
      ((repeat' apply And.intro) <;> first | with_reducible rfl | omega | (dsimp only; omega) | exact RowsEq.refl _ _ _ | assumption | rfl | trivial | exact Nat.le_refl _ | skip)
    · simp only [decide_eq_false_iff_not] at h2
      have hj' : j = (g i).size := by omega
      subst hj'
      simp only [InR]
      ((repeat' apply And.intro) <;> first | with_reducible rfl | omega | (dsimp only; omega) | exact RowsEq.refl _ _ _ | assumption | rfl | trivial | exact Nat.le_refl _ | skip)
      refine ⟨_, rfl, trivial, fun _ _ => ⟨by omega, i + 1, ?_⟩⟩
      ((repeat' apply And.intro) <;> first | with_reducible rfl | omega | (dsimp only; omega) | exact RowsEq.refl _ _ _ | assumption | rfl | trivial | exact Nat.le_refl _ | skip)
  · simp only [decide_eq_false_iff_not] at h1
    have hi' : i = n := by omega
    subst hi'
    exact ⟨(), rfl, trivial, trivial⟩)
theorem callROf : CallsBy (Y Try.prog).G.X 22 cMixOf := fn_ok okY (tab := [(30, cStir)]) ⟨callRStir, trivial⟩ bodyROf
end Go.Proofs.Ytjhjachkconneaa
