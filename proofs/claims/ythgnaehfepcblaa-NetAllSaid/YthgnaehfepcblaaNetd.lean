/-
  The layer net's functions over messages whose lists are told of values; no condition but that there is room.
-/
import Derived.Test.YthgnaehfepcblaaMsgf
namespace Go.Proofs.Ythgnaehfepcblaa
open Go.Sx
set_option maxRecDepth 100000
set_option linter.unusedVariables false

instance : Inhabited MR := ⟨⟨0, 0, 0, 0, 0, 0, 0, 0, 0, .empty, 0, false, zeroI, 0⟩⟩
instance : Inhabited MsgA := ⟨⟨default, [], [], [], [], 0, 0, 0, 0⟩⟩
/-- a message as it lies in a row -/
structure RowM where
  m : MR
  v : Vs
  deriving Inhabited
def encRM (r : RowM) : List Value := [.int .i64 r.m.k, .int .i64 r.m.f, .int .i64 r.m.t, .int .i64 r.m.ep, .int .i64 r.m.ti, .int .i64 r.m.sq, .int .i64 r.m.n, .int .i64 r.m.id, .int .i64 r.m.op, .string r.m.key, .int .i64 r.m.err, .bool r.m.last,
  .string r.m.it.key, .string r.m.it.val, .int .i64 r.m.it.en, .bool r.m.it.gone, r.v.i, r.v.m, r.v.n, .int .i64 r.m.base, r.v.o]
def ksMsg : List CK := [.int .i64, .int .i64, .int .i64, .int .i64, .int .i64, .int .i64, .int .i64, .int .i64, .int .i64, .str, .int .i64, .bool, .str, .str, .int .i64, .bool, .deep, .deep, .deep, .int .i64, .deep]
def zeroV : Vs := ⟨.slice none 0 0, .slice none 0 0, .slice none 0 0, .slice none 0 0⟩
def zeroMR : MR := ⟨0, 0, 0, 0, 0, 0, 0, 0, 0, ⟨#[]⟩, 0, false, zeroI, 0⟩
theorem gl_eraseIdx {α : Type} [Inhabited α] {l : List α} {i j : Nat} : gl (l.eraseIdx i) j = if j < i then gl l j else gl l (j + 1) := by
  simp only [gl, List.getD, List.getElem?_eraseIdx]
  split <;> rfl

/-- rows, and what they are -/
structure Likes (g1 g2 : Pool) (l : List RowM) (cs : List MsgA) : Prop where
  len : l.length = cs.length
  at_ : ∀ i, i < l.length → (gl l i).m = (gl cs i).m ∧ ∃ c : Caps, Has g1 g2 (gl l i).v ((gl cs i).caps c)
structure allLens (cs : List MsgA) : Prop where
  at_ : ∀ i, i < cs.length → lensM (gl cs i)
theorem Likes.ext {g1 g2 g : Pool} {l : List RowM} {cs : List MsgA} (h : Likes g1 g2 l cs) (e : g1.Ext g) : Likes g g2 l cs := ⟨h.len, fun i hi => ⟨(h.at_ i hi).1, (h.at_ i hi).2.imp fun _ k => k.ext e⟩⟩
theorem Likes.nil (g1 g2 : Pool) : Likes g1 g2 [] [] := ⟨rfl, fun i hi => absurd hi (Nat.not_lt_zero _)⟩
theorem Likes.push {g1 g2 : Pool} {l : List RowM} {cs : List MsgA} {r : RowM} {a : MsgA} (h : Likes g1 g2 l cs) (hm : r.m = a.m) {c : Caps} (hh : Has g1 g2 r.v (a.caps c)) : Likes g1 g2 (l ++ [r]) (cs ++ [a]) := by
  refine ⟨by simp [h.len], fun i hi => ?_⟩
  by_cases h1 : i < l.length
  · rw [gl_append_left h1, gl_append_left (by rw [← h.len]; exact h1)]; exact h.at_ i h1
  · have : i = l.length := by simp at hi; omega
    subst this
    rw [gl_append_right (Nat.le_refl _), gl_append_right (by rw [h.len]; exact Nat.le_refl _), h.len, Nat.sub_self]
    exact ⟨hm, c, hh⟩
theorem Likes.app {g1 g2 : Pool} {l m : List RowM} {cs ds : List MsgA} (h : Likes g1 g2 l cs) (k : Likes g1 g2 m ds) : Likes g1 g2 (l ++ m) (cs ++ ds) := by
  refine ⟨by simp [h.len, k.len], fun i hi => ?_⟩
  by_cases h1 : i < l.length
  · rw [gl_append_left h1, gl_append_left (by rw [← h.len]; exact h1)]; exact h.at_ i h1
  · rw [gl_append_right (by omega), gl_append_right (by rw [← h.len]; omega), ← h.len]
    exact k.at_ _ (by simp at hi; omega)
theorem Likes.erase {g1 g2 : Pool} {l : List RowM} {cs : List MsgA} (h : Likes g1 g2 l cs) {i : Nat} (hi : i < l.length) : Likes g1 g2 (l.eraseIdx i) (cs.eraseIdx i) := by
  have h0 := h.len
  refine ⟨by rw [List.length_eraseIdx, List.length_eraseIdx, h0], fun j hj => ?_⟩
  rw [List.length_eraseIdx, if_pos hi] at hj
  rw [gl_eraseIdx, gl_eraseIdx]
  split
  · exact h.at_ j (by omega)
  · exact h.at_ (j + 1) (by omega)
theorem allLens.erase {cs : List MsgA} (h : allLens cs) {i : Nat} : allLens (cs.eraseIdx i) := by
  refine ⟨fun j hj => ?_⟩
  rw [List.length_eraseIdx] at hj
  rw [gl_eraseIdx]
  split
  · exact h.at_ j (by split at hj <;> omega)
  · exact h.at_ (j + 1) (by split at hj <;> omega)
theorem allLens.push {cs : List MsgA} (h : allLens cs) {a : MsgA} (ha : lensM a) : allLens (cs ++ [a]) := by
  refine ⟨fun j hj => ?_⟩
  by_cases h1 : j < cs.length
  · rw [gl_append_left h1]; exact h.at_ j h1
  · have : j = cs.length := by simp at hj; omega
    subst this
    rw [gl_append_right (Nat.le_refl _), Nat.sub_self]; exact ha

/-! ### the net -/

def netHp (o a : Nat) (l : List RowM) (cap : Nat) : List (Nat × Chunk) := [(o, .obj 51 [.slc a 0 21 l.length cap]), (a, .arr 36 ksMsg l.length (encRows encRM l))]
structure LookA where
  l : List RowM
  cap : Nat
  i : Int
  cs : List MsgA
  gO : Pool
  gA : Pool
structure LookB where
  v : Vs
  c : Caps
  g : Pool
def lookB (l : List RowM) (i : Int) : Bool := decide (0 ≤ i) && decide (i < l.length)
def lookM (l : List RowM) (i : Int) : MR := if lookB l i then (gl l i.toNat).m else zeroMR
def dropM (l : List RowM) (i : Int) : List RowM := if lookB l i then l.eraseIdx i.toNat else l
structure looked (a : LookA) (b : LookB) : Prop where
  ext : a.gO.Ext b.g
  has : lookB a.l a.i = true → Has b.g a.gA b.v ((gl a.cs a.i.toNat).caps b.c)
noncomputable def cLook : Con where
  α := LookA
  β := LookB
  m := 4
  m' := 5
  pre := fun a => a.l.length ≤ 300 ∧ Likes a.gO a.gA a.l a.cs ∧ allLens a.cs
  args := fun a => [.a (.ptr 0 0 0 0), .a (.int .i64 a.i)]
  hp := fun a => [(2, .abs (Snap a.gO))]
  ro := fun a => netHp 0 1 a.l a.cap ++ [(3, .abs (Snap a.gA))]
  post := fun a b => looked a b
  res := fun a b => .tup [.agg (msgV (lookM a.l a.i) b.v), .a (.bool (lookB a.l a.i))]
  hp' := fun _ b => [(4, .abs (Snap b.g))]
noncomputable def tabLook : List (Nat × Con) := [(29, cOwnV)]
set_option maxHeartbeats 4000000 in
theorem bodyLook : fnBody (Y Try.prog) tabLook 13 cLook fun _ => [] := fnBody.of (p :=
  ∀ (a : LookA), a.l.length ≤ (300 : Nat) ∧
  Likes a.gO a.gA a.l a.cs ∧
  allLens a.cs →
  (Decidable.decide (a.i < (0 : Int)) = Bool.true →
  ∃ (b : LookB), (0 : Int) = (lookM a.l a.i).k ∧
  (0 : Int) = (lookM a.l a.i).f ∧
  (0 : Int) = (lookM a.l a.i).t ∧
  (0 : Int) = (lookM a.l a.i).ep ∧
  (0 : Int) = (lookM a.l a.i).ti ∧
  (0 : Int) = (lookM a.l a.i).sq ∧
  (0 : Int) = (lookM a.l a.i).n ∧
  (0 : Int) = (lookM a.l a.i).id ∧
  (0 : Int) = (lookM a.l a.i).op ∧
  (ByteArray.mk #[]) = (lookM a.l a.i).key ∧
  (0 : Int) = (lookM a.l a.i).err ∧
  Bool.false = (lookM a.l a.i).last ∧
  (ByteArray.mk #[]) = (lookM a.l a.i).it.key ∧
  (ByteArray.mk #[]) = (lookM a.l a.i).it.val ∧
  (0 : Int) = (lookM a.l a.i).it.en ∧
  Bool.false = (lookM a.l a.i).it.gone ∧
  Value.slice Option.none (0 : Nat) (0 : Nat) = b.v.i ∧
  Value.slice Option.none (0 : Nat) (0 : Nat) = b.v.m ∧
  Value.slice Option.none (0 : Nat) (0 : Nat) = b.v.n ∧
  (0 : Int) = (lookM a.l a.i).base ∧
  Value.slice Option.none (0 : Nat) (0 : Nat) = b.v.o ∧
  Bool.false = lookB a.l a.i ∧
  Snap a.gO = Snap b.g ∧
  looked a b ∧
  True) ∧
  (Decidable.decide (a.i < (0 : Int)) = Bool.false →
  (Decidable.decide ((↑a.l.length : Int) ≤ a.i) = Bool.true →
  ∃ (b : LookB), (0 : Int) = (lookM a.l a.i).k ∧
  (0 : Int) = (lookM a.l a.i).f ∧
  (0 : Int) = (lookM a.l a.i).t ∧
  (0 : Int) = (lookM a.l a.i).ep ∧
  (0 : Int) = (lookM a.l a.i).ti ∧
  (0 : Int) = (lookM a.l a.i).sq ∧
  (0 : Int) = (lookM a.l a.i).n ∧
  (0 : Int) = (lookM a.l a.i).id ∧
  (0 : Int) = (lookM a.l a.i).op ∧
  (ByteArray.mk #[]) = (lookM a.l a.i).key ∧
  (0 : Int) = (lookM a.l a.i).err ∧
  Bool.false = (lookM a.l a.i).last ∧
  (ByteArray.mk #[]) = (lookM a.l a.i).it.key ∧
  (ByteArray.mk #[]) = (lookM a.l a.i).it.val ∧
  (0 : Int) = (lookM a.l a.i).it.en ∧
  Bool.false = (lookM a.l a.i).it.gone ∧
  Value.slice Option.none (0 : Nat) (0 : Nat) = b.v.i ∧
  Value.slice Option.none (0 : Nat) (0 : Nat) = b.v.m ∧
  Value.slice Option.none (0 : Nat) (0 : Nat) = b.v.n ∧
  (0 : Int) = (lookM a.l a.i).base ∧
  Value.slice Option.none (0 : Nat) (0 : Nat) = b.v.o ∧
  Bool.false = lookB a.l a.i ∧
  Snap a.gO = Snap b.g ∧
  looked a b ∧
  True) ∧
  (Decidable.decide ((↑a.l.length : Int) ≤ a.i) = Bool.false →
  ((0 : Int) ≤ a.i ∧
  a.i < (↑a.l.length : Int)) ∧
  (0 : Nat) + a.i.toNat < a.l.length ∧
  ∃ (a_4 : ValA), (gl a.l ((0 : Nat) + a.i.toNat)).m.k = a_4.a.m.k ∧
  (gl a.l ((0 : Nat) + a.i.toNat)).m.f = a_4.a.m.f ∧
  (gl a.l ((0 : Nat) + a.i.toNat)).m.t = a_4.a.m.t ∧
  (gl a.l ((0 : Nat) + a.i.toNat)).m.ep = a_4.a.m.ep ∧
  (gl a.l ((0 : Nat) + a.i.toNat)).m.ti = a_4.a.m.ti ∧
  (gl a.l ((0 : Nat) + a.i.toNat)).m.sq = a_4.a.m.sq ∧
  (gl a.l ((0 : Nat) + a.i.toNat)).m.n = a_4.a.m.n ∧
  (gl a.l ((0 : Nat) + a.i.toNat)).m.id = a_4.a.m.id ∧
  (gl a.l ((0 : Nat) + a.i.toNat)).m.op = a_4.a.m.op ∧
  (gl a.l ((0 : Nat) + a.i.toNat)).m.key = a_4.a.m.key ∧
  (gl a.l ((0 : Nat) + a.i.toNat)).m.err = a_4.a.m.err ∧
  (gl a.l ((0 : Nat) + a.i.toNat)).m.last = a_4.a.m.last ∧
  (gl a.l ((0 : Nat) + a.i.toNat)).m.it.key = a_4.a.m.it.key ∧
  (gl a.l ((0 : Nat) + a.i.toNat)).m.it.val = a_4.a.m.it.val ∧
  (gl a.l ((0 : Nat) + a.i.toNat)).m.it.en = a_4.a.m.it.en ∧
  (gl a.l ((0 : Nat) + a.i.toNat)).m.it.gone = a_4.a.m.it.gone ∧
  encRows encRM a.l ((0 : Nat) + a.i.toNat) (16 : Nat) = a_4.v.i ∧
  encRows encRM a.l ((0 : Nat) + a.i.toNat) (17 : Nat) = a_4.v.m ∧
  encRows encRM a.l ((0 : Nat) + a.i.toNat) (18 : Nat) = a_4.v.n ∧
  (gl a.l ((0 : Nat) + a.i.toNat)).m.base = a_4.a.m.base ∧
  encRows encRM a.l ((0 : Nat) + a.i.toNat) (20 : Nat) = a_4.v.o ∧
  Snap a.gO = Snap a_4.gO ∧
  Snap a.gA = Snap a_4.gA ∧
  ((a_4.a.il.length < (100000 : Nat) ∧
  a_4.a.ml.length < (100000 : Nat) ∧
  a_4.a.nl.length < (100000 : Nat) ∧
  a_4.a.ol.length < (100000 : Nat)) ∧
  Has a_4.gO a_4.gA a_4.v a_4.a) ∧
  ∀ (b : ValB), a_4.gO.Ext b.g ∧
  Has b.g a_4.gA b.v (a_4.a.caps b.c) →
  ∃ (b_1 : LookB), a_4.a.m.k = (lookM a.l a.i).k ∧
  a_4.a.m.f = (lookM a.l a.i).f ∧
  a_4.a.m.t = (lookM a.l a.i).t ∧
  a_4.a.m.ep = (lookM a.l a.i).ep ∧
  a_4.a.m.ti = (lookM a.l a.i).ti ∧
  a_4.a.m.sq = (lookM a.l a.i).sq ∧
  a_4.a.m.n = (lookM a.l a.i).n ∧
  a_4.a.m.id = (lookM a.l a.i).id ∧
  a_4.a.m.op = (lookM a.l a.i).op ∧
  a_4.a.m.key = (lookM a.l a.i).key ∧
  a_4.a.m.err = (lookM a.l a.i).err ∧
  a_4.a.m.last = (lookM a.l a.i).last ∧
  a_4.a.m.it.key = (lookM a.l a.i).it.key ∧
  a_4.a.m.it.val = (lookM a.l a.i).it.val ∧
  a_4.a.m.it.en = (lookM a.l a.i).it.en ∧
  a_4.a.m.it.gone = (lookM a.l a.i).it.gone ∧
  b.v.i = b_1.v.i ∧
  b.v.m = b_1.v.m ∧
  b.v.n = b_1.v.n ∧
  a_4.a.m.base = (lookM a.l a.i).base ∧
  b.v.o = b_1.v.o ∧
  Bool.true = lookB a.l a.i ∧
  Snap b.g = Snap b_1.g ∧
  looked a b_1 ∧
  True))) (by kernel_rfl) (by
  rintro ⟨l, cap, i, cs, gO, gA⟩ ⟨hl, hlk, hls⟩
  dsimp only at *
  simp only [Nat.zero_add]
  have hz : ∀ (p : Prop), p → (lookB l i = false) → p := fun _ h _ => h
  have miss : lookB l i = false → looked ⟨l, cap, i, cs, gO, gA⟩ ⟨zeroV, ⟨0, 0, 0, 0⟩, gO⟩ := fun e => ⟨Pool.Ext.refl _, fun h => by dsimp only at h; rw [e] at h; cases h⟩
  refine ⟨fun c => ⟨⟨zeroV, ⟨0, 0, 0, 0⟩, gO⟩, ?_⟩, fun c => ⟨fun d => ⟨⟨zeroV, ⟨0, 0, 0, 0⟩, gO⟩, ?_⟩, fun d => ?_⟩⟩
  all_goals simp only [decide_eq_true_eq, decide_eq_false_iff_not] at *
  · have e : lookB l i = false := by simp [lookB]; omega
    have e2 : lookM l i = zeroMR := by simp [lookM, e]
    rw [e2, e]
    ((repeat' apply And.intro) <;> first | with_reducible rfl | omega | (dsimp only; omega) | exact RowsEq.refl _ _ _ | assumption | rfl | trivial | exact Nat.le_refl _ | skip)
    exact miss e
  · have e : lookB l i = false := by simp [lookB]; omega
    have e2 : lookM l i = zeroMR := by simp [lookM, e]
    rw [e2, e]
    ((repeat' apply And.intro) <;> first | with_reducible rfl | omega | (dsimp only; omega) | exact RowsEq.refl _ _ _ | assumption | rfl | trivial | exact Nat.le_refl _ | skip)
    exact miss e
  · obtain ⟨k, rfl⟩ : ∃ k : Nat, i = k := ⟨i.toNat, by omega⟩
    have hk : k < l.length := by omega
    have e : lookB l (k : Int) = true := by simp [lookB]; omega
    obtain ⟨hm, c0, hh⟩ := hlk.at_ k hk
    have hlen := hls.at_ k (by rw [← hlk.len]; exact hk)
    have e2 : lookM l (k : Int) = (gl cs k).m := by simp [lookM, e, hm]
    rw [e2, e]
    simp only [Int.toNat_natCast, hm]
    refine ⟨by omega, hk, ⟨(gl cs k).caps c0, (gl l k).v, gO, gA⟩, ?_⟩
    ((repeat' apply And.intro) <;> first | with_reducible rfl | omega | (dsimp only; omega) | exact RowsEq.refl _ _ _ | assumption | rfl | trivial | exact Nat.le_refl _ | skip)
    · exact hlen.i
    · exact hlen.m
    · exact hlen.n
    · exact hlen.o
    rintro b ⟨b1, b2⟩
    refine ⟨⟨b.v, b.c, b.g⟩, ?_⟩
    ((repeat' apply And.intro) <;> first | with_reducible rfl | omega | (dsimp only; omega) | exact RowsEq.refl _ _ _ | assumption | rfl | trivial | exact Nat.le_refl _ | skip)
    exact ⟨b1, fun _ => b2⟩)
theorem callLook : CallsBy (Y Try.prog).G.X 13 cLook := fn_ok okY (tab := tabLook) ⟨callOwnV, trivial⟩ bodyLook

structure DropA where
  l : List RowM
  cap : Nat
  i : Int
noncomputable def cDrop : Con where
  α := DropA
  β := Nat
  m := 2
  m' := 3
  pre := fun a => a.l.length ≤ 300 ∧ a.l.length ≤ a.cap
  args := fun a => [.a (.ptr 0 0 0 0), .a (.int .i64 a.i)]
  hp := fun a => netHp 0 1 a.l a.cap
  ro := fun _ => []
  post := fun a cap => (dropM a.l a.i).length ≤ cap
  res := fun a _ => .a (.bool (lookB a.l a.i))
  hp' := fun a cap => netHp 0 2 (dropM a.l a.i) cap
set_option maxHeartbeats 4000000 in
theorem bodyDrop : fnBody (Y Try.prog) [] 16 cDrop fun _ => [] := fnBody.of (p :=
  ∀ (a : DropA), a.l.length ≤ (300 : Nat) ∧
  a.l.length ≤ a.cap →
  (Decidable.decide (a.i < (0 : Int)) = Bool.true →
  ∃ (b : Nat), Bool.false = lookB a.l a.i ∧
  ((0 : Nat) = (0 : Nat) ∧
  a.l.length = (dropM a.l a.i).length ∧
  a.cap = b) ∧
  ((dropM a.l a.i).length ≤ a.l.length ∧
  RowsEq (dropM a.l a.i).length (21 : Nat) (encRows encRM a.l) (encRows encRM (dropM a.l a.i))) ∧
  (dropM a.l a.i).length ≤ b ∧
  True) ∧
  (Decidable.decide (a.i < (0 : Int)) = Bool.false →
  (Decidable.decide ((↑a.l.length : Int) ≤ a.i) = Bool.true →
  ∃ (b : Nat), Bool.false = lookB a.l a.i ∧
  ((0 : Nat) = (0 : Nat) ∧
  a.l.length = (dropM a.l a.i).length ∧
  a.cap = b) ∧
  ((dropM a.l a.i).length ≤ a.l.length ∧
  RowsEq (dropM a.l a.i).length (21 : Nat) (encRows encRM a.l) (encRows encRM (dropM a.l a.i))) ∧
  (dropM a.l a.i).length ≤ b ∧
  True) ∧
  (Decidable.decide ((↑a.l.length : Int) ≤ a.i) = Bool.false →
  InR IntKind.i64 (a.i + (1 : Int)) ∧
  ((0 : Int) ≤ (↑a.l.length : Int) ∧
  (↑a.l.length : Int) ≤ (↑a.cap : Int)) ∧
  ((0 : Int) ≤ a.i + (1 : Int) ∧
  a.i + (1 : Int) ≤ (↑(↑a.l.length : Int).toNat : Int)) ∧
  ((0 : Int) ≤ a.i ∧
  a.i ≤ (↑(a.i + (1 : Int)).toNat : Int)) ∧
  ((a.i == a.i + (1 : Int)) = Bool.true →
  ∃ (b : Nat), Bool.true = lookB a.l a.i ∧
  ((0 : Nat) = (0 : Nat) ∧
  a.l.length = (dropM a.l a.i).length ∧
  a.cap = b) ∧
  ((dropM a.l a.i).length ≤ a.l.length ∧
  RowsEq (dropM a.l a.i).length (21 : Nat) (encRows encRM a.l) (encRows encRM (dropM a.l a.i))) ∧
  (dropM a.l a.i).length ≤ b ∧
  True) ∧
  ((a.i == a.i + (1 : Int)) = Bool.false →
  ((0 : Int) ≤ a.i ∧
  a.i ≤ (↑a.cap : Int)) ∧
  ((0 : Int) ≤ a.i + (1 : Int) ∧
  a.i + (1 : Int) ≤ (↑a.l.length : Int)) ∧
  (0 : Nat) + (a.i.toNat - (0 : Nat)) ≤ a.l.length ∧
  (0 : Nat) + (a.i + (1 : Int)).toNat + (a.l.length - (a.i + (1 : Int)).toNat) ≤ a.l.length ∧
  (a.i.toNat - (0 : Nat) + (a.l.length - (a.i + (1 : Int)).toNat)) * (256 : Nat) ≤ (140737488355328 : Nat) ∧
  ∀ (cap : Nat), a.i.toNat - (0 : Nat) + (a.l.length - (a.i + (1 : Int)).toNat) ≤ cap →
  cap ≤ lenMax →
  (a.i.toNat - (0 : Nat) + (a.l.length - (a.i + (1 : Int)).toNat) ≤ a.cap - (0 : Nat) →
  cap = a.cap - (0 : Nat)) →
  ((0 : Int) ≤ (↑a.l.length : Int) ∧
  (↑a.l.length : Int) ≤ (↑cap : Int)) ∧
  ((0 : Int) ≤ (↑(a.i.toNat - (0 : Nat) + (a.l.length - (a.i + (1 : Int)).toNat)) : Int) ∧
  (↑(a.i.toNat - (0 : Nat) + (a.l.length - (a.i + (1 : Int)).toNat)) : Int) ≤ (↑(↑a.l.length : Int).toNat : Int)) ∧
  ∃ (b : Nat), Bool.true = lookB a.l a.i ∧
  ((0 : Nat) = (0 : Nat) ∧
  a.i.toNat - (0 : Nat) + (a.l.length - (a.i + (1 : Int)).toNat) = (dropM a.l a.i).length ∧
  cap = b) ∧
  ((dropM a.l a.i).length ≤ a.i.toNat - (0 : Nat) + (a.l.length - (a.i + (1 : Int)).toNat) ∧
  RowsEq (dropM a.l a.i).length (21 : Nat) (fun (i j : Nat) => if (0 : Nat) + (↑(a.i.toNat - (0 : Nat) + (a.l.length - (a.i + (1 : Int)).toNat)) : Int).toNat ≤ i ∧
  i < (0 : Nat) + (↑(a.i.toNat - (0 : Nat) + (a.l.length - (a.i + (1 : Int)).toNat)) : Int).toNat + ((↑a.l.length : Int).toNat - (↑(a.i.toNat - (0 : Nat) + (a.l.length - (a.i + (1 : Int)).toNat)) : Int).toNat) then [Value.int IntKind.i64 (0 : Int), Value.int IntKind.i64 (0 : Int), Value.int IntKind.i64 (0 : Int), Value.int IntKind.i64 (0 : Int), Value.int IntKind.i64 (0 : Int), Value.int IntKind.i64 (0 : Int), Value.int IntKind.i64 (0 : Int), Value.int IntKind.i64 (0 : Int), Value.int IntKind.i64 (0 : Int), Value.string (ByteArray.mk #[]), Value.int IntKind.i64 (0 : Int), Value.bool Bool.false, Value.string (ByteArray.mk #[]), Value.string (ByteArray.mk #[]), Value.int IntKind.i64 (0 : Int), Value.bool Bool.false, Value.slice Option.none (0 : Nat) (0 : Nat), Value.slice Option.none (0 : Nat) (0 : Nat), Value.slice Option.none (0 : Nat) (0 : Nat), Value.int IntKind.i64 (0 : Int), Value.slice Option.none (0 : Nat) (0 : Nat)].getD j (Value.tuple #[]) else appRows (encRows encRM a.l) (0 : Nat) (a.i.toNat - (0 : Nat)) (fun (i j : Nat) => encRows encRM a.l ((0 : Nat) + (a.i + (1 : Int)).toNat + i) j) i j) (encRows encRM (dropM a.l a.i))) ∧
  (dropM a.l a.i).length ≤ b ∧
  True)))) (by kernel_rfl) (by
  rintro ⟨l, cap, i⟩ ⟨hl, hc⟩
  dsimp only at *
  simp only [Nat.zero_add, InR]
  refine ⟨fun c => ⟨cap, ?_⟩, fun c => ⟨fun d => ⟨cap, ?_⟩, fun d => ?_⟩⟩
  · simp only [decide_eq_true_eq] at c
    have e : lookB l i = false := by simp [lookB]; omega
    simp only [dropM, e]
    ((repeat' apply And.intro) <;> first | with_reducible rfl | omega | (dsimp only; omega) | exact RowsEq.refl _ _ _ | assumption | rfl | trivial | exact Nat.le_refl _ | skip)
  · simp only [decide_eq_true_eq] at d
    have e : lookB l i = false := by simp [lookB]; omega
    simp only [dropM, e]
    ((repeat' apply And.intro) <;> first | with_reducible rfl | omega | (dsimp only; omega) | exact RowsEq.refl _ _ _ | assumption | rfl | trivial | exact Nat.le_refl _ | skip)
  · simp only [decide_eq_false_iff_not] at c d
    obtain ⟨k, rfl⟩ : ∃ k : Nat, i = k := ⟨i.toNat, by omega⟩
    have hk : k < l.length := by omega
    have e : lookB l (k : Int) = true := by simp [lookB]; omega
    have el : (l.eraseIdx k).length = l.length - 1 := by rw [List.length_eraseIdx]; simp [hk]
    have e1 : ((k : Int) + 1).toNat = k + 1 := by omega
    have e2 : k + (l.length - (k + 1)) = l.length - 1 := by omega
    simp only [dropM, e, if_true, Int.toNat_natCast, e1, el, Nat.sub_zero, e2]
    refine ⟨by omega, by omega, by omega, by omega, fun g => (by exfalso; simp only [beq_iff_eq] at g; omega), fun _ => ⟨by omega, by omega, by omega, by omega, by omega, fun c' g1 g2 g3 => ⟨by omega, by omega, c', ?_⟩⟩⟩
    ((repeat' apply And.intro) <;> first | with_reducible rfl | omega | (dsimp only; omega) | exact RowsEq.refl _ _ _ | assumption | rfl | trivial | exact Nat.le_refl _ | skip)
    refine ⟨fun i hi j hj => ?_⟩
    rw [if_neg (by omega)]
    simp only [appRows, encRows, gl_eraseIdx, Nat.zero_add]
    by_cases h : i < k
    · simp only [h, if_true]
    · simp only [h, if_false]
      rw [show k + 1 + (i - k) = i + 1 by omega])
theorem callDrop : CallsBy (Y Try.prog).G.X 16 cDrop := fn_ok okY (tab := []) trivial bodyDrop
structure TakeB where
  b : LookB
  cap : Nat
noncomputable def cTake : Con where
  α := LookA
  β := TakeB
  m := 4
  m' := 6
  pre := fun a => a.l.length ≤ 300 ∧ a.l.length ≤ a.cap ∧ Likes a.gO a.gA a.l a.cs ∧ allLens a.cs
  args := fun a => [.a (.ptr 0 0 0 0), .a (.int .i64 a.i)]
  hp := fun a => netHp 0 1 a.l a.cap ++ [(2, .abs (Snap a.gO))]
  ro := fun a => [(3, .abs (Snap a.gA))]
  post := fun a b => looked a b.b ∧ (dropM a.l a.i).length ≤ b.cap
  res := fun a b => .tup [.agg (msgV (lookM a.l a.i) b.b.v), .a (.bool (lookB a.l a.i))]
  hp' := fun a b => netHp 0 4 (dropM a.l a.i) b.cap ++ [(5, .abs (Snap b.b.g))]
noncomputable def tabTake : List (Nat × Con) := [(13, cLook), (16, cDrop)]
set_option maxHeartbeats 4000000 in
theorem bodyTake : fnBody (Y Try.prog) tabTake 14 cTake fun _ => [] := fnBody.of (p :=
  ∀ (a : LookA), a.l.length ≤ (300 : Nat) ∧
  a.l.length ≤ a.cap ∧
  Likes a.gO a.gA a.l a.cs ∧
  allLens a.cs →
  ∃ (a_2 : LookA), (0 : Nat) = (0 : Nat) ∧
  a.i = a_2.i ∧
  Snap a.gO = Snap a_2.gO ∧
  ((0 : Nat) = (0 : Nat) ∧
  a.l.length = a_2.l.length ∧
  a.cap = a_2.cap) ∧
  (a_2.l.length ≤ a.l.length ∧
  RowsEq a_2.l.length (21 : Nat) (encRows encRM a.l) (encRows encRM a_2.l)) ∧
  Snap a.gA = Snap a_2.gA ∧
  (a_2.l.length ≤ (300 : Nat) ∧
  Likes a_2.gO a_2.gA a_2.l a_2.cs ∧
  allLens a_2.cs) ∧
  ∀ (b : LookB), looked a_2 b →
  ∃ (a_4 : DropA), (0 : Nat) = (0 : Nat) ∧
  a.i = a_4.i ∧
  ((0 : Nat) = (0 : Nat) ∧
  a.l.length = a_4.l.length ∧
  a.cap = a_4.cap) ∧
  (a_4.l.length ≤ a.l.length ∧
  RowsEq a_4.l.length (21 : Nat) (encRows encRM a.l) (encRows encRM a_4.l)) ∧
  (a_4.l.length ≤ (300 : Nat) ∧
  a_4.l.length ≤ a_4.cap) ∧
  ∀ (b_1 : Nat), (dropM a_4.l a_4.i).length ≤ b_1 →
  ∃ (b_2 : TakeB), (lookM a_2.l a_2.i).k = (lookM a.l a.i).k ∧
  (lookM a_2.l a_2.i).f = (lookM a.l a.i).f ∧
  (lookM a_2.l a_2.i).t = (lookM a.l a.i).t ∧
  (lookM a_2.l a_2.i).ep = (lookM a.l a.i).ep ∧
  (lookM a_2.l a_2.i).ti = (lookM a.l a.i).ti ∧
  (lookM a_2.l a_2.i).sq = (lookM a.l a.i).sq ∧
  (lookM a_2.l a_2.i).n = (lookM a.l a.i).n ∧
  (lookM a_2.l a_2.i).id = (lookM a.l a.i).id ∧
  (lookM a_2.l a_2.i).op = (lookM a.l a.i).op ∧
  (lookM a_2.l a_2.i).key = (lookM a.l a.i).key ∧
  (lookM a_2.l a_2.i).err = (lookM a.l a.i).err ∧
  (lookM a_2.l a_2.i).last = (lookM a.l a.i).last ∧
  (lookM a_2.l a_2.i).it.key = (lookM a.l a.i).it.key ∧
  (lookM a_2.l a_2.i).it.val = (lookM a.l a.i).it.val ∧
  (lookM a_2.l a_2.i).it.en = (lookM a.l a.i).it.en ∧
  (lookM a_2.l a_2.i).it.gone = (lookM a.l a.i).it.gone ∧
  b.v.i = b_2.b.v.i ∧
  b.v.m = b_2.b.v.m ∧
  b.v.n = b_2.b.v.n ∧
  (lookM a_2.l a_2.i).base = (lookM a.l a.i).base ∧
  b.v.o = b_2.b.v.o ∧
  lookB a_2.l a_2.i = lookB a.l a.i ∧
  Snap b.g = Snap b_2.b.g ∧
  ((0 : Nat) = (0 : Nat) ∧
  (dropM a_4.l a_4.i).length = (dropM a.l a.i).length ∧
  b_1 = b_2.cap) ∧
  ((dropM a.l a.i).length ≤ (dropM a_4.l a_4.i).length ∧
  RowsEq (dropM a.l a.i).length (21 : Nat) (encRows encRM (dropM a_4.l a_4.i)) (encRows encRM (dropM a.l a.i))) ∧
  (looked a b_2.b ∧
  (dropM a.l a.i).length ≤ b_2.cap) ∧
  True) (by kernel_rfl) (by
  rintro ⟨l, cap, i, cs, gO, gA⟩ ⟨hl, hc, hlk, hls⟩
  dsimp only at *
  refine ⟨⟨l, cap, i, cs, gO, gA⟩, ?_⟩
  ((repeat' apply And.intro) <;> first | with_reducible rfl | omega | (dsimp only; omega) | exact RowsEq.refl _ _ _ | assumption | rfl | trivial | exact Nat.le_refl _ | skip)
  refine fun b hb => ⟨⟨l, cap, i⟩, ?_⟩
  ((repeat' apply And.intro) <;> first | with_reducible rfl | omega | (dsimp only; omega) | exact RowsEq.refl _ _ _ | assumption | rfl | trivial | exact Nat.le_refl _ | skip)
  refine fun d hd => ⟨⟨b, d⟩, ?_⟩
  ((repeat' apply And.intro) <;> first | with_reducible rfl | omega | (dsimp only; omega) | exact RowsEq.refl _ _ _ | assumption | rfl | trivial | exact Nat.le_refl _ | skip))
theorem callTake : CallsBy (Y Try.prog).G.X 14 cTake := fn_ok okY (tab := tabTake) ⟨callLook, callDrop, trivial⟩ bodyTake

/-! ### Send -/

noncomputable def mayB (a : MsgA) : Bool := @decide (okMR a) (Classical.propDecidable _)
theorem mayB_iff (a : MsgA) : mayB a = true ↔ okMR a := by unfold mayB; exact @decide_eq_true_iff _ (Classical.propDecidable _)
structure SendA where
  l : List RowM
  cap : Nat
  ms : List RowM
  mcap : Nat
  cs : List MsgA
  gO : Pool
  gA : Pool
structure SendB where
  cap : Nat
  new : List RowM
  g : Pool
noncomputable def cSend : Con where
  α := SendA
  β := SendB
  m := 5
  m' := 7
  pre := fun a => a.l.length + a.ms.length ≤ 300 ∧ a.l.length ≤ a.cap ∧ Likes a.gO a.gA a.ms a.cs ∧ allLens a.cs
  args := fun a => [.a (.ptr 0 0 0 0), .a (.slc 3 0 21 a.ms.length a.mcap)]
  hp := fun a => netHp 0 1 a.l a.cap ++ [(2, .abs (Snap a.gO))]
  ro := fun a => [(3, .arr 36 ksMsg a.ms.length (encRows encRM a.ms)), (4, .abs (Snap a.gA))]
  post := fun a b => a.gO.Ext b.g ∧ Likes b.g a.gA b.new (a.cs.filter mayB) ∧ (a.l ++ b.new).length ≤ b.cap
  res := fun _ b => .a (.int .i64 b.new.length)
  hp' := fun a b => netHp 0 5 (a.l ++ b.new) b.cap ++ [(6, .abs (Snap b.g))]
/-- in a block of its own -/
def S.net1 (s : S) (t : Nat) (l : List RowM) (cap : Nat) : S := ((s.put (s.hp.del (s.in_ t 0))).at_ t (.obj 51 [.slc s.nx 0 21 l.length cap])).new (.arr 36 ksMsg l.length (encRows encRM l))
/-- one's own pool -/
def S.pool (s : S) (g : Pool) : S := match findAbs true s.hp with
  | some t => (s.put (s.hp.del t)).new (.abs (Snap g))
  | none => s.new (.abs (Snap g))
structure SendS where
  i : Nat
  b : SendB
def iSend (a : SendA) : An := .flat 5 SendS (fun s x => (S.pool (S.net1 s (s.tg 0) (a.l ++ x.b.new) x.b.cap) x.b.g).int 17 x.i) (fun _ x => x.i ≤ a.ms.length ∧ x.b.new.length ≤ x.i ∧ a.gO.Ext x.b.g ∧ Likes x.b.g a.gA x.b.new ((a.cs.take x.i).filter mayB) ∧ (a.l ++ x.b.new).length ≤ x.b.cap) (fun _ x => a.ms.length - x.i)
noncomputable def tabSend : List (Nat × Con) := [(28, cMayV), (29, cOwnV)]
set_option maxHeartbeats 4000000 in
theorem bodySend : fnBody (Y Try.prog) tabSend 12 cSend fun a => [(12, [iSend a], [])] := fnBody.of (p :=
  ∀ (a : SendA), a.l.length + a.ms.length ≤ (300 : Nat) ∧
  a.l.length ≤ a.cap ∧
  Likes a.gO a.gA a.ms a.cs ∧
  allLens a.cs →
  (∃ (a_2 : SendS), (0 : Int) = (↑a_2.i : Int) ∧
  (↑a.ms.length : Int) = (↑a.ms.length : Int) ∧
  ((0 : Nat) = (0 : Nat) ∧
  a.ms.length = a.ms.length ∧
  a.mcap = a.mcap) ∧
  (↑a.l.length : Int) = (↑a.l.length : Int) ∧
  Bool.false = Bool.false ∧
  (0 : Int) = (0 : Int) ∧
  (0 : Nat) = (0 : Nat) ∧
  ((0 : Nat) = (0 : Nat) ∧
  a.ms.length = a.ms.length ∧
  a.mcap = a.mcap) ∧
  Snap a.gO = Snap a_2.b.g ∧
  ((0 : Nat) = (0 : Nat) ∧
  a.l.length = (a.l ++ a_2.b.new).length ∧
  a.cap = a_2.b.cap) ∧
  (a.ms.length ≤ a.ms.length ∧
  RowsEq a.ms.length (21 : Nat) (encRows encRM a.ms) (encRows encRM a.ms)) ∧
  Snap a.gA = Snap a.gA ∧
  ((a.l ++ a_2.b.new).length ≤ a.l.length ∧
  RowsEq (a.l ++ a_2.b.new).length (21 : Nat) (encRows encRM a.l) (encRows encRM (a.l ++ a_2.b.new))) ∧
  (a_2.i ≤ a.ms.length ∧
  a_2.b.new.length ≤ a_2.i ∧
  a.gO.Ext a_2.b.g ∧
  Likes a_2.b.g a.gA a_2.b.new (List.filter mayB (List.take a_2.i a.cs)) ∧
  (a.l ++ a_2.b.new).length ≤ a_2.b.cap) ∧
  True) ∧
  ∀ (a_2 : SendS), a_2.i ≤ a.ms.length ∧
  a_2.b.new.length ≤ a_2.i ∧
  a.gO.Ext a_2.b.g ∧
  Likes a_2.b.g a.gA a_2.b.new (List.filter mayB (List.take a_2.i a.cs)) ∧
  (a.l ++ a_2.b.new).length ≤ a_2.b.cap →
  (Decidable.decide ((↑a_2.i : Int) < (↑a.ms.length : Int)) = Bool.true →
  ((0 : Int) ≤ (↑a_2.i : Int) ∧
  (↑a_2.i : Int) < (↑a.ms.length : Int)) ∧
  (0 : Nat) + (↑a_2.i : Int).toNat < a.ms.length ∧
  ∃ (a_5 : ValA), (gl a.ms ((0 : Nat) + (↑a_2.i : Int).toNat)).m.k = a_5.a.m.k ∧
  (gl a.ms ((0 : Nat) + (↑a_2.i : Int).toNat)).m.f = a_5.a.m.f ∧
  (gl a.ms ((0 : Nat) + (↑a_2.i : Int).toNat)).m.t = a_5.a.m.t ∧
  (gl a.ms ((0 : Nat) + (↑a_2.i : Int).toNat)).m.ep = a_5.a.m.ep ∧
  (gl a.ms ((0 : Nat) + (↑a_2.i : Int).toNat)).m.ti = a_5.a.m.ti ∧
  (gl a.ms ((0 : Nat) + (↑a_2.i : Int).toNat)).m.sq = a_5.a.m.sq ∧
  (gl a.ms ((0 : Nat) + (↑a_2.i : Int).toNat)).m.n = a_5.a.m.n ∧
  (gl a.ms ((0 : Nat) + (↑a_2.i : Int).toNat)).m.id = a_5.a.m.id ∧
  (gl a.ms ((0 : Nat) + (↑a_2.i : Int).toNat)).m.op = a_5.a.m.op ∧
  (gl a.ms ((0 : Nat) + (↑a_2.i : Int).toNat)).m.key = a_5.a.m.key ∧
  (gl a.ms ((0 : Nat) + (↑a_2.i : Int).toNat)).m.err = a_5.a.m.err ∧
  (gl a.ms ((0 : Nat) + (↑a_2.i : Int).toNat)).m.last = a_5.a.m.last ∧
  (gl a.ms ((0 : Nat) + (↑a_2.i : Int).toNat)).m.it.key = a_5.a.m.it.key ∧
  (gl a.ms ((0 : Nat) + (↑a_2.i : Int).toNat)).m.it.val = a_5.a.m.it.val ∧
  (gl a.ms ((0 : Nat) + (↑a_2.i : Int).toNat)).m.it.en = a_5.a.m.it.en ∧
  (gl a.ms ((0 : Nat) + (↑a_2.i : Int).toNat)).m.it.gone = a_5.a.m.it.gone ∧
  encRows encRM a.ms ((0 : Nat) + (↑a_2.i : Int).toNat) (16 : Nat) = a_5.v.i ∧
  encRows encRM a.ms ((0 : Nat) + (↑a_2.i : Int).toNat) (17 : Nat) = a_5.v.m ∧
  encRows encRM a.ms ((0 : Nat) + (↑a_2.i : Int).toNat) (18 : Nat) = a_5.v.n ∧
  (gl a.ms ((0 : Nat) + (↑a_2.i : Int).toNat)).m.base = a_5.a.m.base ∧
  encRows encRM a.ms ((0 : Nat) + (↑a_2.i : Int).toNat) (20 : Nat) = a_5.v.o ∧
  Snap a_2.b.g = Snap a_5.gO ∧
  Snap a.gA = Snap a_5.gA ∧
  (lensM a_5.a ∧
  Has a_5.gO a_5.gA a_5.v a_5.a) ∧
  ∀ (b : Bool), (b = Bool.true ↔ okMR a_5.a) →
  (b = Bool.true →
  (Decidable.decide ((↑(a.l ++ a_2.b.new).length : Int) < (300 : Int)) = Bool.true →
  ∃ (a_9 : ValA), (gl a.ms ((0 : Nat) + (↑a_2.i : Int).toNat)).m.k = a_9.a.m.k ∧
  (gl a.ms ((0 : Nat) + (↑a_2.i : Int).toNat)).m.f = a_9.a.m.f ∧
  (gl a.ms ((0 : Nat) + (↑a_2.i : Int).toNat)).m.t = a_9.a.m.t ∧
  (gl a.ms ((0 : Nat) + (↑a_2.i : Int).toNat)).m.ep = a_9.a.m.ep ∧
  (gl a.ms ((0 : Nat) + (↑a_2.i : Int).toNat)).m.ti = a_9.a.m.ti ∧
  (gl a.ms ((0 : Nat) + (↑a_2.i : Int).toNat)).m.sq = a_9.a.m.sq ∧
  (gl a.ms ((0 : Nat) + (↑a_2.i : Int).toNat)).m.n = a_9.a.m.n ∧
  (gl a.ms ((0 : Nat) + (↑a_2.i : Int).toNat)).m.id = a_9.a.m.id ∧
  (gl a.ms ((0 : Nat) + (↑a_2.i : Int).toNat)).m.op = a_9.a.m.op ∧
  (gl a.ms ((0 : Nat) + (↑a_2.i : Int).toNat)).m.key = a_9.a.m.key ∧
  (gl a.ms ((0 : Nat) + (↑a_2.i : Int).toNat)).m.err = a_9.a.m.err ∧
  (gl a.ms ((0 : Nat) + (↑a_2.i : Int).toNat)).m.last = a_9.a.m.last ∧
  (gl a.ms ((0 : Nat) + (↑a_2.i : Int).toNat)).m.it.key = a_9.a.m.it.key ∧
  (gl a.ms ((0 : Nat) + (↑a_2.i : Int).toNat)).m.it.val = a_9.a.m.it.val ∧
  (gl a.ms ((0 : Nat) + (↑a_2.i : Int).toNat)).m.it.en = a_9.a.m.it.en ∧
  (gl a.ms ((0 : Nat) + (↑a_2.i : Int).toNat)).m.it.gone = a_9.a.m.it.gone ∧
  encRows encRM a.ms ((0 : Nat) + (↑a_2.i : Int).toNat) (16 : Nat) = a_9.v.i ∧
  encRows encRM a.ms ((0 : Nat) + (↑a_2.i : Int).toNat) (17 : Nat) = a_9.v.m ∧
  encRows encRM a.ms ((0 : Nat) + (↑a_2.i : Int).toNat) (18 : Nat) = a_9.v.n ∧
  (gl a.ms ((0 : Nat) + (↑a_2.i : Int).toNat)).m.base = a_9.a.m.base ∧
  encRows encRM a.ms ((0 : Nat) + (↑a_2.i : Int).toNat) (20 : Nat) = a_9.v.o ∧
  Snap a_5.gO = Snap a_9.gO ∧
  Snap a.gA = Snap a_9.gA ∧
  ((a_9.a.il.length < (100000 : Nat) ∧
  a_9.a.ml.length < (100000 : Nat) ∧
  a_9.a.nl.length < (100000 : Nat) ∧
  a_9.a.ol.length < (100000 : Nat)) ∧
  Has a_9.gO a_9.gA a_9.v a_9.a) ∧
  ∀ (b : ValB), a_9.gO.Ext b.g ∧
  Has b.g a_9.gA b.v (a_9.a.caps b.c) →
  (0 : Nat) + (a.l ++ a_2.b.new).length ≤ (a.l ++ a_2.b.new).length ∧
  (1 : Nat) ≤ (1 : Nat) ∧
  ((a.l ++ a_2.b.new).length + (1 : Nat)) * (256 : Nat) ≤ (140737488355328 : Nat) ∧
  ∀ (cap : Nat), (a.l ++ a_2.b.new).length + (1 : Nat) ≤ cap →
  cap ≤ lenMax →
  ((a.l ++ a_2.b.new).length + (1 : Nat) ≤ a_2.b.cap →
  cap = a_2.b.cap) →
  InR IntKind.i64 ((↑a_2.i : Int) + (1 : Int)) ∧
  ∃ (a' : SendS), (↑a_2.i : Int) + (1 : Int) = (↑a'.i : Int) ∧
  (↑a.ms.length : Int) = (↑a.ms.length : Int) ∧
  ((0 : Nat) = (0 : Nat) ∧
  a.ms.length = a.ms.length ∧
  a.mcap = a.mcap) ∧
  (↑a.l.length : Int) = (↑a.l.length : Int) ∧
  Bool.false = Bool.false ∧
  (0 : Int) = (0 : Int) ∧
  (0 : Nat) = (0 : Nat) ∧
  ((0 : Nat) = (0 : Nat) ∧
  a.ms.length = a.ms.length ∧
  a.mcap = a.mcap) ∧
  Snap b.g = Snap a'.b.g ∧
  ((0 : Nat) = (0 : Nat) ∧
  (a.l ++ a_2.b.new).length + (1 : Nat) = (a.l ++ a'.b.new).length ∧
  cap = a'.b.cap) ∧
  (a.ms.length ≤ a.ms.length ∧
  RowsEq a.ms.length (21 : Nat) (encRows encRM a.ms) (encRows encRM a.ms)) ∧
  Snap a.gA = Snap a.gA ∧
  ((a.l ++ a'.b.new).length ≤ (a.l ++ a_2.b.new).length + (1 : Nat) ∧
  RowsEq (a.l ++ a'.b.new).length (21 : Nat) (appRows (encRows encRM (a.l ++ a_2.b.new)) (0 : Nat) (a.l ++ a_2.b.new).length fun (i j : Nat) => flatRows (21 : Nat) [Value.int IntKind.i64 a_9.a.m.k, Value.int IntKind.i64 a_9.a.m.f, Value.int IntKind.i64 a_9.a.m.t, Value.int IntKind.i64 a_9.a.m.ep, Value.int IntKind.i64 a_9.a.m.ti, Value.int IntKind.i64 a_9.a.m.sq, Value.int IntKind.i64 a_9.a.m.n, Value.int IntKind.i64 a_9.a.m.id, Value.int IntKind.i64 a_9.a.m.op, Value.string a_9.a.m.key, Value.int IntKind.i64 a_9.a.m.err, Value.bool a_9.a.m.last, Value.string a_9.a.m.it.key, Value.string a_9.a.m.it.val, Value.int IntKind.i64 a_9.a.m.it.en, Value.bool a_9.a.m.it.gone, b.v.i, b.v.m, b.v.n, Value.int IntKind.i64 a_9.a.m.base, b.v.o] ((0 : Nat) + i) j) (encRows encRM (a.l ++ a'.b.new))) ∧
  (a'.i ≤ a.ms.length ∧
  a'.b.new.length ≤ a'.i ∧
  a.gO.Ext a'.b.g ∧
  Likes a'.b.g a.gA a'.b.new (List.filter mayB (List.take a'.i a.cs)) ∧
  (a.l ++ a'.b.new).length ≤ a'.b.cap) ∧
  a.ms.length - a'.i < a.ms.length - a_2.i) ∧
  (Decidable.decide ((↑(a.l ++ a_2.b.new).length : Int) < (300 : Int)) = Bool.false →
  InR IntKind.i64 ((↑a_2.i : Int) + (1 : Int)) ∧
  ∃ (a' : SendS), (↑a_2.i : Int) + (1 : Int) = (↑a'.i : Int) ∧
  (↑a.ms.length : Int) = (↑a.ms.length : Int) ∧
  ((0 : Nat) = (0 : Nat) ∧
  a.ms.length = a.ms.length ∧
  a.mcap = a.mcap) ∧
  (↑a.l.length : Int) = (↑a.l.length : Int) ∧
  Bool.false = Bool.false ∧
  (0 : Int) = (0 : Int) ∧
  (0 : Nat) = (0 : Nat) ∧
  ((0 : Nat) = (0 : Nat) ∧
  a.ms.length = a.ms.length ∧
  a.mcap = a.mcap) ∧
  Snap a_5.gO = Snap a'.b.g ∧
  ((0 : Nat) = (0 : Nat) ∧
  (a.l ++ a_2.b.new).length = (a.l ++ a'.b.new).length ∧
  a_2.b.cap = a'.b.cap) ∧
  (a.ms.length ≤ a.ms.length ∧
  RowsEq a.ms.length (21 : Nat) (encRows encRM a.ms) (encRows encRM a.ms)) ∧
  Snap a.gA = Snap a.gA ∧
  ((a.l ++ a'.b.new).length ≤ (a.l ++ a_2.b.new).length ∧
  RowsEq (a.l ++ a'.b.new).length (21 : Nat) (encRows encRM (a.l ++ a_2.b.new)) (encRows encRM (a.l ++ a'.b.new))) ∧
  (a'.i ≤ a.ms.length ∧
  a'.b.new.length ≤ a'.i ∧
  a.gO.Ext a'.b.g ∧
  Likes a'.b.g a.gA a'.b.new (List.filter mayB (List.take a'.i a.cs)) ∧
  (a.l ++ a'.b.new).length ≤ a'.b.cap) ∧
  a.ms.length - a'.i < a.ms.length - a_2.i)) ∧
  (b = Bool.false →
  InR IntKind.i64 ((↑a_2.i : Int) + (1 : Int)) ∧
  ∃ (a' : SendS), (↑a_2.i : Int) + (1 : Int) = (↑a'.i : Int) ∧
  (↑a.ms.length : Int) = (↑a.ms.length : Int) ∧
  ((0 : Nat) = (0 : Nat) ∧
  a.ms.length = a.ms.length ∧
  a.mcap = a.mcap) ∧
  (↑a.l.length : Int) = (↑a.l.length : Int) ∧
  Bool.false = Bool.false ∧
  (0 : Int) = (0 : Int) ∧
  (0 : Nat) = (0 : Nat) ∧
  ((0 : Nat) = (0 : Nat) ∧
  a.ms.length = a.ms.length ∧
  a.mcap = a.mcap) ∧
  Snap a_5.gO = Snap a'.b.g ∧
  ((0 : Nat) = (0 : Nat) ∧
  (a.l ++ a_2.b.new).length = (a.l ++ a'.b.new).length ∧
  a_2.b.cap = a'.b.cap) ∧
  (a.ms.length ≤ a.ms.length ∧
  RowsEq a.ms.length (21 : Nat) (encRows encRM a.ms) (encRows encRM a.ms)) ∧
  Snap a.gA = Snap a.gA ∧
  ((a.l ++ a'.b.new).length ≤ (a.l ++ a_2.b.new).length ∧
  RowsEq (a.l ++ a'.b.new).length (21 : Nat) (encRows encRM (a.l ++ a_2.b.new)) (encRows encRM (a.l ++ a'.b.new))) ∧
  (a'.i ≤ a.ms.length ∧
  a'.b.new.length ≤ a'.i ∧
  a.gO.Ext a'.b.g ∧
  Likes a'.b.g a.gA a'.b.new (List.filter mayB (List.take a'.i a.cs)) ∧
  (a.l ++ a'.b.new).length ≤ a'.b.cap) ∧
  a.ms.length - a'.i < a.ms.length - a_2.i)) ∧
  (Decidable.decide ((↑a_2.i : Int) < (↑a.ms.length : Int)) = Bool.false →
  InR IntKind.i64 ((↑(a.l ++ a_2.b.new).length : Int) - (↑a.l.length : Int)) ∧
  ∃ (b : SendB), (↑(a.l ++ a_2.b.new).length : Int) - (↑a.l.length : Int) = (↑b.new.length : Int) ∧
  Snap a_2.b.g = Snap b.g ∧
  ((0 : Nat) = (0 : Nat) ∧
  (a.l ++ a_2.b.new).length = (a.l ++ b.new).length ∧
  a_2.b.cap = b.cap) ∧
  ((a.l ++ b.new).length ≤ (a.l ++ a_2.b.new).length ∧
  RowsEq (a.l ++ b.new).length (21 : Nat) (encRows encRM (a.l ++ a_2.b.new)) (encRows encRM (a.l ++ b.new))) ∧
  (a.gO.Ext b.g ∧
  Likes b.g a.gA b.new (List.filter mayB a.cs) ∧
  (a.l ++ b.new).length ≤ b.cap) ∧
  True)) (by kernel_rfl) (by
  rintro ⟨l, cap, ms, mcap, cs, gO, gA⟩ ⟨h1, hc, hlk, hls⟩
  dsimp only at *
  simp only [Nat.zero_add, Int.toNat_natCast, InR, decide_eq_true_eq, decide_eq_false_iff_not]
  refine ⟨⟨⟨0, ⟨cap, [], gO⟩⟩, ?_⟩, fun x hx => ⟨fun c1 => ?_, fun c1 => ?_⟩⟩
  · dsimp only
    rw [List.append_nil]
    ((repeat' apply And.intro) <;> first | with_reducible rfl | omega | (dsimp only; omega) | exact RowsEq.refl _ _ _ | assumption | rfl | trivial | exact Nat.le_refl _ | skip)
    · exact Pool.Ext.refl _
    · exact Likes.nil _ _
  · obtain ⟨i, ⟨cap', new, g⟩⟩ := x
    obtain ⟨x1, x2, x3, x4, x5⟩ := hx
    dsimp only at x1 x2 x3 x4 x5 c1 ⊢
    rw [List.length_append] at x5
    have hi : i < ms.length := by omega
    obtain ⟨hm, c0, hh⟩ := hlk.at_ i hi
    have hic : i < cs.length := by rw [← hlk.len]; exact hi
    have hlen := hls.at_ i hic
    have htk := take_succ_gl hic
    simp only [hm, List.length_append]
    have hh' := hh.ext x3
    refine ⟨by omega, hi, ⟨(gl cs i).caps c0, (gl ms i).v, g, gA⟩, ?_⟩
    ((repeat' apply And.intro) <;> first | with_reducible rfl | omega | (dsimp only; omega) | exact RowsEq.refl _ _ _ | assumption | rfl | trivial | exact Nat.le_refl _ | skip)
    · exact ⟨hlen.i, hlen.m, hlen.n, hlen.o⟩
    intro b hb
    have hok : okMR ((gl cs i).caps c0) ↔ okMR (gl cs i) := ⟨fun ⟨a1, a2, a3, a4, a5, a6, a7, a8, a9, a10, a11, a12, a13, a14, a15, a16, a17, a18, a19, a20⟩ => ⟨a1, a2, a3, a4, a5, a6, a7, a8, a9, a10, a11, a12, a13, a14, a15, a16, a17, a18, a19, a20⟩, fun ⟨a1, a2, a3, a4, a5, a6, a7, a8, a9, a10, a11, a12, a13, a14, a15, a16, a17, a18, a19, a20⟩ => ⟨a1, a2, a3, a4, a5, a6, a7, a8, a9, a10, a11, a12, a13, a14, a15, a16, a17, a18, a19, a20⟩⟩
    refine ⟨fun e => ⟨fun d => ⟨⟨(gl cs i).caps c0, (gl ms i).v, g, gA⟩, ?_⟩, fun d => (by exfalso; omega)⟩, fun e => ⟨by omega, ⟨i + 1, ⟨cap', new, g⟩⟩, ?_⟩⟩
    · have hgood : mayB (gl cs i) = true := (mayB_iff _).2 (hok.1 (hb.1 e))
      ((repeat' apply And.intro) <;> first | with_reducible rfl | omega | (dsimp only; omega) | exact RowsEq.refl _ _ _ | assumption | rfl | trivial | exact Nat.le_refl _ | skip)
      · exact hlen.i
      · exact hlen.m
      · exact hlen.n
      · exact hlen.o
      rintro b' ⟨b1, b2⟩
      refine ⟨by omega, by omega, by omega, fun cap2 g1 g2 g3 => ⟨by omega, ⟨i + 1, ⟨cap2, new ++ [⟨(gl cs i).m, b'.v⟩], b'.g⟩⟩, ?_⟩⟩
      have hfl : (cs.take (i + 1)).filter mayB = (cs.take i).filter mayB ++ [gl cs i] := by
        rw [htk, List.filter_append]; simp [hgood]
      dsimp only
      rw [hfl, ← List.append_assoc]
      ((repeat' apply And.intro) <;> first | with_reducible rfl | omega | (dsimp only; omega) | exact RowsEq.refl _ _ _ | assumption | rfl | trivial | exact Nat.le_refl _ | skip)
      · simp <;> omega
      · simp <;> omega
      · exact .push (by simp) (by simp <;> omega) rfl
      · simp <;> omega
      · exact x3.trans b1
      · exact (x4.ext b1).push rfl b2
      · simp; omega
    · have hbad : mayB (gl cs i) = false := by
        cases h : mayB (gl cs i) with
        | false => rfl
        | true => rw [hb.2 (hok.2 ((mayB_iff _).1 h))] at e; cases e
      have hfl : (cs.take (i + 1)).filter mayB = (cs.take i).filter mayB := by
        rw [htk, List.filter_append]; simp [hbad]
      dsimp only
      rw [hfl]
      ((repeat' apply And.intro) <;> first | with_reducible rfl | omega | (dsimp only; omega) | exact RowsEq.refl _ _ _ | assumption | rfl | trivial | exact Nat.le_refl _ | skip)
  · obtain ⟨i, ⟨cap', new, g⟩⟩ := x
    obtain ⟨x1, x2, x3, x4, x5⟩ := hx
    dsimp only at x1 x2 x3 x4 x5 c1 ⊢
    have hi : i = cs.length := by rw [← hlk.len]; omega
    rw [hi, List.take_length] at x4
    rw [List.length_append] at x5 ⊢
    refine ⟨by omega, ⟨cap', new, g⟩, ?_⟩
    ((repeat' apply And.intro) <;> first | with_reducible rfl | omega | (dsimp only; omega) | exact RowsEq.refl _ _ _ | assumption | rfl | trivial | exact Nat.le_refl _ | skip)
    all_goals (simp <;> omega))
theorem callSend : CallsBy (Y Try.prog).G.X 12 cSend := fn_ok okY (tab := tabSend) ⟨callMayV, callOwnV, trivial⟩ bodySend
end Go.Proofs.Ythgnaehfepcblaa
