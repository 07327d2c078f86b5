/-
  NetAll's argument; no condition.
-/
import Derived.Test.YthgnaehfepcblaaNetAllL
import Derived.Test.YthgnaehfepcblaaSxZd
namespace Go.Proofs.Ythgnaehfepcblaa
open Go.Sx
set_option maxRecDepth 100000
set_option linter.unusedVariables false

def itemsOf (n : Nat) (r : Nat → Nat → Value) : List ItemR := (List.range n).map fun i => ⟨toS (r i 0), toS (r i 1), toI (r i 2), toB (r i 3)⟩
def marksOf (n : Nat) (r : Nat → Nat → Value) : List MarkR := (List.range n).map fun i => ⟨toI (r i 0), toS (r i 1)⟩
def intsOf (n : Nat) (r : Nat → Nat → Value) : List Int := (List.range n).map fun i => toI (r i 0)
def kinds (ks : List CK) (n : Nat) (r : Nat → Nat → Value) : Prop := ∀ i, i < n → ∀ (j : Nat) (k : CK), ks[j]? = some k → k.ok (r i j)
theorem itemsOf_len (n : Nat) (r : Nat → Nat → Value) : (itemsOf n r).length = n := by simp [itemsOf]
theorem marksOf_len (n : Nat) (r : Nat → Nat → Value) : (marksOf n r).length = n := by simp [marksOf]
theorem intsOf_len (n : Nat) (r : Nat → Nat → Value) : (intsOf n r).length = n := by simp [intsOf]
theorem itemsOf_rows {n : Nat} {r : Nat → Nat → Value} (h : kinds ksItem n r) : RowsEq n 4 r (encRows encItem (itemsOf n r)) := by
  refine ⟨fun i hi j hj => ?_⟩
  have hg : gl (itemsOf n r) i = ⟨toS (r i 0), toS (r i 1), toI (r i 2), toB (r i 3)⟩ := by
    rw [gl_eq (by rw [itemsOf_len]; exact hi)]; simp [itemsOf]
  unfold encRows
  rw [hg]
  match j, hj with
  | 0, _ => obtain ⟨s, e, _⟩ := h i hi 0 .str rfl; rw [e]; rfl
  | 1, _ => obtain ⟨s, e, _⟩ := h i hi 1 .str rfl; rw [e]; rfl
  | 2, _ => obtain ⟨s, e, _⟩ := h i hi 2 (.int .i64) rfl; rw [e]; rfl
  | 3, _ => obtain ⟨s, e⟩ := h i hi 3 .bool rfl; rw [e]; rfl
theorem marksOf_rows {n : Nat} {r : Nat → Nat → Value} (h : kinds ksMark n r) : RowsEq n 2 r (encRows encMark (marksOf n r)) := by
  refine ⟨fun i hi j hj => ?_⟩
  have hg : gl (marksOf n r) i = ⟨toI (r i 0), toS (r i 1)⟩ := by
    rw [gl_eq (by rw [marksOf_len]; exact hi)]; simp [marksOf]
  unfold encRows
  rw [hg]
  match j, hj with
  | 0, _ => obtain ⟨s, e, _⟩ := h i hi 0 (.int .i64) rfl; rw [e]; rfl
  | 1, _ => obtain ⟨s, e, _⟩ := h i hi 1 .str rfl; rw [e]; rfl
theorem intsOf_rows {n : Nat} {r : Nat → Nat → Value} (h : kinds [.int .i64] n r) : RowsEq n 1 r (encRows encI (intsOf n r)) := by
  refine ⟨fun i hi j hj => ?_⟩
  have hg : gl (intsOf n r) i = toI (r i 0) := by
    rw [gl_eq (by rw [intsOf_len]; exact hi)]; simp [intsOf]
  unfold encRows
  rw [hg]
  match j, hj with
  | 0, _ => obtain ⟨s, e, _⟩ := h i hi 0 (.int .i64) rfl; rw [e]; rfl

section
variable {H : Type} {enc : TypeId × Value → H} {W : World} {held : Bool}
theorem uMs : Try.prog.underlying 26 = some (.slice 36) := by kernel_rfl
theorem uIt : Try.prog.underlying 32 = some (.slice 31) := by kernel_rfl
theorem uMk : Try.prog.underlying 33 = some (.slice 56) := by kernel_rfl
theorem uIn : Try.prog.underlying 34 = some (.slice 3) := by kernel_rfl
theorem uOp : Try.prog.underlying 22 = some (.slice 28) := by kernel_rfl
theorem kMsg : flatKd true Try.prog 20 36 = some ksMsg := by kernel_rfl
theorem kOp : flatKd true Try.prog 20 28 = some ksOp := by kernel_rfl
theorem kIt : flatKd true Try.prog 20 31 = some ksItem := by kernel_rfl
theorem kMk : flatKd true Try.prog 20 56 = some ksMark := by kernel_rfl
theorem kIn : flatKd true Try.prog 20 3 = some [.int .i64] := by kernel_rfl
theorem fOp2 : fieldAt Try.prog 28 2 = some (26, 2) := by kernel_rfl
theorem fMi : fieldAt Try.prog 36 13 = some (32, 16) := by kernel_rfl
theorem fMm : fieldAt Try.prog 36 14 = some (33, 17) := by kernel_rfl
theorem fMn : fieldAt Try.prog 36 15 = some (34, 18) := by kernel_rfl
theorem fMo : fieldAt Try.prog 36 17 = some (34, 20) := by kernel_rfl

/-- a row's message -/
def rowOf (r : Nat → Value) : RowM := ⟨⟨toI (r 0), toI (r 1), toI (r 2), toI (r 3), toI (r 4), toI (r 5), toI (r 6), toI (r 7), toI (r 8), toS (r 9), toI (r 10), toB (r 11), ⟨toS (r 12), toS (r 13), toI (r 14), toB (r 15)⟩, toI (r 19)⟩, ⟨r 16, r 17, r 18, r 20⟩⟩
theorem rowOf_enc {r : Nat → Value} (h : ∀ (j : Nat) (k : CK), ksMsg[j]? = some k → k.ok (r j)) : ∀ j, j < 21 → r j = (encRM (rowOf r)).getD j undef := by
  intro j hj
  have hi : ∀ j, ksMsg[j]? = some (.int .i64) → r j = .int .i64 (toI (r j)) := fun j e => by obtain ⟨n, e, _⟩ := h j _ e; rw [e]; rfl
  have hs : ∀ j, ksMsg[j]? = some .str → r j = .string (toS (r j)) := fun j e => by obtain ⟨n, e, _⟩ := h j _ e; rw [e]; rfl
  have hb : ∀ j, ksMsg[j]? = some .bool → r j = .bool (toB (r j)) := fun j e => by obtain ⟨n, e⟩ := h j _ e; rw [e]; rfl
  match j, hj with
  | 0, _ => exact hi 0 rfl
  | 1, _ => exact hi 1 rfl
  | 2, _ => exact hi 2 rfl
  | 3, _ => exact hi 3 rfl
  | 4, _ => exact hi 4 rfl
  | 5, _ => exact hi 5 rfl
  | 6, _ => exact hi 6 rfl
  | 7, _ => exact hi 7 rfl
  | 8, _ => exact hi 8 rfl
  | 9, _ => exact hs 9 rfl
  | 10, _ => exact hi 10 rfl
  | 11, _ => exact hb 11 rfl
  | 12, _ => exact hs 12 rfl
  | 13, _ => exact hs 13 rfl
  | 14, _ => exact hi 14 rfl
  | 15, _ => exact hb 15 rfl
  | 16, _ => rfl
  | 17, _ => rfl
  | 18, _ => rfl
  | 19, _ => exact hi 19 rfl
  | 20, _ => rfl
  | n + 21, h => exact absurd h (by omega)
def rowsOf (n : Nat) (rows : Nat → Nat → Value) : List RowM := (List.range n).map fun i => rowOf (rows i)
theorem rowsOf_len (n : Nat) (rows : Nat → Nat → Value) : (rowsOf n rows).length = n := by simp [rowsOf]
theorem rowsOf_gl {n : Nat} {rows : Nat → Nat → Value} {i : Nat} (h : i < n) : gl (rowsOf n rows) i = rowOf (rows i) := by
  rw [gl_eq (by rw [rowsOf_len]; exact h)]; simp [rowsOf]
/-- a message's lists, as they read -/
theorem has_of {cs : List Value} {r : Nat → Value} (h : Rd enc Try.prog W held 36 cs) (hc : ∀ j, j < 21 → cs[j]? = some (r j)) : ∃ a : MsgA, (rowOf r).m = a.m ∧ Has (Pool.all W) (Pool.all W) (rowOf r).v a := by
  obtain ⟨n0, c0, r0, s0, k0, _⟩ := (h.cell fMi (by kernel_rfl) (hc 16 (by decide))).slice uIt kIt (by kernel_rfl) (by decide)
  obtain ⟨n1, c1, r1, s1, k1, _⟩ := (h.cell fMm (by kernel_rfl) (hc 17 (by decide))).slice uMk kMk (by kernel_rfl) (by decide)
  obtain ⟨n2, c2, r2, s2, k2, _⟩ := (h.cell fMn (by kernel_rfl) (hc 18 (by decide))).slice uIn kIn (by kernel_rfl) (by decide)
  obtain ⟨n3, c3, r3, s3, k3, _⟩ := (h.cell fMo (by kernel_rfl) (hc 20 (by decide))).slice uIn kIn (by kernel_rfl) (by decide)
  refine ⟨⟨(rowOf r).m, itemsOf n0 r0, marksOf n1 r1, intsOf n2 r2, intsOf n3 r3, c0, c1, c2, c3⟩, rfl, ⟨.inl ?_, .inl ?_, .inl ?_, .inl ?_⟩⟩
  · rw [itemsOf_len]; exact s0.rows (itemsOf_rows k0)
  · rw [marksOf_len]; exact s1.rows (marksOf_rows k1)
  · rw [intsOf_len]; exact s2.rows (intsOf_rows k2)
  · rw [intsOf_len]; exact s3.rows (intsOf_rows k3)
theorem instAll : ∀ n cap rows, n ≤ cap → cap ≤ lenMax → (∀ i, i < n → ∃ cs : List Value, Rd enc Try.prog W held 28 cs ∧ KsOk ksOp cs ∧ ∀ j, j < ksOp.length → cs[j]? = some (rows i j)) →
    ∃ a, cAll.pre a ∧ cAll.args a = [.a (.slc 0 0 ksOp.length n cap)] ∧ cAll.ro a = [(0, .arr 28 ksOp n rows), (1, .abs (Snap (Pool.all W)))] ∧ cAll.m = 2 := by
  intro n cap rows hn hc hr
  refine ⟨⟨n, cap, rows, Pool.all W⟩, ⟨hn, hc, fun i hi => ?_⟩, rfl, rfl, rfl⟩
  obtain ⟨cs, h1, _, h3⟩ := hr i hi
  obtain ⟨n', cap', rows', s, k, el⟩ := (h1.cell fOp2 (by kernel_rfl) (h3 2 (by decide))).slice uMs kMsg (by kernel_rfl) (by decide)
  obtain ⟨l, hl, hq⟩ := choose_list (Q := fun i (a : MsgA) => (rowOf (rows' i)).m = a.m ∧ Has (Pool.all W) (Pool.all W) (rowOf (rows' i)).v a) n' fun i hi => by
    obtain ⟨cs, g1, _, g3⟩ := el i hi
    exact has_of g1 g3
  refine ⟨⟨rowsOf n' rows', l, cap', ?_, ⟨by rw [rowsOf_len, hl], fun i hi => ?_⟩⟩⟩
  · rw [rowsOf_len]
    refine s.rows ⟨fun i hi j hj => ?_⟩
    unfold encRows
    rw [rowsOf_gl hi]
    exact rowOf_enc (k i hi) j hj
  · rw [rowsOf_len] at hi
    rw [rowsOf_gl hi]
    exact ⟨(hq i hi).1, ⟨(gl l i).ci, (gl l i).cm, (gl l i).cn, (gl l i).co⟩, (hq i hi).2⟩
end
end Go.Proofs.Ythgnaehfepcblaa
