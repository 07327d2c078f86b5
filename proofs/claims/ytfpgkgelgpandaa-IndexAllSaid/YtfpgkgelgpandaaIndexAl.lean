/-
  The document's sorting of texts, a list of pairs looked through; the statement IndexAll's function; no condition.
-/
import Derived.Test.YtfpgkgelgpandaaIndexKs
namespace Go.Proofs.Ytfpgkgelgpandaa
open Go.Sx
set_option maxRecDepth 100000
set_option linter.unusedVariables false

/-! ### Rise -/

structure RiseA where
  l : List ByteArray
  cap : Nat
structure RiseS where
  i : Nat
  out : List ByteArray
  cap : Nat
/-- strictly in order -/
structure Strict (l : List ByteArray) : Prop where
  p : l.Pairwise fun a b => tl a < tl b
noncomputable def cRise : Con where
  α := RiseA
  β := Nat
  m := 1
  m' := 2
  pre := fun a => a.l.length < 1000 ∧ a.l.Nodup
  args := fun a => [.a (.slc 0 0 1 a.l.length a.cap)]
  hp := fun _ => []
  ro := fun a => [(0, .arr 9 [.str] a.l.length (encRows encT a.l))]
  post := fun _ _ => True
  res := fun a cap => .a (.slc 1 0 1 a.l.length cap)
  hp' := fun a _ => [(1, .arr 9 [.str] a.l.length (encRows encT (sortB a.l)))]
def iRise (a : RiseA) : An := .mk 3 RiseS (fun s y => ((s.new (.arr 9 [.str] y.out.length (encRows encT y.out))).set 3 (.a (.slc s.nx 0 1 y.out.length y.cap))).int 4 y.i)
  (fun _ y => y.i ≤ a.l.length ∧ y.out.length ≤ y.cap ∧ Strict y.out ∧ y.out.Perm (a.l.take y.i)) (fun _ y => a.l.length - y.i)
  fun y => .mk 60 [.flat 6 Nat (fun s k => s.int 5 k) (fun _ k => k ≤ y.out.length ∧ ∀ j, j < k → ltB (gl y.out j) (gl a.l y.i) = true) (fun _ k => y.out.length - k)] []
theorem rows_ins {out : List ByteArray} {x : ByteArray} {k n : Nat} (hk : k ≤ out.length) :
    RowsEq n 1 (appRows (encRows encT out) 0 k fun (i j : Nat) => appRows (flatRows 1 [Go.Value.string x]) 0 1 (fun (i j : Nat) => encRows encT out (k + i) j) i j) (encRows encT (out.take k ++ x :: out.drop k)) := by
  refine .app (by simp; omega) (.of_cells fun i hi => ?_) (.trans (b := appRows (flatRows 1 [Go.Value.string x]) 0 1 fun (i j : Nat) => encRows encT out (k + i) j) (.of_eq rfl) (.app (l := [x]) (q := out.drop k) rfl (.of_cells fun i hi => ?_) (.of_cells fun i _ => ?_)))
  · unfold encRows; rw [gl_take hi, Nat.zero_add]
  · have : i = 0 := by omega
    subst this; rfl
  · unfold encRows; rw [gl_drop]
theorem strict_mem {l : List ByteArray} (h : Strict l) {i j : Nat} (hij : i < j) (hj : j < l.length) : tl (gl l i) < tl (gl l j) := by
  rw [gl_eq (show i < l.length by omega), gl_eq hj]
  exact List.pairwise_iff_getElem.1 h.p i j (by omega) hj hij
theorem ins_ok {out l : List ByteArray} {x : ByteArray} {i k : Nat} (h1 : Strict out) (h2 : out.Perm (l.take i)) (h3 : l.Nodup) (hi : i < l.length) (hx : x = gl l i) (hk : k ≤ out.length) (h4 : ∀ j, j < k → ltB (gl out j) x = true) (h5 : k < out.length → ltB (gl out k) x = false) :
    Strict (out.take k ++ x :: out.drop k) ∧ (out.take k ++ x :: out.drop k).Perm (l.take (i + 1)) ∧ x ∉ out := by
  have hnot : x ∉ out := by
    intro hm
    have hm := h2.mem_iff.1 hm
    have hnd : (l.take (i + 1)).Nodup := h3.sublist (List.take_sublist _ _)
    rw [take_succ_gl hi, ← hx, List.nodup_append] at hnd
    exact hnd.2.2 _ hm _ (List.mem_singleton_self _) rfl
  refine ⟨⟨?_⟩, ?_, hnot⟩
  · rw [List.pairwise_append]
    refine ⟨h1.p.sublist (List.take_sublist _ _), ?_, ?_⟩
    · refine List.pairwise_cons.2 ⟨fun y hy => ?_, h1.p.sublist (List.drop_sublist _ _)⟩
      obtain ⟨j, hj, rfl⟩ := List.getElem_of_mem hy
      rw [List.length_drop] at hj
      have e : (out.drop k)[j]'(by rw [List.length_drop]; exact hj) = gl out (k + j) := by rw [gl_eq (by omega)]; simp
      rw [e]
      have h6 := ltB_false.1 (h5 (by omega))
      have h7 : tl x ≤ tl (gl out (k + j)) := by
        by_cases hj0 : j = 0
        · rw [hj0, Nat.add_zero]; exact h6
        · exact List.le_trans h6 (List.le_of_lt (strict_mem h1 (by omega) (by omega)))
      refine Decidable.byContradiction fun hc => ?_
      have := tl_inj (List.le_antisymm h7 (List.not_lt.1 hc))
      exact hnot (this ▸ gl_mem (by omega))
    · intro y hy z hz
      obtain ⟨j, hj, rfl⟩ := List.getElem_of_mem hy
      rw [List.length_take] at hj
      have e : (out.take k)[j]'(by rw [List.length_take]; exact hj) = gl out j := by rw [gl_eq (by omega)]; simp
      rw [e]
      rcases List.mem_cons.1 hz with rfl | hz
      · exact ltB_iff.1 (h4 j (by omega))
      · obtain ⟨m, hm, rfl⟩ := List.getElem_of_mem hz
        rw [List.length_drop] at hm
        have e2 : (out.drop k)[m]'(by rw [List.length_drop]; exact hm) = gl out (k + m) := by rw [gl_eq (by omega)]; simp
        rw [e2]
        exact strict_mem h1 (by omega) (by omega)
  · rw [take_succ_gl hi, ← hx]
    refine List.perm_middle.trans ?_
    rw [List.take_append_drop]
    exact (h2.cons x).trans (List.perm_append_singleton _ _).symm
theorem strict_sortB {out l : List ByteArray} (h1 : Strict out) (h2 : out.Perm l) : sortB l = out := by
  rw [← sortB_congr h2]
  refine sortB_of_sorted ?_
  rw [List.pairwise_map]
  exact h1.p.imp fun h => decide_eq_true (List.le_of_lt h)
set_option maxHeartbeats 4000000 in
theorem bodyRise : fnBody (Y Try.prog) [] 20 cRise fun a => [(20, [iRise a], [])] := fnBody.of (p :=
  ∀ (a : RiseA), a.l.length < (1000 : Nat) ∧
  a.l.Nodup →
  (∃ (a_2 : RiseS), (0 : Int) = (↑a_2.i : Int) ∧
  ((0 : Nat) = a_2.out.length ∧
  (0 : Nat) = a_2.cap) ∧
  ((0 : Nat) = (0 : Nat) ∧
  a.l.length = a.l.length ∧
  a.cap = a.cap) ∧
  a_2.out.length = (0 : Nat) ∧
  (a.l.length ≤ a.l.length ∧
  RowsEq a.l.length (1 : Nat) (encRows encT a.l) (encRows encT a.l)) ∧
  (a_2.i ≤ a.l.length ∧
  a_2.out.length ≤ a_2.cap ∧
  Strict a_2.out ∧
  a_2.out.Perm (List.take a_2.i a.l)) ∧
  True) ∧
  ∀ (a_2 : RiseS), a_2.i ≤ a.l.length ∧
  a_2.out.length ≤ a_2.cap ∧
  Strict a_2.out ∧
  a_2.out.Perm (List.take a_2.i a.l) →
  (Decidable.decide ((↑a_2.i : Int) < (↑a.l.length : Int)) = Bool.true →
  (∃ (a_5 : Nat), (0 : Int) = (↑a_5 : Int) ∧
  Decidable.decide ((↑a_2.i : Int) < (↑a.l.length : Int)) = Decidable.decide ((↑a_2.i : Int) < (↑a.l.length : Int)) ∧
  (↑a_2.i : Int) = (↑a_2.i : Int) ∧
  ((0 : Nat) = (0 : Nat) ∧
  a_2.out.length = a_2.out.length ∧
  a_2.cap = a_2.cap) ∧
  ((0 : Nat) = (0 : Nat) ∧
  a.l.length = a.l.length ∧
  a.cap = a.cap) ∧
  (a_2.out.length ≤ a_2.out.length ∧
  RowsEq a_2.out.length (1 : Nat) (encRows encT a_2.out) (encRows encT a_2.out)) ∧
  (a.l.length ≤ a.l.length ∧
  RowsEq a.l.length (1 : Nat) (encRows encT a.l) (encRows encT a.l)) ∧
  (a_5 ≤ a_2.out.length ∧
  ∀ (j : Nat), j < a_5 →
  ltB (gl a_2.out j) (gl a.l a_2.i) = Bool.true) ∧
  True) ∧
  ∀ (a_5 : Nat), (a_5 ≤ a_2.out.length ∧
  ∀ (j : Nat), j < a_5 →
  ltB (gl a_2.out j) (gl a.l a_2.i) = Bool.true) →
  (Decidable.decide ((↑a_5 : Int) < (↑a_2.out.length : Int)) = Bool.true →
  ((0 : Int) ≤ (↑a_5 : Int) ∧
  (↑a_5 : Int) < (↑a_2.out.length : Int)) ∧
  (0 : Nat) + (↑a_5 : Int).toNat < a_2.out.length ∧
  ((0 : Int) ≤ (↑a_2.i : Int) ∧
  (↑a_2.i : Int) < (↑a.l.length : Int)) ∧
  (0 : Nat) + (↑a_2.i : Int).toNat < a.l.length ∧
  (Go.Op.bytesLess (gl a_2.out ((0 : Nat) + (↑a_5 : Int).toNat)).toList (gl a.l ((0 : Nat) + (↑a_2.i : Int).toNat)).toList = Bool.true →
  InR IntKind.i64 ((↑a_5 : Int) + (1 : Int)) ∧
  ∃ (a' : Nat), (↑a_5 : Int) + (1 : Int) = (↑a' : Int) ∧
  Decidable.decide ((↑a_2.i : Int) < (↑a.l.length : Int)) = Decidable.decide ((↑a_2.i : Int) < (↑a.l.length : Int)) ∧
  (↑a_2.i : Int) = (↑a_2.i : Int) ∧
  ((0 : Nat) = (0 : Nat) ∧
  a_2.out.length = a_2.out.length ∧
  a_2.cap = a_2.cap) ∧
  ((0 : Nat) = (0 : Nat) ∧
  a.l.length = a.l.length ∧
  a.cap = a.cap) ∧
  (a_2.out.length ≤ a_2.out.length ∧
  RowsEq a_2.out.length (1 : Nat) (encRows encT a_2.out) (encRows encT a_2.out)) ∧
  (a.l.length ≤ a.l.length ∧
  RowsEq a.l.length (1 : Nat) (encRows encT a.l) (encRows encT a.l)) ∧
  (a' ≤ a_2.out.length ∧
  ∀ (j : Nat), j < a' →
  ltB (gl a_2.out j) (gl a.l a_2.i) = Bool.true) ∧
  a_2.out.length - a' < a_2.out.length - a_5) ∧
  (Go.Op.bytesLess (gl a_2.out ((0 : Nat) + (↑a_5 : Int).toNat)).toList (gl a.l ((0 : Nat) + (↑a_2.i : Int).toNat)).toList = Bool.false →
  (((↑a_5 : Int) == (↑a_2.out.length : Int)) = Bool.true →
  ((0 : Int) ≤ (↑a_5 : Int) ∧
  (↑a_5 : Int) ≤ (↑a_2.cap : Int)) ∧
  ((0 : Int) ≤ (↑a_5 : Int) ∧
  (↑a_5 : Int) ≤ (↑(↑a_5 : Int).toNat : Int)) ∧
  ((0 : Int) ≤ (↑a_2.i : Int) ∧
  (↑a_2.i : Int) < (↑a.l.length : Int)) ∧
  (0 : Nat) + (↑a_2.i : Int).toNat < a.l.length ∧
  ((0 : Int) ≤ (↑a_5 : Int) ∧
  (↑a_5 : Int) ≤ (↑a_2.out.length : Int)) ∧
  (1 : Nat) ≤ (1 : Nat) ∧
  (0 : Nat) + (↑a_5 : Int).toNat + (a_2.out.length - (↑a_5 : Int).toNat) ≤ a_2.out.length ∧
  ((1 : Nat) + (a_2.out.length - (↑a_5 : Int).toNat)) * (16 : Nat) ≤ (140737488355328 : Nat) ∧
  ∀ (cap : Nat), (1 : Nat) + (a_2.out.length - (↑a_5 : Int).toNat) ≤ cap →
  cap ≤ lenMax →
  ((1 : Nat) + (a_2.out.length - (↑a_5 : Int).toNat) ≤ (1 : Nat) →
  cap = (1 : Nat)) →
  (0 : Nat) + ((↑a_5 : Int).toNat - (0 : Nat)) ≤ a_2.out.length ∧
  (0 : Nat) + ((1 : Nat) + (a_2.out.length - (↑a_5 : Int).toNat)) ≤ (1 : Nat) + (a_2.out.length - (↑a_5 : Int).toNat) ∧
  ((↑a_5 : Int).toNat - (0 : Nat) + ((1 : Nat) + (a_2.out.length - (↑a_5 : Int).toNat))) * (16 : Nat) ≤ (140737488355328 : Nat) ∧
  ∀ (cap : Nat), (↑a_5 : Int).toNat - (0 : Nat) + ((1 : Nat) + (a_2.out.length - (↑a_5 : Int).toNat)) ≤ cap →
  cap ≤ lenMax →
  ((↑a_5 : Int).toNat - (0 : Nat) + ((1 : Nat) + (a_2.out.length - (↑a_5 : Int).toNat)) ≤ (↑a_5 : Int).toNat - (0 : Nat) →
  cap = (↑a_5 : Int).toNat - (0 : Nat)) →
  InR IntKind.i64 ((↑a_2.i : Int) + (1 : Int)) ∧
  ∃ (a' : RiseS), (↑a_2.i : Int) + (1 : Int) = (↑a'.i : Int) ∧
  ((0 : Nat) = (0 : Nat) ∧
  (↑a_5 : Int).toNat - (0 : Nat) + ((1 : Nat) + (a_2.out.length - (↑a_5 : Int).toNat)) = a'.out.length ∧
  cap = a'.cap) ∧
  ((0 : Nat) = (0 : Nat) ∧
  a.l.length = a.l.length ∧
  a.cap = a.cap) ∧
  (a'.out.length ≤ (↑a_5 : Int).toNat - (0 : Nat) + ((1 : Nat) + (a_2.out.length - (↑a_5 : Int).toNat)) ∧
  RowsEq a'.out.length (1 : Nat) (appRows (encRows encT a_2.out) (0 : Nat) ((↑a_5 : Int).toNat - (0 : Nat)) fun (i j : Nat) => appRows (flatRows (1 : Nat) [Value.string (gl a.l ((0 : Nat) + (↑a_2.i : Int).toNat))]) (0 : Nat) (1 : Nat) (fun (i j : Nat) => encRows encT a_2.out ((0 : Nat) + (↑a_5 : Int).toNat + i) j) ((0 : Nat) + i) j) (encRows encT a'.out)) ∧
  (a.l.length ≤ a.l.length ∧
  RowsEq a.l.length (1 : Nat) (encRows encT a.l) (encRows encT a.l)) ∧
  (a'.i ≤ a.l.length ∧
  a'.out.length ≤ a'.cap ∧
  Strict a'.out ∧
  a'.out.Perm (List.take a'.i a.l)) ∧
  a.l.length - a'.i < a.l.length - a_2.i) ∧
  (((↑a_5 : Int) == (↑a_2.out.length : Int)) = Bool.false →
  ((0 : Int) ≤ (↑a_5 : Int) ∧
  (↑a_5 : Int) < (↑a_2.out.length : Int)) ∧
  (0 : Nat) + (↑a_5 : Int).toNat < a_2.out.length ∧
  ((0 : Int) ≤ (↑a_2.i : Int) ∧
  (↑a_2.i : Int) < (↑a.l.length : Int)) ∧
  (0 : Nat) + (↑a_2.i : Int).toNat < a.l.length ∧
  ((!Decidable.decide (gl a_2.out ((0 : Nat) + (↑a_5 : Int).toNat) = gl a.l ((0 : Nat) + (↑a_2.i : Int).toNat))) = Bool.true →
  ((0 : Int) ≤ (↑a_5 : Int) ∧
  (↑a_5 : Int) ≤ (↑a_2.cap : Int)) ∧
  ((0 : Int) ≤ (↑a_5 : Int) ∧
  (↑a_5 : Int) ≤ (↑(↑a_5 : Int).toNat : Int)) ∧
  ((0 : Int) ≤ (↑a_2.i : Int) ∧
  (↑a_2.i : Int) < (↑a.l.length : Int)) ∧
  (0 : Nat) + (↑a_2.i : Int).toNat < a.l.length ∧
  ((0 : Int) ≤ (↑a_5 : Int) ∧
  (↑a_5 : Int) ≤ (↑a_2.out.length : Int)) ∧
  (1 : Nat) ≤ (1 : Nat) ∧
  (0 : Nat) + (↑a_5 : Int).toNat + (a_2.out.length - (↑a_5 : Int).toNat) ≤ a_2.out.length ∧
  ((1 : Nat) + (a_2.out.length - (↑a_5 : Int).toNat)) * (16 : Nat) ≤ (140737488355328 : Nat) ∧
  ∀ (cap : Nat), (1 : Nat) + (a_2.out.length - (↑a_5 : Int).toNat) ≤ cap →
  cap ≤ lenMax →
  ((1 : Nat) + (a_2.out.length - (↑a_5 : Int).toNat) ≤ (1 : Nat) →
  cap = (1 : Nat)) →
  (0 : Nat) + ((↑a_5 : Int).toNat - (0 : Nat)) ≤ a_2.out.length ∧
  (0 : Nat) + ((1 : Nat) + (a_2.out.length - (↑a_5 : Int).toNat)) ≤ (1 : Nat) + (a_2.out.length - (↑a_5 : Int).toNat) ∧
  ((↑a_5 : Int).toNat - (0 : Nat) + ((1 : Nat) + (a_2.out.length - (↑a_5 : Int).toNat))) * (16 : Nat) ≤ (140737488355328 : Nat) ∧
  ∀ (cap : Nat), (↑a_5 : Int).toNat - (0 : Nat) + ((1 : Nat) + (a_2.out.length - (↑a_5 : Int).toNat)) ≤ cap →
  cap ≤ lenMax →
  ((↑a_5 : Int).toNat - (0 : Nat) + ((1 : Nat) + (a_2.out.length - (↑a_5 : Int).toNat)) ≤ (↑a_5 : Int).toNat - (0 : Nat) →
  cap = (↑a_5 : Int).toNat - (0 : Nat)) →
  InR IntKind.i64 ((↑a_2.i : Int) + (1 : Int)) ∧
  ∃ (a' : RiseS), (↑a_2.i : Int) + (1 : Int) = (↑a'.i : Int) ∧
  ((0 : Nat) = (0 : Nat) ∧
  (↑a_5 : Int).toNat - (0 : Nat) + ((1 : Nat) + (a_2.out.length - (↑a_5 : Int).toNat)) = a'.out.length ∧
  cap = a'.cap) ∧
  ((0 : Nat) = (0 : Nat) ∧
  a.l.length = a.l.length ∧
  a.cap = a.cap) ∧
  (a'.out.length ≤ (↑a_5 : Int).toNat - (0 : Nat) + ((1 : Nat) + (a_2.out.length - (↑a_5 : Int).toNat)) ∧
  RowsEq a'.out.length (1 : Nat) (appRows (encRows encT a_2.out) (0 : Nat) ((↑a_5 : Int).toNat - (0 : Nat)) fun (i j : Nat) => appRows (flatRows (1 : Nat) [Value.string (gl a.l ((0 : Nat) + (↑a_2.i : Int).toNat))]) (0 : Nat) (1 : Nat) (fun (i j : Nat) => encRows encT a_2.out ((0 : Nat) + (↑a_5 : Int).toNat + i) j) ((0 : Nat) + i) j) (encRows encT a'.out)) ∧
  (a.l.length ≤ a.l.length ∧
  RowsEq a.l.length (1 : Nat) (encRows encT a.l) (encRows encT a.l)) ∧
  (a'.i ≤ a.l.length ∧
  a'.out.length ≤ a'.cap ∧
  Strict a'.out ∧
  a'.out.Perm (List.take a'.i a.l)) ∧
  a.l.length - a'.i < a.l.length - a_2.i) ∧
  ((!Decidable.decide (gl a_2.out ((0 : Nat) + (↑a_5 : Int).toNat) = gl a.l ((0 : Nat) + (↑a_2.i : Int).toNat))) = Bool.false →
  InR IntKind.i64 ((↑a_2.i : Int) + (1 : Int)) ∧
  ∃ (a' : RiseS), (↑a_2.i : Int) + (1 : Int) = (↑a'.i : Int) ∧
  ((0 : Nat) = (0 : Nat) ∧
  a_2.out.length = a'.out.length ∧
  a_2.cap = a'.cap) ∧
  ((0 : Nat) = (0 : Nat) ∧
  a.l.length = a.l.length ∧
  a.cap = a.cap) ∧
  (a'.out.length ≤ a_2.out.length ∧
  RowsEq a'.out.length (1 : Nat) (encRows encT a_2.out) (encRows encT a'.out)) ∧
  (a.l.length ≤ a.l.length ∧
  RowsEq a.l.length (1 : Nat) (encRows encT a.l) (encRows encT a.l)) ∧
  (a'.i ≤ a.l.length ∧
  a'.out.length ≤ a'.cap ∧
  Strict a'.out ∧
  a'.out.Perm (List.take a'.i a.l)) ∧
  a.l.length - a'.i < a.l.length - a_2.i)))) ∧
  (Decidable.decide ((↑a_5 : Int) < (↑a_2.out.length : Int)) = Bool.false →
  (((↑a_5 : Int) == (↑a_2.out.length : Int)) = Bool.true →
  ((0 : Int) ≤ (↑a_5 : Int) ∧
  (↑a_5 : Int) ≤ (↑a_2.cap : Int)) ∧
  ((0 : Int) ≤ (↑a_5 : Int) ∧
  (↑a_5 : Int) ≤ (↑(↑a_5 : Int).toNat : Int)) ∧
  ((0 : Int) ≤ (↑a_2.i : Int) ∧
  (↑a_2.i : Int) < (↑a.l.length : Int)) ∧
  (0 : Nat) + (↑a_2.i : Int).toNat < a.l.length ∧
  ((0 : Int) ≤ (↑a_5 : Int) ∧
  (↑a_5 : Int) ≤ (↑a_2.out.length : Int)) ∧
  (1 : Nat) ≤ (1 : Nat) ∧
  (0 : Nat) + (↑a_5 : Int).toNat + (a_2.out.length - (↑a_5 : Int).toNat) ≤ a_2.out.length ∧
  ((1 : Nat) + (a_2.out.length - (↑a_5 : Int).toNat)) * (16 : Nat) ≤ (140737488355328 : Nat) ∧
  ∀ (cap : Nat), (1 : Nat) + (a_2.out.length - (↑a_5 : Int).toNat) ≤ cap →
  cap ≤ lenMax →
  ((1 : Nat) + (a_2.out.length - (↑a_5 : Int).toNat) ≤ (1 : Nat) →
  cap = (1 : Nat)) →
  (0 : Nat) + ((↑a_5 : Int).toNat - (0 : Nat)) ≤ a_2.out.length ∧
  (0 : Nat) + ((1 : Nat) + (a_2.out.length - (↑a_5 : Int).toNat)) ≤ (1 : Nat) + (a_2.out.length - (↑a_5 : Int).toNat) ∧
  ((↑a_5 : Int).toNat - (0 : Nat) + ((1 : Nat) + (a_2.out.length - (↑a_5 : Int).toNat))) * (16 : Nat) ≤ (140737488355328 : Nat) ∧
  ∀ (cap : Nat), (↑a_5 : Int).toNat - (0 : Nat) + ((1 : Nat) + (a_2.out.length - (↑a_5 : Int).toNat)) ≤ cap →
  cap ≤ lenMax →
  ((↑a_5 : Int).toNat - (0 : Nat) + ((1 : Nat) + (a_2.out.length - (↑a_5 : Int).toNat)) ≤ (↑a_5 : Int).toNat - (0 : Nat) →
  cap = (↑a_5 : Int).toNat - (0 : Nat)) →
  InR IntKind.i64 ((↑a_2.i : Int) + (1 : Int)) ∧
  ∃ (a' : RiseS), (↑a_2.i : Int) + (1 : Int) = (↑a'.i : Int) ∧
  ((0 : Nat) = (0 : Nat) ∧
  (↑a_5 : Int).toNat - (0 : Nat) + ((1 : Nat) + (a_2.out.length - (↑a_5 : Int).toNat)) = a'.out.length ∧
  cap = a'.cap) ∧
  ((0 : Nat) = (0 : Nat) ∧
  a.l.length = a.l.length ∧
  a.cap = a.cap) ∧
  (a'.out.length ≤ (↑a_5 : Int).toNat - (0 : Nat) + ((1 : Nat) + (a_2.out.length - (↑a_5 : Int).toNat)) ∧
  RowsEq a'.out.length (1 : Nat) (appRows (encRows encT a_2.out) (0 : Nat) ((↑a_5 : Int).toNat - (0 : Nat)) fun (i j : Nat) => appRows (flatRows (1 : Nat) [Value.string (gl a.l ((0 : Nat) + (↑a_2.i : Int).toNat))]) (0 : Nat) (1 : Nat) (fun (i j : Nat) => encRows encT a_2.out ((0 : Nat) + (↑a_5 : Int).toNat + i) j) ((0 : Nat) + i) j) (encRows encT a'.out)) ∧
  (a.l.length ≤ a.l.length ∧
  RowsEq a.l.length (1 : Nat) (encRows encT a.l) (encRows encT a.l)) ∧
  (a'.i ≤ a.l.length ∧
  a'.out.length ≤ a'.cap ∧
  Strict a'.out ∧
  a'.out.Perm (List.take a'.i a.l)) ∧
  a.l.length - a'.i < a.l.length - a_2.i) ∧
  (((↑a_5 : Int) == (↑a_2.out.length : Int)) = Bool.false →
  ((0 : Int) ≤ (↑a_5 : Int) ∧
  (↑a_5 : Int) < (↑a_2.out.length : Int)) ∧
  (0 : Nat) + (↑a_5 : Int).toNat < a_2.out.length ∧
  ((0 : Int) ≤ (↑a_2.i : Int) ∧
  (↑a_2.i : Int) < (↑a.l.length : Int)) ∧
  (0 : Nat) + (↑a_2.i : Int).toNat < a.l.length ∧
  ((!Decidable.decide (gl a_2.out ((0 : Nat) + (↑a_5 : Int).toNat) = gl a.l ((0 : Nat) + (↑a_2.i : Int).toNat))) = Bool.true →
  ((0 : Int) ≤ (↑a_5 : Int) ∧
  (↑a_5 : Int) ≤ (↑a_2.cap : Int)) ∧
  ((0 : Int) ≤ (↑a_5 : Int) ∧
  (↑a_5 : Int) ≤ (↑(↑a_5 : Int).toNat : Int)) ∧
  ((0 : Int) ≤ (↑a_2.i : Int) ∧
  (↑a_2.i : Int) < (↑a.l.length : Int)) ∧
  (0 : Nat) + (↑a_2.i : Int).toNat < a.l.length ∧
  ((0 : Int) ≤ (↑a_5 : Int) ∧
  (↑a_5 : Int) ≤ (↑a_2.out.length : Int)) ∧
  (1 : Nat) ≤ (1 : Nat) ∧
  (0 : Nat) + (↑a_5 : Int).toNat + (a_2.out.length - (↑a_5 : Int).toNat) ≤ a_2.out.length ∧
  ((1 : Nat) + (a_2.out.length - (↑a_5 : Int).toNat)) * (16 : Nat) ≤ (140737488355328 : Nat) ∧
  ∀ (cap : Nat), (1 : Nat) + (a_2.out.length - (↑a_5 : Int).toNat) ≤ cap →
  cap ≤ lenMax →
  ((1 : Nat) + (a_2.out.length - (↑a_5 : Int).toNat) ≤ (1 : Nat) →
  cap = (1 : Nat)) →
  (0 : Nat) + ((↑a_5 : Int).toNat - (0 : Nat)) ≤ a_2.out.length ∧
  (0 : Nat) + ((1 : Nat) + (a_2.out.length - (↑a_5 : Int).toNat)) ≤ (1 : Nat) + (a_2.out.length - (↑a_5 : Int).toNat) ∧
  ((↑a_5 : Int).toNat - (0 : Nat) + ((1 : Nat) + (a_2.out.length - (↑a_5 : Int).toNat))) * (16 : Nat) ≤ (140737488355328 : Nat) ∧
  ∀ (cap : Nat), (↑a_5 : Int).toNat - (0 : Nat) + ((1 : Nat) + (a_2.out.length - (↑a_5 : Int).toNat)) ≤ cap →
  cap ≤ lenMax →
  ((↑a_5 : Int).toNat - (0 : Nat) + ((1 : Nat) + (a_2.out.length - (↑a_5 : Int).toNat)) ≤ (↑a_5 : Int).toNat - (0 : Nat) →
  cap = (↑a_5 : Int).toNat - (0 : Nat)) →
  InR IntKind.i64 ((↑a_2.i : Int) + (1 : Int)) ∧
  ∃ (a' : RiseS), (↑a_2.i : Int) + (1 : Int) = (↑a'.i : Int) ∧
  ((0 : Nat) = (0 : Nat) ∧
  (↑a_5 : Int).toNat - (0 : Nat) + ((1 : Nat) + (a_2.out.length - (↑a_5 : Int).toNat)) = a'.out.length ∧
  cap = a'.cap) ∧
  ((0 : Nat) = (0 : Nat) ∧
  a.l.length = a.l.length ∧
  a.cap = a.cap) ∧
  (a'.out.length ≤ (↑a_5 : Int).toNat - (0 : Nat) + ((1 : Nat) + (a_2.out.length - (↑a_5 : Int).toNat)) ∧
  RowsEq a'.out.length (1 : Nat) (appRows (encRows encT a_2.out) (0 : Nat) ((↑a_5 : Int).toNat - (0 : Nat)) fun (i j : Nat) => appRows (flatRows (1 : Nat) [Value.string (gl a.l ((0 : Nat) + (↑a_2.i : Int).toNat))]) (0 : Nat) (1 : Nat) (fun (i j : Nat) => encRows encT a_2.out ((0 : Nat) + (↑a_5 : Int).toNat + i) j) ((0 : Nat) + i) j) (encRows encT a'.out)) ∧
  (a.l.length ≤ a.l.length ∧
  RowsEq a.l.length (1 : Nat) (encRows encT a.l) (encRows encT a.l)) ∧
  (a'.i ≤ a.l.length ∧
  a'.out.length ≤ a'.cap ∧
  Strict a'.out ∧
  a'.out.Perm (List.take a'.i a.l)) ∧
  a.l.length - a'.i < a.l.length - a_2.i) ∧
  ((!Decidable.decide (gl a_2.out ((0 : Nat) + (↑a_5 : Int).toNat) = gl a.l ((0 : Nat) + (↑a_2.i : Int).toNat))) = Bool.false →
  InR IntKind.i64 ((↑a_2.i : Int) + (1 : Int)) ∧
  ∃ (a' : RiseS), (↑a_2.i : Int) + (1 : Int) = (↑a'.i : Int) ∧
  ((0 : Nat) = (0 : Nat) ∧
  a_2.out.length = a'.out.length ∧
  a_2.cap = a'.cap) ∧
  ((0 : Nat) = (0 : Nat) ∧
  a.l.length = a.l.length ∧
  a.cap = a.cap) ∧
  (a'.out.length ≤ a_2.out.length ∧
  RowsEq a'.out.length (1 : Nat) (encRows encT a_2.out) (encRows encT a'.out)) ∧
  (a.l.length ≤ a.l.length ∧
  RowsEq a.l.length (1 : Nat) (encRows encT a.l) (encRows encT a.l)) ∧
  (a'.i ≤ a.l.length ∧
  a'.out.length ≤ a'.cap ∧
  Strict a'.out ∧
  a'.out.Perm (List.take a'.i a.l)) ∧
  a.l.length - a'.i < a.l.length - a_2.i)))) ∧
  (Decidable.decide ((↑a_2.i : Int) < (↑a.l.length : Int)) = Bool.false →
  ∃ (b : Nat), ((0 : Nat) = (0 : Nat) ∧
  a_2.out.length = a.l.length ∧
  a_2.cap = b) ∧
  (a.l.length ≤ a_2.out.length ∧
  RowsEq a.l.length (1 : Nat) (encRows encT a_2.out) (encRows encT (sortB a.l))) ∧
  True ∧
  True)) (by kernel_rfl) (by
  rintro ⟨l, cap⟩ ⟨h1, h2⟩
  simp only [Nat.zero_add, Nat.sub_zero, Int.toNat_natCast, InR] at *
  refine ⟨⟨⟨0, [], 0⟩, ?_⟩, fun y ⟨p1, p2, p3, p4⟩ => ⟨fun c1 => ?_, fun c1 => ?_⟩⟩
  · have e : Strict [] := ⟨.nil⟩
    dsimp only
    (repeat' apply And.intro) <;> first | rfl | trivial | exact Nat.le_refl _ | omega | (dsimp only; omega) | exact RowsEq.refl _ _ _ | exact e | simp
  · simp only [decide_eq_true_eq] at c1
    have hi : y.i < l.length := by omega
    have hol : y.out.length = y.i := by rw [p4.length_eq, List.length_take]; omega
    refine ⟨⟨0, ?_⟩, fun k ⟨q1, q2⟩ => ⟨fun c2 => ?_, fun c2 => ?_⟩⟩
    · (repeat' apply And.intro) <;> first | rfl | trivial | exact Nat.le_refl _ | omega | (dsimp only; omega) | exact RowsEq.refl _ _ _ | (intro j hj; omega)
    · simp only [decide_eq_true_eq] at c2
      refine ⟨by omega, by omega, by omega, by omega, fun hb => ⟨by omega, k + 1, ?_⟩, fun hb => ⟨fun hc => (by exfalso; simp at hc; omega), fun _ => ⟨by omega, by omega, by omega, by omega, fun hc => ?_, fun hc => ?_⟩⟩⟩
      · (repeat' apply And.intro) <;> first | rfl | trivial | exact Nat.le_refl _ | omega | (dsimp only; omega) | exact RowsEq.refl _ _ _ | skip
        intro j hj
        by_cases e : j = k
        · subst e; exact hb
        · exact q2 j (by omega)
      · obtain ⟨g1, g2, g3⟩ := ins_ok p3 p4 h2 hi rfl q1 q2 (fun _ => hb)
        refine ⟨by omega, by omega, by omega, by omega, by omega, by omega, by omega, by omega, fun cap1 _ _ _ => ⟨by omega, by omega, by omega, fun cap2 _ _ _ => ⟨by omega, ⟨y.i + 1, y.out.take k ++ gl l y.i :: y.out.drop k, cap2⟩, ?_⟩⟩⟩
        have hlen : (y.out.take k ++ gl l y.i :: y.out.drop k).length = k + (1 + (y.out.length - k)) := by simp; omega
        dsimp only
        rw [hlen]
        (repeat' apply And.intro) <;> first | rfl | trivial | exact Nat.le_refl _ | omega | (dsimp only; omega) | exact RowsEq.refl _ _ _ | exact g1 | exact g2 | exact rows_ins (by omega) | skip
      · exfalso
        obtain ⟨g1, g2, g3⟩ := ins_ok p3 p4 h2 hi rfl q1 q2 (fun _ => hb)
        have e : gl y.out k = gl l y.i := by simpa using hc
        exact g3 (e ▸ gl_mem (by omega))
    · simp only [decide_eq_false_iff_not] at c2
      have hk : k = y.out.length := by omega
      obtain ⟨g1, g2, g3⟩ := ins_ok p3 p4 h2 hi rfl q1 q2 (fun h => absurd h (by omega))
      refine ⟨fun hc => ?_, fun hc => (by exfalso; simp at hc; omega)⟩
      refine ⟨by omega, by omega, by omega, by omega, by omega, by omega, by omega, by omega, fun cap1 _ _ _ => ⟨by omega, by omega, by omega, fun cap2 _ _ _ => ⟨by omega, ⟨y.i + 1, y.out.take k ++ gl l y.i :: y.out.drop k, cap2⟩, ?_⟩⟩⟩
      have hlen : (y.out.take k ++ gl l y.i :: y.out.drop k).length = k + (1 + (y.out.length - k)) := by simp; omega
      dsimp only
      rw [hlen]
      (repeat' apply And.intro) <;> first | rfl | trivial | exact Nat.le_refl _ | omega | (dsimp only; omega) | exact RowsEq.refl _ _ _ | exact g1 | exact g2 | exact rows_ins (by omega) | skip
  · simp only [decide_eq_false_iff_not] at c1
    have e : y.i = l.length := by omega
    rw [e, List.take_length] at p4
    have e2 := strict_sortB p3 p4
    have e3 := p4.length_eq
    refine ⟨y.cap, ?_⟩
    rw [e2]
    (repeat' apply And.intro) <;> first | rfl | trivial | exact Nat.le_refl _ | omega | (dsimp only; omega) | exact RowsEq.refl _ _ _)

/-! ### at -/

def encE (e : ByteArray × Int) : List Value := [.string e.1, .int .i64 e.2]
def ksE : List CK := [.str, .int .i64]
structure AtA where
  l : List (ByteArray × Int)
  cap : Nat
  key : ByteArray
def atL (l : List (ByteArray × Int)) (key : ByteArray) : Int := if l.findIdx (fun e => decide (e.1 = key)) < l.length then l.findIdx (fun e => decide (e.1 = key)) else -1
noncomputable def cAt : Con where
  α := AtA
  β := Unit
  m := 1
  m' := 1
  pre := fun a => a.l.length < 1000
  args := fun a => [.a (.slc 0 0 2 a.l.length a.cap), .a (.str a.key)]
  hp := fun _ => []
  ro := fun a => [(0, .arr 43 ksE a.l.length (encRows encE a.l))]
  post := fun _ _ => True
  res := fun a _ => .a (.int .i64 (atL a.l a.key))
  hp' := fun _ _ => []
def iAt (a : AtA) : An := .flat 2 Nat (fun s i => s.int 5 i) (fun _ i => i ≤ a.l.length ∧ ∀ j, j < i → (gl a.l j).1 ≠ a.key) (fun _ i => a.l.length - i)
set_option maxHeartbeats 4000000 in
theorem bodyAt : fnBody (Y Try.prog) [] 17 cAt fun a => [(17, [iAt a], [])] := fnBody.of (p :=
  ∀ (a : AtA), a.l.length < (1000 : Nat) →
  (∃ (a_2 : Nat), (0 : Int) = (↑a_2 : Int) ∧
  (0 : Int) = (0 : Int) ∧
  ((0 : Nat) = (0 : Nat) ∧
  a.l.length = a.l.length ∧
  a.cap = a.cap) ∧
  a.key = a.key ∧
  (a.l.length ≤ a.l.length ∧
  RowsEq a.l.length (2 : Nat) (encRows encE a.l) (encRows encE a.l)) ∧
  (a_2 ≤ a.l.length ∧
  ∀ (j : Nat), j < a_2 →
  (gl a.l j).fst ≠ a.key) ∧
  True) ∧
  ∀ (a_2 : Nat), (a_2 ≤ a.l.length ∧
  ∀ (j : Nat), j < a_2 →
  (gl a.l j).fst ≠ a.key) →
  (Decidable.decide ((↑a_2 : Int) < (↑a.l.length : Int)) = Bool.true →
  ((0 : Int) ≤ (↑a_2 : Int) ∧
  (↑a_2 : Int) < (↑a.l.length : Int)) ∧
  (0 : Nat) + (↑a_2 : Int).toNat < a.l.length ∧
  (Decidable.decide ((gl a.l ((0 : Nat) + (↑a_2 : Int).toNat)).fst = a.key) = Bool.true →
  ∃ (b : Unit), (↑a_2 : Int) = atL a.l a.key ∧
  True ∧
  True) ∧
  (Decidable.decide ((gl a.l ((0 : Nat) + (↑a_2 : Int).toNat)).fst = a.key) = Bool.false →
  InR IntKind.i64 ((↑a_2 : Int) + (1 : Int)) ∧
  ∃ (a' : Nat), (↑a_2 : Int) + (1 : Int) = (↑a' : Int) ∧
  (0 : Int) = (0 : Int) ∧
  ((0 : Nat) = (0 : Nat) ∧
  a.l.length = a.l.length ∧
  a.cap = a.cap) ∧
  a.key = a.key ∧
  (a.l.length ≤ a.l.length ∧
  RowsEq a.l.length (2 : Nat) (encRows encE a.l) (encRows encE a.l)) ∧
  (a' ≤ a.l.length ∧
  ∀ (j : Nat), j < a' →
  (gl a.l j).fst ≠ a.key) ∧
  a.l.length - a' < a.l.length - a_2)) ∧
  (Decidable.decide ((↑a_2 : Int) < (↑a.l.length : Int)) = Bool.false →
  ∃ (b : Unit), (-1 : Int) = atL a.l a.key ∧
  True ∧
  True)) (by kernel_rfl) (by
  rintro ⟨l, cap, key⟩ h
  simp only [Nat.zero_add, Int.toNat_natCast, InR] at *
  refine ⟨⟨0, ?_⟩, fun i ⟨h1, h2⟩ => ⟨fun c1 => ?_, fun c1 => ?_⟩⟩
  · (repeat' apply And.intro) <;> first | rfl | trivial | exact Nat.le_refl _ | omega | (dsimp only; omega) | exact RowsEq.refl _ _ _ | (intro j hj; omega)
  · simp only [decide_eq_true_eq] at c1
    have hi : i < l.length := by omega
    refine ⟨by omega, by omega, fun hc => ⟨(), ?_, trivial, trivial⟩, fun hc => ⟨by omega, i + 1, ?_⟩⟩
    · have e : l.findIdx (fun e => decide (e.1 = key)) = i := (List.findIdx_eq hi).2 ⟨by rw [← gl_eq hi]; exact hc, fun j hj => by rw [← gl_eq (by omega)]; simpa using h2 j hj⟩
      unfold atL
      rw [e, if_pos hi]
    · (repeat' apply And.intro) <;> first | rfl | trivial | exact Nat.le_refl _ | omega | (dsimp only; omega) | exact RowsEq.refl _ _ _ | skip
      intro j hj
      by_cases e : j = i
      · subst e; simpa using hc
      · exact h2 j (by omega)
  · simp only [decide_eq_false_iff_not] at c1
    have e : l.findIdx (fun e => decide (e.1 = key)) = l.length := List.findIdx_eq_length.2 fun x hx => by
      obtain ⟨j, hj, rfl⟩ := List.getElem_of_mem hx
      rw [← gl_eq hj]; simpa using h2 j (by omega)
    exact ⟨(), by unfold atL; rw [e, if_neg (by omega)], trivial, trivial⟩)
end Go.Proofs.Ytfpgkgelgpandaa
