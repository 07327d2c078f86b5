/-
  A statement's argument that is a list whose elements have lists: as it reads, as the executor wants it.
-/
import Derived.Test.YthgnaehfepcblaaSxZ
import Derived.Test.YthgnaehfepcblaaSxAb
namespace Go.Sx
open Go.RowKit
section
variable {H : Type} {enc : TypeId × Value → H} {P : Program} {w : World} {held : Bool}

/-- these cells read as such a type -/
def Rd (enc : TypeId × Value → H) (P : Program) (w : World) (held : Bool) (t : TypeId) (cs : List Value) : Prop :=
  ∃ (m : Nat) (x : DataW H × List MemPlace), DataW.trod enc P w 0 (fun _ => true) held m t cs = some x ∧ ∀ b off, MemPlace.cell b off ∈ x.2 → w.frozen? ⟨b, off, none⟩ = false
/-- all that is there -/
def Pool.all (w : World) : Pool := ⟨w, fun b => b < w.heap.size⟩
theorem Pool.all_in (w : World) : (Pool.all w).In w := ⟨fun _ hb => ⟨hb, rfl⟩⟩

theorem Rd.kinds {dp : Bool} {d : Nat} {t : TypeId} {ks : List CK} {cs : List Value} (hf : flatKd dp P d t = some ks) (h : Rd enc P w held t cs) : KsOk ks cs := by
  obtain ⟨m, x, hx, _⟩ := h
  exact flat_ok d m t cs x ks hx hf

theorem Rd.field {t : TypeId} {fs : Array Field} {cs : List Value} (hu : P.underlying t = some (.struct fs)) (h : Rd enc P w held t cs) {i : Nat} {f : Field} (hf : fs[i]? = some f) : Rd enc P w held f.type ((cs.drop f.offset).take (P.cellsOf f.type)) := by
  obtain ⟨m, x, hx, hz⟩ := h
  obtain ⟨xs, n, rfl, hxx, hl, hlen, hget⟩ := DataW.trod_struct hu hx
  have h1 := hget i f hf
  have hi : i < xs.length := by rw [hlen]; exact (Array.getElem?_eq_some_iff.1 hf).1
  refine ⟨n, xs[i], by rw [h1, List.getElem?_eq_getElem hi], fun b off hm => hz b off ?_⟩
  have hps : x.2 = xs.flatMap (·.2) := congrArg Prod.snd hxx
  rw [hps]
  exact List.mem_flatMap.2 ⟨_, List.getElem_mem _, hm⟩

theorem Rd.slice {dp : Bool} {t e : TypeId} {ks : List CK} {d : Nat} {v : Value} (ht : P.underlying t = some (.slice e)) (hf : flatKd dp P d e = some ks) (hk : ks.length = P.cellsOf e) (hk1 : 1 ≤ ks.length) (h : Rd enc P w held t [v]) :
    ∃ (n cap : Nat) (rows : Nat → Nat → Value), IsSl (Pool.all w) v ks n cap rows ∧ (∀ i, i < n → ∀ (j : Nat) (k : CK), ks[j]? = some k → k.ok (rows i j)) ∧ ∀ i, i < n → ∃ cs : List Value, Rd enc P w held e cs ∧ KsOk ks cs ∧ ∀ j, j < ks.length → cs[j]? = some (rows i j) := by
  obtain ⟨m, ⟨x1, x2⟩, hx, hz⟩ := h
  obtain ⟨p, n, cap, rows, _, _, hkk, hlt, hrep, hsat, hel⟩ := open_cell ht hf hk hk1 hx hz
  refine ⟨n, cap, rows, IsSl.of (T := 0) (ρ := ⟨1, fun _ => p⟩) (w := w) (ty := e) (hrep _ 0 Nat.one_pos rfl) (hsat _) (fun b hb => ⟨hlt b hb, rfl⟩), hkk, fun i hi => ?_⟩
  obtain ⟨m', cs, x, h1, h2, h3, h4⟩ := hel i hi
  exact ⟨cs, ⟨m', x, h1, h2⟩, h3, h4⟩

/-- a field's type and place -/
def fieldAt (P : Program) (t : TypeId) (i : Nat) : Option (TypeId × Nat) := match P.underlying t with
  | some (.struct fs) => (fs[i]?).map fun f => (f.type, f.offset)
  | _ => none
theorem Rd.at_ {t ft : TypeId} {o i : Nat} {cs : List Value} (h : Rd enc P w held t cs) (hf : fieldAt P t i = some (ft, o)) : Rd enc P w held ft ((cs.drop o).take (P.cellsOf ft)) := by
  unfold fieldAt at hf
  split at hf
  · rename_i fs hu
    cases hi : fs[i]? with
    | none => rw [hi] at hf; cases hf
    | some f =>
      rw [hi] at hf
      simp only [Option.map_some, Option.some.injEq, Prod.mk.injEq] at hf
      obtain ⟨rfl, rfl⟩ := hf
      exact h.field hu hi
  · cases hf
/-- a field that is one cell -/
theorem Rd.cell {t ft : TypeId} {o i : Nat} {cs : List Value} {v : Value} (h : Rd enc P w held t cs) (hf : fieldAt P t i = some (ft, o)) (h1 : P.cellsOf ft = 1) (hv : cs[o]? = some v) : Rd enc P w held ft [v] := by
  have := h.at_ hf
  rw [h1] at this
  have e : (cs.drop o).take 1 = [v] := by
    obtain ⟨hlt, hv⟩ := List.getElem?_eq_some_iff.1 hv
    rw [List.drop_eq_getElem_cons hlt, hv]; rfl
  rwa [e] at this

/-- a list of what is there for each number -/
theorem choose_list {α : Type} [Inhabited α] {Q : Nat → α → Prop} : ∀ n, (∀ i, i < n → ∃ a, Q i a) → ∃ l : List α, l.length = n ∧ ∀ i, i < n → Q i (gl l i)
  | 0, _ => ⟨[], rfl, fun i hi => absurd hi (Nat.not_lt_zero _)⟩
  | n + 1, h => by
    obtain ⟨l, h1, h2⟩ := choose_list n fun i hi => h i (by omega)
    obtain ⟨a, ha⟩ := h n (by omega)
    refine ⟨l ++ [a], by simp [h1], fun i hi => ?_⟩
    by_cases hin : i < n
    · rw [gl_append_left (by omega)]; exact h2 i hin
    · have : i = n := by omega
      subst this
      rw [gl_append_right (by omega), h1, Nat.sub_self]; exact ha

/-- the run of a statement with one such argument -/
theorem nest_run {Y : Gx} (hY : Y.Ok) {tab : List (Nat × Con)} (ht : TabOk Y.G.X tab) {f : Nat} {C : Con} {l : C.α → List (Nat × List An × List An)} (hb : fnBody Y tab f C l) {t e : TypeId} {ks : List CK} {d : Nat} (hu : Y.G.X.P.underlying t = some (.slice e)) (hf : flatKd true Y.G.X.P d e = some ks)
    (hk : ks.length = Y.G.X.P.cellsOf e) (hk1 : 1 ≤ ks.length) (hhp : ∀ a, C.hp a = []) (hres : ∀ a o, C.res a o = .a .tt) {W : World}
    (hinst : ∀ n cap rows, n ≤ cap → cap ≤ lenMax → (∀ i, i < n → ∃ cs : List Value, Rd enc Y.G.X.P W held e cs ∧ KsOk ks cs ∧ ∀ j, j < ks.length → cs[j]? = some (rows i j)) →
      ∃ a, C.pre a ∧ C.args a = [.a (.slc 0 0 ks.length n cap)] ∧ C.ro a = [(0, .arr e ks n rows), (1, .abs (Snap (Pool.all W)))] ∧ C.m = 2) {args : Array Value} {ds : List (DataW H)} {ps : List MemPlace} {r : Reach} {b0 : Nat}
    (hA : DataW.TrodAll enc Y.G.X.P W 0 (fun _ => true) held [t] args.toList ds ps) (hval : ∀ (j : Nat) (t' : TypeId) (v : Value), [t][j]? = some t' → args.toList[j]? = some v → Value.okWide Y.G.X.P W r b0 t' v)
    (hz : ∀ b off, MemPlace.cell b off ∈ ps → W.frozen? ⟨b, off, none⟩ = false) : Calls Y.G.X.P f args W fun e w' => e = .returned (.bool true) ∧ Keeps (fun _ => False) W w' := by
  obtain ⟨v, hv⟩ : ∃ v, args.toList = [v] := by
    match hl : args.toList, ds, hA with
    | [v], [d], _ => exact ⟨v, rfl⟩
    | [], _, h => cases ds <;> exact h.elim
    | v :: u :: r, ds, h =>
      cases ds with
      | nil => exact h.elim
      | cons d ds =>
        obtain ⟨_, _, _, h2, _⟩ := h
        cases ds <;> exact h2.elim
  rw [hv] at hA hval
  obtain ⟨dd, rfl⟩ : ∃ dd, ds = [dd] := by
    match ds, hA with
    | [d], _ => exact ⟨d, rfl⟩
    | [], h => exact h.elim
    | d :: d' :: r, ⟨_, _, _, h2, _⟩ => exact h2.elim
  obtain ⟨p1, p2, ⟨fuel, hx⟩, h2, rfl⟩ := hA
  have h2 : p2 = [] := h2
  have hv0 := hval 0 t v rfl rfl
  have hv2 : Cell.okWide Y.G.X.P W r b0 t v := by unfold Value.okWide at hv0; rw [hu] at hv0; exact hv0
  have hone : ∀ o l c, v.cells.toList = [.slice o l c] → v = .slice o l c := by
    intro o l c hv
    cases v <;> simp [Value.cells] at hv <;> first | exact hv | (simp [hv]; done) | skip
    all_goals (unfold Cell.okWide Cell.ok at hv2; rw [hu] at hv2; simp at hv2)
  have hc : v.cells.toList = [v] := by
    rcases DataW.trod_slice hu hx with ⟨hv, _⟩ | ⟨a, len, cap, elems, rest, m, _, hv, _⟩
    · rw [hone _ _ _ hv]; rfl
    · rw [hone _ _ _ hv]; rfl
  rw [hc] at hx
  obtain ⟨p, n, cap, rows, hn, hcm, _, hlt, hrep, hsat, hel⟩ := open_cell hu hf hk hk1 hx (fun b off hm => hz b off (List.mem_append_left _ hm))
  obtain ⟨a, g1, g2, g3, g4⟩ := hinst n cap rows hn hcm fun i hi => by
    obtain ⟨m', cs, x, h1, h2, h3, h4⟩ := hel i hi
    exact ⟨cs, ⟨m', x, h1, h2⟩, h3, h4⟩
  have := law_con hY (fun _ => CHof_ok hY ht) hb.body a g1 (hhp a) (hres a) (w := W) (ρ := ⟨2, fun t => if t = 0 then p else ⟨0, 0, 0, fun b => b < W.heap.size⟩⟩) (vs := [v]) g4.symm (by
      rw [g3]
      refine ⟨Keeps.refl _ _, fun x hx => ?_, ?_⟩
      · simp only [ros, List.map_cons, List.map_nil, List.mem_cons, List.not_mem_nil, or_false] at hx
        rcases hx with rfl | rfl
        · exact ⟨(by decide : 0 < 2), hsat _, hlt, fun h => (by cases h)⟩
        · exact ⟨(by decide : 1 < 2), fun w' hw b hb => ⟨hb, hw b hb⟩, fun b hb => hb, fun h => (by cases h)⟩
      · simp only [ros, List.map_cons, List.map_nil]
        exact List.pairwise_cons.2 ⟨fun y hy => by
          simp only [List.mem_singleton] at hy
          subst hy
          exact ⟨(by decide : 0 ≠ 1), fun h => (by cases h)⟩, List.pairwise_singleton _ _⟩) (by
      rw [g2]
      exact ⟨v, [], rfl, hrep _ 0 (by show 0 < 2; decide) rfl, rfl⟩)
  rw [← hv] at this
  simpa using this
end
end Go.Sx
