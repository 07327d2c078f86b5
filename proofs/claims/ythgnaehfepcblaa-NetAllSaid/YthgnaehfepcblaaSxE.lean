/-
  Loads, stores, addresses, new variables.
-/
import Derived.Test.YthgnaehfepcblaaSxD
namespace Go.Sx
section
variable {P : Program}

theorem run_isAgg' {t : Nat} {i : TI} (ty : TyOk P t i) (w : World) : (isAgg t).run P w = .ok i.agg w := by
  obtain ⟨d, hd⟩ := ty.under
  simp only [isAgg, Sem.run_bind, run_underlying hd, Result.andThen_ok]
  rw [ty.agg, ← ty.desc]
  unfold descOf
  rw [hd]
  cases d <;> rfl

theorem run_sizeOf' {t : Nat} {i : TI} (ty : TyOk P t i) (w : World) : (sizeOf t).run P w = .ok i.sz w := by
  obtain ⟨j, hj, h1, _⟩ := ty.info
  simp [sizeOf, typeInfo, hj, h1]

theorem run_typeInfo' {t : Nat} {i : TI} (ty : TyOk P t i) (w : World) : ∃ j, (typeInfo t).run P w = .ok j w ∧ j.size = i.sz ∧ j.bytes = i.bytes := by
  obtain ⟨j, hj, h1, h2, _⟩ := ty.info
  exact ⟨j, by simp [typeInfo, hj], h1, h2⟩

theorem run_zeroValue' {t : Nat} {i : TI} (ty : TyOk P t i) : ∃ z, (∀ w, (zeroValue t).run P w = .ok z w) ∧ z.cells.toList.length = i.sz ∧ i.zero = z.cells.toList.map aOfV ∧ allOk z.cells.toList = true ∧ i.ks.length = i.sz ∧
    (i.agg = true → z = .agg z.cells) ∧ (i.agg = false → z.oneCell' = true ∨ ∃ vs, z = .tuple vs) := by
  obtain ⟨j, hj, _, _, z, hz, h⟩ := ty.info
  exact ⟨z, fun w => by simp [zeroValue, typeInfo, hj, hz], h⟩

theorem Addr.add_plain (b o n : Nat) : (⟨b, o, none⟩ : Addr).add n = ⟨b, o + n, none⟩ := by
  unfold Addr.add; split <;> simp_all

theorem cell_of {w : World} {b : Nat} {vs : Array Value} {ty : TypeId} {fr : Nat × Nat} (h : w.heap[b]? = some (.cells vs ty fr)) (o : Nat) : w.cell? ⟨b, o, none⟩ = vs[o]? := by
  simp [World.cell?, h]

theorem frozen_of {w : World} {b : Nat} {vs : Array Value} {ty : TypeId} {fr : Nat × Nat} (h : w.heap[b]? = some (.cells vs ty fr)) {o : Nat} (hu : ¬ (fr.1 ≤ o ∧ o < fr.2)) : w.frozen? ⟨b, o, none⟩ = false := by
  obtain ⟨lo, hi⟩ := fr
  have := hu
  simp only [World.frozen?, h]
  simpa using this

theorem Unfrozen.size {n m : Nat} {fr : Nat × Nat} (h : Unfrozen n fr) (e : m = n) : Unfrozen m fr := e ▸ h

/-- cells stored one behind the other -/
theorem run_storeCellsU (g o : Nat) (t : TypeId) (fz : Nat × Nat) : ∀ (vs : List Value) (i : Nat) (cur : Array Value) (w : World), w.heap[g]? = some (.cells cur t fz) → UnfrozenIn (o + i) (o + i + vs.length) fz → o + i + vs.length ≤ cur.size → (∀ v ∈ vs, v.oneCell' = true) →
    (storeCells ⟨g, o, none⟩ vs i).run P w = .ok () (w.setRow g (cur.toList.take (o + i) ++ vs ++ cur.toList.drop (o + i + vs.length)).toArray)
  | [], i, cur, w, hg, _, _, _ => by
    simp only [storeCells, List.append_nil, List.length_nil, Nat.add_zero, List.take_append_drop, Array.toArray_toList]
    rw [setRow_self w g cur t fz hg]
    rfl
  | v :: rest, i, cur, w, hg, hfz, hl, h1 => by
    have hi : o + i < cur.size := by simp at hl; omega
    have hadd : (⟨g, o, none⟩ : Addr).add i = ⟨g, o + i, none⟩ := Addr.add_plain _ _ _
    have hcell : w.cell? ⟨g, o + i, none⟩ = some cur[o + i] := by simp [World.cell?, hg, hi]
    have hfro : w.frozen? ⟨g, o + i, none⟩ = false := frozen_of hg (hfz (o + i) (Nat.le_refl _) (by simp))
    have hst : (store ((⟨g, o, none⟩ : Addr).add i) v).run P w = .ok () (w.setRow g (cur.setIfInBounds (o + i) v)) := by
      rw [hadd, run_store P w _ v _ (h1 v (by simp)), hcell]
      simp [hfro, setCell_eq_setRow w g (o + i) cur t fz v hg]
    have ih := run_storeCellsU g o t fz rest (i + 1) (cur.setIfInBounds (o + i) v) (w.setRow g (cur.setIfInBounds (o + i) v)) (setRow_heap w g cur _ t _ hg) (fun x h1 h2 => hfz x (by omega) (by simp at h2 ⊢; omega)) (by simp at hl ⊢; omega) (fun x hx => h1 x (by simp [hx]))
    simp only [storeCells, Sem.run_bind, hst, Result.andThen_ok, ih, setRow_setRow]
    congr 3
    have e := list_seg_step cur.toList (o + i) v rest (by simp at hl ⊢; omega)
    simpa [Array.toList_setIfInBounds, Nat.add_assoc] using e

theorem Keeps.setRow (w : World) (g : Nat) (cs : Array Value) : Keeps (fun b => b = g) w (w.setRow g cs) :=
  ⟨rfl, rfl, rfl, by simp, fun b _ hb => setRow_other w g b cs hb, fun a _ => by
    by_cases hb : a.block = g
    · subst hb
      cases ho : w.heap[a.block]? with
      | none =>
        have : (w.setRow a.block cs).heap[a.block]? = none := by
          have h1 := Array.getElem?_eq_none_iff.1 ho
          exact Array.getElem?_eq_none_iff.2 (by simpa using h1)
        simp [World.frozen?, ho, this]
      | some o =>
        cases o with
        | cells vs ty fr => simp only [World.frozen?, ho, setRow_heap w a.block vs cs ty fr ho]
        | _ => simp [World.frozen?, ho, World.setRow, Array.getElem?_modify]
    · simp only [World.frozen?, setRow_other w g a.block cs hb]⟩

/-! ### reading cells -/

def toI : Value → Int | .int _ n => n | _ => 0
def toB : Value → Bool | .bool b => b | _ => false
def toS : Value → ByteArray | .string s => s | _ => .empty

def atomOf : CK → Value → A
  | .int k, v => .int k (toI v)
  | .bool, v => .bool (toB v)
  | .str, v => .str (toS v)
  | .other, v => match v with
    | .slice none 0 0 => .snil
    | .pointer none => .nil
    | v => .val v
  | .deep, v => .val v
theorem atomOf_rep {k : CK} {v : Value} (h : k.ok v) (ρ : Env) : (atomOf k v).Rep ρ v := by
  cases k with
  | int k => obtain ⟨n, rfl, hn⟩ := h; exact ⟨rfl, hn⟩
  | bool => obtain ⟨b, rfl⟩ := h; rfl
  | str => obtain ⟨s, rfl, hs⟩ := h; exact ⟨rfl, hs⟩
  | other =>
    unfold atomOf
    split
    · rename_i e; cases e
    · rename_i e; cases e
    · rename_i e; cases e
    · split
      · rfl
      · rfl
      · exact ⟨rfl, h⟩
    · rename_i e; cases e
  | deep => exact ⟨rfl, h⟩

/-- the atoms of cells c, c + 1, .. of a row -/
def atoms (row : Nat → Value) : List CK → Nat → List A
  | [], _ => []
  | k :: ks, c => atomOf k (row c) :: atoms row ks (c + 1)

/-- a number that is read fits its kind -/
def rng (force : Bool) (x : A) (p : Prop) : Prop := match x with
  | .int k n => bif force then p else InR k n → p
  | _ => p
theorem rng_out {force : Bool} {x : A} {p : Prop} (h : rng force x p) {ρ : Env} {v : Value} (r : x.Rep ρ v) : p := by
  cases x <;> simp only [rng] at h <;> first | exact h | (cases force <;> first | exact h r.2 | exact h)

def loadCh (force : Bool) (ti : TI) (ch : Chunk) (row esz c : Nat) (s : S) (K : KV) : Prop :=
  match ch with
  | .obj _ cs =>
      (bif ti.agg then (bif Nat.ble (row * esz + c + ti.sz) cs.length then K (.agg ((cs.drop (row * esz + c)).take ti.sz)) s else False)
       else match cs[row * esz + c]? with | some x => rng force x (K (.a x) s) | none => False)
  | .arr _ ks n rows => bif Nat.beq esz ks.length then
      (bif ti.agg then (bif Nat.ble (c + ti.sz) ks.length then need force (row < n) (K (.agg (atoms (rows row) ((ks.drop c).take ti.sz) c)) s) else False)
       else match ks[c]? with | some k => need force (row < n) (rng force (atomOf k (rows row c)) (K (.a (atomOf k (rows row c))) s)) | none => False) else False
  | .abs _ => False

def xload (X : Cx) (t : Nat) (x : SV) (s : S) (K : KV) : Prop :=
  match x with
  | .a (.ptr tg row esz c) =>
    match X.ti t, s.hp.find tg with
    | some ti, some (_, ch) => loadCh X.force ti ch row esz c s K
    | _, _ => False
  | _ => False

theorem run_loadAgg {t : Nat} {i : TI} (ty : TyOk P t i) (w : World) (b o : Nat) (vs : List Value) (ha : i.agg = true) (hl : vs.length = i.sz) (h : ∀ j v, vs[j]? = some v → w.cell? ⟨b, o + j, none⟩ = some v) :
    (loadVar t ⟨b, o, none⟩).run P w = .ok (.agg vs.toArray) w := by
  have := run_loadCells_list (P := P) w ⟨b, o, none⟩ vs (fun j v hj => by rw [Addr.add_plain]; exact h j v hj)
  rw [hl] at this
  simp [loadVar, run_isAgg' ty, ha, run_sizeOf' ty, this]

theorem run_loadOne {t : Nat} {i : TI} (ty : TyOk P t i) (w : World) (a : Addr) (v : Value) (ha : i.agg = false) (h : w.cell? a = some v) : (loadVar t a).run P w = .ok v w := by
  simp [loadVar, run_isAgg' ty, ha, h]

theorem atoms_rep (ρ : Env) (row : Nat → Value) : ∀ (ks : List CK) (c : Nat), (∀ (j : Nat) (k : CK), ks[j]? = some k → k.ok (row (c + j))) → RepL ρ (atoms row ks c) ((List.range' c ks.length).map row)
  | [], _, _ => rfl
  | k :: ks, c, h => by
    refine ⟨row c, (List.range' (c + 1) ks.length).map row, by simp [List.range'_succ], atomOf_rep (h 0 k rfl) ρ, atoms_rep ρ row ks (c + 1) fun j k' hj => ?_⟩
    have := h (j + 1) k' (by simpa using hj)
    rwa [show c + (j + 1) = c + 1 + j from by omega] at this

theorem load_ok {X : Cx} (hX : X.Ok) {t : Nat} {x : SV} {s : S} {K : KV} (h : xload X t x s K) {w0 : World} {M : Nat → Prop} {ρ : Env} {w : World} {v : Value} (hv : x.Rep ρ v) (hh : HeapSat w0 M ρ s.hp w) :
    ∃ b o, v = .pointer (some ⟨b, o, none⟩) ∧ ∃ u sv, (∀ w' : World, (∀ t', ptag x = some t' → ∀ b, (ρ.pl t').fp b → w'.heap[b]? = w.heap[b]?) → (loadVar t ⟨b, o, none⟩).run X.P w' = .ok u w') ∧ sv.Rep ρ u ∧ K sv s := by
  unfold xload at h
  split at h
  · rename_i tg row esz c
    obtain ⟨_, rfl⟩ := hv
    refine ⟨_, _, rfl, ?_⟩
    split at h
    · rename_i ti m ch hti hfind
      have ty := hX.ty hti
      have he := (hh.ent _ (Heap.find_mem hfind)).ch
      simp only at he
      cases ch with
      | abs R => exact h.elim
      | obj cty cs =>
        obtain ⟨vs, fr, hb, hoff, ⟨us, xs, hus, hrep⟩, hu, hfp⟩ := he
        have hvs : ∀ (j : Nat) (v : Value), us[j]? = some v → vs[j]? = some v := fun j v hj => by
          rw [← Array.getElem?_toList, hus, List.getElem?_append_left (List.getElem?_eq_some_iff.1 hj).1]; exact hj
        simp only [loadCh] at h
        have hadd : (ρ.pl tg).off + row * esz + c = row * esz + c := by omega
        rw [hadd]
        clear hadd
        generalize row * esz + c = c' at *
        cases ha : ti.agg
        · simp only [ha, cond_false] at h
          split at h
          · rename_i x hx
            obtain ⟨u, hu1, hu2⟩ := hrep.get hx
            exact ⟨u, .a x, fun w' hw => run_loadOne ty w' _ u ha (by rw [cell_of (by rw [hw tg rfl _ ((hfp _).2 rfl)]; exact hb)]; exact hvs _ _ hu1), hu2, rng_out h hu2⟩
          · exact h.elim
        · simp only [ha, cond_true] at h
          cases hlen : Nat.ble (c' + ti.sz) cs.length
          · simp [hlen] at h
          · simp only [hlen, cond_true] at h
            have hle := Nat.le_of_ble_eq_true hlen
            have hl := hrep.length
            refine ⟨_, .agg _, fun w' hw => run_loadAgg ty w' _ _ ((us.drop c').take ti.sz) ha (by simp at hl ⊢; omega) ?_, ⟨_, rfl, (hrep.drop c').take ti.sz⟩, h⟩
            intro j v hj
            rw [cell_of (by rw [hw tg rfl _ ((hfp _).2 rfl)]; exact hb)]
            rw [List.getElem?_take] at hj
            split at hj
            · exact hvs _ _ (by simpa using hj)
            · cases hj
      | arr cty ks n rows =>
        simp only [loadCh] at h
        cases h0 : Nat.beq esz ks.length
        · simp [h0] at h
        simp only [h0, cond_true] at h
        have h0' := Nat.eq_of_beq_eq_true h0
        subst h0'
        have key : ∀ (hr : row < n), ∃ vs ty' fr, w.heap[(ρ.pl tg).blk]? = some (.cells vs ty' fr) ∧ (∀ b, (ρ.pl tg).fp b ↔ b = (ρ.pl tg).blk) ∧ ∀ j k, ks[j]? = some k → vs[(ρ.pl tg).off + row * ks.length + j]? = some (rows row j) ∧ k.ok (rows row j) := by
          intro hr
          rcases he with ⟨hn, _⟩ | ⟨vs, ty', fr, hb, _, _, _, hfp, hrow⟩
          · omega
          · exact ⟨vs, ty', fr, hb, hfp, hrow row hr⟩
        cases ha : ti.agg
        · simp only [ha, cond_false] at h
          split at h
          · rename_i k hk
            obtain ⟨hr, h⟩ := need_ok h
            obtain ⟨vs, ty', fr, hb, hfp, hrow⟩ := key hr
            obtain ⟨e1, e2⟩ := hrow c k hk
            exact ⟨_, .a _, fun w' hw => run_loadOne ty w' _ _ ha (by rw [cell_of (by rw [hw tg rfl _ ((hfp _).2 rfl)]; exact hb)]; exact e1), atomOf_rep e2 ρ, rng_out h (atomOf_rep e2 ρ)⟩
          · exact h.elim
        · simp only [ha, cond_true] at h
          cases hlen : Nat.ble (c + ti.sz) ks.length
          · simp [hlen] at h
          · simp only [hlen, cond_true] at h
            obtain ⟨hr, h⟩ := need_ok h
            have hle := Nat.le_of_ble_eq_true hlen
            obtain ⟨vs, ty', fr, hb, hfp, hrow⟩ := key hr
            have hks : ((ks.drop c).take ti.sz).length = ti.sz := by simp; omega
            have hget : ∀ (j : Nat) (k : CK), ((ks.drop c).take ti.sz)[j]? = some k → j < ti.sz ∧ ks[c + j]? = some k := by
              intro j k hj
              rw [List.getElem?_take] at hj
              split at hj
              · exact ⟨‹_›, by simpa using hj⟩
              · cases hj
            have hat := atoms_rep ρ (rows row) ((ks.drop c).take ti.sz) c fun j k hj => (hrow (c + j) k (hget j k hj).2).2
            rw [hks] at hat
            refine ⟨_, .agg _, fun w' hw => run_loadAgg ty w' _ _ ((List.range' c ti.sz).map (rows row)) ha (by simp) ?_, ⟨_, rfl, hat⟩, h⟩
            intro j v hj
            rw [cell_of (by rw [hw tg rfl _ ((hfp _).2 rfl)]; exact hb)]
            have hjl : j < ti.sz := by
              rcases Nat.lt_or_ge j ti.sz with h | h
              · exact h
              · rw [List.getElem?_eq_none (by simpa using h)] at hj; cases hj
            have hkj : ∃ k, ks[c + j]? = some k := ⟨ks[c + j]'(by omega), List.getElem?_eq_getElem _⟩
            obtain ⟨k, hk⟩ := hkj
            have e := (hrow (c + j) k hk).1
            rw [← Nat.add_assoc] at e
            rw [e]
            simp [hjl] at hj
            rw [← hj]
    · exact h.elim
  · exact h.elim

end
end Go.Sx
