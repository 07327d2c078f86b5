/-
  Structs and slices that are built; make; slice expressions; lengths.
-/
import Derived.Test.YthgnaehfepcblaaSxG
namespace Go.Sx
section
variable {P : Program}

def partsOf (pl : Nat → Option (Nat × Nat)) (s : S) : List (Nat × Operand) → Option (List (Nat × Nat × SV))
  | [] => some []
  | (i, x) :: r =>
    match pl i, partsOf pl s r with
    | some (o, z), some l => some ((o, z, s.ev x) :: l)
    | _, _ => none

theorem partsOf_ok (pl : Nat → Option (Nat × Nat)) (s : S) : ∀ {ps : List (Nat × Operand)} {l : List (Nat × Nat × SV)}, partsOf pl s ps = some l →
    l.length = ps.length ∧ ∀ (i off sz : Nat) (sv : SV), l[i]? = some (off, sz, sv) → ∃ k x, ps[i]? = some (k, x) ∧ pl k = some (off, sz) ∧ sv = s.ev x
  | [], l, h => by simp [partsOf] at h; subst h; exact ⟨rfl, fun i off sz sv hi => by simp at hi⟩
  | (k, x) :: r, l, h => by
    simp only [partsOf] at h
    split at h
    · rename_i o z l' hpl hr
      simp only [Option.some.injEq] at h
      subst h
      obtain ⟨h1, h2⟩ := partsOf_ok pl s hr
      refine ⟨by simp [h1], fun i off sz sv hi => ?_⟩
      cases i with
      | zero => simp at hi; obtain ⟨rfl, rfl, rfl⟩ := hi; exact ⟨k, x, rfl, hpl, rfl⟩
      | succ i => obtain ⟨k', x', a, b⟩ := h2 i off sz sv (by simpa using hi); exact ⟨k', x', by simpa using a, b⟩
    · cases h

theorem run_list_mapM {α β : Type} (f : α → Sem β) (g : α → β) (w : World) : ∀ (l : List α), (∀ x ∈ l, (f x).run P w = .ok (g x) w) → (l.mapM f).run P w = .ok (l.map g) w
  | [], _ => rfl
  | x :: l, h => by
    rw [List.mapM_cons]
    simp [h x (by simp), run_list_mapM f g w l fun y hy => h y (by simp [hy])]

theorem run_array_mapM {α β : Type} (f : α → Sem β) (g : α → β) (w : World) (l : Array α) (h : ∀ x ∈ l.toList, (f x).run P w = .ok (g x) w) : (l.mapM f).run P w = .ok (l.map g) w := by
  rw [Array.mapM_eq_mapM_toList]
  simp only [Sem.run_map, run_list_mapM f g w l.toList h, Result.andThen_ok]
  congr 1
  apply Array.toList_inj.1; simp

theorem desc_struct {t : TypeId} {fs : List (Nat × Nat)} (h : descOf P t = .struct fs) : ∃ gs, P.underlying t = some (.struct gs) ∧ fs = gs.toList.map fun f => (f.offset, P.cellsOf f.type) := by
  unfold descOf at h
  split at h <;> first | (cases h; done) | skip
  rename_i gs hg
  cases h
  exact ⟨gs, hg, rfl⟩
theorem desc_arr {t : TypeId} {n e : Nat} (h : descOf P t = .arr n e) : P.underlying t = some (.array n e) := by
  unfold descOf at h
  split at h <;> first | (cases h; done) | skip
  rename_i n' e' hg
  cases h
  exact hg
theorem desc_slc {t : TypeId} {e : Nat} (h : descOf P t = .slc e) : P.underlying t = some (.slice e) := by
  unfold descOf at h
  split at h <;> first | (cases h; done) | skip
  rename_i e' hg
  cases h
  exact hg
theorem desc_str {t : TypeId} (h : descOf P t = .str) : P.underlying t = some .string := by
  unfold descOf at h
  split at h <;> first | (cases h; done) | assumption
theorem desc_int {t : TypeId} {k : IntKind} (h : descOf P t = .int k) : P.underlying t = some (.int k) := by
  unfold descOf at h
  split at h <;> first | (cases h; done) | skip
  rename_i k' hg
  cases h
  exact hg
theorem desc_bool {t : TypeId} (h : descOf P t = .bool) : P.underlying t = some .bool := by
  unfold descOf at h
  split at h <;> first | (cases h; done) | assumption
theorem desc_ptr {t : TypeId} (h : descOf P t = .ptr) : ∃ e, P.underlying t = some (.pointer e) := by
  unfold descOf at h
  split at h <;> first | (cases h; done) | skip
  rename_i e' hg
  exact ⟨e', hg⟩

def xbuild (X : Cx) (t : Nat) (parts : List (Nat × Operand)) (s : S) (K : KV) : Prop :=
  match X.ti t with
  | some ti =>
    match ti.d with
    | .struct fs =>
      match partsOf (fun i => fs[i]?) s parts with
      | some ps => match lay ti.zero ps with
        | some out => K (.agg out) s
        | none => False
      | none => False
    | .arr _ e =>
      match X.ti e with
      | some te =>
        match partsOf (fun i => some (i * te.sz, te.sz)) s parts with
        | some ps => match lay ti.zero ps with
          | some out => K (.agg out) s
          | none => False
        | none => False
      | none => False
    | _ => False
  | none => False

theorem build_ok {X : Cx} (hX : X.Ok) {t : Nat} {parts : Array (Nat × Operand)} {s : S} {K : KV} (h : xbuild X t parts.toList s K) {ρ : Env} {a : Act} (hf : FrameSat ρ s.fr a.tmps) :
    ∃ u sv, (∀ w : World, (Instr.build t (parts.map fun (i, x) => (i, a.eval x))).run X.P w = .ok u w) ∧ sv.Rep ρ u ∧ K sv s := by
  unfold xbuild at h
  split at h
  · rename_i ti hti
    have ty := hX.ty hti
    obtain ⟨z, hz, _, hzero, hok, _⟩ := run_zeroValue' ty
    have hzr : RepL ρ ti.zero z.cells.toList := by rw [hzero]; exact RepL_map_aOfV ρ hok
    have hmap : ∀ i : Nat, (parts.map fun ((i, x) : Nat × Operand) => (i, a.eval x)).toList[i]? = (parts.toList[i]?).map fun ((i, x) : Nat × Operand) => (i, a.eval x) := by intro i; simp
    split at h
    · rename_i fs hd
      split at h
      · rename_i ps hps
        split at h
        · rename_i out hout
          obtain ⟨gs, hu, e⟩ := desc_struct (ty.desc.trans hd)
          have hk := ty.known
          simp only [fieldsKnown, hu, List.all_eq_true] at hk
          have hm := fun w => run_array_mapM (P := X.P) (fun f : Field => do pure (f.offset, ← sizeOf f.type)) (fun f => (f.offset, X.P.cellsOf f.type)) w gs (fun f hfm => by
            have := hk f hfm
            obtain ⟨i, hi⟩ := Option.isSome_iff_exists.1 this
            simp [sizeOf, typeInfo, hi, Program.cellsOf])
          obtain ⟨hl, hget⟩ := partsOf_ok _ s hps
          obtain ⟨res, r1, r2, _⟩ := fill_ok (fun i => (gs.map fun f => (f.offset, X.P.cellsOf f.type))[i]?) ps (parts.map fun ((i, x) : Nat × Operand) => (i, a.eval x)).toList ti.zero z.cells out hzr hout (by simp [hl])
            (fun i off sz sv hi => by
              obtain ⟨k, x, h1, h2, rfl⟩ := hget i off sz sv hi
              refine ⟨k, a.eval x, by rw [hmap, h1]; rfl, ?_, hf.ev x⟩
              rw [e] at h2
              simpa using h2)
          refine ⟨.agg res, .agg out, fun w => ?_, ⟨res.toList, by simp, r2⟩, h⟩
          unfold Instr.build
          simp only [Sem.run_bind, hz, Result.andThen_ok, run_underlying hu, hm]
          rw [show Instr.fill _ _ _ = some res from r1]
          rfl
        · exact h.elim
      · exact h.elim
    · rename_i n e hd
      split at h
      · rename_i te hte
        have tye := hX.ty hte
        split at h
        · rename_i ps hps
          split at h
          · rename_i out hout
            have hu := desc_arr (ty.desc.trans hd)
            obtain ⟨hl, hget⟩ := partsOf_ok _ s hps
            obtain ⟨res, r1, r2, _⟩ := fill_ok (fun i => some (i * te.sz, te.sz)) ps (parts.map fun ((i, x) : Nat × Operand) => (i, a.eval x)).toList ti.zero z.cells out hzr hout (by simp [hl])
              (fun i off sz sv hi => by
                obtain ⟨k, x, h1, h2, rfl⟩ := hget i off sz sv hi
                exact ⟨k, a.eval x, by rw [hmap, h1]; rfl, h2, hf.ev x⟩)
            refine ⟨.agg res, .agg out, fun w => ?_, ⟨res.toList, by simp, r2⟩, h⟩
            simp [Instr.build, hz, run_underlying hu, run_sizeOf' tye] at r1 ⊢
            simp [r1]
          · exact h.elim
        · exact h.elim
      · exact h.elim
    · exact h.elim
  · exact h.elim

/-! ### slices that are built and made -/

/-- so many times the same cells -/
def rep {α : Type} : Nat → List α → List α
  | 0, _ => []
  | n + 1, l => l ++ rep n l
theorem rep_length {α : Type} (n : Nat) (l : List α) : (rep n l).length = n * l.length := by
  induction n with
  | zero => simp [rep]
  | succ n ih => simp [rep, ih, Nat.succ_mul, Nat.add_comm]
theorem rep_map {α β : Type} (f : α → β) (n : Nat) (l : List α) : (rep n l).map f = rep n (l.map f) := by
  induction n with
  | zero => rfl
  | succ n ih => simp [rep, ih]
theorem rep_get {α : Type} (l : List α) : ∀ (n i : Nat), i < n * l.length → (rep n l)[i]? = l[i % l.length]?
  | 0, i, h => by simp at h
  | n + 1, i, h => by
    rw [rep]
    by_cases hi : i < l.length
    · rw [List.getElem?_append_left hi, Nat.mod_eq_of_lt hi]
    · rw [List.getElem?_append_right (by omega), rep_get l n (i - l.length) (by rw [Nat.succ_mul] at h; omega)]
      congr 1
      exact (Nat.mod_eq_sub_mod (by omega)).symm
theorem RepL.rep {ρ : Env} {xs : List A} {vs : List Value} (h : RepL ρ xs vs) : ∀ n, RepL ρ (Sx.rep n xs) (Sx.rep n vs)
  | 0 => rfl
  | n + 1 => h.append (RepL.rep h n)

/-- the cells of n zero values -/
theorem zero_cells (z : Array Value) (n sz : Nat) (hs : z.size = sz) : ((Array.range (n * sz)).map (z[· % z.size]!)).toList = rep n z.toList := by
  subst hs
  apply List.ext_getElem?
  intro i
  by_cases hi : i < n * z.size
  · rw [rep_get z.toList n i (by simpa using hi)]
    have hz : 0 < z.size := by rcases Nat.eq_zero_or_pos z.size with h | h; (rw [h] at hi; simp at hi); exact h
    have hm : i % z.size < z.size := Nat.mod_lt _ hz
    simp [hi, getElem!_pos, hm]
  · rw [List.getElem?_eq_none (by simpa using Nat.le_of_not_lt hi), List.getElem?_eq_none (by rw [rep_length]; simpa using Nat.le_of_not_lt hi)]

/-- rows laid out one behind the other -/
def flatRows (esz : Nat) (l : List Value) : Nat → Nat → Value := fun i j => l.getD (i * esz + j) undef

def xbuildSlice (X : Cx) (t len : Nat) (parts : List (Nat × Operand)) (s : S) (K : KV) : Prop :=
  match X.ti t with
  | some ti =>
    match ti.d with
    | .slc e =>
      match X.ti e with
      | some te =>
        match partsOf (fun i => some (i * te.sz, te.sz)) s parts with
        | some ps => match lay (rep len te.zero) ps with
          | some out => bif fitKs (rep len te.ks) out && (Nat.ble (len * te.sz) 16777216 && Nat.ble len lenMax) then
              forceTV out (fun vs => K (.a (.slc s.nx 0 te.sz len len)) (s.new (.arr e te.ks len (flatRows te.sz vs))))
            else bif Nat.ble (len * te.sz) 16777216 && Nat.ble len lenMax then K (.a (.slc s.nx 0 te.sz len len)) (s.new (.obj e out)) else False
          | none => False
        | none => False
      | none => False
    | _ => False
  | none => False

theorem ks_length {t : Nat} {i : TI} (ty : TyOk P t i) : i.ks.length = i.sz := by
  obtain ⟨j, _, _, _, z, _, h1, _, _, h2, _⟩ := ty.info
  exact h2

theorem rep_ks (ks : List CK) (n i j : Nat) (k : CK) (hi : i < n) (hj : ks[j]? = some k) : (rep n ks)[i * ks.length + j]? = some k := by
  have hjl : j < ks.length := (List.getElem?_eq_some_iff.1 hj).1
  have hlt : i * ks.length + j < n * ks.length := by
    have := Nat.mul_le_mul_right ks.length hi
    rw [Nat.succ_mul] at this; omega
  rw [rep_get ks n _ hlt, Nat.mul_comm, Nat.mul_add_mod, Nat.mod_eq_of_lt hjl, hj]

theorem buildSlice_ok {X : Cx} (hX : X.Ok) {t len : Nat} {parts : Array (Nat × Operand)} {s : S} {K : KV} (h : xbuildSlice X t len parts.toList s K) {w0 : World} {M : Nat → Prop} {ρ : Env} (hρ : ρ.n = s.nx) {a : Act} (hf : FrameSat ρ s.fr a.tmps) {w : World}
    (hh : HeapSat w0 M ρ s.hp w) :
    ∃ u w' ρ', (Instr.buildSlice t len (parts.map fun (i, x) => (i, a.eval x))).run X.P w = .ok u w' ∧ ρ.le ρ' ∧ ∃ sv s', K sv s' ∧ s'.nt = s.nt ∧ s'.fr = s.fr ∧ ρ'.n = s'.nx ∧ sv.Rep ρ' u ∧ HeapSat w0 M ρ' s'.hp w' := by
  unfold xbuildSlice at h
  split at h
  · rename_i ti hti
    have ty := hX.ty hti
    split at h
    · rename_i e hd
      split at h
      · rename_i te hte
        have tye := hX.ty hte
        split at h
        · rename_i ps hps
          split at h
          · rename_i out hout
            have small : (Nat.ble (len * te.sz) 16777216 && Nat.ble len lenMax) = true := by
              cases hs : (Nat.ble (len * te.sz) 16777216 && Nat.ble len lenMax)
              · simp [hs] at h
              · rfl
            simp only [small, Bool.and_true, cond_true] at h
            simp only [Bool.and_eq_true] at small
            obtain ⟨hb2, hb3⟩ := small
            have hsz := Nat.le_of_ble_eq_true hb2
            have hlm := Nat.le_of_ble_eq_true hb3
            have hu := desc_slc (ty.desc.trans hd)
            obtain ⟨z, hz, hzl, hzero, hok, _⟩ := run_zeroValue' tye
            have hzr : RepL ρ te.zero z.cells.toList := by rw [hzero]; exact RepL_map_aOfV ρ hok
            obtain ⟨hl, hget⟩ := partsOf_ok _ s hps
            have hmap : ∀ i : Nat, (parts.map fun ((i, x) : Nat × Operand) => (i, a.eval x)).toList[i]? = (parts.toList[i]?).map fun ((i, x) : Nat × Operand) => (i, a.eval x) := by intro i; simp
            have hcells : ∃ c0 : Array Value, (len * te.sz = 0 → c0 = #[]) ∧ (¬ len * te.sz = 0 → c0 = z.cells) ∧ ((Array.range (len * te.sz)).map (c0[· % c0.size]!)).toList = rep len z.cells.toList := by
              by_cases h0 : len * te.sz = 0
              · refine ⟨#[], fun _ => rfl, fun h => absurd h0 h, ?_⟩
                have : (rep len z.cells.toList).length = 0 := by rw [rep_length, hzl, h0]
                rw [List.eq_nil_of_length_eq_zero this, h0]; simp
              · refine ⟨z.cells, fun h => absurd h h0, fun _ => rfl, zero_cells _ _ _ (by simpa using hzl)⟩
            obtain ⟨c0, hc0, hc0', hc1⟩ := hcells
            obtain ⟨res, r1, r2, _⟩ := fill_ok (fun i => some (i * te.sz, te.sz)) ps (parts.map fun ((i, x) : Nat × Operand) => (i, a.eval x)).toList (rep len te.zero) ((Array.range (len * te.sz)).map (c0[· % c0.size]!)) out (by rw [hc1]; exact hzr.rep len) hout (by simp [hl])
              (fun i off sz sv hi => by
                obtain ⟨k, x, h1, h2, rfl⟩ := hget i off sz sv hi
                exact ⟨k, a.eval x, by rw [hmap, h1]; rfl, h2, hf.ev x⟩)
            have hks := ks_length tye
            have hrl : res.size = len * te.sz := by
              have h1 := r2.length
              have : res.size = (Array.map (fun x => c0[x % c0.size]!) (Array.range (len * te.sz))).size := by
                obtain ⟨res', q1, q2, q3⟩ := fill_ok (fun i => some (i * te.sz, te.sz)) ps (parts.map fun ((i, x) : Nat × Operand) => (i, a.eval x)).toList (rep len te.zero) ((Array.range (len * te.sz)).map (c0[· % c0.size]!)) out (by rw [hc1]; exact hzr.rep len) hout (by simp [hl])
                  (fun i off sz sv hi => by
                    obtain ⟨k, x, h1, h2, rfl⟩ := hget i off sz sv hi
                    exact ⟨k, a.eval x, by rw [hmap, h1]; rfl, h2, hf.ev x⟩)
                rw [r1] at q1; cases q1; exact q3
              simpa using this
            have hrun : (Instr.buildSlice t len (parts.map fun (i, x) => (i, a.eval x))).run X.P w = .ok (.slice (some ⟨w.heap.size, 0, none⟩) len len) (w.alloc (.cells res e)) := by
              unfold Instr.buildSlice
              simp only [Sem.run_bind, run_underlying hu, Result.andThen_ok, run_sizeOf' tye]
              rw [if_neg (by omega)]
              by_cases h0 : len * te.sz = 0
              · rw [if_pos h0]
                have e0 := hc0 h0
                simp only [Sem.run_bind, Sem.run_pure, Result.andThen_ok, ← e0]
                rw [show Instr.fill _ _ _ = some res from r1]
                rfl
              · rw [if_neg h0]
                have e0 := hc0' h0
                simp only [Sem.run_bind, Sem.run_pure, Result.andThen_ok, hz, ← e0]
                rw [show Instr.fill _ _ _ = some res from r1]
                rfl
            cases hfit : fitKs (rep len te.ks) out
            · simp only [hfit, cond_false] at h
              obtain ⟨ρ', p1, p2, p3, p4⟩ := hh.newObjN e len r2
              refine ⟨.slice (some ⟨w.heap.size, 0, none⟩) len len, w.alloc (.cells res e), ρ', hrun, p1, _, _, h, rfl, rfl, ?_, ?_, ?_⟩
              · rw [p2, hρ]; rfl
              · refine ⟨by rw [p2, hρ]; omega, Nat.le_refl _, hlm, .inr ⟨⟨w.heap.size, 0, none⟩, rfl, fun _ => ?_⟩⟩
                rw [← hρ, p3]; simp
              · rw [hρ] at p4; exact p4
            simp only [hfit, cond_true, forceTV_eq] at h
            obtain ⟨ev, hck⟩ := fitKs_ok hfit r2
            obtain ⟨ρ', p1, p2, p3, p4⟩ := hh.newArr e (ks := te.ks) (n := len) (N := len) (rows := flatRows te.sz (out.map A.toV)) (vs := res) (0, 0) (fun o _ ho => by omega) (Nat.le_refl _) (by rw [hks, hrl]; exact Nat.le_refl _) (Nat.le_refl _)
              (fun i hi j k hk => by
                have hjl : j < te.ks.length := (List.getElem?_eq_some_iff.1 hk).1
                have hlt : i * te.ks.length + j < res.toList.length := by
                  have := Nat.mul_le_mul_right te.ks.length hi
                  rw [Nat.succ_mul] at this
                  simp only [Array.length_toList, hrl]
                  rw [hks] at this hjl ⊢; omega
                have hge : res.toList[i * te.ks.length + j]? = some (flatRows te.sz (out.map A.toV) i j) := by
                  unfold flatRows
                  rw [← hks, ← ev]
                  simp [List.getD, List.getElem?_eq_getElem hlt]
                exact ⟨by simpa using hge, hck _ _ k hge (rep_ks te.ks len i j k hi hk)⟩)
            refine ⟨.slice (some ⟨w.heap.size, 0, none⟩) len len, w.alloc (.cells res e), ρ', hrun, p1, _, _, h, rfl, rfl, ?_, ?_, ?_⟩
            · rw [p2, hρ]; rfl
            · refine ⟨by rw [p2, hρ]; omega, Nat.le_refl _, hlm, .inr ⟨⟨w.heap.size, 0, none⟩, rfl, fun _ => ?_⟩⟩
              rw [← hρ, p3]; simp
            · rw [hρ] at p4; exact p4
          · exact h.elim
        · exact h.elim
      · exact h.elim
    · exact h.elim
  · exact h.elim

end
end Go.Sx
