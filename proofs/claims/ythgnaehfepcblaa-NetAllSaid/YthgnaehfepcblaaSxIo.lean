/-
  append, where what is appended is a block that is known whole; and where nothing is appended.
-/
import Derived.Test.YthgnaehfepcblaaSxI
namespace Go.Sx
section
variable {P : Program}

/-- is it a slice of a block that is known whole -/
def objSrc (s : S) (y : SV) : Bool :=
  match y with
  | .a (.slc t _ _ _ _) => match s.hp.find t with
    | some (_, .obj _ _) => true
    | _ => false
  | _ => false

def xappObj (X : Cx) (t : Nat) (x y : SV) (s : S) (K : KV) : Prop :=
  match X.ti t with
  | some ti =>
    match ti.d with
    | .slc e =>
      match X.ti e with
      | some te =>
        bif Nat.ble 1 te.bytes then
          match y with
          | .a (.slc tY rY eY m _) =>
            bif Nat.beq m 0 then (match x with
              | .a (.slc tX rX eX lX cX) => K (.a (.slc tX rX eX lX cX)) s
              | .a .snil => K (.a .snil) s
              | _ => False)
            else (match x, s.hp.find tY with
              | .a .snil, some (_, .obj ety out) => bif Nat.beq ety e && (Nat.beq eY te.sz && (Nat.beq rY 0 && Nat.ble (m * te.sz) out.length)) then
                  m * te.bytes ≤ 140737488355328 ∧ ∀ cap, m ≤ cap → cap ≤ lenMax → K (.a (.slc s.nx 0 te.sz m cap)) (s.new (.obj e (out.take (m * te.sz)))) else False
              | _, _ => False)
          | _ => False
        else False
      | none => False
    | _ => False
  | none => False

theorem appObj_ok {X : Cx} (hX : X.Ok) {t xt rt : Nat} {xd : TypeDesc} (hxt : X.P.underlying xt = some xd) (hxd : xd = .string ∨ ∃ e', xd = .slice e') {x y : SV} {s : S} {K : KV} (h : xappObj X t x y s K) {w0 : World} {M : Nat → Prop} {ρ : Env} (hρ : ρ.n = s.nx)
    {w : World} (hh : HeapSat w0 M ρ s.hp w) {u v : Value} (hu : x.Rep ρ u) (hv : y.Rep ρ v) :
    ∃ r w' ρ', (Builtin.append_ #[t, xt] rt #[u, v]).run X.P w = .ok r w' ∧ ρ.le ρ' ∧ ∃ sv s', K sv s' ∧ s'.nt = s.nt ∧ s'.fr = s.fr ∧ ρ'.n = s'.nx ∧ sv.Rep ρ' r ∧ HeapSat w0 M ρ' s'.hp w' := by
  unfold xappObj at h
  split at h
  · rename_i ti hti
    have ty := hX.ty hti
    split at h
    · rename_i e hd
      split at h
      · rename_i te hte
        have tye := hX.ty hte
        have hut := desc_slc (ty.desc.trans hd)
        cases hb1 : Nat.ble 1 te.bytes
        · simp [hb1] at h
        simp only [hb1, cond_true] at h
        have hby := Nat.le_of_ble_eq_true hb1
        split at h
        · rename_i tY rY eY m cY
          obtain ⟨_, hmc, hcm, hval⟩ := hv
          cases hm : Nat.beq m 0 with
          | true =>
            simp only [hm, cond_true] at h
            have hm0 := Nat.eq_of_beq_eq_true hm
            subst hm0
            have hlen : (Builtin.lenOf v).run X.P w = .ok 0 w := by
              rcases hval with ⟨_, _, rfl⟩ | ⟨o, rfl, _⟩ <;> rfl
            have hnew : (Builtin.firstCells te.sz 0 v).run X.P w = .ok #[] w := by
              rcases hval with ⟨_, _, rfl⟩ | ⟨o, rfl, _⟩ <;> simp [Builtin.firstCells, loadCells, loadCellsFrom]
            split at h
            · rename_i tX rX eX lX cX
              obtain ⟨g1, g2, g3, g4⟩ := hu
              have hrep : (A.slc tX rX eX lX cX).Rep ρ u := ⟨g1, g2, g3, g4⟩
              rcases g4 with ⟨rfl, rfl, rfl⟩ | ⟨o, rfl, ho⟩
              · exact ⟨_, w, ρ, run_append_room' tye hut hxt hxd hlen hnew (Nat.le_refl _) rfl, Env.le.refl _, _, _, h, rfl, rfl, hρ, hrep, hh⟩
              · exact ⟨_, w, ρ, run_append_room' tye hut hxt hxd hlen hnew (by omega) rfl, Env.le.refl _, _, _, h, rfl, rfl, hρ, hrep, hh⟩
            · have hu' : u = .slice none 0 0 := hu
              subst hu'
              exact ⟨_, w, ρ, run_append_room' tye hut hxt hxd hlen hnew (Nat.le_refl _) rfl, Env.le.refl _, _, _, h, rfl, rfl, hρ, rfl, hh⟩
            · exact h.elim
          | false =>
            simp only [hm, cond_false] at h
            have hm0 : m ≠ 0 := fun e => by subst e; cases hm
            split at h
            · rename_i wr ety out hfind
              have hu' : u = .slice none 0 0 := hu
              subst hu'
              cases hb : (Nat.beq ety e && (Nat.beq eY te.sz && (Nat.beq rY 0 && Nat.ble (m * te.sz) out.length)))
              · simp [hb] at h
              simp only [hb, cond_true] at h
              simp only [Bool.and_eq_true] at hb
              obtain ⟨e1, e2, e3, e4⟩ := hb
              have := Nat.eq_of_beq_eq_true e1; subst this
              have := Nat.eq_of_beq_eq_true e2; subst this
              have := Nat.eq_of_beq_eq_true e3; subst this
              have hfit := Nat.le_of_ble_eq_true e4
              obtain ⟨hmb, hK⟩ := h
              have he := (hh.ent _ (Heap.find_mem hfind)).ch
              simp only at he
              obtain ⟨vs, fr, hbk, hoff, ⟨us, xs, hus, hrep⟩, _, _⟩ := he
              rcases hval with ⟨h1, _, _⟩ | ⟨o, rfl, ho⟩
              · exact absurd h1 hm0
              obtain ⟨rfl, _⟩ := ho (by omega)
              have hul := hrep.length
              have hml : m ≤ lenMax := by
                have : m * 1 ≤ m * te.bytes := Nat.mul_le_mul_left m hby
                unfold lenMax; omega
              have hcl : (us.take (m * te.sz)).length = m * te.sz := by simp; omega
              have hnew : (Builtin.firstCells te.sz m (.slice (some ⟨(ρ.pl tY).blk, (ρ.pl tY).off + 0 * te.sz, none⟩) m cY)).run X.P w.drew = .ok (us.take (m * te.sz)).toArray w.drew := by
                have := run_loadCells_list (P := X.P) w.drew ⟨(ρ.pl tY).blk, (ρ.pl tY).off + 0 * te.sz, none⟩ (us.take (m * te.sz)) (fun j v hj => by
                  rw [Addr.add_plain, cell_of (show w.drew.heap[(ρ.pl tY).blk]? = _ from hbk), hoff]
                  have hjl := (List.getElem?_eq_some_iff.1 hj).1
                  rw [List.getElem?_take, if_pos (by rw [hcl] at hjl; exact hjl)] at hj
                  have hju := (List.getElem?_eq_some_iff.1 hj).1
                  rw [show 0 + 0 * te.sz + j = j by omega, ← Array.getElem?_toList, hus, List.getElem?_append_left hju]
                  exact hj)
                rw [hcl] at this
                simpa [Builtin.firstCells] using this
              obtain ⟨z, cap, hc1, hc2, hz, hrun⟩ := run_append_grow' (ty := rt) tye hut hxt hxd (base := none) (sLen := 0) (sCap := 0) (old := #[]) (w := w) rfl hnew (by simp [Builtin.firstCells]) (by omega) (by omega) (by simpa using hmb) hby
              simp only [Nat.zero_add] at hrun hc1
              obtain ⟨ρ', p1, p2, p3, p4⟩ := hh.drew.newObjP ety cap (cs := out.take (m * te.sz)) (vs := #[] ++ (us.take (m * te.sz)).toArray ++ Builtin.zeroCells z.cells (cap - m)) (us := us.take (m * te.sz)) (xs := (Builtin.zeroCells z.cells (cap - m)).toList) (by simp) (hrep.take _)
              refine ⟨_, _, ρ', hrun, p1, _, _, hK cap hc1 hc2, rfl, rfl, ?_, ?_, ?_⟩
              · rw [p2, hρ]; rfl
              · refine ⟨by rw [p2, hρ]; omega, hc1, hc2, .inr ⟨_, rfl, fun _ => ?_⟩⟩
                · rw [← hρ, p3]; exact ⟨by simp only [Nat.zero_mul, Nat.add_zero] <;> rfl, by simp⟩
              · rw [hρ] at p4; exact p4
            · exact h.elim
        · exact h.elim
      · exact h.elim
    · exact h.elim
  · exact h.elim
end
end Go.Sx
