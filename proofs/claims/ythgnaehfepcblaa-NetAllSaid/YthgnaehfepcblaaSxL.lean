/-
  One function for all operations that call no function of the program; that it is right.
-/
import Derived.Test.YthgnaehfepcblaaSxK
namespace Go.Sx
section
variable {P : Program}

def xfield (X : Cx) (t : Nat) (x : SV) (f : Nat) (s : S) (K : KV) : Prop :=
  match X.ti t, x with
  | some ti, .a (.ptr tg r e c) =>
    match ti.d with
    | .struct fs => match fs[f]? with
      | some (off, sz) => bif Nat.ble 1 sz then K (.a (.ptr tg r e (c + off))) s else False
      | none => False
    | _ => False
  | _, _ => False

theorem field_ok {X : Cx} (hX : X.Ok) {t : Nat} {x : SV} {f : Nat} {s : S} {K : KV} (h : xfield X t x f s K) {ρ : Env} {u : Value} (hu : x.Rep ρ u) :
    ∃ sv r, K sv s ∧ sv.Rep ρ r ∧ ∀ w : World, (Instr.fieldAt t u f).run X.P w = .ok r w := by
  unfold xfield at h
  split at h
  · rename_i ti tg r e c hti
    split at h
    · rename_i fs hd
      split at h
      · rename_i off sz hf
        cases hb : Nat.ble 1 sz
        · simp [hb] at h
        simp only [hb, cond_true] at h
        have hsz := Nat.le_of_ble_eq_true hb
        have ty := hX.ty hti
        obtain ⟨gs, he, rfl⟩ := desc_struct (ty.desc.trans hd)
        have hk := ty.known
        simp only [fieldsKnown, he, List.all_eq_true] at hk
        obtain ⟨htg, rfl⟩ := hu
        simp only [List.getElem?_map, Option.map_eq_some_iff] at hf
        obtain ⟨g, hg, e1⟩ := hf
        cases e1
        have hg' : gs[f]? = some g := by simpa using hg
        obtain ⟨j, hj⟩ := Option.isSome_iff_exists.1 (hk g (List.mem_of_getElem? hg))
        refine ⟨_, .pointer (some ⟨(ρ.pl tg).blk, (ρ.pl tg).off + r * e + c + g.offset, none⟩), h, ⟨htg, by rw [Nat.add_assoc _ c]⟩, fun w => ?_⟩
        have hne : j.size ≠ 0 := by simp [Program.cellsOf, hj] at hsz; omega
        simp [Instr.fieldAt, run_underlying he, hg', Instr.sureAddr, fieldPlace, sizeOf, typeInfo, hj, hne, Addr.add_plain]
      · exact h.elim
    · exact h.elim
  · exact h.elim

def xidx (X : Cx) (t : Nat) (x i : SV) (s : S) (K : KV) : Prop :=
  match X.ti t, x, i with
  | some ti, .a (.slc tg r e len _), .a i =>
    match ti.d, i.i? with
    | .slc el, some (_, n) => match X.ti el with
      | some te => bif Nat.beq e te.sz then need X.force (0 ≤ n ∧ n < (len : Int)) (K (.a (.ptr tg (r + n.toNat) e 0)) s) else False
      | none => False
    | _, _ => False
  | _, _, _ => False

theorem idx_ok {X : Cx} (hX : X.Ok) {t : Nat} {x i : SV} {s : S} {K : KV} (h : xidx X t x i s K) {ρ : Env} {u v : Value} (hu : x.Rep ρ u) (hv : i.Rep ρ v) :
    ∃ sv r, K sv s ∧ sv.Rep ρ r ∧ ∀ w : World, (Instr.indexAt t u v).run X.P w = .ok r w := by
  unfold xidx at h
  split at h
  · rename_i ti tg r e len cap i hti
    split at h
    · rename_i el k n hd hi
      split at h
      · rename_i te hte
        cases hb : Nat.beq e te.sz
        · simp [hb] at h
        simp only [hb, cond_true] at h
        have := Nat.eq_of_beq_eq_true hb
        subst this
        obtain ⟨⟨h0, h1⟩, h⟩ := need_ok h
        have he := desc_slc ((hX.ty hti).desc.trans hd)
        obtain ⟨rfl, _⟩ := A.i?_rep hi hv
        obtain ⟨htg, hlc, hcm, hc⟩ := hu
        rcases hc with ⟨hl, _, _⟩ | ⟨o, rfl, ho⟩
        · omega
        obtain ⟨rfl, _⟩ := ho (by omega)
        refine ⟨_, .pointer (some ⟨(ρ.pl tg).blk, (ρ.pl tg).off + r * te.sz + n.toNat * te.sz, none⟩), h, ⟨htg, by rw [Nat.add_mul]; simp only [Nat.add_zero, Nat.add_assoc]⟩, fun w => ?_⟩
        have hlt : n < (len : Int) := h1
        simp [Instr.indexAt, asIntOf, run_underlying he, h0, hlt, run_sizeOf' (hX.ty hte), Addr.add_plain]
      · exact h.elim
    · exact h.elim
  · exact h.elim

/-- a letter of a string -/
def xsidx (X : Cx) (t : Nat) (x i : SV) (s : S) (K : KV) : Prop :=
  match X.ti t, x, i with
  | some ti, .a (.str b), .a i =>
    match ti.d, i.i? with
    | .str, some (_, n) => need X.force (0 ≤ n ∧ n < (b.size : Int)) (K (.a (.int .u8 ((b.data.getD n.toNat 0).toNat : Int))) s)
    | _, _ => False
  | _, _, _ => False

theorem sidx_ok {X : Cx} (hX : X.Ok) {t : Nat} {x i : SV} {s : S} {K : KV} (h : xsidx X t x i s K) {ρ : Env} {u v : Value} (hu : x.Rep ρ u) (hv : i.Rep ρ v) :
    ∃ sv r, K sv s ∧ sv.Rep ρ r ∧ ∀ w : World, (Instr.index t u v).run X.P w = .ok r w := by
  unfold xsidx at h
  split at h
  · rename_i ti b i hti
    split at h
    · rename_i k n hd hi
      obtain ⟨⟨h0, h1⟩, h⟩ := need_ok h
      have he := desc_str ((hX.ty hti).desc.trans hd)
      obtain ⟨rfl, _⟩ := A.i?_rep hi hv
      obtain ⟨rfl, _⟩ := hu
      have hlt : n.toNat < b.size := by omega
      have hlt' : n.toNat < b.data.size := hlt
      refine ⟨_, _, h, ⟨rfl, ?_⟩, fun w => ?_⟩
      · have := (b.data.getD n.toNat 0).toNat_lt
        exact ⟨by omega, by omega⟩
      · have hg : b[n.toNat]? = some (b.data.getD n.toNat 0) := by
          rw [getElem?_pos b n.toNat hlt]
          simp only [Array.getD_eq_getD_getElem?, Array.getElem?_eq_getElem hlt', Option.getD_some]
          rfl
        simp [Instr.index, asIntOf, run_underlying he, h0, hg]
    · exact h.elim
  · exact h.elim

def xclear (X : Cx) (t : Nat) (x : SV) (s : S) (K : KV) : Prop :=
  match X.ti t, x with
  | some ti, .a (.slc tg r e len _) =>
    match ti.d with
    | .slc el => match X.ti el, s.hp.find tg with
      | some te, some (true, .arr ty ks n rows) => bif Nat.beq e te.sz && (cksEq ks te.ks && fitKs te.ks te.zero) then
          K (.a .any) (s.put (s.hp.upd tg (.arr ty ks n fun i j => if r ≤ i ∧ i < r + len then (te.zero.map A.toV).getD j undef else rows i j))) else False
      | some te, some (true, .obj _ cs) => bif Nat.beq e te.sz && Nat.ble ((r + len) * te.sz) cs.length then K (.a .any) (s.put (s.hp.del tg)) else False
      | _, _ => False
    | _ => False
  | _, _ => False

theorem HeapSat.forget {w0 : World} {M : Nat → Prop} {ρ : Env} {w w' : World} {hp : Heap} {t : Nat} {ch : Chunk} (r : HeapSat w0 M ρ hp w) (h : hp.find t = some (true, ch))
    (hk : Keeps (ρ.pl t).fp w w') : HeapSat w0 M ρ (hp.del t) w' := by
  have he := r.ent _ (Heap.find_mem h)
  exact (r.sub Heap.del_sub).world hk (fun b hb hf => he.own rfl b hf hb) (fun e hm b hb => by
    have := r.del_ne h e hm
    refine hk.block b ((r.ent e (Heap.del_sub.subset hm)).lt b hb) fun hf => this.2 rfl b hf hb)

theorem clear_ok {X : Cx} (hX : X.Ok) {t rt : Nat} {x : SV} {s : S} {K : KV} (h : xclear X t x s K) {w0 : World} {M : Nat → Prop} {ρ : Env} {w : World} (hh : HeapSat w0 M ρ s.hp w) {u : Value} (hu : x.Rep ρ u) :
    ∃ w' hp', (Builtin.clear_ #[t] rt #[u]).run X.P w = .ok (.tuple #[]) w' ∧ HeapSat w0 M ρ hp' w' ∧ K (.a .any) (s.put hp') := by
  unfold xclear at h
  split at h
  · rename_i ti tg r e len cap hti
    split at h
    · rename_i el hd
      split at h
      · rename_i te ty ks n rows hte hfind
        cases hb : (Nat.beq e te.sz && (cksEq ks te.ks && fitKs te.ks te.zero))
        · simp [hb] at h
        simp only [hb, cond_true] at h
        simp only [Bool.and_eq_true] at hb
        obtain ⟨hb1, hb2, hfit⟩ := hb
        have := Nat.eq_of_beq_eq_true hb1; subst this
        have := cksEq_eq hb2; subst this
        have tye := hX.ty hte
        have he := desc_slc ((hX.ty hti).desc.trans hd)
        have hks := ks_length tye
        have hent := hh.ent _ (Heap.find_mem hfind)
        have hc := hent.ch
        simp only at hc
        obtain ⟨htg, hlc, hcm, hv⟩ := hu
        by_cases h0 : len = 0
        · subst h0
          refine ⟨w, _, ?_, hh.upd hfind (Keeps.refl _ _) ?_, h⟩
          · rcases hv with ⟨_, rfl, rfl⟩ | ⟨o, rfl, _⟩ <;> simp [Builtin.clear_, run_underlying he]
          · have : (fun i j => if r ≤ i ∧ i < r + 0 then (te.zero.map A.toV).getD j undef else rows i j) = rows := by
              funext i j; rw [if_neg (by omega)]
            rw [this]; exact hc
        · rcases hv with ⟨h1, _, _⟩ | ⟨o, rfl, ho⟩
          · exact absurd h1 h0
          obtain ⟨rfl, hN⟩ := ho (by omega)
          rcases hc with ⟨_, hN0, _⟩ | ⟨vs, ty, fr, hbk, hfitN, hnN, hun, hfp, hrows⟩
          · omega
          obtain ⟨z, hz, hzl, hzero, hok, _⟩ := run_zeroValue' tye
          obtain ⟨hzc, hzk⟩ := fitKs_zero (ρ := ρ) hfit hzero hok
          have hzs : z.cells.size = te.ks.length := by rw [hks]; simpa using hzl
          have hcl : (Builtin.zeroCells z.cells len).toList = rep len z.cells.toList := by
            have := zero_cells z.cells len te.ks.length hzs
            rw [← this, Builtin.zeroCells, hzs]
          have hlen : (rep len z.cells.toList).length = len * te.ks.length := by rw [rep_length]; simp [hzs]
          have hcap : (ρ.pl tg).off + (r + len) * te.ks.length ≤ vs.size := by
            have := Nat.mul_le_mul_right te.ks.length (show r + len ≤ (ρ.pl tg).N by omega); omega
          rw [Nat.add_mul] at hcap
          have hone : ∀ v ∈ rep len z.cells.toList, v.oneCell' = true := by
            have h1 : ∀ v ∈ z.cells.toList, v.oneCell' = true := by
              intro v hv
              obtain ⟨q, hq, e⟩ := List.getElem_of_mem hv
              have hql : q < te.ks.length := by rw [hks, ← hzl]; exact hq
              exact (hzk q v _ (by rw [List.getElem?_eq_getElem hq, e]) (List.getElem?_eq_getElem hql)).one
            intro v hv
            have : ∀ m, v ∈ rep m z.cells.toList → v ∈ z.cells.toList := by
              intro m
              induction m with
              | zero => intro h; cases h
              | succ m ih => intro h; exact (List.mem_append.1 h).elim id ih
            exact h1 v (this len hv)
          have hs := run_storeCellsU (P := X.P) (ρ.pl tg).blk ((ρ.pl tg).off + r * te.sz) ty fr (rep len z.cells.toList) 0 vs w hbk (fun x h1 h2 => hun x (by omega) (by have := Nat.mul_le_mul_right te.ks.length (show r + len ≤ (ρ.pl tg).N by omega); rw [Nat.add_mul] at this; rw [hlen, ← hks] at h2; omega)) (by rw [hlen, ← hks]; omega) hone
          refine ⟨w.setRow (ρ.pl tg).blk (vs.toList.take ((ρ.pl tg).off + r * te.sz + 0) ++ rep len z.cells.toList ++ vs.toList.drop ((ρ.pl tg).off + r * te.sz + 0 + (rep len z.cells.toList).length)).toArray, _, ?_, hh.upd hfind ((Keeps.setRow w _ _).mono fun b _ hb => (hfp b).2 hb) ?_, h⟩
          · have hl0 : len ≠ 0 := h0
            cases len with
            | zero => exact absurd rfl h0
            | succ m => simp [Builtin.clear_, run_underlying he, hz, hcl, hs]
          · have hsz2 : ∀ (L : List Value), L = vs.toList.take ((ρ.pl tg).off + r * te.sz + 0) ++ rep len z.cells.toList ++ vs.toList.drop ((ρ.pl tg).off + r * te.sz + 0 + (rep len z.cells.toList).length) → L.toArray.size = vs.size := by
              rintro L rfl
              rw [← hks]
              simp [hlen]; omega
            refine .inr ⟨_, ty, fr, setRow_heap w _ _ _ ty fr hbk, by rw [hsz2 _ rfl]; exact hfitN, hnN, hun, hfp, fun i hi j k hk => ?_⟩
            have hjl : j < te.ks.length := (List.getElem?_eq_some_iff.1 hk).1
            obtain ⟨g1, g2⟩ := hrows i hi j k hk
            rw [List.getElem?_toArray, getElem?_splice _ _ _ (by rw [hlen, ← hks]; simp; omega)]
            simp only [Nat.add_zero]
            rw [hlen, ← hks]
            by_cases hin : r ≤ i ∧ i < r + len
            · have hle2 := Nat.mul_le_mul_right te.ks.length hin.1
              have hsub2 : (i - r) * te.ks.length = i * te.ks.length - r * te.ks.length := Nat.sub_mul _ _ _
              have hlt2 : (i - r) * te.ks.length + j < len * te.ks.length := by
                have := Nat.mul_le_mul_right te.ks.length (show i - r + 1 ≤ len by omega)
                rw [Nat.succ_mul] at this; omega
              rw [if_pos (by omega), if_pos hin]
              have hidx : (ρ.pl tg).off + i * te.ks.length + j - ((ρ.pl tg).off + r * te.ks.length) = (i - r) * te.ks.length + j := by omega
              rw [hidx, rep_get _ _ _ (by simpa [hzs] using hlt2)]
              have hmod : ((i - r) * te.ks.length + j) % z.cells.toList.length = j := by
                rw [show z.cells.toList.length = te.ks.length by simpa using hzs, Nat.mul_comm, Nat.mul_add_mod, Nat.mod_eq_of_lt hjl]
              rw [hmod]
              have hjz : j < z.cells.toList.length := by rw [hzl, ← hks]; exact hjl
              have e2 : z.cells.toList[j]? = some ((te.zero.map A.toV).getD j undef) := by
                rw [← hzc]; simp only [List.getD, List.getElem?_eq_getElem hjz, Option.getD_some]
              exact ⟨e2, hzk j _ k e2 hk⟩
            · rw [if_neg hin, if_neg]
              · exact ⟨by simpa using g1, g2⟩
              · rintro ⟨q1, q2⟩
                apply hin
                constructor
                · rcases Nat.lt_or_ge i r with h | h
                  · have := Nat.mul_le_mul_right te.ks.length h
                    rw [Nat.succ_mul] at this; omega
                  · exact h
                · rcases Nat.lt_or_ge i (r + len) with h | h
                  · exact h
                  · have := Nat.mul_le_mul_right te.ks.length h
                    rw [Nat.add_mul] at this; omega
      · rename_i te ty cs hte hfind
        cases hb : (Nat.beq e te.sz && Nat.ble ((r + len) * te.sz) cs.length)
        · simp [hb] at h
        simp only [hb, cond_true] at h
        simp only [Bool.and_eq_true] at hb
        have := Nat.eq_of_beq_eq_true hb.1; subst this
        have hfit := Nat.le_of_ble_eq_true hb.2
        have tye := hX.ty hte
        have he := desc_slc ((hX.ty hti).desc.trans hd)
        have hc := (hh.ent _ (Heap.find_mem hfind)).ch
        simp only at hc
        obtain ⟨vs, fr, hbk, hoff, ⟨us, xs, hus, hrep⟩, hun, hfp⟩ := hc
        obtain ⟨htg, hlc, hcm, hv⟩ := hu
        by_cases h0 : len = 0
        · subst h0
          refine ⟨w, _, ?_, hh.forget hfind (Keeps.refl _ _), h⟩
          rcases hv with ⟨_, rfl, rfl⟩ | ⟨o, rfl, _⟩ <;> simp [Builtin.clear_, run_underlying he]
        · rcases hv with ⟨h1, _, _⟩ | ⟨o, rfl, ho⟩
          · exact absurd h1 h0
          obtain ⟨rfl, hN⟩ := ho (by omega)
          obtain ⟨z, hz, hzl, hzero, hok, _⟩ := run_zeroValue' tye
          have hcl : (Builtin.zeroCells z.cells len).toList = rep len z.cells.toList := by
            have hzs : z.cells.size = te.sz := by simpa using hzl
            have := zero_cells z.cells len te.sz hzs
            rw [← this, Builtin.zeroCells, hzs]
          have hlen : (rep len z.cells.toList).length = len * te.sz := by rw [rep_length, hzl]
          have hul := hrep.length
          have hvl : vs.size = us.length + xs.length := by rw [← Array.length_toList, hus, List.length_append]
          rw [Nat.add_mul] at hfit
          have hone : ∀ v ∈ rep len z.cells.toList, v.oneCell' = true := by
            have h1 : ∀ v ∈ z.cells.toList, v.oneCell' = true := by
              have : ∀ (l : List Value), allOk l = true → ∀ v ∈ l, v.oneCell' = true := by
                intro l
                induction l with
                | nil => intro _ v hv; cases hv
                | cons a l ih =>
                  intro h v hv
                  simp only [allOk, Bool.and_eq_true] at h
                  rcases List.mem_cons.1 hv with rfl | hv
                  · exact vOk_one h.1
                  · exact ih h.2 v hv
              exact this _ hok
            intro v hv
            have : ∀ m, v ∈ rep m z.cells.toList → v ∈ z.cells.toList := by
              intro m
              induction m with
              | zero => intro h; cases h
              | succ m ih => intro h; exact (List.mem_append.1 h).elim id ih
            exact h1 v (this len hv)
          have hs := run_storeCellsU (P := X.P) (ρ.pl tg).blk ((ρ.pl tg).off + r * te.sz) ty fr (rep len z.cells.toList) 0 vs w hbk (fun x _ h2 => hun x (by rw [hlen] at h2; omega)) (by rw [hlen]; omega) hone
          refine ⟨w.setRow (ρ.pl tg).blk (vs.toList.take ((ρ.pl tg).off + r * te.sz + 0) ++ rep len z.cells.toList ++ vs.toList.drop ((ρ.pl tg).off + r * te.sz + 0 + (rep len z.cells.toList).length)).toArray, _, ?_, hh.forget hfind ((Keeps.setRow w (ρ.pl tg).blk _).mono fun b _ hb => (hfp b).2 hb), h⟩
          cases len with
          | zero => exact absurd rfl h0
          | succ m => simp [Builtin.clear_, run_underlying he, hz, hcl, hs]
      · exact h.elim
    · exact h.elim
  · exact h.elim

end
end Go.Sx
