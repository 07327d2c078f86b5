/-
  The other operations; one function for all.
-/
import Derived.Test.YthgnaehfepcblaaSxI
namespace Go.Sx
section
variable {P : Program}

theorem i64_of_keq {k : IntKind} (h : keq k .i64 = true) : k = .i64 := keq_eq h

/-! ### make -/

def xmake (X : Cx) (t : Nat) (x y : SV) (s : S) (K : KV) : Prop :=
  match X.ti t, x, y with
  | some ti, .a x, .a y =>
    match ti.d, x.i?, y.i? with
    | .slc e, some (k1, l), some (k2, c) =>
      match X.ti e with
      | some te => bif keq k1 .i64 && (keq k2 .i64 && fitKs te.ks te.zero) then
          0 ≤ l ∧ l ≤ c ∧ (te.bytes : Int) * c ≤ 281474976710656 ∧ K (.a (.slc s.nx 0 te.sz l.toNat c.toNat)) (s.new (.arr e te.ks c.toNat fun _ j => (te.zero.map A.toV).getD j undef)) else False
      | none => False
    | _, _, _ => False
  | _, _, _ => False

theorem fitKs_zero {ρ : Env} {te : TI} (h : fitKs te.ks te.zero = true) {z : Value} (hz : te.zero = z.cells.toList.map aOfV) (hok : allOk z.cells.toList = true) :
    z.cells.toList = te.zero.map A.toV ∧ ∀ (j : Nat) (v : Value) (k : CK), z.cells.toList[j]? = some v → te.ks[j]? = some k → k.ok v :=
  fitKs_ok (ρ := ρ) h (by rw [hz]; exact RepL_map_aOfV ρ hok)

theorem make_ok {X : Cx} (hX : X.Ok) {t : Nat} {x y : SV} {s : S} {K : KV} (h : xmake X t x y s K) {w0 : World} {M : Nat → Prop} {ρ : Env} (hρ : ρ.n = s.nx) {w : World} (hh : HeapSat w0 M ρ s.hp w) {u v : Value} (hu : x.Rep ρ u) (hv : y.Rep ρ v) :
    ∃ r w' ρ', (Instr.makeSlice t u v).run X.P w = .ok r w' ∧ ρ.le ρ' ∧ ∃ sv s', K sv s' ∧ s'.nt = s.nt ∧ s'.fr = s.fr ∧ ρ'.n = s'.nx ∧ sv.Rep ρ' r ∧ HeapSat w0 M ρ' s'.hp w' := by
  unfold xmake at h
  split at h
  · rename_i ti x y hti
    have ty := hX.ty hti
    split at h
    · rename_i e k1 l k2 c hd hx hy
      split at h
      · rename_i te hte
        have tye := hX.ty hte
        cases hb : (keq k1 .i64 && (keq k2 .i64 && fitKs te.ks te.zero))
        · simp [hb] at h
        simp only [hb, cond_true] at h
        simp only [Bool.and_eq_true] at hb
        obtain ⟨hk1, hk2, hfit⟩ := hb
        have := keq_eq hk1; subst this
        have := keq_eq hk2; subst this
        obtain ⟨h0, h1, h2, hK⟩ := h
        obtain ⟨rfl, hlr⟩ := A.i?_rep hx hu
        obtain ⟨rfl, hcr⟩ := A.i?_rep hy hv
        have hut := desc_slc (ty.desc.trans hd)
        obtain ⟨j, hj, hj1, hj2, _⟩ := tye.info
        obtain ⟨z, hz, hzl, hzero, hok, _⟩ := run_zeroValue' tye
        obtain ⟨hzc, hzk⟩ := fitKs_zero (ρ := ρ) hfit hzero hok
        have hks := ks_length tye
        have hti : (typeInfo e).run X.P w = .ok j w := by simp [typeInfo, hj]
        have hwl : IntKind.i64.wrap l = l := wrap_of_InR hlr
        have hwc : IntKind.i64.wrap c = c := wrap_of_InR hcr
        have hcells : ∃ c0 : Array Value, (c.toNat * te.sz = 0 → c0 = #[]) ∧ (¬ c.toNat * te.sz = 0 → c0 = z.cells) ∧ ((Array.range (c.toNat * te.sz)).map (c0[· % c0.size]!)).toList = rep c.toNat z.cells.toList := by
          by_cases h0 : c.toNat * te.sz = 0
          · refine ⟨#[], fun _ => rfl, fun h => absurd h0 h, ?_⟩
            have : (rep c.toNat z.cells.toList).length = 0 := by rw [rep_length, hzl, h0]
            rw [List.eq_nil_of_length_eq_zero this, h0]; simp
          · exact ⟨z.cells, fun h => absurd h h0, fun _ => rfl, zero_cells _ _ _ (by simpa using hzl)⟩
        obtain ⟨c0, hc0, hc0', hc1⟩ := hcells
        obtain ⟨ρ', p1, p2, p3, p4⟩ := hh.newArr e (ks := te.ks) (n := c.toNat) (N := c.toNat) (rows := fun _ j => (te.zero.map A.toV).getD j undef) (vs := (Array.range (c.toNat * te.sz)).map (c0[· % c0.size]!)) (0, 0) (fun o _ ho => by omega) (Nat.le_refl _) (by rw [hks]; simp) (Nat.le_refl _)
          (fun i hi j k hk => by
            have hjl : j < te.ks.length := (List.getElem?_eq_some_iff.1 hk).1
            have hlt : i * te.ks.length + j < c.toNat * z.cells.toList.length := by
              have := Nat.mul_le_mul_right te.ks.length hi
              rw [Nat.succ_mul] at this
              rw [hzl]; rw [hks] at this hjl ⊢; omega
            have e1 : (rep c.toNat z.cells.toList)[i * te.ks.length + j]? = z.cells.toList[j]? := by
              rw [rep_get _ _ _ hlt, hzl, ← hks, Nat.mul_comm, Nat.mul_add_mod, Nat.mod_eq_of_lt hjl]
            have hjz : j < z.cells.toList.length := by rw [hzl, ← hks]; exact hjl
            have e2 : z.cells.toList[j]? = some ((te.zero.map A.toV).getD j undef) := by
              rw [← hzc]; simp only [List.getD, List.getElem?_eq_getElem hjz, Option.getD_some]
            have e3 : ((Array.range (c.toNat * te.sz)).map (c0[· % c0.size]!))[i * te.ks.length + j]? = some ((te.zero.map A.toV).getD j undef) := by
              rw [← Array.getElem?_toList, hc1, e1, e2]
            exact ⟨e3, hzk j _ k e2 hk⟩)
        refine ⟨.slice (some ⟨w.heap.size, 0, none⟩) l.toNat c.toNat, w.alloc (.cells ((Array.range (c.toNat * te.sz)).map (c0[· % c0.size]!)) e (0, 0)), ρ', ?_, p1, _, _, hK, rfl, rfl, ?_, ?_, ?_⟩
        · have hcond : ¬ ((decide (c < 0) || decide ((j.bytes : Int) * c > 2 ^ 48) || decide (l < 0) || decide (l > c)) = true) := by
            rw [hj2]; simp; omega
          unfold Instr.makeSlice
          simp only [Sem.run_bind, run_underlying hut, Result.andThen_ok, asInt, asIntOf, Sem.run_pure, hti, hwl, hwc]
          rw [if_neg (by simpa using hcond)]
          simp only [Sem.run_bind, run_askRoom, Result.andThen_ok, run_sizeOf' tye]
          by_cases h0 : c.toNat * te.sz = 0
          · rw [if_pos h0]
            have e0 := hc0 h0
            simp only [Sem.run_bind, Sem.run_pure, Result.andThen_ok, ← e0]
            rfl
          · rw [if_neg h0]
            have e0 := hc0' h0
            simp only [Sem.run_bind, Sem.run_pure, Result.andThen_ok, hz, ← e0]
            rfl
        · rw [p2, hρ]; rfl
        · refine ⟨by rw [p2, hρ]; omega, by omega, ?_, .inr ⟨_, rfl, fun _ => ?_⟩⟩
          · have := hcr.2; unfold lenMax; omega
          · rw [← hρ, p3]; exact ⟨by simp only [Nat.zero_mul, Nat.add_zero] <;> rfl, by simp⟩
        · rw [hρ] at p4; exact p4
      · exact h.elim
    · exact h.elim
  · exact h.elim

/-! ### slice expressions -/

/-- a bound of a slice expression -/
def xbound (s : S) (o : Option Operand) (d top : Nat) (K : Nat → Prop) : Prop :=
  match o with
  | none => K d
  | some x =>
    match s.ev x with
    | .a y => match y.i? with
      | some (_, n) => (0 ≤ n ∧ n ≤ (top : Int)) ∧ K n.toNat
      | none => False
    | _ => False

theorem bound_ok {s : S} {o : Option Operand} {d top : Nat} {K : Nat → Prop} (h : xbound s o d top K) {ρ : Env} {a : Act} (hf : FrameSat ρ s.fr a.tmps) :
    ∃ n, K n ∧ (o = none → n = d) ∧ (∀ x, o = some x → n ≤ top ∧ ∀ code (w : World), (Instr.sliceBound (a.eval x) top code).run P w = .ok n w) := by
  unfold xbound at h
  split at h
  · exact ⟨d, h, fun _ => rfl, fun x hx => (by cases hx)⟩
  · rename_i x
    split at h
    · rename_i y hy
      split at h
      · rename_i k n hn
        have hr := hf.ev x
        rw [hy] at hr
        obtain ⟨e, hin⟩ := A.i?_rep hn hr
        refine ⟨n.toNat, h.2, fun h => (by cases h), fun x' hx' => ?_⟩
        cases hx'
        refine ⟨by have := h.1; omega, fun code w => ?_⟩
        rw [e]
        exact run_sliceBound w k n top code h.1.1 h.1.2
      · exact h.elim
    · exact h.elim

def xslice (X : Cx) (t : Nat) (x : SV) (lo hi mx : Option Operand) (s : S) (K : KV) : Prop :=
  match X.ti t, x with
  | some ti, .a (.str b) =>
    match ti.d, mx with
    | .str, none => xbound s hi b.size b.size fun h => xbound s lo 0 h fun l => K (.a (.str (b.extract l h))) s
    | _, _ => False
  | some ti, .a (.slc tg r e len cap) =>
    match ti.d with
    | .slc el =>
      match X.ti el with
      | some te => bif Nat.beq e te.sz && (mx.isNone || hi.isSome) then
          xbound s mx cap cap fun m => xbound s hi len m fun h => xbound s lo 0 h fun l => K (.a (.slc tg (r + l) e (h - l) (m - l))) s else False
      | none => False
    | _ => False
  | some ti, .a .snil =>
    match ti.d with
    | .slc el =>
      match X.ti el with
      | some _ => bif mx.isNone || hi.isSome then xbound s mx 0 0 fun m => xbound s hi 0 m fun h => xbound s lo 0 h fun _ => K (.a .snil) s else False
      | none => False
    | _ => False
  | _, _ => False

theorem run_bounds {isSlice : Bool} {len cap : Nat} {lo hi mx : Option Operand} {a : Act} {w : World} {m h l : Nat} (hmx : mx = none ∨ hi ≠ none)
    (hm : (mx = none → m = cap) ∧ ∀ x, mx = some x → m ≤ cap ∧ ∀ code (w : World), (Instr.sliceBound (a.eval x) cap code).run P w = .ok m w)
    (hh : (hi = none → h = len) ∧ ∀ x, hi = some x → h ≤ m ∧ ∀ code (w : World), (Instr.sliceBound (a.eval x) m code).run P w = .ok h w)
    (hl : (lo = none → l = 0) ∧ ∀ x, lo = some x → l ≤ h ∧ ∀ code (w : World), (Instr.sliceBound (a.eval x) h code).run P w = .ok l w) :
    (Instr.sliceBounds isSlice len cap (lo.map a.eval) (hi.map a.eval) (mx.map a.eval)).run P w = .ok (l, h, m) w := by
  unfold Instr.sliceBounds
  cases mx with
  | none =>
    have := hm.1 rfl; subst this
    cases hi with
    | none =>
      have := hh.1 rfl; subst this
      cases lo with
      | none => have := hl.1 rfl; subst this; simp
      | some x => simp [(hl.2 x rfl).2]
    | some y =>
      cases lo with
      | none => have := hl.1 rfl; subst this; simp [(hh.2 y rfl).2]
      | some x => simp [(hl.2 x rfl).2, (hh.2 y rfl).2]
  | some z =>
    cases hi with
    | none => rcases hmx with h | h <;> first | (cases h; done) | exact absurd rfl h
    | some y =>
      cases lo with
      | none => have := hl.1 rfl; subst this; simp [(hh.2 y rfl).2, (hm.2 z rfl).2]
      | some x => simp [(hl.2 x rfl).2, (hh.2 y rfl).2, (hm.2 z rfl).2]

theorem slice_ok {X : Cx} (hX : X.Ok) {t : Nat} {x : SV} {lo hi mx : Option Operand} {s : S} {K : KV} (h : xslice X t x lo hi mx s K) {ρ : Env} {a : Act} (hf : FrameSat ρ s.fr a.tmps) {u : Value} (hu : x.Rep ρ u) :
    ∃ v sv, (∀ w : World, (Instr.sliceAt t u (lo.map a.eval) (hi.map a.eval) (mx.map a.eval)).run X.P w = .ok v w) ∧ sv.Rep ρ v ∧ K sv s := by
  unfold xslice at h
  split at h
  · -- a string
    rename_i ti b hti
    have ty := hX.ty hti
    split at h
    · rename_i hd
      have hut := desc_str (ty.desc.trans hd)
      obtain ⟨rfl, hs⟩ := hu
      obtain ⟨hN, h, h1, h2⟩ := bound_ok (P := X.P) h hf
      obtain ⟨lN, h, h3, h4⟩ := bound_ok (P := X.P) h hf
      have hb := fun w => run_bounds (P := X.P) (isSlice := false) (len := b.size) (cap := b.size) (lo := lo) (hi := hi) (mx := none) (a := a) (w := w) (m := b.size) (h := hN) (l := lN) (.inl rfl) ⟨fun _ => rfl, fun x hx => by cases hx⟩ ⟨h1, h2⟩ ⟨h3, h4⟩
      refine ⟨_, .a (.str (b.extract lN hN)), fun w => ?_, ⟨rfl, ?_⟩, h⟩
      · have hb := hb w
        simp only [Instr.sliceAt, Sem.run_bind, run_underlying hut, Result.andThen_ok, Instr.slice, Option.map_none, Option.isSome_none, Bool.false_eq_true, if_false, Sem.run_pure] at hb ⊢
        simp [hb]
      · have hhN : hN ≤ b.size := by
          cases hi with
          | none => rw [h1 rfl]; exact Nat.le_refl _
          | some y => exact (h2 y rfl).1
        simp only [ByteArray.size_extract]; omega
    · exact h.elim
  · -- a slice
    rename_i ti tg r e len cap hti
    have ty := hX.ty hti
    split at h
    · rename_i el hd
      have hut := desc_slc (ty.desc.trans hd)
      split at h
      · rename_i te hte
        have tye := hX.ty hte
        cases hb0 : (Nat.beq e te.sz && (mx.isNone || hi.isSome))
        · simp [hb0] at h
        simp only [hb0, cond_true] at h
        simp only [Bool.and_eq_true, Bool.or_eq_true] at hb0
        have he := Nat.eq_of_beq_eq_true hb0.1
        have hmx : mx = none ∨ hi ≠ none := by
          rcases hb0.2 with h | h
          · exact .inl (by simpa using h)
          · exact .inr (by intro h'; rw [h'] at h; cases h)
        subst he
        obtain ⟨mN, h, g1, g2⟩ := bound_ok (P := X.P) h hf
        obtain ⟨hN, h, h1, h2⟩ := bound_ok (P := X.P) h hf
        obtain ⟨lN, h, h3, h4⟩ := bound_ok (P := X.P) h hf
        have hb := fun w => run_bounds (P := X.P) (isSlice := true) (len := len) (cap := cap) (lo := lo) (hi := hi) (mx := mx) (a := a) (w := w) (m := mN) (h := hN) (l := lN) hmx ⟨g1, g2⟩ ⟨h1, h2⟩ ⟨h3, h4⟩
        obtain ⟨htg, hlc, hcm, hv⟩ := hu
        have e1 : mN ≤ cap := by cases mx with | none => rw [g1 rfl]; exact Nat.le_refl _ | some y => exact (g2 y rfl).1
        have e2 : hN ≤ mN := by
          cases hi with
          | none => rcases hmx with h | h
                    · rw [h1 rfl, g1 h]; exact hlc
                    · exact absurd rfl h
          | some y => exact (h2 y rfl).1
        have e3 : lN ≤ hN := by cases lo with | none => rw [h3 rfl]; exact Nat.zero_le _ | some y => exact (h4 y rfl).1
        have hrun : ∀ (base : Option Addr) (w : World), (Instr.sliceAt t (.slice base len cap) (lo.map a.eval) (hi.map a.eval) (mx.map a.eval)).run X.P w = .ok (.slice (if mN = lN then base else base.map (·.add (lN * te.sz))) (hN - lN) (mN - lN)) w := by
          intro base w
          simp only [Instr.sliceAt, Sem.run_bind, run_underlying hut, Result.andThen_ok, Instr.slice, hb, run_sizeOf' tye, Sem.run_pure]
        rcases hv with ⟨hl0, hc0, rfl⟩ | ⟨o, rfl, ho⟩
        · refine ⟨_, .a (.slc tg (r + lN) te.sz (hN - lN) (mN - lN)), by have := hrun none; rw [hl0, hc0] at this; exact this, ⟨htg, by omega, by omega, .inl ⟨by omega, by omega, ?_⟩⟩, h⟩
          have : mN = lN := by omega
          rw [if_pos this]; congr 1 <;> omega
        · refine ⟨_, .a (.slc tg (r + lN) te.sz (hN - lN) (mN - lN)), hrun _, ⟨htg, by omega, by omega, ?_⟩, h⟩
          by_cases hml : mN = lN
          · refine .inr ⟨o, by rw [if_pos hml], fun hne => absurd (by omega) hne⟩
          · obtain ⟨rfl, hN'⟩ := ho (by omega)
            refine .inr ⟨⟨(ρ.pl tg).blk, (ρ.pl tg).off + r * te.sz + lN * te.sz, none⟩, ?_, fun _ => ⟨by rw [Nat.add_mul, Nat.add_assoc], by omega⟩⟩
            rw [if_neg hml]
            simp only [Option.map_some, Addr.add_plain]
      · exact h.elim
    · exact h.elim
  · -- nil
    rename_i ti hti
    have ty := hX.ty hti
    split at h
    · rename_i el hd
      have hut := desc_slc (ty.desc.trans hd)
      split at h
      · rename_i te hte
        have tye := hX.ty hte
        cases hb0 : (mx.isNone || hi.isSome)
        · simp [hb0] at h
        simp only [hb0, cond_true] at h
        simp only [Bool.or_eq_true] at hb0
        have hmx : mx = none ∨ hi ≠ none := by
          rcases hb0 with h | h
          · exact .inl (by simpa using h)
          · exact .inr (by intro h'; rw [h'] at h; cases h)
        obtain ⟨mN, h, g1, g2⟩ := bound_ok (P := X.P) h hf
        obtain ⟨hN, h, h1, h2⟩ := bound_ok (P := X.P) h hf
        obtain ⟨lN, h, h3, h4⟩ := bound_ok (P := X.P) h hf
        have hb := fun w => run_bounds (P := X.P) (isSlice := true) (len := 0) (cap := 0) (lo := lo) (hi := hi) (mx := mx) (a := a) (w := w) (m := mN) (h := hN) (l := lN) hmx ⟨g1, g2⟩ ⟨h1, h2⟩ ⟨h3, h4⟩
        have hu' : u = .slice none 0 0 := hu
        subst hu'
        have e1 : mN ≤ 0 := by cases mx with | none => rw [g1 rfl]; exact Nat.le_refl _ | some y => exact (g2 y rfl).1
        have e2 : hN ≤ mN := by
          cases hi with
          | none => rw [h1 rfl]; exact Nat.zero_le _
          | some y => exact (h2 y rfl).1
        have e3 : lN ≤ hN := by cases lo with | none => rw [h3 rfl]; exact Nat.zero_le _ | some y => exact (h4 y rfl).1
        refine ⟨.slice none 0 0, .a .snil, fun w => ?_, rfl, h⟩
        obtain rfl : mN = 0 := by omega
        obtain rfl : hN = 0 := by omega
        obtain rfl : lN = 0 := by omega
        simp only [Instr.sliceAt, Sem.run_bind, run_underlying hut, Result.andThen_ok, Instr.slice, hb, run_sizeOf' tye, Sem.run_pure]
        simp
      · exact h.elim
    · exact h.elim
  · exact h.elim

/-! ### so many zeros, behind nothing -/

def xappz (X : Cx) (t : Nat) (x y : SV) (s : S) (K : KV) : Prop :=
  match X.ti t, x, y with
  | some ti, .a .snil, .a y =>
    match ti.d, y.i? with
    | .slc e, some (k, n) =>
      match X.ti e with
      | some te => bif keq k .i64 && (fitKs te.ks te.zero && (Nat.ble 1 te.bytes && Nat.ble 1 te.sz)) then
          (1 ≤ n ∧ n * (te.bytes : Int) ≤ 140737488355328) ∧ ∀ cap, n.toNat ≤ cap → cap ≤ lenMax → K (.a (.slc s.nx 0 te.sz n.toNat cap)) (s.new (.arr e te.ks n.toNat fun _ j => (te.zero.map A.toV).getD j undef)) else False
      | none => False
    | _, _ => False
  | _, _, _ => False

theorem appz_ok {X : Cx} (hX : X.Ok) {t xt rt : Nat} {ik : IntKind} (hxt : X.P.underlying xt = some (.int ik)) {x y : SV} {s : S} {K : KV} (h : xappz X t x y s K) {w0 : World} {M : Nat → Prop} {ρ : Env} (hρ : ρ.n = s.nx)
    {w : World} (hh : HeapSat w0 M ρ s.hp w) {u v : Value} (hu : x.Rep ρ u) (hv : y.Rep ρ v) :
    ∃ r w' ρ', (Builtin.append_ #[t, xt] rt #[u, v]).run X.P w = .ok r w' ∧ ρ.le ρ' ∧ ∃ sv s', K sv s' ∧ s'.nt = s.nt ∧ s'.fr = s.fr ∧ ρ'.n = s'.nx ∧ sv.Rep ρ' r ∧ HeapSat w0 M ρ' s'.hp w' := by
  unfold xappz at h
  split at h
  · rename_i ti y hti
    have ty := hX.ty hti
    split at h
    · rename_i e k n hd hy
      split at h
      · rename_i te hte
        have tye := hX.ty hte
        cases hb : (keq k .i64 && (fitKs te.ks te.zero && (Nat.ble 1 te.bytes && Nat.ble 1 te.sz)))
        · simp [hb] at h
        simp only [hb, cond_true] at h
        simp only [Bool.and_eq_true] at hb
        obtain ⟨hk, hfit, hby, hsz⟩ := hb
        have := keq_eq hk; subst this
        have hby := Nat.le_of_ble_eq_true hby
        have hsz := Nat.le_of_ble_eq_true hsz
        obtain ⟨⟨h1, h2⟩, hK⟩ := h
        have hu' : u = .slice none 0 0 := hu
        subst hu'
        obtain ⟨rfl, hnr⟩ := A.i?_rep hy hv
        have hut := desc_slc (ty.desc.trans hd)
        obtain ⟨j, hj, hj1, hj2, z, hz, hzl, hzero, hok, _⟩ := tye.info
        obtain ⟨hzc, hzk⟩ := fitKs_zero (ρ := ρ) hfit hzero hok
        have hks := ks_length tye
        obtain ⟨m, rfl⟩ : ∃ m : Nat, n = m := ⟨n.toNat, by omega⟩
        simp only [Int.toNat_natCast] at hK
        have hmb : m * te.bytes ≤ 140737488355328 := by
          have : ((m * te.bytes : Nat) : Int) ≤ 140737488355328 := by rw [Int.natCast_mul]; exact h2
          omega
        have hm1 : 1 ≤ m := by omega
        have hml : m ≤ lenMax := by
          have : m * 1 ≤ m * te.bytes := Nat.mul_le_mul_left m hby
          unfold lenMax; omega
        have hrun : (Builtin.append_ #[t, xt] rt #[.slice none 0 0, .int .i64 (m : Int)]).run X.P w =
            .ok (.slice (some ⟨w.heap.size, 0, none⟩) m (grownCap w m 0 e)) (w.drew.alloc (.cells (Builtin.zeroCells z.cells m ++ Builtin.zeroCells z.cells (grownCap w m 0 e - m)) e)) := by
          have g2 : ¬ (281474976710656 < Builtin.nextslicecap m 0 * j.bytes) := by
            have := growslice_fits (bytes := j.bytes) (show 0 < m by omega) (by rw [hj2]; exact hmb)
            omega
          have g3 : ¬ (m = 0) := by omega
          have hq : (Question.appendCap m 0 e).forced = false := rfl
          have hti : ∀ w', (typeInfo e).run X.P w' = .ok j w' := by intro w'; simp [typeInfo, hj]
          have hw : IntKind.i64.wrap (m : Int) = (m : Int) := wrap_of_InR hnr
          have g5 : ¬ (281474976710656 < (m : Int) * (j.bytes : Int)) := by
            rw [hj2]
            generalize (m : Int) * (te.bytes : Int) = q at *
            omega
          have g4 : ¬ ((m : Int) < 0) := by omega
          have g6 : ¬ (m * te.sz = 0) := by
            have : 0 < m * te.sz := Nat.mul_pos (by omega) (by omega)
            omega
          have g7 : ¬ (9223372036854775807 < (m : Int)) := by
            simp only [InR] at hnr
            omega
          simp [Builtin.append_, run_underlying hut, run_underlying hxt, run_sizeOf' tye, asInt, asIntOf, hw, g2, g3, g4, g5, g6, g7, hti, hq, zeroValue, hz, newRow, grownCap, Builtin.firstCells]
        have hzs : z.cells.size = te.ks.length := by rw [hks]; simpa using hzl
        have hcap := grownCap_ge w m 0 e
        have hcap2 := grownCap_le_maxLen w m 0 e hml
        obtain ⟨ρ', p1, p2, p3, p4⟩ := hh.drew.newArr e (ks := te.ks) (n := m) (N := grownCap w m 0 e) (rows := fun _ j => (te.zero.map A.toV).getD j undef) (vs := Builtin.zeroCells z.cells m ++ Builtin.zeroCells z.cells (grownCap w m 0 e - m)) (0, 0) (fun o _ ho => by omega) (Nat.le_refl _)
          (by
            simp only [Array.size_append, size_zeroCells, hzs, ← Nat.add_mul]
            exact Nat.le_of_eq (by congr 1; omega)) hcap
          (fun i hi j k hk => by
            have hjl : j < te.ks.length := (List.getElem?_eq_some_iff.1 hk).1
            have hcl : (Builtin.zeroCells z.cells m).toList = rep m z.cells.toList := by
              have := zero_cells z.cells m te.ks.length hzs
              rw [← this, Builtin.zeroCells, hzs]
            have hlt : i * te.ks.length + j < m * z.cells.toList.length := by
              have := Nat.mul_le_mul_right te.ks.length hi
              rw [Nat.succ_mul] at this
              rw [hzl]; rw [hks] at this hjl ⊢; omega
            have hlt2 : i * te.ks.length + j < (Builtin.zeroCells z.cells m).size := by
              rw [size_zeroCells]; simpa using hlt
            have e1 : (rep m z.cells.toList)[i * te.ks.length + j]? = z.cells.toList[j]? := by
              rw [rep_get _ _ _ hlt, hzl, ← hks, Nat.mul_comm, Nat.mul_add_mod, Nat.mod_eq_of_lt hjl]
            have hjz : j < z.cells.toList.length := by rw [hzl, ← hks]; exact hjl
            have e2 : z.cells.toList[j]? = some ((te.zero.map A.toV).getD j undef) := by
              rw [← hzc]; simp only [List.getD, List.getElem?_eq_getElem hjz, Option.getD_some]
            rw [Array.getElem?_append_left hlt2, ← Array.getElem?_toList, hcl, e1, e2]
            exact ⟨rfl, hzk j _ k e2 hk⟩)
        refine ⟨_, _, ρ', hrun, p1, _, _, hK _ hcap hcap2, rfl, rfl, ?_, ?_, ?_⟩
        · rw [p2, hρ]; rfl
        · refine ⟨by rw [p2, hρ]; omega, hcap, hcap2, .inr ⟨_, rfl, fun _ => ?_⟩⟩
          · rw [← hρ, p3]; exact ⟨by simp only [Nat.zero_mul, Nat.add_zero] <;> rfl, by simp⟩
        · rw [hρ] at p4; exact p4
      · exact h.elim
    · exact h.elim
  · exact h.elim

end
end Go.Sx
