/-
  append.
-/
import Derived.Test.YthgnaehfepcblaaSxH
namespace Go.Sx
section
variable {P : Program}

def ckEq : CK → CK → Bool
  | .int j, .int k => keq j k
  | .bool, .bool => true
  | .str, .str => true
  | .other, .other => true
  | .deep, .deep => true
  | _, _ => false
def cksEq : List CK → List CK → Bool
  | [], [] => true
  | a :: r, b :: t => ckEq a b && cksEq r t
  | _, _ => false
theorem ckEq_eq {a b : CK} (h : ckEq a b = true) : a = b := by
  cases a <;> cases b <;> simp only [ckEq] at h <;> first | (cases h; done) | rfl | (rw [keq_eq h])
theorem cksEq_eq : ∀ {a b : List CK}, cksEq a b = true → a = b
  | [], [], _ => rfl
  | a :: r, b :: t, h => by
    simp only [cksEq, Bool.and_eq_true] at h
    rw [ckEq_eq h.1, cksEq_eq h.2]
  | [], _ :: _, h => by simp [cksEq] at h
  | _ :: _, [], h => by simp [cksEq] at h

/-- bytes as a row each -/
def bytesRows (b : ByteArray) : Nat → Nat → Value := fun i _ => .int .u8 ((b.data.getD i 0).toNat : Int)

/-- what is appended -/
def srcOf (force : Bool) (s : S) (ks : List CK) (v : SV) (K : Nat → (Nat → Nat → Value) → Prop) : Prop :=
  match v with
  | .a .snil => K 0 fun _ _ => undef
  | .a (.slc tg r e len _) =>
    match s.hp.find tg with
    | some (_, .arr _ ks' n rows) => bif Nat.beq e ks'.length && cksEq ks' ks then need force (r + len ≤ n) (K len fun i j => rows (r + i) j) else False
    | _ => False
  | .a (.str b) => bif cksEq ks [.int .u8] then K b.size (bytesRows b) else False
  | _ => False

structure SrcOk (P : Program) (ks : List CK) (w : World) (v : Value) (n : Nat) (rows : Nat → Nat → Value) (cells : Array Value) : Prop where
  len : (Builtin.lenOf v).run P w = .ok n w
  run : ∀ w' : World, w'.heap = w.heap → (Builtin.firstCells ks.length n v).run P w' = .ok cells w'
  size : cells.size = n * ks.length
  row : ∀ i, i < n → ∀ (j : Nat) (k : CK), ks[j]? = some k → cells[i * ks.length + j]? = some (rows i j) ∧ k.ok (rows i j)
  kind : (∃ o l c, v = .slice o l c) ∨ ∃ s, v = .string s

/-- the cells of a slice's rows -/
theorem slc_cells {ks : List CK} {w : World} {p : Place} {ty : TypeId} {n : Nat} {rows : Nat → Nat → Value} {ρ : Env} (hc : (Chunk.arr ty ks n rows).Sat ρ p w) {r len : Nat} (hr : r + len ≤ n) (hl : len ≠ 0) :
    ∃ cells : Array Value, (∀ w' : World, w'.heap = w.heap → (loadCells ⟨p.blk, p.off + r * ks.length, none⟩ (len * ks.length)).run P w' = .ok cells w') ∧ cells.size = len * ks.length ∧
      ∀ i, i < len → ∀ (j : Nat) (k : CK), ks[j]? = some k → cells[i * ks.length + j]? = some (rows (r + i) j) ∧ k.ok (rows (r + i) j) := by
  rcases hc with ⟨hn, _⟩ | ⟨vs, ty', fr, hb, hfit, hnN, hu, hfp, hrows⟩
  · omega
  have hsz : p.off + (r + len) * ks.length ≤ vs.size := by
    have := Nat.mul_le_mul_right ks.length (show r + len ≤ p.N by omega)
    omega
  rw [Nat.add_mul] at hsz
  have hld := fun (w' : World) (hw : w'.heap = w.heap) => run_loadCells (P := P) w' ⟨p.blk, p.off + r * ks.length, none⟩ (len * ks.length) (fun i => vs.getD (p.off + r * ks.length + i) undef) (fun j hj => by
    rw [Addr.add_plain, cell_of (by rw [hw]; exact hb)]
    have : p.off + r * ks.length + j < vs.size := by omega
    simp [Array.getD, this])
  refine ⟨_, hld, by simp, fun i hi j k hk => ?_⟩
  have hjl : j < ks.length := (List.getElem?_eq_some_iff.1 hk).1
  obtain ⟨e1, e2⟩ := hrows (r + i) (by omega) j k hk
  have hlt : i * ks.length + j < len * ks.length := by
    have := Nat.mul_le_mul_right ks.length hi
    rw [Nat.succ_mul] at this; omega
  refine ⟨?_, e2⟩
  rw [List.getElem?_toArray, List.getElem?_map, List.getElem?_range hlt]
  rw [Nat.add_mul] at e1
  have e3 : vs[p.off + r * ks.length + (i * ks.length + j)]? = some (rows (r + i) j) := by rw [← e1]; congr 1; omega
  simp [Array.getD_eq_getD_getElem?, e3]

theorem src_ok {force : Bool} {s : S} {ks : List CK} {v : SV} {K : Nat → (Nat → Nat → Value) → Prop} (h : srcOf force s ks v K) {w0 : World} {M : Nat → Prop} {ρ : Env} {w : World} (hh : HeapSat w0 M ρ s.hp w) {u : Value} (hu : v.Rep ρ u) :
    ∃ n rows cells, K n rows ∧ SrcOk P ks w u n rows cells := by
  unfold srcOf at h
  split at h
  · have hu' : u = .slice none 0 0 := hu
    subst hu'
    exact ⟨0, _, #[], h, rfl, fun _ _ => rfl, by simp, fun i hi => absurd hi (Nat.not_lt_zero i), .inl ⟨_, _, _, rfl⟩⟩
  · rename_i tg r e len cap
    split at h
    · rename_i m ty ks' n rows hfind
      cases hb : (Nat.beq e ks'.length && cksEq ks' ks)
      · simp [hb] at h
      simp only [hb, cond_true] at h
      simp only [Bool.and_eq_true] at hb
      have he := Nat.eq_of_beq_eq_true hb.1
      have hk := cksEq_eq hb.2
      subst he; subst hk
      obtain ⟨hr, h⟩ := need_ok h
      have hc := (hh.ent _ (Heap.find_mem hfind)).ch
      simp only at hc
      obtain ⟨_, hlc, _, hv⟩ := hu
      by_cases h0 : len = 0
      · subst h0
        rcases hv with ⟨_, _, rfl⟩ | ⟨o, rfl, _⟩
        · exact ⟨0, _, #[], h, rfl, fun _ _ => rfl, by simp, fun i hi => absurd hi (Nat.not_lt_zero i), .inl ⟨_, _, _, rfl⟩⟩
        · refine ⟨0, _, #[], h, rfl, fun _ _ => ?_, by simp, fun i hi => absurd hi (Nat.not_lt_zero i), .inl ⟨_, _, _, rfl⟩⟩
          simp [Builtin.firstCells, loadCells, loadCellsFrom]
      · rcases hv with ⟨h1, _, _⟩ | ⟨o, rfl, ho⟩
        · exact absurd h1 h0
        obtain ⟨rfl, _⟩ := ho (by omega)
        obtain ⟨cells, c1, c2, c3⟩ := slc_cells (P := P) hc hr h0
        exact ⟨len, _, cells, h, rfl, fun w' hw => by simpa [Builtin.firstCells] using c1 w' hw, c2, c3, .inl ⟨_, _, _, rfl⟩⟩
    · exact h.elim
  · rename_i b
    cases hb : cksEq ks [.int .u8]
    · simp [hb] at h
    simp only [hb, cond_true] at h
    have hk := cksEq_eq hb
    subst hk
    obtain ⟨rfl, hs⟩ := hu
    refine ⟨b.size, _, b.data.map fun x => .int .u8 x.toNat, h, rfl, fun _ _ => ?_, by show (Array.map _ _).size = b.data.size * 1; rw [Array.size_map, Nat.mul_one], fun i hi j k hj => ?_, .inr ⟨_, rfl⟩⟩
    · have : b.extract 0 b.size = b := by simp
      simp [Builtin.firstCells, this]
    · cases j with
      | zero =>
        simp at hj; subst hj
        have hi' : i < b.data.size := hi
        refine ⟨by show (Array.map _ _)[i * 1 + 0]? = _; rw [Nat.mul_one, Nat.add_zero, Array.getElem?_map, Array.getElem?_eq_getElem hi']; simp [bytesRows, Array.getD_eq_getD_getElem?, Array.getElem?_eq_getElem hi'], _, rfl, ?_⟩
        have := (b.data.getD i 0).toNat_lt
        exact ⟨by omega, by omega⟩
      | succ j => simp at hj
  · exact h.elim

def appRows (rows0 : Nat → Nat → Value) (r0 l0 : Nat) (rows1 : Nat → Nat → Value) : Nat → Nat → Value := fun i j => if i < l0 then rows0 (r0 + i) j else rows1 (i - l0) j

def xappend (X : Cx) (t : Nat) (x y : SV) (s : S) (K : KV) : Prop :=
  match X.ti t with
  | some ti =>
    match ti.d with
    | .slc e =>
      match X.ti e with
      | some te =>
        bif Nat.ble 1 te.bytes then
          match x with
          | .a .snil => srcOf X.force s te.ks y fun m rows1 => need X.force (m * te.bytes ≤ 140737488355328) (∀ cap, m ≤ cap → cap ≤ lenMax → K (.a (.slc s.nx 0 te.sz m cap)) (s.new (.arr e te.ks m rows1)))
          | .a (.slc t0 r0 e0 l0 c0) =>
            match s.hp.find t0 with
            | some (true, .arr ty ks n rows) =>
              bif Nat.beq ty e && (Nat.beq e0 te.sz && cksEq ks te.ks) then need X.force (r0 + l0 ≤ n) (srcOf X.force s te.ks y fun m rows1 => need X.force ((l0 + m) * te.bytes ≤ 140737488355328)
                (∀ cap, l0 + m ≤ cap → cap ≤ lenMax → (l0 + m ≤ c0 → cap = c0) → K (.a (.slc s.nx 0 te.sz (l0 + m) cap)) ((s.put (s.hp.del t0)).new (.arr e te.ks (l0 + m) (appRows rows r0 l0 rows1)))))
              else False
            | _ => False
          | _ => False
        else False
      | none => False
    | _ => False
  | none => False

/-- append, where it must grow -/
theorem run_append_grow' {t xt ty e : TypeId} {te : TI} (tye : TyOk P e te) (ht : P.underlying t = some (.slice e)) {xd : TypeDesc} (hx : P.underlying xt = some xd) (hxd : xd = .string ∨ ∃ e', xd = .slice e')
    {w : World} {base : Option Addr} {sLen sCap : Nat} {x : Value} {n : Nat} {old new : Array Value} (hn : (Builtin.lenOf x).run P w = .ok n w)
    (hnew : (Builtin.firstCells te.sz n x).run P w.drew = .ok new w.drew) (hold : (Builtin.firstCells te.sz sLen (.slice base sLen sCap)).run P w.drew = .ok old w.drew)
    (hgrow : sCap < sLen + n) (hlen : sLen + n ≤ lenMax) (hb : (sLen + n) * te.bytes ≤ 140737488355328) (hb1 : 1 ≤ te.bytes) :
    ∃ z : Value, ∃ cap, sLen + n ≤ cap ∧ cap ≤ lenMax ∧ z.cells.toList.length = te.sz ∧ (Builtin.append_ #[t, xt] ty #[.slice base sLen sCap, x]).run P w =
      .ok (.slice (some ⟨w.heap.size, 0, none⟩) (sLen + n) cap) (w.drew.alloc (.cells (old ++ new ++ Builtin.zeroCells z.cells (cap - (sLen + n))) e)) := by
  obtain ⟨j, hj, hj1, hj2, z, hz, hzl, _⟩ := tye.info
  refine ⟨z, grownCap w (sLen + n) sCap e, grownCap_ge w _ _ _, grownCap_le_maxLen w _ _ _ hlen, hzl, ?_⟩
  have h2 : ¬ (Builtin.nextslicecap (sLen + n) sCap * j.bytes > 2 ^ 48) := by
    have := growslice_fits (bytes := j.bytes) hgrow (by rw [hj2]; exact hb)
    omega
  have h3 : ¬ (sLen + n ≤ sCap) := by omega
  have hq : (Question.appendCap (sLen + n) sCap e).forced = false := rfl
  have hti : ∀ w', (typeInfo e).run P w' = .ok j w' := by intro w'; simp [typeInfo, hj]
  have hb0 : j.bytes ≠ 0 := by omega
  rcases hxd with rfl | ⟨e', rfl⟩
  all_goals
    simp [Builtin.append_, run_underlying ht, run_underlying hx, run_sizeOf' tye, hn, h3, h2, hti, hb0, hq, hold, hnew, zeroValue, hz, newRow, grownCap]

/-- append, where there is room -/
theorem run_append_room' {t xt ty e : TypeId} {te : TI} (tye : TyOk P e te) (ht : P.underlying t = some (.slice e)) {xd : TypeDesc} (hx : P.underlying xt = some xd) (hxd : xd = .string ∨ ∃ e', xd = .slice e')
    {w w' : World} {base : Option Addr} {sLen sCap : Nat} {x : Value} {n : Nat} {new : Array Value} (hn : (Builtin.lenOf x).run P w = .ok n w)
    (hnew : (Builtin.firstCells te.sz n x).run P w = .ok new w) (hroom : sLen + n ≤ sCap)
    (hst : match base with | some a => (storeCells (a.add (sLen * te.sz)) new.toList).run P w = .ok () w' | none => w' = w) :
    (Builtin.append_ #[t, xt] ty #[.slice base sLen sCap, x]).run P w = .ok (.slice base (sLen + n) sCap) w' := by
  rcases hxd with rfl | ⟨e', rfl⟩
  all_goals
    cases base with
    | none =>
      simp only at hst; subst hst
      simp [Builtin.append_, run_underlying ht, run_underlying hx, run_sizeOf' tye, hn, hroom, hnew]
    | some a =>
      simp only at hst
      simp [Builtin.append_, run_underlying ht, run_underlying hx, run_sizeOf' tye, hn, hroom, hnew, hst]

theorem HeapSat.drew {w0 : World} {M : Nat → Prop} {ρ : Env} {hp : Heap} {w : World} (h : HeapSat w0 M ρ hp w) : HeapSat w0 M ρ hp w.drew :=
  h.world (M' := fun _ => False) ⟨rfl, rfl, rfl, Nat.le_refl _, fun _ _ _ => rfl, fun _ _ => rfl⟩ (fun _ _ h => h.elim) fun _ _ _ _ => rfl

/-- the cells behind one another: old rows, new rows -/
theorem app_row {ks : List CK} {old new rest : Array Value} {l m : Nat} {rows0 rows1 : Nat → Nat → Value} {r0 : Nat} (ho : old.size = l * ks.length) (hn : new.size = m * ks.length)
    (h0 : ∀ i, i < l → ∀ (j : Nat) (k : CK), ks[j]? = some k → old[i * ks.length + j]? = some (rows0 (r0 + i) j) ∧ k.ok (rows0 (r0 + i) j))
    (h1 : ∀ i, i < m → ∀ (j : Nat) (k : CK), ks[j]? = some k → new[i * ks.length + j]? = some (rows1 i j) ∧ k.ok (rows1 i j)) :
    ∀ i, i < l + m → ∀ (j : Nat) (k : CK), ks[j]? = some k → (old ++ new ++ rest)[i * ks.length + j]? = some (appRows rows0 r0 l rows1 i j) ∧ k.ok (appRows rows0 r0 l rows1 i j) := by
  intro i hi j k hk
  have hjl : j < ks.length := (List.getElem?_eq_some_iff.1 hk).1
  unfold appRows
  by_cases hil : i < l
  · rw [if_pos hil]
    have hlt : i * ks.length + j < old.size := by
      have := Nat.mul_le_mul_right ks.length hil
      rw [Nat.succ_mul] at this; omega
    rw [Array.append_assoc, Array.getElem?_append_left hlt]
    exact h0 i hil j k hk
  · rw [if_neg hil]
    have hge : old.size ≤ i * ks.length + j := by
      have := Nat.mul_le_mul_right ks.length (Nat.le_of_not_lt hil)
      omega
    have hsub : (i - l) * ks.length = i * ks.length - l * ks.length := Nat.sub_mul _ _ _
    have hlt2 : (i - l) * ks.length + j < new.size := by
      have := Nat.mul_le_mul_right ks.length (show i - l + 1 ≤ m by omega)
      rw [Nat.succ_mul] at this; omega
    rw [Array.append_assoc, Array.getElem?_append_right hge, Array.getElem?_append_left (by omega)]
    have := h1 (i - l) (by omega) j k hk
    rw [show i * ks.length + j - old.size = (i - l) * ks.length + j by
      have := Nat.mul_le_mul_right ks.length (Nat.le_of_not_lt hil); omega]
    exact this

theorem append_ok {X : Cx} (hX : X.Ok) {t xt rt : Nat} {xd : TypeDesc} (hxt : X.P.underlying xt = some xd) (hxd : xd = .string ∨ ∃ e', xd = .slice e') {x y : SV} {s : S} {K : KV} (h : xappend X t x y s K) {w0 : World} {M : Nat → Prop} {ρ : Env} (hρ : ρ.n = s.nx)
    {w : World} (hh : HeapSat w0 M ρ s.hp w) {u v : Value} (hu : x.Rep ρ u) (hv : y.Rep ρ v) :
    ∃ r w' ρ', (Builtin.append_ #[t, xt] rt #[u, v]).run X.P w = .ok r w' ∧ ρ.le ρ' ∧ ∃ sv s', K sv s' ∧ s'.nt = s.nt ∧ s'.fr = s.fr ∧ ρ'.n = s'.nx ∧ sv.Rep ρ' r ∧ HeapSat w0 M ρ' s'.hp w' := by
  unfold xappend at h
  split at h
  · rename_i ti hti
    have ty := hX.ty hti
    split at h
    · rename_i e hd
      split at h
      · rename_i te hte
        have tye := hX.ty hte
        have hks := ks_length tye
        have hut := desc_slc (ty.desc.trans hd)
        cases hb1 : Nat.ble 1 te.bytes
        · simp [hb1] at h
        simp only [hb1, cond_true] at h
        have hby := Nat.le_of_ble_eq_true hb1
        have small : ∀ n, n * te.bytes ≤ 140737488355328 → n ≤ lenMax := by
          intro n hn
          have : n * 1 ≤ n * te.bytes := Nat.mul_le_mul_left n hby
          unfold lenMax; omega
        split at h
        · -- onto nil
          have hu' : u = .slice none 0 0 := hu
          subst hu'
          obtain ⟨m, rows1, cells, hneed, hsrc⟩ := src_ok (P := X.P) h hh hv
          obtain ⟨hmb, hK⟩ := need_ok hneed
          have hml := small m hmb
          by_cases h0 : m = 0
          · subst h0
            have hsz : cells.toList = [] := List.eq_nil_of_length_eq_zero (by simpa using hsrc.size)
            refine ⟨_, w, ρ.ext ⟨0, 0, 0, fun _ => False⟩, run_append_room' tye hut hxt hxd hsrc.len (by rw [← hks]; exact hsrc.run w rfl) (Nat.le_refl _) rfl, ρ.le_ext _, _, _, hK 0 (Nat.le_refl _) (Nat.zero_le _), rfl, rfl, ?_, ?_, ?_⟩
            · show ρ.n + 1 = s.nx + 1; rw [hρ]
            · exact ⟨by show s.nx < ρ.n + 1; omega, Nat.le_refl _, Nat.zero_le _, .inl ⟨rfl, rfl, rfl⟩⟩
            · have h1 := hh.mono (ρ.le_ext ⟨0, 0, 0, fun _ => False⟩)
              refine h1.cons ⟨by show s.nx < ρ.n + 1; omega, ?_, ?_, ?_⟩ ?_
              · rw [← hρ, ρ.ext_new]; exact .inl ⟨rfl, rfl, fun _ h => h⟩
              · rw [← hρ, ρ.ext_new]; exact fun _ h => h.elim
              · rw [← hρ, ρ.ext_new]; exact fun _ _ h => h.elim
              · intro z hz
                have ht := (hh.ent z hz).tag
                refine ⟨by show s.nx ≠ z.tag; omega, fun _ b hb => ?_⟩
                rw [← hρ, ρ.ext_new] at hb
                exact hb.elim
          · obtain ⟨z, cap, hc1, hc2, hz, hrun⟩ := run_append_grow' (ty := rt) tye hut hxt hxd (base := none) (sLen := 0) (sCap := 0) (old := #[]) hsrc.len (by rw [← hks]; exact hsrc.run w.drew rfl) (by simp [Builtin.firstCells]) (by omega) (by omega) (by simpa using hmb) hby
            simp only [Nat.zero_add] at hrun hc1
            obtain ⟨ρ', p1, p2, p3, p4⟩ := hh.drew.newArr e (ks := te.ks) (n := m) (N := cap) (rows := appRows (fun _ _ => undef) 0 0 rows1) (vs := #[] ++ cells ++ Builtin.zeroCells z.cells (cap - m)) (0, 0) (fun o _ ho => by omega) (Nat.le_refl _)
              (by
                have := hsrc.size
                simp only [Array.size_append, size_zeroCells, Array.size_empty]
                rw [this, show z.cells.size = te.ks.length by rw [hks]; simpa using hz, Nat.zero_add, ← Nat.add_mul]
                exact Nat.le_of_eq (by congr 1; omega)) hc1
              (by simpa using app_row (l := 0) (r0 := 0) (rows0 := fun _ _ => undef) (old := #[]) (rest := Builtin.zeroCells z.cells (cap - m)) (by simp) hsrc.size (fun i hi => absurd hi (Nat.not_lt_zero i)) hsrc.row)
            have hrows : appRows (fun _ _ => undef) 0 0 rows1 = rows1 := by funext i j; simp [appRows]
            rw [hrows] at p4
            refine ⟨_, _, ρ', hrun, p1, _, _, hK cap hc1 hc2, rfl, rfl, ?_, ?_, ?_⟩
            · rw [p2, hρ]; rfl
            · refine ⟨by rw [p2, hρ]; omega, hc1, hc2, .inr ⟨_, rfl, fun _ => ?_⟩⟩
              · rw [← hρ, p3]; exact ⟨by simp only [Nat.zero_mul, Nat.add_zero] <;> rfl, by simp⟩
            · rw [hρ] at p4; exact p4
        · -- onto a slice
          rename_i t0 r0 e0 l0 c0
          split at h
          · rename_i ty0 ks n rows hfind
            cases hb : (Nat.beq ty0 e && (Nat.beq e0 te.sz && cksEq ks te.ks))
            · simp [hb] at h
            simp only [hb, cond_true] at h
            simp only [Bool.and_eq_true] at hb
            have e1 := Nat.eq_of_beq_eq_true hb.1
            have e2 := Nat.eq_of_beq_eq_true hb.2.1
            have e3 := cksEq_eq hb.2.2
            subst e1; subst e3
            obtain ⟨hr0, h⟩ := need_ok h
            obtain ⟨m, rows1, cells, hneed, hsrc⟩ := src_ok (P := X.P) h hh hv
            obtain ⟨hmb, hK⟩ := need_ok hneed
            have hml := small (l0 + m) hmb
            have hent := hh.ent _ (Heap.find_mem hfind)
            have hc := hent.ch
            have hne := hh.del_ne hfind
            have hsub : HeapSat w0 M ρ (s.hp.del t0) w := hh.sub Heap.del_sub
            simp only at hc
            obtain ⟨ht0, hlc, hcm, hval⟩ := hu
            have he0 : e0 = te.ks.length := by rw [e2, hks]
            subst he0
            -- a place for the new tag, on the old block
            have place : ∀ (p : Place) (w' : World) (hk : Keeps (ρ.pl t0).fp w w') (hfp : ∀ b, p.fp b → (ρ.pl t0).fp b) (ch' : Chunk) (hch : ch'.Sat (ρ.ext p) p w'), HeapSat w0 M (ρ.ext p) (⟨s.nx, true, ch'⟩ :: s.hp.del t0) w' := by
              intro p w' hk hfp ch' hch
              have h1 : HeapSat w0 M (ρ.ext p) (s.hp.del t0) w' := (hsub.world hk (fun b hb hf => hent.own rfl b hf hb) (fun z hz b hb => by
                have := hne z hz
                refine hk.block b ((hh.ent z (Heap.del_sub.subset hz)).lt b hb) fun hf => this.2 rfl b hf hb)).mono (ρ.le_ext p)
              refine h1.cons ⟨by show s.nx < ρ.n + 1; omega, ?_, ?_, ?_⟩ ?_
              · rw [← hρ, ρ.ext_new]; exact hch
              · rw [← hρ, ρ.ext_new]; exact fun b hb => Nat.lt_of_lt_of_le (hent.lt b (hfp b hb)) hk.size
              · rw [← hρ, ρ.ext_new]; exact fun _ b hb hb0 => hent.own rfl b (hfp b hb) hb0
              · intro z hz
                have htz := (hh.ent z (Heap.del_sub.subset hz)).tag
                refine ⟨by show s.nx ≠ z.tag; omega, fun _ b hb hb' => ?_⟩
                rw [← hρ, ρ.ext_new] at hb
                rw [ρ.ext_old p htz] at hb'
                exact (hne z hz).2 rfl b (hfp b hb) hb'
            by_cases hroom : l0 + m ≤ c0
            · by_cases hc0 : c0 = 0
              · -- nothing there, nothing appended
                subst hc0
                obtain rfl : l0 = 0 := by omega
                obtain rfl : m = 0 := by omega
                have hsz : cells.toList = [] := List.eq_nil_of_length_eq_zero (by simpa using hsrc.size)
                have hnull : HeapSat w0 M (ρ.ext ⟨(ρ.pl t0).blk, 0, 0, fun _ => False⟩) (⟨s.nx, true, .arr ty0 te.ks (0 + 0) (appRows rows r0 0 rows1)⟩ :: s.hp.del t0) w :=
                  place ⟨(ρ.pl t0).blk, 0, 0, fun _ => False⟩ w (Keeps.refl _ _) (fun _ h => h.elim) (.arr ty0 te.ks (0 + 0) (appRows rows r0 0 rows1)) (Or.inl ⟨rfl, rfl, fun _ h => h⟩)
                have hst : ∀ (base : Option Addr), (match base with | some a => (storeCells (a.add (0 * te.sz)) cells.toList).run X.P w = .ok () w | none => w = w) := by
                  intro base
                  cases base with
                  | none => rfl
                  | some a => simp only; rw [hsz]; rfl
                have hnew : (Builtin.firstCells te.sz 0 v).run X.P w = .ok cells w := by rw [← hks]; exact hsrc.run w rfl
                rcases hval with ⟨_, _, rfl⟩ | ⟨o, rfl, _⟩
                · refine ⟨_, w, _, run_append_room' tye hut hxt hxd hsrc.len hnew (Nat.le_refl _) (hst none), ρ.le_ext _, _, _, hK 0 (Nat.le_refl _) (Nat.zero_le _) (fun _ => rfl), rfl, rfl, ?_, ?_, hnull⟩
                  · show ρ.n + 1 = s.nx + 1; rw [hρ]
                  · exact ⟨by show s.nx < ρ.n + 1; omega, Nat.le_refl _, Nat.zero_le _, .inl ⟨rfl, rfl, rfl⟩⟩
                · refine ⟨_, w, _, run_append_room' tye hut hxt hxd hsrc.len hnew (Nat.le_refl _) (hst (some o)), ρ.le_ext _, _, _, hK 0 (Nat.le_refl _) (Nat.zero_le _) (fun _ => rfl), rfl, rfl, ?_, ?_, hnull⟩
                  · show ρ.n + 1 = s.nx + 1; rw [hρ]
                  · refine ⟨by show s.nx < ρ.n + 1; omega, Nat.le_refl _, Nat.zero_le _, .inr ⟨o, rfl, fun h => absurd rfl h⟩⟩
              · -- in its own block
                rcases hval with ⟨_, h1, _⟩ | ⟨o, rfl, ho⟩
                · exact absurd h1 hc0
                obtain ⟨rfl, hN⟩ := ho hc0
                rcases hc with ⟨_, hN0, _⟩ | ⟨vs, ty0, fr, hbk, hfit, hnN, hun, hfp, hrows⟩
                · omega
                have hcap : (ρ.pl t0).off + (r0 + c0) * te.ks.length ≤ vs.size := by
                  have := Nat.mul_le_mul_right te.ks.length hN; omega
                have hlm : (l0 + m) * te.ks.length ≤ c0 * te.ks.length := Nat.mul_le_mul_right _ hroom
                rw [Nat.add_mul] at hcap hlm
                have hcl : cells.toList.length = m * te.ks.length := by simpa using hsrc.size
                have hone : ∀ z ∈ cells.toList, z.oneCell' = true := by
                  intro z hz
                  obtain ⟨q, hq, e⟩ := List.getElem_of_mem hz
                  have hpos : 0 < te.ks.length := by
                    rcases Nat.eq_zero_or_pos te.ks.length with h | h
                    · rw [h] at hcl; omega
                    · exact h
                  have hqm : q / te.ks.length < m := by rw [Nat.div_lt_iff_lt_mul hpos]; omega
                  have hqr : q % te.ks.length < te.ks.length := Nat.mod_lt _ hpos
                  obtain ⟨g1, g2⟩ := hsrc.row (q / te.ks.length) hqm (q % te.ks.length) (te.ks[q % te.ks.length]) (List.getElem?_eq_getElem hqr)
                  rw [show q / te.ks.length * te.ks.length + q % te.ks.length = q from by rw [Nat.mul_comm]; exact Nat.div_add_mod q te.ks.length] at g1
                  have : cells[q]? = some z := by
                    have hq' : q < cells.size := by simpa using hq
                    rw [Array.getElem?_eq_getElem hq']; congr 1
                  rw [this] at g1; cases g1
                  exact g2.one
                have hs := run_storeCellsU (P := X.P) (ρ.pl t0).blk ((ρ.pl t0).off + r0 * te.ks.length + l0 * te.ks.length) ty0 fr cells.toList 0 vs w hbk (fun x h1 h2 => hun x (by omega) (by have := Nat.mul_le_mul_right te.ks.length hN; rw [Nat.add_mul] at this; omega)) (by omega) hone
                have hadd : (⟨(ρ.pl t0).blk, (ρ.pl t0).off + r0 * te.ks.length, none⟩ : Addr).add (l0 * te.sz) = ⟨(ρ.pl t0).blk, (ρ.pl t0).off + r0 * te.ks.length + l0 * te.ks.length, none⟩ := by rw [← hks]; exact Addr.add_plain _ _ _
                have hsz2 : ∀ (L : List Value), L = vs.toList.take ((ρ.pl t0).off + r0 * te.ks.length + l0 * te.ks.length + 0) ++ cells.toList ++ vs.toList.drop ((ρ.pl t0).off + r0 * te.ks.length + l0 * te.ks.length + 0 + cells.toList.length) → L.toArray.size = vs.size := by
                  rintro L rfl; simp at hcl ⊢; omega
                refine ⟨_, _, ρ.ext ⟨(ρ.pl t0).blk, (ρ.pl t0).off + r0 * te.ks.length, (ρ.pl t0).N - r0, (ρ.pl t0).fp⟩, run_append_room' tye hut hxt hxd hsrc.len (by rw [← hks]; exact hsrc.run w rfl) hroom (by simp only; rw [hadd]; exact hs), ρ.le_ext _, _, _, hK c0 hroom hcm (fun _ => rfl), rfl, rfl, ?_, ?_, ?_⟩
                · show ρ.n + 1 = s.nx + 1; rw [hρ]
                · refine ⟨by show s.nx < ρ.n + 1; omega, hroom, hcm, .inr ⟨_, rfl, fun _ => ⟨?_, ?_⟩⟩⟩
                  · rw [← hρ, ρ.ext_new]; simp
                  · rw [← hρ, ρ.ext_new]; simp only; omega
                · refine place ⟨(ρ.pl t0).blk, (ρ.pl t0).off + r0 * te.ks.length, (ρ.pl t0).N - r0, (ρ.pl t0).fp⟩ _ ((Keeps.setRow w _ _).mono fun b _ hb => (hfp b).2 hb) (fun _ h => h) (.arr _ te.ks (l0 + m) (appRows rows r0 l0 rows1)) (Or.inr ⟨_, ty0, fr, setRow_heap w _ _ _ ty0 fr hbk, ?_, ?_, fun x h1 h2 => hun x (by simp only at h1; omega) (by simp only [Nat.sub_mul] at h1 h2; have := Nat.mul_le_mul_right te.ks.length (show r0 ≤ (ρ.pl t0).N by omega); omega), hfp, fun i hi j k hk => ?_⟩)
                  · rw [hsz2 _ rfl]
                    simp only
                    rw [Nat.sub_mul]
                    have := Nat.mul_le_mul_right te.ks.length (show r0 ≤ (ρ.pl t0).N by omega)
                    omega
                  · simp only; omega
                  · have hjl : j < te.ks.length := (List.getElem?_eq_some_iff.1 hk).1
                    rw [List.getElem?_toArray, getElem?_splice _ _ _ (by simp at hcl ⊢; omega)]
                    simp only [Nat.add_zero]
                    unfold appRows
                    by_cases hil : i < l0
                    · have hlt : i * te.ks.length + j < l0 * te.ks.length := by
                        have := Nat.mul_le_mul_right te.ks.length hil
                        rw [Nat.succ_mul] at this; omega
                      rw [if_neg (by omega), if_pos hil]
                      obtain ⟨g1, g2⟩ := hrows (r0 + i) (by omega) j k hk
                      refine ⟨?_, g2⟩
                      rw [← g1, Nat.add_mul]
                      simp only [Array.getElem?_toList]
                      congr 1; omega
                    · have hsub2 : (i - l0) * te.ks.length = i * te.ks.length - l0 * te.ks.length := Nat.sub_mul _ _ _
                      have hle2 := Nat.mul_le_mul_right te.ks.length (Nat.le_of_not_lt hil)
                      have hlt2 : (i - l0) * te.ks.length + j < m * te.ks.length := by
                        have := Nat.mul_le_mul_right te.ks.length (show i - l0 + 1 ≤ m by omega)
                        rw [Nat.succ_mul] at this; omega
                      rw [if_pos (by omega), if_neg hil]
                      obtain ⟨g1, g2⟩ := hsrc.row (i - l0) (by omega) j k hk
                      refine ⟨?_, g2⟩
                      rw [← g1]
                      simp only [Array.getElem?_toList]
                      congr 1; omega
            · -- in a new block
              have hold : ∃ old : Array Value, (∀ w' : World, w'.heap = w.heap → (Builtin.firstCells te.sz l0 u).run X.P w' = .ok old w') ∧ old.size = l0 * te.ks.length ∧
                  ∀ i, i < l0 → ∀ (j : Nat) (k : CK), te.ks[j]? = some k → old[i * te.ks.length + j]? = some (rows (r0 + i) j) ∧ k.ok (rows (r0 + i) j) := by
                by_cases hl0 : l0 = 0
                · subst hl0
                  refine ⟨#[], fun w' _ => ?_, by simp, fun i hi => absurd hi (Nat.not_lt_zero i)⟩
                  rcases hval with ⟨_, _, rfl⟩ | ⟨o, rfl, _⟩ <;> simp [Builtin.firstCells, loadCells, loadCellsFrom]
                · rcases hval with ⟨h1, _, _⟩ | ⟨o, rfl, ho⟩
                  · exact absurd h1 hl0
                  obtain ⟨rfl, _⟩ := ho (by omega)
                  obtain ⟨old, c1, c2, c3⟩ := slc_cells (P := X.P) hc hr0 hl0
                  exact ⟨old, fun w' hw => by rw [← hks]; simpa [Builtin.firstCells] using c1 w' hw, c2, c3⟩
              obtain ⟨old, ho1, ho2, ho3⟩ := hold
              have hslice : ∃ base, u = .slice base l0 c0 := by
                rcases hval with ⟨rfl, rfl, rfl⟩ | ⟨o, rfl, _⟩ <;> exact ⟨_, rfl⟩
              obtain ⟨base, rfl⟩ := hslice
              obtain ⟨z, cap, hc1, hc2, hz, hrun⟩ := run_append_grow' (ty := rt) tye hut hxt hxd (base := base) (sLen := l0) (sCap := c0) (old := old) hsrc.len (by rw [← hks]; exact hsrc.run w.drew rfl) (ho1 w.drew rfl) (by omega) hml hmb hby
              obtain ⟨ρ', p1, p2, p3, p4⟩ := hsub.drew.newArr ty0 (ks := te.ks) (n := l0 + m) (N := cap) (rows := appRows rows r0 l0 rows1) (vs := old ++ cells ++ Builtin.zeroCells z.cells (cap - (l0 + m))) (0, 0) (fun o _ ho => by omega) (Nat.le_refl _)
                (by
                  simp only [Array.size_append, size_zeroCells]
                  rw [hsrc.size, ho2, show z.cells.size = te.ks.length by rw [hks]; simpa using hz, ← Nat.add_mul, ← Nat.add_mul]
                  exact Nat.le_of_eq (by congr 1; omega)) hc1 (app_row ho2 hsrc.size ho3 hsrc.row)
              refine ⟨_, _, ρ', hrun, p1, _, _, hK cap hc1 hc2 (fun h => absurd h hroom), rfl, rfl, ?_, ?_, ?_⟩
              · rw [p2, hρ]; rfl
              · refine ⟨by rw [p2, hρ]; omega, hc1, hc2, .inr ⟨_, rfl, fun _ => ?_⟩⟩
                · rw [← hρ, p3]; exact ⟨by simp only [Nat.zero_mul, Nat.add_zero] <;> rfl, by simp⟩
              · rw [hρ] at p4; exact p4
          · exact h.elim
        · exact h.elim
      · exact h.elim
    · exact h.elim
  · exact h.elim

end
end Go.Sx
