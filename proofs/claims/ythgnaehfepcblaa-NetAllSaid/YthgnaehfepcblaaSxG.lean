/-
  New variables; structs that are built; slices.
-/
import Derived.Test.YthgnaehfepcblaaSxF
namespace Go.Sx
section
/-! ### values are carried out whole -/
def forceN (n : Nat) (K : Nat → Prop) : Prop := Nat.rec (motive := fun _ => Prop) (K 0) (fun m _ => K (m + 1)) n
theorem forceN_eq (n : Nat) (K : Nat → Prop) : forceN n K = K n := by cases n <;> rfl
def forceA (x : A) (K : A → Prop) : Prop := match x with
  | .any => K .any
  | .lit k n => K (.lit k n)
  | .int k n => K (.int k n)
  | .tt => K .tt
  | .ff => K .ff
  | .bool b => K (.bool b)
  | .str s => K (.str s)
  | .nil => K .nil
  | .ptr t r e c => forceN t fun t => forceN c fun c => K (.ptr t r e c)
  | .snil => K .snil
  | .slc t r e l c => forceN t fun t => K (.slc t r e l c)
  | .fn f => K (.fn f)
  | .val v => K (.val v)
theorem forceA_eq (x : A) (K : A → Prop) : forceA x K = K x := by cases x <;> simp only [forceA, forceN_eq]
def forceL : List A → (List A → Prop) → Prop
  | [], K => K []
  | x :: r, K => forceA x fun x => forceL r fun r => K (x :: r)
theorem forceL_eq : ∀ (l : List A) (K : List A → Prop), forceL l K = K l
  | [], _ => rfl
  | x :: r, K => by simp only [forceL, forceA_eq, forceL_eq r]
def forceCV (v : CV) (K : CV → Prop) : Prop := match v with
  | .a x => forceA x fun x => K (.a x)
  | .agg xs => forceL xs fun xs => K (.agg xs)
theorem forceCV_eq (v : CV) (K : CV → Prop) : forceCV v K = K v := by cases v <;> simp only [forceCV, forceA_eq, forceL_eq]
def forceCs : List CV → (List CV → Prop) → Prop
  | [], K => K []
  | x :: r, K => forceCV x fun x => forceCs r fun r => K (x :: r)
theorem forceCs_eq : ∀ (l : List CV) (K : List CV → Prop), forceCs l K = K l
  | [], _ => rfl
  | x :: r, K => by simp only [forceCs, forceCV_eq, forceCs_eq r]
def forceV (v : SV) (K : SV → Prop) : Prop := match v with
  | .a x => forceA x fun x => K (.a x)
  | .agg xs => forceL xs fun xs => K (.agg xs)
  | .tup xs => forceCs xs fun xs => K (.tup xs)
theorem forceV_eq (v : SV) (K : SV → Prop) : forceV v K = K v := by cases v <;> simp only [forceV, forceA_eq, forceL_eq, forceCs_eq]

variable {P : Program}

/-- a new entry, its pointer -/
def S.new (s : S) (ch : Chunk) : S := ⟨s.nt, s.fr, ⟨s.nx, true, ch⟩ :: s.hp, s.nx + 1, s.kp, s.rt⟩

theorem run_newVar' (w : World) (t : TypeId) (v : Value) : (newVar t v).run P w = .ok ⟨w.heap.size, 0, none⟩ (w.alloc (.cells v.cells t)) := by
  simp [newVar, newRow]

theorem heap_alloc (w : World) (o : Obj) : (w.alloc o).heap[w.heap.size]? = some o := by
  show (w.heap.push o)[w.heap.size]? = _
  simp

/-- a new block that is known whole -/
theorem HeapSat.newObj {w0 : World} {M : Nat → Prop} {ρ : Env} {w : World} {hp : Heap} (r : HeapSat w0 M ρ hp w) (t : TypeId) {cs : List A} {vs : Array Value} (h : RepL ρ cs vs.toList) :
    ∃ ρ' : Env, ρ.le ρ' ∧ ρ'.n = ρ.n + 1 ∧ ρ'.pl ρ.n = ⟨w.heap.size, 0, 0, fun b => b = w.heap.size⟩ ∧ HeapSat w0 M ρ' (⟨ρ.n, true, .obj t cs⟩ :: hp) (w.alloc (.cells vs t)) := by
  refine ⟨ρ.ext ⟨w.heap.size, 0, 0, fun b => b = w.heap.size⟩, ρ.le_ext _, rfl, ρ.ext_new _, r.alloc _ _ (fun _ => Iff.rfl) (frz_alloc w _ _ _ (Nat.le_refl _)) ?_⟩
  exact ⟨vs, (0, 0), heap_alloc w _, rfl, ⟨vs.toList, [], by simp, h.mono (ρ.le_ext _)⟩, fun o _ ho => by omega, fun _ => Iff.rfl⟩

/-- likewise, so many rows of it may be told -/
theorem HeapSat.newObjN {w0 : World} {M : Nat → Prop} {ρ : Env} {w : World} {hp : Heap} (r : HeapSat w0 M ρ hp w) (t : TypeId) (N : Nat) {cs : List A} {vs : Array Value} (h : RepL ρ cs vs.toList) :
    ∃ ρ' : Env, ρ.le ρ' ∧ ρ'.n = ρ.n + 1 ∧ ρ'.pl ρ.n = ⟨w.heap.size, 0, N, fun b => b = w.heap.size⟩ ∧ HeapSat w0 M ρ' (⟨ρ.n, true, .obj t cs⟩ :: hp) (w.alloc (.cells vs t)) := by
  refine ⟨ρ.ext ⟨w.heap.size, 0, N, fun b => b = w.heap.size⟩, ρ.le_ext _, rfl, ρ.ext_new _, r.alloc _ _ (fun _ => Iff.rfl) (frz_alloc w _ _ _ (Nat.le_refl _)) ?_⟩
  exact ⟨vs, (0, 0), heap_alloc w _, rfl, ⟨vs.toList, [], by simp, h.mono (ρ.le_ext _)⟩, fun o _ ho => by omega, fun _ => Iff.rfl⟩

/-- likewise, more cells behind them -/
theorem HeapSat.newObjP {w0 : World} {M : Nat → Prop} {ρ : Env} {w : World} {hp : Heap} (r : HeapSat w0 M ρ hp w) (t : TypeId) (N : Nat) {cs : List A} {vs : Array Value} {us xs : List Value} (hvs : vs.toList = us ++ xs) (h : RepL ρ cs us) :
    ∃ ρ' : Env, ρ.le ρ' ∧ ρ'.n = ρ.n + 1 ∧ ρ'.pl ρ.n = ⟨w.heap.size, 0, N, fun b => b = w.heap.size⟩ ∧ HeapSat w0 M ρ' (⟨ρ.n, true, .obj t cs⟩ :: hp) (w.alloc (.cells vs t)) := by
  refine ⟨ρ.ext ⟨w.heap.size, 0, N, fun b => b = w.heap.size⟩, ρ.le_ext _, rfl, ρ.ext_new _, r.alloc _ _ (fun _ => Iff.rfl) (frz_alloc w _ _ _ (Nat.le_refl _)) ?_⟩
  exact ⟨vs, (0, 0), heap_alloc w _, rfl, ⟨us, xs, hvs, h.mono (ρ.le_ext _)⟩, fun o _ ho => by omega, fun _ => Iff.rfl⟩

/-- a new block of rows -/
theorem HeapSat.newArr {w0 : World} {M : Nat → Prop} {ρ : Env} {w : World} {hp : Heap} (r : HeapSat w0 M ρ hp w) (t : TypeId) {ks : List CK} {n N : Nat} {rows : Nat → Nat → Value} {vs : Array Value} (fr : Nat × Nat) (hu : Unfrozen vs.size fr) (hfr : fr.2 ≤ fr.1)
    (hN : N * ks.length ≤ vs.size) (hn : n ≤ N) (h : ∀ i, i < n → ∀ (j : Nat) (k : CK), ks[j]? = some k → vs[i * ks.length + j]? = some (rows i j) ∧ k.ok (rows i j)) :
    ∃ ρ' : Env, ρ.le ρ' ∧ ρ'.n = ρ.n + 1 ∧ ρ'.pl ρ.n = ⟨w.heap.size, 0, N, fun b => b = w.heap.size⟩ ∧ HeapSat w0 M ρ' (⟨ρ.n, true, .arr t ks n rows⟩ :: hp) (w.alloc (.cells vs t fr)) := by
  refine ⟨ρ.ext ⟨w.heap.size, 0, N, fun b => b = w.heap.size⟩, ρ.le_ext _, rfl, ρ.ext_new _, r.alloc _ _ (fun _ => Iff.rfl) (frz_alloc w _ _ _ hfr) ?_⟩
  refine .inr ⟨vs, t, fr, heap_alloc w _, by simpa using hN, hn, fun x _ h2 => hu x (by simp only at h2; omega), fun _ => Iff.rfl, fun i hi j k hk => ?_⟩
  simpa using h i hi j k hk

def xalloc (X : Cx) (t : Nat) (s : S) (K : KV) : Prop :=
  match X.ti t with
  | some ti => K (.a (.ptr s.nx 0 0 0)) (s.new (.obj t ti.zero))
  | none => False

theorem alloc_ok {X : Cx} (hX : X.Ok) {t : Nat} {s : S} {K : KV} (h : xalloc X t s K) {w0 : World} {M : Nat → Prop} {ρ : Env} (hρ : ρ.n = s.nx) {w : World} (hh : HeapSat w0 M ρ s.hp w) :
    ∃ u w' ρ', (Instr.alloc t true (.tuple #[])).run X.P w = .ok u w' ∧ ρ.le ρ' ∧ ∃ sv s', K sv s' ∧ s'.nt = s.nt ∧ s'.fr = s.fr ∧ ρ'.n = s'.nx ∧ sv.Rep ρ' u ∧ HeapSat w0 M ρ' s'.hp w' := by
  unfold xalloc at h
  split at h
  · rename_i ti hti
    have ty := hX.ty hti
    obtain ⟨z, hz, _, hzero, hok, _⟩ := run_zeroValue' ty
    obtain ⟨ρ', h1, h2, h3, h4⟩ := hh.newObj t (cs := ti.zero) (vs := z.cells) (by rw [hzero]; exact RepL_map_aOfV ρ hok)
    refine ⟨.pointer (some ⟨w.heap.size, 0, none⟩), w.alloc (.cells z.cells t), ρ', by simp [Instr.alloc, hz, run_newVar'], h1, _, _, h, rfl, rfl, ?_, ?_, ?_⟩
    · rw [h2, hρ]; rfl
    · refine ⟨by rw [h2, hρ]; omega, ?_⟩
      rw [← hρ, h3]
    · rw [hρ] at h4; exact h4
  · exact h.elim

def xbox (t : Nat) (v : SV) (s : S) (K : KV) : Prop :=
  match svCells v with
  | some xs => bif allSt xs then K (.a (.ptr s.nx 0 0 0)) (s.new (.obj t xs)) else False
  | none => False

theorem box_ok {P : Program} {t : Nat} {v : SV} {s : S} {K : KV} (h : xbox t v s K) {w0 : World} {M : Nat → Prop} {ρ : Env} (hρ : ρ.n = s.nx) {w : World} (hh : HeapSat w0 M ρ s.hp w) {x : Value} (hv : v.Rep ρ x) :
    ∃ u w' ρ', (Instr.box t x).run P w = .ok u w' ∧ ρ.le ρ' ∧ ∃ sv s', K sv s' ∧ s'.nt = s.nt ∧ s'.fr = s.fr ∧ ρ'.n = s'.nx ∧ sv.Rep ρ' u ∧ HeapSat w0 M ρ' s'.hp w' := by
  unfold xbox at h
  split at h
  · rename_i xs hxs
    cases hst : allSt xs
    · simp [hst] at h
    simp only [hst, cond_true] at h
    have hr := svCells_rep hxs hv hst
    obtain ⟨ρ', h1, h2, h3, h4⟩ := hh.newObj t (vs := x.cells) hr
    refine ⟨.pointer (some ⟨w.heap.size, 0, none⟩), w.alloc (.cells x.cells t), ρ', by simp [Instr.box, run_newVar'], h1, _, _, h, rfl, rfl, ?_, ?_, ?_⟩
    · rw [h2, hρ]; rfl
    · refine ⟨by rw [h2, hρ]; omega, ?_⟩
      rw [← hρ, h3]
    · rw [hρ] at h4; exact h4
  · exact h.elim

/-! ### building -/

/-- parts laid into cells: each at its offset, of its size -/
def lay : List A → List (Nat × Nat × SV) → Option (List A)
  | cs, [] => some cs
  | cs, (off, sz, v) :: r =>
    match svCells v with
    | some xs => bif Nat.beq xs.length sz && (allSt xs && Nat.ble (off + sz) cs.length) then lay (cs.take off ++ xs ++ cs.drop (off + xs.length)) r else none
    | none => none

theorem foldl_set (off : Nat) : ∀ (us : List Value) (k : Nat) (cells : Array Value), off + k + us.length ≤ cells.size →
    ((us.zipIdx k).foldl (fun cs (c, j) => cs.setIfInBounds (off + j) c) cells).toList = cells.toList.take (off + k) ++ us ++ cells.toList.drop (off + k + us.length)
  | [], k, cells, _ => by simp
  | u :: us, k, cells, h => by
    simp only [List.zipIdx_cons, List.foldl_cons]
    rw [foldl_set off us (k + 1) _ (by simp at h ⊢; omega)]
    have e := list_seg_step cells.toList (off + k) u us (by simp at h ⊢; omega)
    simpa [Array.toList_setIfInBounds, Nat.add_assoc] using e

theorem fill_cons (place : Nat → Option (Nat × Nat)) (cells : Array Value) (i : Nat) (v : Value) (r : List (Nat × Value)) (off size : Nat) (hp : place i = some (off, size)) (hs : v.cells.size = size) (hle : off + size ≤ cells.size) :
    Instr.fill place cells ((i, v) :: r) = Instr.fill place (cells.toList.take off ++ v.cells.toList ++ cells.toList.drop (off + v.cells.toList.length)).toArray r := by
  simp only [Instr.fill, hp]
  rw [if_neg (by simp [hs]; omega)]
  congr 1
  have := foldl_set off v.cells.toList 0 cells (by simp; omega)
  apply Array.toList_inj.1
  simp only [Nat.add_zero] at this
  rw [← this, ← Array.foldl_toList]
  simp

theorem fill_ok (place : Nat → Option (Nat × Nat)) {ρ : Env} : ∀ (parts : List (Nat × Nat × SV)) (vals : List (Nat × Value)) (cs : List A) (cells : Array Value) (out : List A),
    RepL ρ cs cells.toList → lay cs parts = some out → parts.length = vals.length →
    (∀ (i off sz : Nat) (sv : SV), parts[i]? = some (off, sz, sv) → ∃ k v, vals[i]? = some (k, v) ∧ place k = some (off, sz) ∧ sv.Rep ρ v) →
    ∃ res, Instr.fill place cells vals = some res ∧ RepL ρ out res.toList ∧ res.size = cells.size
  | [], [], cs, cells, out, h, ho, _, _ => by simp [lay] at ho; subst ho; exact ⟨cells, rfl, h, rfl⟩
  | [], _ :: _, _, _, _, _, _, hl, _ => by simp at hl
  | _ :: _, [], _, _, _, _, _, hl, _ => by simp at hl
  | (off, sz, sv) :: parts, (k, v) :: vals, cs, cells, out, h, ho, hl, hp => by
    obtain ⟨k', v', e, hpl, hrep⟩ := hp 0 off sz sv rfl
    simp at e
    obtain ⟨rfl, rfl⟩ := e
    simp only [lay] at ho
    split at ho
    · rename_i xs hxs
      cases hb : (Nat.beq xs.length sz && (allSt xs && Nat.ble (off + sz) cs.length))
      · simp [hb] at ho
      simp only [hb, cond_true] at ho
      simp only [Bool.and_eq_true] at hb
      obtain ⟨h1, h2, h3⟩ := hb
      have h1' := Nat.eq_of_beq_eq_true h1
      have h3' := Nat.le_of_ble_eq_true h3
      have hr := svCells_rep hxs hrep h2
      have hlen := hr.length
      have hcl := h.length
      have hsz : v.cells.size = sz := by rw [← h1', ← hlen]; simp
      have hle : off + sz ≤ cells.size := by simpa using (show off + sz ≤ cells.toList.length by omega)
      have step := fill_cons place cells k v vals off sz hpl hsz hle
      have hs := h.splice hr off
      obtain ⟨res, r1, r2, r3⟩ := fill_ok place parts vals _ (cells.toList.take off ++ v.cells.toList ++ cells.toList.drop (off + v.cells.toList.length)).toArray out (by simpa using hs) ho (by simpa using hl)
        (fun i off sz sv hi => by
          obtain ⟨k, v, a, b, c⟩ := hp (i + 1) off sz sv (by simpa using hi)
          exact ⟨k, v, by simpa using a, b, c⟩)
      refine ⟨res, by rw [step]; exact r1, r2, ?_⟩
      rw [r3]; simp; omega
    · cases ho

end
end Go.Sx
