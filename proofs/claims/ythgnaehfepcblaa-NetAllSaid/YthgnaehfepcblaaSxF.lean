/-
  Stores, new variables, structs that are built.
-/
import Derived.Test.YthgnaehfepcblaaSxE
namespace Go.Sx
section
variable {P : Program}

def A.st : A → Bool
  | .any => false
  | _ => true
theorem A.st_one {x : A} (h : x.st = true) {ρ : Env} {v : Value} (r : x.Rep ρ v) : v.oneCell' = true := by
  cases x <;> simp only [A.st, A.Rep] at h r
  case any => cases h
  case val => rw [r.1]; exact r.2
  case slc =>
    obtain ⟨_, _, _, ⟨_, _, rfl⟩ | ⟨_, rfl, _⟩⟩ := r <;> rfl
  all_goals first | (rw [r]; rfl) | (rw [r.1]; rfl) | (rw [r.2]; rfl)

def allSt : List A → Bool
  | [] => true
  | x :: r => x.st && allSt r
theorem allSt_one {ρ : Env} : ∀ {xs : List A} {vs : List Value}, allSt xs = true → RepL ρ xs vs → ∀ v ∈ vs, v.oneCell' = true
  | [], _, _, r, v, hv => by simp [RepL] at r; subst r; cases hv
  | x :: xs, _, h, ⟨u, t, e, r1, r2⟩, v, hv => by
    subst e
    simp only [allSt, Bool.and_eq_true] at h
    rcases List.mem_cons.1 hv with rfl | hv
    · exact A.st_one h.1 r1
    · exact allSt_one h.2 r2 v hv

theorem getElem?_splice (l : List Value) (o : Nat) (vs : List Value) (h : o + vs.length ≤ l.length) (p : Nat) :
    (l.take o ++ vs ++ l.drop (o + vs.length))[p]? = if o ≤ p ∧ p < o + vs.length then vs[p - o]? else l[p]? := by
  have ht : (l.take o).length = o := by simp; omega
  by_cases h1 : p < o
  · rw [List.append_assoc, List.getElem?_append_left (by omega), List.getElem?_take, if_pos h1, if_neg (by omega)]
  · by_cases h2 : p < o + vs.length
    · rw [if_pos ⟨by omega, h2⟩, List.getElem?_append_left (by simp; omega), List.getElem?_append_right (by omega), ht]
    · rw [if_neg (by omega), List.getElem?_append_right (by simp; omega), List.getElem?_drop]
      congr 1
      simp [ht]; omega

theorem RepL.splice {ρ : Env} {cs xs : List A} {vs us : List Value} (h : RepL ρ cs vs) (k : RepL ρ xs us) (c : Nat) : RepL ρ (cs.take c ++ xs ++ cs.drop (c + xs.length)) (vs.take c ++ us ++ vs.drop (c + us.length)) := by
  rw [k.length]
  exact (((h.take c).append k).append (h.drop _))

/-- does an atom fit a cell of this kind -/
def fitK : CK → A → Bool
  | .int k, .lit k' _ => keq k k'
  | .int k, .int k' _ => keq k k'
  | .bool, .tt => true
  | .bool, .ff => true
  | .bool, .bool _ => true
  | .str, .str _ => true
  | .other, .nil => true
  | .other, .snil => true
  | .other, .fn _ => true
  | .other, .val _ => true
  | .deep, .snil => true
  | .deep, .val _ => true
  | _, _ => false
def A.toV : A → Value
  | .lit k n => .int k n
  | .int k n => .int k n
  | .tt => .bool true
  | .ff => .bool false
  | .bool b => .bool b
  | .str s => .string s
  | .nil => .pointer none
  | .snil => .slice none 0 0
  | .fn f => .func (.func f) #[] #[]
  | .val v => v
  | _ => undef
theorem fitK_ok {k : CK} {x : A} (h : fitK k x = true) {ρ : Env} {v : Value} (r : x.Rep ρ v) : v = x.toV ∧ k.ok v := by
  cases k <;> cases x <;> simp only [fitK, A.Rep] at h r <;> first | (cases h; done) | skip
  case int.lit => obtain ⟨rfl, hr⟩ := r; have := keq_eq h; subst this; exact ⟨rfl, _, rfl, hr⟩
  case int.int => obtain ⟨rfl, hr⟩ := r; have := keq_eq h; subst this; exact ⟨rfl, _, rfl, hr⟩
  case bool.tt => subst r; exact ⟨rfl, _, rfl⟩
  case bool.ff => subst r; exact ⟨rfl, _, rfl⟩
  case bool.bool => subst r; exact ⟨rfl, _, rfl⟩
  case str.str => obtain ⟨rfl, hr⟩ := r; exact ⟨rfl, _, rfl, hr⟩
  case other.nil => subst r; exact ⟨rfl, rfl⟩
  case other.snil => subst r; exact ⟨rfl, rfl⟩
  case other.fn => subst r; exact ⟨rfl, rfl⟩
  case other.val => obtain ⟨rfl, hr⟩ := r; exact ⟨rfl, hr⟩
  case deep.snil => subst r; exact ⟨rfl, rfl⟩
  case deep.val => obtain ⟨rfl, hr⟩ := r; exact ⟨rfl, hr⟩

def fitKs : List CK → List A → Bool
  | _, [] => true
  | [], _ :: _ => false
  | k :: ks, x :: xs => fitK k x && fitKs ks xs
theorem fitKs_ok {ρ : Env} : ∀ {ks : List CK} {xs : List A} {vs : List Value}, fitKs ks xs = true → RepL ρ xs vs → vs = xs.map A.toV ∧ ∀ (j : Nat) (v : Value) (k : CK), vs[j]? = some v → ks[j]? = some k → k.ok v
  | _, [], _, _, r => by simp [RepL] at r; subst r; exact ⟨rfl, fun j v k hv => by simp at hv⟩
  | [], _ :: _, _, h, _ => by simp [fitKs] at h
  | k :: ks, x :: xs, _, h, ⟨u, t, e, r1, r2⟩ => by
    subst e
    simp only [fitKs, Bool.and_eq_true] at h
    obtain ⟨e1, h1⟩ := fitK_ok h.1 r1
    obtain ⟨e2, h2⟩ := fitKs_ok h.2 r2
    refine ⟨by rw [e1, e2]; rfl, fun j v k' hv hk => ?_⟩
    cases j with
    | zero => simp at hv hk; subst hv; subst hk; exact h1
    | succ j => simp at hv hk; exact h2 j v k' hv hk

/-- cells c, c + 1, .. of one row hold other values -/
def updR (rows : Nat → Nat → Value) (row c : Nat) (vs : List Value) : Nat → Nat → Value :=
  fun i j => bif Nat.ble c j && Nat.blt j (c + vs.length) then (if i = row then vs.getD (j - c) undef else rows i j) else rows i j

/-- laid out as values -/
def forceTV : List A → (List Value → Prop) → Prop
  | [], K => K []
  | x :: r, K => forceTV r fun r => K (x.toV :: r)
theorem forceTV_eq : ∀ (l : List A) (K : List Value → Prop), forceTV l K = K (l.map A.toV)
  | [], _ => rfl
  | x :: r, K => by simp only [forceTV, forceTV_eq r, List.map_cons]

def storeCh (force : Bool) (ch : Chunk) (row esz c : Nat) (xs : List A) (K : Chunk → Prop) : Prop :=
  match ch with
  | .obj ty cs => bif Nat.beq esz 0 && Nat.ble (c + xs.length) cs.length then K (.obj ty (cs.take c ++ xs ++ cs.drop (c + xs.length))) else False
  | .arr ty ks n rows => bif Nat.beq esz ks.length && (Nat.ble (c + xs.length) ks.length && fitKs (ks.drop c) xs) then need force (row < n) (forceTV xs fun vs => K (.arr ty ks n (updR rows row c vs))) else False
  | .abs _ => False

def S.put (s : S) (hp : Heap) : S := ⟨s.nt, s.fr, hp, s.nx, s.kp, s.rt⟩

def svCells : SV → Option (List A)
  | .a x => some [x]
  | .agg xs => some xs
  | .tup _ => none

def xstore (X : Cx) (t : Nat) (x v : SV) (s : S) (K : KV) : Prop :=
  match x, svCells v with
  | .a (.ptr tg row esz c), some xs =>
    match X.ti t, s.hp.find tg with
    | some ti, some (true, ch) => bif Nat.beq xs.length ti.sz && allSt xs then storeCh X.force ch row esz c xs fun ch' => K (.a .any) (s.put (s.hp.upd tg ch')) else False
    | _, _ => False
  | _, _ => False

theorem row_index {off i row esz j c len : Nat} (hj : j < esz) (hc : c + len ≤ esz) : (off + row * esz + c ≤ off + i * esz + j ∧ off + i * esz + j < off + row * esz + c + len) ↔ (i = row ∧ c ≤ j ∧ j < c + len) := by
  constructor
  · rintro ⟨h1, h2⟩
    rcases Nat.lt_trichotomy i row with h | h | h
    · have := Nat.mul_le_mul_right esz h
      rw [Nat.succ_mul] at this
      omega
    · subst h; omega
    · have := Nat.mul_le_mul_right esz h
      rw [Nat.succ_mul] at this
      omega
  · rintro ⟨rfl, h1, h2⟩; omega

theorem svCells_rep {v : SV} {xs : List A} (h : svCells v = some xs) {ρ : Env} {u : Value} (r : v.Rep ρ u) (hs : allSt xs = true) : RepL ρ xs u.cells.toList := by
  cases v with
  | a x =>
    simp [svCells] at h; subst h
    simp only [allSt, Bool.and_true] at hs
    have := A.st_one hs r
    cases u <;> first | exact ⟨_, _, rfl, r, rfl⟩ | (simp [Value.oneCell'] at this; done)
  | agg ys => simp [svCells] at h; subst h; obtain ⟨vs, rfl, hr⟩ := r; simpa [Value.cells] using hr
  | tup ys => simp [svCells] at h

theorem store_ok {X : Cx} (hX : X.Ok) {t : Nat} {x v : SV} {s : S} {K : KV} (h : xstore X t x v s K) {w0 : World} {M : Nat → Prop} {ρ : Env} {w : World} {p u : Value} (hp : x.Rep ρ p) (hv : v.Rep ρ u) (hh : HeapSat w0 M ρ s.hp w) :
    ∃ b o, p = .pointer (some ⟨b, o, none⟩) ∧ ∃ w' hp', (storeVar t ⟨b, o, none⟩ u).run X.P w = .ok () w' ∧ HeapSat w0 M ρ hp' w' ∧ K (.a .any) (s.put hp') := by
  unfold xstore at h
  split at h
  · rename_i tg row esz c xs hxs
    obtain ⟨_, rfl⟩ := hp
    refine ⟨_, _, rfl, ?_⟩
    split at h
    · rename_i ti ch hti hfind
      have ty := hX.ty hti
      have hent := hh.ent _ (Heap.find_mem hfind)
      have he := hent.ch
      simp only at he
      cases hb0 : (Nat.beq xs.length ti.sz && allSt xs)
      · simp [hb0] at h
      simp only [hb0, cond_true] at h
      simp only [Bool.and_eq_true] at hb0
      obtain ⟨hsz, hst⟩ := hb0
      have hsz' := Nat.eq_of_beq_eq_true hsz
      have hr := svCells_rep hxs hv hst
      have hone := allSt_one hst hr
      have hlen := hr.length
      have hsize : u.cells.size = ti.sz := by rw [← hsz', ← hlen]; simp
      have run : ∀ w', (storeCells ⟨(ρ.pl tg).blk, (ρ.pl tg).off + row * esz + c, none⟩ u.cells.toList).run X.P w = .ok () w' → (storeVar t ⟨(ρ.pl tg).blk, (ρ.pl tg).off + row * esz + c, none⟩ u).run X.P w = .ok () w' := by
        intro w' hw
        simp [storeVar, run_sizeOf' ty, hsize, hw]
      cases ch with
      | abs R => exact h.elim
      | obj cty cs =>
        obtain ⟨vs, fr, hb, hoff, ⟨us, ys, hus, hrep⟩, hu, hfp⟩ := he
        simp only [storeCh] at h
        cases h0 : (Nat.beq esz 0 && Nat.ble (c + xs.length) cs.length)
        · simp [h0] at h
        simp only [h0, cond_true] at h
        simp only [Bool.and_eq_true] at h0
        have h0' := Nat.eq_of_beq_eq_true h0.1
        have hle := Nat.le_of_ble_eq_true h0.2
        subst h0'
        have hadd : (ρ.pl tg).off + row * 0 + c = c := by omega
        rw [hadd] at run ⊢
        have hl := hrep.length
        have hvl : vs.size = us.length + ys.length := by rw [← Array.length_toList, hus, List.length_append]
        have hcur0 : c + u.cells.toList.length ≤ us.length := by simp at hl hlen ⊢; omega
        have hcur : c + 0 + u.cells.toList.length ≤ vs.size := by omega
        have hs := run_storeCellsU (P := X.P) (ρ.pl tg).blk c cty fr u.cells.toList 0 vs w hb (fun x _ h2 => hu x (by simp at hcur h2; omega)) hcur hone
        refine ⟨_, _, run _ hs, hh.upd hfind ((Keeps.setRow w _ _).mono fun b _ hb => (hfp b).2 hb) ?_, h⟩
        refine ⟨_, fr, setRow_heap w _ _ _ cty fr hb, hoff, ⟨_, ys, ?_, hrep.splice hr c⟩, hu.size ?_, hfp⟩
        · rw [hus, List.take_append_of_le_length (by omega), List.drop_append_of_le_length (by omega)]
          simp
        · simp at hcur ⊢; omega
      | arr cty ks n rows =>
        simp only [storeCh] at h
        cases h0 : (Nat.beq esz ks.length && (Nat.ble (c + xs.length) ks.length && fitKs (ks.drop c) xs))
        · simp [h0] at h
        simp only [h0, cond_true] at h
        simp only [Bool.and_eq_true] at h0
        obtain ⟨h1, h2, h3⟩ := h0
        have h1' := Nat.eq_of_beq_eq_true h1
        have hle := Nat.le_of_ble_eq_true h2
        subst h1'
        obtain ⟨hrow, h⟩ := need_ok h
        rw [forceTV_eq] at h
        obtain ⟨ev, hok⟩ := fitKs_ok h3 hr
        rcases he with ⟨hn, _⟩ | ⟨vs, cty, fr, hb, hfit, hnN, hu, hfp, hrows⟩
        · omega
        have hmul : row * ks.length + ks.length ≤ (ρ.pl tg).N * ks.length := by
          have := Nat.mul_le_mul_right ks.length (show row + 1 ≤ (ρ.pl tg).N by omega)
          rw [Nat.succ_mul] at this; exact this
        have hcur : (ρ.pl tg).off + row * ks.length + c + 0 + u.cells.toList.length ≤ vs.size := by omega
        have hs := run_storeCellsU (P := X.P) (ρ.pl tg).blk ((ρ.pl tg).off + row * ks.length + c) cty fr u.cells.toList 0 vs w hb (fun x h1 h2 => hu x (by omega) (by omega)) hcur hone
        refine ⟨_, _, run _ hs, hh.upd hfind ((Keeps.setRow w _ _).mono fun b _ hb => (hfp b).2 hb) ?_, h⟩
        have hsz2 : (vs.toList.take ((ρ.pl tg).off + row * ks.length + c + 0) ++ u.cells.toList ++ vs.toList.drop ((ρ.pl tg).off + row * ks.length + c + 0 + u.cells.toList.length)).toArray.size = vs.size := by simp at hcur ⊢; omega
        refine .inr ⟨_, cty, fr, setRow_heap w _ _ _ cty fr hb, by rw [hsz2]; exact hfit, hnN, hu, hfp, fun i hi j k hk => ?_⟩
        have hj : j < ks.length := (List.getElem?_eq_some_iff.1 hk).1
        obtain ⟨e1, e2⟩ := hrows i hi j k hk
        rw [List.getElem?_toArray, getElem?_splice _ _ _ (by simpa using hcur)]
        have hiff := row_index (off := (ρ.pl tg).off) (i := i) (row := row) (c := c) (len := u.cells.toList.length) hj (by omega)
        have hxl : (xs.map A.toV).length = u.cells.toList.length := by rw [← ev]
        simp only [Nat.add_zero]
        by_cases hin : i = row ∧ c ≤ j ∧ j < c + u.cells.toList.length
        · rw [if_pos (hiff.2 hin)]
          obtain ⟨rfl, hc1, hc2⟩ := hin
          have hv2 : updR rows i c (xs.map A.toV) i j = u.cells.toList.getD (j - c) undef := by
            unfold updR
            rw [show (Nat.ble c j && Nat.blt j (c + (xs.map A.toV).length)) = true by rw [hxl]; simp [Nat.blt]; omega]
            simp [ev]
          rw [hv2]
          have hidx : (ρ.pl tg).off + i * ks.length + j - ((ρ.pl tg).off + i * ks.length + c) = j - c := by omega
          rw [hidx]
          have hlt : j - c < u.cells.toList.length := by omega
          have hge : u.cells.toList[j - c]? = some (u.cells.toList.getD (j - c) undef) := by simp [List.getD, List.getElem?_eq_getElem hlt]
          exact ⟨hge, hok (j - c) _ k hge (by rw [List.getElem?_drop]; rwa [show c + (j - c) = j by omega])⟩
        · rw [if_neg fun h => hin (hiff.1 h)]
          have hv2 : updR rows row c (xs.map A.toV) i j = rows i j := by
            unfold updR
            cases hb : (Nat.ble c j && Nat.blt j (c + (xs.map A.toV).length))
            · rfl
            · rw [hxl] at hb
              simp [Nat.blt] at hb
              simp only [cond_true]
              rw [if_neg]
              intro hi'
              exact hin ⟨hi', hb.1, by have := hb.2; simp at this ⊢; omega⟩
          rw [hv2]
          exact ⟨by simpa using e1, e2⟩
    · exact h.elim
  · exact h.elim

end
end Go.Sx
