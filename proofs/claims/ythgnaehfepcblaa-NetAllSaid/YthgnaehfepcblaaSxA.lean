/-
  The symbolic values, the heap assertions and the state relation of a symbolic executor over the model's code.
-/
import Derived.WalkKit
namespace Go.Sx

/-- a number fits its kind, with the numerals written out -/
def InR : IntKind → Int → Prop
  | .i8, n => -128 ≤ n ∧ n ≤ 127
  | .i16, n => -32768 ≤ n ∧ n ≤ 32767
  | .i32, n => -2147483648 ≤ n ∧ n ≤ 2147483647
  | .i64, n => -9223372036854775808 ≤ n ∧ n ≤ 9223372036854775807
  | .u8, n => 0 ≤ n ∧ n ≤ 255
  | .u16, n => 0 ≤ n ∧ n ≤ 65535
  | .u32, n => 0 ≤ n ∧ n ≤ 4294967295
  | .u64, n => 0 ≤ n ∧ n ≤ 18446744073709551615

theorem InR_iff (k : IntKind) (n : Int) : InR k n ↔ k.min ≤ n ∧ n ≤ k.max := by
  cases k <;> simp [InR, IntKind.min, IntKind.max, IntKind.signed, IntKind.bits]

theorem wrap_of_InR {k : IntKind} {n : Int} (h : InR k n) : k.wrap n = n := by
  cases k <;> simp [InR] at h <;> simp [IntKind.wrap, IntKind.signed, IntKind.bits] <;> omega

theorem InR_wrap (k : IntKind) (n : Int) : InR k (k.wrap n) := by
  cases k <;> simp [InR, IntKind.wrap, IntKind.signed, IntKind.bits] <;> omega

/-- the largest length -/
def lenMax : Nat := 9223372036854775807

/-- a place in memory that a tag stands for: block, offset of its first cell, how many rows there are room for, the blocks that it owns -/
structure Place where
  blk : Nat
  off : Nat
  N : Nat
  fp : Nat → Prop

/-- which place each tag below 'n' stands for -/
structure Env where
  n : Nat
  pl : Nat → Place

structure Env.le (a b : Env) : Prop where
  n : a.n ≤ b.n
  pl : ∀ t, t < a.n → b.pl t = a.pl t
theorem Env.le.refl (a : Env) : a.le a := ⟨Nat.le_refl _, fun _ _ => rfl⟩
theorem Env.le.trans {a b c : Env} (h : a.le b) (k : b.le c) : a.le c :=
  ⟨Nat.le_trans h.n k.n, fun t ht => (k.pl t (Nat.lt_of_lt_of_le ht h.n)).trans (h.pl t ht)⟩

/-- a scalar: 'lit' a numeral, 'int' whatever number; 'tt', 'ff' known bools; a pointer to cell 'c' of row 'row' (rows of 'esz' cells) of a tag; a slice from row 'row' on -/
inductive A where
  | any
  | lit (k : IntKind) (n : Int)
  | int (k : IntKind) (n : Int)
  | tt
  | ff
  | bool (b : Bool)
  | str (s : ByteArray)
  | nil
  | ptr (t : Nat) (row esz c : Nat)
  | snil
  | slc (t : Nat) (row esz len cap : Nat)
  | fn (f : Nat)
  | val (v : Value)

inductive CV where
  | a (x : A)
  | agg (xs : List A)

inductive SV where
  | a (x : A)
  | agg (xs : List A)
  | tup (xs : List CV)

def A.Rep (ρ : Env) : A → Value → Prop
  | .any, _ => True
  | .lit k n, v => v = .int k n ∧ InR k n
  | .int k n, v => v = .int k n ∧ InR k n
  | .tt, v => v = .bool true
  | .ff, v => v = .bool false
  | .bool b, v => v = .bool b
  | .str s, v => v = .string s ∧ s.size ≤ lenMax
  | .nil, v => v = .pointer none
  | .ptr t row esz c, v => t < ρ.n ∧ v = .pointer (some ⟨(ρ.pl t).blk, (ρ.pl t).off + row * esz + c, none⟩)
  | .snil, v => v = .slice none 0 0
  | .slc t row esz len cap, v => t < ρ.n ∧ len ≤ cap ∧ cap ≤ lenMax ∧
      ((len = 0 ∧ cap = 0 ∧ v = .slice none 0 0) ∨
       ∃ a : Addr, v = .slice (some a) len cap ∧ (cap ≠ 0 → a = ⟨(ρ.pl t).blk, (ρ.pl t).off + row * esz, none⟩ ∧ row + cap ≤ (ρ.pl t).N))
  | .fn f, v => v = .func (.func f) #[] #[]
  | .val x, v => v = x ∧ x.oneCell' = true

theorem A.Rep.mono {ρ ρ' : Env} (h : ρ.le ρ') {x : A} {v : Value} (r : x.Rep ρ v) : x.Rep ρ' v := by
  cases x <;> simp only [A.Rep] at r ⊢ <;> try exact r
  case ptr t row esz c =>
    obtain ⟨ht, rfl⟩ := r
    exact ⟨Nat.lt_of_lt_of_le ht h.n, by rw [h.pl t ht]⟩
  case slc t row esz len cap =>
    obtain ⟨ht, h1, h2, h3⟩ := r
    refine ⟨Nat.lt_of_lt_of_le ht h.n, h1, h2, ?_⟩
    rw [h.pl t ht]; exact h3

/-- cell by cell -/
def RepL (ρ : Env) : List A → List Value → Prop
  | [], vs => vs = []
  | x :: xs, vs => ∃ v r, vs = v :: r ∧ x.Rep ρ v ∧ RepL ρ xs r

theorem RepL.mono {ρ ρ' : Env} (h : ρ.le ρ') : ∀ {xs : List A} {vs : List Value}, RepL ρ xs vs → RepL ρ' xs vs
  | [], _, r => r
  | _ :: _, _, ⟨v, t, e, r1, r2⟩ => ⟨v, t, e, r1.mono h, RepL.mono h r2⟩

theorem RepL.length {ρ : Env} : ∀ {xs : List A} {vs : List Value}, RepL ρ xs vs → vs.length = xs.length
  | [], _, r => by simp [RepL] at r; simp [r]
  | _ :: _, _, ⟨_, _, e, _, r2⟩ => by subst e; simp [RepL.length r2]

theorem RepL.get {ρ : Env} : ∀ {xs : List A} {vs : List Value}, RepL ρ xs vs → ∀ {i : Nat} {x : A}, xs[i]? = some x → ∃ v, vs[i]? = some v ∧ x.Rep ρ v
  | [], _, _, i, x, h => by simp at h
  | y :: ys, _, ⟨v, t, e, r1, r2⟩, i, x, h => by
    subst e
    cases i with
    | zero => simp at h; subst h; exact ⟨v, by simp, r1⟩
    | succ i => simp at h; obtain ⟨u, hu, hr⟩ := RepL.get r2 h; exact ⟨u, by simpa using hu, hr⟩

theorem RepL.set {ρ : Env} : ∀ {xs : List A} {vs : List Value}, RepL ρ xs vs → ∀ (i : Nat) {x : A} {v : Value}, x.Rep ρ v → RepL ρ (xs.set i x) (vs.set i v)
  | [], _, r, i, x, v, _ => by simp [RepL] at r; subst r; simp [RepL]
  | y :: ys, _, ⟨u, t, e, r1, r2⟩, i, x, v, hx => by
    subst e
    cases i with
    | zero => exact ⟨v, t, by simp, hx, r2⟩
    | succ i => exact ⟨u, t.set i v, by simp, r1, RepL.set r2 i hx⟩

theorem RepL.append {ρ : Env} : ∀ {xs ys : List A} {vs us : List Value}, RepL ρ xs vs → RepL ρ ys us → RepL ρ (xs ++ ys) (vs ++ us)
  | [], _, _, _, r, s => by simp [RepL] at r; subst r; simpa using s
  | _ :: _, _, _, _, ⟨u, t, e, r1, r2⟩, s => by subst e; exact ⟨u, t ++ _, by simp, r1, RepL.append r2 s⟩

theorem RepL.drop {ρ : Env} : ∀ (n : Nat) {xs : List A} {vs : List Value}, RepL ρ xs vs → RepL ρ (xs.drop n) (vs.drop n)
  | 0, _, _, r => by simpa using r
  | n + 1, [], _, r => by simp [RepL] at r; subst r; simp [RepL]
  | n + 1, _ :: _, _, ⟨_, _, e, _, r2⟩ => by subst e; simpa using RepL.drop n r2

theorem RepL.take {ρ : Env} : ∀ (n : Nat) {xs : List A} {vs : List Value}, RepL ρ xs vs → RepL ρ (xs.take n) (vs.take n)
  | 0, _, _, _ => by simp [RepL]
  | n + 1, [], _, r => by simp [RepL] at r; subst r; simp [RepL]
  | n + 1, _ :: _, _, ⟨u, t, e, r1, r2⟩ => by subst e; exact ⟨u, t.take n, by simp, r1, RepL.take n r2⟩

def CV.Rep (ρ : Env) : CV → Value → Prop
  | .a x, v => x.Rep ρ v
  | .agg xs, v => ∃ vs : List Value, v = .agg vs.toArray ∧ RepL ρ xs vs
theorem CV.Rep.mono {ρ ρ' : Env} (h : ρ.le ρ') : ∀ {x : CV} {v : Value}, x.Rep ρ v → x.Rep ρ' v
  | .a _, _, r => A.Rep.mono h r
  | .agg _, _, ⟨vs, e, r⟩ => ⟨vs, e, r.mono h⟩

def RepC (ρ : Env) : List CV → List Value → Prop
  | [], vs => vs = []
  | x :: xs, vs => ∃ v r, vs = v :: r ∧ x.Rep ρ v ∧ RepC ρ xs r
theorem RepC.mono {ρ ρ' : Env} (h : ρ.le ρ') : ∀ {xs : List CV} {vs : List Value}, RepC ρ xs vs → RepC ρ' xs vs
  | [], _, r => r
  | _ :: _, _, ⟨v, t, e, r1, r2⟩ => ⟨v, t, e, r1.mono h, RepC.mono h r2⟩
theorem RepC.get {ρ : Env} : ∀ {xs : List CV} {vs : List Value}, RepC ρ xs vs → ∀ {i : Nat} {x : CV}, xs[i]? = some x → ∃ v, vs[i]? = some v ∧ x.Rep ρ v
  | [], _, _, i, x, h => by simp at h
  | y :: ys, _, ⟨v, t, e, r1, r2⟩, i, x, h => by
    subst e
    cases i with
    | zero => simp at h; subst h; exact ⟨v, by simp, r1⟩
    | succ i => simp at h; obtain ⟨u, hu, hr⟩ := RepC.get r2 h; exact ⟨u, by simpa using hu, hr⟩

def CV.sv : CV → SV
  | .a x => .a x
  | .agg xs => .agg xs

def SV.Rep (ρ : Env) : SV → Value → Prop
  | .a x, v => x.Rep ρ v
  | .agg xs, v => ∃ vs : List Value, v = .agg vs.toArray ∧ RepL ρ xs vs
  | .tup xs, v => ∃ vs : List Value, v = .tuple vs.toArray ∧ RepC ρ xs vs
theorem SV.Rep.mono {ρ ρ' : Env} (h : ρ.le ρ') : ∀ {x : SV} {v : Value}, x.Rep ρ v → x.Rep ρ' v
  | .a _, _, r => A.Rep.mono h r
  | .agg _, _, ⟨vs, e, r⟩ => ⟨vs, e, r.mono h⟩
  | .tup _, _, ⟨vs, e, r⟩ => ⟨vs, e, r.mono h⟩
theorem CV.Rep.sv {ρ : Env} : ∀ {x : CV} {v : Value}, x.Rep ρ v → x.sv.Rep ρ v
  | .a _, _, r => r
  | .agg _, _, r => r

/-! ### the heap -/

/-- what a cell of a row of an array may hold -/
inductive CK where
  | int (k : IntKind)
  | bool
  | str
  | other
  /-- whatever value, told as it is -/
  | deep
  deriving DecidableEq

def CK.ok : CK → Value → Prop
  | .int k, v => ∃ n, v = .int k n ∧ InR k n
  | .bool, v => ∃ b, v = .bool b
  | .str, v => ∃ s, v = .string s ∧ s.size ≤ lenMax
  | .other, v => v.oneCell' = true
  | .deep, v => v.oneCell' = true
theorem CK.ok.one {k : CK} {v : Value} (h : k.ok v) : v.oneCell' = true := by
  cases k <;> simp only [CK.ok] at h <;> first | exact h | (obtain ⟨_, rfl⟩ := h; rfl) | (obtain ⟨_, rfl, _⟩ := h; rfl)

inductive Chunk where
  /-- a block that begins with these cells -/
  | obj (ty : TypeId) (cs : List A)
  /-- 'n' rows of 'ks.length' cells each -/
  | arr (ty : TypeId) (ks : List CK) (n : Nat) (rows : Nat → Nat → Value)
  /-- whatever holds of the world at this place -/
  | abs (R : Place → World → Prop)

structure Ent where
  tag : Nat
  wr : Bool
  ch : Chunk
abbrev Heap := List Ent

/-- no cell of this part is frozen -/
def UnfrozenIn (lo hi : Nat) (fr : Nat × Nat) : Prop := ∀ o, lo ≤ o → o < hi → ¬ (fr.1 ≤ o ∧ o < fr.2)
/-- no cell of the block is frozen -/
def Unfrozen (n : Nat) (fr : Nat × Nat) : Prop := ∀ o, o < n → ¬ (fr.1 ≤ o ∧ o < fr.2)

def Chunk.Sat (ρ : Env) (p : Place) (w : World) : Chunk → Prop
  | .obj ty cs => ∃ vs fr, w.heap[p.blk]? = some (.cells vs ty fr) ∧ p.off = 0 ∧ (∃ us xs, vs.toList = us ++ xs ∧ RepL ρ cs us) ∧ Unfrozen vs.size fr ∧ (∀ b, p.fp b ↔ b = p.blk)
  | .arr _ ks n rows => (n = 0 ∧ p.N = 0 ∧ ∀ b, ¬ p.fp b) ∨
      ∃ vs ty' fr, w.heap[p.blk]? = some (.cells vs ty' fr) ∧ p.off + p.N * ks.length ≤ vs.size ∧ n ≤ p.N ∧ UnfrozenIn p.off (p.off + p.N * ks.length) fr ∧ (∀ b, p.fp b ↔ b = p.blk) ∧
        ∀ i, i < n → ∀ j k, ks[j]? = some k → vs[p.off + i * ks.length + j]? = some (rows i j) ∧ k.ok (rows i j)
  | .abs R => ∀ w' : World, (∀ b, p.fp b → w'.heap[b]? = w.heap[b]?) → R p w'

/-- what was there stays, but for the blocks in M -/
structure Keeps (M : Nat → Prop) (w w' : World) : Prop where
  os : w'.os = w.os
  tape : w'.tape = w.tape
  output : w'.output = w.output
  size : w.heap.size ≤ w'.heap.size
  block : ∀ b, b < w.heap.size → ¬ M b → w'.heap[b]? = w.heap[b]?
  frz : ∀ a : Addr, a.block < w.heap.size → w'.frozen? a = w.frozen? a
theorem Keeps.refl (M : Nat → Prop) (w : World) : Keeps M w w := ⟨rfl, rfl, rfl, Nat.le_refl _, fun _ _ _ => rfl, fun _ _ => rfl⟩
theorem Keeps.trans {M : Nat → Prop} {a b c : World} (h : Keeps M a b) (k : Keeps M b c) : Keeps M a c :=
  ⟨k.os.trans h.os, k.tape.trans h.tape, k.output.trans h.output, Nat.le_trans h.size k.size,
   fun x hx hm => (k.block x (Nat.lt_of_lt_of_le hx h.size) hm).trans (h.block x hx hm), fun a ha => (k.frz a (Nat.lt_of_lt_of_le ha h.size)).trans (h.frz a ha)⟩
theorem Keeps.mono {M M' : Nat → Prop} {a b : World} (h : Keeps M a b) (hm : ∀ x, x < a.heap.size → M x → M' x) : Keeps M' a b :=
  ⟨h.os, h.tape, h.output, h.size, fun x hx hn => h.block x hx fun hx' => hn (hm x hx hx'), h.frz⟩

structure Ent.Sat (w0 : World) (M : Nat → Prop) (ρ : Env) (w : World) (e : Ent) : Prop where
  tag : e.tag < ρ.n
  ch : e.ch.Sat ρ (ρ.pl e.tag) w
  lt : ∀ b, (ρ.pl e.tag).fp b → b < w.heap.size
  own : e.wr = true → ∀ b, (ρ.pl e.tag).fp b → b < w0.heap.size → M b

def Apart (ρ : Env) (x y : Ent) : Prop := x.tag ≠ y.tag ∧ ((x.wr || y.wr) = true → ∀ b, (ρ.pl x.tag).fp b → ¬ (ρ.pl y.tag).fp b)

structure HeapSat (w0 : World) (M : Nat → Prop) (ρ : Env) (hp : Heap) (w : World) : Prop where
  keeps : Keeps M w0 w
  ent : ∀ e ∈ hp, e.Sat w0 M ρ w
  apart : hp.Pairwise (Apart ρ)

/-! ### frames and states -/

def look : List (Nat × SV) → Nat → SV
  | [], _ => .a .any
  | (j, v) :: r, i => bif Nat.beq j i then v else look r i

def rem : List Nat → Nat → List Nat
  | [], _ => []
  | x :: r, j => bif Nat.beq x j then rem r j else x :: rem r j
def memN : List Nat → Nat → Bool
  | [], _ => false
  | x :: r, j => bif Nat.beq x j then true else memN r j
/-- the slots that are named, each once -/
def only : List (Nat × SV) → List Nat → List (Nat × SV)
  | [], _ => []
  | (j, v) :: r, ks => bif memN ks j then (j, v) :: only r (rem ks j) else only r ks

/-- 'nt': so many slots; 'kp': the slots that live beyond a region; 'rt': tags that callers hold -/
structure S where
  nt : Nat
  fr : List (Nat × SV)
  hp : Heap
  nx : Nat
  kp : List Nat
  rt : List Nat

def S.get (s : S) (i : Nat) : SV := look s.fr i
def S.set (s : S) (i : Nat) (v : SV) : S := ⟨s.nt, (i, v) :: s.fr, s.hp, s.nx, s.kp, s.rt⟩

theorem memN_rem {i j : Nat} : ∀ {ks : List Nat}, memN ks i = false → memN (rem ks j) i = false
  | [], _ => rfl
  | x :: r, h => by
    simp only [memN] at h
    have hx : Nat.beq x i = false := by cases hb : Nat.beq x i <;> simp [hb] at h ⊢
    rw [hx] at h
    simp only [rem]
    cases Nat.beq x j
    · simp only [cond_false, memN, hx]; exact memN_rem h
    · exact memN_rem h
theorem look_only_none {j : Nat} : ∀ {l : List (Nat × SV)} {ks : List Nat}, memN ks j = false → look (only l ks) j = .a .any
  | [], _, _ => rfl
  | (k, v) :: r, ks, h => by
    simp only [only]
    cases hk : memN ks k
    · exact look_only_none h
    · simp only [cond_true, look]
      have hne : Nat.beq k j = false := by
        rw [Bool.eq_false_iff]; intro hh; have := Nat.eq_of_beq_eq_true hh; subst this; rw [h] at hk; cases hk
      rw [hne]; exact look_only_none (memN_rem h)
theorem look_only (l : List (Nat × SV)) (ks : List Nat) (j : Nat) : look (only l ks) j = look l j ∨ look (only l ks) j = .a .any := by
  induction l generalizing ks with
  | nil => exact .inl rfl
  | cons p l ih =>
    obtain ⟨k, v⟩ := p
    simp only [only]
    cases hk : memN ks k
    · simp only [cond_false, look]
      cases hb : Nat.beq k j
      · simpa using ih ks
      · have := Nat.eq_of_beq_eq_true hb
        subst this
        exact .inr (look_only_none hk)
    · simp only [cond_true, look]
      cases Nat.beq k j
      · simpa using ih (rem ks k)
      · exact .inl rfl

/-- each slot that is named holds what is said -/
def FrameSat (ρ : Env) (fr : List (Nat × SV)) (tmps : Array Value) : Prop := ∀ i, (look fr i).Rep ρ (tmps.getD i undef)

theorem FrameSat.mono {ρ ρ' : Env} (h : ρ.le ρ') {fr : List (Nat × SV)} {tmps : Array Value} (r : FrameSat ρ fr tmps) : FrameSat ρ' fr tmps := fun i => (r i).mono h

theorem FrameSat.set {ρ : Env} {fr : List (Nat × SV)} {tmps : Array Value} (r : FrameSat ρ fr tmps) {i : Nat} (hi : i < tmps.size) {sv : SV} {v : Value} (h : sv.Rep ρ v) :
    FrameSat ρ ((i, sv) :: fr) (tmps.setIfInBounds i v) := by
  intro j
  simp only [look]
  by_cases hj : i = j
  · subst hj
    have : Nat.beq i i = true := by simp
    simp only [this, cond_true]
    simpa [Array.getD, hi] using h
  · have : Nat.beq i j = false := by
      rw [Bool.eq_false_iff]; intro hh; exact hj (Nat.eq_of_beq_eq_true hh)
    simp only [this, cond_false]
    have := r j
    simpa [Array.getD_eq_getD_getElem?, Array.getElem?_setIfInBounds_ne hj] using this

theorem FrameSat.only {ρ : Env} {fr : List (Nat × SV)} {tmps : Array Value} (r : FrameSat ρ fr tmps) (ks : List Nat) : FrameSat ρ (only fr ks) tmps := by
  intro i
  rcases look_only fr ks i with h | h <;> rw [h]
  · exact r i
  · exact trivial

end Go.Sx
