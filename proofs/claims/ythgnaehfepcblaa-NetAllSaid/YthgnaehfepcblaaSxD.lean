/-
  The operations that make no memory and write none.
-/
import Derived.Test.YthgnaehfepcblaaSxC
namespace Go.Sx

abbrev KV := SV → S → Prop

def S.ev (s : S) : Operand → SV
  | .tmp t => look s.fr t
  | .const v => svOfV v
  | .global _ => .a .any
  | .func f => .a (.fn f)

theorem FrameSat.ev {ρ : Env} {s : S} {a : Act} (h : FrameSat ρ s.fr a.tmps) (x : Operand) : (s.ev x).Rep ρ (a.eval x) := by
  cases x with
  | tmp t => exact h t
  | const v => exact Rep_svOfV ρ v
  | global g => exact trivial
  | func f => rfl

/-- the state as the machine has it, under an environment -/
structure SatE (w0 : World) (M : Nat → Prop) (ρ : Env) (s : S) (a : Act) (w : World) : Prop where
  defers : a.defers = []
  size : a.tmps.size = s.nt
  n : ρ.n = s.nx
  frame : FrameSat ρ s.fr a.tmps
  heap : HeapSat w0 M ρ s.hp w

/-- what an operation leaves: a value and a state of which K holds -/
def Out (w0 : World) (M : Nat → Prop) (ρ : Env) (s : S) (w : World) (v : Value) (K : KV) : Prop :=
  ∃ sv s' ρ', K sv s' ∧ s'.nt = s.nt ∧ s'.fr = s.fr ∧ ρ.le ρ' ∧ ρ'.n = s'.nx ∧ sv.Rep ρ' v ∧ HeapSat w0 M ρ' s'.hp w

/-- the operation is carried out, and K holds of what it leaves -/
def Good (X : Cx) (o : Oper) (s : S) (K : KV) : Prop :=
  ∀ w0 M ρ a w, SatE w0 M ρ s a w → ∃ r w', (execOp a.eval o).run X.P w = .ok r w' ∧ ∃ v, (r = .value v ∨ (r = .skip ∧ v = undef)) ∧ Out w0 M ρ s w' v K

/-- the tag that a load reads -/
def ptag : SV → Option Nat
  | .a (.ptr t _ _ _) => some t
  | .a (.slc t _ _ _ _) => some t
  | _ => none
def rtag (o : Oper) (s : S) : Option Nat :=
  match o.op with
  | .load _ x => ptag (s.ev x)
  | .convert _ _ x => ptag (s.ev x)
  | _ => none

/-- likewise, and the world stays; in each world with the same memory it gives the same -/
def QGood (X : Cx) (o : Oper) (s : S) (K : KV) : Prop :=
  ∀ w0 M ρ a w, SatE w0 M ρ s a w → ∃ v sv, K sv s ∧ sv.Rep ρ v ∧ ∀ w' : World, (∀ t, rtag o s = some t → ∀ b, (ρ.pl t).fp b → w'.heap[b]? = w.heap[b]?) → (execOp a.eval o).run X.P w' = .ok (.value v) w'

theorem QGood.good {X : Cx} {o : Oper} {s : S} {K : KV} (h : QGood X o s K) : Good X o s K := by
  intro w0 M ρ a w hs
  obtain ⟨v, sv, h1, h2, h3⟩ := h w0 M ρ a w hs
  exact ⟨_, w, h3 w (fun _ _ _ _ => rfl), v, .inl rfl, sv, s, ρ, h1, rfl, rfl, Env.le.refl ρ, hs.n, h2, hs.heap⟩

/-! ### numbers -/

def A.i? : A → Option (IntKind × Int)
  | .lit k n => some (k, n)
  | .int k n => some (k, n)
  | _ => none
theorem A.i?_rep {x : A} {k : IntKind} {n : Int} (h : x.i? = some (k, n)) {ρ : Env} {v : Value} (r : x.Rep ρ v) : v = .int k n ∧ InR k n := by
  cases x <;> simp [A.i?] at h <;> obtain ⟨rfl, rfl⟩ := h <;> exact r

def A.b? : A → Option Bool
  | .tt => some true
  | .ff => some false
  | .bool b => some b
  | _ => none
theorem A.b?_rep {x : A} {b : Bool} (h : x.b? = some b) {ρ : Env} {v : Value} (r : x.Rep ρ v) : v = .bool b := by
  cases x <;> simp [A.b?] at h <;> subst h <;> exact r

def ofB (b : Bool) : A := bif b then .tt else .ff
theorem ofB_rep (b : Bool) (ρ : Env) : (ofB b).Rep ρ (.bool b) := by cases b <;> rfl

/-- the wrap of an unsigned kind, the numerals written out -/
def uw : IntKind → Int → Int
  | .u8, n => n % 256
  | .u16, n => n % 65536
  | .u32, n => n % 4294967296
  | .u64, n => n % 18446744073709551616
  | k, n => k.wrap n
theorem uw_eq (k : IntKind) (n : Int) : k.wrap n = uw k n := by
  cases k <;> simp [uw, IntKind.wrap, IntKind.signed, IntKind.bits]

theorem InR_uw (k : IntKind) (n : Int) : InR k (uw k n) := uw_eq k n ▸ InR_wrap k n

/-- '& | ^ &^' -/
def ibits (op : BinOp) (k : IntKind) (x y : Int) : Int :=
  let a := BitVec.ofInt k.bits x
  let b := BitVec.ofInt k.bits y
  match op with
  | .and => k.wrap (a &&& b).toNat
  | .or => k.wrap (a ||| b).toNat
  | .xor => k.wrap (a ^^^ b).toNat
  | _ => k.wrap (a &&& ~~~b).toNat

def isBits : BinOp → Bool
  | .and => true
  | .or => true
  | .xor => true
  | .andNot => true
  | _ => false

def keq (j k : IntKind) : Bool := match j, k with
  | .i8, .i8 => true | .i16, .i16 => true | .i32, .i32 => true | .i64, .i64 => true
  | .u8, .u8 => true | .u16, .u16 => true | .u32, .u32 => true | .u64, .u64 => true
  | _, _ => false
theorem keq_eq {j k : IntKind} (h : keq j k = true) : j = k := by cases j <;> cases k <;> simp [keq] at h <;> rfl

/-- what a sum, a difference, a product comes to -/
def arith (k : IntKind) (n : Int) (K : A → Prop) : Prop := bif k.signed then InR k n ∧ K (.int k n) else K (.int k (uw k n))

def intbin (op : BinOp) (k : IntKind) (a : Int) (j : IntKind) (b : Int) (K : A → Prop) : Prop :=
  match op with
  | .shl => 0 ≤ b ∧ (bif k.signed then K (.int k (k.wrap (a * 2 ^ min b.toNat k.bits))) else K (.int k (uw k (a * 2 ^ min b.toNat k.bits))))
  | .shr => 0 ≤ b ∧ K (.int k (a / 2 ^ min b.toNat k.bits))
  | .add => bif keq k j then arith k (a + b) K else False
  | .sub => bif keq k j then arith k (a - b) K else False
  | .mul => bif keq k j then arith k (a * b) K else False
  | .quo => bif keq k j then b ≠ 0 ∧ (bif k.signed then InR k (a.tdiv b) ∧ K (.int k (a.tdiv b)) else K (.int k (a / b))) else False
  | .rem => bif keq k j then b ≠ 0 ∧ (bif k.signed then K (.int k (a.tmod b)) else K (.int k (a % b))) else False
  | .eql => bif keq k j then K (.bool (a == b)) else False
  | .neq => bif keq k j then K (.bool (a != b)) else False
  | .lss => bif keq k j then K (.bool (decide (a < b))) else False
  | .leq => bif keq k j then K (.bool (decide (a ≤ b))) else False
  | .gtr => bif keq k j then K (.bool (decide (b < a))) else False
  | .geq => bif keq k j then K (.bool (decide (b ≤ a))) else False
  | op => bif keq k j then K (.int k (ibits op k a b)) else False

/-- of two numerals -/
def litbin (op : BinOp) (k : IntKind) (a : Int) (j : IntKind) (b : Int) (K : A → Prop) : Prop :=
  match op with
  | .shl => bif decide (0 ≤ b) then K (.lit k (k.wrap (a * 2 ^ min b.toNat k.bits))) else False
  | .shr => bif decide (0 ≤ b) then K (.lit k (a / 2 ^ min b.toNat k.bits)) else False
  | .add => bif keq k j then K (.lit k (k.wrap (a + b))) else False
  | .sub => bif keq k j then K (.lit k (k.wrap (a - b))) else False
  | .mul => bif keq k j then K (.lit k (k.wrap (a * b))) else False
  | .quo => bif keq k j && b != 0 then K (.lit k (k.wrap (a.tdiv b))) else False
  | .rem => bif keq k j && b != 0 then K (.lit k (a.tmod b)) else False
  | .eql => bif keq k j then K (ofB (a == b)) else False
  | .neq => bif keq k j then K (ofB (a != b)) else False
  | .lss => bif keq k j then K (ofB (decide (a < b))) else False
  | .leq => bif keq k j then K (ofB (decide (a ≤ b))) else False
  | .gtr => bif keq k j then K (ofB (decide (b < a))) else False
  | .geq => bif keq k j then K (ofB (decide (b ≤ a))) else False
  | op => bif keq k j then K (.lit k (ibits op k a b)) else False

theorem tmod_InR {k : IntKind} {a b : Int} (h : InR k a) : InR k (a.tmod b) := by
  have h1 : (a.tmod b).natAbs ≤ a.natAbs := by rw [Int.natAbs_tmod]; exact Nat.mod_le _ _
  have h2 : 0 ≤ a → 0 ≤ a.tmod b := fun h => Int.tmod_nonneg _ h
  have h3 : a ≤ 0 → a.tmod b ≤ 0 := fun h => by
    have := Int.tmod_nonneg b (show 0 ≤ -a by omega)
    rw [Int.neg_tmod] at this; omega
  cases k <;> simp only [InR] at h ⊢ <;> omega

theorem ediv_InR {k : IntKind} {a b : Int} (h : InR k a) (hb : 0 < b) : InR k (a / b) := by
  have h0 : 0 ≤ a → 0 ≤ a / b := fun h => Int.ediv_nonneg h (Int.le_of_lt hb)
  have h1 : 0 ≤ a → a / b ≤ a := fun h => Int.ediv_le_self _ h
  have h2 : a < 0 → a ≤ a / b := fun h => by
    rw [Int.le_ediv_iff_mul_le hb]
    have : a * b ≤ a * 1 := Int.mul_le_mul_of_nonpos_left (Int.le_of_lt h) hb
    omega
  have h3 : a < 0 → a / b < 0 := fun h => Int.ediv_neg_of_neg_of_pos h hb
  cases k <;> simp only [InR] at h ⊢ <;> omega

theorem unsigned_nonneg {k : IntKind} {a : Int} (hk : k.signed = false) (h : InR k a) : 0 ≤ a := by
  cases k <;> simp [IntKind.signed] at hk <;> exact h.1

theorem tdiv_unsigned {k : IntKind} {a b : Int} (hk : k.signed = false) (ha : InR k a) (hb : InR k b) : a.tdiv b = a / b ∧ InR k (a / b) := by
  have h1 := unsigned_nonneg hk ha
  have h2 := unsigned_nonneg hk hb
  refine ⟨Int.tdiv_eq_ediv_of_nonneg h1, ?_⟩
  by_cases h0 : b = 0
  · subst h0; rw [Int.ediv_zero]; cases k <;> simp only [InR] at ha ⊢ <;> omega
  · exact ediv_InR ha (by omega)

/-- what 'binOp' gives on two numbers is what is said -/
theorem intbin_ok (P : Program) (op : BinOp) (k j : IntKind) (a b : Int) (t : TypeId) (ha : InR k a) (hb : InR j b) {K : A → Prop} (h : intbin op k a j b K) :
    ∃ x v, K x ∧ (∀ ρ : Env, x.Rep ρ v) ∧ ∀ w : World, (binOp op t (.int k a) (.int j b)).run P w = .ok v w := by
  have hwr : ∀ n, InR k (k.wrap n) := InR_wrap k
  have ar : ∀ n, arith k n K → ∃ x v, K x ∧ (∀ ρ : Env, x.Rep ρ v) ∧ v = .int k (k.wrap n) := by
    intro n hn
    unfold arith at hn
    cases hs : k.signed
    · rw [hs] at hn
      exact ⟨_, _, hn, fun ρ => ⟨by rw [uw_eq], InR_uw k n⟩, rfl⟩
    · rw [hs] at hn
      exact ⟨_, _, hn.2, fun ρ => ⟨by rw [wrap_of_InR hn.1], hn.1⟩, rfl⟩
  cases op
  case shl =>
    obtain ⟨h0, h⟩ := h
    have hlt : ¬ b < 0 := by omega
    cases hs : k.signed
    · rw [hs] at h
      exact ⟨_, _, h, fun ρ => ⟨rfl, InR_uw _ _⟩, fun w => by simp [binOp, Op.shift, hlt, uw_eq]⟩
    · rw [hs] at h
      exact ⟨_, _, h, fun ρ => ⟨rfl, InR_wrap _ _⟩, fun w => by simp [binOp, Op.shift, hlt]⟩
  case shr =>
    obtain ⟨h0, h⟩ := h
    have hlt : ¬ b < 0 := by omega
    have hp : (0 : Int) < 2 ^ min b.toNat k.bits := Int.pow_pos (by omega)
    exact ⟨_, _, h, fun ρ => ⟨rfl, ediv_InR ha hp⟩, fun w => by simp [binOp, Op.shift, hlt, Int.fdiv_eq_ediv_of_nonneg _ (Int.le_of_lt hp)]⟩
  all_goals
    simp only [intbin] at h
    cases hk : keq k j
    · rw [hk] at h; exact h.elim
    rw [hk] at h
    have := keq_eq hk
    subst this
    simp only [cond_true] at h
  case add => obtain ⟨x, v, h1, h2, rfl⟩ := ar _ h; exact ⟨x, _, h1, h2, fun w => by simp [binOp, Op.intArith]⟩
  case sub => obtain ⟨x, v, h1, h2, rfl⟩ := ar _ h; exact ⟨x, _, h1, h2, fun w => by simp [binOp, Op.intArith]⟩
  case mul => obtain ⟨x, v, h1, h2, rfl⟩ := ar _ h; exact ⟨x, _, h1, h2, fun w => by simp [binOp, Op.intArith]⟩
  case quo =>
    obtain ⟨h0, h⟩ := h
    cases hs : k.signed
    · rw [hs] at h
      obtain ⟨e1, e2⟩ := tdiv_unsigned hs ha hb
      exact ⟨_, _, h, fun ρ => ⟨rfl, e2⟩, fun w => by simp [binOp, Op.intDiv, h0, e1, wrap_of_InR e2]⟩
    · rw [hs] at h
      exact ⟨_, _, h.2, fun ρ => ⟨rfl, h.1⟩, fun w => by simp [binOp, Op.intDiv, h0, wrap_of_InR h.1]⟩
  case rem =>
    obtain ⟨h0, h⟩ := h
    cases hs : k.signed
    · rw [hs] at h
      have e : a.tmod b = a % b := Int.tmod_eq_emod_of_nonneg (unsigned_nonneg hs ha)
      exact ⟨_, _, h, fun ρ => ⟨rfl, e ▸ tmod_InR ha⟩, fun w => by simp [binOp, Op.intDiv, h0, e]⟩
    · rw [hs] at h
      exact ⟨_, _, h, fun ρ => ⟨rfl, tmod_InR ha⟩, fun w => by simp [binOp, Op.intDiv, h0]⟩
  case eql => exact ⟨_, _, h, fun ρ => rfl, fun w => by simp [binOp, Op.intCmp]⟩
  case neq => exact ⟨_, _, h, fun ρ => rfl, fun w => by simp [binOp, Op.intCmp]⟩
  case lss => exact ⟨_, _, h, fun ρ => rfl, fun w => by simp [binOp, Op.intCmp]⟩
  case leq => exact ⟨_, _, h, fun ρ => rfl, fun w => by simp [binOp, Op.intCmp]⟩
  case gtr => exact ⟨_, _, h, fun ρ => rfl, fun w => by simp [binOp, Op.intCmp]⟩
  case geq => exact ⟨_, _, h, fun ρ => rfl, fun w => by simp [binOp, Op.intCmp]⟩
  all_goals exact ⟨_, _, h, fun ρ => ⟨rfl, InR_wrap _ _⟩, fun w => by simp [binOp, Op.intBits, ibits]⟩

theorem litbin_ok (P : Program) (op : BinOp) (k j : IntKind) (a b : Int) (t : TypeId) (ha : InR k a) (hb : InR j b) {K : A → Prop} (h : litbin op k a j b K) :
    ∃ x v, K x ∧ (∀ ρ : Env, x.Rep ρ v) ∧ ∀ w : World, (binOp op t (.int k a) (.int j b)).run P w = .ok v w := by
  cases op
  case shl =>
    simp only [litbin] at h
    by_cases h0 : 0 ≤ b
    · simp only [h0, decide_true, cond_true] at h
      have hlt : ¬ b < 0 := by omega
      exact ⟨_, _, h, fun ρ => ⟨rfl, InR_wrap _ _⟩, fun w => by simp [binOp, Op.shift, hlt]⟩
    · simp [h0] at h
  case shr =>
    simp only [litbin] at h
    by_cases h0 : 0 ≤ b
    · simp only [h0, decide_true, cond_true] at h
      have hlt : ¬ b < 0 := by omega
      have hp : (0 : Int) < 2 ^ min b.toNat k.bits := Int.pow_pos (by omega)
      exact ⟨_, _, h, fun ρ => ⟨rfl, ediv_InR ha hp⟩, fun w => by simp [binOp, Op.shift, hlt, Int.fdiv_eq_ediv_of_nonneg _ (Int.le_of_lt hp)]⟩
    · simp [h0] at h
  all_goals
    simp only [litbin] at h
    cases hk : keq k j
    · simp [hk] at h
    simp only [hk, Bool.true_and, cond_true] at h
    have := keq_eq hk
    subst this
  case add => exact ⟨_, _, h, fun ρ => ⟨rfl, InR_wrap _ _⟩, fun w => by simp [binOp, Op.intArith]⟩
  case sub => exact ⟨_, _, h, fun ρ => ⟨rfl, InR_wrap _ _⟩, fun w => by simp [binOp, Op.intArith]⟩
  case mul => exact ⟨_, _, h, fun ρ => ⟨rfl, InR_wrap _ _⟩, fun w => by simp [binOp, Op.intArith]⟩
  case quo =>
    cases h0 : (b != 0)
    · simp [h0] at h
    · simp only [h0, cond_true] at h
      have h0' : b ≠ 0 := by simpa using h0
      exact ⟨_, _, h, fun ρ => ⟨rfl, InR_wrap _ _⟩, fun w => by simp [binOp, Op.intDiv, h0']⟩
  case rem =>
    cases h0 : (b != 0)
    · simp [h0] at h
    · simp only [h0, cond_true] at h
      have h0' : b ≠ 0 := by simpa using h0
      exact ⟨_, _, h, fun ρ => ⟨rfl, tmod_InR ha⟩, fun w => by simp [binOp, Op.intDiv, h0']⟩
  case eql => exact ⟨_, _, h, fun ρ => ofB_rep _ ρ, fun w => by simp [binOp, Op.intCmp]⟩
  case neq => exact ⟨_, _, h, fun ρ => ofB_rep _ ρ, fun w => by simp [binOp, Op.intCmp]⟩
  case lss => exact ⟨_, _, h, fun ρ => ofB_rep _ ρ, fun w => by simp [binOp, Op.intCmp]⟩
  case leq => exact ⟨_, _, h, fun ρ => ofB_rep _ ρ, fun w => by simp [binOp, Op.intCmp]⟩
  case gtr => exact ⟨_, _, h, fun ρ => ofB_rep _ ρ, fun w => by simp [binOp, Op.intCmp]⟩
  case geq => exact ⟨_, _, h, fun ρ => ofB_rep _ ρ, fun w => by simp [binOp, Op.intCmp]⟩
  all_goals exact ⟨_, _, h, fun ρ => ⟨rfl, InR_wrap _ _⟩, fun w => by simp [binOp, Op.intBits, ibits]⟩

end Go.Sx
