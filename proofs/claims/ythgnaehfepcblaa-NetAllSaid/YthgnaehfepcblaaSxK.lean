/-
  The other operations; one function for all.
-/
import Derived.Test.YthgnaehfepcblaaSxJ
import Derived.Laws.BytesString
namespace Go.Sx
section
variable {P : Program}

/-! ### operators on what is no number -/

/-- is it nil? (of no length it may be) -/
def nilQ (force : Bool) (len : Nat) (K : Bool → Prop) (no : Prop) : Prop := bif force then (bif Nat.beq len 0 then False else no) else ∀ b : Bool, (b = true → len = 0) → K b
theorem nilQ_ok {force : Bool} {len : Nat} {K : Bool → Prop} {no : Prop} (h : nilQ force len K no) : (len = 0 → K true ∨ (False)) ∧ (K false ∨ (no ∧ len ≠ 0)) := by
  cases force with
  | false => exact ⟨fun h0 => .inl (h true fun _ => h0), .inl (h false fun h => by cases h)⟩
  | true =>
    simp only [nilQ, cond_true] at h
    cases hb : Nat.beq len 0 with
    | true => rw [hb] at h; exact h.elim
    | false =>
      rw [hb] at h
      have h0 : len ≠ 0 := fun e => by subst e; cases hb
      exact ⟨fun e => absurd e h0, .inr ⟨h, h0⟩⟩

def otherbin (X : Cx) (op : BinOp) (t : Nat) (x y : A) (K : A → Prop) : Prop :=
  match x, y with
  | .str a, .str b =>
    match op with
    | .eql => K (.bool (decide (a = b)))
    | .neq => K (.bool (!decide (a = b)))
    | .lss => K (.bool (Op.bytesLess a.toList b.toList))
    | .gtr => K (.bool (!(Op.bytesLess a.toList b.toList || decide (a = b))))
    | .leq => K (.bool (Op.bytesLess a.toList b.toList || decide (a = b)))
    | .geq => K (.bool (!Op.bytesLess a.toList b.toList))
    | .add => a.size + b.size ≤ lenMax ∧ K (.str (a ++ b))
    | _ => False
  | .nil, .nil => match X.ti t, op with
    | some ti, .eql => match ti.d with | .ptr => K .tt | _ => False
    | some ti, .neq => match ti.d with | .ptr => K .ff | _ => False
    | _, _ => False
  | .ptr _ _ _ _, .nil => match X.ti t, op with
    | some ti, .eql => match ti.d with | .ptr => K .ff | _ => False
    | some ti, .neq => match ti.d with | .ptr => K .tt | _ => False
    | _, _ => False
  | .snil, .snil => match X.ti t, op with
    | some ti, .eql => match ti.d with | .slc _ => K .tt | _ => False
    | some ti, .neq => match ti.d with | .slc _ => K .ff | _ => False
    | _, _ => False
  | .slc _ _ _ len _, .snil => match X.ti t, op with
    | some ti, .eql => match ti.d with | .slc _ => nilQ X.force len (fun b => K (.bool b)) (K .ff) | _ => False
    | some ti, .neq => match ti.d with | .slc _ => nilQ X.force len (fun b => K (.bool (!b))) (K .tt) | _ => False
    | _, _ => False
  | x, y =>
    match x.b?, y.b?, X.ti t, op with
    | some a, some b, some ti, .eql => match ti.d with | .bool => K (.bool (a == b)) | _ => False
    | some a, some b, some ti, .neq => match ti.d with | .bool => K (.bool (!(a == b))) | _ => False
    | _, _, _, _ => False

def xbinA (X : Cx) (op : BinOp) (t : Nat) (x y : A) (K : A → Prop) : Prop :=
  match x, y with
  | .lit k a, .lit j b => litbin op k a j b K
  | x, y =>
    match x.i?, y.i? with
    | some (k, a), some (j, b) => bif X.force then litbin op k a j b K else intbin op k a j b K
    | none, none => otherbin X op t x y K
    | _, _ => False

theorem toList_inj (a b : ByteArray) : (a.toList == b.toList) = decide (a = b) := by
  by_cases h : a = b
  · subst h; simp
  · have : a.toList ≠ b.toList := by
      intro hh
      apply h
      have e : a.data.toList = b.data.toList := by rw [← ByteArray.toList_eq, ← ByteArray.toList_eq, hh]
      cases a; cases b; simp at e; rw [e]
    simp [h, this]

theorem run_equal {t : TypeId} {x y : Value} {b : Bool} {w : World} (h : ∀ d, (Op.equalIn (d + 1) t x y).run P w = .ok b w) : (Op.equal t x y).run P w = .ok b w := h 9999
theorem run_eql {t : TypeId} {x y : Value} {b : Bool} {w : World} (h : ∀ d, (Op.equalIn (d + 1) t x y).run P w = .ok b w) : (do Pure.pure (Value.bool (← Op.equal t x y)) : Sem Value).run P w = .ok (.bool b) w := by
  simp [run_equal h]
theorem run_neq {t : TypeId} {x y : Value} {b : Bool} {w : World} (h : ∀ d, (Op.equalIn (d + 1) t x y).run P w = .ok b w) : (do Pure.pure (Value.bool (!(← Op.equal t x y))) : Sem Value).run P w = .ok (.bool (!b)) w := by
  simp [run_equal h]

theorem otherbin_ok {X : Cx} (hX : X.Ok) {op : BinOp} {t : Nat} {x y : A} {K : A → Prop} (h : otherbin X op t x y K) {ρ : Env} {u v : Value} (hu : x.Rep ρ u) (hv : y.Rep ρ v) :
    ∃ z r, K z ∧ z.Rep ρ r ∧ ∀ w : World, (binOp op t u v).run X.P w = .ok r w := by
  unfold otherbin at h
  split at h
  · rename_i a b
    obtain ⟨rfl, ha⟩ := hu
    obtain ⟨rfl, hb⟩ := hv
    split at h
    · exact ⟨_, _, h, rfl, fun w => by simp [binOp, Op.stringOp, toList_inj]⟩
    · exact ⟨_, _, h, rfl, fun w => by simp [binOp, Op.stringOp, toList_inj]⟩
    · exact ⟨_, _, h, rfl, fun w => by simp [binOp, Op.stringOp]⟩
    · exact ⟨_, _, h, rfl, fun w => by simp [binOp, Op.stringOp, toList_inj]⟩
    · exact ⟨_, _, h, rfl, fun w => by simp [binOp, Op.stringOp, toList_inj]⟩
    · exact ⟨_, _, h, rfl, fun w => by simp [binOp, Op.stringOp]⟩
    · obtain ⟨h1, h⟩ := h
      refine ⟨_, _, h, ⟨rfl, by simpa using h1⟩, fun w => ?_⟩
      unfold lenMax at h1
      simp [binOp, Op.stringOp]
      omega
    · exact h.elim
  · have hu' : u = .pointer none := hu
    have hv' : v = .pointer none := hv
    subst hu' hv'
    split at h
    · rename_i ti hti
      split at h
      · rename_i hd
        obtain ⟨e, he⟩ := desc_ptr ((hX.ty hti).desc.trans hd)
        exact ⟨_, .bool true, h, rfl, fun w => by simp only [binOp]; exact run_eql fun d => by simp [Op.equalIn, run_underlying he]⟩
      · exact h.elim
    · rename_i ti hti
      split at h
      · rename_i hd
        obtain ⟨e, he⟩ := desc_ptr ((hX.ty hti).desc.trans hd)
        exact ⟨_, .bool (!true), h, rfl, fun w => by simp only [binOp]; exact run_neq fun d => by simp [Op.equalIn, run_underlying he]⟩
      · exact h.elim
    · exact h.elim
  · obtain ⟨_, rfl⟩ := hu
    have hv' : v = .pointer none := hv
    subst hv'
    split at h
    · rename_i ti hti
      split at h
      · rename_i hd
        obtain ⟨e, he⟩ := desc_ptr ((hX.ty hti).desc.trans hd)
        exact ⟨_, .bool false, h, rfl, fun w => by simp only [binOp]; exact run_eql fun d => by simp [Op.equalIn, run_underlying he]⟩
      · exact h.elim
    · rename_i ti hti
      split at h
      · rename_i hd
        obtain ⟨e, he⟩ := desc_ptr ((hX.ty hti).desc.trans hd)
        exact ⟨_, .bool (!false), h, rfl, fun w => by simp only [binOp]; exact run_neq fun d => by simp [Op.equalIn, run_underlying he]⟩
      · exact h.elim
    · exact h.elim
  · have hu' : u = .slice none 0 0 := hu
    have hv' : v = .slice none 0 0 := hv
    subst hu' hv'
    split at h
    · rename_i ti hti
      split at h
      · rename_i e hd
        have he := desc_slc ((hX.ty hti).desc.trans hd)
        exact ⟨_, .bool true, h, rfl, fun w => by simp only [binOp]; exact run_eql fun d => by simp [Op.equalIn, run_underlying he]⟩
      · exact h.elim
    · rename_i ti hti
      split at h
      · rename_i e hd
        have he := desc_slc ((hX.ty hti).desc.trans hd)
        exact ⟨_, .bool (!true), h, rfl, fun w => by simp only [binOp]; exact run_neq fun d => by simp [Op.equalIn, run_underlying he]⟩
      · exact h.elim
    · exact h.elim
  · have hv' : v = .slice none 0 0 := hv
    subst hv'
    obtain ⟨_, _, _, hcase⟩ := hu
    split at h
    · rename_i ti hti
      split at h
      · rename_i e hd
        have he := desc_slc ((hX.ty hti).desc.trans hd)
        rcases hcase with ⟨h0, _, rfl⟩ | ⟨o, rfl, _⟩
        · exact ⟨_, .bool true, ((nilQ_ok h).1 h0).resolve_right id, rfl, fun w => by simp only [binOp]; exact run_eql fun d => by simp [Op.equalIn, run_underlying he]⟩
        · rcases (nilQ_ok h).2 with h | ⟨h, _⟩
          · exact ⟨_, .bool false, h, rfl, fun w => by simp only [binOp]; exact run_eql fun d => by simp [Op.equalIn, run_underlying he]⟩
          · exact ⟨_, .bool false, h, rfl, fun w => by simp only [binOp]; exact run_eql fun d => by simp [Op.equalIn, run_underlying he]⟩
      · exact h.elim
    · rename_i ti hti
      split at h
      · rename_i e hd
        have he := desc_slc ((hX.ty hti).desc.trans hd)
        rcases hcase with ⟨h0, _, rfl⟩ | ⟨o, rfl, _⟩
        · exact ⟨_, .bool (!true), ((nilQ_ok h).1 h0).resolve_right id, rfl, fun w => by simp only [binOp]; exact run_neq fun d => by simp [Op.equalIn, run_underlying he]⟩
        · rcases (nilQ_ok h).2 with h | ⟨h, _⟩
          · exact ⟨_, .bool (!false), h, rfl, fun w => by simp only [binOp]; exact run_neq fun d => by simp [Op.equalIn, run_underlying he]⟩
          · exact ⟨_, .bool (!false), h, rfl, fun w => by simp only [binOp]; exact run_neq fun d => by simp [Op.equalIn, run_underlying he]⟩
      · exact h.elim
    · exact h.elim
  · split at h
    · rename_i a b ti ha hb hti
      split at h
      · rename_i hd
        have he := desc_bool ((hX.ty hti).desc.trans hd)
        have := A.b?_rep ha hu; subst this
        have := A.b?_rep hb hv; subst this
        exact ⟨_, .bool (a == b), h, rfl, fun w => by simp only [binOp]; exact run_eql fun d => by simp [Op.equalIn, run_underlying he]⟩
      · exact h.elim
    · rename_i a b ti ha hb hti
      split at h
      · rename_i hd
        have he := desc_bool ((hX.ty hti).desc.trans hd)
        have := A.b?_rep ha hu; subst this
        have := A.b?_rep hb hv; subst this
        exact ⟨_, .bool (!(a == b)), h, rfl, fun w => by simp only [binOp]; exact run_neq fun d => by simp [Op.equalIn, run_underlying he]⟩
      · exact h.elim
    · exact h.elim

theorem xbinA_ok {X : Cx} (hX : X.Ok) {op : BinOp} {t : Nat} {x y : A} {K : A → Prop} (h : xbinA X op t x y K) {ρ : Env} {u v : Value} (hu : x.Rep ρ u) (hv : y.Rep ρ v) :
    ∃ z r, K z ∧ z.Rep ρ r ∧ ∀ w : World, (binOp op t u v).run X.P w = .ok r w := by
  unfold xbinA at h
  split at h
  · rename_i k a j b
    obtain ⟨rfl, h1⟩ := hu
    obtain ⟨rfl, h2⟩ := hv
    obtain ⟨z, r, a, b, c⟩ := litbin_ok X.P op k j a b t h1 h2 h
    exact ⟨z, r, a, b ρ, c⟩
  · split at h
    · rename_i k a j b h1 h2
      obtain ⟨rfl, h1⟩ := A.i?_rep h1 hu
      obtain ⟨rfl, h2⟩ := A.i?_rep h2 hv
      cases hf : X.force with
      | true =>
        rw [hf] at h
        obtain ⟨z, r, a, b, c⟩ := litbin_ok X.P op k j a b t h1 h2 h
        exact ⟨z, r, a, b ρ, c⟩
      | false =>
        rw [hf] at h
        obtain ⟨z, r, a, b, c⟩ := intbin_ok X.P op k j a b t h1 h2 h
        exact ⟨z, r, a, b ρ, c⟩
    · exact otherbin_ok hX h hu hv
    · exact h.elim

/-- values between which '==' has no guard -/
def A.plain : A → Bool
  | .any => false
  | .val _ => false
  | _ => true

theorem xbinA_plain {X : Cx} {op : BinOp} {t : Nat} {x y : A} {K : A → Prop} (h : xbinA X op t x y K) : x.plain = true := by
  cases x <;> first | rfl | (exfalso; cases y <;> simp [xbinA, otherbin, A.i?, A.b?] at h)

theorem eqGuard_plain (op : BinOp) (t : TypeId) (x y : Operand) {ρ : Env} {a : A} {u : Value} (hu : a.Rep ρ u) (ha : a.plain = true) (v : Value) (w : World) : (eqGuard op t x y u v).run P w = .ok () w := by
  have : u ≠ .nilIface ∧ (∀ cs, u ≠ .agg cs) := by
    cases a <;> simp only [A.plain] at ha <;> first | (cases ha; done) | skip
    case slc => obtain ⟨_, _, _, ⟨_, _, rfl⟩ | ⟨_, rfl, _⟩⟩ := hu <;> exact ⟨by simp, by simp⟩
    all_goals first | (have hu' : u = _ := hu; subst hu'; exact ⟨by simp, by simp⟩) | (have hu' : u = _ := hu.1; subst hu'; exact ⟨by simp, by simp⟩) | (have hu' : u = _ := hu.2; subst hu'; exact ⟨by simp, by simp⟩)
  unfold eqGuard
  cases op <;> first | rfl | skip
  all_goals
    simp only
    cases u <;> first | rfl | exact absurd rfl this.1 | exact absurd rfl (this.2 _)

/-! ### one function for all operations that call nothing -/

def xlen (X : Cx) (t : Nat) (x : SV) (K : A → Prop) : Prop :=
  match X.ti t, x with
  | some ti, .a (.str s) => match ti.d with | .str => K (.int .i64 s.size) | _ => False
  | some ti, .a (.slc _ _ _ len _) => match ti.d with | .slc _ => K (.int .i64 len) | _ => False
  | some ti, .a .snil => match ti.d with | .slc _ => K (.lit .i64 0) | _ => False
  | _, _ => False

theorem len_ok {X : Cx} (hX : X.Ok) {t rt : Nat} {x : SV} {K : A → Prop} (h : xlen X t x K) {ρ : Env} {u : Value} (hu : x.Rep ρ u) :
    ∃ z r, K z ∧ z.Rep ρ r ∧ ∀ w : World, (Builtin.len_ #[t] rt #[u]).run X.P w = .ok r w := by
  unfold xlen at h
  split at h
  · rename_i ti s hti
    split at h
    · rename_i hd
      have he := desc_str ((hX.ty hti).desc.trans hd)
      obtain ⟨rfl, hs⟩ := hu
      refine ⟨_, _, h, ⟨rfl, by constructor <;> unfold lenMax at hs <;> omega⟩, fun w => by simp [Builtin.len_, run_underlying he, goInt]⟩
    · exact h.elim
  · rename_i ti tg r e len cap hti
    split at h
    · rename_i el hd
      have he := desc_slc ((hX.ty hti).desc.trans hd)
      obtain ⟨_, h1, h2, hc⟩ := hu
      refine ⟨_, .int .i64 len, h, ⟨rfl, by constructor <;> unfold lenMax at h2 <;> omega⟩, fun w => ?_⟩
      rcases hc with ⟨rfl, _, rfl⟩ | ⟨o, rfl, _⟩ <;> simp [Builtin.len_, run_underlying he, goInt]
    · exact h.elim
  · rename_i ti hti
    split at h
    · rename_i el hd
      have he := desc_slc ((hX.ty hti).desc.trans hd)
      have hu' : u = .slice none 0 0 := hu
      subst hu'
      exact ⟨_, .int .i64 0, h, ⟨rfl, by constructor <;> omega⟩, fun w => by simp [Builtin.len_, run_underlying he, goInt]⟩
    · exact h.elim
  · exact h.elim

def xcap (X : Cx) (t : Nat) (x : SV) (K : A → Prop) : Prop :=
  match X.ti t, x with
  | some ti, .a (.slc _ _ _ _ cap) => match ti.d with | .slc _ => K (.int .i64 cap) | _ => False
  | some ti, .a .snil => match ti.d with | .slc _ => K (.lit .i64 0) | _ => False
  | _, _ => False

theorem cap_ok {X : Cx} (hX : X.Ok) {t rt : Nat} {x : SV} {K : A → Prop} (h : xcap X t x K) {ρ : Env} {u : Value} (hu : x.Rep ρ u) :
    ∃ z r, K z ∧ z.Rep ρ r ∧ ∀ w : World, (Builtin.cap_ #[t] rt #[u]).run X.P w = .ok r w := by
  unfold xcap at h
  split at h
  · rename_i ti tg r e len cap hti
    split at h
    · rename_i el hd
      have he := desc_slc ((hX.ty hti).desc.trans hd)
      obtain ⟨_, h1, h2, hc⟩ := hu
      refine ⟨_, .int .i64 cap, h, ⟨rfl, by constructor <;> unfold lenMax at h2 <;> omega⟩, fun w => ?_⟩
      rcases hc with ⟨_, rfl, rfl⟩ | ⟨o, rfl, _⟩ <;> simp [Builtin.cap_, run_underlying he, goInt]
    · exact h.elim
  · rename_i ti hti
    split at h
    · rename_i el hd
      have he := desc_slc ((hX.ty hti).desc.trans hd)
      have hu' : u = .slice none 0 0 := hu
      subst hu'
      exact ⟨_, .int .i64 0, h, ⟨rfl, by constructor <;> omega⟩, fun w => by simp [Builtin.cap_, run_underlying he, goInt]⟩
    · exact h.elim
  · exact h.elim

/-- the smaller, the greater of two -/
def xmin2 (mx : Bool) (x y : A) (K : A → Prop) : Prop :=
  match x, y with
  | .lit k a, .lit j b => bif keq k j then K (.lit k (if (bif mx then decide (a < b) else decide (b < a)) = true then b else a)) else False
  | x, y =>
    match x.i?, y.i? with
    | some (k, a), some (j, b) => bif keq k j then K (.int k (bif mx then max a b else min a b)) else False
    | _, _ => False

theorem min2_ok {P : Program} {mx : Bool} {x y : A} {K : A → Prop} (h : xmin2 mx x y K) {ρ : Env} {u v : Value} (hu : x.Rep ρ u) (hv : y.Rep ρ v) :
    ∃ z r, K z ∧ z.Rep ρ r ∧ ∀ w : World, ((bif mx then Builtin.max_ #[] 0 #[u, v] else Builtin.min_ #[] 0 #[u, v]) : Sem Value).run P w = .ok r w := by
  have key : ∀ (k : IntKind) (a b : Int) (w : World), ((bif mx then Builtin.max_ #[] 0 #[.int k a, .int k b] else Builtin.min_ #[] 0 #[.int k a, .int k b]) : Sem Value).run P w = .ok (.int k (if (bif mx then decide (a < b) else decide (b < a)) = true then b else a)) w := by
    intro k a b w
    cases mx <;> simp [Builtin.max_, Builtin.min_, Builtin.min2, Builtin.max2]
  unfold xmin2 at h
  split at h
  · rename_i k a j b
    cases hk : keq k j
    · simp [hk] at h
    simp only [hk, cond_true] at h
    have := keq_eq hk; subst this
    obtain ⟨rfl, h1⟩ := hu
    obtain ⟨rfl, h2⟩ := hv
    refine ⟨_, _, h, ⟨rfl, ?_⟩, key k a b⟩
    split <;> assumption
  · split at h
    · rename_i k a j b h1 h2
      obtain ⟨rfl, h1⟩ := A.i?_rep h1 hu
      obtain ⟨rfl, h2⟩ := A.i?_rep h2 hv
      cases hk : keq k j
      · simp [hk] at h
      simp only [hk, cond_true] at h
      have := keq_eq hk; subst this
      have e : (bif mx then max a b else min a b) = (if (bif mx then decide (a < b) else decide (b < a)) = true then b else a) := by
        cases mx <;> simp <;> omega
      refine ⟨_, _, h, ⟨?_, ?_⟩, key k a b⟩
      · rw [e]
      · rw [e]; split <;> assumption
    · exact h.elim

/-- integers turned into integers -/
def cvt (k : IntKind) (n : Int) : Int := match k with
  | .u8 => n % 256
  | .u16 => n % 65536
  | .u32 => n % 4294967296
  | .u64 => n % 18446744073709551616
  | k => k.wrap n
/-- does every number of the first kind fit the second -/
def fits (j k : IntKind) : Bool := match j, k with
  | .u8, .u8 => true | .u8, .u16 => true | .u8, .u32 => true | .u8, .u64 => true | .u8, .i16 => true | .u8, .i32 => true | .u8, .i64 => true
  | .u16, .u16 => true | .u16, .u32 => true | .u16, .u64 => true | .u16, .i32 => true | .u16, .i64 => true
  | .u32, .u32 => true | .u32, .u64 => true | .u32, .i64 => true
  | .u64, .u64 => true
  | .i8, .i8 => true | .i8, .i16 => true | .i8, .i32 => true | .i8, .i64 => true
  | .i16, .i16 => true | .i16, .i32 => true | .i16, .i64 => true
  | .i32, .i32 => true | .i32, .i64 => true
  | .i64, .i64 => true
  | _, _ => false
theorem fits_ok {j k : IntKind} (h : fits j k = true) {n : Int} (hn : InR j n) : InR k n := by
  cases j <;> cases k <;> simp only [fits] at h <;> first | (cases h; done) | (simp only [InR] at hn ⊢; omega)

def xconv (X : Cx) (src dst : Nat) (x : SV) (s : S) (K : KV) : Prop :=
  match X.ti src, X.ti dst, x with
  | some _, some td, .a (.lit _ n) => match td.d with
    | .int k => K (.a (.lit k (k.wrap n))) s
    | _ => False
  | some _, some td, .a (.int j n) => match td.d with
    | .int k => bif fits j k then K (.a (.int k n)) s else K (.a (.int k (uw k n))) s
    | _ => False
  | _, _, _ => False

theorem conv_ok {X : Cx} (hX : X.Ok) {src dst : Nat} {x : SV} {s : S} {K : KV} (h : xconv X src dst x s K) {ρ : Env} {u : Value} (hu : x.Rep ρ u) :
    ∃ sv r, K sv s ∧ sv.Rep ρ r ∧ ∀ w : World, (convert src dst u).run X.P w = .ok r w := by
  unfold xconv at h
  split at h
  · rename_i ts td k n hs hd
    split at h
    · rename_i k' hdd
      have he := desc_int ((hX.ty hd).desc.trans hdd)
      obtain ⟨d, hsd⟩ := (hX.ty hs).under
      obtain ⟨rfl, h1⟩ := hu
      refine ⟨_, .int k' (k'.wrap n), h, ⟨rfl, InR_wrap _ _⟩, fun w => ?_⟩
      simp only [convert, Sem.run_bind, run_underlying hsd, run_underlying he, Result.andThen_ok]
      cases d <;> rfl
    · exact h.elim
  · rename_i ts td j n hs hd
    split at h
    · rename_i k' hdd
      have he := desc_int ((hX.ty hd).desc.trans hdd)
      obtain ⟨d, hsd⟩ := (hX.ty hs).under
      obtain ⟨rfl, h1⟩ := hu
      have hrun : ∀ w : World, (convert src dst (.int j n)).run X.P w = .ok (.int k' (k'.wrap n)) w := by
        intro w
        simp only [convert, Sem.run_bind, run_underlying hsd, run_underlying he, Result.andThen_ok]
        cases d <;> rfl
      cases hf : fits j k'
      · rw [hf] at h
        exact ⟨_, _, h, ⟨rfl, InR_uw _ _⟩, by simp only [← uw_eq]; exact hrun⟩
      · rw [hf] at h
        have := fits_ok hf h1
        exact ⟨_, _, h, ⟨rfl, this⟩, by simp only [wrap_of_InR this] at hrun; exact hrun⟩
    · exact h.elim
  · exact h.elim

/-- the text of bytes -/
def bytesStr (rows : Nat → Nat → Value) (r l : Nat) : ByteArray := ((List.range l).map fun i => toI (rows (r + i) 0)).foldl (fun s n => s.push (UInt8.ofNat n.toNat)) .empty
theorem foldl_push_size : ∀ (ns : List Int) (s : ByteArray), (ns.foldl (fun s n => s.push (UInt8.ofNat n.toNat)) s).size = s.size + ns.length
  | [], _ => rfl
  | n :: ns, s => by
    rw [List.foldl_cons, foldl_push_size ns, ByteArray.size_push, List.length_cons]; omega
theorem bytesStr_size (rows : Nat → Nat → Value) (r l : Nat) : (bytesStr rows r l).size = l := by
  unfold bytesStr
  rw [foldl_push_size, List.length_map, List.length_range]; show 0 + l = l; omega

def xconvS (X : Cx) (src dst : Nat) (x : SV) (s : S) (K : KV) : Prop :=
  match x with
  | .a (.slc tg r e len _) =>
    match X.ti src, X.ti dst, s.hp.find tg with
    | some ts, some td, some (_, .arr _ ks n rows) =>
      match ts.d, td.d with
      | .slc et, .str => match X.ti et with
        | some te => match te.d with
          | .int .u8 => bif Nat.beq e 1 && cksEq ks [.int .u8] then need X.force (r + len ≤ n) (K (.a (.str (bytesStr rows r len))) s) else False
          | _ => False
        | none => False
      | _, _ => False
    | _, _, _ => False
  | x => xconv X src dst x s K

theorem convS_ok {X : Cx} (hX : X.Ok) {src dst : Nat} {x : SV} {s : S} {K : KV} (h : xconvS X src dst x s K) {w0 : World} {M : Nat → Prop} {ρ : Env} {w : World} (hh : HeapSat w0 M ρ s.hp w) {u : Value} (hu : x.Rep ρ u) :
    ∃ sv r, K sv s ∧ sv.Rep ρ r ∧ ∀ w' : World, (∀ t', ptag x = some t' → ∀ b, (ρ.pl t').fp b → w'.heap[b]? = w.heap[b]?) → (convert src dst u).run X.P w' = .ok r w' := by
  unfold xconvS at h
  split at h
  · rename_i tg r e len cap
    split at h
    · rename_i ts td m ty ks n rows hs hd hfind
      split at h
      · rename_i et hsd hdd
        split at h
        · rename_i te hte
          split at h
          · rename_i hed
            cases hb : (Nat.beq e 1 && cksEq ks [.int .u8])
            · simp [hb] at h
            simp only [hb, cond_true] at h
            simp only [Bool.and_eq_true] at hb
            have he := Nat.eq_of_beq_eq_true hb.1
            have hk := cksEq_eq hb.2
            subst he; subst hk
            obtain ⟨hr, h⟩ := need_ok h
            have e1 := desc_slc ((hX.ty hs).desc.trans hsd)
            have e2 := desc_str ((hX.ty hd).desc.trans hdd)
            have e3 := desc_int ((hX.ty hte).desc.trans hed)
            have hc := (hh.ent _ (Heap.find_mem hfind)).ch
            simp only at hc
            obtain ⟨_, hlc, hcm, hv⟩ := hu
            refine ⟨_, .string (bytesStr rows r len), h, ⟨rfl, by rw [bytesStr_size]; omega⟩, fun w' hw => ?_⟩
            by_cases h0 : len = 0
            · subst h0
              rcases hv with ⟨_, _, rfl⟩ | ⟨o, rfl, _⟩
              · rw [run_convert_bytes_string w' src dst et none _ _ e1 e3 e2]; rfl
              · rw [run_convert_bytes_string w' src dst et (some _) _ _ e1 e3 e2]
                rw [run_bytesToString w' _ 0 cap [] (by simp [loadCells, loadCellsFrom])]; rfl
            · rcases hv with ⟨h1, _, _⟩ | ⟨o, rfl, ho⟩
              · exact absurd h1 h0
              obtain ⟨rfl, _⟩ := ho (by omega)
              have hc' : (Chunk.arr ty [.int .u8] n rows).Sat ρ (ρ.pl tg) w' := by
                rcases hc with hc | ⟨vs, ty', fr, hb, h2, h3, h4, h5, h6⟩
                · exact .inl hc
                · exact .inr ⟨vs, ty', fr, by rw [hw tg rfl _ ((h5 _).2 rfl)]; exact hb, h2, h3, h4, h5, h6⟩
              obtain ⟨cells, c1, c2, c3⟩ := slc_cells (P := X.P) hc' hr h0
              rw [run_convert_bytes_string w' src dst et (some _) _ _ e1 e3 e2]
              have hcells : cells = (((List.range len).map fun i => toI (rows (r + i) 0)).map (Value.int .u8)).toArray := by
                apply Array.ext
                · simp [c2]
                · intro i hi1 hi2
                  have hi : i < len := by simpa [c2] using hi1
                  obtain ⟨g1, k, g2, g3⟩ := c3 i hi 0 (.int .u8) rfl
                  simp only [List.length_singleton, Nat.mul_one, Nat.add_zero] at g1
                  have g4 : cells[i]? = some cells[i] := Array.getElem?_eq_getElem hi1
                  rw [g4] at g1
                  rw [Option.some.inj g1, g2]
                  simp [g2, toI]
              have hl := c1 w' rfl
              simp only [List.length_singleton, Nat.mul_one] at hl
              rw [hcells] at hl
              simp only [Nat.mul_one]
              exact run_bytesToString w' _ len cap _ hl
          · exact h.elim
        · exact h.elim
      · exact h.elim
    · exact h.elim
  · obtain ⟨sv, r, h1, h2, h3⟩ := conv_ok hX h hu
    exact ⟨sv, r, h1, h2, fun w' _ => h3 w'⟩

end
end Go.Sx
