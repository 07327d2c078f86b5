/-
  The operations of the model, carried out on symbolic values: those that make no memory and write none.
-/
import Derived.Test.YthgnaehfepcblaaSxB
namespace Go.Sx

/-! ### types -/

inductive D where
  | bool
  | int (k : IntKind)
  | str
  | ptr
  | slc (e : TypeId)
  | struct (fs : List (Nat × Nat))
  | arr (n : Nat) (e : TypeId)
  | func
  | other

structure TI where
  sz : Nat
  bytes : Nat
  agg : Bool
  d : D
  zero : List A
  ks : List CK

def aOfV : Value → A
  | .int k n => .lit k n
  | .bool true => .tt
  | .bool false => .ff
  | .string s => .str s
  | .pointer none => .nil
  | .slice none 0 0 => .snil
  | .func (.func f) ⟨[]⟩ ⟨[]⟩ => .fn f
  | v => .val v

def inRB (k : IntKind) (n : Int) : Bool := decide (k.min ≤ n) && decide (n ≤ k.max)
theorem inRB_iff {k : IntKind} {n : Int} : inRB k n = true ↔ InR k n := by simp [inRB, InR_iff]

def vOk : Value → Bool
  | .int k n => inRB k n
  | .string s => Nat.ble s.size lenMax
  | .agg _ => false
  | .tuple _ => false
  | _ => true

theorem vOk_one {v : Value} (h : vOk v = true) : v.oneCell' = true := by
  cases v <;> first | rfl | (simp [vOk] at h; done)

theorem Rep_aOfV (ρ : Env) {v : Value} (h : vOk v = true) : (aOfV v).Rep ρ v := by
  unfold aOfV
  split
  · exact ⟨rfl, inRB_iff.1 h⟩
  · rfl
  · rfl
  · exact ⟨rfl, Nat.le_of_ble_eq_true h⟩
  · rfl
  · rfl
  · rfl
  · exact ⟨rfl, vOk_one h⟩

def allOk : List Value → Bool
  | [] => true
  | v :: r => vOk v && allOk r
theorem RepL_map_aOfV (ρ : Env) : ∀ {vs : List Value}, allOk vs = true → RepL ρ (vs.map aOfV) vs
  | [], _ => rfl
  | v :: r, h => by
    simp only [allOk, Bool.and_eq_true] at h
    exact ⟨v, r, rfl, Rep_aOfV ρ h.1, RepL_map_aOfV ρ h.2⟩

def svOfV : Value → SV
  | .agg cs => bif allOk cs.toList then .agg (cs.toList.map aOfV) else .a .any
  | v => bif vOk v then .a (aOfV v) else .a .any
theorem Rep_svOfV (ρ : Env) (v : Value) : (svOfV v).Rep ρ v := by
  unfold svOfV
  split
  · rename_i cs
    cases h : allOk cs.toList
    · exact trivial
    · exact ⟨cs.toList, by simp, RepL_map_aOfV ρ h⟩
  · cases h : vOk v
    · exact trivial
    · exact Rep_aOfV ρ h

def ckOf : A → CK
  | .lit k _ => .int k
  | .int k _ => .int k
  | .tt => .bool
  | .ff => .bool
  | .str _ => .str
  | _ => .other
/-- 'dp': slices are told as they are -/
def ckOfd (dp : Bool) : A → CK
  | .snil => bif dp then .deep else .other
  | x => ckOf x

def descOf (P : Program) (t : TypeId) : D :=
  match P.underlying t with
  | some .bool => .bool
  | some (.int k) => .int k
  | some .string => .str
  | some (.pointer _) => .ptr
  | some (.slice e) => .slc e
  | some (.struct fs) => .struct (fs.toList.map fun f => (f.offset, P.cellsOf f.type))
  | some (.array n e) => .arr n e
  | some (.func ..) => .func
  | _ => .other

def D.isAgg : D → Bool
  | .struct _ => true
  | .arr _ _ => true
  | _ => false
def isAggV : Value → Bool
  | .agg _ => true
  | _ => false

def fieldsKnown (P : Program) (t : TypeId) : Bool :=
  match P.underlying t with
  | some (.struct fs) => fs.toList.all fun f => (P.info? f.type).isSome
  | some (.array _ e) => (P.info? e).isSome
  | some (.slice e) => (P.info? e).isSome
  | _ => true

def mkTId (dp : Bool) (P : Program) (t : TypeId) : Option TI :=
  match P.info? t with
  | some i =>
    match i.zero, P.underlying t with
    | some z, some _ =>
      bif allOk z.cells.toList && (Nat.beq z.cells.size i.size && ((bif (descOf P t).isAgg then isAggV z else !isAggV z) && fieldsKnown P t))
      then some ⟨i.size, i.bytes, (descOf P t).isAgg, descOf P t, z.cells.toList.map aOfV, z.cells.toList.map fun v => ckOfd dp (aOfV v)⟩
      else none
    | _, _ => none
  | none => none
def mkTI (P : Program) (t : TypeId) : Option TI := mkTId false P t

/-- 'force': each bool is to come out as a constant -/
structure Cx where
  P : Program
  T : List (Nat × TI)
  force : Bool
  dbg : Bool

/-- what must hold: where all is known it is looked at at once -/
def need (force : Bool) (p : Prop) [Decidable p] (k : Prop) : Prop := bif force then (bif decide p then k else False) else p ∧ k
theorem need_ok {force : Bool} {p : Prop} [Decidable p] {k : Prop} (h : need force p k) : p ∧ k := by
  cases force with
  | false => exact h
  | true =>
    by_cases hp : p
    · simp [need, hp] at h; exact ⟨hp, h⟩
    · simp [need, hp] at h

/-- a trace, for the workbench -/
inductive Mark (n : Nat) : Prop where
  | mk
def mark (dbg : Bool) (n : Nat) (p : Prop) : Prop := bif dbg then (Mark n → p) else p
theorem mark_ok {dbg : Bool} {n : Nat} {p : Prop} (h : mark dbg n p) : p := by
  cases dbg with
  | true => exact h .mk
  | false => exact h

def splitB (force b : Bool) (t e : Prop) : Prop := bif force then (bif b then t else e) else (b = true → t) ∧ (b = false → e)
theorem splitB_ok {force b : Bool} {t e : Prop} (h : splitB force b t e) : (b = true → t) ∧ (b = false → e) := by
  cases force <;> cases b <;> simp [splitB] at h <;> simp [h]

def tyAt : List (Nat × TI) → Nat → Option TI
  | [], _ => none
  | (j, i) :: r, t => bif Nat.beq j t then some i else tyAt r t
def Cx.ti (X : Cx) (t : Nat) : Option TI := tyAt X.T t

/-- the table says what the program's own table says -/
structure Cx.Ok (X : Cx) : Prop where
  tab : ∃ dp, X.T.map (fun p => mkTId dp X.P p.1) = X.T.map fun p => some p.2
  mixed : X.P.follows .mixedOrders = true

theorem tyAt_mem : ∀ {l : List (Nat × TI)} {t : Nat} {i : TI}, tyAt l t = some i → (t, i) ∈ l
  | [], _, _, h => by simp [tyAt] at h
  | (j, i') :: r, t, i, h => by
    simp only [tyAt] at h
    by_cases hj : j = t
    · subst hj
      simp only [beq_self', cond_true, Option.some.injEq] at h
      subst h; exact List.mem_cons_self
    · simp only [beq_ne hj, cond_false] at h
      exact List.mem_cons_of_mem _ (tyAt_mem h)

theorem Cx.Ok.ti {X : Cx} (h : X.Ok) {t : Nat} {i : TI} (ht : X.ti t = some i) : ∃ dp, mkTId dp X.P t = some i := by
  have hm := tyAt_mem ht
  obtain ⟨n, hn, e⟩ := List.getElem_of_mem hm
  obtain ⟨dp, htab⟩ := h.tab
  refine ⟨dp, ?_⟩
  have := congrArg (fun l => l[n]?) htab
  simp [hn, e] at this
  exact this

/-- what the table says of a type -/
structure TyOk (P : Program) (t : Nat) (i : TI) : Prop where
  size : P.cellsOf t = i.sz
  info : ∃ j, P.info? t = some j ∧ j.size = i.sz ∧ j.bytes = i.bytes ∧ ∃ z, j.zero = some z ∧ z.cells.toList.length = i.sz ∧ i.zero = z.cells.toList.map aOfV ∧ allOk z.cells.toList = true ∧ i.ks.length = i.sz ∧
    (i.agg = true → z = .agg z.cells) ∧ (i.agg = false → z.oneCell' = true ∨ ∃ vs, z = .tuple vs)
  desc : descOf P t = i.d
  under : ∃ d, P.underlying t = some d
  agg : i.agg = i.d.isAgg
  known : fieldsKnown P t = true

theorem mkTI_ok {P : Program} {dp : Bool} {t : Nat} {i : TI} (h : mkTId dp P t = some i) : TyOk P t i := by
  unfold mkTId at h
  split at h
  · rename_i j hj
    split at h
    · rename_i z d hz hd
      cases hb : (allOk z.cells.toList && (Nat.beq z.cells.size j.size && ((bif (descOf P t).isAgg then isAggV z else !isAggV z) && fieldsKnown P t)))
      · rw [hb] at h; simp at h
      · rw [hb] at h
        simp only [cond_true, Option.some.injEq] at h
        subst h
        simp only [Bool.and_eq_true] at hb
        obtain ⟨h1, h2, h3, h4⟩ := hb
        have h2' := Nat.eq_of_beq_eq_true h2
        refine ⟨by simp [Program.cellsOf, hj], ⟨j, hj, rfl, rfl, z, hz, by simpa using h2', rfl, h1, by simpa using h2', ?_, ?_⟩, rfl, ⟨d, hd⟩, rfl, h4⟩
        · intro hagg
          replace hagg : (descOf P t).isAgg = true := hagg
          rw [hagg] at h3
          cases z <;> first | rfl | (simp [isAggV] at h3; done)
        · intro hagg
          replace hagg : (descOf P t).isAgg = false := hagg
          rw [hagg] at h3
          cases z <;> first | exact .inl rfl | exact .inr ⟨_, rfl⟩ | (simp [isAggV] at h3; done)
    · simp at h
  · simp at h

theorem Cx.Ok.ty {X : Cx} (h : X.Ok) {t : Nat} {i : TI} (ht : X.ti t = some i) : TyOk X.P t i :=
  let ⟨_, h⟩ := h.ti ht
  mkTI_ok h

end Go.Sx
