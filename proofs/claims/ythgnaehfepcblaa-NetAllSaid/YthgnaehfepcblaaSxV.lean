/-
  A state is matched with another one that is laid by hand: tags are renamed, equations are left to show.
-/
import Derived.Test.YthgnaehfepcblaaSxQ
namespace Go.Sx
section

/-- formal tags, each with the tag whose place it has; 'none': the place of a slice that is nil -/
abbrev Sub := List (Nat × Option Nat)
def subAt : Sub → Nat → Option (Option Nat)
  | [], _ => none
  | (j, v) :: r, t => bif Nat.beq j t then some v else subAt r t
def oeq : Option Nat → Option Nat → Bool
  | none, none => true
  | some a, some b => Nat.beq a b
  | _, _ => false
theorem oeq_eq {a b : Option Nat} (h : oeq a b = true) : a = b := by
  cases a <;> cases b <;> simp [oeq] at h <;> simp [h]

/-- 'n0': tags below it stand for themselves; 'N': how many formal tags there are -/
def bindT (n0 N : Nat) (σ : Sub) (T : Nat) (x : Option Nat) (K : Sub → Prop) : Prop :=
  match subAt σ T with
  | some y => bif oeq y x then K σ else False
  | none => bif Nat.blt T N && (Nat.ble n0 T || oeq x (some T)) then K ((T, x) :: σ) else False

def nilPlace : Place := ⟨0, 0, 0, fun _ => False⟩
def placeOf (ρ : Env) : Option Nat → Place
  | some t => ρ.pl t
  | none => nilPlace

structure Ext (σ σ' : Sub) : Prop where
  at_ : ∀ T x, subAt σ T = some x → subAt σ' T = some x
theorem Ext.refl (σ : Sub) : Ext σ σ := ⟨fun _ _ h => h⟩
theorem Ext.trans {a b c : Sub} (h : Ext a b) (k : Ext b c) : Ext a c := ⟨fun T x e => k.at_ T x (h.at_ T x e)⟩

structure Wf (n0 N : Nat) (σ : Sub) : Prop where
  lt : ∀ T x, subAt σ T = some x → T < N
  id : ∀ T x, subAt σ T = some x → T < n0 → x = some T
theorem Wf.nil (n0 N : Nat) : Wf n0 N [] := ⟨fun _ _ h => (by cases h), fun _ _ h => (by cases h)⟩

/-- the formal environment has the places that are named -/
def Fits (ρ ρ' : Env) (σ : Sub) : Prop := ∀ T x, subAt σ T = some x → T < ρ'.n ∧ ρ'.pl T = placeOf ρ x
theorem Fits.ext {ρ ρ' : Env} {σ σ' : Sub} (h : Fits ρ ρ' σ') (k : Ext σ σ') : Fits ρ ρ' σ := fun T x e => h T x (k.at_ T x e)

theorem bindT_ok {n0 N : Nat} {σ : Sub} {T : Nat} {x : Option Nat} {K : Sub → Prop} (h : bindT n0 N σ T x K) (hw : Wf n0 N σ) : ∃ σ', K σ' ∧ Ext σ σ' ∧ Wf n0 N σ' ∧ subAt σ' T = some x := by
  unfold bindT at h
  split at h
  · rename_i y hy
    cases hb : oeq y x
    · rw [hb] at h; exact h.elim
    · rw [hb] at h
      have := oeq_eq hb
      subst this
      exact ⟨σ, h, Ext.refl σ, hw, hy⟩
  · rename_i hn
    cases hb : (Nat.blt T N && (Nat.ble n0 T || oeq x (some T)))
    · rw [hb] at h; exact h.elim
    · rw [hb] at h
      simp only [Bool.and_eq_true, Bool.or_eq_true] at hb
      obtain ⟨h1, h2⟩ := hb
      have hlt : T < N := by simp [Nat.blt] at h1; omega
      have hself : subAt ((T, x) :: σ) T = some x := by simp [subAt]
      refine ⟨_, h, ⟨fun T' x' e => ?_⟩, ⟨fun T' x' e => ?_, fun T' x' e hl => ?_⟩, hself⟩
      · simp only [subAt]
        by_cases he : T = T'
        · subst he; rw [hn] at e; cases e
        · rw [beq_ne he]; exact e
      · simp only [subAt] at e
        by_cases he : T = T'
        · subst he; exact hlt
        · rw [beq_ne he] at e; exact hw.lt _ _ e
      · simp only [subAt] at e
        by_cases he : T = T'
        · subst he
          simp only [beq_self', cond_true, Option.some.injEq] at e
          subst e
          rcases h2 with h2 | h2
          · have := Nat.le_of_ble_eq_true h2; omega
          · exact oeq_eq h2
        · rw [beq_ne he] at e; exact hw.id _ _ e hl

/-! ### scalars -/

def matchI (x : A) (k : IntKind) (n : Int) (K : Prop) : Prop :=
  match x.i? with
  | some (j, m) => bif keq j k then m = n ∧ K else False
  | none => False
def matchB (x : A) (b : Bool) (K : Prop) : Prop :=
  match x.b? with
  | some c => c = b ∧ K
  | none => False

def matchA (n0 N : Nat) (σ : Sub) (x y : A) (K : Sub → Prop) : Prop :=
  match y with
  | .any => K σ
  | .lit k n => matchI x k n (K σ)
  | .int k n => matchI x k n (K σ)
  | .tt => matchB x true (K σ)
  | .ff => matchB x false (K σ)
  | .bool b => matchB x b (K σ)
  | .str t => match x with
    | .str s => s = t ∧ K σ
    | _ => False
  | .nil => match x with
    | .nil => K σ
    | _ => False
  | .snil => match x with
    | .snil => K σ
    | _ => False
  | .fn g => match x with
    | .fn f => bif Nat.beq f g then K σ else False
    | _ => False
  | .val u => match x with
    | .val v => v = u ∧ K σ
    | .snil => Value.slice none 0 0 = u ∧ K σ
    | _ => False
  | .ptr T R E C => match x with
    | .ptr t r e c => bif Nat.beq e E && Nat.beq c C then r = R ∧ bindT n0 N σ T (some t) K else False
    | _ => False
  | .slc T R E L C => match x with
    | .slc t r e l c => bif Nat.beq e E then (r = R ∧ l = L ∧ c = C) ∧ bindT n0 N σ T (some t) K else False
    | .snil => (0 = L ∧ 0 = C) ∧ bindT n0 N σ T none K
    | _ => False

theorem matchI_ok {x : A} {k : IntKind} {n : Int} {K : Prop} (h : matchI x k n K) : K ∧ ∀ (ρ : Env) v, x.Rep ρ v → v = .int k n ∧ InR k n := by
  unfold matchI at h
  split at h
  · rename_i j m hi
    cases hk : keq j k
    · rw [hk] at h; exact h.elim
    · rw [hk] at h
      obtain ⟨rfl, h⟩ := h
      have := keq_eq hk
      subst this
      exact ⟨h, fun ρ v r => A.i?_rep hi r⟩
  · exact h.elim
theorem matchB_ok {x : A} {b : Bool} {K : Prop} (h : matchB x b K) : K ∧ ∀ (ρ : Env) v, x.Rep ρ v → v = .bool b := by
  unfold matchB at h
  split at h
  · rename_i c hc
    obtain ⟨rfl, h⟩ := h
    exact ⟨h, fun ρ v r => A.b?_rep hc r⟩
  · exact h.elim

theorem matchA_ok {n0 N : Nat} {σ : Sub} {x y : A} {K : Sub → Prop} (h : matchA n0 N σ x y K) (hw : Wf n0 N σ) :
    ∃ σ', K σ' ∧ Ext σ σ' ∧ Wf n0 N σ' ∧ ∀ ρ ρ' v, Fits ρ ρ' σ' → x.Rep ρ v → y.Rep ρ' v := by
  cases y with
  | any => exact ⟨σ, h, Ext.refl σ, hw, fun _ _ _ _ _ => trivial⟩
  | lit k n => obtain ⟨h, hr⟩ := matchI_ok h; exact ⟨σ, h, Ext.refl σ, hw, fun ρ _ v _ r => hr ρ v r⟩
  | int k n => obtain ⟨h, hr⟩ := matchI_ok h; exact ⟨σ, h, Ext.refl σ, hw, fun ρ _ v _ r => hr ρ v r⟩
  | tt => obtain ⟨h, hr⟩ := matchB_ok h; exact ⟨σ, h, Ext.refl σ, hw, fun ρ _ v _ r => hr ρ v r⟩
  | ff => obtain ⟨h, hr⟩ := matchB_ok h; exact ⟨σ, h, Ext.refl σ, hw, fun ρ _ v _ r => hr ρ v r⟩
  | bool b => obtain ⟨h, hr⟩ := matchB_ok h; exact ⟨σ, h, Ext.refl σ, hw, fun ρ _ v _ r => hr ρ v r⟩
  | str t =>
    cases x <;> simp only [matchA] at h <;> try exact h.elim
    obtain ⟨rfl, h⟩ := h
    exact ⟨σ, h, Ext.refl σ, hw, fun ρ _ v _ r => r⟩
  | nil =>
    cases x <;> simp only [matchA] at h <;> try exact h.elim
    exact ⟨σ, h, Ext.refl σ, hw, fun ρ _ v _ r => r⟩
  | snil =>
    cases x <;> simp only [matchA] at h <;> try exact h.elim
    exact ⟨σ, h, Ext.refl σ, hw, fun ρ _ v _ r => r⟩
  | fn g =>
    cases x <;> simp only [matchA] at h <;> try exact h.elim
    rename_i f
    cases hb : Nat.beq f g
    · rw [hb] at h; exact h.elim
    · rw [hb] at h
      have := Nat.eq_of_beq_eq_true hb
      subst this
      exact ⟨σ, h, Ext.refl σ, hw, fun ρ _ v _ r => r⟩
  | val u =>
    cases x <;> simp only [matchA] at h <;> try exact h.elim
    · obtain ⟨rfl, h⟩ := h
      exact ⟨σ, h, Ext.refl σ, hw, fun ρ _ v _ r => ⟨r, rfl⟩⟩
    · obtain ⟨rfl, h⟩ := h
      exact ⟨σ, h, Ext.refl σ, hw, fun ρ _ v _ r => r⟩
  | ptr T R E C =>
    cases x <;> simp only [matchA] at h <;> try exact h.elim
    rename_i t r e c
    cases hb : (Nat.beq e E && Nat.beq c C)
    · rw [hb] at h; exact h.elim
    · rw [hb] at h
      simp only [Bool.and_eq_true] at hb
      have h1 := Nat.eq_of_beq_eq_true hb.1
      have h2 := Nat.eq_of_beq_eq_true hb.2
      subst h1; subst h2
      obtain ⟨rfl, h⟩ := h
      obtain ⟨σ', hk, he, hw', hs⟩ := bindT_ok h hw
      refine ⟨σ', hk, he, hw', fun ρ ρ' v hf r => ?_⟩
      obtain ⟨h1, h2⟩ := hf _ _ hs
      obtain ⟨_, rfl⟩ := r
      exact ⟨h1, by rw [h2]; rfl⟩
  | slc T R E L C =>
    cases x <;> simp only [matchA] at h <;> try exact h.elim
    · obtain ⟨⟨rfl, rfl⟩, h⟩ := h
      obtain ⟨σ', hk, he, hw', hs⟩ := bindT_ok h hw
      refine ⟨σ', hk, he, hw', fun ρ ρ' v hf r => ?_⟩
      obtain ⟨h1, h2⟩ := hf _ _ hs
      exact ⟨h1, Nat.le_refl _, by unfold lenMax; omega, .inl ⟨rfl, rfl, r⟩⟩
    · rename_i t r e l c
      cases hb : Nat.beq e E
      · rw [hb] at h; exact h.elim
      · rw [hb] at h
        have h1 := Nat.eq_of_beq_eq_true hb
        subst h1
        obtain ⟨⟨rfl, rfl, rfl⟩, h⟩ := h
        obtain ⟨σ', hk, he, hw', hs⟩ := bindT_ok h hw
        refine ⟨σ', hk, he, hw', fun ρ ρ' v hf r => ?_⟩
        obtain ⟨h1, h2⟩ := hf _ _ hs
        obtain ⟨_, h3, h4, h5⟩ := r
        exact ⟨h1, h3, h4, by rw [h2]; exact h5⟩

/-! ### lists of them -/

def matchL (n0 N : Nat) : Sub → List A → List A → (Sub → Prop) → Prop
  | σ, [], [], K => K σ
  | σ, x :: xs, y :: ys, K => matchA n0 N σ x y fun σ => matchL n0 N σ xs ys K
  | _, _, _, _ => False
theorem matchL_ok {n0 N : Nat} {K : Sub → Prop} : ∀ {σ : Sub} {xs ys : List A}, matchL n0 N σ xs ys K → Wf n0 N σ →
    ∃ σ', K σ' ∧ Ext σ σ' ∧ Wf n0 N σ' ∧ ∀ ρ ρ' vs, Fits ρ ρ' σ' → RepL ρ xs vs → RepL ρ' ys vs
  | σ, [], [], h, hw => ⟨σ, h, Ext.refl σ, hw, fun _ _ _ _ r => r⟩
  | σ, x :: xs, y :: ys, h, hw => by
    obtain ⟨σ1, h1, e1, w1, r1⟩ := matchA_ok h hw
    obtain ⟨σ2, h2, e2, w2, r2⟩ := matchL_ok h1 w1
    refine ⟨σ2, h2, e1.trans e2, w2, fun ρ ρ' vs hf r => ?_⟩
    obtain ⟨v, t, e, ra, rb⟩ := r
    exact ⟨v, t, e, r1 ρ ρ' v (hf.ext e2) ra, r2 ρ ρ' t hf rb⟩
  | _, [], _ :: _, h, _ => h.elim
  | _, _ :: _, [], h, _ => h.elim

def matchCV (n0 N : Nat) (σ : Sub) (x y : CV) (K : Sub → Prop) : Prop :=
  match x, y with
  | .a x, .a y => matchA n0 N σ x y K
  | .agg xs, .agg ys => matchL n0 N σ xs ys K
  | _, _ => False
theorem matchCV_ok {n0 N : Nat} {K : Sub → Prop} {σ : Sub} {x y : CV} (h : matchCV n0 N σ x y K) (hw : Wf n0 N σ) :
    ∃ σ', K σ' ∧ Ext σ σ' ∧ Wf n0 N σ' ∧ ∀ ρ ρ' v, Fits ρ ρ' σ' → x.Rep ρ v → y.Rep ρ' v := by
  cases x <;> cases y <;> simp only [matchCV] at h
  · exact matchA_ok h hw
  · obtain ⟨σ', h1, h2, h3, h4⟩ := matchL_ok h hw
    refine ⟨σ', h1, h2, h3, fun ρ ρ' v hf r => ?_⟩
    obtain ⟨vs, e, r⟩ := r
    exact ⟨vs, e, h4 ρ ρ' vs hf r⟩
def matchCs (n0 N : Nat) : Sub → List CV → List CV → (Sub → Prop) → Prop
  | σ, [], [], K => K σ
  | σ, x :: xs, y :: ys, K => matchCV n0 N σ x y fun σ => matchCs n0 N σ xs ys K
  | _, _, _, _ => False
theorem matchCs_ok {n0 N : Nat} {K : Sub → Prop} : ∀ {σ : Sub} {xs ys : List CV}, matchCs n0 N σ xs ys K → Wf n0 N σ →
    ∃ σ', K σ' ∧ Ext σ σ' ∧ Wf n0 N σ' ∧ ∀ ρ ρ' vs, Fits ρ ρ' σ' → RepC ρ xs vs → RepC ρ' ys vs
  | σ, [], [], h, hw => ⟨σ, h, Ext.refl σ, hw, fun _ _ _ _ r => r⟩
  | σ, x :: xs, y :: ys, h, hw => by
    obtain ⟨σ1, h1, e1, w1, r1⟩ := matchCV_ok h hw
    obtain ⟨σ2, h2, e2, w2, r2⟩ := matchCs_ok h1 w1
    refine ⟨σ2, h2, e1.trans e2, w2, fun ρ ρ' vs hf r => ?_⟩
    obtain ⟨v, t, e, ra, rb⟩ := r
    exact ⟨v, t, e, r1 ρ ρ' v (hf.ext e2) ra, r2 ρ ρ' t hf rb⟩
  | _, [], _ :: _, h, _ => h.elim
  | _, _ :: _, [], h, _ => h.elim

def isAny : SV → Bool
  | .a .any => true
  | _ => false
def matchV (n0 N : Nat) (σ : Sub) (x y : SV) (K : Sub → Prop) : Prop :=
  bif isAny y then K σ else
  match x, y with
  | .a x, .a y => matchA n0 N σ x y K
  | .agg xs, .agg ys => matchL n0 N σ xs ys K
  | .tup xs, .tup ys => matchCs n0 N σ xs ys K
  | _, _ => False
theorem matchV_ok {n0 N : Nat} {K : Sub → Prop} {σ : Sub} {x y : SV} (h : matchV n0 N σ x y K) (hw : Wf n0 N σ) :
    ∃ σ', K σ' ∧ Ext σ σ' ∧ Wf n0 N σ' ∧ ∀ ρ ρ' v, Fits ρ ρ' σ' → x.Rep ρ v → y.Rep ρ' v := by
  unfold matchV at h
  cases hb : isAny y
  · rw [hb] at h
    simp only [cond_false] at h
    split at h
    · exact matchA_ok h hw
    · obtain ⟨σ', h1, h2, h3, h4⟩ := matchL_ok h hw
      refine ⟨σ', h1, h2, h3, fun ρ ρ' v hf r => ?_⟩
      obtain ⟨vs, e, r⟩ := r
      exact ⟨vs, e, h4 ρ ρ' vs hf r⟩
    · obtain ⟨σ', h1, h2, h3, h4⟩ := matchCs_ok h hw
      refine ⟨σ', h1, h2, h3, fun ρ ρ' v hf r => ?_⟩
      obtain ⟨vs, e, r⟩ := r
      exact ⟨vs, e, h4 ρ ρ' vs hf r⟩
    · exact h.elim
  · rw [hb] at h
    simp only [cond_true] at h
    refine ⟨σ, h, Ext.refl σ, hw, fun _ _ _ _ _ => ?_⟩
    unfold isAny at hb
    split at hb
    · trivial
    · cases hb

def matchArgs (n0 N : Nat) : Sub → List SV → List SV → (Sub → Prop) → Prop
  | σ, [], [], K => K σ
  | σ, x :: xs, y :: ys, K => matchV n0 N σ x y fun σ => matchArgs n0 N σ xs ys K
  | _, _, _, _ => False
theorem matchArgs_ok {n0 N : Nat} {K : Sub → Prop} : ∀ {σ : Sub} {xs ys : List SV}, matchArgs n0 N σ xs ys K → Wf n0 N σ →
    ∃ σ', K σ' ∧ Ext σ σ' ∧ Wf n0 N σ' ∧ ∀ ρ ρ' vs, Fits ρ ρ' σ' → RepArgs ρ xs vs → RepArgs ρ' ys vs
  | σ, [], [], h, hw => ⟨σ, h, Ext.refl σ, hw, fun _ _ _ _ r => r⟩
  | σ, x :: xs, y :: ys, h, hw => by
    obtain ⟨σ1, h1, e1, w1, r1⟩ := matchV_ok h hw
    obtain ⟨σ2, h2, e2, w2, r2⟩ := matchArgs_ok h1 w1
    refine ⟨σ2, h2, e1.trans e2, w2, fun ρ ρ' vs hf r => ?_⟩
    obtain ⟨v, t, e, ra, rb⟩ := r
    exact ⟨v, t, e, r1 ρ ρ' v (hf.ext e2) ra, r2 ρ ρ' t hf rb⟩
  | _, [], _ :: _, h, _ => h.elim
  | _, _ :: _, [], h, _ => h.elim

/-- slot by slot -/
def matchFr (n0 N : Nat) (fr : List (Nat × SV)) : List Nat → Sub → List (Nat × SV) → (Sub → Prop) → Prop
  | _, σ, [], K => K σ
  | seen, σ, (i, v) :: r, K => bif memN seen i then matchFr n0 N fr seen σ r K else matchV n0 N σ (look fr i) v fun σ => matchFr n0 N fr (i :: seen) σ r K
theorem matchFr_ok {n0 N : Nat} {K : Sub → Prop} {fr : List (Nat × SV)} : ∀ {seen : List Nat} {σ : Sub} {ys : List (Nat × SV)}, matchFr n0 N fr seen σ ys K → Wf n0 N σ →
    ∃ σ', K σ' ∧ Ext σ σ' ∧ Wf n0 N σ' ∧ ∀ (ρ ρ' : Env) (tmps : Array Value), Fits ρ ρ' σ' → FrameSat ρ fr tmps → ∀ j, memN seen j = false → (look ys j).Rep ρ' (tmps.getD j undef)
  | _, σ, [], h, hw => ⟨σ, h, Ext.refl σ, hw, fun _ _ _ _ _ _ _ => trivial⟩
  | seen, σ, (i, y) :: ys, h, hw => by
    simp only [matchFr] at h
    cases hs : memN seen i
    · rw [hs] at h
      simp only [cond_false] at h
      obtain ⟨σ1, h1, e1, w1, r1⟩ := matchV_ok h hw
      obtain ⟨σ2, h2, e2, w2, r2⟩ := matchFr_ok h1 w1
      refine ⟨σ2, h2, e1.trans e2, w2, fun ρ ρ' vs hf r => ?_⟩
      intro j hj
      simp only [look]
      by_cases hij : i = j
      · subst hij
        simp only [beq_self', cond_true]
        exact r1 ρ ρ' _ (hf.ext e2) (r i)
      · rw [beq_ne hij]
        refine r2 ρ ρ' vs hf r j ?_
        simp only [memN, beq_ne hij, cond_false]; exact hj
    · rw [hs] at h
      simp only [cond_true] at h
      obtain ⟨σ2, h2, e2, w2, r2⟩ := matchFr_ok h hw
      refine ⟨σ2, h2, e2, w2, fun ρ ρ' vs hf r => ?_⟩
      intro j hj
      simp only [look]
      by_cases hij : i = j
      · subst hij; rw [hs] at hj; cases hj
      · rw [beq_ne hij]; exact r2 ρ ρ' vs hf r j hj

/-! ### the heap -/

/-- the same rows, as far as they are told -/
structure RowsEq (n m : Nat) (rows rows' : Nat → Nat → Value) : Prop where
  at_ : ∀ i, i < n → ∀ j, j < m → rows i j = rows' i j
@[simp] theorem RowsEq.refl (n m : Nat) (rows : Nat → Nat → Value) : RowsEq n m rows rows := ⟨fun _ _ _ _ => rfl⟩

def matchCh (n0 N : Nat) (σ : Sub) (c d : Chunk) (K : Sub → Prop) : Prop :=
  match c, d with
  | .obj ty cs, .obj ty' cs' => bif Nat.beq ty ty' then matchL n0 N σ cs cs' K else False
  | .arr ty ks n rows, .arr ty' ks' n' rows' => bif Nat.beq ty ty' && cksEq ks ks' then (n' ≤ n ∧ RowsEq n' ks'.length rows rows') ∧ K σ else False
  | .abs R, .abs R' => R = R' ∧ K σ
  | _, _ => False

theorem matchCh_ok {n0 N : Nat} {K : Sub → Prop} {σ : Sub} {c d : Chunk} (h : matchCh n0 N σ c d K) (hw : Wf n0 N σ) :
    ∃ σ', K σ' ∧ Ext σ σ' ∧ Wf n0 N σ' ∧ ∀ ρ ρ' p w, Fits ρ ρ' σ' → c.Sat ρ p w → d.Sat ρ' p w := by
  unfold matchCh at h
  split at h
  · rename_i ty cs ty' cs'
    cases hb : Nat.beq ty ty'
    · rw [hb] at h; exact h.elim
    · rw [hb] at h
      have := Nat.eq_of_beq_eq_true hb
      subst this
      obtain ⟨σ', h1, h2, h3, h4⟩ := matchL_ok h hw
      refine ⟨σ', h1, h2, h3, fun ρ ρ' p w hf r => ?_⟩
      obtain ⟨vs, fr, a, b, ⟨us, xs, e, c⟩, d⟩ := r
      exact ⟨vs, fr, a, b, ⟨us, xs, e, h4 ρ ρ' _ hf c⟩, d⟩
  · rename_i ty ks n rows ty' ks' n' rows'
    cases hb : (Nat.beq ty ty' && cksEq ks ks')
    · rw [hb] at h; exact h.elim
    · rw [hb] at h
      simp only [Bool.and_eq_true] at hb
      have e1 := Nat.eq_of_beq_eq_true hb.1
      have e2 := cksEq_eq hb.2
      subst e1; subst e2
      obtain ⟨⟨hn, hr⟩, h⟩ := h
      refine ⟨σ, h, Ext.refl σ, hw, fun ρ ρ' p w hf r => ?_⟩
      rcases r with ⟨a, b, c⟩ | ⟨vs, ty', fr, a, b, c, d, e, f⟩
      · exact .inl ⟨by omega, b, c⟩
      · refine .inr ⟨vs, ty', fr, a, b, by omega, d, e, fun i hi j k hk => ?_⟩
        rw [← hr.at_ i hi j (List.getElem?_eq_some_iff.1 hk).1]
        exact f i (by omega) j k hk
  · obtain ⟨rfl, h⟩ := h
    exact ⟨σ, h, Ext.refl σ, hw, fun ρ ρ' p w hf r => r⟩
  · exact h.elim

def noTag (T : Nat) : Heap → Bool
  | [] => true
  | e :: r => bif Nat.beq e.tag T then false else noTag T r
theorem noTag_spec {T : Nat} : ∀ {hp : Heap}, noTag T hp = true → ∀ e ∈ hp, T ≠ e.tag
  | [], _, _, h => by cases h
  | x :: r, h, e, he => by
    simp only [noTag] at h
    by_cases hx : x.tag = T
    · rw [hx, beq_self'] at h; cases h
    · rw [beq_ne hx] at h
      rcases List.mem_cons.1 he with rfl | he
      · exact fun hh => hx hh.symm
      · exact noTag_spec h e he

def isNo : Chunk → Prop → Prop
  | .arr _ _ n _, K => n = 0 ∧ K
  | _, _ => False

/-- the first entry of which something is said that is not known -/
def findAbs (wr : Bool) : Heap → Option Nat
  | [] => none
  | e :: r => match e.ch with
    | .abs _ => bif (bif wr then e.wr else !e.wr) then some e.tag else findAbs wr r
    | _ => findAbs wr r
def absTag (wr : Bool) (c : Chunk) (hp : Heap) : Option Nat := match c with
  | .abs _ => findAbs wr hp
  | _ => none

/-- the entries of a formal heap, one by one; one that is not known yet comes later ('d': how often); what is left over is handed on -/
def matchHp (n0 N : Nat) : Nat → Nat → Sub → Heap → Heap → (Sub → Heap → Prop) → Prop
  | 0, _, _, _, _, _ => False
  | _ + 1, _, σ, hp, [], K => K σ hp
  | n + 1, d, σ, hp, e :: r, K => bif noTag e.tag r then
    (match subAt σ e.tag with
    | some none => isNo e.ch (matchHp n0 N n r.length σ hp r K)
    | some (some t) => match hp.find t with
      | some (wr, ch) => bif !e.wr || wr then matchCh n0 N σ ch e.ch fun σ => matchHp n0 N n r.length σ (hp.del t) r K else False
      | none => False
    | none => match absTag e.wr e.ch hp with
      | some t => (match hp.find t with
        | some (wr, ch) => bif !e.wr || wr then bindT n0 N σ e.tag (some t) fun σ => matchCh n0 N σ ch e.ch fun σ => matchHp n0 N n r.length σ (hp.del t) r K else False
        | none => False)
      | none => match d with
        | d + 1 => matchHp n0 N n d σ hp (r ++ [e]) K
        | 0 => match hp.find e.tag with
          | some (wr, ch) => bif !e.wr || wr then bindT n0 N σ e.tag (some e.tag) fun σ => matchCh n0 N σ ch e.ch fun σ => matchHp n0 N n r.length σ (hp.del e.tag) r K else False
          | none => False) else False

/-- where the entries come from -/
inductive Got (σ : Sub) : Heap → Heap → Heap → Prop where
  | nil (hp : Heap) : Got σ hp [] hp
  | later {hp r rest : Heap} {e : Ent} : Got σ hp (r ++ [e]) rest → Got σ hp (e :: r) rest
  | skip {hp r rest : Heap} {T : Nat} {wr : Bool} {ty : TypeId} {ks : List CK} {rows : Nat → Nat → Value} : subAt σ T = some none → (∀ e ∈ r, T ≠ e.tag) → Got σ hp r rest → Got σ hp (⟨T, wr, .arr ty ks 0 rows⟩ :: r) rest
  | take {hp r rest : Heap} {T t : Nat} {wr wr' : Bool} {ch ch' : Chunk} : subAt σ T = some (some t) → hp.find t = some (wr', ch') → (wr = true → wr' = true) →
      (∀ ρ ρ' p w, Fits ρ ρ' σ → ch'.Sat ρ p w → ch.Sat ρ' p w) → (∀ e ∈ r, T ≠ e.tag) → Got σ (hp.del t) r rest → Got σ hp (⟨T, wr, ch⟩ :: r) rest

theorem matchHp_ok {n0 N : Nat} {K : Sub → Heap → Prop} : ∀ {n d : Nat} {J : Heap} {σ : Sub} {hp : Heap}, matchHp n0 N n d σ hp J K → Wf n0 N σ → ∃ σ' rest, K σ' rest ∧ Ext σ σ' ∧ Wf n0 N σ' ∧ Got σ' hp J rest
  | 0, _, _, _, _, h, _ => h.elim
  | _ + 1, _, [], σ, hp, h, hw => ⟨σ, hp, h, Ext.refl σ, hw, .nil hp⟩
  | n + 1, d, ⟨T, wr, ch⟩ :: r, σ, hp, h, hw => by
    simp only [matchHp] at h
    cases hn : noTag T r
    · rw [hn] at h; exact h.elim
    rw [hn] at h
    simp only [cond_true] at h
    have hne := noTag_spec hn
    split at h
    · rename_i hs
      cases ch <;> simp only [isNo] at h <;> try exact h.elim
      obtain ⟨rfl, h⟩ := h
      obtain ⟨σ', rest, h1, h2, h3, h4⟩ := matchHp_ok h hw
      exact ⟨σ', rest, h1, h2, h3, .skip (h2.at_ _ _ hs) hne h4⟩
    · rename_i t hs
      split at h
      · rename_i wr' ch' hf
        cases hb : (!wr || wr')
        · rw [hb] at h; exact h.elim
        rw [hb] at h
        simp only [cond_true] at h
        obtain ⟨σ1, k1, e1, w1, r1⟩ := matchCh_ok h hw
        obtain ⟨σ', rest, h1, h2, h3, h4⟩ := matchHp_ok k1 w1
        refine ⟨σ', rest, h1, e1.trans h2, h3, .take ((e1.trans h2).at_ _ _ hs) hf (fun hw => ?_) (fun ρ ρ' p w hf => r1 ρ ρ' p w (hf.ext h2)) hne h4⟩
        subst hw; simpa using hb
      · exact h.elim
    · split at h
      · split at h
        · rename_i wr' ch' hf
          cases hb : (!wr || wr')
          · rw [hb] at h; exact h.elim
          rw [hb] at h
          simp only [cond_true] at h
          obtain ⟨σ0, k0, e0, w0, s0⟩ := bindT_ok h hw
          obtain ⟨σ1, k1, e1, w1, r1⟩ := matchCh_ok k0 w0
          obtain ⟨σ', rest, h1, h2, h3, h4⟩ := matchHp_ok k1 w1
          refine ⟨σ', rest, h1, e0.trans (e1.trans h2), h3, .take ((e1.trans h2).at_ _ _ s0) hf (fun hw => ?_) (fun ρ ρ' p w hf => r1 ρ ρ' p w (hf.ext h2)) hne h4⟩
          subst hw; simpa using hb
        · exact h.elim
      · split at h
        · obtain ⟨σ', rest, h1, h2, h3, h4⟩ := matchHp_ok h hw
          exact ⟨σ', rest, h1, h2, h3, .later h4⟩
        · split at h
          · rename_i wr' ch' hf
            cases hb : (!wr || wr')
            · rw [hb] at h; exact h.elim
            rw [hb] at h
            simp only [cond_true] at h
            obtain ⟨σ0, k0, e0, w0, s0⟩ := bindT_ok h hw
            obtain ⟨σ1, k1, e1, w1, r1⟩ := matchCh_ok k0 w0
            obtain ⟨σ', rest, h1, h2, h3, h4⟩ := matchHp_ok k1 w1
            refine ⟨σ', rest, h1, e0.trans (e1.trans h2), h3, .take ((e1.trans h2).at_ _ _ s0) hf (fun hw => ?_) (fun ρ ρ' p w hf => r1 ρ ρ' p w (hf.ext h2)) hne h4⟩
            subst hw; simpa using hb
          · exact h.elim

theorem Got.rest {σ : Sub} {hp J rest : Heap} (h : Got σ hp J rest) : rest.Sublist hp := by
  induction h with
  | nil => exact List.Sublist.refl _
  | later _ ih => exact ih
  | skip _ _ _ ih => exact ih
  | take _ _ _ _ _ _ ih => exact ih.trans Heap.del_sub

/-- each entry has the place of one that was there, or none -/
theorem Got.src {σ : Sub} {hp J rest : Heap} (h : Got σ hp J rest) {ρ ρ' : Env} (hf : Fits ρ ρ' σ) : ∀ e ∈ J, (∀ b, ¬ (ρ'.pl e.tag).fp b) ∨ ∃ e' ∈ hp, ρ'.pl e.tag = ρ.pl e'.tag ∧ (e.wr = true → e'.wr = true) := by
  induction h with
  | nil => intro e he; cases he
  | later _ ih => intro e he; exact ih e (by simp only [List.mem_cons, List.mem_append, List.not_mem_nil, or_false] at he ⊢; exact he.symm)
  | skip hs _ _ ih =>
    intro e he
    rcases List.mem_cons.1 he with rfl | he
    · left; intro b; rw [(hf _ _ hs).2]; exact id
    · exact ih e he
  | take hs hfd hw _ _ _ ih =>
    intro e he
    rcases List.mem_cons.1 he with rfl | he
    · exact .inr ⟨_, Heap.find_mem hfd, (hf _ _ hs).2, hw⟩
    · rcases ih e he with h | ⟨e', h1, h2⟩
      · exact .inl h
      · exact .inr ⟨e', Heap.del_sub.subset h1, h2⟩

theorem Apart.symm {ρ : Env} {x y : Ent} (h : Apart ρ x y) : Apart ρ y x := ⟨h.1.symm, fun hw b hb hb' => h.2 (by rw [Bool.or_comm]; exact hw) b hb' hb⟩
theorem HeapSat.perm {w0 : World} {M : Nat → Prop} {ρ : Env} {w : World} {hp hp' : Heap} (h : HeapSat w0 M ρ hp w) (hq : hp.Perm hp') : HeapSat w0 M ρ hp' w :=
  ⟨h.keeps, fun e he => h.ent e (hq.mem_iff.2 he), hq.pairwise h.apart fun h => h.symm⟩
/-- a formal heap of a heap -/
theorem Got.sat {σ : Sub} {hp J rest : Heap} (h : Got σ hp J rest) {ρ ρ' : Env} (hf : Fits ρ ρ' σ) {w0 : World} {M : Nat → Prop} {w : World} (hh : HeapSat w0 M ρ hp w) : HeapSat w0 M ρ' J w := by
  induction h with
  | nil => exact ⟨hh.keeps, fun _ h => (by cases h), .nil⟩
  | later _ ih => exact (ih hh).perm (List.perm_append_singleton _ _)
  | skip hs hne _ ih =>
    refine (ih hh).cons ⟨(hf _ _ hs).1, ?_, ?_, ?_⟩ fun x hx => ⟨hne x hx, fun _ b hb => ?_⟩
    · refine .inl ⟨rfl, ?_, fun b hb => ?_⟩
      · rw [(hf _ _ hs).2]; rfl
      · rw [(hf _ _ hs).2] at hb; exact hb
    · intro b hb; rw [(hf _ _ hs).2] at hb; exact hb.elim
    · intro _ b hb; rw [(hf _ _ hs).2] at hb; exact hb.elim
    · rw [(hf _ _ hs).2] at hb; exact hb.elim
  | @take hp r rest T t wr wr' ch ch' hs hfd hw hc hne hg ih =>
    have hp1 := (hf _ _ hs).2
    have he := hh.ent _ (Heap.find_mem hfd)
    refine (ih (hh.sub Heap.del_sub)).cons ⟨(hf _ _ hs).1, ?_, ?_, ?_⟩ fun x hx => ⟨hne x hx, fun hwr b hb hb' => ?_⟩
    · rw [hp1]; exact hc ρ ρ' _ w hf he.ch
    · rw [hp1]; exact he.lt
    · intro h1; rw [hp1]; exact he.own (hw h1)
    · rw [hp1] at hb
      rcases hg.src hf x hx with h | ⟨e', h1, h2, h3⟩
      · exact h b hb'
      · rw [h2] at hb'
        refine (hh.del_ne hfd e' h1).2 ?_ b hb hb'
        simp only [Bool.or_eq_true] at hwr ⊢
        exact hwr.imp hw h3

/-- and it is apart from what is left -/
theorem Got.apart {σ : Sub} {hp J rest : Heap} (h : Got σ hp J rest) {ρ ρ' : Env} (hf : Fits ρ ρ' σ) {w0 : World} {M : Nat → Prop} {w : World} (hh : HeapSat w0 M ρ hp w) :
    ∀ e ∈ J, ∀ f ∈ rest, (e.wr || f.wr) = true → ∀ b, (ρ'.pl e.tag).fp b → ¬ (ρ.pl f.tag).fp b := by
  induction h with
  | nil => intro e he; cases he
  | later _ ih => intro e he; exact ih hh e (by simp only [List.mem_cons, List.mem_append, List.not_mem_nil, or_false] at he ⊢; exact he.symm)
  | skip hs _ _ ih =>
    intro e he f hfm
    rcases List.mem_cons.1 he with rfl | he
    · intro _ b hb; rw [(hf _ _ hs).2] at hb; exact hb.elim
    · exact ih hh e he f hfm
  | take hs hfd hw _ _ hg ih =>
    intro e he f hfm
    rcases List.mem_cons.1 he with rfl | he
    · intro hwr b hb
      rw [(hf _ _ hs).2] at hb
      refine (hh.del_ne hfd f (hg.rest.subset hfm)).2 ?_ b hb
      simp only [Bool.or_eq_true] at hwr ⊢
      exact hwr.imp hw id
    · exact ih (hh.sub Heap.del_sub) e he f hfm

/-! ### states -/

/-- the places of the tags below n stay -/
structure Env.upto (m : Nat) (ρ ρ' : Env) : Prop where
  n : m ≤ ρ'.n
  pl : ∀ t : Nat, t < m → ρ'.pl t = ρ.pl t
theorem Env.le.upto {ρ ρ' : Env} (h : ρ.le ρ') {n : Nat} (hn : n ≤ ρ.n) : Env.upto n ρ ρ' := ⟨Nat.le_trans hn h.n, fun t ht => h.pl t (Nat.lt_of_lt_of_le ht hn)⟩
theorem Env.upto.trans {n : Nat} {a b c : Env} (h : Env.upto n a b) (k : Env.upto n b c) : Env.upto n a c := ⟨k.n, fun t ht => (k.pl t ht).trans (h.pl t ht)⟩


def subEnv (ρ : Env) (σ : Sub) (N : Nat) : Env := ⟨N, fun T => match subAt σ T with | some x => placeOf ρ x | none => ρ.pl T⟩
theorem subEnv_fits {ρ : Env} {σ : Sub} {n0 N : Nat} (h : Wf n0 N σ) : Fits ρ (subEnv ρ σ N) σ := fun T x e => ⟨h.lt T x e, by simp [subEnv, e]⟩
theorem subEnv_upto {ρ : Env} {σ : Sub} {n0 N : Nat} (h : Wf n0 N σ) (hN : n0 ≤ N) : Env.upto n0 ρ (subEnv ρ σ N) := ⟨hN, fun t ht => by
  show (match subAt σ t with | some x => placeOf ρ x | none => ρ.pl t) = ρ.pl t
  split
  · rename_i x e; rw [h.id t x e ht]; rfl
  · rfl⟩

/-- 's' is a state as 'J' says -/
def stMatch (n0 : Nat) (s J : S) (p : Prop) : Prop :=
  bif Nat.beq s.nt J.nt && Nat.ble n0 J.nx then matchFr n0 J.nx s.fr [] [] J.fr (fun σ => matchHp n0 J.nx 1000 J.hp.length σ s.hp J.hp fun _ _ => p) else False

theorem stMatch_ok {n0 : Nat} {s J : S} {p : Prop} (h : stMatch n0 s J p) : p ∧ ∀ w0 M ρ a w, SatE w0 M ρ s a w → ∃ ρ', Env.upto n0 ρ ρ' ∧ SatE w0 M ρ' J a w := by
  unfold stMatch at h
  cases hb : (Nat.beq s.nt J.nt && Nat.ble n0 J.nx)
  · rw [hb] at h; exact h.elim
  rw [hb] at h
  simp only [cond_true] at h
  simp only [Bool.and_eq_true] at hb
  have hnt := Nat.eq_of_beq_eq_true hb.1
  have hnx := Nat.le_of_ble_eq_true hb.2
  obtain ⟨σ1, h1, e1, w1, f1⟩ := matchFr_ok h (Wf.nil _ _)
  obtain ⟨σ2, rest, h2, e2, w2, g⟩ := matchHp_ok h1 w1
  refine ⟨h2, fun w0 M ρ a w hs => ⟨subEnv ρ σ2 J.nx, subEnv_upto w2 hnx, ⟨hs.defers, hs.size.trans hnt, rfl, ?_, g.sat (subEnv_fits w2) hs.heap⟩⟩⟩
  exact fun j => f1 ρ _ _ ((subEnv_fits w2).ext e2) hs.frame j rfl

end
end Go.Sx
