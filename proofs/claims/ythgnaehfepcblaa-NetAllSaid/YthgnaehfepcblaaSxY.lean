/-
  Lists of data as rows of cells; tables of contracts.
-/
import Derived.Test.YthgnaehfepcblaaSxW
namespace Go.Sx
section

/-- an entry of a list -/
def gl {α : Type} [Inhabited α] (l : List α) (i : Nat) : α := l.getD i default
theorem gl_eq {α : Type} [Inhabited α] {l : List α} {i : Nat} (h : i < l.length) : gl l i = l[i] := by simp [gl, List.getD, h]
theorem gl_some {α : Type} [Inhabited α] {l : List α} {i : Nat} {x : α} (h : l[i]? = some x) : gl l i = x := by simp [gl, List.getD, h]
theorem gl_append_left {α : Type} [Inhabited α] {l m : List α} {i : Nat} (h : i < l.length) : gl (l ++ m) i = gl l i := by simp [gl, List.getD, List.getElem?_append_left h]
theorem gl_append_right {α : Type} [Inhabited α] {l m : List α} {i : Nat} (h : l.length ≤ i) : gl (l ++ m) i = gl m (i - l.length) := by simp [gl, List.getD, List.getElem?_append_right h]
theorem gl_set_self {α : Type} [Inhabited α] {l : List α} {i : Nat} {x : α} (h : i < l.length) : gl (l.set i x) i = x := by simp [gl, List.getD, h]
theorem gl_set_ne {α : Type} [Inhabited α] {l : List α} {i j : Nat} {x : α} (h : i ≠ j) : gl (l.set i x) j = gl l j := by simp [gl, List.getD, List.getElem?_set_ne h]
theorem gl_map {α β : Type} [Inhabited α] [Inhabited β] {l : List α} {f : α → β} {i : Nat} (h : i < l.length) : gl (l.map f) i = f (gl l i) := by simp [gl, List.getD, h]
theorem gl_drop {α : Type} [Inhabited α] {l : List α} {i k : Nat} : gl (l.drop k) i = gl l (k + i) := by simp [gl, List.getD]
theorem gl_take {α : Type} [Inhabited α] {l : List α} {i k : Nat} (h : i < k) : gl (l.take k) i = gl l i := by simp [gl, List.getD, h]
theorem take_succ_gl {α : Type} [Inhabited α] {l : List α} {i : Nat} (h : i < l.length) : l.take (i + 1) = l.take i ++ [gl l i] := by
  rw [List.take_succ_eq_append_getElem h, gl_eq h]
theorem gl_mem {α : Type} [Inhabited α] {l : List α} {i : Nat} (h : i < l.length) : gl l i ∈ l := by rw [gl_eq h]; exact List.getElem_mem h
theorem ext_gl {α : Type} [Inhabited α] {l m : List α} (h : l.length = m.length) (k : ∀ i, i < l.length → gl l i = gl m i) : l = m := by
  apply List.ext_getElem h
  intro i h1 h2
  have := k i h1
  rwa [gl_eq h1, gl_eq h2] at this

/-- rows of cells, each a datum's -/
def encRows {α : Type} [Inhabited α] (enc : α → List Value) (l : List α) : Nat → Nat → Value := fun i j => (enc (gl l i)).getD j undef

theorem updR_other {rows : Nat → Nat → Value} {row c i : Nat} {vs : List Value} (h : i ≠ row) : updR rows row c vs i = rows i := by
  funext j; simp [updR, h]
theorem updR_self {rows : Nat → Nat → Value} {row c : Nat} {vs : List Value} : updR rows row c vs row = fun j => bif Nat.ble c j && Nat.blt j (c + vs.length) then vs.getD (j - c) undef else rows row j := by
  funext j; simp [updR]

def cellsOf (m : Nat) (r : Nat → Value) : List Value := (List.range m).map r
/-- cell by cell -/
theorem RowsEq.of_cells {n m : Nat} {rows rows' : Nat → Nat → Value} (h : ∀ i, i < n → cellsOf m (rows i) = cellsOf m (rows' i)) : RowsEq n m rows rows' := by
  refine ⟨fun i hi j hj => ?_⟩
  have := congrArg (fun l => l[j]?) (h i hi)
  simpa [cellsOf, hj] using this
theorem RowsEq.trans {n m : Nat} {a b c : Nat → Nat → Value} (h : RowsEq n m a b) (k : RowsEq n m b c) : RowsEq n m a c := ⟨fun i hi j hj => (h.at_ i hi j hj).trans (k.at_ i hi j hj)⟩
theorem RowsEq.symm {n m : Nat} {a b : Nat → Nat → Value} (h : RowsEq n m a b) : RowsEq n m b a := ⟨fun i hi j hj => (h.at_ i hi j hj).symm⟩
theorem RowsEq.zero {m : Nat} {a b : Nat → Nat → Value} : RowsEq 0 m a b := ⟨fun _ h => absurd h (Nat.not_lt_zero _)⟩
theorem RowsEq.mono {n m k : Nat} {a b : Nat → Nat → Value} (h : RowsEq n m a b) (hk : k ≤ n) : RowsEq k m a b := ⟨fun i hi => h.at_ i (by omega)⟩
theorem RowsEq.of_eq {n m : Nat} {a b : Nat → Nat → Value} (h : a = b) : RowsEq n m a b := h ▸ .refl n m a

/-- one row is another one's -/
theorem RowsEq.set {α : Type} [Inhabited α] {enc : α → List Value} {n m : Nat} {l : List α} {x : α} (i0 : Nat) {rows : Nat → Nat → Value} (h0 : i0 < l.length)
    (h1 : ∀ i, i ≠ i0 → rows i = encRows enc l i) (h2 : cellsOf m (rows i0) = cellsOf m fun j => (enc x).getD j undef) : RowsEq n m rows (encRows enc (l.set i0 x)) := by
  refine .of_cells fun i _ => ?_
  by_cases hi : i = i0
  · subst hi; rw [h2]; unfold encRows; rw [gl_set_self h0]
  · rw [h1 i hi]; unfold encRows; rw [gl_set_ne fun h => hi h.symm]

theorem appRows_left {r0 r1 : Nat → Nat → Value} {s l i : Nat} (h : i < l) : appRows r0 s l r1 i = r0 (s + i) := by funext j; simp [appRows, h]
theorem appRows_right {r0 r1 : Nat → Nat → Value} {s l i : Nat} (h : l ≤ i) : appRows r0 s l r1 i = r1 (i - l) := by funext j; simp [appRows, Nat.not_lt.2 h]

/-- rows behind rows -/
theorem RowsEq.app {α : Type} [Inhabited α] {enc : α → List Value} {n m s : Nat} {l q : List α} {r0 r1 : Nat → Nat → Value} {k : Nat} (hk : l.length = k) (h0 : RowsEq k m (fun i => r0 (s + i)) (encRows enc l)) (h1 : RowsEq (n - k) m r1 (encRows enc q)) :
    RowsEq n m (appRows r0 s k r1) (encRows enc (l ++ q)) := by
  refine ⟨fun i hi j hj => ?_⟩
  by_cases h : i < k
  · rw [appRows_left h]
    refine (h0.at_ i h j hj).trans ?_
    unfold encRows; rw [gl_append_left (by omega)]
  · rw [appRows_right (by omega)]
    refine (h1.at_ (i - k) (by omega) j hj).trans ?_
    unfold encRows; rw [gl_append_right (by omega), hk]

/-- one row, its cells laid out -/
theorem RowsEq.one {α : Type} [Inhabited α] {enc : α → List Value} {n m : Nat} {x : α} {rows : Nat → Nat → Value} (hn : n ≤ 1) (h : cellsOf m (rows 0) = cellsOf m fun j => (enc x).getD j undef) : RowsEq n m rows (encRows enc [x]) := by
  refine .of_cells fun i hi => ?_
  have : i = 0 := by omega
  subst this
  rw [h]; rfl
/-- one more row at the end -/
theorem RowsEq.push {α : Type} [Inhabited α] {enc : α → List Value} {n m : Nat} {l : List α} {x : α} {r1 : Nat → Nat → Value} {k : Nat} (hk : l.length = k) (hn : n ≤ k + 1) (h : cellsOf m (r1 0) = cellsOf m fun j => (enc x).getD j undef) :
    RowsEq n m (appRows (encRows enc l) 0 k r1) (encRows enc (l ++ [x])) :=
  .app hk (.of_eq (by funext i; simp)) (.one (by omega) h)

theorem cast0 : (0 : Int) = ((0 : Nat) : Int) := rfl
theorem cast1 (k : Nat) : (k : Int) + 1 = ((k + 1 : Nat) : Int) := rfl

/-! ### tables -/

def CallsBy (X : Cx) (f : Nat) (C : Con) : Prop := ∀ args s K, conCall C args s K → CallOk X f args s K
def conTab : List (Nat × Con) → Nat → Option Con
  | [], _ => none
  | (j, c) :: r, f => bif Nat.beq j f then some c else conTab r f
def TabOk (X : Cx) : List (Nat × Con) → Prop
  | [] => True
  | p :: r => CallsBy X p.1 p.2 ∧ TabOk X r
theorem TabOk.at_ {X : Cx} : ∀ {l : List (Nat × Con)}, TabOk X l → ∀ f C, conTab l f = some C → CallsBy X f C
  | [], _, _, _, h => by cases h
  | (j, c) :: r, h, f, C, hc => by
    simp only [conTab] at hc
    by_cases hj : j = f
    · subst hj
      simp only [beq_self', cond_true, Option.some.injEq] at hc
      subst hc; exact h.1
    · rw [beq_ne hj] at hc
      exact TabOk.at_ h.2 f C hc

/-- what is said of loops and of ways that meet, by functions -/
def lhTab (n : Nat) : List (Nat × List An × List An) → Nat → LH
  | [], _ => .mk n [] []
  | (j, l, c) :: r, f => bif Nat.beq j f then .mk n l c else lhTab n r f

def CHof (Y : Gx) (tab : List (Nat × Con)) (lh : Nat → LH) (n : Nat) : CallH := xcall Y (cons (conTab tab)) lh n
theorem CHof_ok {Y : Gx} (hY : Y.Ok) {tab : List (Nat × Con)} (ht : TabOk Y.G.X tab) {lh : Nat → LH} {n : Nat} : HOk Y.G.X (CHof Y tab lh n) :=
  xcall_ok hY (cons_ok fun f C h => ht.at_ f C h) n
/-- a function's body, with what is said of its loops and of its callees -/
def fnBodyP (Y : Gx) (tab : List (Nat × Con)) (f : Nat) (C : Con) (l : C.α → List (Nat × List An × List An)) : Prop :=
  conBody Y C (fun a => CHof Y tab (lhTab 60 (l a)) 20) (fun a => lhTab 60 (l a)) f
/-- likewise; not opened where it stands as a type -/
structure fnBody (Y : Gx) (tab : List (Nat × Con)) (f : Nat) (C : Con) (l : C.α → List (Nat × List An × List An)) : Prop where
  body : fnBodyP Y tab f C l
theorem fnBody.of {Y : Gx} {tab : List (Nat × Con)} {f : Nat} {C : Con} {l : C.α → List (Nat × List An × List An)} {p : Prop} (h : fnBodyP Y tab f C l = p) (hp : p) : fnBody Y tab f C l := ⟨h.mpr hp⟩
theorem fn_ok {Y : Gx} (hY : Y.Ok) {tab : List (Nat × Con)} (ht : TabOk Y.G.X tab) {f : Nat} {C : Con} {l : C.α → List (Nat × List An × List An)} (hb : fnBody Y tab f C l) : CallsBy Y.G.X f C :=
  fun _ _ _ h => con_ok hY (fun _ => CHof_ok hY ht) hb.body h
/-- without more within -/
def An.flat (key : Nat) (α : Type) (J : S → α → S) (p : S → α → Prop) (μ : S → α → Nat) : An := .mk key α J p μ fun _ => .mk 60 [] []

/-! ### states, changed by hand -/

def tagOf : SV → Nat
  | .a (.ptr t _ _ _) => t
  | .a (.slc t _ _ _ _) => t
  | _ => 0
def S.tg (s : S) (i : Nat) : Nat := tagOf (look s.fr i)
/-- the tag of a cell of a block -/
def S.in_ (s : S) (t c : Nat) : Nat := match s.hp.find t with
  | some (_, .obj _ cs) => match cs[c]? with | some x => tagOf (.a x) | none => 0
  | _ => 0
def S.at_ (s : S) (t : Nat) (ch : Chunk) : S := s.put (s.hp.upd t ch)
def S.int (s : S) (i : Nat) (n : Int) : S := s.set i (.a (.int .i64 n))

end
end Go.Sx
