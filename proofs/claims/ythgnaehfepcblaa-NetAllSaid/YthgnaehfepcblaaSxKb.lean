/-
  '==' of two structs of plain fields.
-/
import Derived.Test.YthgnaehfepcblaaSxK
namespace Go.Sx
section
variable {P : Program}
def eq1 (P : Program) (t : TypeId) (x y : A) : Option Bool :=
  match descOf P t with
  | .bool => match x.b?, y.b? with
    | some a, some b => some (a == b)
    | _, _ => none
  | .int _ => match x.i?, y.i? with
    | some (k, a), some (j, b) => bif keq k j then some (a == b) else none
    | _, _ => none
  | .str => match x, y with
    | .str a, .str b => some (decide (a = b))
    | _, _ => none
  | _ => none
def eqFs (P : Program) : List Field → List A → List A → Option Bool
  | [], _, _ => some true
  | f :: r, xs, ys => bif f.name == "_" then none else match xs[f.offset]?, ys[f.offset]? with
    | some x, some y => match eq1 P f.type x y, eqFs P r xs ys with
      | some a, some b => some (a && b)
      | _, _ => none
    | _, _ => none
def eqAgg (P : Program) (t : TypeId) (xs ys : List A) : Option Bool :=
  match P.underlying t with
  | some (.struct fs) => bif P.stoodInHeld t || P.eqGuardType P.depth t then none else eqFs P fs.toList xs ys
  | _ => none
def xbinG (X : Cx) (op : BinOp) (t : Nat) (xs ys : List A) (K : A → Prop) : Prop :=
  match op, eqAgg X.P t xs ys with
  | .eql, some b => K (.bool b)
  | .neq, some b => K (.bool (!b))
  | _, _ => False

theorem beqBytes (a b : ByteArray) : (a == b) = decide (a = b) := by
  cases a with | mk x => cases b with | mk y =>
    show (x == y) = _
    rw [Bool.eq_iff_iff]; simp
theorem eq1_ok {t : TypeId} {x y : A} {b : Bool} (h : eq1 P t x y = some b) {ρ : Env} {u v : Value} (hu : x.Rep ρ u) (hv : y.Rep ρ v) (d : Nat) (w : World) :
    (Op.equalIn (d + 1) t u v).run P w = .ok b w := by
  unfold eq1 at h
  split at h
  · rename_i hd
    have he := desc_bool hd
    split at h
    · rename_i a b ha hb
      have := A.b?_rep ha hu; subst this
      have := A.b?_rep hb hv; subst this
      cases h
      simp [Op.equalIn, run_underlying he]
    · cases h
  · rename_i k hd
    have he := desc_int hd
    split at h
    · rename_i k1 a k2 b hx hy
      obtain ⟨rfl, _⟩ := A.i?_rep hx hu
      obtain ⟨rfl, _⟩ := A.i?_rep hy hv
      cases hk : keq k1 k2 with
      | false => rw [hk] at h; cases h
      | true =>
        rw [hk] at h
        have := keq_eq hk; subst this
        cases h
        simp [Op.equalIn, run_underlying he]
    · cases h
  · rename_i hd
    have he := desc_str hd
    split at h
    · rename_i a b
      obtain ⟨rfl, _⟩ := hu
      obtain ⟨rfl, _⟩ := hv
      cases h
      simp [Op.equalIn, run_underlying he, beqBytes]
    · cases h
  · cases h
theorem eq1_part {t : TypeId} {x y : A} {b : Bool} (h : eq1 P t x y = some b) {cs : List Value} {o : Nat} {u : Value} (hu : cs[o]? = some u) (w : World) : (part t cs.toArray o).run P w = .ok u w := by
  unfold eq1 at h
  split at h
  · rename_i hd
    simp [part, isAgg, run_underlying (desc_bool hd), hu]
  · rename_i hd
    simp [part, isAgg, run_underlying (desc_int hd), hu]
  · rename_i hd
    simp [part, isAgg, run_underlying (desc_str hd), hu]
  · cases h
theorem RepL_get {ρ : Env} : ∀ {xs : List A} {vs : List Value} {o : Nat} {x : A}, RepL ρ xs vs → xs[o]? = some x → ∃ u, vs[o]? = some u ∧ x.Rep ρ u
  | a :: r, vs, o, x, h, hx => by
    obtain ⟨v, l, rfl, h1, h2⟩ := h
    cases o with
    | zero => cases hx; exact ⟨v, rfl, h1⟩
    | succ o => exact RepL_get (o := o) h2 hx
  | [], _, o, x, _, hx => by cases o <;> cases hx
theorem eqFs_ok {d : Nat} {ρ : Env} {xs ys : List A} {us vs : List Value} (hu : RepL ρ xs us) (hv : RepL ρ ys vs) (w : World) : ∀ {fs : List Field} {b : Bool}, eqFs P fs xs ys = some b →
    (forIn (m := Sem) fs ((none, ()) : Option Bool × Unit) fun f _ =>
      if f.name = "_" then pure (.yield (none, ()))
      else do
        let x ← part f.type us.toArray f.offset
        let y ← part f.type vs.toArray f.offset
        let z ← Op.equalIn (d + 1) f.type x y
        if z = false then pure (.done (some false, ())) else pure (.yield (none, ()))).run P w = .ok (bif b then (none, ()) else (some false, ())) w
  | [], b, h => by cases h; simp
  | f :: r, b, h => by
    unfold eqFs at h
    cases hn : f.name == "_" with
    | true => rw [hn] at h; cases h
    | false =>
      rw [hn] at h
      simp only [cond_false] at h
      split at h
      · rename_i x y hx hy
        split at h
        · rename_i a c ha hc
          cases h
          obtain ⟨u, hu1, hu2⟩ := RepL_get hu hx
          obtain ⟨v, hv1, hv2⟩ := RepL_get hv hy
          have rec_ := eqFs_ok (d := d) hu hv w hc
          have hne : f.name ≠ "_" := by simpa using hn
          have e1 := eq1_ok ha hu2 hv2 d w
          rw [List.forIn_cons]
          cases a with
          | false => simp [hne, eq1_part ha hu1, eq1_part ha hv1, e1]
          | true => simpa [hne, eq1_part ha hu1, eq1_part ha hv1, e1] using rec_
        · cases h
      · cases h
theorem eqAgg_ok {t : TypeId} {xs ys : List A} {b : Bool} (h : eqAgg P t xs ys = some b) {ρ : Env} {us vs : List Value} (hu : RepL ρ xs us) (hv : RepL ρ ys vs) (w : World) :
    (Op.equal t (.agg us.toArray) (.agg vs.toArray)).run P w = .ok b w ∧ P.eqGuardType P.depth t = false := by
  unfold eqAgg at h
  split at h
  · rename_i fs hf
    cases hs : P.stoodInHeld t with
    | true => rw [hs] at h; cases h
    | false =>
      cases hg : P.eqGuardType P.depth t with
      | true => rw [hs, hg] at h; cases h
      | false =>
        rw [hs, hg] at h
        have h' : eqFs P fs.toList xs ys = some b := h
        refine ⟨?_, rfl⟩
        have := eqFs_ok (d := 9998) hu hv w h'
        show (Op.equalIn 10000 t _ _).run P w = _
        unfold Op.equalIn
        simp [run_underlying hf, hs]
        rw [← Array.forIn_toList, this]
        cases b <;> simp
  · cases h
theorem xbinG_ok {X : Cx} {op : BinOp} {t : Nat} {xs ys : List A} {K : A → Prop} (h : xbinG X op t xs ys K) {ρ : Env} {us vs : List Value} (hu : RepL ρ xs us) (hv : RepL ρ ys vs) (p q : Operand) :
    ∃ z r, K z ∧ z.Rep ρ r ∧ ∀ w : World, (do eqGuard op t p q (.agg us.toArray) (.agg vs.toArray); binOp op t (.agg us.toArray) (.agg vs.toArray) : Sem Value).run X.P w = .ok r w := by
  unfold xbinG at h
  split at h
  · rename_i b hb
    refine ⟨_, .bool b, h, rfl, fun w => ?_⟩
    obtain ⟨h1, h2⟩ := eqAgg_ok hb hu hv w
    simp [eqGuard, h2, binOp, h1]
  · rename_i b hb
    refine ⟨_, .bool (!b), h, rfl, fun w => ?_⟩
    obtain ⟨h1, h2⟩ := eqAgg_ok hb hu hv w
    simp [eqGuard, h2, binOp, h1]
  · exact h.elim
end
end Go.Sx
