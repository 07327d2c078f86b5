/-
  Loops turn by turn; the tables of a program.
-/
import Derived.Test.YtilphhafffakoaaSxS
namespace Go.Sx
section

theorem CodeOk.mono {P : Program} {n0 : Nat} {c : Code} {s : S} {K K' : KX} (h : CodeOk P n0 c s K) (hk : ∀ xe s, K xe s → K' xe s) : CodeOk P n0 c s K' :=
  fun w0 M ρ a w hn hs => wp_mono (h w0 M ρ a w hn hs) fun _ _ _ ⟨xe, s', ρ', h1, h2, h3, h4⟩ => ⟨xe, s', ρ', h1, hk _ _ h2, h3, h4⟩

/-- so many rounds are enough -/
def LoopN (P : Program) (n0 : Nat) (b : Code) (K : KX) : Nat → S → Prop
  | 0, _ => False
  | n + 1, s => CodeOk P n0 b s (seqK (LoopN P n0 b K n) K)

def Unr (P : Program) (b : Code) (Q : Exit → Act → World → Prop) : Nat → Act → World → Prop
  | 0, _, _ => False
  | n + 1, a, w => b.wp P (Exit.then (Unr P b Q n) Q) a w

theorem least {p : Nat → Prop} : ∀ n, p n → ∃ m, p m ∧ ∀ k, p k → m ≤ k := by
  intro n
  induction n using Nat.strongRecOn with
  | ind n ih =>
    intro h
    by_cases hx : ∃ k, k < n ∧ p k
    · obtain ⟨k, hk, hp⟩ := hx; exact ih k hk hp
    · exact ⟨n, h, fun k hk => Nat.le_of_not_lt fun hlt => hx ⟨k, hlt, hk⟩⟩

theorem Unr.loop {P : Program} {b : Code} {Q : Exit → Act → World → Prop} {a : Act} {w : World} (h : ∃ n, Unr P b Q n a w) : (Code.loop b).wp P Q a w := by
  classical
  have hl : ∀ a w, (∃ n, Unr P b Q n a w) → ∃ m, Unr P b Q m a w ∧ ∀ k, Unr P b Q k a w → m ≤ k := fun a w ⟨n, hn⟩ => least n hn
  refine wp_loop (fun a w => ∃ n, Unr P b Q n a w) (fun a w => if h : ∃ n, Unr P b Q n a w then Classical.choose (hl a w h) else 0) h ?_
  intro a w hI
  obtain ⟨h1, h2⟩ := Classical.choose_spec (hl a w hI)
  simp only [dif_pos hI]
  generalize Classical.choose (hl a w hI) = m at h1 h2 ⊢
  cases m with
  | zero => exact h1.elim
  | succ m =>
    refine wp_mono h1 ?_
    intro e a' w' hq
    cases e with
    | normal =>
      have hI' : ∃ n, Unr P b Q n a' w' := ⟨m, hq⟩
      refine ⟨hI', ?_⟩
      simp only [dif_pos hI']
      exact Nat.lt_succ_of_le ((Classical.choose_spec (hl a' w' hI')).2 m hq)
    | exit i => exact hq
    | goto l => exact hq
    | ret => exact hq
    | panic c => exact hq
    | outgrown => exact hq

theorem LoopN.unr {P : Program} {n0 : Nat} {b : Code} {K : KX} {w0 : World} {M : Nat → Prop} {ρ : Env} : ∀ (n : Nat) (s : S) (ρ' : Env) (a : Act) (w : World), LoopN P n0 b K n s → Env.upto n0 ρ ρ' → SatE w0 M ρ' s a w → Unr P b (XQ K n0 w0 M ρ) n a w
  | 0, _, _, _, _, h, _, _ => h
  | n + 1, s, ρ', a, w, h, hu, hs => by
    refine wp_mono (h w0 M ρ' a w hu.n hs) ?_
    rintro e a' w' ⟨xe, s', ρ'', rfl, hk, hu', hs'⟩
    cases xe with
    | normal => exact LoopN.unr n s' ρ'' a' w' hk (hu.trans hu') hs'
    | ret => exact ⟨.ret, s', ρ'', rfl, hk, hu.trans hu', hs'⟩
    | exit i => exact ⟨.exit i, s', ρ'', rfl, hk, hu.trans hu', hs'⟩

theorem LoopN.ok {P : Program} {n0 : Nat} {b : Code} {K : KX} {n : Nat} {s : S} (h : LoopN P n0 b K n s) : CodeOk P n0 (.loop b) s K :=
  fun _ _ ρ _ _ hn hs => Unr.loop ⟨n, LoopN.unr n s ρ _ _ h ((Env.le.refl ρ).upto hn) hs⟩

theorem LoopN.mono {P : Program} {n0 : Nat} {b : Code} {K : KX} : ∀ {n m : Nat} {s : S}, n ≤ m → LoopN P n0 b K n s → LoopN P n0 b K m s
  | 0, _, _, _, h => h.elim
  | n + 1, 0, _, hle, _ => absurd hle (by omega)
  | n + 1, m + 1, s, hle, h => CodeOk.mono h fun xe s h => by
    cases xe with
    | normal => exact LoopN.mono (Nat.le_of_succ_le_succ hle) h
    | ret => exact h
    | exit i => exact h

/-- turn by turn -/
def unrollGo (xb : S → KX → Prop) (K : KX) : Nat → S → Prop
  | 0, _ => False
  | n + 1, s => xb s (seqK (unrollGo xb K n) K)
def unroll (n : Nat) : LoopH := fun _ xb _ s K => unrollGo xb K n s

theorem unroll_ok (P : Program) (n : Nat) : LHOk P (unroll n) := by
  intro key xb n0 b s K hb h
  have : ∀ n s, unrollGo xb K n s → LoopN P n0 b K n s := by
    intro n
    induction n with
    | zero => exact fun s h => h
    | succ n ih =>
      intro s h
      refine (hb _ _ h).mono fun xe s h => ?_
      cases xe with
      | normal => exact ih s h
      | ret => exact h
      | exit i => exact h
  exact (this n s h).ok

/-! ### the tables of a program -/

def tiTab (P : Program) (ts : List Nat) : List (Nat × TI) := ts.filterMap fun t => (mkTI P t).map fun i => (t, i)
theorem tiTab_ok (P : Program) : ∀ ts, (tiTab P ts).map (fun p => mkTI P p.1) = (tiTab P ts).map fun p => some p.2
  | [] => rfl
  | t :: ts => by
    unfold tiTab
    simp only [List.filterMap_cons]
    cases h : mkTI P t with
    | none => exact tiTab_ok P ts
    | some i =>
      simp only [Option.map_some, List.map_cons, h]
      congr 1
      exact tiTab_ok P ts

def fnTab (P : Program) (ts : List Nat) : List (Nat × Func) := ts.filterMap fun t => (P.funcs[t]?).map fun i => (t, i)
theorem fnTab_ok (P : Program) : ∀ ts, (fnTab P ts).map (fun p => P.funcs[p.1]?) = (fnTab P ts).map fun p => some p.2
  | [] => rfl
  | t :: ts => by
    unfold fnTab
    simp only [List.filterMap_cons]
    cases h : P.funcs[t]? with
    | none => exact fnTab_ok P ts
    | some i =>
      simp only [Option.map_some, List.map_cons, h]
      congr 1
      exact fnTab_ok P ts

def fnB (R : List (Nat × List (Nat × RG))) (p : Nat × Func) : Bool :=
  p.2.body.isSome && !(p.2.name == "runtime.NumGoroutine") && (match p.2.body with | some c => regOk (tabAt R p.1) c | none => true)

theorem gx_ok {P : Program} {T : List (Nat × TI)} {F : List (Nat × Func)} {I : List (Nat × List Nat)} {R : List (Nat × List (Nat × RG))} {force : Bool} (ht : T.map (fun p => mkTI P p.1) = T.map fun p => some p.2) (hm : P.follows .mixedOrders = true)
    (hF : F.map (fun p => P.funcs[p.1]?) = F.map fun p => some p.2) (hB : F.all (fnB R) = true) : (⟨⟨⟨P, T, force⟩, F, I⟩, R⟩ : Gx).Ok := by
  have hb : ∀ p ∈ F, fnB R p = true := List.all_eq_true.1 hB
  refine ⟨⟨⟨ht, hm⟩, fun p hp => ?_⟩, fun p hp c hc => ?_⟩
  · have h := hb p hp
    simp only [fnB, Bool.and_eq_true, Bool.not_eq_true'] at h
    refine ⟨?_, h.1.1, h.1.2⟩
    obtain ⟨n, hn, e⟩ := List.getElem_of_mem hp
    have := congrArg (fun l => l[n]?) hF
    simp only [List.getElem?_map] at this
    rw [List.getElem?_eq_getElem hn, e] at this
    simpa using this
  · have h := hb p hp
    have hp2 : p.2.body = some c := hc
    simp only [fnB, Bool.and_eq_true, hp2] at h
    exact h.2

/-- what a claim asks of a law: it returns true, and what was there stays -/
theorem law_of {Y : Gx} (hY : Y.Ok) {ch : CallH} (hch : HOk Y.G.X ch) {f : Nat} {args : List SV} {hp : Heap} {nx : Nat} (h : ch f args ⟨0, [], hp, nx, [], []⟩ fun v _ => v = .a .tt) {w : World} {ρ : Env} {vs : List Value} (hn : ρ.n = nx)
    (hh : HeapSat w (fun _ => False) ρ hp w) (hargs : RepArgs ρ args vs) : Calls Y.G.X.P f vs.toArray w fun e w' => e = .returned (.bool true) ∧ Keeps (fun _ => False) w w' := by
  refine (hch _ _ _ _ h w (fun _ => False) ρ w vs hn hh hargs).mono ?_
  rintro e w' ⟨v, rfl, sv, s', ρ', rfl, _, _, _, _, hr, hk⟩
  have : v = .bool true := hr
  subst this
  exact ⟨rfl, hk.keeps⟩

end
end Go.Sx
