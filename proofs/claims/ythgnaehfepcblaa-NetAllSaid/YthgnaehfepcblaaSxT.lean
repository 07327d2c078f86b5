/-
  Loops turn by turn; the tables of a program.
-/
import Derived.Test.YthgnaehfepcblaaSxS
namespace Go.Sx
section

/-- loops turn by turn -/
def unroll (n : Nat) : LH := .mk n [] []

/-! ### the tables of a program -/

def tiTab (P : Program) (ts : List Nat) : List (Nat × TI) := ts.filterMap fun t => (mkTI P t).map fun i => (t, i)
theorem tiTab_ok (P : Program) : ∀ ts, (tiTab P ts).map (fun p => mkTI P p.1) = (tiTab P ts).map fun p => some p.2
  | [] => rfl
  | t :: ts => by
    unfold tiTab
    simp only [List.filterMap_cons]
    cases h : mkTI P t with
    | none => exact tiTab_ok P ts
    | some i =>
      simp only [Option.map_some, List.map_cons, h]
      congr 1
      exact tiTab_ok P ts

def fnTab (P : Program) (ts : List Nat) : List (Nat × Func) := ts.filterMap fun t => (P.funcs[t]?).map fun i => (t, i)
theorem fnTab_ok (P : Program) : ∀ ts, (fnTab P ts).map (fun p => P.funcs[p.1]?) = (fnTab P ts).map fun p => some p.2
  | [] => rfl
  | t :: ts => by
    unfold fnTab
    simp only [List.filterMap_cons]
    cases h : P.funcs[t]? with
    | none => exact fnTab_ok P ts
    | some i =>
      simp only [Option.map_some, List.map_cons, h]
      congr 1
      exact fnTab_ok P ts

def fnB (R : List (Nat × List (Nat × RG))) (p : Nat × Func) : Bool :=
  p.2.body.isSome && !(p.2.name == "runtime.NumGoroutine") && (match p.2.body with | some c => regOk (tabAt R p.1) c | none => true)

theorem gx_okd {P : Program} {T : List (Nat × TI)} {F : List (Nat × Func)} {I : List (Nat × List Nat)} {R : List (Nat × List (Nat × RG))} {force dbg dp : Bool} (ht : T.map (fun p => mkTId dp P p.1) = T.map fun p => some p.2) (hm : P.follows .mixedOrders = true)
    (hF : F.map (fun p => P.funcs[p.1]?) = F.map fun p => some p.2) (hB : F.all (fnB R) = true) : (⟨⟨⟨P, T, force, dbg⟩, F, I⟩, R⟩ : Gx).Ok := by
  have hb : ∀ p ∈ F, fnB R p = true := List.all_eq_true.1 hB
  refine ⟨⟨⟨⟨dp, ht⟩, hm⟩, fun p hp => ?_⟩, fun p hp c hc => ?_⟩
  · have h := hb p hp
    simp only [fnB, Bool.and_eq_true, Bool.not_eq_true'] at h
    refine ⟨?_, h.1.1, h.1.2⟩
    obtain ⟨n, hn, e⟩ := List.getElem_of_mem hp
    have := congrArg (fun l => l[n]?) hF
    simp only [List.getElem?_map] at this
    rw [List.getElem?_eq_getElem hn, e] at this
    simpa using this
  · have h := hb p hp
    have hp2 : p.2.body = some c := hc
    simp only [fnB, Bool.and_eq_true, hp2] at h
    exact h.2

theorem gx_ok {P : Program} {T : List (Nat × TI)} {F : List (Nat × Func)} {I : List (Nat × List Nat)} {R : List (Nat × List (Nat × RG))} {force dbg : Bool} (ht : T.map (fun p => mkTI P p.1) = T.map fun p => some p.2) (hm : P.follows .mixedOrders = true)
    (hF : F.map (fun p => P.funcs[p.1]?) = F.map fun p => some p.2) (hB : F.all (fnB R) = true) : (⟨⟨⟨P, T, force, dbg⟩, F, I⟩, R⟩ : Gx).Ok := gx_okd (dp := false) ht hm hF hB

/-- what a claim asks of a law: it returns true, and what was there stays -/
theorem law_of {Y : Gx} {ch : CallH} (hch : HOk Y.G.X ch) {f : Nat} {args : List SV} {hp : Heap} {nx : Nat} (h : ch f args ⟨0, [], hp, nx, [], []⟩ fun v _ => v = .a .tt) {w : World} {ρ : Env} {vs : List Value} (hn : ρ.n = nx)
    (hh : HeapSat w (fun _ => False) ρ hp w) (hargs : RepArgs ρ args vs) : Calls Y.G.X.P f vs.toArray w fun e w' => e = .returned (.bool true) ∧ Keeps (fun _ => False) w w' := by
  refine (hch _ _ _ _ h w (fun _ => False) ρ w vs hn hh hargs).mono ?_
  rintro e w' ⟨v, rfl, sv, s', ρ', rfl, _, _, _, _, hr, hk⟩
  have : v = .bool true := hr
  subst this
  exact ⟨rfl, hk.keeps⟩

end
end Go.Sx
