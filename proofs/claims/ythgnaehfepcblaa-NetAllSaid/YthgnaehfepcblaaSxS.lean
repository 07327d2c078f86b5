/-
  Code and calls.
-/
import Derived.Test.YthgnaehfepcblaaSxV
namespace Go.Sx
section

inductive XE where
  | normal
  | ret
  | exit (i : Nat)
def XE.toE : XE → Exit
  | .normal => .normal
  | .ret => .ret
  | .exit i => .exit i
abbrev KX := XE → S → Prop

def XQ (K : KX) (n0 : Nat) (w0 : World) (M : Nat → Prop) (ρ : Env) : Exit → Act → World → Prop := fun e a w => ∃ xe s' ρ', e = xe.toE ∧ K xe s' ∧ Env.upto n0 ρ ρ' ∧ SatE w0 M ρ' s' a w
theorem XQ.up {K : KX} {n0 : Nat} {w0 : World} {M : Nat → Prop} {ρ ρ' : Env} (h : Env.upto n0 ρ ρ') {e : Exit} {a : Act} {w : World} (q : XQ K n0 w0 M ρ' e a w) : XQ K n0 w0 M ρ e a w :=
  let ⟨xe, s', ρ'', h1, h2, h3, h4⟩ := q
  ⟨xe, s', ρ'', h1, h2, h.trans h3, h4⟩

/-- the code runs to one of the exits, and K holds of it -/
def CodeOk (P : Program) (n0 : Nat) (c : Code) (s : S) (K : KX) : Prop :=
  ∀ w0 M ρ a w, n0 ≤ ρ.n → SatE w0 M ρ s a w → c.wp P (XQ K n0 w0 M ρ) a w

/-- a state may be told otherwise -/
def ViewOk (s : S) (K : S → Prop) : Prop := ∀ w0 M ρ a w, SatE w0 M ρ s a w → ∃ s' ρ', K s' ∧ ρ.le ρ' ∧ SatE w0 M ρ' s' a w

mutual
/-- what is said of loops (by their first regions), and of the state where ways meet (by the region that follows) -/
inductive LH : Type 1 where
  | mk (fuel : Nat) (loop cut : List An)
/-- 'J' lays the state out of the one ahead; 'next': what is said within -/
inductive An : Type 1 where
  | mk (key : Nat) (α : Type) (J : S → α → S) (p : S → α → Prop) (μ : S → α → Nat) (next : α → LH)
  /-- the state is told otherwise: V is sound -/
  | view (key : Nat) (V : S → (S → Prop) → Prop) (ok : ∀ s K, V s K → ViewOk s K) (next : LH)
end
def An.key : An → Nat
  | .mk k _ _ _ _ _ => k
  | .view k _ _ _ => k
def findAn : List An → Nat → Option An
  | [], _ => none
  | a :: r, k => bif Nat.beq a.key k then some a else findAn r k
def LH.at_ : LH → Nat → Option An
  | .mk _ l _, k => findAn l k
def LH.cut_ : LH → Nat → Option An
  | .mk _ _ c, k => findAn c k
def LH.fuel : LH → Nat
  | .mk n _ _ => n
def firstReg : Code → Nat
  | .region id _ _ => id
  | .seq a _ => firstReg a
  | .block _ b => firstReg b
  | .loop b => firstReg b
  | _ => 0

def seqK (F : S → Prop) (K : KX) : KX := fun xe s => match xe with | .normal => F s | xe => K xe s
def blockK (i : Nat) (K : KX) : KX := fun xe s => match xe with | .exit j => bif Nat.beq j i then K .normal s else K (.exit j) s | xe => K xe s

/-- turn by turn -/
def unrollGo (xb : S → KX → Prop) (K : KX) : Nat → S → Prop
  | 0, _ => False
  | n + 1, s => xb s (seqK (unrollGo xb K n) K)

/-! ### what lives on -/

def aTags : List A → List Nat → List Nat
  | [], acc => acc
  | .ptr t _ _ _ :: r, acc => aTags r (t :: acc)
  | .slc t _ _ _ _ :: r, acc => aTags r (t :: acc)
  | _ :: r, acc => aTags r acc
def svTags (v : SV) (acc : List Nat) : List Nat :=
  match v with
  | .a x => aTags [x] acc
  | .agg xs => aTags xs acc
  | .tup cs => cs.foldr (fun c acc => match c with | .a x => aTags [x] acc | .agg xs => aTags xs acc) acc
def frTags : List (Nat × SV) → List Nat → List Nat
  | [], acc => acc
  | (_, v) :: r, acc => frTags r (svTags v acc)
/-- all that is reached from 'work' -/
def reach (hp : Heap) : Nat → List Nat → List Nat → List Nat
  | 0, work, seen => work ++ seen
  | _ + 1, [], seen => seen
  | n + 1, t :: work, seen => bif has seen t then reach hp n work seen else
    match hp.find t with
    | some (_, .obj _ cs) => reach hp n (aTags cs work) (t :: seen)
    | some _ => reach hp n work (t :: seen)
    | none => reach hp n work seen
def isAbs : Chunk → Bool
  | .abs _ => true
  | _ => false
def sweep (hp : Heap) (seen : List Nat) : Heap := hp.filter fun e => has seen e.tag || isAbs e.ch
def S.tidy (s : S) : S :=
  let fr := only s.fr s.kp
  ⟨s.nt, fr, sweep s.hp (reach s.hp 400 (frTags fr s.rt) []), s.nx, s.kp, s.rt⟩

theorem SatE.tidy {w0 : World} {M : Nat → Prop} {ρ : Env} {s : S} {a : Act} {w : World} (h : SatE w0 M ρ s a w) : SatE w0 M ρ s.tidy a w :=
  ⟨h.defers, h.size, h.n, h.frame.only s.kp, h.heap.sub List.filter_sublist⟩

/-! ### a state is carried out whole, and laid down anew -/
def forceF : List (Nat × SV) → (List (Nat × SV) → Prop) → Prop
  | [], K => K []
  | (i, v) :: r, K => forceV v fun v => forceF r fun r => K ((i, v) :: r)
theorem forceF_eq : ∀ (l : List (Nat × SV)) (K : List (Nat × SV) → Prop), forceF l K = K l
  | [], _ => rfl
  | (i, v) :: r, K => by simp only [forceF, forceV_eq, forceF_eq r]
def forceC (c : Chunk) (K : Chunk → Prop) : Prop := match c with
  | .obj ty cs => forceL cs fun cs => K (.obj ty cs)
  | .arr ty ks n rows => K (.arr ty ks n rows)
  | .abs R => K (.abs R)
theorem forceC_eq (c : Chunk) (K : Chunk → Prop) : forceC c K = K c := by cases c <;> simp only [forceC, forceL_eq]
def forceB (b : Bool) (K : Bool → Prop) : Prop := match b with
  | true => K true
  | false => K false
theorem forceB_eq (b : Bool) (K : Bool → Prop) : forceB b K = K b := by cases b <;> rfl
def forceH : Heap → (Heap → Prop) → Prop
  | [], K => K []
  | e :: r, K => forceN e.tag fun t => forceB e.wr fun w => forceC e.ch fun c => forceH r fun r => K (⟨t, w, c⟩ :: r)
theorem forceH_eq : ∀ (l : Heap) (K : Heap → Prop), forceH l K = K l
  | [], _ => rfl
  | e :: r, K => by simp only [forceH, forceN_eq, forceB_eq, forceC_eq, forceH_eq r]
def S.force (s : S) (K : S → Prop) : Prop := forceF s.fr fun fr => forceH s.hp fun hp => forceN s.nt fun nt => forceN s.nx fun nx => K ⟨nt, fr, hp, nx, s.kp, s.rt⟩
theorem S.force_eq (s : S) (K : S → Prop) : s.force K = K s := by simp only [S.force, forceF_eq, forceH_eq, forceN_eq]

def rgAt : List (Nat × RG) → Nat → Option RG
  | [], _ => none
  | (j, g) :: r, i => bif Nat.beq j i then some g else rgAt r i

/-- the code is carried out -/
def xcode (G : Fx) (ch : CallH) (tab : List (Nat × RG)) (n0 : Nat) : Code → LH → S → KX → Prop
  | .skip, _, s, K => K .normal s
  | .region id ops d, _, s, K => bif d then
      (match rgAt tab id with
      | some g => xdrawT G ch ops.toList g s fun s => s.tidy.force (K .normal)
      | none => False)
    else xops G ch ops.toList ops.toList s fun s => s.tidy.force (K .normal)
  | .seq x y, lh, s, K => match lh.cut_ (firstReg y) with
    | none => xcode G ch tab n0 x lh s (seqK (fun s => xcode G ch tab n0 y lh s K) K)
    | some (.mk _ α J p _ next) => xcode G ch tab n0 x lh s (seqK (fun s' => ∃ a : α, stMatch n0 s' (J s a) (p s a ∧ True)) K) ∧ ∀ a : α, p s a → (J s a).force fun s => xcode G ch tab n0 y (next a) s K
    | some (.view _ V _ next) => xcode G ch tab n0 x lh s (seqK (fun s' => V s' fun s => s.force fun s => xcode G ch tab n0 y next s K) K)
  | .cond c x y, lh, s, K =>
    match s.ev c with
    | .a .tt => xcode G ch tab n0 x lh s K
    | .a .ff => xcode G ch tab n0 y lh s K
    | .a (.bool b) => splitB G.X.force b (xcode G ch tab n0 x lh s K) (xcode G ch tab n0 y lh s K)
    | _ => False
  | .block i b, lh, s, K => xcode G ch tab n0 b lh s (blockK i K)
  | .loop b, lh, s, K => match lh.at_ (firstReg b) with
    | none => unrollGo (fun s K => xcode G ch tab n0 b lh s K) K lh.fuel s
    | some (.mk _ α J p μ next) => (∃ a : α, stMatch n0 s (J s a) (p s a ∧ True)) ∧ ∀ a : α, p s a → (J s a).force fun s1 => xcode G ch tab n0 b (next a) s1 fun xe s' => match xe with
      | .normal => ∃ a' : α, stMatch n0 s' (J s a') (p s a' ∧ μ s a' < μ s a)
      | xe => K xe s'
    | some (.view ..) => False
  | .exit i, _, s, K => K (.exit i) s
  | .ret, _, s, K => K .ret s
  | _, _, _, _ => False
/-- each region that draws has been looked through -/
def regOk (tab : List (Nat × RG)) : Code → Bool
  | .region id ops d => bif d then (match rgAt tab id with | some g => rgOkT ops.toList g | none => true) else true
  | .seq x y => regOk tab x && regOk tab y
  | .cond _ x y => regOk tab x && regOk tab y
  | .block _ b => regOk tab b
  | .loop b => regOk tab b
  | _ => true

theorem CodeOk.mono {P : Program} {n0 : Nat} {c : Code} {s : S} {K K' : KX} (h : CodeOk P n0 c s K) (hk : ∀ xe s, K xe s → K' xe s) : CodeOk P n0 c s K' :=
  fun w0 M ρ a w hn hs => wp_mono (h w0 M ρ a w hn hs) fun _ _ _ ⟨xe, s', ρ', h1, h2, h3, h4⟩ => ⟨xe, s', ρ', h1, hk _ _ h2, h3, h4⟩

def Unr (P : Program) (b : Code) (Q : Exit → Act → World → Prop) : Nat → Act → World → Prop
  | 0, _, _ => False
  | n + 1, a, w => b.wp P (Exit.then (Unr P b Q n) Q) a w

theorem least {p : Nat → Prop} : ∀ n, p n → ∃ m, p m ∧ ∀ k, p k → m ≤ k := by
  intro n
  induction n using Nat.strongRecOn with
  | ind n ih =>
    intro h
    by_cases hx : ∃ k, k < n ∧ p k
    · obtain ⟨k, hk, hp⟩ := hx; exact ih k hk hp
    · exact ⟨n, h, fun k hk => Nat.le_of_not_lt fun hlt => hx ⟨k, hlt, hk⟩⟩

theorem Unr.loop {P : Program} {b : Code} {Q : Exit → Act → World → Prop} {a : Act} {w : World} (h : ∃ n, Unr P b Q n a w) : (Code.loop b).wp P Q a w := by
  classical
  have hl : ∀ a w, (∃ n, Unr P b Q n a w) → ∃ m, Unr P b Q m a w ∧ ∀ k, Unr P b Q k a w → m ≤ k := fun a w ⟨n, hn⟩ => least n hn
  refine wp_loop (fun a w => ∃ n, Unr P b Q n a w) (fun a w => if h : ∃ n, Unr P b Q n a w then Classical.choose (hl a w h) else 0) h ?_
  intro a w hI
  obtain ⟨h1, h2⟩ := Classical.choose_spec (hl a w hI)
  simp only [dif_pos hI]
  generalize Classical.choose (hl a w hI) = m at h1 h2 ⊢
  cases m with
  | zero => exact h1.elim
  | succ m =>
    refine wp_mono h1 ?_
    intro e a' w' hq
    cases e with
    | normal =>
      have hI' : ∃ n, Unr P b Q n a' w' := ⟨m, hq⟩
      refine ⟨hI', ?_⟩
      simp only [dif_pos hI']
      exact Nat.lt_succ_of_le ((Classical.choose_spec (hl a' w' hI')).2 m hq)
    | exit i => exact hq
    | goto l => exact hq
    | ret => exact hq
    | panic c => exact hq
    | outgrown => exact hq

/-- so many rounds are enough -/
def LoopN (P : Program) (n0 : Nat) (b : Code) (K : KX) : Nat → S → Prop
  | 0, _ => False
  | n + 1, s => CodeOk P n0 b s (seqK (LoopN P n0 b K n) K)
theorem LoopN.unr {P : Program} {n0 : Nat} {b : Code} {K : KX} {w0 : World} {M : Nat → Prop} {ρ : Env} : ∀ (n : Nat) (s : S) (ρ' : Env) (a : Act) (w : World), LoopN P n0 b K n s → Env.upto n0 ρ ρ' → SatE w0 M ρ' s a w → Unr P b (XQ K n0 w0 M ρ) n a w
  | 0, _, _, _, _, h, _, _ => h
  | n + 1, s, ρ', a, w, h, hu, hs => by
    refine wp_mono (h w0 M ρ' a w hu.n hs) ?_
    rintro e a' w' ⟨xe, s', ρ'', rfl, hk, hu', hs'⟩
    cases xe with
    | normal => exact LoopN.unr n s' ρ'' a' w' hk (hu.trans hu') hs'
    | ret => exact ⟨.ret, s', ρ'', rfl, hk, hu.trans hu', hs'⟩
    | exit i => exact ⟨.exit i, s', ρ'', rfl, hk, hu.trans hu', hs'⟩

theorem LoopN.ok {P : Program} {n0 : Nat} {b : Code} {K : KX} {n : Nat} {s : S} (h : LoopN P n0 b K n s) : CodeOk P n0 (.loop b) s K :=
  fun _ _ ρ _ _ hn hs => Unr.loop ⟨n, LoopN.unr n s ρ _ _ h ((Env.le.refl ρ).upto hn) hs⟩

theorem unroll_ok {P : Program} {n0 : Nat} {b : Code} {xb : S → KX → Prop} (hb : ∀ s K, xb s K → CodeOk P n0 b s K) {K : KX} {n : Nat} {s : S} (h : unrollGo xb K n s) : CodeOk P n0 (.loop b) s K := by
  refine LoopN.ok (n := n) ?_
  induction n generalizing s with
  | zero => exact h
  | succ n ih =>
    refine CodeOk.mono (hb _ _ h) fun xe s' hk => ?_
    cases xe with
    | normal => exact ih hk
    | ret => exact hk
    | exit i => exact hk

theorem xcode_ok {G : Fx} (hG : G.Ok) {ch : CallH} (hch : HOk G.X ch) {tab : List (Nat × RG)} {n0 : Nat} : ∀ (c : Code) (lh : LH) (s : S) (K : KX), regOk tab c = true → xcode G ch tab n0 c lh s K → CodeOk G.X.P n0 c s K := by
  intro c
  induction c with
  | skip => exact fun _ s K _ h w0 M ρ a w hn hs => wp_skip ⟨.normal, s, ρ, rfl, h, (Env.le.refl ρ).upto hn, hs⟩
  | region id ops d =>
    intro lh s K hr h w0 M ρ a w hn hs
    simp only [xcode] at h
    cases d with
    | true =>
      simp only [cond_true] at h
      simp only [regOk, cond_true] at hr
      cases hg : rgAt tab id with
      | none => rw [hg] at h; exact h.elim
      | some g =>
        rw [hg] at h hr
        simp only at h hr
        have := xdrawT_wp (id := id) (Q := XQ K n0 w0 M ρ) hG hch hr h hs fun s' ρ' a' w' hk hle hs' => ⟨.normal, s'.tidy, ρ', rfl, (S.force_eq s'.tidy (K .normal)).mp hk, hle.upto hn, hs'.tidy⟩
        simpa using this
    | false =>
      simp only [cond_false] at h
      refine wp_region_list ?_
      have := xops_wp (Q := XQ K n0 w0 M ρ) hG hch ops.toList s ρ a w h hs fun s' ρ' a' w' hk hle hs' => ⟨.normal, s'.tidy, ρ', rfl, (S.force_eq s'.tidy (K .normal)).mp hk, hle.upto hn, hs'.tidy⟩
      simpa using this
  | seq x y ihx ihy =>
    intro lh s K hr h w0 M ρ a w hn hs
    simp only [regOk, Bool.and_eq_true] at hr
    simp only [xcode] at h
    cases hcut : lh.cut_ (firstReg y) with
    | none =>
      rw [hcut] at h
      refine wp_seq (wp_mono (ihx lh s _ hr.1 h w0 M ρ a w hn hs) ?_)
      rintro e a' w' ⟨xe, s', ρ', rfl, hk, hu, hs'⟩
      cases xe with
      | normal => exact wp_mono (ihy lh s' K hr.2 hk w0 M ρ' a' w' hu.n hs') fun e a w q => q.up hu
      | ret => exact ⟨.ret, s', ρ', rfl, hk, hu, hs'⟩
      | exit i => exact ⟨.exit i, s', ρ', rfl, hk, hu, hs'⟩
    | some an =>
     cases an with
     | view key V ok next =>
      rw [hcut] at h
      refine wp_seq (wp_mono (ihx lh s _ hr.1 h w0 M ρ a w hn hs) ?_)
      rintro e a' w' ⟨xe, s', ρ', rfl, hk, hu, hs'⟩
      cases xe with
      | normal =>
        obtain ⟨s2, ρ2, hk2, hle2, hs2⟩ := ok _ _ hk w0 M ρ' a' w' hs'
        have hu2 : Env.upto n0 ρ' ρ2 := hle2.upto hu.n
        exact wp_mono (ihy _ _ K hr.2 ((S.force_eq _ _).mp hk2) w0 M ρ2 a' w' hu2.n hs2) fun e a w q => q.up (hu.trans hu2)
      | ret => exact ⟨.ret, s', ρ', rfl, hk, hu, hs'⟩
      | exit i => exact ⟨.exit i, s', ρ', rfl, hk, hu, hs'⟩
     | mk key α J p μ next =>
      rw [hcut] at h
      obtain ⟨h1, h2⟩ := h
      refine wp_seq (wp_mono (ihx lh s _ hr.1 h1 w0 M ρ a w hn hs) ?_)
      rintro e a' w' ⟨xe, s', ρ', rfl, hk, hu, hs'⟩
      cases xe with
      | normal =>
        obtain ⟨x, hx⟩ := hk
        obtain ⟨⟨hp, _⟩, hm⟩ := stMatch_ok hx
        obtain ⟨ρ2, hu2, hs2⟩ := hm w0 M ρ' a' w' hs'
        exact wp_mono (ihy _ _ K hr.2 ((S.force_eq _ _).mp (h2 x hp)) w0 M ρ2 a' w' hu2.n hs2) fun e a w q => q.up (hu.trans hu2)
      | ret => exact ⟨.ret, s', ρ', rfl, hk, hu, hs'⟩
      | exit i => exact ⟨.exit i, s', ρ', rfl, hk, hu, hs'⟩
  | cond c x y ihx ihy =>
    intro lh s K hr h w0 M ρ a w hn hs
    simp only [regOk, Bool.and_eq_true] at hr
    have hc := hs.frame.ev c
    simp only [xcode] at h
    split at h
    · rename_i e; rw [e] at hc; exact wp_cond_true hc (ihx lh s K hr.1 h w0 M ρ a w hn hs)
    · rename_i e; rw [e] at hc; exact wp_cond_false hc (ihy lh s K hr.2 h w0 M ρ a w hn hs)
    · rename_i b e
      rw [e] at hc
      have h := splitB_ok h
      exact wp_cond_split hc (fun hb => ihx lh s K hr.1 (h.1 hb) w0 M ρ a w hn hs) fun hb => ihy lh s K hr.2 (h.2 hb) w0 M ρ a w hn hs
    · exact h.elim
  | block i b ih =>
    intro lh s K hr h w0 M ρ a w hn hs
    refine wp_block (wp_mono (ih lh s _ hr h w0 M ρ a w hn hs) ?_)
    rintro e a' w' ⟨xe, s', ρ', rfl, hk, hu, hs'⟩
    cases xe with
    | normal => exact ⟨.normal, s', ρ', rfl, hk, hu, hs'⟩
    | ret => exact ⟨.ret, s', ρ', rfl, hk, hu, hs'⟩
    | exit j =>
      simp only [blockK] at hk
      simp only [XE.toE, Exit.inBlock]
      by_cases hj : j = i
      · subst hj
        simp only [beq_self', cond_true] at hk
        rw [if_pos rfl]
        exact ⟨.normal, s', ρ', rfl, hk, hu, hs'⟩
      · simp only [beq_ne hj, cond_false] at hk
        rw [if_neg hj]
        exact ⟨.exit j, s', ρ', rfl, hk, hu, hs'⟩
  | loop b ih =>
    intro lh s K hr h
    simp only [xcode] at h
    cases hat : lh.at_ (firstReg b) with
    | none =>
      rw [hat] at h
      exact unroll_ok (fun s K h => ih lh s K hr h) h
    | some an =>
     cases an with
     | view key V ok next => rw [hat] at h; exact h.elim
     | mk key α J p μ next =>
      rw [hat] at h
      obtain ⟨⟨a0, h0⟩, hrd⟩ := h
      obtain ⟨⟨hp0, _⟩, hs0⟩ := stMatch_ok h0
      intro w0 M ρ a w hn hs
      have key : ∀ (m : Nat) (x : α), p s x → μ s x < m → ∀ (ρ' : Env) (a : Act) (w : World), Env.upto n0 ρ ρ' → SatE w0 M ρ' (J s x) a w → Unr G.X.P b (XQ K n0 w0 M ρ) m a w := by
        intro m
        induction m with
        | zero => intro x _ h; omega
        | succ m ihm =>
          intro x hx hm ρ' a w hu hs
          refine wp_mono (ih (next x) _ _ hr ((S.force_eq _ _).mp (hrd x hx)) w0 M ρ' a w hu.n hs) ?_
          rintro e a' w' ⟨xe, s', ρ'', rfl, hk, hu', hs'⟩
          cases xe with
          | normal =>
            obtain ⟨x', hx'⟩ := hk
            obtain ⟨⟨h1, h2⟩, h3⟩ := stMatch_ok hx'
            obtain ⟨ρ3, h4, h5⟩ := h3 w0 M ρ'' a' w' hs'
            exact ihm x' h1 (by omega) ρ3 a' w' ((hu.trans hu').trans h4) h5
          | ret => exact ⟨.ret, s', ρ'', rfl, hk, hu.trans hu', hs'⟩
          | exit i => exact ⟨.exit i, s', ρ'', rfl, hk, hu.trans hu', hs'⟩
      obtain ⟨ρ1, h1, h2⟩ := hs0 w0 M ρ a w hs
      exact Unr.loop ⟨_, key (μ s a0 + 1) a0 hp0 (Nat.lt_succ_self _) ρ1 a w h1 h2⟩
  | exit i => exact fun _ s K _ h w0 M ρ a w hn hs => wp_exit ⟨.exit i, s, ρ, rfl, h, (Env.le.refl ρ).upto hn, hs⟩
  | ret => exact fun _ s K _ h w0 M ρ a w hn hs => wp_ret ⟨.ret, s, ρ, rfl, h, (Env.le.refl ρ).upto hn, hs⟩
  | _ => exact fun _ s K _ h => h.elim

/-! ### calls -/

def SV.cv : SV → Option CV
  | .a x => some (.a x)
  | .agg xs => some (.agg xs)
  | .tup _ => none
def xres1 (X : Cx) (s : S) (r : ResultVar) (K : SV → Prop) : Prop :=
  match r with
  | .tmp t => K (look s.fr t)
  | .cell a t => xload X t (look s.fr a) s fun v _ => K v
def xresL (X : Cx) (s : S) : List ResultVar → (List CV → Prop) → Prop
  | [], K => K []
  | r :: rs, K => xres1 X s r fun v => match v.cv with | some c => xresL X s rs fun cs => K (c :: cs) | none => False
def xresults (X : Cx) (s : S) (fn : Func) (K : SV → Prop) : Prop :=
  match fn.results.toList with
  | [r] => xres1 X s r K
  | rs => xresL X s rs fun cs => K (.tup cs)

theorem SV.cv_rep {v : SV} {c : CV} (h : v.cv = some c) {ρ : Env} {x : Value} (r : v.Rep ρ x) : c.Rep ρ x := by
  cases v <;> simp [SV.cv] at h <;> subst h <;> exact r

def resM (tmps : Array Value) : ResultVar → Sem Value
  | .tmp t => pure (tmps.getD t undef)
  | .cell a t => do loadVar t (← asAddr (tmps.getD a undef))

theorem xres1_ok {X : Cx} (hX : X.Ok) {s : S} {r : ResultVar} {K : SV → Prop} (h : xres1 X s r K) {w0 : World} {M : Nat → Prop} {ρ : Env} {a : Act} {w : World} (hs : SatE w0 M ρ s a w) :
    ∃ u sv, (resM a.tmps r).run X.P w = .ok u w ∧ sv.Rep ρ u ∧ K sv := by
  cases r with
  | tmp t => exact ⟨_, _, rfl, hs.frame t, h⟩
  | cell ad t =>
    obtain ⟨b, o, e, u, sv, h1, h2, h3⟩ := load_ok hX h (hs.frame ad) hs.heap
    refine ⟨u, sv, ?_, h2, h3⟩
    have := h1 w fun _ _ _ _ => rfl
    simp [resM, e, asAddr, this]

theorem xresL_ok {X : Cx} (hX : X.Ok) {s : S} {w0 : World} {M : Nat → Prop} {ρ : Env} {a : Act} {w : World} (hs : SatE w0 M ρ s a w) : ∀ {rs : List ResultVar} {K : List CV → Prop}, xresL X s rs K →
    ∃ us cs, (rs.mapM (resM a.tmps)).run X.P w = .ok us w ∧ us.length = rs.length ∧ RepC ρ cs us ∧ K cs
  | [], K, h => ⟨[], [], by simp, rfl, rfl, h⟩
  | r :: rs, K, h => by
    obtain ⟨u, sv, h1, h2, h3⟩ := xres1_ok hX h hs
    cases hc : sv.cv with
    | none => rw [hc] at h3; exact h3.elim
    | some c =>
      rw [hc] at h3
      obtain ⟨us, cs, g1, g2, g3, g4⟩ := xresL_ok hX hs h3
      exact ⟨u :: us, c :: cs, by simp [List.mapM_cons, h1, g1], by simp [g2], ⟨u, us, rfl, SV.cv_rep hc h2, g3⟩, g4⟩

theorem results_eq (fn : Func) (tmps : Array Value) : results fn tmps = (do
    let vs ← fn.results.mapM (resM tmps)
    pure (if h : vs.size = 1 then vs[0] else .tuple vs)) := rfl

theorem xresults_ok {X : Cx} (hX : X.Ok) {s : S} {fn : Func} {K : SV → Prop} (h : xresults X s fn K) {w0 : World} {M : Nat → Prop} {ρ : Env} {a : Act} {w : World} (hs : SatE w0 M ρ s a w) :
    ∃ u sv, (results fn a.tmps).run X.P w = .ok u w ∧ sv.Rep ρ u ∧ K sv := by
  rw [results_eq]
  unfold xresults at h
  have hm : ∀ us : List Value, (fn.results.toList.mapM (resM a.tmps)).run X.P w = .ok us w → (fn.results.mapM (resM a.tmps)).run X.P w = .ok us.toArray w := by
    intro us hu
    rw [Array.mapM_eq_mapM_toList, ← bind_pure_comp]; simp [hu]
  split at h
  · rename_i r hr
    obtain ⟨u, sv, h1, h2, h3⟩ := xres1_ok hX h hs
    refine ⟨u, sv, ?_, h2, h3⟩
    have := hm [u] (by rw [hr]; simp [List.mapM_cons, h1])
    simp [this]
  · rename_i rs hne
    obtain ⟨us, cs, h1, h2, h3, h4⟩ := xresL_ok hX hs h
    have := hm us h1
    refine ⟨.tuple us.toArray, .tup cs, ?_, ⟨us, rfl, h3⟩, h4⟩
    have hl : us.length ≠ 1 := by
      intro e
      rw [h2] at e
      match hh : fn.results.toList, e with
      | [r], _ => exact hne r hh
    simp [this, hl]

/-- the arguments, as slots -/
def parFr : Nat → List SV → List (Nat × SV)
  | _, [] => []
  | i, v :: vs => (i, v) :: parFr (i + 1) vs

theorem look_parFr : ∀ (vs : List SV) (i j : Nat), look (parFr i vs) j = if i ≤ j then (vs[j - i]?).getD (.a .any) else .a .any
  | [], i, j => by simp [parFr, look]
  | v :: vs, i, j => by
    simp only [parFr, look]
    by_cases h : i = j
    · subst h; simp
    · rw [beq_ne h, cond_false, look_parFr vs (i + 1) j]
      by_cases h1 : i ≤ j
      · have h2 : i + 1 ≤ j := by omega
        have h3 : j - i = (j - (i + 1)) + 1 := by omega
        simp [h1, h2, h3]
      · have h2 : ¬ i + 1 ≤ j := by omega
        simp [h1, h2]

theorem RepArgs.get {ρ : Env} : ∀ {xs : List SV} {vs : List Value}, RepArgs ρ xs vs → vs.length = xs.length ∧ ∀ (i : Nat) (x : SV), xs[i]? = some x → ∃ v, vs[i]? = some v ∧ x.Rep ρ v
  | [], vs, h => by simp [RepArgs] at h; subst h; simp
  | x :: xs, vs, ⟨v, r, e, h1, h2⟩ => by
    subst e
    obtain ⟨g1, g2⟩ := RepArgs.get h2
    refine ⟨by simp [g1], fun i y hy => ?_⟩
    cases i with
    | zero => simp at hy; subst hy; exact ⟨v, by simp, h1⟩
    | succ i => simp at hy; obtain ⟨u, hu, hr⟩ := g2 i y hy; exact ⟨u, by simpa using hu, hr⟩

theorem parFr_sat {ρ : Env} {xs : List SV} {vs : List Value} (h : RepArgs ρ xs vs) (n : Nat) : FrameSat ρ (parFr 0 xs) (vs.toArray ++ Array.replicate n undef) := by
  intro j
  rw [look_parFr]
  obtain ⟨h1, h2⟩ := h.get
  simp only [Nat.zero_le, if_true, Nat.sub_zero]
  cases hx : xs[j]? with
  | none => exact trivial
  | some x =>
    obtain ⟨v, hv, hr⟩ := h2 j x hx
    have hj := (List.getElem?_eq_some_iff.1 hv).1
    have e : (vs.toArray ++ Array.replicate n undef).getD j undef = v := by
      rw [Array.getD_eq_getD_getElem?, Array.getElem?_append_left (by simpa using hj)]
      simp [hv]
    rw [e]; exact hr

structure Gx where
  G : Fx
  R : List (Nat × List (Nat × RG))
def tabAt : List (Nat × List (Nat × RG)) → Nat → List (Nat × RG)
  | [], _ => []
  | (j, t) :: r, f => bif Nat.beq j f then t else tabAt r f
structure Gx.Ok (Y : Gx) : Prop where
  g : Y.G.Ok
  reg : ∀ p ∈ Y.G.F, ∀ c, p.2.body = some c → regOk (tabAt Y.R p.1) c = true

abbrev Spec := Nat → Option (List SV → S → KV → Prop)
def SpOk (X : Cx) (sp : Spec) : Prop := ∀ f h, sp f = some h → ∀ args s K, h args s K → CallOk X f args s K

/-- the body of a function -/
def xbody (Y : Gx) (ch : CallH) (lh : Nat → LH) (f : Nat) (args : List SV) (s : S) (K : KV) : Prop :=
  match fnAt Y.G.F f with
  | some fn => match fn.body with
    | some c => mark Y.G.X.dbg (100000 + f) <| xcode Y.G ch (tabAt Y.R f) s.nx c (lh f) ⟨args.length + (fn.ntmps - args.length), parFr 0 args, s.hp, s.nx, (keepAt Y.G.I f).getD [], frTags s.fr s.rt⟩ fun xe s' =>
        match xe with
        | .exit _ => False
        | _ => xresults Y.G.X s' fn fun v => K v ⟨s.nt, s.fr, s'.hp, s'.nx, s.kp, s.rt⟩
    | none => False
  | none => False

def xcall (Y : Gx) (sp : Spec) (lh : Nat → LH) : Nat → CallH
  | 0 => fun _ _ _ _ => False
  | n + 1 => fun f args s K =>
    match sp f with
    | some h => h args s K
    | none => xbody Y (xcall Y sp lh n) lh f args s K

theorem xbody_ok {Y : Gx} (hY : Y.Ok) {ch : CallH} (hch : HOk Y.G.X ch) {lh : Nat → LH} {f : Nat} {args : List SV} {s : S} {K : KV} (h : xbody Y ch lh f args s K) : CallOk Y.G.X f args s K := by
  unfold xbody at h
  split at h
  · rename_i fn hfn
    split at h
    · rename_i c hc
      have h := mark_ok h
      intro w0 M ρ w vs hn hh hargs
      have hm := fnAt_mem hfn
      have hok := hY.g.fns _ hm
      refine calls_of_wp hok.at_ hc ?_
      have hl := hargs.get.1
      refine wp_mono (xcode_ok hY.g hch c _ _ _ (hY.reg _ hm c hc) h w0 M ρ _ w (by rw [hn]; exact Nat.le_refl _) ⟨rfl, ?_, hn, ?_, hh⟩) ?_
      · simp [hl]
      · have := parFr_sat hargs (fn.ntmps - args.length)
        simpa [hl] using this
      · rintro e a' w' ⟨xe, s', ρ', rfl, hk, hu, hs'⟩
        have fin : ∀ (e' : Exit), (e' = .normal ∨ e' = .ret) → (xresults Y.G.X s' fn fun v => K v ⟨s.nt, s.fr, s'.hp, s'.nx, s.kp, s.rt⟩) → bodyPost Y.G.X.P fn (fun e w' => ∃ v, e = .returned v ∧ Out w0 M ρ s w' v K) e' a' w' := by
          intro e' he' hk
          obtain ⟨u, sv, h1, h2, h3⟩ := xresults_ok hY.g.cx hk hs'
          have hout : Out w0 M ρ s w' u K := ⟨sv, _, ρ', h3, rfl, rfl, ⟨by rw [hn]; exact hu.n, fun t ht => hu.pl t (by rw [← hn]; exact ht)⟩, hs'.n, h2, hs'.heap⟩
          rcases he' with rfl | rfl
          · exact ⟨hs'.defers, u, h1, u, rfl, hout⟩
          · exact ⟨hs'.defers, u, h1, u, rfl, hout⟩
        cases xe with
        | normal => exact fin .normal (.inl rfl) hk
        | ret => exact fin .ret (.inr rfl) hk
        | exit i => exact hk.elim
    · exact h.elim
  · exact h.elim

theorem xcall_ok {Y : Gx} (hY : Y.Ok) {sp : Spec} (hsp : SpOk Y.G.X sp) {lh : Nat → LH} : ∀ n, HOk Y.G.X (xcall Y sp lh n)
  | 0 => fun f args s K h => h.elim
  | n + 1 => fun f args s K h => by
    simp only [xcall] at h
    split at h
    · rename_i g hg; exact hsp f g hg args s K h
    · exact xbody_ok hY (xcall_ok hY hsp n) h

end
end Go.Sx
