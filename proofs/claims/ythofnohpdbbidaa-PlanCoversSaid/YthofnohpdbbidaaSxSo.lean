/-
  The library's sort of a row of one-cell elements, as a contract of this executor.
-/
import Derived.Test.YthofnohpdbbidaaSxY
import Derived.Sort.Grow
namespace Go.Sx
section
open Go.Sort

/-- elements of one cell, in a list -/
structure SortA (β : Type) where
  l : List β
  cap : Nat
def cellRows {β : Type} [Inhabited β] (enc : β → Value) (l : List β) : Nat → Nat → Value := encRows (fun x => [enc x]) l
/-- 'ty': the elements' type; 'k': what a cell may hold; 'srt': what comes of it -/
def cSort {β : Type} [Inhabited β] (ty : TypeId) (k : CK) (enc : β → Value) (srt : List β → List β) : Con where
  α := SortA β
  β := Unit
  m := 1
  m' := 1
  pre := fun a => a.l.length < 100000
  args := fun a => [.a (.slc 0 0 1 a.l.length a.cap)]
  hp := fun a => [(0, .arr ty [k] a.l.length (cellRows enc a.l))]
  ro := fun _ => []
  post := fun _ _ => True
  res := fun _ _ => .tup []
  hp' := fun a _ => [(0, .arr ty [k] a.l.length (cellRows enc (srt a.l)))]

theorem cellRows_at {β : Type} [Inhabited β] {enc : β → Value} {l : List β} {i : Nat} : cellRows enc l i 0 = enc (gl l i) := rfl

theorem holds_of_sat {β : Type} [Inhabited β] {k : CK} {enc : β → Value} {ty : TypeId} {l : List β} {ρ : Env} {p : Place} {w : World} (h : (Chunk.arr ty [k] l.length (cellRows enc l)).Sat ρ p w) (h0 : l ≠ []) :
    ∃ vs ty' fr, w.heap[p.blk]? = some (.cells vs ty' fr) ∧ p.off + p.N ≤ vs.size ∧ l.length ≤ p.N ∧ UnfrozenIn p.off (p.off + p.N) fr ∧ (∀ b, p.fp b ↔ b = p.blk) ∧ (∀ i, i < l.length → vs[p.off + i]? = some (enc (gl l i))) := by
  rcases h with ⟨hn, _⟩ | ⟨vs, ty', fr, hb, h1, h2, h3, h4, h5⟩
  · exact absurd (List.eq_nil_of_length_eq_zero hn) h0
  · simp only [List.length_singleton, Nat.mul_one] at h1 h3 h5
    refine ⟨vs, ty', fr, hb, h1, h2, h3, h4, fun i hi => ?_⟩
    obtain ⟨g1, _⟩ := h5 i hi 0 k rfl
    exact g1

theorem sort_sem {β γ : Type} [Inhabited β] [Inhabited γ] {X : Cx} {f : Nat} {ty : TypeId} {k : CK} {enc : β → Value} {enc2 : γ → Value} {to : β → γ} {srt : List β → List β} {srt2 : List γ → List γ}
    (hto : ∀ x, enc2 (to x) = enc x) (hsrt : ∀ l, (srt l).map to = srt2 (l.map to)) (hlen : ∀ l, (srt l).length = l.length) (hin : ∀ l x, x ∈ srt l → x ∈ l)
    (hcall : ∀ (blk off cap : Nat) (l : List γ) (w : World), Holds enc2 w blk off l.toArray → blk < w.heap.size → l.length < 4611686018427387904 →
      Calls X.P f #[.slice (some ⟨blk, off, none⟩) l.length cap] w fun e w' => e = .returned (.tuple #[]) ∧ ∃ n os, w' = grow (putRow enc2 (Sort.ahead w n) blk off (srt2 l).toArray) os)
    (hnone : ∀ (p : Option Addr) (cap : Nat) (w : World), Calls X.P f #[.slice p 0 cap] w fun e w' => e = .returned (.tuple #[]) ∧ w' = w) :
    ConSem X (cSort ty k enc srt) f := by
  intro a hpre M ρ w vs hn hh hargs
  obtain ⟨l, cap⟩ := a
  obtain ⟨v, vs', rfl, hv, rfl⟩ := hargs
  obtain ⟨hT, hlc, hcm, hv⟩ := hv
  have he := hh.ent ⟨0, true, .arr ty [k] l.length (cellRows enc l)⟩ (by simp [wrs, cSort])
  have hsat := he.ch
  simp only at hsat hlc hcm hv hT
  by_cases h0 : l = []
  · subst h0
    have hs : srt [] = [] := List.eq_nil_of_length_eq_zero (hlen [])
    have hcalls : Calls X.P f #[v] w fun e w' => e = .returned (.tuple #[]) ∧ w' = w := by
      rcases hv with ⟨_, h2, rfl⟩ | ⟨o, rfl, _⟩
      · exact hnone none 0 w
      · exact hnone (some _) cap w
    refine hcalls.mono ?_
    rintro e w' ⟨rfl, rfl⟩
    refine ⟨_, rfl, (), ρ, trivial, hn, fun _ _ => rfl, ⟨[], rfl, rfl⟩, ?_⟩
    show HeapSat w' M ρ (wrs [(0, .arr ty [k] ([] : List β).length (cellRows enc (srt [])))]) w'
    rw [hs]
    have : (wrs ((cSort ty k enc srt).hp ⟨[], cap⟩) ++ ros ((cSort ty k enc srt).ro ⟨[], cap⟩)) = wrs [(0, .arr ty [k] ([] : List β).length (cellRows enc []))] := by simp [cSort, ros, wrs]
    rw [this] at hh; exact hh
  · obtain ⟨vs0, ty', fr, hb, h1, h2, h3, h4, h5⟩ := holds_of_sat hsat h0
    have hpos : l.length ≠ 0 := fun h => h0 (List.eq_nil_of_length_eq_zero h)
    have hlt : (ρ.pl 0).blk < w.heap.size := he.lt _ ((h4 _).2 rfl)
    rcases hv with ⟨g1, _, _⟩ | ⟨o, rfl, ho⟩
    · exact absurd g1 hpos
    obtain ⟨rfl, _⟩ := ho (by omega)
    simp only [Nat.zero_mul, Nat.add_zero, Nat.mul_one] at *
    have hHolds : Holds enc2 w (ρ.pl 0).blk (ρ.pl 0).off (l.map to).toArray := by
      intro j hj
      simp only [List.size_toArray, List.length_map] at hj
      refine ⟨?_, ?_⟩
      · simp only [World.cell?, hb]
        rw [h5 j hj, getElem!_pos _ j (by simpa using hj)]
        simp [hto, gl_eq hj]
      · simp only [World.frozen?, hb]
        have := h3 ((ρ.pl 0).off + j) (by omega) (by omega)
        obtain ⟨lo, hi⟩ := fr
        simpa using this
    have hcalls := hcall (ρ.pl 0).blk (ρ.pl 0).off cap (l.map to) w hHolds hlt (by rw [List.length_map]; have : l.length < 100000 := hpre; omega)
    rw [List.length_map] at hcalls
    refine hcalls.mono ?_
    rintro e w' ⟨rfl, n, os, rfl⟩
    refine ⟨_, rfl, (), ρ, trivial, hn, fun _ _ => rfl, ⟨[], rfl, rfl⟩, ?_⟩
    have hsz : (srt2 (l.map to)).length = l.length := by rw [← hsrt, List.length_map, hlen]
    have hheap : ∀ b, b < w.heap.size → (grow (putRow enc2 (Sort.ahead w n) (ρ.pl 0).blk (ρ.pl 0).off (srt2 (l.map to)).toArray) os).heap[b]? = (w.heap.modify (ρ.pl 0).blk (onCells (putCells enc2 (ρ.pl 0).off (srt2 (l.map to)).toArray)))[b]? := by
      intro b hb'
      rw [heap_grow_old _ _ (by simpa using hb')]
      rfl
    have hblk : (grow (putRow enc2 (Sort.ahead w n) (ρ.pl 0).blk (ρ.pl 0).off (srt2 (l.map to)).toArray) os).heap[(ρ.pl 0).blk]? = some (.cells (putCells enc2 (ρ.pl 0).off (srt2 (l.map to)).toArray vs0) ty' fr) := by
      rw [hheap _ hlt, Array.getElem?_modify, if_pos rfl, hb]; rfl
    have hoth : ∀ b, b < w.heap.size → b ≠ (ρ.pl 0).blk → (grow (putRow enc2 (Sort.ahead w n) (ρ.pl 0).blk (ρ.pl 0).off (srt2 (l.map to)).toArray) os).heap[b]? = w.heap[b]? := by
      intro b hb' hne
      rw [hheap b hb', Array.getElem?_modify, if_neg (fun h => hne h.symm)]
    refine ⟨⟨rfl, rfl, rfl, ?_, fun b hb' hm => ?_, fun ad had => ?_⟩, ?_, ?_⟩
    · simp
    · exact hoth b hb' fun e => hm (he.own rfl b ((h4 b).2 e) hb')
    · rw [frozen?_grow _ _ _ (by simpa using had), frozen?_putRow, frozen?_ahead]
    · intro e' he'
      have : e' = ⟨0, true, .arr ty [k] l.length (cellRows enc (srt l))⟩ := by simpa [wrs, cSort] using he'
      subst this
      refine ⟨he.tag, ?_, fun b hb' => ?_, he.own⟩
      · refine .inr ⟨_, ty', fr, hblk, ?_, h2, ?_, h4, fun i hi j k' hj => ?_⟩
        · simpa [putCells] using h1
        · simpa using h3
        · have hj0 : j = 0 := by
            cases j with
            | zero => rfl
            | succ j => simp at hj
          subst hj0
          have hk : k' = k := by simpa using hj.symm
          subst hk
          have hi' : i < (srt l).length := by rw [hlen]; exact hi
          have hmem : gl (srt l) i ∈ l := hin l _ (gl_mem hi')
          refine ⟨?_, ?_⟩
          · simp only [List.length_singleton, Nat.mul_one, Nat.add_zero, putCells, Array.getElem?_mapIdx, h5 i hi, Option.map_some]
            rw [if_pos ⟨by omega, by simp; omega⟩, show (ρ.pl 0).off + i - (ρ.pl 0).off = i by omega]
            rw [getElem!_pos _ i (by simp; omega)]
            have : (srt2 (l.map to))[i]'(by omega) = to (gl (srt l) i) := by
              simp only [← hsrt, List.getElem_map, gl_eq hi']
            simp [this, hto, cellRows_at]
          · obtain ⟨i0, hi0, e0⟩ := List.getElem_of_mem hmem
            rcases hsat with ⟨hn0, _⟩ | ⟨vs1, ty1, fr1, hb1, _, _, _, _, h6⟩
            · omega
            · obtain ⟨_, g2⟩ := h6 i0 hi0 0 k' rfl
              rw [cellRows_at] at g2 ⊢
              rw [← e0, ← gl_eq hi0]; exact g2
      · have := he.lt b hb'
        simp; omega
    · simp [wrs, cSort]
end
end Go.Sx
