/-
  The library's sort of a row of structs by a function, as a contract of this executor.
-/
import Derived.Test.YthofnohpdbbidaaSxSo
import Derived.Shelf.SlSortCmp.WholeK
namespace Go.Sx
section
open Go.Sort Go.Proofs

def cSortF {β : Type} [Inhabited β] (ty : TypeId) (ks : List CK) (enc : β → List Value) (g : Nat) (srt : List β → List β) : Con where
  α := SortA β
  β := Unit
  m := 1
  m' := 1
  pre := fun a => a.l.length < 100000 ∧ 1 ≤ a.l.length
  args := fun a => [.a (.slc 0 0 ks.length a.l.length a.cap), .a (.fn g)]
  hp := fun a => [(0, .arr ty ks a.l.length (encRows enc a.l))]
  ro := fun _ => []
  post := fun _ _ => True
  res := fun _ _ => .tup []
  hp' := fun a _ => [(0, .arr ty ks a.l.length (encRows enc (srt a.l)))]

theorem list_get! {l : List Value} {j : Nat} (h : j < l.length) : l[j]! = l.getD j undef := by
  rw [getElem!_pos l j h]; simp [List.getD, h]

theorem sortF_sem {β : Type} [Inhabited β] {X : Cx} {f g : Nat} {ty : TypeId} {ks : List CK} {enc : β → List Value} {srt : List β → List β} (hk : ∀ x, (enc x).length = ks.length) (hk0 : 0 < ks.length)
    (hlen : ∀ l, (srt l).length = l.length) (hin : ∀ l x, x ∈ srt l → x ∈ l)
    (hcall : ∀ (blk off cap : Nat) (d : Array β) (w : World), HoldsK enc ks.length w blk off d → blk < w.heap.size → d.size < 4611686018427387904 →
      Calls X.P f #[.slice (some ⟨blk, off, none⟩) d.size cap, .func (.func g) #[] #[]] w fun e w' => e = .returned (.tuple #[]) ∧ ∃ n os, w' = sortWorldK enc ks.length w blk off n (srt d.toList).toArray os) :
    ConSem X (cSortF ty ks enc g srt) f := by
  intro a hpre M ρ w vs hn hh hargs
  obtain ⟨l, cap⟩ := a
  obtain ⟨hp1, hp2⟩ := hpre
  obtain ⟨v, vs', rfl, hv, v2, vs2, rfl, hv2, rfl⟩ := hargs
  have hv2' : v2 = .func (.func g) #[] #[] := hv2
  subst hv2'
  obtain ⟨hT, hlc, hcm, hv⟩ := hv
  have he := hh.ent ⟨0, true, .arr ty ks l.length (encRows enc l)⟩ (by simp [wrs, cSortF])
  have hsat := he.ch
  simp only at hsat hlc hcm hv hT hp1 hp2
  rcases hsat with ⟨h0, _⟩ | ⟨vs0, ty', fr, hb, h1, h2, h3, h4, h5⟩
  · omega
  have hlt : (ρ.pl 0).blk < w.heap.size := he.lt _ ((h4 _).2 rfl)
  rcases hv with ⟨g1, _, _⟩ | ⟨o, rfl, ho⟩
  · omega
  obtain ⟨rfl, _⟩ := ho (by omega)
  simp only [Nat.zero_mul, Nat.add_zero] at *
  have hcell : ∀ t, t < l.length * ks.length → vs0[(ρ.pl 0).off + t]? = some ((enc (gl l (t / ks.length))).getD (t % ks.length) undef) := by
    intro t ht
    have hm : t % ks.length < ks.length := Nat.mod_lt _ hk0
    have hi : t / ks.length < l.length := Nat.div_lt_of_lt_mul (by rw [Nat.mul_comm]; exact ht)
    obtain ⟨q, _⟩ := h5 (t / ks.length) hi (t % ks.length) (ks[t % ks.length]) (List.getElem?_eq_getElem hm)
    have e : (ρ.pl 0).off + t / ks.length * ks.length + t % ks.length = (ρ.pl 0).off + t := by
      have := Nat.div_add_mod t ks.length
      rw [Nat.mul_comm] at this; omega
    rw [e] at q; exact q
  have hsz0 : (ρ.pl 0).off + l.length * ks.length ≤ vs0.size := Nat.le_trans (Nat.add_le_add_left (Nat.mul_le_mul_right _ h2) _) h1
  have hnk : l.length * ks.length ≤ (ρ.pl 0).N * ks.length := Nat.mul_le_mul_right _ h2
  have hHolds : HoldsK enc ks.length w (ρ.pl 0).blk (ρ.pl 0).off l.toArray := by
    intro t ht
    have ht' : t < l.length * ks.length := by simpa using ht
    have hm : t % ks.length < ks.length := Nat.mod_lt _ hk0
    have hi : t / ks.length < l.length := Nat.div_lt_of_lt_mul (by rw [Nat.mul_comm]; exact ht')
    refine ⟨?_, ?_⟩
    · simp only [World.cell?, hb]
      rw [hcell t ht', get_flatK _ _ _ t (by simpa using ht')]
      have e : (l.toArray)[t / ks.length]! = gl l (t / ks.length) := by rw [getElem!_pos _ _ (by simpa using hi), gl_eq hi]; simp
      rw [e, list_get! (by rw [hk]; exact hm)]; rfl
    · simp only [World.frozen?, hb]
      have := h3 ((ρ.pl 0).off + t) (by omega) (by omega)
      obtain ⟨lo, hi⟩ := fr
      simpa using this
  have hcalls := hcall (ρ.pl 0).blk (ρ.pl 0).off cap l.toArray w hHolds hlt (by simp; omega)
  simp only [List.size_toArray] at hcalls
  refine hcalls.mono ?_
  rintro e w' ⟨rfl, n, os, rfl⟩
  refine ⟨_, rfl, (), ρ, trivial, hn, fun _ _ => rfl, ⟨[], rfl, rfl⟩, ?_⟩
  obtain ⟨F, hF⟩ : ∃ F, F = flatK enc ks.length (srt l).toArray := ⟨_, rfl⟩
  have hFs : F.size = l.length * ks.length := by rw [hF]; simp [hlen]
  have hw : sortWorldK enc ks.length w (ρ.pl 0).blk (ρ.pl 0).off n (srt l).toArray os = grow (putRow id (Sort.ahead w n) (ρ.pl 0).blk (ρ.pl 0).off F) os := by rw [hF]; rfl
  rw [hw]
  have hheap : ∀ b, b < w.heap.size → (grow (putRow id (Sort.ahead w n) (ρ.pl 0).blk (ρ.pl 0).off F) os).heap[b]? = (w.heap.modify (ρ.pl 0).blk (onCells (putCells id (ρ.pl 0).off F)))[b]? := by
    intro b hb'
    rw [heap_grow_old _ _ (by simpa using hb')]
    rfl
  have hblk : (grow (putRow id (Sort.ahead w n) (ρ.pl 0).blk (ρ.pl 0).off F) os).heap[(ρ.pl 0).blk]? = some (.cells (putCells id (ρ.pl 0).off F vs0) ty' fr) := by
    rw [hheap _ hlt, Array.getElem?_modify, if_pos rfl, hb]; rfl
  have hoth : ∀ b, b < w.heap.size → b ≠ (ρ.pl 0).blk → (grow (putRow id (Sort.ahead w n) (ρ.pl 0).blk (ρ.pl 0).off F) os).heap[b]? = w.heap[b]? := by
    intro b hb' hne
    rw [hheap b hb', Array.getElem?_modify, if_neg (fun h => hne h.symm)]
  refine ⟨⟨rfl, rfl, rfl, ?_, fun b hb' hm => ?_, fun ad had => ?_⟩, ?_, ?_⟩
  · simp
  · exact hoth b hb' fun e => hm (he.own rfl b ((h4 b).2 e) hb')
  · rw [frozen?_grow _ _ _ (by simpa using had), frozen?_putRow, frozen?_ahead]
  · intro e' he'
    have : e' = ⟨0, true, .arr ty ks l.length (encRows enc (srt l))⟩ := by simpa [wrs, cSortF] using he'
    subst this
    refine ⟨he.tag, ?_, fun b hb' => ?_, he.own⟩
    · refine .inr ⟨_, ty', fr, hblk, ?_, h2, ?_, h4, fun i hi j kk hj => ?_⟩
      · simpa [putCells] using h1
      · simpa using h3
      · have hjl : j < ks.length := (List.getElem?_eq_some_iff.1 hj).1
        have hi' : i < (srt l).length := by rw [hlen]; exact hi
        have hmem : gl (srt l) i ∈ l := hin l _ (gl_mem hi')
        have ht : i * ks.length + j < l.length * ks.length := by
          have := Nat.mul_le_mul_right ks.length hi
          rw [Nat.succ_mul] at this; omega
        have d1 : (i * ks.length + j) / ks.length = i := by
          rw [Nat.mul_comm, Nat.mul_add_div hk0, Nat.div_eq_of_lt hjl, Nat.add_zero]
        have d2 : (i * ks.length + j) % ks.length = j := by
          rw [Nat.mul_comm, Nat.mul_add_mod, Nat.mod_eq_of_lt hjl]
        refine ⟨?_, ?_⟩
        · have hc := hcell (i * ks.length + j) ht
          rw [← Nat.add_assoc] at hc
          simp only [putCells, Array.getElem?_mapIdx, hc, Option.map_some, hFs]
          rw [if_pos ⟨by omega, by omega⟩, show (ρ.pl 0).off + i * ks.length + j - (ρ.pl 0).off = i * ks.length + j by omega]
          rw [hF, get_flatK _ _ _ _ (by simpa [hlen] using ht), d1, d2]
          have e : ((srt l).toArray)[i]! = gl (srt l) i := by rw [getElem!_pos _ _ (by simpa using hi'), gl_eq hi']; simp
          rw [e, list_get! (by rw [hk]; exact hjl)]; rfl
        · obtain ⟨i0, hi0, e0⟩ := List.getElem_of_mem hmem
          obtain ⟨_, g2⟩ := h5 i0 hi0 j kk hj
          unfold encRows at g2 ⊢
          rw [← e0, ← gl_eq hi0]; exact g2
    · have := he.lt b hb'
      simp; omega
  · simp [wrs, cSortF]
end
end Go.Sx
