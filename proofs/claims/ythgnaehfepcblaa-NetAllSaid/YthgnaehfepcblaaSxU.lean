/-
  What is kept, in the words of the rows.
-/
import Derived.Test.YthgnaehfepcblaaSxT
import Derived.Below
import Derived.ChangeSame
namespace Go.Sx

theorem Keeps.below {w w' : World} (h : Keeps (fun _ => False) w w') : Go.RowKit.Below w.heap.size w w' := ⟨h.os, h.tape, h.output, h.size, fun k hk => h.block k hk id⟩

open Go.WideShapes Go.ChangeShapes in
/-- the row's end, where what was there may read as it did, and not more is known of what is new -/
theorem post_of_kept {H : Type} {enc : TypeId × Value → H} {P : Program} {f : Func} {s : ChangeSpec} {apart fresh handsOn again : Bool} {W W' : World} {args : Array Value} {v : Value} {ds gs : List (DataW H)} {pa : List MemPlace}
    (hW : DataW.Whole enc P f.params.toList s.vars apart W args.toList ds gs (pa ++ []))
    (hres : ∀ (b : Nat) (sp : Nat → Bool) (hd : Bool), DataW.TrodAll enc P W' b sp hd f.resultTypes.toList (v.resultList f.resultTypes.size) (s.fn H (ds ++ gs)).results [])
    (hargs : ∀ sp : Nat → Bool, (∀ p ∈ pa ++ [], sp p.block = true) → DataW.TrodAll enc P W' 0 sp true f.params.toList args.toList (s.fn H (ds ++ gs)).args pa)
    (hvars : ∀ sp : Nat → Bool, (∀ p ∈ pa ++ [], sp p.block = true) → DataW.TrodVars enc P W' sp s.vars (s.fn H (ds ++ gs)).vars [])
    (hk : Keeps (fun _ => False) W W')
    (hok : ∀ (j : Nat) (t : TypeId) (r : Value), f.resultTypes[j]? = some t → (v.resultList f.resultTypes.size)[j]? = some r → Value.okWide P W' .any 0 t r) :
    s.post enc P f apart fresh handsOn again W args v W' := by
  have hl := hW.lt
  have hall : ∀ p ∈ pa ++ [], (fun _ => true : Nat → Bool) p.block = true := fun _ _ => rfl
  have hold : ∀ p ∈ pa ++ [], (fun b => decide (b < W.heap.size)) p.block = true := fun p hp => decide_eq_true (hl p hp)
  have hmem : ∀ p, p ∈ ([] ++ pa) ++ [] → p ∈ pa ++ [] := fun p hp => by simpa using hp
  refine ⟨ds, gs, pa ++ [], [], pa, [], hW, hres _ _ _, hargs _ hold, hvars _ hold, World.keptBut_mono (may := (· ∈ pa ++ [])) (fun p hp => ⟨hp, .inr (by simpa using hp)⟩) (hk.below.frame _), fun _ => ?_⟩
  obtain ⟨_, _, _, _, _, hz, hn⟩ := hW
  refine ⟨hok, _, _, ([] ++ pa) ++ [], ⟨[] ++ pa, [], trodAll_append (hargs _ hall) (hres _ _ _), hvars _ hall, rfl, fun b off hp => ?_, fun ha => by simpa using hn ha⟩, fun p hp _ => by simpa using hp⟩
  rw [hk.frz _ (hl _ (hmem _ hp))]
  exact hz b off (hmem _ hp)

end Go.Sx
