/- What a row's proof wants beside the kit: its end, where the call leaves new blocks behind and nothing else. -/
import Derived.Test.YtpekhdahamloaaaGreatDoorRows
import Derived.WalkKit
import Derived.ProofKit
import Derived.OpenShut
set_option linter.unusedVariables false
set_option linter.unusedSimpArgs false
namespace Go.Proofs.YtpekhdahamloaaaGreatDoor
open Go.ChangeShapes Go.WideShapes Go.ChangeAt Go.RowKit

theorem own : ownKnob Tryz.prog.godebug = none := by kernel_rfl

section
variable {H : Type} {enc : TypeId × Value → H} {P : Program}
/-- The end of a row's proof where 'Below' is what is known of the world behind. -/
theorem post_below {f : Func} {s : ChangeSpec} {apart fresh handsOn again : Bool} {W W' : World} {args : Array Value} {v : Value} {ds gs : List (DataW H)} {before pa pv : List MemPlace}
    (hW : DataW.Whole enc P f.params.toList s.vars apart W args.toList ds gs before)
    (r : ∀ (b : Nat) (sp : Nat → Bool) (hd : Bool), DataW.TrodAll enc P W' b sp hd f.resultTypes.toList (v.resultList f.resultTypes.size) (s.fn H (ds ++ gs)).results [])
    (ha : ∀ sp : Nat → Bool, (∀ p ∈ before, sp p.block = true) → DataW.TrodAll enc P W' 0 sp true f.params.toList args.toList (s.fn H (ds ++ gs)).args pa)
    (hv : ∀ sp : Nat → Bool, (∀ p ∈ before, sp p.block = true) → DataW.TrodVars enc P W' sp s.vars (s.fn H (ds ++ gs)).vars pv)
    (hp : before = pa ++ pv) (hB : Below W.heap.size W W')
    (ok : ∀ (j : Nat) (t : TypeId) (x : Value), f.resultTypes[j]? = some t → (v.resultList f.resultTypes.size)[j]? = some x → Value.okWide P W' .any 0 t x) :
    s.post enc P f apart fresh handsOn again W args v W' := by
  have lt : ∀ p ∈ before, p.block < W.heap.size := fun p h => hW.lt p h
  have old : ∀ p ∈ before, (fun b => decide (b < W.heap.size)) p.block = true := fun p h => decide_eq_true (lt p h)
  obtain ⟨_, _, _, _, _, hz, hn⟩ := id hW
  refine ⟨ds, gs, before, [], pa, pv, hW, r _ _ _, ha _ old, hv _ old, ?_, fun _ => ⟨ok, _, _, ([] ++ pa) ++ pv, ⟨[] ++ pa, pv, trodAll_append (ha _ (fun _ _ => rfl)) (r _ _ _), hv _ (fun _ _ => rfl), rfl, ?_, ?_⟩, ?_⟩⟩
  · refine World.keptBut_mono (fun p h => ⟨h, ?_⟩) (hB.frame (· ∈ before))
    rw [hp, List.mem_append] at h
    exact Or.inr h
  · intro b off h
    have hin : MemPlace.cell b off ∈ before := by rw [hp]; simpa using h
    rw [hB.frozen (lt _ hin)]
    exact hz b off hin
  · intro h
    have := hn h
    rw [hp] at this
    simpa using this
  · intro p h _
    rw [hp]
    simpa using h
end
end Go.Proofs.YtpekhdahamloaaaGreatDoor
