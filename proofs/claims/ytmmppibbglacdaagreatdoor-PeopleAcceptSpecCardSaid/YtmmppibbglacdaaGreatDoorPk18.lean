/- Further words on package group at elements, and small helps of the walk, that the later layers share. -/
import Derived.Test.YtmmppibbglacdaaGreatDoorPk17
import Derived.Test.YtmmppibbglacdaaGreatDoorPk4
import Derived.Laws.ResultCell
import Derived.IntWalk
set_option linter.unusedVariables false
set_option linter.unusedSimpArgs false
namespace Go.Proofs.YtmmppibbglacdaaGreatDoor
open Go.RowKit
theorem El4 : El 4 := El.square (x := 2) (by decide) (by decide)
/-- the contracts of package group's reference, at elements -/
theorem gexpV_el {a k : Nat} (ha : El a) (hk : k < 2305843009213688669) : gexpV (a : Int) (k : Int) = ((powP a k : Nat) : Int) := by
  unfold gexpV; rw [elemB_El ha, scalB_of hk]; rfl
theorem gmulV_el {a b : Nat} (ha : El a) (hb : El b) : gmulV (a : Int) (b : Int) = ((mulP a b : Nat) : Int) := by
  unfold gmulV; rw [elemB_El ha, elemB_El hb]; rfl
theorem gexpV4 {k : Nat} (hk : k < 2305843009213688669) : gexpV 4 (k : Int) = ((powP 4 k : Nat) : Int) := gexpV_el El4 hk
theorem of_same {f : FuncId} {args : Array Value} {W : World} {v : Value} (h : Calls Tryz.prog f args W fun e w' => e = .returned v ∧ W = w') : Calls Tryz.prog f args W fun e w' => e = .returned v ∧ Below W.heap.size W w' :=
  h.mono fun _ _ ⟨h1, h2⟩ => ⟨h1, h2 ▸ Below.refl _ _⟩
/-- an array or a struct, and a word, that are the results -/
theorem results_rowV2 {P : Program} {fn : Func} {p u : Tmp} {ty : TypeId} (h : fn.results = #[.cell p ty, .tmp u]) (tmps : Array Value) (w : World) (g N : Nat) (T : TypeId) (f : Nat → Value) (d : TypeDesc)
    (hp : tmps.getD p undef = .pointer (some ⟨g, 0, none⟩)) (hrow : RowV w g T N f)
    (hu : P.underlying ty = some d) (hd : (match d with | .struct _ | .array _ _ => true | _ => false) = true) (hi : (P.info? ty).map (·.size) = some N) :
    (results fn tmps).run P w = .ok (.tuple #[.agg (rowF N f), tmps.getD u undef]) w := by
  rw [results_cell_tmp h, hp]
  simp [asAddr, run_loadVar_row w g T ty (rowF N f) (0, 0) d hrow hu hd (by rw [rowF_size]; exact hi)]
/-- a guarded operation whose guard is met -/
theorem wpList_unguard {P : Program} {ops : Array Oper} {Q : Exit → Act → World → Prop} {a : Act} {w : World} {rest : List Oper} {o : Oper} (hw : Region.wanted o (yielded ops a.tmps) = true)
    (h : wpList P ops Q ({ o with guard := none } :: rest) a w) : wpList P ops Q (o :: rest) a w := by
  unfold wpList at h ⊢
  rw [if_pos hw]
  rw [if_pos (show Region.wanted { o with guard := none } (yielded ops a.tmps) = true from rfl)] at h
  exact h
end Go.Proofs.YtmmppibbglacdaaGreatDoor
