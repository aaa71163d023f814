/- The reference's SHA-256: numbers, block. -/
import Derived.Test.YtmmppibbglacdaaDoorPk3
import Derived.Test.YtmmppibbglacdaaDoorPk4
import Derived.Test.YtmmppibbglacdaaDoorPk5
set_option linter.unusedVariables false
set_option linter.unusedSimpArgs false
namespace Go.Proofs.YtmmppibbglacdaaDoor
open Go.RowKit
open Sha (Wd St)

section
variable {P : Program} {w : World} {ops : Array Oper} {rest : List Oper} {o : Oper} {a : Act} {Q : Exit → Act → World → Prop}
/-- an operation whose value is known by reckoning -/
theorem wpList_value (hgd : o.guard = none) (v : Value) (hr : (execOp a.eval o).run P w = .ok (.value v) w) (h : wpList P ops Q rest (a.put o.dst v) w) : wpList P ops Q (o :: rest) a w := by
  refine wpList_plain hgd fun K hK => ?_
  unfold Oper.wp
  rw [hr]
  exact hK _ _ h
/-- an array written whole, its cells written out -/
theorem wpList_store_cells (hgd : o.guard = none) (ty : TypeId) (x y : Operand) (ho : o.op = .store ty x y) (g : Nat) (hx : a.eval x = .pointer (some ⟨g, 0, none⟩)) (N : Nat) (T : TypeId) (f f' : Nat → Value) (cs : Array Value) (hy : a.eval y = .agg cs) (hcs : cs = rowF N f')
    (hrow : RowV w g T N f) (hi : (P.info? ty).map (·.size) = some N) (h1 : ∀ j, j < N → (f' j).oneCell' = true)
    (h : ∀ w', Hid (RowV w' g T N f') → Hid (OnlyB g w w') → wpList P ops Q rest (a.put o.dst undef) w') : wpList P ops Q (o :: rest) a w :=
  wpList_store_rowV hgd ty x y ho g hx N T f f' (hcs ▸ hy) hrow hi h1 h
end
theorem plus_row (s r : St) : #[vU (s.a + r.a), vU (s.b + r.b), vU (s.c + r.c), vU (s.d + r.d), vU (s.e + r.e), vU (s.f + r.f), vU (s.g + r.g), vU (s.h + r.h)] = rowF 8 (fun i => vU ((Sha.plus s r).out i)) := by
  rw [rowF_congr (g' := fun i => vU (s.out i + r.out i)) (fun i hi => by rw [St.out_plus s r i hi])]
  rfl


/-- the reference's block: t words of the schedule reckoned -/
def RefI (c : Nat → UInt8) (s : St) (w : World) (B bw t : Nat) (wx : World) : Prop :=
  RowV wx bw 145 64 (schedRow c t) ∧ RowV wx B 125 8 (fun i => vU (s.out i)) ∧ RowV wx (B + 1) 125 8 (fun _ => vU 0) ∧ Below B w wx ∧ B + 1 < bw
theorem RefI.step {c : Nat → UInt8} {s : St} {w wx : World} {B bw t : Nat} (h : RefI c s w B bw t wx) {x : Wd} (hx : x = Sha.sched (Sha.wordsC c) t) : RefI c s w B bw (t + 1) (wx.setCell ⟨bw, t, none⟩ (vU x)) := by
  obtain ⟨h1, h2, h3, h4, h5⟩ := h
  refine ⟨h1.put fun i _ => ?_, h2.other (a := ⟨bw, t, none⟩) (show B ≠ bw by omega) _, h3.other (a := ⟨bw, t, none⟩) (show B + 1 ≠ bw by omega) _, h4.setCell (p := ⟨bw, t, none⟩) (show B ≤ bw by omega) _, h5⟩
  subst hx
  unfold schedRow
  by_cases hi : i = t
  · subst hi; rw [if_pos rfl, if_pos (by omega)]
  · rw [if_neg hi]
    by_cases h2 : i < t
    · rw [if_pos h2, if_pos (by omega)]
    · rw [if_neg h2, if_neg (by omega)]
theorem RefI.drewN {c : Nat → UInt8} {s : St} {w wx : World} {B bw t : Nat} (h : RefI c s w B bw t wx) (n : Nat) : RefI c s w B bw t (wx.drewN n) := ⟨h.1, h.2.1, h.2.2.1, ⟨h.2.2.2.1.os, h.2.2.2.1.tape, h.2.2.2.1.output, h.2.2.2.1.size, h.2.2.2.1.block⟩, h.2.2.2.2⟩
theorem RefI.cell {c : Nat → UInt8} {s : St} {w wx : World} {B bw t i : Nat} (h : RefI c s w B bw t wx) (hi : i < t) (ht : t ≤ 64) : wx.cell? ⟨bw, i, none⟩ = some (vU (Sha.sched (Sha.wordsC c) i)) := by
  rw [h.1.cell (by omega)]; unfold schedRow; rw [if_pos hi]

end Go.Proofs.YtmmppibbglacdaaDoor
