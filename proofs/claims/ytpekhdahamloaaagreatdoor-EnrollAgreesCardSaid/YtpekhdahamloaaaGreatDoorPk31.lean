/- Digests: compared, and opened as arguments; points are elements other than 1. -/
import Derived.Test.YtpekhdahamloaaaGreatDoorPk22
import Derived.Test.YtpekhdahamloaaaGreatDoorPk20
import Derived.Test.YtpekhdahamloaaaGreatDoorPk30
import Derived.Stop.BytesEq
import Derived.OpenShut
set_option linter.unusedVariables false
set_option linter.unusedSimpArgs false
namespace Go.Proofs.YtpekhdahamloaaaGreatDoor
open Go.ChangeShapes Go.WideShapes Go.ChangeAt Go.RowKit

theorem pointM_El (t m : List UInt8) : El (pointM t m) := El.square (by have := pointX_bd t m; omega) (by have := pointX_bd t m; omega)
theorem digV_cells {l : List UInt8} (h : l.length = 32) : digV l = .agg (l.map Extern.Stop.cell).toArray := by
  unfold digV rowF
  congr 2
  apply List.ext_getElem
  · simp [h]
  · intro i h1 h2
    have h3 : i < l.length := by simpa using h2
    simp [List.getD_eq_getElem?_getD, h3, vB, Extern.Stop.cell]

section
variable (w : World)
theorem eql_dig (t : TypeId) (ht : Tryz.prog.underlying t = some (.array 32 5)) {l m : List UInt8} (hl : l.length = 32) (hm : m.length = 32) :
    (binOp .eql t (digV l) (digV m)).run Tryz.prog w = .ok (.bool (l == m)) w := by
  rw [digV_cells hl, digV_cells hm]
  exact run_eql_bytes w t 5 32 ht Tryz.underlying5 (fun w => by kernel_rfl) l m hl hm
theorem neq_dig (t : TypeId) (ht : Tryz.prog.underlying t = some (.array 32 5)) {l m : List UInt8} (hl : l.length = 32) (hm : m.length = 32) :
    (binOp .neq t (digV l) (digV m)).run Tryz.prog w = .ok (.bool (!(l == m))) w := by
  rw [digV_cells hl, digV_cells hm, run_neq_struct, run_equalIn_bytes w 9998 t 5 32 ht Tryz.underlying5 (fun w => by kernel_rfl) l m hl hm]
  rfl
theorem guard_dig (op : BinOp) (t : TypeId) (x y : Operand) (l m : List UInt8) (hm : Tryz.prog.eqGuardType Tryz.prog.depth t = false) : (eqGuard op t x y (digV l) (digV m)).run Tryz.prog w = .ok () w := by
  unfold digV; exact run_eqGuard_agg w op t x y _ _ hm
end

set_option maxRecDepth 100000 in
/-- A digest that came in. -/
theorem digest_open {H : Type} {enc : TypeId × Value → H} {W : World} {v : Value} {d : DataW H} {p : List MemPlace} {base : Nat}
    (hok : Value.okWide Tryz.prog W .any base 35 v) (hj : DataW.Trod enc Tryz.prog W 0 (fun _ => true) true 35 v d p) :
    ∃ l : List UInt8, l.length = 32 ∧ v = digV l := by
  have hu : Tryz.prog.underlying 35 = some (.array 32 5) := Tryz.underlying35
  have hc : Tryz.prog.cellsOf 35 = 32 := by kernel_rfl
  have hc1 : Tryz.prog.cellsOf 5 = 1 := by kernel_rfl
  simp only [Value.okWide, hu] at hok
  obtain ⟨cs, rfl, hcs, _⟩ := hok
  rw [hc] at hcs
  obtain ⟨fuel, hf⟩ := hj
  obtain ⟨xs, m, rfl, _, _, hn, hel⟩ := DataW.trod_array hu hf
  have each : ∀ i, i < 32 → ∃ z, cs[i]? = some (.int .u8 z) ∧ (Lit.int .u8 z).wf = true := by
    intro i hi
    have h1 := hel i hi
    rw [List.getElem?_eq_getElem (by omega)] at h1
    obtain ⟨z, e1, _, e3⟩ := DataW.trod_int Tryz.underlying5 h1
    refine ⟨z, ?_, e3⟩
    have e4 := congrArg (·[0]?) e1
    rw [hc1] at e4
    simpa [Value.cells, List.getElem?_take, List.getElem?_drop] using e4
  refine ⟨(List.range 32).map fun (i : Nat) => match (cs[i]? : Option Value) with | some (Value.int _ z) => UInt8.ofNat z.toNat | _ => 0, by simp, ?_⟩
  unfold digV
  congr 1
  apply Array.ext_getElem?
  intro i
  by_cases hi : i < 32
  · obtain ⟨z, e1, e2⟩ := each i hi
    rw [e1, rowF_get hi, vB_of e2]
    congr 2
    simp [List.getD_eq_getElem?_getD, hi, e1]
  · rw [Array.getElem?_eq_none (by omega), Array.getElem?_eq_none (by rw [rowF_size]; omega)]

#print axioms digest_open
end Go.Proofs.YtpekhdahamloaaaGreatDoor
