/- Digests: compared, and opened as arguments; points are elements other than 1. -/
import Derived.Test.YtmmppibbglacdaaGreatDoorPk25
import Derived.Test.YtmmppibbglacdaaGreatDoorPk17
import Derived.Test.YtmmppibbglacdaaGreatDoorPk34
import Derived.Stop.BytesEq
import Derived.OpenShut
set_option linter.unusedVariables false
set_option linter.unusedSimpArgs false
namespace Go.Proofs.YtmmppibbglacdaaGreatDoor
open Go.ChangeShapes Go.WideShapes Go.ChangeAt Go.RowKit

section
variable (w : World)
end

set_option maxRecDepth 100000 in
/-- A digest that came in. -/
theorem digest_open {H : Type} {enc : TypeId × Value → H} {W : World} {v : Value} {d : DataW H} {p : List MemPlace} {base : Nat}
    (hok : Value.okWide Tryz.prog W .any base 95 v) (hj : DataW.Trod enc Tryz.prog W 0 (fun _ => true) true 95 v d p) :
    ∃ l : List UInt8, l.length = 32 ∧ v = digV l := by
  have hu : Tryz.prog.underlying 95 = some (.array 32 5) := Tryz.underlying95
  have hc : Tryz.prog.cellsOf 95 = 32 := by kernel_rfl
  have hc1 : Tryz.prog.cellsOf 5 = 1 := by kernel_rfl
  simp only [Value.okWide, hu] at hok
  obtain ⟨cs, rfl, hcs, _⟩ := hok
  rw [hc] at hcs
  obtain ⟨fuel, hf⟩ := hj
  obtain ⟨xs, m, rfl, _, _, hn, hel⟩ := DataW.trod_array hu hf
  have each : ∀ i, i < 32 → ∃ z, cs[i]? = some (.int .u8 z) ∧ (Lit.int .u8 z).wf = true := by
    intro i hi
    have h1 := hel i hi
    rw [List.getElem?_eq_getElem (by omega)] at h1
    obtain ⟨z, e1, _, e3⟩ := DataW.trod_int Tryz.underlying5 h1
    refine ⟨z, ?_, e3⟩
    have e4 := congrArg (·[0]?) e1
    rw [hc1] at e4
    simpa [Value.cells, List.getElem?_take, List.getElem?_drop] using e4
  refine ⟨(List.range 32).map fun (i : Nat) => match (cs[i]? : Option Value) with | some (Value.int _ z) => UInt8.ofNat z.toNat | _ => 0, by simp, ?_⟩
  unfold digV
  congr 1
  apply Array.ext_getElem?
  intro i
  by_cases hi : i < 32
  · obtain ⟨z, e1, e2⟩ := each i hi
    rw [e1, rowF_get hi, vB_of e2]
    congr 2
    simp [List.getD_eq_getElem?_getD, hi, e1]
  · rw [Array.getElem?_eq_none (by omega), Array.getElem?_eq_none (by rw [rowF_size]; omega)]

#print axioms digest_open
end Go.Proofs.YtmmppibbglacdaaGreatDoor
