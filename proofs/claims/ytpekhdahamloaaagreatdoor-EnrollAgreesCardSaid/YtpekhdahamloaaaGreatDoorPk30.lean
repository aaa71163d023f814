/- What a tied row of the hash laws has from its condition (both tables lie in memory), and its arguments opened: bytes. -/
import Derived.Test.YtpekhdahamloaaaGreatDoorPk29
import Derived.Test.YtpekhdahamloaaaGreatDoorPk8
import Derived.Test.YtpekhdahamloaaaGreatDoorTie
import Derived.ChangeOld
import Derived.LaidMore
import Derived.ShutString
import Derived.Lib.LaidTab
import Derived.Stop.Joined
import Derived.SizedLaws
set_option linter.unusedVariables false
set_option linter.unusedSimpArgs false
namespace Go.Proofs.YtpekhdahamloaaaGreatDoor
open Go.ChangeShapes Go.WideShapes Go.ChangeAt Go.RowKit

abbrev laidL : List (String × DataW Unit) := [("chartroom/digest.start", Rows.laid_chartroom_digest_start), ("chartroom/digest.numbers", Rows.laid_chartroom_digest_numbers)]
theorem gS : Tryz.prog.globalNamed "chartroom/digest.start" = some 1 := by kernel_rfl
theorem gN : Tryz.prog.globalNamed "chartroom/digest.numbers" = some 2 := by kernel_rfl
theorem tS : (Tryz.prog.globals[1]?).map (·.type) = some 162 := by kernel_rfl
theorem tN : (Tryz.prog.globals[2]?).map (·.type) = some 199 := by kernel_rfl

def zsOf : DataW Unit → List Int
  | .agg l => l.map fun | .lit (.int _ z) => z | _ => 0
  | _ => []
def startZ : List Int := zsOf Rows.laid_chartroom_digest_start
def numsZ : List Int := zsOf Rows.laid_chartroom_digest_numbers
theorem startD : (Rows.laid_chartroom_digest_start : DataW Unit) = Lib.tabData .u32 startZ := rfl
theorem numsD : (Rows.laid_chartroom_digest_numbers : DataW Unit) = Lib.tabData .u32 numsZ := rfl
theorem startW : startZ.length = 8 ∧ ∀ t, t < 8 → startZ.getD t 0 = ((Sha.init.out t).toNat : Int) := by
  refine ⟨rfl, ?_⟩
  have h : ∀ t : Fin 8, startZ.getD t.val 0 = ((Sha.init.out t.val).toNat : Int) := by decide +kernel
  exact fun t ht => h ⟨t, ht⟩
theorem numsW : numsZ.length = 64 ∧ ∀ t, t < 64 → numsZ.getD t 0 = ((Sha.K t).toNat : Int) := by
  refine ⟨rfl, ?_⟩
  have h : ∀ t : Fin 64, numsZ.getD t.val 0 = ((Sha.K t.val).toNat : Int) := by decide +kernel
  exact fun t ht => h ⟨t, ht⟩

theorem block_of_cell {w : World} {b o : Nat} {x : Value} (h : w.cell? ⟨b, o, none⟩ = some x) : b < w.heap.size := by
  rcases Nat.lt_or_ge b w.heap.size with h1 | h1
  · exact h1
  · exfalso
    have : w.heap[b]? = none := Array.getElem?_eq_none h1
    simp [World.cell?, this] at h

/-- What the condition gives the walks. -/
theorem tab_of_laid {W : World} (h : laidMetH Tryz.prog laidL W) : Tab W := by
  rw [MakeChecks.laidMetH_plain _ _ _ (by kernel_rfl)] at h
  obtain ⟨ps, ⟨g0, t0, cs0, f0, p0, q0, hg0, ht0, hv0, hd0, ⟨g1, t1, cs1, f1, p1, q1, hg1, ht1, hv1, hd1, _, _⟩, _⟩, _, _⟩ := h
  obtain rfl := Option.some.inj (gS.symm.trans hg0)
  obtain rfl := Option.some.inj (gN.symm.trans hg1)
  obtain rfl := Option.some.inj (tS.symm.trans ht0)
  obtain rfl := Option.some.inj (tN.symm.trans ht1)
  rw [startD] at hd0
  rw [numsD] at hd1
  have e0 := Lib.cells_of_tab Tryz.underlying162 Tryz.underlying161 (by kernel_rfl) (by kernel_rfl) hd0
  have e1 := Lib.cells_of_tab Tryz.underlying199 Tryz.underlying161 (by kernel_rfl) (by kernel_rfl) hd1
  have c0 : ∀ t, t < 8 → W.cell? ⟨1, t, none⟩ = some (vU (Sha.init.out t)) := by
    intro t ht
    have h1 := World.var?_cell hg0 hv0 t
    have h2 := startW.2 t ht
    have h3 : t < startZ.length := by rw [startW.1]; exact ht
    rw [List.getD_eq_getElem?_getD, List.getElem?_eq_getElem h3] at h2
    simp only [Option.getD_some] at h2
    rw [h1, ← Array.getElem?_toList, e0]
    simp [h3, h2, vU, U]
  have c1 : ∀ t, t < 64 → W.cell? ⟨2, t, none⟩ = some (vU (Sha.K t)) := by
    intro t ht
    have h1 := World.var?_cell hg1 hv1 t
    have h2 := numsW.2 t ht
    have h3 : t < numsZ.length := by rw [numsW.1]; exact ht
    rw [List.getD_eq_getElem?_getD, List.getElem?_eq_getElem h3] at h2
    simp only [Option.getD_some] at h2
    rw [h1, ← Array.getElem?_toList, e1]
    simp [h3, h2, vU, U]
  exact ⟨⟨block_of_cell (c1 0 (by decide)), c1⟩, ⟨block_of_cell (c0 0 (by decide)), c0⟩⟩

theorem vB_of {z : Int} (h : (Lit.int .u8 z).wf = true) : Value.int .u8 z = vB (UInt8.ofNat z.toNat) := by
  have hb := bounds_u8 h
  unfold vB
  congr 1
  simp
  omega

#print axioms tab_of_laid
end Go.Proofs.YtpekhdahamloaaaGreatDoor
