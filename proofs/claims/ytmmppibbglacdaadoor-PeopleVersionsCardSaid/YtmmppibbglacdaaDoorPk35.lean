/- What a tied row of the hash laws has from its condition (both tables lie in memory), and its arguments opened: bytes. -/
import Derived.Test.YtmmppibbglacdaaDoorPk34
import Derived.Test.YtmmppibbglacdaaDoorPk9
import Derived.Test.YtmmppibbglacdaaDoorTie
import Derived.ChangeOld
import Derived.LaidMore
import Derived.ShutString
import Derived.Lib.LaidTab
import Derived.Stop.Joined
import Derived.SizedLaws
set_option linter.unusedVariables false
set_option linter.unusedSimpArgs false
namespace Go.Proofs.YtmmppibbglacdaaDoor
open Go.ChangeShapes Go.WideShapes Go.ChangeAt Go.RowKit

set_option maxRecDepth 100000 in
theorem laidOut : laidOutB Tryd.prog = true := by kernel_rfl

abbrev laidL : List (String × DataW Unit) := [("chartroom/digest.start", Rows.laid_chartroom_digest_start), ("chartroom/digest.numbers", Rows.laid_chartroom_digest_numbers)]
theorem gS : Tryd.prog.globalNamed "chartroom/digest.start" = some 0 := by kernel_rfl
theorem gN : Tryd.prog.globalNamed "chartroom/digest.numbers" = some 3 := by kernel_rfl
theorem tS : (Tryd.prog.globals[0]?).map (·.type) = some 125 := by kernel_rfl
theorem tN : (Tryd.prog.globals[3]?).map (·.type) = some 145 := by kernel_rfl

/-- The door's own heap meets the condition. -/
theorem door_met (os : Os) (args : Array Value) : laidMetH Tryd.prog laidL ((World.doorLaid Tryd.prog 19 os).forCall (fun _ _ => 0) ⟨#[], args, []⟩).memory :=
  laidMetH_of_parts3 (fuel := 8) (laidMet_of_run' 8 (by kernel_rfl) (by kernel_rfl)) (by kernel_rfl) (by kernel_rfl)

def zsOf : DataW Unit → List Int
  | .agg l => l.map fun | .lit (.int _ z) => z | _ => 0
  | _ => []
def startZ : List Int := zsOf Rows.laid_chartroom_digest_start
def numsZ : List Int := zsOf Rows.laid_chartroom_digest_numbers
theorem startD : (Rows.laid_chartroom_digest_start : DataW Unit) = Lib.tabData .u32 startZ := rfl
theorem numsD : (Rows.laid_chartroom_digest_numbers : DataW Unit) = Lib.tabData .u32 numsZ := rfl
theorem startW : startZ.length = 8 ∧ ∀ t, t < 8 → startZ.getD t 0 = ((Sha.init.out t).toNat : Int) := by
  refine ⟨rfl, ?_⟩
  have h : ∀ t : Fin 8, startZ.getD t.val 0 = ((Sha.init.out t.val).toNat : Int) := by decide +kernel
  exact fun t ht => h ⟨t, ht⟩
theorem numsW : numsZ.length = 64 ∧ ∀ t, t < 64 → numsZ.getD t 0 = ((Sha.K t).toNat : Int) := by
  refine ⟨rfl, ?_⟩
  have h : ∀ t : Fin 64, numsZ.getD t.val 0 = ((Sha.K t.val).toNat : Int) := by decide +kernel
  exact fun t ht => h ⟨t, ht⟩

theorem block_of_cell {w : World} {b o : Nat} {x : Value} (h : w.cell? ⟨b, o, none⟩ = some x) : b < w.heap.size := by
  rcases Nat.lt_or_ge b w.heap.size with h1 | h1
  · exact h1
  · exfalso
    have : w.heap[b]? = none := Array.getElem?_eq_none h1
    simp [World.cell?, this] at h

/-- What the condition gives the walks. -/
theorem tab_of_laid {W : World} (h : laidMetH Tryd.prog laidL W) : Tab W := by
  rw [MakeChecks.laidMetH_plain _ _ _ (by kernel_rfl)] at h
  obtain ⟨ps, ⟨g0, t0, cs0, f0, p0, q0, hg0, ht0, hv0, hd0, ⟨g1, t1, cs1, f1, p1, q1, hg1, ht1, hv1, hd1, _, _⟩, _⟩, _, _⟩ := h
  obtain rfl := Option.some.inj (gS.symm.trans hg0)
  obtain rfl := Option.some.inj (gN.symm.trans hg1)
  obtain rfl := Option.some.inj (tS.symm.trans ht0)
  obtain rfl := Option.some.inj (tN.symm.trans ht1)
  rw [startD] at hd0
  rw [numsD] at hd1
  have e0 := Lib.cells_of_tab Tryd.underlying125 Tryd.underlying124 (by kernel_rfl) (by kernel_rfl) hd0
  have e1 := Lib.cells_of_tab Tryd.underlying145 Tryd.underlying124 (by kernel_rfl) (by kernel_rfl) hd1
  have c0 : ∀ t, t < 8 → W.cell? ⟨0, t, none⟩ = some (vU (Sha.init.out t)) := by
    intro t ht
    have h1 := World.var?_cell hg0 hv0 t
    have h2 := startW.2 t ht
    have h3 : t < startZ.length := by rw [startW.1]; exact ht
    rw [List.getD_eq_getElem?_getD, List.getElem?_eq_getElem h3] at h2
    simp only [Option.getD_some] at h2
    rw [h1, ← Array.getElem?_toList, e0]
    simp [h3, h2, vU, U]
  have c1 : ∀ t, t < 64 → W.cell? ⟨3, t, none⟩ = some (vU (Sha.K t)) := by
    intro t ht
    have h1 := World.var?_cell hg1 hv1 t
    have h2 := numsW.2 t ht
    have h3 : t < numsZ.length := by rw [numsW.1]; exact ht
    rw [List.getD_eq_getElem?_getD, List.getElem?_eq_getElem h3] at h2
    simp only [Option.getD_some] at h2
    rw [h1, ← Array.getElem?_toList, e1]
    simp [h3, h2, vU, U]
  exact ⟨⟨block_of_cell (c1 0 (by decide)), c1⟩, ⟨block_of_cell (c0 0 (by decide)), c0⟩⟩

theorem vB_of {z : Int} (h : (Lit.int .u8 z).wf = true) : Value.int .u8 z = vB (UInt8.ofNat z.toNat) := by
  have hb := bounds_u8 h
  unfold vB
  congr 1
  simp
  omega

set_option maxRecDepth 100000 in
/-- A slice of bytes that came in, opened; it is shorter than what fits into memory. -/
theorem bytes_open {H : Type} {enc : TypeId × Value → H} {W : World} {v : Value} {d : DataW H} {p : List MemPlace} {base : Nat}
    (hok : Value.okWide Tryd.prog W .any base 42 v) (hj : DataW.Trod enc Tryd.prog W 0 (fun _ => true) true 42 v d p)
    (hs : ∀ elems spare, d = .slice elems spare → elems.length + spare.length ≤ reachBytes) :
    ∃ l : List UInt8, BytesAt W v l ∧ (∃ a cap, v = .slice a l.length cap) := by
  obtain ⟨a, len, cap, rfl⟩ := okWide_slice Tryd.underlying42 hok
  obtain ⟨fuel, hf⟩ := hj
  rcases open_ints Tryd.underlying42 Tryd.underlying5 (by kernel_rfl) hf with ⟨hcs, _⟩ | ⟨x, l, c, zs, hcs, _, hl, hm, hz, hx, hcell, hwz⟩
  · simp [Value.cells] at hcs
    obtain ⟨rfl, rfl, rfl⟩ := hcs
    exact ⟨[], .inl ⟨⟨none, 0, rfl, fun _ => rfl⟩, rfl⟩, none, 0, rfl⟩
  · simp [Value.cells] at hcs
    obtain ⟨rfl, rfl, rfl⟩ := hcs
    have hz' : zs.length = cap := by simpa using hz
    simp only [Prod.mk.injEq] at hx
    have hr := hs _ _ hx.1
    simp only [lits, List.length_map, List.length_take, List.length_drop] at hr
    unfold reachBytes at hr
    unfold maxLen at hm
    have hlt : ((zs.take len).map fun z => UInt8.ofNat z.toNat).length = len := by rw [List.length_map, List.length_take]; omega
    refine ⟨(zs.take len).map fun z => UInt8.ofNat z.toNat, ?_, some x, cap, by rw [hlt]⟩
    rcases Nat.eq_zero_or_pos len with h0 | h0
    · subst h0
      exact .inl ⟨⟨_, _, rfl, fun h => by cases h⟩, by simp⟩
    · obtain ⟨b, off, spot⟩ := x
      have hc0 := hcell 0 (by omega)
      have hspot : spot = none := by simpa [Addr.add] using World.cell?_spot hc0
      subst hspot
      have hb : b < W.heap.size := block_of_cell (show W.cell? ⟨b, off, none⟩ = some _ by simpa [Addr.add] using hc0)
      refine .inr ⟨b, off, cap, by rw [hlt], by rw [hlt]; omega, by omega, ⟨by rw [hlt]; omega, by omega⟩, hb, fun j hj => ?_⟩
      rw [hlt] at hj
      have h1 := hcell j (by omega)
      have h3 : j < zs.length := by omega
      have h2 : ((zs.take len).map fun z => UInt8.ofNat z.toNat).getD j 0 = UInt8.ofNat (zs.getD j 0).toNat := by
        rw [List.getD_eq_getElem?_getD, List.getElem?_map, List.getElem?_take_of_lt hj, List.getElem?_eq_getElem h3, List.getD_eq_getElem?_getD, List.getElem?_eq_getElem h3]
        rfl
      have h4 : (Lit.int .u8 (zs.getD j 0)).wf = true := by
        rw [List.getD_eq_getElem?_getD, List.getElem?_eq_getElem h3]
        exact hwz _ (List.getElem_mem h3)
      rw [h2, ← vB_of h4]
      by_cases hj0 : j = 0
      · subst hj0; simpa [Addr.add] using h1
      · simpa [Addr.add, hj0] using h1

#print axioms tab_of_laid
end Go.Proofs.YtmmppibbglacdaaDoor
