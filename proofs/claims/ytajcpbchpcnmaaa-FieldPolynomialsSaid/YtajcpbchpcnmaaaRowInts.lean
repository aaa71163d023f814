/- A slice of ints that came in, opened. -/
import Derived.Test.YtajcpbchpcnmaaaRow
import Derived.Test.YtajcpbchpcnmaaaFld
import Derived.ChangeOld
set_option linter.unusedVariables false
set_option linter.unusedSimpArgs false
namespace Go.Proofs.Ytajcpbchpcnmaaa
open Go.ChangeShapes Go.WideShapes Go.ChangeAt Go.RowKit

theorem laidOut : laidOutB Try.prog = true := by kernel_rfl

theorem ints_open {H : Type} {enc : TypeId × Value → H} {W : World} {v : Value} {d : DataW H} {p : List MemPlace} {base : Nat}
    (hok : Value.okWide Try.prog W .any base 38 v) (hj : DataW.Trod enc Try.prog W 0 (fun _ => true) true 38 v d p) :
    ∃ (a : Option Addr) (len cap : Nat) (zs : List Int), v = .slice a len cap ∧ IntsAt W (.slice a len cap) zs ∧ zs.length = len ∧ (len : Int) ≤ 9223372036854775807 ∧ ∀ z ∈ zs, (Lit.int .i64 z).wf = true := by
  obtain ⟨a, len, cap, rfl⟩ := okWide_slice Try.underlying38 hok
  obtain ⟨fuel, hf⟩ := hj
  rcases open_ints Try.underlying38 Try.underlying3 (by kernel_rfl) hf with ⟨hcs, _⟩ | ⟨x, l, c, zs, hcs, _, hl, hm, hz, _, hcell, hwz⟩
  · simp [Value.cells] at hcs
    obtain ⟨rfl, rfl, rfl⟩ := hcs
    exact ⟨none, 0, 0, [], rfl, .inl ⟨⟨none, 0, rfl⟩, rfl⟩, rfl, by decide, fun z hz => by cases hz⟩
  · simp [Value.cells] at hcs
    obtain ⟨rfl, rfl, rfl⟩ := hcs
    have hz' : zs.length = cap := by simpa using hz
    unfold maxLen at hm
    have hlt : (zs.take len).length = len := by rw [List.length_take]; omega
    refine ⟨some x, len, cap, zs.take len, rfl, ?_, hlt, by omega, fun z h => hwz z (List.mem_of_mem_take h)⟩
    rcases Nat.eq_zero_or_pos len with h0 | h0
    · subst h0
      exact .inl ⟨⟨_, _, rfl⟩, by simp⟩
    · obtain ⟨b, off, spot⟩ := x
      have hc0 := hcell 0 (by omega)
      have hspot : spot = none := by simpa [Addr.add] using World.cell?_spot hc0
      subst hspot
      have hb : b < W.heap.size := by
        have h1 : W.cell? ⟨b, off, none⟩ = some (.int .i64 (zs.getD 0 0)) := by simpa [Addr.add] using hc0
        rcases Nat.lt_or_ge b W.heap.size with h | h
        · exact h
        · exfalso
          have : W.heap[b]? = none := Array.getElem?_eq_none h
          simp [World.cell?, this] at h1
      refine .inr ⟨b, off, cap, by rw [hlt], by rw [hlt]; omega, hb, fun j hj => ?_⟩
      rw [hlt] at hj
      have h1 := hcell j (by omega)
      have h2 : (zs.take len)[j]?.getD 0 = zs.getD j 0 := by
        rw [List.getElem?_take_of_lt hj, List.getD_eq_getElem?_getD]
      rw [h2]
      by_cases hj0 : j = 0
      · subst hj0; simpa [Addr.add] using h1
      · simpa [Addr.add, hj0] using h1

end Go.Proofs.Ytajcpbchpcnmaaa
