/- The reference's padding, Sum, Tagged. The reference's Sum and Tagged. -/
import Derived.Test.YtmmppibbglacdaaDoorPk6
import Derived.Test.YtmmppibbglacdaaDoorPk10
set_option linter.unusedVariables false
set_option linter.unusedSimpArgs false
namespace Go.Proofs.YtmmppibbglacdaaDoor
open Go.RowKit
open Sha (Wd St)

theorem Owns.alloc {w : World} {base : Nat} {v : Value} {l : List UInt8} (h : Owns w base v l) (o : Obj) : Owns (w.alloc o) base v l := h.below (Below.alloc (Below.refl _ _) (Nat.le_refl _) o)
theorem Owns.empty (w : World) {base : Nat} (hb : base ≤ w.heap.size) : Owns (w.alloc (.cells #[] 5)) base (.slice (some ⟨w.heap.size, 0, none⟩) 0 0) [] :=
  World.ownsRow_made w #[] 0 hb (by unfold maxLen; omega) rfl
theorem one_byte (w : World) (x : UInt8) : BytesAt (w.alloc (.cells #[vB x] 5)) (.slice (some ⟨w.heap.size, 0, none⟩) 1 1) [x] :=
  RowV.bytesAt (l := [x]) (RowV.new w 5 1 (fun i => vB ([x].getD i 0))) rfl (by decide) (by decide)

/-- the message, the mark, k noughts -/
def padZ (m : List UInt8) (k : Nat) : List UInt8 := m ++ 0x80 :: List.replicate k 0
theorem padZ_len (m : List UInt8) (k : Nat) : (padZ m k).length = m.length + 1 + k := by simp [padZ]; omega
theorem padZ_step (m : List UInt8) (k : Nat) : padZ m k ++ [0] = padZ m (k + 1) := by simp [padZ, List.replicate_succ']
theorem pad_is (m : List UInt8) : padZ m (Sha.zeros m.length) ++ Sha.be8 (m.length * 8 % 2 ^ 64) = Sha.pad m := by simp [padZ, Sha.pad]
theorem be8_step (n : Nat) {k : Nat} (h : k < 8) : (Sha.be8 n).take k ++ [byteOfN n (7 - k)] = (Sha.be8 n).take (k + 1) := by
  rw [List.take_succ_eq_append_getElem (by simpa [Sha.be8] using h)]
  congr 2
  have := Sha.be8_get n h
  obtain ⟨_, h2⟩ := List.getElem?_eq_some_iff.1 this
  rw [h2]; rfl

end Go.Proofs.YtmmppibbglacdaaDoor

namespace Go.Proofs.YtmmppibbglacdaaDoor
open Go.RowKit
open Sha (Wd St)

theorem Owns.at {w : World} {base : Nat} {v : Value} {l : List UInt8} (h : Owns w base v l) (h0 : 0 < l.length) :
    ∃ g cap : Nat, v = .slice (some ⟨g, 0, none⟩) l.length cap ∧ base ≤ g ∧ g < w.heap.size ∧ l.length ≤ cap ∧ (cap : Int) ≤ 9223372036854775807 ∧ ∀ j, j < l.length → w.cell? ⟨g, j, none⟩ = some (vB (l.getD j 0)) := by
  obtain ⟨h1, h2⟩ := h
  rcases h2 with ⟨rfl, h3⟩ | ⟨g, cap, cur, rfl, hb, hg, hle, hm, hs, ht⟩
  · omega
  · refine ⟨g, cap, rfl, hb, (Array.getElem?_eq_some_iff.1 hg).1, hle, by unfold maxLen at hm; omega, fun j hj => ?_⟩
    have h := World.ownsRow.cellAt (w := w) (base := base) (e := 5) (size := 1) (g := g) (cap := cap) (n := l.length) (xs := l.map vB) ⟨h1, .inr ⟨g, cap, cur, rfl, hb, hg, hle, hm, hs, ht⟩⟩ j (by omega)
    rw [h]
    simp [List.getD_eq_getElem?_getD, List.getElem?_eq_getElem hj]

/-- i blocks done by the reference -/
def RSum (m : List UInt8) (w : World) (bd bs g L i : Nat) (wx : World) : Prop :=
  RowV wx bs 125 8 (fun j => vU ((Sha.blocksF (padF m) Sha.init i).out j)) ∧ RowV wx bd 79 32 (fun _ => vB 0) ∧ Below bd w wx ∧ (g < wx.heap.size ∧ ∀ j, j < L → wx.cell? ⟨g, j, none⟩ = some (vB (padF m j)))
/-- byte i of the hash, as long as k are done -/
def refOut (S : St) (k j : Nat) : Value := vB (if j < k then Sha.byteOf (S.out (j / 4)) (j % 4) else 0)


end Go.Proofs.YtmmppibbglacdaaDoor
