/- Package digest: Tagged. -/
import Derived.Test.YtpekhdahamloaaaGreatDoorPk8
import Derived.Test.YtpekhdahamloaaaGreatDoorPk6
import Derived.Lib.ConvBytes
import Derived.Deep.CutBlock
set_option linter.unusedVariables false
set_option linter.unusedSimpArgs false
namespace Go.Proofs.YtpekhdahamloaaaGreatDoor
open Go.RowKit

/-- the hash of bytes under a tag -/
def Sha.tagged (t m : List UInt8) : List UInt8 := Sha.sum (Sha.sum t ++ m)
theorem below_bytesWorld (W : World) (s : ByteArray) : Below W.heap.size W (Lib.bytesWorld W 5 s) :=
  ⟨rfl, rfl, rfl, by rw [Lib.bytesWorld_size]; omega, fun k hk => Lib.bytesWorld_at_old W _ s k hk⟩
theorem bytesAt_bytesWorld (W : World) (s : ByteArray) (hs : (s.size : Int) ≤ 140737488351232) : BytesAt (Lib.bytesWorld W 5 s) (.slice (some ⟨W.heap.size, 0, none⟩) s.size (grownCap W s.size 0 5)) s.data.toList := by
  have hl : s.data.toList.length = s.size := by simp
  by_cases h0 : s.size = 0
  · exact .inl ⟨⟨_, _, by rw [h0], fun h => by cases h⟩, List.length_eq_zero_iff.1 (by rw [hl]; exact h0)⟩
  · refine .inr ⟨W.heap.size, 0, grownCap W s.size 0 5, by rw [hl], by rw [hl]; exact grownCap_ge W s.size 0 _, by rw [hl]; omega, ⟨by rw [hl]; exact hs, ?_⟩, by rw [Lib.bytesWorld_size]; omega, fun j hj => ?_⟩
    · have := grownCap_le_maxLen W s.size 0 5 (by unfold maxLen; omega)
      unfold maxLen at this; omega
    · rw [hl] at hj
      rw [Nat.zero_add]
      exact Lib.bytesWorld_cell W _ s j hj
theorem convert_string (W : World) (s : ByteArray) : (convert 9 61 (.string s)).run Tryz.prog W = .ok (.slice (some ⟨W.heap.size, 0, none⟩) s.size (grownCap W s.size 0 5)) (Lib.bytesWorld W 5 s) :=
  Lib.run_convert_string_bytes W 9 61 5 s Tryz.underlying9 Tryz.underlying61 Tryz.underlying5
/-- an array of bytes, cut whole -/
theorem RowV.bytesAt {w : World} {B n : Nat} {T : TypeId} {l : List UInt8} (h : RowV w B T n (fun i => vB (l.getD i 0))) (hl : l.length = n) (h0 : 0 < n) (hn : n ≤ 1000) : BytesAt w (.slice (some ⟨B, 0, none⟩) n n) l :=
  .inr ⟨B, 0, n, by rw [hl], by omega, by omega, ⟨by omega, by omega⟩, h.lt, fun j hj => by rw [Nat.zero_add]; exact h.cell (by omega)⟩

set_option maxRecDepth 100000 in
set_option maxHeartbeats 2000000 in
theorem tagged_any (s : ByteArray) (v : Value) (m : List UInt8) (w : World) (hs : s.size ≤ 1000000) (hm : m.length ≤ 1000000) (hv : BytesAt w v m) (hT : Tab w) :
    Calls Tryz.prog 27 #[.string s, v] w fun e w' => e = .returned (digV (Sha.tagged s.data.toList m)) ∧ Below w.heap.size w w' := by
  have hcv := fun W => convert_string W s
  obtain ⟨va, vc, rfl⟩ := hv.slice
  have Hv := Lib.hid hv
  have HT := Lib.hid hT
  have Hs := Lib.hid (show (s.size : Int) ≤ 140737488351232 by omega)
  clear hv hT
  go_enter Tryz.func27, Tryz.ntmps27
  go_wp2_with fail
  change Calls _ _ #[.slice (some ⟨w.heap.size + 1, 0, none⟩) s.size (grownCap (w.alloc (.cells (rowF 32 fun _ => vB 0) 35)) s.size 0 5)] (Lib.bytesWorld (w.alloc (.cells (rowF 32 fun _ => vB 0) 35)) 5 s) _
  have R1 := RowV.new w 35 32 (fun _ => vB 0)
  have B1 : Below w.heap.size w (w.alloc (.cells (rowF 32 fun _ => vB 0) 35)) := (Below.refl _ _).alloc (Nat.le_refl _) _
  have e1 : (w.alloc (.cells (rowF 32 fun _ => vB 0) 35)).heap.size = w.heap.size + 1 := World.size_alloc _ _
  obtain ⟨w1, hw1⟩ : ∃ x, w.alloc (.cells (rowF 32 fun _ => vB 0) 35) = x := ⟨_, rfl⟩
  rw [hw1] at R1 B1 e1 ⊢
  have hb := bytesAt_bytesWorld w1 s Hs.out
  rw [e1] at hb
  have B2 := B1.trans ((below_bytesWorld w1 s).mono B1.size)
  have R2 := R1.below (below_bytesWorld w1 s)
  refine (sum_any _ s.data.toList _ hb (HT.out.below B2)).mono ?_
  rintro e w3 ⟨rfl, b3⟩
  have B3 := B2.trans (b3.mono B2.size)
  have R3 := R2.below b3
  clear b3 B2 R2 hb e1 B1 R1 hw1
  obtain ⟨bd, hbd⟩ : ∃ x, w.heap.size = x := ⟨_, rfl⟩
  rw [hbd] at R3 B3 ⊢
  have Hbd := Lib.hid hbd
  have R4 := Lib.hid (RowV.new w3 35 32 (fun _ => vB 0))
  have R3' := Lib.hid (R3.alloc (.cells (rowF 32 fun _ => vB 0) 35))
  have B4 := Lib.hid (B3.alloc (Nat.le_of_lt R3.lt) (.cells (rowF 32 fun _ => vB 0) 35))
  have hne : bd < w3.heap.size := R3.lt
  clear B3 R3 hbd
  go_wp2_with (first
    | (refine wpList_store_rowV (o := ⟨none, .store 35 (.tmp 5) (.tmp 8), _, _, _, _⟩) rfl 35 (.tmp 5) (.tmp 8) rfl w3.heap.size rfl 32 35 _ _ rfl R4.out (by kernel_rfl) (fun _ _ => rfl) ?_; intro w5 R5 O5))
  have b4 : BytesAt w5 (.slice va m.length vc) m := by
    have h0 : Below w.heap.size w (w3.alloc (.cells (rowF 32 fun _ => vB 0) 35)) := by rw [Hbd.out]; exact B4.out
    refine Hv.out.below (h0.trans (O5.out.below ?_ ?_))
    · rw [Hbd.out]; exact Nat.le_of_lt hne
    · exact h0.size
  have b5 : BytesAt w5 (.slice (some ⟨w3.heap.size, 0, none⟩) 32 32) (Sha.sum s.data.toList) := RowV.bytesAt R5.out (Sha.sum_len _) (by decide) (by decide)
  have B5 : Below bd w w5 := B4.out.trans (O5.out.below (Nat.le_of_lt hne) (by rw [World.size_alloc]; omega))
  have R6 : RowV w5 bd 35 32 (fun _ => vB 0) := O5.out.row (by omega) R3'.out
  have hal := Below.alloc (Below.refl _ w5) (Nat.le_refl _) (.cells #[.slice (some ⟨w3.heap.size, 0, none⟩) 32 32, .slice va m.length vc] 61)
  have hcat := concat_any [Sha.sum s.data.toList, m] (fun i => if i = 0 then .slice (some ⟨w3.heap.size, 0, none⟩) 32 32 else .slice va m.length vc) w5.heap.size 2 61
    (w5.alloc (.cells #[.slice (some ⟨w3.heap.size, 0, none⟩) 32 32, .slice va m.length vc] 61)) (RowV.new w5 61 2 (fun i => if i = 0 then .slice (some ⟨w3.heap.size, 0, none⟩) 32 32 else .slice va m.length vc))
    (fun i hi => by
      match i, hi with
      | 0, _ => exact b5.below hal
      | 1, _ => exact b4.below hal) (by simp) (by
        have := Sha.sum_len s.data.toList
        simp only [List.flatten_cons, List.flatten_nil, List.append_nil, List.length_append]; omega)
  rw [show [Sha.sum s.data.toList, m].flatten = Sha.sum s.data.toList ++ m by simp] at hcat
  refine (hcat).mono ?_
  rintro e w7 ⟨⟨u, rfl, O7⟩, B7⟩
  have B6 := B5.alloc (by have := R6.lt; omega) (.cells #[.slice (some ⟨w3.heap.size, 0, none⟩) 32 32, .slice va m.length vc] 61)
  have R7 := (R6.alloc (.cells #[.slice (some ⟨w3.heap.size, 0, none⟩) 32 32, .slice va m.length vc] 61)).below B7
  have B8 := B6.trans (B7.mono (by rw [World.size_alloc]; have := R6.lt; omega))
  have hby := O7.bytesAt (by have := Sha.sum_len s.data.toList; rw [List.length_append]; omega)
  have hTab : Tab w7 := HT.out.below (by rw [Hbd.out]; exact B8)
  have Hsum := Lib.hid (sum_any u _ w7 hby hTab)
  have HR := Lib.hid R7
  have HB := Lib.hid B8
  clear R7 B8 hby hTab B6 hcat hal b4 b5 B5 R6 O7 B7 R5 O5 R4 R3' B4 hne
  go_wp2_with fail
  refine (Hsum.out).mono ?_
  rintro e w8 ⟨rfl, b8⟩
  have R8 := Lib.hid (HR.out.below b8)
  have B9 := Lib.hid (HB.out.trans (b8.mono (Nat.le_of_lt HR.out.lt)))
  clear b8
  go_wp2_with (first
    | (refine wpList_store_rowV (o := ⟨none, .store 35 (.tmp 4) (.tmp 13), _, _, _, _⟩) rfl 35 (.tmp 4) (.tmp 13) rfl bd rfl 32 35 _ _ rfl R8.out (by kernel_rfl) (fun _ _ => rfl) ?_; intro w9 R9 O9))
  refine bodyPost_ret (v := digV (Sha.tagged s.data.toList m)) (results_rowV rfl _ _ bd 32 35 _ _ rfl R9.out Tryz.underlying35 rfl (by kernel_rfl)) rfl ⟨rfl, ?_⟩
  rw [Hbd.out]
  exact B9.out.trans (O9.out.below (Nat.le_refl _) (Nat.le_of_lt R8.out.lt))
end Go.Proofs.YtpekhdahamloaaaGreatDoor
