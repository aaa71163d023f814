/- eight, of package pake and of its reference. -/
import Derived.Test.YtdcpejfnhegdaaaDoorRefPad
import Derived.ArgAppend
set_option linter.unusedVariables false
set_option linter.unusedSimpArgs false
namespace Go.Proofs.YtdcpejfnhegdaaaDoor
open Go.RowKit

theorem be8_len (n : Nat) : (Sha.be8 n).length = 8 := rfl
theorem be8_take (n : Nat) : (Sha.be8 n).take 8 = Sha.be8 n := by rw [List.take_of_length_le (by rw [be8_len]; exact Nat.le_refl _)]

set_option maxRecDepth 100000 in
set_option maxHeartbeats 2000000 in
theorem eight_any (n : Nat) (hn : n < 9223372036854775808) (w : World) :
    Calls Tryd.prog 54 #[.int .i64 (n : Int)] w fun e w' => (∃ u, e = .returned u ∧ Owns w' w.heap.size u (Sha.be8 n)) ∧ Below w.heap.size w w' := by
  have Hn := Lib.hid hn
  have P0 : Hid (Owns w w.heap.size (.slice none 0 0) ((Sha.be8 n).take 0)) := Lib.hid (Owns.nil w _)
  have B0 := Lib.hid (Below.refl w.heap.size w)
  clear hn
  go_enter Tryd.func54, Tryd.ntmps54
  go_wp2_with fail
  go_loopg [2, 4] 8 (fun g s2 s4 wx => ∃ (k : Nat) (u : Value), k + g = 8 ∧ s4 = .int .i64 (k : Int) ∧ s2 = u ∧ Hid (Owns wx w.heap.size u ((Sha.be8 n).take k)) ∧ Hid (Below w.heap.size w wx))
  case atStart => exact ⟨0, _, by omega, rfl, rfl, P0, B0⟩
  case round =>
    clear P0 B0
    obtain ⟨k, u, hk, rfl, e2, hO, hB⟩ := hrel
    obtain rfl : u = _ := e2.symm
    by_cases hk8 : k < 8
    · have d0 : decide ((k : Int) < 8) = true := by rw [decide_eq_true_iff]; omega
      have z1 : (0 : Int) ≤ (k : Int) := Int.natCast_nonneg k
      have z2 : (k : Int) < 8 := by omega
      have z4 : (0 : Int) ≤ 56 - 8 * (k : Int) := by omega
      have z3 : (56 - 8 * (k : Int)).toNat = 8 * (7 - k) := by omega
      have hv := byte_is n (7 - k)
      have hs := be8_step n hk8
      obtain ⟨x, hx⟩ : ∃ x, byteOfN n (7 - k) = x := ⟨_, rfl⟩
      rw [hx] at hv hs
      have Hs := Lib.hid hs
      have L4 := Lib.hid (show ((Sha.be8 n).take k).length + [x].length ≤ 140737488351232 from by
        rw [List.length_singleton, List.length_take]; omega)
      clear hs hx hk8
      go_wp2_with ((with_reducible (show wpList _ _ _ (Oper.mk (some 15) _ _ _ _ _ :: _) _ _)); refine wpList_append_bytes rfl (.tmp 7) (.tmp 14) rfl w.heap.size u (.slice (some ⟨wr.heap.size, 0, none⟩) 1 1) _ _ rfl rfl (Owns.alloc hO.out _) (one_byte wr x) L4.out (hB.out.alloc hB.out.size _).size ?_; intro v3 w3 O3 B3 _)
      go_roundg (gk - 1)
      case measure => omega
      case rel =>
        go_light
        refine ⟨k + 1, v3, by omega, rfl, rfl, Lib.hid ?_, Lib.hid ((hB.out.alloc hB.out.size _).trans B3.out)⟩
        have h := O3.out
        rw [Hs.out] at h
        exact h
    · obtain rfl : k = 8 := by omega
      have d0 : decide (((8 : Nat) : Int) < 8) = false := by decide
      go_wp2_with fail
      go_ret
      go_light
      refine ⟨⟨_, rfl, ?_⟩, hB.out⟩
      have h := hO.out
      rw [be8_take] at h
      exact h

set_option maxRecDepth 100000 in
set_option maxHeartbeats 2000000 in
theorem reight_any (n : Nat) (hn : n < 9223372036854775808) (w : World) :
    Calls Tryd.prog 40 #[.int .i64 (n : Int)] w fun e w' => (∃ u, e = .returned u ∧ Owns w' w.heap.size u (Sha.be8 n)) ∧ Below w.heap.size w w' := by
  have Hn := Lib.hid hn
  have P0 : Hid (Owns (w.alloc (.cells #[] 5)) w.heap.size (.slice (some ⟨w.heap.size, 0, none⟩) 0 0) ((Sha.be8 n).take 0)) := Lib.hid (Owns.empty w (Nat.le_refl _))
  have B0 : Hid (Below w.heap.size w (w.alloc (.cells #[] 5))) := Lib.hid ((Below.refl _ _).alloc (Nat.le_refl _) _)
  clear hn
  go_enter Tryd.func40, Tryd.ntmps40
  go_wp2_with fail
  go_loopg [3, 4] 8 (fun g s3 s4 wx => ∃ (j : Nat) (u : Value), j + g = 8 ∧ s4 = .int .i64 (7 - (j : Int)) ∧ s3 = u ∧ Hid (Owns wx w.heap.size u ((Sha.be8 n).take j)) ∧ Hid (Below w.heap.size w wx))
  case atStart => exact ⟨0, _, by omega, rfl, rfl, P0, B0⟩
  case round =>
    clear P0 B0
    obtain ⟨j, u, hj, rfl, e3, hO, hB⟩ := hrel
    obtain rfl : u = _ := e3.symm
    by_cases hj8 : j < 8
    · have d0 : decide ((j : Int) ≤ 7) = true := by rw [decide_eq_true_iff]; omega
      have z1 : (0 : Int) ≤ (j : Int) := Int.natCast_nonneg j
      have z2 : (j : Int) ≤ 7 := by omega
      have z4 : (0 : Int) ≤ 8 * (7 - (j : Int)) := by omega
      have z3 : (8 * (7 - (j : Int))).toNat = 8 * (7 - j) := by omega
      have hv := byte_is n (7 - j)
      have hs := be8_step n hj8
      obtain ⟨x, hx⟩ : ∃ x, byteOfN n (7 - j) = x := ⟨_, rfl⟩
      rw [hx] at hv hs
      have Hs := Lib.hid hs
      have L4 := Lib.hid (show ((Sha.be8 n).take j).length + [x].length ≤ 140737488351232 from by
        rw [List.length_singleton, List.length_take]; omega)
      clear hs hx hj8
      go_wp2_with ((with_reducible (show wpList _ _ _ (Oper.mk (some 17) _ _ _ _ _ :: _) _ _)); refine wpList_append_bytes rfl (.tmp 10) (.tmp 16) rfl w.heap.size u (.slice (some ⟨wr.heap.size, 0, none⟩) 1 1) _ _ rfl rfl (Owns.alloc hO.out _) (one_byte wr x) L4.out (hB.out.alloc hB.out.size _).size ?_; intro v3 w3 O3 B3 _)
      go_roundg (gk - 1)
      case measure => omega
      case rel =>
        go_light
        refine ⟨j + 1, v3, by omega, by congr 1; omega, rfl, Lib.hid ?_, Lib.hid ((hB.out.alloc hB.out.size _).trans B3.out)⟩
        have h := O3.out
        rw [Hs.out] at h
        exact h
    · obtain rfl : j = 8 := by omega
      have d0 : decide (((8 : Nat) : Int) ≤ 7) = false := by decide
      go_wp2_with fail
      go_ret
      go_light
      refine ⟨⟨_, rfl, ?_⟩, hB.out⟩
      have h := hO.out
      rw [be8_take] at h
      exact h
end Go.Proofs.YtdcpejfnhegdaaaDoor
