/- The reference's padding, Sum, Tagged. -/
import Derived.Test.YtdcpejfnhegdaaaDoorRefSha
import Derived.Test.YtdcpejfnhegdaaaDoorTag
set_option linter.unusedVariables false
set_option linter.unusedSimpArgs false
namespace Go.Proofs.YtdcpejfnhegdaaaDoor
open Go.RowKit
open Sha (Wd St)

theorem Owns.alloc {w : World} {base : Nat} {v : Value} {l : List UInt8} (h : Owns w base v l) (o : Obj) : Owns (w.alloc o) base v l := h.below (Below.alloc (Below.refl _ _) (Nat.le_refl _) o)
theorem Owns.empty (w : World) {base : Nat} (hb : base ≤ w.heap.size) : Owns (w.alloc (.cells #[] 5)) base (.slice (some ⟨w.heap.size, 0, none⟩) 0 0) [] :=
  World.ownsRow_made w #[] 0 hb (by unfold maxLen; omega) rfl
theorem one_byte (w : World) (x : UInt8) : BytesAt (w.alloc (.cells #[vB x] 5)) (.slice (some ⟨w.heap.size, 0, none⟩) 1 1) [x] :=
  RowV.bytesAt (l := [x]) (RowV.new w 5 1 (fun i => vB ([x].getD i 0))) rfl (by decide) (by decide)

/-- the message, the mark, k noughts -/
def padZ (m : List UInt8) (k : Nat) : List UInt8 := m ++ 0x80 :: List.replicate k 0
theorem padZ_len (m : List UInt8) (k : Nat) : (padZ m k).length = m.length + 1 + k := by simp [padZ]; omega
theorem padZ_step (m : List UInt8) (k : Nat) : padZ m k ++ [0] = padZ m (k + 1) := by simp [padZ, List.replicate_succ']
theorem pad_is (m : List UInt8) : padZ m (Sha.zeros m.length) ++ Sha.be8 (m.length * 8 % 2 ^ 64) = Sha.pad m := by simp [padZ, Sha.pad]
theorem be8_step (n : Nat) {k : Nat} (h : k < 8) : (Sha.be8 n).take k ++ [byteOfN n (7 - k)] = (Sha.be8 n).take (k + 1) := by
  rw [List.take_succ_eq_append_getElem (by simpa [Sha.be8] using h)]
  congr 2
  have := Sha.be8_get n h
  obtain ⟨_, h2⟩ := List.getElem?_eq_some_iff.1 this
  rw [h2]; rfl

set_option maxRecDepth 100000 in
set_option maxHeartbeats 2000000 in
theorem refpad_any (v : Value) (m : List UInt8) (w : World) (hv : BytesAt w v m) (hm : m.length ≤ 2000000) :
    Calls Tryd.prog 79 #[v] w fun e w' => (∃ u, e = .returned u ∧ Owns w' w.heap.size u (Sha.pad m)) ∧ Below w.heap.size w w' := by
  obtain ⟨va, vc, rfl⟩ := hv.slice
  have B0 : Below w.heap.size w (w.alloc (.cells #[] 5)) := (Below.refl _ _).alloc (Nat.le_refl _) _
  have O0 := Lib.hid (Owns.empty w (Nat.le_refl w.heap.size))
  have Hv0 := Lib.hid (hv.below B0)
  have HB0 := Lib.hid B0
  have Hsz := Lib.hid B0.size
  have Hm := Lib.hid hm
  have L1 := Lib.hid (show ([] : List UInt8).length + m.length ≤ 140737488351232 from by rw [List.length_nil]; omega)
  have L2 := Lib.hid (show ([] ++ m).length + [(0x80 : UInt8)].length ≤ 140737488351232 from by rw [List.nil_append, List.length_singleton]; omega)
  clear hv B0
  go_enter Tryd.func79, Tryd.ntmps79
  go_wp2_with (first
    | ((with_reducible (show wpList _ _ _ (Oper.mk (some 8) _ _ _ _ _ :: _) _ _)); refine wpList_append_bytes rfl (.tmp 6) (.tmp 7) rfl w.heap.size (.slice (some ⟨w.heap.size, 0, none⟩) 0 0) (.slice va m.length vc) _ _ rfl rfl O0.out Hv0.out L1.out Hsz.out ?_; intro v1 w1 O1 B1 _)
    | ((with_reducible (show wpList _ _ _ (Oper.mk (some 10) _ _ _ _ _ :: _) _ _)); refine wpList_append_bytes rfl (.tmp 8) (.tmp 9) rfl w.heap.size v1 (.slice (some ⟨w1.heap.size, 0, none⟩) 1 1) _ _ rfl rfl (Owns.alloc O1.out _) (one_byte w1 0x80) L2.out ((HB0.out.trans B1.out).alloc (Nat.le_trans Hsz.out B1.out.size) _).size ?_; intro v2 w2 O2 B2 _))
  have P0 : Hid (Owns w2 w.heap.size v2 (padZ m 0)) := O2
  have BB : Hid (Below w.heap.size w w2) := Lib.hid (((HB0.out.trans B1.out).alloc (Nat.le_trans Hsz.out B1.out.size) _).trans B2.out)
  clear O1 B1 O2 B2 O0 Hv0 HB0 Hsz
  obtain ⟨z, hz⟩ : ∃ z, Sha.zeros m.length = z := ⟨_, rfl⟩
  have hz64 : z < 64 ∧ (m.length + 1 + z) % 64 = 56 ∧ ∀ k, k < z → (m.length + 1 + k) % 64 ≠ 56 := by
    rw [← hz]; unfold Sha.zeros
    exact ⟨by omega, by omega, fun k hk => by omega⟩
  have Hz := Lib.hid hz
  have Hz64 := Lib.hid hz64
  clear hz hz64
  go_loopg [3] z (fun g s3 wx => ∃ (k : Nat) (u : Value), k + g = z ∧ s3 = u ∧ Hid (Owns wx w.heap.size u (padZ m k)) ∧ Hid (Below w.heap.size w wx))
  case atStart => exact ⟨0, v2, by omega, rfl, P0, BB⟩
  case round =>
    clear P0 BB
    obtain ⟨k, u, hk, e3, hO, hB⟩ := hrel
    obtain rfl : u = _ := e3.symm
    obtain ⟨ua, uc, rfl⟩ := hO.out.slice
    rw [padZ_len] at hO ⊢
    have hz1 := Hz64.out.1
    obtain ⟨n, hn⟩ : ∃ n, m.length + 1 + k = n := ⟨_, rfl⟩
    rw [hn] at hO ⊢
    have Hn := Lib.hid hn
    have y0 : (n : Int) ≤ 140737488351232 := by omega
    have y1 : (0 : Int) ≤ (n : Int) := Int.natCast_nonneg n
    by_cases hkz : k < z
    · have d0 : (((n : Int) % 64) != 56) = true := by rw [bne_iff_ne]; have := Hz64.out.2.2 k hkz; omega
      have L3 := Lib.hid (show (padZ m k).length + [(0 : UInt8)].length ≤ 140737488351232 from by rw [padZ_len, List.length_singleton]; omega)
      clear hn
      go_wp2_with ((with_reducible (show wpList _ _ _ (Oper.mk (some 17) _ _ _ _ _ :: _) _ _)); refine wpList_append_bytes rfl (.tmp 15) (.tmp 16) rfl w.heap.size (.slice ua n uc) (.slice (some ⟨wr.heap.size, 0, none⟩) 1 1) _ _ rfl rfl (Owns.alloc hO.out _) (one_byte wr 0) L3.out (hB.out.alloc hB.out.size _).size ?_; intro v3 w3 O3 B3 _)
      go_roundg (gk - 1)
      case measure => omega
      case rel =>
        go_light
        exact ⟨k + 1, v3, by omega, rfl, Lib.hid (by rw [← padZ_step]; exact O3.out), Lib.hid ((hB.out.alloc hB.out.size _).trans B3.out)⟩
    · obtain rfl : k = z := by omega
      have d0 : (((n : Int) % 64) != 56) = false := by rw [bne_eq_false_iff_eq]; have := Hz64.out.2.1; omega
      have y2 : ((m.length : Nat) : Int) ≤ 140737488351232 := by have := Hm.out; omega
      obtain ⟨N, hN⟩ : ∃ N, m.length = N := ⟨_, rfl⟩
      rw [hN] at y2 ⊢
      have HN := Lib.hid hN
      have P1 : Hid (Owns wr w.heap.size (.slice ua n uc) (padZ m k ++ (Sha.be8 (N * 8 % 2 ^ 64)).take 0)) := Lib.hid (by rw [List.take_zero, List.append_nil]; exact hO.out)
      clear hn hN hO hk hkz
      go_wp2_with fail
      clear d0
      go_loopg [3, 5] 8 (fun g s3 s5 wx => ∃ (j : Nat) (u : Value), j + g = 8 ∧ s5 = .int .i64 (7 - (j : Int)) ∧ s3 = u ∧ Hid (Owns wx w.heap.size u (padZ m k ++ (Sha.be8 (N * 8 % 2 ^ 64)).take j)) ∧ Hid (Below w.heap.size w wx))
      case atStart => exact ⟨0, .slice ua n uc, by omega, rfl, rfl, P1, hB⟩
      case round =>
        clear P1 hB
        obtain ⟨j, u, hj, rfl, e3, hO, hB⟩ := hrel
        obtain rfl : u = _ := e3.symm
        by_cases hj8 : j < 8
        · have d0 : decide ((j : Int) ≤ 7) = true := by rw [decide_eq_true_iff]; omega
          have z1 : (0 : Int) ≤ (j : Int) := Int.natCast_nonneg j
          have z2 : (j : Int) ≤ 7 := by omega
          have z4 : (0 : Int) ≤ 8 * (7 - (j : Int)) := by omega
          have z3 : (8 * (7 - (j : Int))).toNat = 8 * (7 - j) := by omega
          have hv := byte_is (N * 8) (7 - j)
          rw [show ((N * 8 : Nat) : Int) = (N : Int) * 8 by omega] at hv
          have hs := be8_step (N * 8 % 2 ^ 64) hj8
          rw [Nat.mod_eq_of_lt (show N * 8 < 2 ^ 64 by omega)] at hs
          rw [Nat.mod_eq_of_lt (show N * 8 < 2 ^ 64 by omega)] at hO
          obtain ⟨x, hx⟩ : ∃ x, byteOfN (N * 8) (7 - j) = x := ⟨_, rfl⟩
          rw [hx] at hv hs
          have Hs := Lib.hid hs
          have L4 := Lib.hid (show (padZ m k ++ (Sha.be8 (N * 8)).take j).length + [x].length ≤ 140737488351232 from by
            have := Hm.out
            rw [HN.out] at this
            rw [List.length_append, padZ_len, HN.out, List.length_singleton, List.length_take]; omega)
          clear hs hx hj8
          go_wp2_with ((with_reducible (show wpList _ _ _ (Oper.mk (some 33) _ _ _ _ _ :: _) _ _)); refine wpList_append_bytes rfl (.tmp 26) (.tmp 32) rfl w.heap.size u (.slice (some ⟨wr.heap.size, 0, none⟩) 1 1) _ _ rfl rfl (Owns.alloc hO.out _) (one_byte wr x) L4.out (hB.out.alloc hB.out.size _).size ?_; intro v3 w3 O3 B3 _)
          go_roundg (gk - 1)
          case measure => omega
          case rel =>
            go_light
            refine ⟨j + 1, v3, by omega, by congr 1; omega, rfl, Lib.hid ?_, Lib.hid ((hB.out.alloc hB.out.size _).trans B3.out)⟩
            have h := O3.out
            rw [List.append_assoc, Hs.out] at h
            rw [Nat.mod_eq_of_lt (show N * 8 < 2 ^ 64 by omega)]
            exact h
        · obtain rfl : j = 8 := by omega
          have d0 : decide (((8 : Nat) : Int) ≤ 7) = false := by decide
          go_wp2_with fail
          go_ret
          go_light
          refine ⟨⟨_, rfl, ?_⟩, hB.out⟩
          have h := hO.out
          rw [List.take_of_length_le (by simp [Sha.be8]), ← HN.out, ← Hz.out, pad_is] at h
          exact h
end Go.Proofs.YtdcpejfnhegdaaaDoor
