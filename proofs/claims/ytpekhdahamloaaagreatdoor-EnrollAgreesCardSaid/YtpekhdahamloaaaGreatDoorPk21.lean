/- The reference's padding, Sum, Tagged. The reference's Sum and Tagged. -/
import Derived.Test.YtpekhdahamloaaaGreatDoorPk5
import Derived.Test.YtpekhdahamloaaaGreatDoorPk9
set_option linter.unusedVariables false
set_option linter.unusedSimpArgs false
namespace Go.Proofs.YtpekhdahamloaaaGreatDoor
open Go.RowKit
open Sha (Wd St)

theorem Owns.alloc {w : World} {base : Nat} {v : Value} {l : List UInt8} (h : Owns w base v l) (o : Obj) : Owns (w.alloc o) base v l := h.below (Below.alloc (Below.refl _ _) (Nat.le_refl _) o)
theorem Owns.empty (w : World) {base : Nat} (hb : base ≤ w.heap.size) : Owns (w.alloc (.cells #[] 5)) base (.slice (some ⟨w.heap.size, 0, none⟩) 0 0) [] :=
  World.ownsRow_made w #[] 0 hb (by unfold maxLen; omega) rfl
theorem one_byte (w : World) (x : UInt8) : BytesAt (w.alloc (.cells #[vB x] 5)) (.slice (some ⟨w.heap.size, 0, none⟩) 1 1) [x] :=
  RowV.bytesAt (l := [x]) (RowV.new w 5 1 (fun i => vB ([x].getD i 0))) rfl (by decide) (by decide)

/-- the message, the mark, k noughts -/
def padZ (m : List UInt8) (k : Nat) : List UInt8 := m ++ 0x80 :: List.replicate k 0
theorem padZ_len (m : List UInt8) (k : Nat) : (padZ m k).length = m.length + 1 + k := by simp [padZ]; omega
theorem padZ_step (m : List UInt8) (k : Nat) : padZ m k ++ [0] = padZ m (k + 1) := by simp [padZ, List.replicate_succ']
theorem pad_is (m : List UInt8) : padZ m (Sha.zeros m.length) ++ Sha.be8 (m.length * 8 % 2 ^ 64) = Sha.pad m := by simp [padZ, Sha.pad]
theorem be8_step (n : Nat) {k : Nat} (h : k < 8) : (Sha.be8 n).take k ++ [byteOfN n (7 - k)] = (Sha.be8 n).take (k + 1) := by
  rw [List.take_succ_eq_append_getElem (by simpa [Sha.be8] using h)]
  congr 2
  have := Sha.be8_get n h
  obtain ⟨_, h2⟩ := List.getElem?_eq_some_iff.1 this
  rw [h2]; rfl

set_option maxRecDepth 100000 in
set_option maxHeartbeats 2000000 in
theorem refpad_any (v : Value) (m : List UInt8) (w : World) (hv : BytesAt w v m) (hm : m.length ≤ 2000000) :
    Calls Tryz.prog 148 #[v] w fun e w' => (∃ u, e = .returned u ∧ Owns w' w.heap.size u (Sha.pad m)) ∧ Below w.heap.size w w' := by
  obtain ⟨va, vc, rfl⟩ := hv.slice
  have B0 : Below w.heap.size w (w.alloc (.cells #[] 5)) := (Below.refl _ _).alloc (Nat.le_refl _) _
  have O0 := Lib.hid (Owns.empty w (Nat.le_refl w.heap.size))
  have Hv0 := Lib.hid (hv.below B0)
  have HB0 := Lib.hid B0
  have Hsz := Lib.hid B0.size
  have Hm := Lib.hid hm
  have L1 := Lib.hid (show ([] : List UInt8).length + m.length ≤ 140737488351232 from by rw [List.length_nil]; omega)
  have L2 := Lib.hid (show ([] ++ m).length + [(0x80 : UInt8)].length ≤ 140737488351232 from by rw [List.nil_append, List.length_singleton]; omega)
  clear hv B0
  go_enter Tryz.func148, Tryz.ntmps148
  go_wp2_with (first
    | ((with_reducible (show wpList _ _ _ (Oper.mk (some 8) _ _ _ _ _ :: _) _ _)); refine wpList_append_bytes rfl (.tmp 6) (.tmp 7) rfl w.heap.size (.slice (some ⟨w.heap.size, 0, none⟩) 0 0) (.slice va m.length vc) _ _ rfl rfl O0.out Hv0.out L1.out Hsz.out ?_; intro v1 w1 O1 B1 _)
    | ((with_reducible (show wpList _ _ _ (Oper.mk (some 10) _ _ _ _ _ :: _) _ _)); refine wpList_append_bytes rfl (.tmp 8) (.tmp 9) rfl w.heap.size v1 (.slice (some ⟨w1.heap.size, 0, none⟩) 1 1) _ _ rfl rfl (Owns.alloc O1.out _) (one_byte w1 0x80) L2.out ((HB0.out.trans B1.out).alloc (Nat.le_trans Hsz.out B1.out.size) _).size ?_; intro v2 w2 O2 B2 _))
  have P0 : Hid (Owns w2 w.heap.size v2 (padZ m 0)) := O2
  have BB : Hid (Below w.heap.size w w2) := Lib.hid (((HB0.out.trans B1.out).alloc (Nat.le_trans Hsz.out B1.out.size) _).trans B2.out)
  clear O1 B1 O2 B2 O0 Hv0 HB0 Hsz
  obtain ⟨z, hz⟩ : ∃ z, Sha.zeros m.length = z := ⟨_, rfl⟩
  have hz64 : z < 64 ∧ (m.length + 1 + z) % 64 = 56 ∧ ∀ k, k < z → (m.length + 1 + k) % 64 ≠ 56 := by
    rw [← hz]; unfold Sha.zeros
    exact ⟨by omega, by omega, fun k hk => by omega⟩
  have Hz := Lib.hid hz
  have Hz64 := Lib.hid hz64
  clear hz hz64
  go_loopg [3] z (fun g s3 wx => ∃ (k : Nat) (u : Value), k + g = z ∧ s3 = u ∧ Hid (Owns wx w.heap.size u (padZ m k)) ∧ Hid (Below w.heap.size w wx))
  case atStart => exact ⟨0, v2, by omega, rfl, P0, BB⟩
  case round =>
    clear P0 BB
    obtain ⟨k, u, hk, e3, hO, hB⟩ := hrel
    obtain rfl : u = _ := e3.symm
    obtain ⟨ua, uc, rfl⟩ := hO.out.slice
    rw [padZ_len] at hO ⊢
    have hz1 := Hz64.out.1
    obtain ⟨n, hn⟩ : ∃ n, m.length + 1 + k = n := ⟨_, rfl⟩
    rw [hn] at hO ⊢
    have Hn := Lib.hid hn
    have y0 : (n : Int) ≤ 140737488351232 := by omega
    have y1 : (0 : Int) ≤ (n : Int) := Int.natCast_nonneg n
    by_cases hkz : k < z
    · have d0 : (((n : Int) % 64) != 56) = true := by rw [bne_iff_ne]; have := Hz64.out.2.2 k hkz; omega
      have L3 := Lib.hid (show (padZ m k).length + [(0 : UInt8)].length ≤ 140737488351232 from by rw [padZ_len, List.length_singleton]; omega)
      clear hn
      go_wp2_with ((with_reducible (show wpList _ _ _ (Oper.mk (some 17) _ _ _ _ _ :: _) _ _)); refine wpList_append_bytes rfl (.tmp 15) (.tmp 16) rfl w.heap.size (.slice ua n uc) (.slice (some ⟨wr.heap.size, 0, none⟩) 1 1) _ _ rfl rfl (Owns.alloc hO.out _) (one_byte wr 0) L3.out (hB.out.alloc hB.out.size _).size ?_; intro v3 w3 O3 B3 _)
      go_roundg (gk - 1)
      case measure => omega
      case rel =>
        go_light
        exact ⟨k + 1, v3, by omega, rfl, Lib.hid (by rw [← padZ_step]; exact O3.out), Lib.hid ((hB.out.alloc hB.out.size _).trans B3.out)⟩
    · obtain rfl : k = z := by omega
      have d0 : (((n : Int) % 64) != 56) = false := by rw [bne_eq_false_iff_eq]; have := Hz64.out.2.1; omega
      have y2 : ((m.length : Nat) : Int) ≤ 140737488351232 := by have := Hm.out; omega
      obtain ⟨N, hN⟩ : ∃ N, m.length = N := ⟨_, rfl⟩
      rw [hN] at y2 ⊢
      have HN := Lib.hid hN
      have P1 : Hid (Owns wr w.heap.size (.slice ua n uc) (padZ m k ++ (Sha.be8 (N * 8 % 2 ^ 64)).take 0)) := Lib.hid (by rw [List.take_zero, List.append_nil]; exact hO.out)
      clear hn hN hO hk hkz
      go_wp2_with fail
      clear d0
      go_loopg [3, 5] 8 (fun g s3 s5 wx => ∃ (j : Nat) (u : Value), j + g = 8 ∧ s5 = .int .i64 (7 - (j : Int)) ∧ s3 = u ∧ Hid (Owns wx w.heap.size u (padZ m k ++ (Sha.be8 (N * 8 % 2 ^ 64)).take j)) ∧ Hid (Below w.heap.size w wx))
      case atStart => exact ⟨0, .slice ua n uc, by omega, rfl, rfl, P1, hB⟩
      case round =>
        clear P1 hB
        obtain ⟨j, u, hj, rfl, e3, hO, hB⟩ := hrel
        obtain rfl : u = _ := e3.symm
        by_cases hj8 : j < 8
        · have d0 : decide ((j : Int) ≤ 7) = true := by rw [decide_eq_true_iff]; omega
          have z1 : (0 : Int) ≤ (j : Int) := Int.natCast_nonneg j
          have z2 : (j : Int) ≤ 7 := by omega
          have z4 : (0 : Int) ≤ 8 * (7 - (j : Int)) := by omega
          have z3 : (8 * (7 - (j : Int))).toNat = 8 * (7 - j) := by omega
          have hv := byte_is (N * 8) (7 - j)
          rw [show ((N * 8 : Nat) : Int) = (N : Int) * 8 by omega] at hv
          have hs := be8_step (N * 8 % 2 ^ 64) hj8
          rw [Nat.mod_eq_of_lt (show N * 8 < 2 ^ 64 by omega)] at hs
          rw [Nat.mod_eq_of_lt (show N * 8 < 2 ^ 64 by omega)] at hO
          obtain ⟨x, hx⟩ : ∃ x, byteOfN (N * 8) (7 - j) = x := ⟨_, rfl⟩
          rw [hx] at hv hs
          have Hs := Lib.hid hs
          have L4 := Lib.hid (show (padZ m k ++ (Sha.be8 (N * 8)).take j).length + [x].length ≤ 140737488351232 from by
            have := Hm.out
            rw [HN.out] at this
            rw [List.length_append, padZ_len, HN.out, List.length_singleton, List.length_take]; omega)
          clear hs hx hj8
          go_wp2_with ((with_reducible (show wpList _ _ _ (Oper.mk (some 33) _ _ _ _ _ :: _) _ _)); refine wpList_append_bytes rfl (.tmp 26) (.tmp 32) rfl w.heap.size u (.slice (some ⟨wr.heap.size, 0, none⟩) 1 1) _ _ rfl rfl (Owns.alloc hO.out _) (one_byte wr x) L4.out (hB.out.alloc hB.out.size _).size ?_; intro v3 w3 O3 B3 _)
          go_roundg (gk - 1)
          case measure => omega
          case rel =>
            go_light
            refine ⟨j + 1, v3, by omega, by congr 1; omega, rfl, Lib.hid ?_, Lib.hid ((hB.out.alloc hB.out.size _).trans B3.out)⟩
            have h := O3.out
            rw [List.append_assoc, Hs.out] at h
            rw [Nat.mod_eq_of_lt (show N * 8 < 2 ^ 64 by omega)]
            exact h
        · obtain rfl : j = 8 := by omega
          have d0 : decide (((8 : Nat) : Int) ≤ 7) = false := by decide
          go_wp2_with fail
          go_ret
          go_light
          refine ⟨⟨_, rfl, ?_⟩, hB.out⟩
          have h := hO.out
          rw [List.take_of_length_le (by simp [Sha.be8]), ← HN.out, ← Hz.out, pad_is] at h
          exact h
end Go.Proofs.YtpekhdahamloaaaGreatDoor

namespace Go.Proofs.YtpekhdahamloaaaGreatDoor
open Go.RowKit
open Sha (Wd St)

theorem Owns.at {w : World} {base : Nat} {v : Value} {l : List UInt8} (h : Owns w base v l) (h0 : 0 < l.length) :
    ∃ g cap : Nat, v = .slice (some ⟨g, 0, none⟩) l.length cap ∧ base ≤ g ∧ g < w.heap.size ∧ l.length ≤ cap ∧ (cap : Int) ≤ 9223372036854775807 ∧ ∀ j, j < l.length → w.cell? ⟨g, j, none⟩ = some (vB (l.getD j 0)) := by
  obtain ⟨h1, h2⟩ := h
  rcases h2 with ⟨rfl, h3⟩ | ⟨g, cap, cur, rfl, hb, hg, hle, hm, hs, ht⟩
  · omega
  · refine ⟨g, cap, rfl, hb, (Array.getElem?_eq_some_iff.1 hg).1, hle, by unfold maxLen at hm; omega, fun j hj => ?_⟩
    have h := World.ownsRow.cellAt (w := w) (base := base) (e := 5) (size := 1) (g := g) (cap := cap) (n := l.length) (xs := l.map vB) ⟨h1, .inr ⟨g, cap, cur, rfl, hb, hg, hle, hm, hs, ht⟩⟩ j (by omega)
    rw [h]
    simp [List.getD_eq_getElem?_getD, List.getElem?_eq_getElem hj]

/-- i blocks done by the reference -/
def RSum (m : List UInt8) (w : World) (bd bs g L i : Nat) (wx : World) : Prop :=
  RowV wx bs 162 8 (fun j => vU ((Sha.blocksF (padF m) Sha.init i).out j)) ∧ RowV wx bd 35 32 (fun _ => vB 0) ∧ Below bd w wx ∧ (g < wx.heap.size ∧ ∀ j, j < L → wx.cell? ⟨g, j, none⟩ = some (vB (padF m j)))
/-- byte i of the hash, as long as k are done -/
def refOut (S : St) (k j : Nat) : Value := vB (if j < k then Sha.byteOf (S.out (j / 4)) (j % 4) else 0)

set_option maxRecDepth 100000 in
set_option maxHeartbeats 2000000 in
theorem refsum_any (v : Value) (m : List UInt8) (w : World) (hv : BytesAt w v m) (hm : m.length ≤ 2000000) :
    Calls Tryz.prog 118 #[v] w fun e w' => e = .returned (digV (Sha.sum m)) ∧ Below w.heap.size w w' := by
  obtain ⟨va, vc, rfl⟩ := hv.slice
  have Hv := Lib.hid hv
  have Hm := Lib.hid hm
  have hp := fun W h => refpad_any (.slice va m.length vc) m W h hm
  have Hp := Lib.hid hp
  clear hv hp hm
  go_enter Tryz.func118, Tryz.ntmps118
  go_wp2_with fail
  change Calls _ _ _ ((w.alloc (.cells (rowF 32 fun _ => vB 0) 35)).alloc (.cells (rowF 8 fun j => vU (Sha.init.out j)) 162)) _
  have B1 : Below w.heap.size w (w.alloc (.cells (rowF 32 fun _ => vB 0) 35)) := (Below.refl _ _).alloc (Nat.le_refl _) _
  have R1 := RowV.new w 35 32 (fun _ => vB 0)
  have R2 := R1.alloc (.cells (rowF 8 fun j => vU (Sha.init.out j)) 162)
  have R2' := RowV.new (w.alloc (.cells (rowF 32 fun _ => vB 0) 35)) 162 8 (fun j => vU (Sha.init.out j))
  have B2 := B1.alloc B1.size (.cells (rowF 8 fun j => vU (Sha.init.out j)) 162)
  rw [World.size_alloc] at R2'
  obtain ⟨w1, hw1⟩ : ∃ x, (w.alloc (.cells (rowF 32 fun _ => vB 0) 35)).alloc (.cells (rowF 8 fun j => vU (Sha.init.out j)) 162) = x := ⟨_, rfl⟩
  rw [hw1] at R2 R2' B2 ⊢
  refine (Hp.out w1 (Hv.out.below B2)).mono ?_
  rintro e w2 ⟨⟨u, rfl, hO⟩, b2⟩
  have hpl : 0 < (Sha.pad m).length := by rw [Sha.pad_length]; unfold Sha.endLen; split <;> omega
  obtain ⟨g, cap, rfl, hg1, hg2, hcl, hcap, hcell⟩ := hO.at hpl
  have R3 := R2.below b2
  have R3' := R2'.below b2
  have B3 := B2.trans (b2.mono B2.size)
  have hgs : w.heap.size + 1 < g := Nat.lt_of_lt_of_le R2'.lt hg1
  obtain ⟨bd, hbd⟩ : ∃ x, w.heap.size = x := ⟨_, rfl⟩
  obtain ⟨bs, hbs⟩ : ∃ x, bd + 1 = x := ⟨_, rfl⟩
  have Hbd := Lib.hid hbd
  have hne : bd < bs := by omega
  rw [hbd, hbs] at R3' hgs ⊢
  rw [hbd] at R3 B3
  have hLm := Sha.pad_length m
  have hL64 := Sha.pad_len m
  have hbig : (Sha.pad m).length ≤ 2000200 := by rw [hLm]; have := Hm.out; unfold Sha.endLen; split <;> omega
  obtain ⟨L, hL⟩ : ∃ L, (Sha.pad m).length = L := ⟨_, rfl⟩
  have Hsum := Lib.hid (show Sha.sum m = Sha.digestOf (Sha.blocksF (padF m) Sha.init (L / 64)) from by unfold Sha.sum; rw [Sha.blocks_is, hL]; rfl)
  have I0 : Hid (RSum m w bd bs g L 0 w2) := Lib.hid ⟨R3', R3, B3, hg2, by rw [← hL]; exact hcell⟩
  rw [hL] at hL64 hbig hcl hpl ⊢
  clear hcell R1 R2 R2' B1 B2 R3 R3' B3 b2 hO hw1 hbd hbs hLm hL hg1 hg2
  have lL : (L : Int) ≤ 2000200 := by omega
  go_wp2_with fail
  go_loopg [5] (L / 64) (fun q s5 wx => ∃ i : Nat, i + q = L / 64 ∧ s5 = .int .i64 ((64 * i : Nat) : Int) ∧ Hid (RSum m w bd bs g L i wx))
  case atStart => exact ⟨0, by omega, rfl, I0⟩
  case round =>
    clear I0
    obtain ⟨i, hi, rfl, hI⟩ := hrel
    obtain ⟨n, hn⟩ : ∃ n, 64 * i = n := ⟨_, rfl⟩
    have Hn := Lib.hid hn
    rw [hn]
    by_cases hlt : n + 64 ≤ L
    · have d0 : decide ((n : Int) < (L : Int)) = true := by rw [decide_eq_true_iff]; omega
      have z1 : (0 : Int) ≤ (n : Int) := Int.natCast_nonneg n
      have z2 : (n : Int) + 64 ≤ (L : Int) := by omega
      have z3 : ((n : Int)).toNat = n := Int.toNat_natCast n
      have z4 : ((n : Int) + 64).toNat = n + 64 := by omega
      have z5 : n + 64 - n = 64 := by omega
      have z6 : ¬ cap = n := by omega
      have z7 : (n : Int) + 64 ≤ (cap : Int) := by omega
      have z8 : (0 : Int) ≤ (n : Int) + 64 := by omega
      have hq : i + 1 ≤ L / 64 := by omega
      have wr1 : IntKind.i64.wrap ((n : Int) + 64) = (n : Int) + 64 := by rw [IntKind.wrap_i64]; omega
      have hr := hI.out.1
      have v0 := hr.cell (show 0 < 8 by decide)
      have v1 := hr.cell (show 1 < 8 by decide)
      have v2 := hr.cell (show 2 < 8 by decide)
      have v3 := hr.cell (show 3 < 8 by decide)
      have v4 := hr.cell (show 4 < 8 by decide)
      have v5 := hr.cell (show 5 < 8 by decide)
      have v6 := hr.cell (show 6 < 8 by decide)
      have v7 := hr.cell (show 7 < 8 by decide)
      simp only [Sha.St.out] at v0 v1 v2 v3 v4 v5 v6 v7
      have hblk : ∀ W, Below wr.heap.size wr W → Calls Tryz.prog 149 #[.agg #[vU (Sha.blocksF (padF m) Sha.init i).a, vU (Sha.blocksF (padF m) Sha.init i).b, vU (Sha.blocksF (padF m) Sha.init i).c, vU (Sha.blocksF (padF m) Sha.init i).d, vU (Sha.blocksF (padF m) Sha.init i).e, vU (Sha.blocksF (padF m) Sha.init i).f, vU (Sha.blocksF (padF m) Sha.init i).g, vU (Sha.blocksF (padF m) Sha.init i).h], .slice (some ⟨g, n, none⟩) 64 (cap - n)] W
          fun e w' => e = .returned (.agg (rowF 8 fun j => vU ((Sha.blocksF (padF m) Sha.init (i + 1)).out j))) ∧ Below W.heap.size W w' := fun W hW =>
        refblock_any g n (cap - n) (Sha.blocksF (padF m) Sha.init i) (fun j => padF m (64 * i + j)) W (by omega) (by omega) (Nat.lt_of_lt_of_le hI.out.2.2.2.1 hW.size) (fun j hj => by
          rw [hW.cell (p := ⟨g, n + j, none⟩) hI.out.2.2.2.1, Hn.out]
          exact hI.out.2.2.2.2 (n + j) (by omega))
      have Hblk := Lib.hid hblk
      obtain ⟨S, hS⟩ : ∃ S, Sha.blocksF (padF m) Sha.init i = S := ⟨_, rfl⟩
      rw [hS] at v0 v1 v2 v3 v4 v5 v6 v7 Hblk
      have q0 := fun d os => cell_regrown v0 d os
      have q1 := fun d os => cell_regrown v1 d os
      have q2 := fun d os => cell_regrown v2 d os
      have q3 := fun d os => cell_regrown v3 d os
      have q4 := fun d os => cell_regrown v4 d os
      have q5 := fun d os => cell_regrown v5 d os
      have q6 := fun d os => cell_regrown v6 d os
      have q7 := fun d os => cell_regrown v7 d os
      clear hn hr hblk hS v0 v1 v2 v3 v4 v5 v6 v7
      go_upto_region 6 with fail
      refine wp_below_tail 7 (by kernel_rfl) (by kernel_rfl) ?_
      simp only [List.take_succ_cons, List.take_zero, List.drop_succ_cons, List.drop_zero]
      repeat (quiet_step (exact qbelow Hblk.out _ _))
      refine wpQuiet_nil ?_
      intro w4 hw4
      have b4 := Lib.hid (regrown_below hw4)
      clear hw4 q0 q1 q2 q3 q4 q5 q6 q7
      have hb4 := b4.out
      have hi4 := hI.out
      have Rs := Lib.hid (hi4.1.below hb4)
      have Rd := Lib.hid (hi4.2.1.below hb4)
      have Bd := Lib.hid (hi4.2.2.1.trans (hb4.mono (Nat.le_of_lt hi4.2.1.lt)))
      have Cg := Lib.hid (show g < w4.heap.size ∧ ∀ j, j < L → w4.cell? ⟨g, j, none⟩ = some (vB (padF m j)) from ⟨Nat.lt_of_lt_of_le hi4.2.2.2.1 hb4.size, fun j hj => (hb4.cell (p := ⟨g, j, none⟩) hi4.2.2.2.1).trans (hi4.2.2.2.2 j hj)⟩)
      clear hb4 hi4 hI
      go_wp2_with ((with_reducible (show wpList _ _ _ (Oper.mk none (Op.store _ _ _) _ _ _ _ :: _) _ _)); refine wpList_store_rowV rfl 162 (.tmp 3) (.tmp 23) rfl bs rfl 8 162 _ _ rfl Rs.out (by kernel_rfl) (fun _ _ => rfl) ?_; intro w5 R5 O5)
      go_roundg (gk - 1)
      case measure => omega
      case rel =>
        go_light
        refine ⟨i + 1, by omega, by rw [show 64 * (i + 1) = n + 64 by rw [← Hn.out]; omega]; go_num, Lib.hid ⟨R5.out, O5.out.row (Nat.ne_of_lt hne) Rd.out, Bd.out.trans (O5.out.below (Nat.le_of_lt hne) (Nat.le_of_lt Rd.out.lt)), Nat.lt_of_lt_of_le Cg.out.1 O5.out.size, fun j hj => ?_⟩⟩
        rw [O5.out.cell (p := ⟨g, j, none⟩) Cg.out.1 (show g ≠ bs by omega)]
        exact Cg.out.2 j hj
    · have d0 : decide (n < L) = false := by rw [decide_eq_false_iff_not]; omega
      have d1 : ¬ n < L := by omega
      obtain rfl : i = L / 64 := by omega
      obtain ⟨S, hS⟩ : ∃ S, Sha.blocksF (padF m) Sha.init (L / 64) = S := ⟨_, rfl⟩
      rw [hS] at Hsum
      have Rs : Hid (RowV wr bs 162 8 (fun j => vU (S.out j))) := Lib.hid (by rw [← hS]; exact hI.out.1)
      have Rd := Lib.hid hI.out.2.1
      have Bd := Lib.hid hI.out.2.2.1
      clear hS hI hi hlt hn
      have R6 := Lib.hid (RowV.new wr 35 32 (fun _ => vB 0))
      have Rs6 := Lib.hid (Rs.out.alloc (.cells (rowF 32 fun _ => vB 0) 35))
      have Rd6 := Lib.hid (Rd.out.alloc (.cells (rowF 32 fun _ => vB 0) 35))
      have Bd6 := Lib.hid (Bd.out.alloc (Nat.le_of_lt Rd.out.lt) (.cells (rowF 32 fun _ => vB 0) 35))
      have hbs6 : bs < wr.heap.size := Rs.out.lt
      clear Rs Rd Bd
      go_wp2_with (first
        | ((with_reducible (show wpList _ _ _ (Oper.mk (some 24) _ _ _ _ _ :: _) _ _)); refine wpList_value rfl (.agg (rowF 32 fun _ => vB 0)) (by kernel_rfl) ?_)
        | ((with_reducible (show wpList _ _ _ (Oper.mk none (Op.store _ (.tmp 6) (.tmp 24)) _ _ _ _ :: _) _ _)); refine wpList_store_rowV rfl 35 (.tmp 6) (.tmp 24) rfl wr.heap.size rfl 32 35 (fun _ => vB 0) _ rfl R6.out (by kernel_rfl) (fun _ _ => rfl) ?_; intro w6 R7 O7))
      have Rs7 := Lib.hid (O7.out.row (Nat.ne_of_lt hbs6) Rs6.out)
      have Rd7 := Lib.hid (O7.out.row (show bd ≠ wr.heap.size by omega) Rd6.out)
      have Bd7 := Lib.hid (Bd6.out.trans (O7.out.below (by omega) (by rw [World.size_alloc]; omega)))
      clear R6 Rs6 Rd6 Bd6 O7 d0 d1
      obtain ⟨b6, hb6⟩ : ∃ x, wr.heap.size = x := ⟨_, rfl⟩
      rw [hb6] at R7 hbs6 ⊢
      clear hb6
      go_loopg [7] 32 (fun q s7 wx => ∃ k : Nat, k + q = 32 ∧ s7 = .int .i64 (k : Int) ∧ Hid (RowV wx b6 35 32 (refOut S k) ∧ RowV wx bs 162 8 (fun j => vU (S.out j)) ∧ RowV wx bd 35 32 (fun _ => vB 0) ∧ Below bd w wx))
      case atStart => exact ⟨0, by omega, rfl, Lib.hid ⟨R7.out.congr fun j _ => rfl, Rs7.out, Rd7.out, Bd7.out⟩⟩
      case round =>
        clear R7 Rs7 Rd7 Bd7
        obtain ⟨k, hk, rfl, hJ⟩ := hrel
        by_cases hk32 : k < 32
        · have d0 : decide ((k : Int) < 32) = true := by rw [decide_eq_true_iff]; omega
          have z1 : (0 : Int) ≤ (k : Int) := Int.natCast_nonneg k
          have z2 : (k : Int) < 32 := by omega
          have z3 : ((k : Int)).toNat = k := Int.toNat_natCast k
          have z4 : ((k : Int) / 4).toNat = k / 4 := by omega
          have z5 : (0 : Int) ≤ (k : Int) / 4 := by omega
          have z6 : (k : Int) / 4 < 8 := by omega
          have z7 : (24 - 8 * ((k : Int) % 4)).toNat = 24 - 8 * (k % 4) := by omega
          have z8 : (0 : Int) ≤ 24 - 8 * ((k : Int) % 4) := by omega
          have z9 : 8 * ((k : Int) % 4) ≤ 24 := by omega
          have c1 := hJ.out.2.1.cell (show k / 4 < 8 by omega)
          have c2 := hJ.out.1.cell hk32
          have f2 := hJ.out.1.frozen k
          have Hn := Lib.hid (show RowV (wr.setCell ⟨b6, k, none⟩ (vB (Sha.byteOf (S.out (k / 4)) (k % 4)))) b6 35 32 (refOut S (k + 1)) from hJ.out.1.put fun j hj => by
            unfold refOut
            by_cases h1 : j = k
            · subst h1; rw [if_pos rfl, if_pos (Nat.lt_succ_self j)]
            · rw [if_neg h1]
              by_cases h2 : j < k
              · rw [if_pos h2, if_pos (by omega)]
              · rw [if_neg h2, if_neg (by omega)])
          have hbyte : U (S.out (k / 4)) / 2 ^ (24 - 8 * (k % 4)) % 256 = (((Sha.byteOf (S.out (k / 4)) (k % 4)).toNat : Nat) : Int) := by
            unfold Sha.byteOf U
            rw [UInt8.toNat_ofNat', Int.natCast_emod, Int.natCast_ediv, Int.natCast_pow]
            rfl
          obtain ⟨x, hx⟩ : ∃ x, S.out (k / 4) = x := ⟨_, rfl⟩
          obtain ⟨y, hy⟩ : ∃ y, Sha.byteOf x (k % 4) = y := ⟨_, rfl⟩
          rw [hx, hy] at Hn hbyte
          rw [hx] at c1
          obtain ⟨v0, hv0⟩ : ∃ v, refOut S k k = v := ⟨_, rfl⟩
          rw [hv0] at c2
          clear hx hy hv0
          go_wp2_with fail
          go_roundg (gk - 1)
          case measure => omega
          case rel =>
            go_light
            exact ⟨k + 1, by omega, by go_num, Lib.hid ⟨Hn.out, hJ.out.2.1.other (a := ⟨b6, k, none⟩) (show bs ≠ b6 by omega) _, hJ.out.2.2.1.other (a := ⟨b6, k, none⟩) (show bd ≠ b6 by omega) _, hJ.out.2.2.2.setCell (p := ⟨b6, k, none⟩) (show bd ≤ b6 by omega) _⟩⟩
        · have d0 : decide ((k : Int) < 32) = false := by rw [decide_eq_false_iff_not]; omega
          obtain rfl : k = 32 := by omega
          have R8 : Hid (RowV wr b6 35 32 (fun j => vB ((Sha.sum m).getD j 0))) := Lib.hid (hJ.out.1.congr fun j hj => by
            rw [Hsum.out]
            unfold refOut Sha.digestOf
            rw [if_pos hj, List.getD_eq_getElem?_getD, List.getElem?_map, List.getElem?_range hj]; rfl)
          have Rd8 := Lib.hid hJ.out.2.2.1
          have B8 := Lib.hid hJ.out.2.2.2
          clear hJ hk hk32
          go_wp2_with (first
            | ((with_reducible (show wpList _ _ _ (Oper.mk (some 41) _ _ _ _ _ :: _) _ _)); refine wpList_load_rowV rfl 35 (.tmp 6) rfl b6 rfl 32 35 _ R8.out _ Tryz.underlying35 rfl (by kernel_rfl) ?_)
            | ((with_reducible (show wpList _ _ _ (Oper.mk none (Op.store _ (.tmp 2) (.tmp 41)) _ _ _ _ :: _) _ _)); refine wpList_store_rowV rfl 35 (.tmp 2) (.tmp 41) rfl bd rfl 32 35 _ _ rfl Rd8.out (by kernel_rfl) (fun _ _ => rfl) ?_; intro w9 R9 O9))
          refine bodyPost_ret (v := digV (Sha.sum m)) (results_rowV rfl _ _ bd 32 35 _ _ rfl R9.out Tryz.underlying35 rfl (by kernel_rfl)) rfl ⟨rfl, ?_⟩
          go_light
          rw [Hbd.out]
          exact B8.out.trans (O9.out.below (Nat.le_refl _) (Nat.le_of_lt Rd8.out.lt))

set_option maxRecDepth 100000 in
set_option maxHeartbeats 2000000 in
theorem reftagged_any (s : ByteArray) (v : Value) (m : List UInt8) (w : World) (hs : s.size ≤ 1000000) (hm : m.length ≤ 1000000) (hv : BytesAt w v m) :
    Calls Tryz.prog 73 #[.string s, v] w fun e w' => e = .returned (digV (Sha.tagged s.data.toList m)) ∧ Below w.heap.size w w' := by
  have hcv := fun W => convert_string W s
  obtain ⟨va, vc, rfl⟩ := hv.slice
  have Hv := Lib.hid hv
  have Hs := Lib.hid (show (s.size : Int) ≤ 140737488351232 by omega)
  have hl : s.data.toList.length ≤ 2000000 := by simpa using Nat.le_trans hs (by decide)
  have Hl := Lib.hid hl
  clear hv hl
  go_enter Tryz.func73, Tryz.ntmps73
  go_wp2_with fail
  change Calls _ _ #[.slice (some ⟨w.heap.size + 1, 0, none⟩) s.size (grownCap (w.alloc (.cells (rowF 32 fun _ => vB 0) 35)) s.size 0 5)] (Lib.bytesWorld (w.alloc (.cells (rowF 32 fun _ => vB 0) 35)) 5 s) _
  have R1 := RowV.new w 35 32 (fun _ => vB 0)
  have B1 : Below w.heap.size w (w.alloc (.cells (rowF 32 fun _ => vB 0) 35)) := (Below.refl _ _).alloc (Nat.le_refl _) _
  have e1 : (w.alloc (.cells (rowF 32 fun _ => vB 0) 35)).heap.size = w.heap.size + 1 := World.size_alloc _ _
  obtain ⟨w1, hw1⟩ : ∃ x, w.alloc (.cells (rowF 32 fun _ => vB 0) 35) = x := ⟨_, rfl⟩
  rw [hw1] at R1 B1 e1 ⊢
  have hb := bytesAt_bytesWorld w1 s Hs.out
  rw [e1] at hb
  have B2 := B1.trans ((below_bytesWorld w1 s).mono B1.size)
  have R2 := R1.below (below_bytesWorld w1 s)
  refine (refsum_any _ s.data.toList _ hb Hl.out).mono ?_
  rintro e w3 ⟨rfl, b3⟩
  have B3 := B2.trans (b3.mono B2.size)
  have R3 := R2.below b3
  clear b3 B2 R2 hb e1 B1 R1 hw1
  obtain ⟨bd, hbd⟩ : ∃ x, w.heap.size = x := ⟨_, rfl⟩
  rw [hbd] at R3 B3 ⊢
  have Hbd := Lib.hid hbd
  have R4 := Lib.hid (RowV.new w3 35 32 (fun _ => vB 0))
  have R3' := Lib.hid (R3.alloc (.cells (rowF 32 fun _ => vB 0) 35))
  have B4 := Lib.hid (B3.alloc (Nat.le_of_lt R3.lt) (.cells (rowF 32 fun _ => vB 0) 35))
  have hne : bd < w3.heap.size := R3.lt
  clear B3 R3 hbd
  go_upto_region 2 with ((with_reducible (show wpList _ _ _ (Oper.mk none (Op.store _ (.tmp 5) (.tmp 8)) _ _ _ _ :: _) _ _)); refine wpList_store_rowV rfl 35 (.tmp 5) (.tmp 8) rfl w3.heap.size rfl 32 35 _ _ rfl R4.out (by kernel_rfl) (fun _ _ => rfl) ?_; intro w5 R5 O5)
  have h0 : Below w.heap.size w (w3.alloc (.cells (rowF 32 fun _ => vB 0) 35)) := by rw [Hbd.out]; exact B4.out
  have B5 : Below w.heap.size w w5 := h0.trans (O5.out.below (by rw [Hbd.out]; exact Nat.le_of_lt hne) h0.size)
  have b5 : BytesAt w5 (.slice (some ⟨w3.heap.size, 0, none⟩) 32 32) (Sha.sum s.data.toList) := RowV.bytesAt R5.out (Sha.sum_len _) (by decide) (by decide)
  have R6 : RowV w5 bd 35 32 (fun _ => vB 0) := O5.out.row (by omega) R3'.out
  have hal := Below.alloc (Below.refl _ w5) (Nat.le_refl _) (.cells #[] 5)
  have b6 := Lib.hid (b5.below hal)
  have R7 := Lib.hid (R6.alloc (.cells #[] 5))
  have B6 := Lib.hid (B5.trans (hal.mono B5.size))
  have b7 := Lib.hid (Hv.out.below B6.out)
  have O6 := Lib.hid (Owns.empty w5 (Nat.le_refl w5.heap.size))
  have S6 := Lib.hid hal.size
  have hww5 := Lib.hid B5.size
  have L1 := Lib.hid (show ([] : List UInt8).length + (Sha.sum s.data.toList).length ≤ 140737488351232 from by rw [List.length_nil, Sha.sum_len]; omega)
  have L2 := Lib.hid (show ([] ++ Sha.sum s.data.toList).length + m.length ≤ 140737488351232 from by rw [List.nil_append, Sha.sum_len]; omega)
  have hbd5 : bd < w5.heap.size := R6.lt
  clear h0 B5 b5 R6 hal R5 O5 R4 R3' B4 hne
  go_wp2_with (first
    | ((with_reducible (show wpList _ _ _ (Oper.mk (some 11) _ _ _ _ _ :: _) _ _)); refine wpList_append_bytes rfl (.tmp 9) (.tmp 10) rfl w5.heap.size (.slice (some ⟨w5.heap.size, 0, none⟩) 0 0) (.slice (some ⟨w3.heap.size, 0, none⟩) 32 32) _ _ rfl rfl O6.out b6.out L1.out S6.out ?_; intro v7 w7 O7 B7 _)
    | ((with_reducible (show wpList _ _ _ (Oper.mk (some 13) _ _ _ _ _ :: _) _ _)); refine wpList_append_bytes rfl (.tmp 11) (.tmp 12) rfl w5.heap.size v7 (.slice va m.length vc) _ _ rfl rfl O7.out (Hv.out.below (B6.out.trans (B7.out.mono hww5.out))) L2.out (Nat.le_trans S6.out B7.out.size) ?_; intro v8 w8 O8 B8 _))
  have R8 := R7.out.belowK (K := w5.heap.size) hbd5 (B7.out.trans B8.out)
  have B9 := B6.out.trans ((B7.out.trans B8.out).mono hww5.out)
  have h8 := O8.out.bytesAt (by rw [List.length_append, List.nil_append, Sha.sum_len]; omega)
  rw [List.nil_append] at h8
  refine (refsum_any v8 _ w8 h8 (by rw [List.length_append, Sha.sum_len]; omega)).mono ?_
  rintro e w9 ⟨rfl, b9⟩
  have R9 := Lib.hid (R8.below b9)
  have B10 := Lib.hid (B9.trans (b9.mono B9.size))
  clear R8 B9 h8 b9 O7 B7 O8 B8
  go_wp2_with ((with_reducible (show wpList _ _ _ (Oper.mk none (Op.store _ (.tmp 4) (.tmp 14)) _ _ _ _ :: _) _ _)); refine wpList_store_rowV rfl 35 (.tmp 4) (.tmp 14) rfl bd rfl 32 35 _ _ rfl R9.out (by kernel_rfl) (fun _ _ => rfl) ?_; intro w11 R11 O11)
  refine bodyPost_ret (v := digV (Sha.tagged s.data.toList m)) (results_rowV rfl _ _ bd 32 35 _ _ rfl R11.out Tryz.underlying35 rfl (by kernel_rfl)) rfl ⟨rfl, ?_⟩
  refine B10.out.trans (O11.out.below ?_ B10.out.size)
  rw [Hbd.out]; exact Nat.le_refl _
end Go.Proofs.YtpekhdahamloaaaGreatDoor
