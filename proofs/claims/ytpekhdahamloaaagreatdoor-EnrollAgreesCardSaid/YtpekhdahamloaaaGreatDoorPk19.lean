/- Package codec: Check, numerals, the writers, Encode. Package codec: the writers. Package codec: Check, Encode. The reference of the codec: Formed, Depth, Check. The reference of the codec: Check, numerals, encode, Encode. The reference of the codec: encode, Encode. The reference of the codec: Encode, and its makers of values. Package codec: the reader of bytes. Package codec: the reader's numerals. Package codec: the reader's integers and lengths; values that a reader has built. Values of the codec that a call has built: their lists lie in blocks of a kind. -/
import Derived.Test.YtpekhdahamloaaaGreatDoorPk17
import Derived.Test.YtpekhdahamloaaaGreatDoorPk25
import Derived.Laws.EntriesVeiled
import Derived.BigQuiet
import Derived.Deep.QuietTactic
set_option linter.unusedVariables false
set_option linter.unusedSimpArgs false
namespace Go.Proofs.YtpekhdahamloaaaGreatDoor
open Go.RowKit Cod
theorem or_128 (x : Nat) : bits .or .u8 ((x : Int) % 256) 128 = (((UInt8.ofNat (x % 128 + 128)).toNat : Nat) : Int) := by
  have h : ∀ a : Fin 256, bits .or .u8 (a.val : Int) 128 = (((a.val % 128 + 128) : Nat) : Int) := by decide +kernel
  have h1 := h ⟨x % 256, Nat.mod_lt _ (by decide)⟩
  have e1 : ((x % 256 : Nat) : Int) = (x : Int) % 256 := by omega
  simp only at h1
  rw [← e1, h1]
  have e2 : (UInt8.ofNat (x % 128 + 128)).toNat = x % 128 + 128 := by simp; omega
  rw [e2]; omega
set_option maxRecDepth 100000 in
set_option maxHeartbeats 4000000 in
theorem numeral_any (u : Nat) (hu : u < 18446744073709551616) (base : Nat) (v0 : Value) (l0 : List UInt8) (w : World) (h0 : Owns w base v0 l0) (hbase : base ≤ w.heap.size) (hlen : l0.length ≤ 140737488350000) :
    Calls Tryz.prog 103 #[v0, .int .u64 (u : Int)] w fun e w' => ∃ v, e = .returned v ∧ Owns w' base v (l0 ++ numE u) ∧ AppStep w v0 w' v := by
  have P0 : Hid (Owns w base v0 (l0 ++ [])) := Lib.hid (by rw [List.append_nil]; exact h0)
  have HB := Lib.hid hbase
  have HU := Lib.hid hu
  have HL := Lib.hid hlen
  have H10 := Lib.hid (numE_10 hu)
  clear h0 hbase hu hlen
  go_enter Tryz.func103, Tryz.ntmps103
  go_wp2_with fail
  go_loopg [0, 1] u (fun g s0 s1 wx => ∃ (x : Nat) (v : Value) (dn : List UInt8), x = g ∧ s1 = .int .u64 (x : Int) ∧ s0 = v ∧ Hid (Owns wx base v (l0 ++ dn)) ∧ Hid (numE u = dn ++ numE x ∧ x < 18446744073709551616) ∧ Hid (AppStep w v0 wx v))
  case atStart => exact ⟨u, v0, [], rfl, rfl, rfl, P0, Lib.hid ⟨rfl, HU.out⟩, Lib.hid (AppStep.refl _ _)⟩
  case round =>
    clear P0
    obtain ⟨x, v, dn, rfl, rfl, e2, hO, hX, hB⟩ := hrel
    obtain rfl : v = _ := e2.symm
    by_cases hx : x < 128
    · have d0 : decide ((128 : Int) ≤ (x : Int)) = false := by rw [decide_eq_false_iff_not]; omega
      have d1 : decide (128 ≤ x) = false := by rw [decide_eq_false_iff_not]; omega
      obtain ⟨y, hy⟩ : ∃ y, UInt8.ofNat x = y := ⟨_, rfl⟩
      obtain ⟨yn, hyn⟩ : ∃ z : Int, (y.toNat : Int) = z := ⟨_, rfl⟩
      have hv : (x : Int) % 256 = yn := by rw [← hyn, ← hy]; simp
      have OB := Lib.hid (one_byte wr y)
      unfold vB at OB
      rw [hyn] at OB
      have EN : Hid (numE u = dn ++ [y]) := Lib.hid (by rw [hX.out.1, numE_lo hx, hy])
      have L4 := Lib.hid (show (l0 ++ dn).length + [y].length ≤ 140737488351232 from by
        have h1 := H10.out; have h2 := HL.out
        rw [EN.out, List.length_append] at h1
        rw [List.length_append]; simp at h1 ⊢; omega)
      clear hx hX hy hyn
      go_wp2_with ((with_reducible (show wpList _ _ _ (Oper.mk (some 19) _ _ _ _ _ :: _) _ _)); refine wpList_app_bytes rfl (.tmp 15) (.tmp 18) rfl base v (.slice (some ⟨wr.heap.size, 0, none⟩) 1 1) _ _ rfl rfl (Owns.alloc hO.out _) OB.out L4.out (by rw [World.size_alloc]; have := hB.out.1.size; have := HB.out; omega) ?_; intro v3 w3 O3 B3)
      go_ret
      exact ⟨_, rfl, by have h := O3.out; rw [List.append_assoc, ← EN.out] at h; exact h, (hB.out.trans (AppStep.of_below _ ((Below.refl _ _).alloc (Nat.le_refl _) _))).trans B3.out⟩
    · have d0 : decide ((128 : Int) ≤ (x : Int)) = true := by rw [decide_eq_true_iff]; omega
      have d1 : decide (128 ≤ x) = true := by rw [decide_eq_true_iff]; omega
      obtain ⟨y, hy⟩ : ∃ y, UInt8.ofNat (x % 128 + 128) = y := ⟨_, rfl⟩
      obtain ⟨yn, hyn⟩ : ∃ z : Int, (y.toNat : Int) = z := ⟨_, rfl⟩
      obtain ⟨xb, hxb⟩ : ∃ z : Int, (x : Int) % 256 = z := ⟨_, rfl⟩
      obtain ⟨xs, hxs⟩ : ∃ z : Int, (x : Int) / 128 = z := ⟨_, rfl⟩
      have hor : bits .or .u8 xb 128 = yn := by rw [← hxb, ← hyn, ← hy]; exact or_128 x
      have XS := Lib.hid (show xs = ((x / 128 : Nat) : Int) by rw [← hxs]; omega)
      have EN : Hid (numE u = (dn ++ [y]) ++ numE (x / 128)) := Lib.hid (by rw [hX.out.1, numE_hi hx, hy, List.append_assoc]; rfl)
      have L4 := Lib.hid (show (l0 ++ dn).length + [y].length ≤ 140737488351232 from by
        have h1 := H10.out; have h2 := HL.out
        rw [EN.out, List.length_append, List.length_append] at h1
        rw [List.length_append]; simp at h1 ⊢; omega)
      have X2 := Lib.hid (show x / 128 < 18446744073709551616 by have := hX.out.2; omega)
      have XL := Lib.hid (show x / 128 < x by omega)
      have OB := Lib.hid (one_byte wr y)
      unfold vB at OB
      rw [hyn] at OB
      clear hx hX hy hyn
      go_wp2_with ((with_reducible (show wpList _ _ _ (Oper.mk (some 14) _ _ _ _ _ :: _) _ _)); refine wpList_app_bytes rfl (.tmp 9) (.tmp 13) rfl base v (.slice (some ⟨wr.heap.size, 0, none⟩) 1 1) _ _ rfl rfl (Owns.alloc hO.out _) OB.out L4.out (by rw [World.size_alloc]; have := hB.out.1.size; have := HB.out; omega) ?_; intro v3 w3 O3 B3)
      rw [XS.out]
      go_roundg (x / 128)
      case measure => exact XL.out
      case rel =>
        go_light
        exact ⟨x / 128, v3, dn ++ [y], rfl, rfl, rfl, Lib.hid (by have h := O3.out; rw [List.append_assoc] at h; exact h), Lib.hid ⟨EN.out, X2.out⟩, Lib.hid ((hB.out.trans (AppStep.of_below _ ((Below.refl _ _).alloc (Nat.le_refl _) _))).trans B3.out)⟩
theorem xor_zig {n : Int} (hn : i64B n) : bits .xor .u64 (IntKind.u64.wrap (IntKind.u64.wrap n * 2)) (IntKind.u64.wrap (n / 9223372036854775808)) = ((zig n : Nat) : Int) := by
  obtain ⟨h1, h2⟩ := hn
  have hu : IntKind.u64.wrap n = n % 18446744073709551616 := IntKind.wrap_u64 n
  rw [hu, IntKind.wrap_u64, IntKind.wrap_u64]
  by_cases h0 : 0 ≤ n
  · have e1 : n / 9223372036854775808 = 0 := by omega
    have e2 : n % 18446744073709551616 * 2 % 18446744073709551616 = ((2 * n.toNat : Nat) : Int) := by omega
    rw [e1, e2]
    unfold zig
    rw [if_pos h0]
    show IntKind.u64.wrap ((BitVec.ofInt 64 ((2 * n.toNat : Nat) : Int) ^^^ BitVec.ofInt 64 (0 % 18446744073709551616)).toNat : Nat) = _
    rw [show BitVec.ofInt 64 (0 % 18446744073709551616) = 0#64 from rfl, BitVec.xor_zero, BitVec.toNat_ofInt, IntKind.wrap_u64]
    omega
  · have e1 : n / 9223372036854775808 = -1 := by omega
    have e2 : n % 18446744073709551616 * 2 % 18446744073709551616 = 2 * n + 18446744073709551616 := by omega
    rw [e1, e2]
    unfold zig
    rw [if_neg h0]
    show IntKind.u64.wrap ((BitVec.ofInt 64 (2 * n + 18446744073709551616) ^^^ BitVec.ofInt 64 (-1 % 18446744073709551616)).toNat : Nat) = _
    rw [show BitVec.ofInt 64 (-1 % 18446744073709551616) = BitVec.allOnes 64 from rfl, BitVec.xor_allOnes, BitVec.toNat_not, BitVec.toNat_ofInt, IntKind.wrap_u64]
    have : ((2 ^ 64 : Nat) : Int) = 18446744073709551616 := by decide
    rw [this]
    omega
set_option maxRecDepth 100000 in
set_option maxHeartbeats 2000000 in
theorem unsigned_any (n : Int) (hn : i64B n) (w : World) :
    Calls Tryz.prog 104 #[.int .i64 n] w fun e w' => e = .returned (.int .u64 ((zig n : Nat) : Int)) ∧ w = w' := by
  have hx := Lib.hid (xor_zig hn)
  go_enter Tryz.func104, Tryz.ntmps104
  go_wp2
  rw [hx.out]
  go_ret
  exact ⟨rfl, rfl⟩
/-- the writers in memory: the table in block b, the variable that holds its address in block c -/
def wrC (c : Nat) : Nat → Value
  | 0 => .nilFunc
  | 1 => .func (.func 102) #[] #[]
  | 2 => .func (.func 105) #[] #[]
  | _ => .func (.func 106) #[] #[.pointer (some ⟨c, 0, none⟩)]
def WrAt (w : World) (b c : Nat) : Prop := RowV w b 158 4 (wrC c) ∧ RowV w c 113 1 (fun _ => .pointer (some ⟨b, 0, none⟩))
set_option maxRecDepth 100000 in
set_option maxHeartbeats 4000000 in
theorem newWriter_any (w : World) :
    Calls Tryz.prog 60 #[] w fun e w' => (∃ b c, e = .returned (.pointer (some ⟨b, 0, none⟩)) ∧ WrAt w' b c) ∧ Below w.heap.size w w' := by
  have hmf : ∀ (fn : Fn) (first cap : Array Value) (w : World), (Instr.makeFunc fn first cap).run Tryz.prog w = .ok (.func fn first cap) w := fun _ _ _ _ => rfl
  go_enter Tryz.func60, Tryz.ntmps60
  go_wp2_with fail
  go_ret
  refine ⟨⟨_, w.heap.size + 1, rfl, ?_, ?_⟩, ?_⟩
  · have h := (RowV.new w 158 4 (wrC (w.heap.size + 1))).alloc (.cells #[Value.pointer (some { block := w.heap.size, off := 0 })] 113)
    exact h
  · have h := RowV.new (w.alloc (.cells (rowF 4 (wrC (w.heap.size + 1))) 158)) 113 1 (fun _ => .pointer (some ⟨w.heap.size, 0, none⟩))
    rw [World.size_alloc] at h
    exact h
  · exact ((Below.refl _ w).alloc (Nat.le_refl _) _).alloc (by rw [World.size_alloc]; omega) _
end Go.Proofs.YtpekhdahamloaaaGreatDoor

namespace Go.Proofs.YtpekhdahamloaaaGreatDoor
open Go.RowKit Cod
theorem enc_1 (n : Int) (s : ByteArray) (l : List Tv) : encV (.mk 1 n s l) = 1 :: numE (zig n) := by unfold encV; rw [if_pos rfl]
theorem enc_2 (n : Int) (s : ByteArray) (l : List Tv) : encV (.mk 2 n s l) = 2 :: (numE s.size ++ s.data.toList) := by unfold encV; rw [if_neg (by decide), if_pos rfl]
theorem enc_3 (n : Int) (s : ByteArray) (l : List Tv) : encV (.mk 3 n s l) = 3 :: (numE l.length ++ encL l) := by unfold encV; rw [if_neg (by decide), if_neg (by decide)]
theorem size_data (s : ByteArray) : s.data.toList.length = s.size := Array.length_toList
set_option maxRecDepth 100000 in
set_option maxHeartbeats 8000000 in
theorem write1_any (n : Int) (s : ByteArray) (l : List Tv) (v : Value) (base : Nat) (v0 : Value) (l0 : List UInt8) (w : World) (hv : CodAt w v (.mk 1 n s l)) (h0 : Owns w base v0 l0) (hbase : base ≤ w.heap.size) (hlen : l0.length + (encV (.mk 1 n s l)).length ≤ 140737488340000) :
    Calls Tryz.prog 102 #[v0, v] w fun e w' => ∃ v', e = .returned v' ∧ Owns w' base v' (l0 ++ encV (.mk 1 n s l)) ∧ AppStep w v0 w' v' := by
  obtain ⟨a, cap, c, rfl, hk, hn, hs, hl, hc⟩ := hv.open
  obtain ⟨m, hm⟩ : ∃ m, l.length = m := ⟨_, rfl⟩
  rw [enc_1] at hlen ⊢
  rw [hm]
  have HU := Lib.hid (fun W => unsigned_any n hn W)
  have HZ := Lib.hid (zig_lt hn.1 hn.2)
  have HL := Lib.hid hlen
  have HB := Lib.hid hbase
  have HO := Lib.hid h0
  obtain ⟨u, hu⟩ : ∃ u, zig n = u := ⟨_, rfl⟩
  rw [hu] at HU HZ HL ⊢
  clear hl hc hv hm hlen hbase h0 hu
  go_enter Tryz.func102, Tryz.ntmps102
  have B0 := Lib.hid (Below.refl w.heap.size w)
  go_upto_region 1 with fail
  obtain ⟨w1, hw1⟩ : ∃ y, w.alloc (.cells #[.int .i64 1, .int .i64 n, .string s, .slice a m cap] 59) = y := ⟨_, rfl⟩
  have b1 : Below w.heap.size w w1 := by rw [← hw1]; exact (Below.refl _ _).alloc (Nat.le_refl _) _
  have V1 : Hid (RowV w1 w.heap.size 59 4 (valC 1 n s (.slice a m cap))) := Lib.hid (by rw [← hw1]; exact RowV.new w _ 4 (valC 1 n s (.slice a m cap)))
  have z1 : w.heap.size + 1 = w1.heap.size := by rw [← hw1]; exact (Array.size_push _).symm
  rw [hw1]
  (try rw [z1])
  have B1 := Lib.hid (B0.out.trans (b1.mono B0.out.size))
  clear b1 hw1 z1 B0
  have SZ := Lib.hid (V1.out.lt)
  have NE := Lib.hid (show v0.ownBlock ≠ some w.heap.size from fun e => by have := (World.ownsRow.lt HO.out _ e).2; omega)
  have O1 := Lib.hid (HO.out.below B1.out)
  have A1 := Lib.hid (AppStep.of_below v0 B1.out)
  refine Tc.wp_region_plan (Tc.Rl.stay (fun k => k = w.heap.size)) 5 [] (.fl 0 (.fl 3 (.fl 4 (.one 1 (.one 2 .done))))) (by kernel_rfl) (by kernel_rfl) ?_
  intro w2 b2 e2
  have B2 := Lib.hid (B1.out.trans (b2.mono B1.out.size))
  have V2 := Lib.hid (V1.out.below b2)
  have SZ2 := Lib.hid (show w.heap.size < w2.heap.size by rw [e2]; exact SZ.out)
  have O2 := Lib.hid (O1.out.below b2)
  have A2 := Lib.hid (A1.out.trans (AppStep.of_below v0 b2))
  have HB2 := Lib.hid (show base ≤ w2.heap.size by have := HB.out; have := SZ2.out; omega)
  clear b2 e2 B1 V1 O1 A1 SZ
  refine Tc.plan_floats [0, 3, 4] [_, _, _] rfl ?_
  dsimp only [List.getElem_toArray, List.getElem_cons_succ, List.getElem_cons_zero]
  repeat (go_big_quiet_want; go_big_quiet_op; first | go_big_quiet_on | (refine ⟨_, fun _ _ => rfl, ?_⟩; go_big_quiet_on))
  refine wpQuiet_load_cell rfl 3 (.tmp 8) rfl w.heap.size 1 rfl _ Tryz.underlying3 rfl (.int .i64 n) (fun W hW => (stay_row (S := fun k => k = w.heap.size) V2.out rfl hW).cell (i := 1) (by decide)) ?_
  simp only [Act.put, List.setIfInBounds_toArray, List.set_cons_succ, List.set_cons_zero]
  refine wpQuiet_nil ?_
  refine Tc.plan_one 1 rfl (fun K hK => ?_)
  go_wp2_with fail
  have al := (Below.refl _ w2).alloc (Nat.le_refl _) (.cells #[vB 1] 5)
  refine hK _ _ (stay_below al (fun k hk => by subst hk; exact SZ2.out)) ?_
  have Y3 := Lib.hid (one_byte w2 1)
  have O3 := Lib.hid (O2.out.below al)
  have T3 := Lib.hid (AppStep.of_below v0 al)
  have A3 := Lib.hid (A2.out.trans (AppStep.of_below v0 al))
  have SZ3 := Lib.hid (Nat.lt_of_lt_of_le SZ2.out al.size)
  have HB3 := Lib.hid (Nat.le_trans HB2.out al.size)
  obtain ⟨w3, hw3⟩ : ∃ y, w2.alloc (.cells #[vB 1] 5) = y := ⟨_, rfl⟩
  have hw3' : w2.alloc (.cells #[.int .u8 1] 5) = w3 := hw3
  rw [hw3] at Y3 O3 A3 SZ3 HB3 T3
  rw [hw3']
  clear hK K al hw3 hw3' O2 A2
  refine Tc.plan_one 2 rfl (fun K hK => ?_)
  refine wpList_app_bytes rfl (.tmp 5) (.tmp 6) rfl base v0 (.slice (some ⟨w2.heap.size, 0, none⟩) 1 1) _ _ rfl rfl O3.out Y3.out (by have := HL.out; simp only [List.length_cons, List.length_append, List.length_nil] at this ⊢; omega) HB3.out ?_
  intro v4 w4 O4 s4
  go_wp2_with fail
  refine hK _ _ (stay_app s4.out (fun k hk => by subst hk; exact ⟨SZ3.out, NE.out⟩)) ?_
  have A4 := Lib.hid (A3.out.trans s4.out)
  have T4 := Lib.hid (T3.out.trans s4.out)
  have HB4 := Lib.hid (Nat.le_trans HB3.out s4.out.1.size)
  have SZ4 := Lib.hid (Nat.lt_of_lt_of_le SZ3.out s4.out.1.size)
  have NE4 := Lib.hid (s4.out.ne SZ3.out NE.out)
  clear hK K s4 O3 A3 Y3 T3
  refine Tc.plan_done (l := _) rfl (fun K hK => ?_)
  go_wp2_with fail
  refine (HU.out _).mono ?_
  rintro e w' ⟨rfl, rfl⟩
  go_wp2_with fail
  refine (numeral_any u HZ.out base v4 (l0 ++ [1]) _ O4.out HB4.out (by have := HL.out; rw [List.length_append]; simp only [List.length_cons, List.length_append, List.length_nil] at this ⊢; omega)).mono ?_
  rintro e w5 ⟨v5, rfl, o5, s5⟩
  have O5 := Lib.hid o5
  have A5 := Lib.hid (A4.out.trans s5)
  have HB5 := Lib.hid (Nat.le_trans HB4.out s5.1.size)
  clear o5 s5 O4 A4
  go_wp2_with fail
  go_ret
  exact ⟨v5, rfl, by have h := O5.out; rw [List.append_assoc] at h; exact h, A5.out⟩
set_option maxRecDepth 100000 in
set_option maxHeartbeats 8000000 in
theorem write2_any (n : Int) (s : ByteArray) (l : List Tv) (v : Value) (base : Nat) (v0 : Value) (l0 : List UInt8) (w : World) (hv : CodAt w v (.mk 2 n s l)) (h0 : Owns w base v0 l0) (hbase : base ≤ w.heap.size) (hlen : l0.length + (encV (.mk 2 n s l)).length ≤ 140737488340000) :
    Calls Tryz.prog 105 #[v0, v] w fun e w' => ∃ v', e = .returned v' ∧ Owns w' base v' (l0 ++ encV (.mk 2 n s l)) ∧ AppStep w v0 w' v' := by
  obtain ⟨a, cap, c, rfl, hk, hn, hs, hl, hc⟩ := hv.open
  obtain ⟨m, hm⟩ : ∃ m, l.length = m := ⟨_, rfl⟩
  rw [enc_2] at hlen ⊢
  rw [hm]
  have HL := Lib.hid hlen
  have HB := Lib.hid hbase
  have HO := Lib.hid h0
  have HS := Lib.hid (show s.size < 18446744073709551616 by omega)
  have w1 : IntKind.u64.wrap (s.size : Int) = (s.size : Int) := by rw [IntKind.wrap_u64]; omega
  clear hl hc hv hm hlen hbase h0
  go_enter Tryz.func105, Tryz.ntmps105
  have B0 := Lib.hid (Below.refl w.heap.size w)
  go_upto_region 1 with fail
  obtain ⟨w1, hw1⟩ : ∃ y, w.alloc (.cells #[.int .i64 2, .int .i64 n, .string s, .slice a m cap] 59) = y := ⟨_, rfl⟩
  have b1 : Below w.heap.size w w1 := by rw [← hw1]; exact (Below.refl _ _).alloc (Nat.le_refl _) _
  have V1 : Hid (RowV w1 w.heap.size 59 4 (valC 2 n s (.slice a m cap))) := Lib.hid (by rw [← hw1]; exact RowV.new w _ 4 (valC 2 n s (.slice a m cap)))
  have z1 : w.heap.size + 1 = w1.heap.size := by rw [← hw1]; exact (Array.size_push _).symm
  rw [hw1]
  (try rw [z1])
  have B1 := Lib.hid (B0.out.trans (b1.mono B0.out.size))
  clear b1 hw1 z1 B0
  have SZ := Lib.hid (V1.out.lt)
  have NE := Lib.hid (show v0.ownBlock ≠ some w.heap.size from fun e => by have := (World.ownsRow.lt HO.out _ e).2; omega)
  have O1 := Lib.hid (HO.out.below B1.out)
  have A1 := Lib.hid (AppStep.of_below v0 B1.out)
  refine Tc.wp_region_plan (Tc.Rl.stay (fun k => k = w.heap.size)) 12 [] (.fl 0 (.fl 3 (.fl 4 (.fl 5 (.fl 6 (.fl 8 (.fl 9 (.one 1 (.one 2 (.one 7 (.one 10 (.one 11 .done)))))))))))) (by kernel_rfl) (by kernel_rfl) ?_
  intro w2 b2 e2
  have B2 := Lib.hid (B1.out.trans (b2.mono B1.out.size))
  have V2 := Lib.hid (V1.out.below b2)
  have SZ2 := Lib.hid (show w.heap.size < w2.heap.size by rw [e2]; exact SZ.out)
  have O2 := Lib.hid (O1.out.below b2)
  have A2 := Lib.hid (A1.out.trans (AppStep.of_below v0 b2))
  have HB2 := Lib.hid (show base ≤ w2.heap.size by have := HB.out; have := SZ2.out; omega)
  clear b2 e2 B1 V1 O1 A1 SZ
  refine Tc.plan_floats [0, 3, 4, 5, 6, 8, 9] [_, _, _, _, _, _, _] rfl ?_
  dsimp only [List.getElem_toArray, List.getElem_cons_succ, List.getElem_cons_zero]
  repeat (go_big_quiet_want; go_big_quiet_op; first | go_big_quiet_on | (refine ⟨_, fun _ _ => rfl, ?_⟩; go_big_quiet_on))
  refine wpQuiet_load_cell rfl 9 (.tmp 8) rfl w.heap.size 2 rfl _ Tryz.underlying9 rfl (.string s) (fun W hW => (stay_row (S := fun k => k = w.heap.size) V2.out rfl hW).cell (i := 2) (by decide)) ?_
  simp only [Act.put, List.setIfInBounds_toArray, List.set_cons_succ, List.set_cons_zero]
  repeat (go_big_quiet_want; go_big_quiet_op; first | go_big_quiet_on | (refine ⟨_, fun _ _ => rfl, ?_⟩; go_big_quiet_on))
  refine wpQuiet_load_cell rfl 9 (.tmp 13) rfl w.heap.size 2 rfl _ Tryz.underlying9 rfl (.string s) (fun W hW => (stay_row (S := fun k => k = w.heap.size) V2.out rfl hW).cell (i := 2) (by decide)) ?_
  simp only [Act.put, List.setIfInBounds_toArray, List.set_cons_succ, List.set_cons_zero]
  refine wpQuiet_nil ?_
  refine Tc.plan_one 1 rfl (fun K hK => ?_)
  go_wp2_with fail
  have al := (Below.refl _ w2).alloc (Nat.le_refl _) (.cells #[vB 2] 5)
  refine hK _ _ (stay_below al (fun k hk => by subst hk; exact SZ2.out)) ?_
  have Y3 := Lib.hid (one_byte w2 2)
  have O3 := Lib.hid (O2.out.below al)
  have T3 := Lib.hid (AppStep.of_below v0 al)
  have A3 := Lib.hid (A2.out.trans (AppStep.of_below v0 al))
  have SZ3 := Lib.hid (Nat.lt_of_lt_of_le SZ2.out al.size)
  have HB3 := Lib.hid (Nat.le_trans HB2.out al.size)
  obtain ⟨w3, hw3⟩ : ∃ y, w2.alloc (.cells #[vB 2] 5) = y := ⟨_, rfl⟩
  have hw3' : w2.alloc (.cells #[.int .u8 2] 5) = w3 := hw3
  rw [hw3] at Y3 O3 A3 SZ3 HB3 T3
  rw [hw3']
  clear hK K al hw3 hw3' O2 A2
  refine Tc.plan_one 2 rfl (fun K hK => ?_)
  refine wpList_app_bytes rfl (.tmp 5) (.tmp 6) rfl base v0 (.slice (some ⟨w2.heap.size, 0, none⟩) 1 1) _ _ rfl rfl O3.out Y3.out (by have := HL.out; simp only [List.length_cons, List.length_append, List.length_nil] at this ⊢; omega) HB3.out ?_
  intro v4 w4 O4 s4
  go_wp2_with fail
  refine hK _ _ (stay_app s4.out (fun k hk => by subst hk; exact ⟨SZ3.out, NE.out⟩)) ?_
  have A4 := Lib.hid (A3.out.trans s4.out)
  have T4 := Lib.hid (T3.out.trans s4.out)
  have HB4 := Lib.hid (Nat.le_trans HB3.out s4.out.1.size)
  have SZ4 := Lib.hid (Nat.lt_of_lt_of_le SZ3.out s4.out.1.size)
  have NE4 := Lib.hid (s4.out.ne SZ3.out NE.out)
  clear hK K s4 O3 A3 Y3 T3
  refine Tc.plan_one 7 rfl (fun K hK => ?_)
  go_wp2_with fail
  refine (numeral_any s.size HS.out base v4 (l0 ++ [2]) _ O4.out HB4.out (by have := HL.out; rw [List.length_append]; simp only [List.length_cons, List.length_append, List.length_nil] at this ⊢; omega)).mono ?_
  rintro e w5 ⟨v5, rfl, o5, s5⟩
  have O5 := Lib.hid o5
  have A5 := Lib.hid (A4.out.trans s5)
  have HB5 := Lib.hid (Nat.le_trans HB4.out s5.1.size)
  go_wp2_with fail
  refine hK _ _ (stay_app s5 (fun k hk => by subst hk; exact ⟨SZ4.out, NE4.out⟩)) ?_
  have SZ5 := Lib.hid (Nat.lt_of_lt_of_le SZ4.out s5.1.size)
  have NE5 := Lib.hid (s5.ne SZ4.out NE4.out)
  clear hK K o5 s5 O4 A4
  refine Tc.plan_one 10 rfl (fun K hK => ?_)
  refine wpList_app_string rfl (.tmp 12) (.tmp 14) rfl base v5 s _ rfl rfl O5.out (by have := HL.out; have h2 := size_data s; simp only [List.length_cons, List.length_append, List.length_nil] at this ⊢; omega) HB5.out ?_
  intro v6 w6 O6 s6
  go_wp2_with fail
  refine hK _ _ (stay_app s6.out (fun k hk => by subst hk; exact ⟨SZ5.out, NE5.out⟩)) ?_
  have A6 := Lib.hid (A5.out.trans s6.out)
  clear hK K s6 O5 A5
  refine Tc.plan_one 11 rfl (fun K hK => ?_)
  go_wp2_with fail
  refine hK _ _ (Tc.Rl.refl _ _) ?_
  clear hK K
  refine Tc.plan_done (l := []) rfl (fun K hK => ?_)
  go_wp2_with fail
  go_ret
  exact ⟨v6, rfl, by have h := O6.out; rw [List.append_assoc, List.append_assoc] at h; exact h, A6.out⟩
/-- the function that writes a kind, and what it has captured -/
def wrF (k : Int) : FuncId := if k = 1 then 102 else if k = 2 then 105 else 106
def wrCap (c : Nat) (k : Int) : Array Value := if k = 3 then #[.pointer (some ⟨c, 0, none⟩)] else #[]
def WrOk (W0 : World) (b c : Nat) (v : Value) (t : Tv) : Prop := ∀ (base : Nat) (v0 : Value) (l0 : List UInt8) (w : World), W0.heap.size ≤ base → Below W0.heap.size W0 w → Owns w base v0 l0 → base ≤ w.heap.size → l0.length + (encV t).length ≤ 140737488340000 →
    Calls Tryz.prog (wrF t.k) (#[v0, v] ++ wrCap c t.k) w fun e w' => ∃ v', e = .returned v' ∧ Owns w' base v' (l0 ++ encV t) ∧ AppStep w v0 w' v'
theorem form_kind {t : Tv} (h : formB t = true) : t.k = 1 ∨ t.k = 2 ∨ t.k = 3 := by
  obtain ⟨k, n, s, l⟩ := t
  show k = 1 ∨ k = 2 ∨ k = 3
  by_cases h1 : k = 1
  · exact .inl h1
  by_cases h2 : k = 2
  · exact .inr (.inl h2)
  by_cases h3 : k = 3
  · exact .inr (.inr h3)
  · rw [form_no n s l h1 h2 h3] at h; cases h
theorem CodAt.kind {w : World} {f : Nat → Value} {t : Tv} (h : CodAt w (.agg (rowF 4 f)) t) : f 0 = .int .i64 t.k := by
  obtain ⟨k, n, s, l⟩ := t
  obtain ⟨a, cap, c, e, _⟩ := h.open
  have e1 := Value.agg.inj e
  have e2 : (rowF 4 f)[0]? = (#[.int .i64 k, .int .i64 n, .string s, .slice a l.length cap] : Array Value)[0]? := by rw [e1]
  rw [rowF_get (by decide)] at e2
  exact Option.some.inj e2
theorem encL_le (l : List Tv) {i : Nat} (h : i < l.length) : (encL (l.take i)).length + (encV (l.getD i tv0)).length ≤ (encL l).length := by
  have h1 : encL l = encL (l.take (i + 1)) ++ encL (l.drop (i + 1)) := by rw [← encL_append, List.take_append_drop]
  have h2 := congrArg List.length h1
  rw [encL_take l h, List.length_append, List.length_append] at h2
  omega
set_option maxRecDepth 100000 in
set_option maxHeartbeats 16000000 in
theorem write3_any (W0 : World) (b c : Nat) (hw : WrAt W0 b c) (n : Int) (s : ByteArray) (l : List Tv) (a : Option Addr) (m cap : Nat) (hm : l.length = m) (cc : Nat → Nat → Value) (hl : SlAt 4 W0 (.slice a m cap) m cc)
    (hcc : ∀ i, i < m → CodAt W0 (.agg (rowF 4 (cc i))) (l.getD i tv0)) (hf : ∀ i, i < m → formB (l.getD i tv0) = true) (hok : ∀ i, i < m → WrOk W0 b c (.agg (rowF 4 (cc i))) (l.getD i tv0)) : WrOk W0 b c (.agg #[.int .i64 3, .int .i64 n, .string s, .slice a m cap]) (.mk 3 n s l) := by
  intro base v0 l0 w hb0 hW h0 hbase hlen
  rw [enc_3] at hlen ⊢
  rw [hm] at hlen ⊢
  show Calls Tryz.prog 106 #[v0, .agg #[.int .i64 3, .int .i64 n, .string s, .slice a m cap], .pointer (some ⟨c, 0, none⟩)] w _
  have HW := Lib.hid hw
  have HM := Lib.hid hm
  have HL2 := Lib.hid hl
  have HC := Lib.hid hcc
  have HF := Lib.hid hf
  have HK := Lib.hid hok
  have HBB := Lib.hid hb0
  have HWW := Lib.hid hW
  have HL := Lib.hid hlen
  have HB := Lib.hid hbase
  have HO := Lib.hid h0
  have zm := hl.len_le
  have HS := Lib.hid (show m < 18446744073709551616 by omega)
  have w1 : IntKind.u64.wrap (m : Int) = (m : Int) := by rw [IntKind.wrap_u64]; omega
  clear hw hm hl hcc hf hok hb0 hW hlen hbase h0
  go_enter Tryz.func106, Tryz.ntmps106
  have B0 := Lib.hid (Below.refl w.heap.size w)
  go_upto_region 1 with fail
  obtain ⟨w1, hw1⟩ : ∃ y, w.alloc (.cells #[.int .i64 3, .int .i64 n, .string s, .slice a m cap] 59) = y := ⟨_, rfl⟩
  have b1 : Below w.heap.size w w1 := by rw [← hw1]; exact (Below.refl _ _).alloc (Nat.le_refl _) _
  have V1 : Hid (RowV w1 w.heap.size 59 4 (valC 3 n s (.slice a m cap))) := Lib.hid (by rw [← hw1]; exact RowV.new w _ 4 (valC 3 n s (.slice a m cap)))
  have z1 : w.heap.size + 1 = w1.heap.size := by rw [← hw1]; exact (Array.size_push _).symm
  rw [hw1]
  (try rw [z1])
  have B1 := Lib.hid (B0.out.trans (b1.mono B0.out.size))
  clear b1 hw1 z1 B0
  have SZ := Lib.hid (V1.out.lt)
  have NE := Lib.hid (show v0.ownBlock ≠ some w.heap.size from fun e => by have := (World.ownsRow.lt HO.out _ e).2; omega)
  have O1 := Lib.hid (HO.out.below B1.out)
  have A1 := Lib.hid (AppStep.of_below v0 B1.out)
  go_cut [0] (fun s0 wx => ∃ v, s0 = v ∧ Owns wx base v (l0 ++ (3 :: numE m)) ∧ AppStep w v0 wx v ∧ RowV wx w.heap.size 59 4 (valC 3 n s (.slice a m cap)) ∧ v.ownBlock ≠ some w.heap.size)
  case first =>
    refine Tc.wp_region_plan (Tc.Rl.stay (fun k => k = w.heap.size)) 7 [] (.fl 0 (.fl 3 (.fl 4 (.fl 5 (.fl 6 (.one 1 (.one 2 .done))))))) (by kernel_rfl) (by kernel_rfl) ?_
    intro w2 b2 e2
    have B2 := Lib.hid (B1.out.trans (b2.mono B1.out.size))
    have V2 := Lib.hid (V1.out.below b2)
    have SZ2 := Lib.hid (show w.heap.size < w2.heap.size by rw [e2]; exact SZ.out)
    have O2 := Lib.hid (O1.out.below b2)
    have A2 := Lib.hid (A1.out.trans (AppStep.of_below v0 b2))
    have HB2 := Lib.hid (show base ≤ w2.heap.size by have := HB.out; have := SZ2.out; omega)
    clear b2 e2 B1 V1 O1 A1 SZ
    refine Tc.plan_floats [0, 3, 4, 5, 6] [_, _, _, _, _] rfl ?_
    dsimp only [List.getElem_toArray, List.getElem_cons_succ, List.getElem_cons_zero]
    repeat (go_big_quiet_want; go_big_quiet_op; first | go_big_quiet_on | (refine ⟨_, fun _ _ => rfl, ?_⟩; go_big_quiet_on))
    refine wpQuiet_load_cell rfl 57 (.tmp 11) rfl w.heap.size 3 rfl _ Tryz.underlying57 rfl (.slice a m cap) (fun W hW => (stay_row (S := fun k => k = w.heap.size) V2.out rfl hW).cell (i := 3) (by decide)) ?_
    simp only [Act.put, List.setIfInBounds_toArray, List.set_cons_succ, List.set_cons_zero]
    repeat (go_big_quiet_want; go_big_quiet_op; first | go_big_quiet_on | (refine ⟨_, fun _ _ => rfl, ?_⟩; go_big_quiet_on))
    refine wpQuiet_nil ?_
    refine Tc.plan_one 1 rfl (fun K hK => ?_)
    go_wp2_with fail
    have al := (Below.refl _ w2).alloc (Nat.le_refl _) (.cells #[vB 3] 5)
    refine hK _ _ (stay_below al (fun k hk => by subst hk; exact SZ2.out)) ?_
    have Y3 := Lib.hid (one_byte w2 3)
    have O3 := Lib.hid (O2.out.below al)
    have T3 := Lib.hid (AppStep.of_below v0 al)
    have A3 := Lib.hid (A2.out.trans (AppStep.of_below v0 al))
    have SZ3 := Lib.hid (Nat.lt_of_lt_of_le SZ2.out al.size)
    have HB3 := Lib.hid (Nat.le_trans HB2.out al.size)
    obtain ⟨w3, hw3⟩ : ∃ y, w2.alloc (.cells #[vB 3] 5) = y := ⟨_, rfl⟩
    have hw3' : w2.alloc (.cells #[.int .u8 3] 5) = w3 := hw3
    rw [hw3] at Y3 O3 A3 SZ3 HB3 T3
    rw [hw3']
    clear hK K al hw3 hw3' O2 A2
    refine Tc.plan_one 2 rfl (fun K hK => ?_)
    refine wpList_app_bytes rfl (.tmp 8) (.tmp 9) rfl base v0 (.slice (some ⟨w2.heap.size, 0, none⟩) 1 1) _ _ rfl rfl O3.out Y3.out (by have := HL.out; simp only [List.length_cons, List.length_append, List.length_nil] at this ⊢; omega) HB3.out ?_
    intro v4 w4 O4 s4
    go_wp2_with fail
    refine hK _ _ (stay_app s4.out (fun k hk => by subst hk; exact ⟨SZ3.out, NE.out⟩)) ?_
    have A4 := Lib.hid (A3.out.trans s4.out)
    have T4 := Lib.hid (T3.out.trans s4.out)
    have HB4 := Lib.hid (Nat.le_trans HB3.out s4.out.1.size)
    have SZ4 := Lib.hid (Nat.lt_of_lt_of_le SZ3.out s4.out.1.size)
    have NE4 := Lib.hid (s4.out.ne SZ3.out NE.out)
    clear hK K s4 O3 A3 Y3 T3
    refine Tc.plan_done (l := _) rfl (fun K hK => ?_)
    go_wp2_with fail
    refine (numeral_any m HS.out base v4 (l0 ++ [3]) _ O4.out HB4.out (by have := HL.out; rw [List.length_append]; simp only [List.length_cons, List.length_append, List.length_nil] at this ⊢; omega)).mono ?_
    rintro e w5 ⟨v5, rfl, o5, s5⟩
    have O5 := Lib.hid o5
    have A5 := Lib.hid (A4.out.trans s5)
    have HB5 := Lib.hid (Nat.le_trans HB4.out s5.1.size)
    go_wp2_with fail
    go_meet
    exact ⟨v5, rfl, by have h := O5.out; rw [List.append_assoc] at h; exact h, A5.out, (T4.out.trans s5).row V2.out NE.out, ((T4.out.trans s5).ne SZ2.out NE.out)⟩
  case rest =>
    rename World => w6
    obtain ⟨v, e0, hO, hA, hV, hN⟩ := hcut
    obtain rfl : v = _ := e0.symm
    have O6 := Lib.hid hO
    have A6 := Lib.hid hA
    have x3 : w6.cell? ⟨w.heap.size, 3, none⟩ = some (.slice a m cap) := hV.cell (i := 3) (by decide)
    clear hO hA hN SZ NE O1 A1 B1 V1
    go_upto_region 3 with fail
    clear x3
    go_loopg [0, 19] m (fun g s0 s19 wx => ∃ (i : Nat) (u : Value), i + g = m ∧ s19 = .int .i64 (i : Int) ∧ s0 = u ∧ Hid (Owns wx base u ((l0 ++ 3 :: numE m) ++ encL (l.take i))) ∧ Hid (AppStep w v0 wx u))
    case atStart => exact ⟨0, v, by omega, rfl, rfl, Lib.hid (by rw [List.take_zero, show encL [] = [] from by simp [encL], List.append_nil]; exact O6.out), A6⟩
    case round =>
      clear O6 A6 hV
      obtain ⟨i, u, hi, rfl, e2, hO, hA⟩ := hrel
      obtain rfl : u = _ := e2.symm
      obtain ⟨w7, rfl⟩ : ∃ y, y = wr := ⟨_, rfl⟩
      by_cases hlt : i < m
      · have W7 := Lib.hid (HWW.out.trans ((hA.out.below HO.out HB.out).mono HBB.out))
        obtain ⟨b2, off, rfl, hcap, hb2, hcell⟩ := (HL2.out.below W7.out).at_elem hlt
        have HE := Lib.hid (hcell i hlt)
        have CE := Lib.hid (HC.out i hlt)
        have OC := Lib.hid CE.out.cells
        have KD := CE.out.kind
        have KI := form_kind (HF.out i hlt)
        have KO := Lib.hid (HK.out i hlt)
        have EL := Lib.hid (encL_le l (i := i) (by rw [HM.out]; exact hlt))
        have ET := Lib.hid (encL_take l (k := i) (by rw [HM.out]; exact hlt))
        obtain ⟨ti, hti⟩ : ∃ f, l.getD i tv0 = f := ⟨_, rfl⟩
        rw [hti] at CE KD KI KO EL ET
        have LB : Hid (((l0 ++ 3 :: numE m) ++ encL (l.take i)).length + (encV ti).length ≤ 140737488340000) := Lib.hid (by
          have h1 := HL.out; have h2 := EL.out
          simp only [List.length_append, List.length_cons] at h1 ⊢; omega)
        have d0 : decide ((i : Int) < (m : Int)) = true := by rw [decide_eq_true_iff]; omega
        have z1 : (0 : Int) ≤ (i : Int) := Int.natCast_nonneg i
        have z2 : (i : Int) < (m : Int) := by omega
        have p0 : 0 ≤ (i : Int) ∧ (i : Int) < (m : Int) := by omega
        have z3 : ((i : Int)).toNat = i := Int.toNat_natCast i
        have ZR := Lib.hid (RowV.new w7 59 4 zeroC)
        have KDH := Lib.hid KD
        have KIH := Lib.hid KI
        clear hcell hti hb2 hlt KD KI EL
        go_upto_region 5 with (first | ((with_reducible (show wpList _ _ _ (Oper.mk (some 22) _ _ _ _ _ :: _) _ _)); refine wpList_load_elem rfl 59 (.tmp 21) rfl b2 _ rfl 4 off i (by omega) (cc i) HE.out _ Tryz.underlying59 rfl (by kernel_rfl) ?_) | ((with_reducible (show wpList _ _ _ (Oper.mk none _ _ _ _ _ :: _) _ _)); refine wpList_store_rowV (o := ⟨none, .store 59 (.tmp 7) (.tmp 22), _, _, _, _⟩) rfl 59 (.tmp 7) (.tmp 22) rfl w7.heap.size rfl 4 59 _ (cc i) rfl ZR.out (by kernel_rfl) OC.out ?_; intro w8 V8 o8))
        have b8 : Below w7.heap.size w7 w8 := ((Below.refl _ w7).alloc (Nat.le_refl _) _).trans (o8.out.below (Nat.le_refl _) (by rw [World.size_alloc]; omega))
        have O8 := Lib.hid (hO.out.below b8)
        have A8 := Lib.hid (hA.out.trans (AppStep.of_below u b8))
        have W8 := Lib.hid (W7.out.trans (b8.mono W7.out.size))
        clear b8 o8 hO hA HE ZR OC W7
        refine Tc.wp_region_plan (Tc.Rl.stay (fun k => k < w8.heap.size)) 9 [] (.fl 0 (.fl 1 (.fl 2 (.fl 3 (.fl 4 (.fl 5 (.fl 6 (.fl 7 (.fl 8 .done))))))))) (by kernel_rfl) (by kernel_rfl) ?_
        intro w9 b9 e9
        have V9 := Lib.hid (V8.out.below b9)
        have O9 := Lib.hid (O8.out.below b9)
        have A9 := Lib.hid (A8.out.trans (AppStep.of_below u b9))
        have W9 := Lib.hid (W8.out.trans (b9.mono W8.out.size))
        have L1 := Lib.hid V8.out.lt
        have R1 := Lib.hid (HW.out.1.below W9.out)
        have R2 := Lib.hid (HW.out.2.below W9.out)
        have L2 := Lib.hid (Nat.lt_of_lt_of_le HW.out.1.lt W8.out.size)
        have L3 := Lib.hid (Nat.lt_of_lt_of_le HW.out.2.lt W8.out.size)
        have H9 := Lib.hid (show base ≤ w9.heap.size from Nat.le_trans HB.out A9.out.1.size)
        clear b9 e9 V8 O8 A8 W8
        refine Tc.plan_floats [0, 1, 2, 3, 4, 5, 6, 7, 8] [_, _, _, _, _, _, _, _, _] rfl ?_
        dsimp only [List.getElem_toArray, List.getElem_cons_succ, List.getElem_cons_zero]
        refine wpQuiet_load_cell rfl 113 (.tmp 2) rfl c 0 rfl _ Tryz.underlying113 rfl (.pointer (some ⟨b, 0, none⟩)) (fun W hW => (stay_row (S := fun k => k < w8.heap.size) R2.out L3.out hW).cell (i := 0) (by decide)) ?_
        simp only [Act.put, List.setIfInBounds_toArray, List.set_cons_succ, List.set_cons_zero]
        repeat (go_big_quiet_want; go_big_quiet_op; first | go_big_quiet_on | (refine ⟨_, fun _ _ => rfl, ?_⟩; go_big_quiet_on))
        rcases KIH.out with k1 | k1 | k1
        · refine wpQuiet_load_cell rfl 3 (.tmp 24) rfl w7.heap.size 0 rfl _ Tryz.underlying3 rfl (.int .i64 1) (fun W hW => ((stay_row (S := fun k => k < w8.heap.size) V9.out L1.out hW).cell (i := 0) (by decide)).trans (by rw [KDH.out, k1])) ?_
          simp only [Act.put, List.setIfInBounds_toArray, List.set_cons_succ, List.set_cons_zero]
          repeat (go_big_quiet_want; go_big_quiet_op; first | go_big_quiet_on | (refine ⟨_, fun _ _ => rfl, ?_⟩; go_big_quiet_on))
          refine wpQuiet_load_cell rfl 110 (.tmp 28) rfl b 1 rfl _ Tryz.underlying110 rfl (.func (.func 102) #[] #[]) (fun W hW => (stay_row (S := fun k => k < w8.heap.size) R1.out L2.out hW).cell (i := 1) (by decide)) ?_
          simp only [Act.put, List.setIfInBounds_toArray, List.set_cons_succ, List.set_cons_zero]
          repeat (go_big_quiet_want; go_big_quiet_op; first | go_big_quiet_on | (refine ⟨_, fun _ _ => rfl, ?_⟩; go_big_quiet_on))
          refine wpQuiet_load_agg rfl 59 (.tmp 7) rfl w7.heap.size rfl _ Tryz.underlying59 rfl 4 (by kernel_rfl) 59 (cc i) (fun W hW => stay_row (S := fun k => k < w8.heap.size) V9.out L1.out hW) ?_
          simp only [Act.put, List.setIfInBounds_toArray, List.set_cons_succ, List.set_cons_zero]
          refine wpQuiet_nil ?_
          have call : Calls Tryz.prog 102 #[u, .agg (rowF 4 (cc i))] w9 (fun e wx => ∃ vx, e = .returned vx ∧ Owns wx base vx (((l0 ++ 3 :: numE m) ++ encL (l.take i)) ++ encV ti) ∧ AppStep w9 u wx vx) := by
            have h := KO.out base u _ w9 HBB.out W9.out O9.out H9.out LB.out
            rw [k1] at h
            exact h
          have HCall := Lib.hid call
          clear call k1 KDH KIH V9 R1 R2 L1 L2 L3 KO LB
          refine Tc.plan_done (l := _) rfl (fun K hK => ?_)
          go_wp2_with fail
          refine HCall.out.mono ?_
          rintro e w10 ⟨u2, rfl, o10, s10⟩
          have O10 := Lib.hid o10
          have A10 := Lib.hid (A9.out.trans s10)
          clear o10 s10 A9 O9 HCall
          go_wp2_with fail
          go_roundg (gk - 1)
          case measure => omega
          case rel =>
            go_light
            exact ⟨i + 1, u2, by omega, by go_num, rfl, Lib.hid (by have h := O10.out; rw [List.append_assoc, ← ET.out] at h; exact h), A10⟩
        · refine wpQuiet_load_cell rfl 3 (.tmp 24) rfl w7.heap.size 0 rfl _ Tryz.underlying3 rfl (.int .i64 2) (fun W hW => ((stay_row (S := fun k => k < w8.heap.size) V9.out L1.out hW).cell (i := 0) (by decide)).trans (by rw [KDH.out, k1])) ?_
          simp only [Act.put, List.setIfInBounds_toArray, List.set_cons_succ, List.set_cons_zero]
          repeat (go_big_quiet_want; go_big_quiet_op; first | go_big_quiet_on | (refine ⟨_, fun _ _ => rfl, ?_⟩; go_big_quiet_on))
          refine wpQuiet_load_cell rfl 110 (.tmp 28) rfl b 2 rfl _ Tryz.underlying110 rfl (.func (.func 105) #[] #[]) (fun W hW => (stay_row (S := fun k => k < w8.heap.size) R1.out L2.out hW).cell (i := 2) (by decide)) ?_
          simp only [Act.put, List.setIfInBounds_toArray, List.set_cons_succ, List.set_cons_zero]
          repeat (go_big_quiet_want; go_big_quiet_op; first | go_big_quiet_on | (refine ⟨_, fun _ _ => rfl, ?_⟩; go_big_quiet_on))
          refine wpQuiet_load_agg rfl 59 (.tmp 7) rfl w7.heap.size rfl _ Tryz.underlying59 rfl 4 (by kernel_rfl) 59 (cc i) (fun W hW => stay_row (S := fun k => k < w8.heap.size) V9.out L1.out hW) ?_
          simp only [Act.put, List.setIfInBounds_toArray, List.set_cons_succ, List.set_cons_zero]
          refine wpQuiet_nil ?_
          have call : Calls Tryz.prog 105 #[u, .agg (rowF 4 (cc i))] w9 (fun e wx => ∃ vx, e = .returned vx ∧ Owns wx base vx (((l0 ++ 3 :: numE m) ++ encL (l.take i)) ++ encV ti) ∧ AppStep w9 u wx vx) := by
            have h := KO.out base u _ w9 HBB.out W9.out O9.out H9.out LB.out
            rw [k1] at h
            exact h
          have HCall := Lib.hid call
          clear call k1 KDH KIH V9 R1 R2 L1 L2 L3 KO LB
          refine Tc.plan_done (l := _) rfl (fun K hK => ?_)
          go_wp2_with fail
          refine HCall.out.mono ?_
          rintro e w10 ⟨u2, rfl, o10, s10⟩
          have O10 := Lib.hid o10
          have A10 := Lib.hid (A9.out.trans s10)
          clear o10 s10 A9 O9 HCall
          go_wp2_with fail
          go_roundg (gk - 1)
          case measure => omega
          case rel =>
            go_light
            exact ⟨i + 1, u2, by omega, by go_num, rfl, Lib.hid (by have h := O10.out; rw [List.append_assoc, ← ET.out] at h; exact h), A10⟩
        · refine wpQuiet_load_cell rfl 3 (.tmp 24) rfl w7.heap.size 0 rfl _ Tryz.underlying3 rfl (.int .i64 3) (fun W hW => ((stay_row (S := fun k => k < w8.heap.size) V9.out L1.out hW).cell (i := 0) (by decide)).trans (by rw [KDH.out, k1])) ?_
          simp only [Act.put, List.setIfInBounds_toArray, List.set_cons_succ, List.set_cons_zero]
          repeat (go_big_quiet_want; go_big_quiet_op; first | go_big_quiet_on | (refine ⟨_, fun _ _ => rfl, ?_⟩; go_big_quiet_on))
          refine wpQuiet_load_cell rfl 110 (.tmp 28) rfl b 3 rfl _ Tryz.underlying110 rfl (.func (.func 106) #[] #[.pointer (some ⟨c, 0, none⟩)]) (fun W hW => (stay_row (S := fun k => k < w8.heap.size) R1.out L2.out hW).cell (i := 3) (by decide)) ?_
          simp only [Act.put, List.setIfInBounds_toArray, List.set_cons_succ, List.set_cons_zero]
          repeat (go_big_quiet_want; go_big_quiet_op; first | go_big_quiet_on | (refine ⟨_, fun _ _ => rfl, ?_⟩; go_big_quiet_on))
          refine wpQuiet_load_agg rfl 59 (.tmp 7) rfl w7.heap.size rfl _ Tryz.underlying59 rfl 4 (by kernel_rfl) 59 (cc i) (fun W hW => stay_row (S := fun k => k < w8.heap.size) V9.out L1.out hW) ?_
          simp only [Act.put, List.setIfInBounds_toArray, List.set_cons_succ, List.set_cons_zero]
          refine wpQuiet_nil ?_
          have call : Calls Tryz.prog 106 #[u, .agg (rowF 4 (cc i)), .pointer (some ⟨c, 0, none⟩)] w9 (fun e wx => ∃ vx, e = .returned vx ∧ Owns wx base vx (((l0 ++ 3 :: numE m) ++ encL (l.take i)) ++ encV ti) ∧ AppStep w9 u wx vx) := by
            have h := KO.out base u _ w9 HBB.out W9.out O9.out H9.out LB.out
            rw [k1] at h
            exact h
          have HCall := Lib.hid call
          clear call k1 KDH KIH V9 R1 R2 L1 L2 L3 KO LB
          refine Tc.plan_done (l := _) rfl (fun K hK => ?_)
          go_wp2_with fail
          refine HCall.out.mono ?_
          rintro e w10 ⟨u2, rfl, o10, s10⟩
          have O10 := Lib.hid o10
          have A10 := Lib.hid (A9.out.trans s10)
          clear o10 s10 A9 O9 HCall
          go_wp2_with fail
          go_roundg (gk - 1)
          case measure => omega
          case rel =>
            go_light
            exact ⟨i + 1, u2, by omega, by go_num, rfl, Lib.hid (by have h := O10.out; rw [List.append_assoc, ← ET.out] at h; exact h), A10⟩
      · obtain rfl : i = m := by omega
        have d0 : decide ((i : Int) < (i : Int)) = false := by rw [decide_eq_false_iff_not]; omega
        have e1 : Hid (l.take i = l) := Lib.hid (List.take_of_length_le (by rw [HM.out]; exact Nat.le_refl _))
        go_wp2_with fail
        go_ret
        exact ⟨u, rfl, by have h := hO.out; rw [e1.out, List.append_assoc] at h; exact h, hA.out⟩
end Go.Proofs.YtpekhdahamloaaaGreatDoor

namespace Go.Proofs.YtpekhdahamloaaaGreatDoor
open Go.RowKit Cod
theorem write_all (W0 : World) (b c : Nat) (hw : WrAt W0 b c) : ∀ (d : Nat) (t : Tv) (v : Value), depthN t ≤ d → formB t = true → CodAt W0 v t → WrOk W0 b c v t := by
  intro d
  induction d using Nat.strongRecOn with
  | ind d ih =>
  intro t v hd hf hv
  obtain ⟨k, n, s, l⟩ := t
  rcases form_kind hf with h1 | h1 | h1
  · obtain rfl : k = 1 := h1
    intro base v0 l0 w hb0 hW h0 hbase hlen
    exact write1_any n s l v base v0 l0 w (hv.later hW) h0 hbase hlen
  · obtain rfl : k = 2 := h1
    intro base v0 l0 w hb0 hW h0 hbase hlen
    exact write2_any n s l v base v0 l0 w (hv.later hW) h0 hbase hlen
  · obtain rfl : k = 3 := h1
    obtain ⟨a, cap, c', rfl, hk, hn, hs, hl, hc⟩ := hv.open
    rw [depth_3] at hd
    rw [form_3, Bool.and_eq_true] at hf
    have hfi : ∀ i, i < l.length → formB (l.getD i tv0) = true := by
      intro i hi
      cases hb : formB (l.getD i tv0) with
      | true => rfl
      | false => rw [formL_no hi hb] at hf; exact absurd hf.2 (by decide)
    exact write3_any W0 b c hw n s l a l.length cap rfl c' hl hc hfi (fun i hi => ih (d - 1) (by omega) _ _ (depth_child hi (by omega)) (hfi i hi) (hc i hi))
theorem Owns.lower {w : World} {base low : Nat} {v : Value} {l : List UInt8} (h : Owns w base v l) (hb : low ≤ base) : Owns w low v l :=
  ⟨h.1, h.2.imp id (fun ⟨g, cap, cur, e, hb1, r⟩ => ⟨g, cap, cur, e, Nat.le_trans hb hb1, r⟩)⟩
/-- what Check answers -/
def chkT (t : Tv) : Int := if formB t then (if 16 < depthN t then 2 else 0) else 1
set_option maxRecDepth 100000 in
set_option maxHeartbeats 4000000 in
theorem ccheck_any (t : Tv) (v : Value) (w : World) (hd : depthN t ≤ 1000) (hv : CodAt w v t) :
    Calls Tryz.prog 59 #[v] w fun e w' => e = .returned (.int .i64 (chkT t)) ∧ Below w.heap.size w w' := by
  have H := Lib.hid (fun W h => formed_any 1000 (Nat.le_refl _) t v W hd h)
  have HV := Lib.hid hv
  obtain ⟨k, n, s, l⟩ := t
  obtain ⟨a, cap, c, rfl, -⟩ := hv.open
  obtain ⟨m, hm⟩ : ∃ m, l.length = m := ⟨_, rfl⟩
  rw [hm] at H HV ⊢
  obtain ⟨fb, hfb⟩ : ∃ f, formB (.mk k n s l) = f := ⟨_, rfl⟩
  obtain ⟨fd, hfd⟩ : ∃ f, fmD (.mk k n s l) = f := ⟨_, rfl⟩
  have FD : Hid (fb = true → fd = ((depthN (.mk k n s l) : Nat) : Int)) := Lib.hid (fun h => by rw [← hfd, fmD, hfb, h]; rfl)
  have CT : Hid (chkT (.mk k n s l) = if fb then (if 16 < depthN (.mk k n s l) then 2 else 0) else 1) := Lib.hid (by unfold chkT; rw [hfb])
  rw [hfb, hfd] at H
  obtain ⟨ct, hct⟩ : ∃ y, chkT (.mk k n s l) = y := ⟨_, rfl⟩
  rw [hct] at CT ⊢
  obtain ⟨dd, hdd⟩ : ∃ y, depthN (.mk k n s l) = y := ⟨_, rfl⟩
  rw [hdd] at CT FD
  clear hm hfb hfd hct hv hd hdd
  go_enter Tryz.func59, Tryz.ntmps59
  have B0 := Lib.hid (Below.refl w.heap.size w)
  go_upto_region 1 with fail
  obtain ⟨w1, hw1⟩ : ∃ y, w.alloc (.cells #[.int .i64 k, .int .i64 n, .string s, .slice a m cap] 59) = y := ⟨_, rfl⟩
  have b1 : Below w.heap.size w w1 := by rw [← hw1]; exact (Below.refl _ _).alloc (Nat.le_refl _) _
  have V1 : Hid (RowV w1 w.heap.size 59 4 (valC k n s (.slice a m cap))) := Lib.hid (by rw [← hw1]; exact RowV.new w _ 4 (valC k n s (.slice a m cap)))
  have z1 : w.heap.size + 1 = w1.heap.size := by rw [← hw1]; exact (Array.size_push _).symm
  rw [hw1]
  (try rw [z1])
  have B1 := Lib.hid (B0.out.trans (b1.mono B0.out.size))
  clear b1 hw1 z1 B0
  have x0 : _ = some (Value.int .i64 k) := V1.out.cell (i := 0) (by decide)
  have x1 : _ = some (Value.int .i64 n) := V1.out.cell (i := 1) (by decide)
  have x2 : _ = some (Value.string s) := V1.out.cell (i := 2) (by decide)
  have x3 : _ = some (Value.slice a m cap) := V1.out.cell (i := 3) (by decide)
  have C1 := Lib.hid (HV.out.later B1.out)
  go_wp2_with fail
  refine (H.out _ C1.out).mono ?_
  rintro e w2 ⟨rfl, b2⟩
  have B2 := Lib.hid (B1.out.trans (b2.mono B1.out.size))
  have V2 := Lib.hid (V1.out.below b2)
  clear b2 B1 V1
  clear x0 x1 x2 x3 H HV C1
  cases fb
  · obtain rfl : ct = 1 := CT.out
    clear CT FD
    go_wp2_with fail
    go_ret
    exact ⟨rfl, B2.out⟩
  · obtain rfl := FD.out rfl
    have CT2 : Hid (ct = if 16 < dd then 2 else 0) := Lib.hid CT.out
    clear CT FD
    by_cases h16 : 16 < dd
    · have d0 : decide ((16 : Int) < (dd : Int)) = true := by rw [decide_eq_true_iff]; omega
      have d1 : decide (16 < dd) = true := by rw [decide_eq_true_iff]; exact h16
      obtain rfl : ct = 2 := by rw [CT2.out, if_pos h16]
      clear CT2 h16
      go_wp2_with fail
      go_ret
      exact ⟨rfl, B2.out⟩
    · have d0 : decide ((16 : Int) < (dd : Int)) = false := by rw [decide_eq_false_iff_not]; omega
      have d1 : decide (16 < dd) = false := by rw [decide_eq_false_iff_not]; exact h16
      obtain rfl : ct = 0 := by rw [CT2.out, if_neg h16]
      clear CT2 h16
      go_wp2_with fail
      go_ret
      exact ⟨rfl, B2.out⟩
/-- what Encode answers -/
def EncPost (t : Tv) (w : World) (e : Ending) (w' : World) : Prop :=
  (if chkT t = 0 then ∃ u, e = .returned (.tuple #[u, .int .i64 0]) ∧ Owns w' w.heap.size u (encV t) else e = .returned (.tuple #[.slice none 0 0, .int .i64 (chkT t)])) ∧ Below w.heap.size w w'
theorem chkT_3 (t : Tv) : chkT t = 0 ∨ chkT t = 1 ∨ chkT t = 2 := by unfold chkT; split <;> (try split) <;> simp
theorem chkT_0 {t : Tv} (h : chkT t = 0) : formB t = true ∧ depthN t ≤ 16 := by
  unfold chkT at h
  split at h
  · rename_i h1
    refine ⟨h1, ?_⟩
    split at h
    · cases h
    · omega
  · cases h
set_option maxRecDepth 100000 in
set_option maxHeartbeats 8000000 in
theorem cencode_any (t : Tv) (v : Value) (w : World) (hd : depthN t ≤ 1000) (hv : CodAt w v t) (hlen : (encV t).length ≤ 140737488340000) :
    Calls Tryz.prog 26 #[v] w (EncPost t w) := by
  have H := Lib.hid (fun W h => ccheck_any t v W hd h)
  have HW := Lib.hid (fun (hf : formB t = true) (W0 : World) (b c : Nat) (hw : WrAt W0 b c) (h : CodAt W0 v t) => write_all W0 b c hw 1000 t v hd hf h)
  have HV := Lib.hid hv
  have HL := Lib.hid hlen
  have HD := Lib.hid hd
  obtain ⟨k, n, s, l⟩ := t
  obtain ⟨a, cap, c, rfl, -⟩ := hv.open
  obtain ⟨m, hm⟩ : ∃ m, l.length = m := ⟨_, rfl⟩
  rw [hm] at H HV HW ⊢
  obtain ⟨ct, hct⟩ : ∃ y, chkT (.mk k n s l) = y := ⟨_, rfl⟩
  have HCT := Lib.hid hct
  rw [hct] at H
  clear hm hct hv hlen hd
  rcases (HCT.out ▸ chkT_3 (.mk k n s l) : ct = 0 ∨ ct = 1 ∨ ct = 2) with h0 | h0
  · subst h0
    have HF := chkT_0 HCT.out
    have KI := Lib.hid (form_kind HF.1)
    have W1 := Lib.hid (HW.out HF.1)
    clear HF HW
    go_enter Tryz.func26, Tryz.ntmps26
    have B0 := Lib.hid (Below.refl w.heap.size w)
    go_upto_region 1 with fail
    obtain ⟨w1, hw1⟩ : ∃ y, w.alloc (.cells #[.int .i64 k, .int .i64 n, .string s, .slice a m cap] 59) = y := ⟨_, rfl⟩
    have b1 : Below w.heap.size w w1 := by rw [← hw1]; exact (Below.refl _ _).alloc (Nat.le_refl _) _
    have V1 : Hid (RowV w1 w.heap.size 59 4 (valC k n s (.slice a m cap))) := Lib.hid (by rw [← hw1]; exact RowV.new w _ 4 (valC k n s (.slice a m cap)))
    have z1 : w.heap.size + 1 = w1.heap.size := by rw [← hw1]; exact (Array.size_push _).symm
    rw [hw1]
    (try rw [z1])
    have B1 := Lib.hid (B0.out.trans (b1.mono B0.out.size))
    clear b1 hw1 z1 B0
    have x0 : _ = some (Value.int .i64 k) := V1.out.cell (i := 0) (by decide)
    have x1 : _ = some (Value.int .i64 n) := V1.out.cell (i := 1) (by decide)
    have x2 : _ = some (Value.string s) := V1.out.cell (i := 2) (by decide)
    have x3 : _ = some (Value.slice a m cap) := V1.out.cell (i := 3) (by decide)
    have C1 := Lib.hid (HV.out.later B1.out)
    go_wp2_with fail
    refine (H.out _ C1.out).mono ?_
    rintro e w2 ⟨rfl, b2⟩
    have B2 := Lib.hid (B1.out.trans (b2.mono B1.out.size))
    have V2 := Lib.hid (V1.out.below b2)
    clear b2 B1 V1
    clear x0 x1 x2 x3 H C1
    go_upto_region 4 with fail
    have L2 := Lib.hid V2.out.lt
    refine Tc.wp_region_plan (Tc.Rl.stay (fun k => k < w2.heap.size)) 8 [] (.fl 1 (.fl 2 (.fl 7 (.one 0 (.fl 3 (.fl 4 (.fl 5 (.one 6 .done)))))))) (by kernel_rfl) (by kernel_rfl) ?_
    intro w3 b3 e3
    have B3 := Lib.hid (B2.out.trans (b3.mono B2.out.size))
    have V3 := Lib.hid (V2.out.below b3)
    have S3 := Lib.hid b3.size
    clear b3 e3 B2 V2
    refine Tc.plan_floats [1, 2, 7] [_, _, _] rfl ?_
    dsimp only [List.getElem_toArray, List.getElem_cons_succ, List.getElem_cons_zero]
    repeat (go_big_quiet_want; go_big_quiet_op; first | go_big_quiet_on | (refine ⟨_, fun _ _ => rfl, ?_⟩; go_big_quiet_on))
    refine wpQuiet_load_cell rfl 3 (.tmp 11) rfl w.heap.size 0 rfl _ Tryz.underlying3 rfl (.int .i64 k) (fun W hW => (stay_row (S := fun k => k < w2.heap.size) V3.out L2.out hW).cell (i := 0) (by decide)) ?_
    simp only [Act.put, List.setIfInBounds_toArray, List.set_cons_succ, List.set_cons_zero]
    refine wpQuiet_load_agg rfl 59 (.tmp 1) rfl w.heap.size rfl _ Tryz.underlying59 rfl 4 (by kernel_rfl) 59 _ (fun W hW => stay_row (S := fun k => k < w2.heap.size) V3.out L2.out hW) ?_
    simp only [Act.put, List.setIfInBounds_toArray, List.set_cons_succ, List.set_cons_zero]
    refine wpQuiet_nil ?_
    refine Tc.plan_one 0 rfl (fun K hK => ?_)
    go_wp2_with fail
    refine (newWriter_any _).mono ?_
    rintro e w4 ⟨⟨b, c, rfl, hwr⟩, b4⟩
    go_wp2_with fail
    refine hK _ _ (stay_below b4 (fun k hk => Nat.lt_of_lt_of_le hk S3.out)) ?_
    have B4 := Lib.hid (B3.out.trans (b4.mono B3.out.size))
    have R4 := Lib.hid hwr
    have HC := Lib.hid (W1.out w4 b c hwr (HV.out.later B4.out))
    clear hK K b4 hwr B3 V3 S3 L2 W1 HV
    rcases KI.out with k1 | k1 | k1
    · obtain rfl : k = 1 := k1
      have call : Calls Tryz.prog 102 (#[.slice none 0 0, .agg #[.int .i64 1, .int .i64 n, .string s, .slice a m cap]]) w4 (fun e wx => ∃ vx, e = .returned vx ∧ Owns wx w4.heap.size vx ([] ++ encV (.mk 1 n s l)) ∧ AppStep w4 (.slice none 0 0) wx vx) :=
        HC.out w4.heap.size (.slice none 0 0) [] w4 (Nat.le_refl _) (Below.refl _ _) (Owns.nil _ _) (Nat.le_refl _) (by have := HL.out; simpa using this)
      have HCall := Lib.hid call
      have EP : Hid (chkT (.mk 1 n s l) = 0) := HCT
      clear call HC HCT KI
      refine Tc.plan_floats [3, 4, 5] [_, _, _] rfl ?_
      dsimp only [List.getElem_toArray, List.getElem_cons_succ, List.getElem_cons_zero]
      repeat (go_big_quiet_want; go_big_quiet_op; first | go_big_quiet_on | (refine ⟨_, fun _ _ => rfl, ?_⟩; go_big_quiet_on))
      refine wpQuiet_nil ?_
      refine Tc.plan_one 6 rfl (fun K hK => ?_)
      have y : w4.cell? ⟨b, 1, none⟩ = some (.func (.func 102) #[] #[]) := R4.out.1.cell (i := 1) (by decide)
      go_wp2_with fail
      refine hK _ _ (Tc.Rl.refl _ _) ?_
      clear hK K y
      refine Tc.plan_done (l := _) rfl (fun K hK => ?_)
      go_wp2_with fail
      refine HCall.out.mono ?_
      rintro e w5 ⟨u, rfl, o5, s5⟩
      have O5 := Lib.hid o5
      have B5 := Lib.hid (B4.out.trans ((s5.below (Owns.nil w4 w4.heap.size) (Nat.le_refl _)).mono B4.out.size))
      clear o5 s5 HCall
      go_wp2_with fail
      go_ret2
      exact ⟨by rw [EP.out, if_pos rfl]; exact ⟨u, rfl, O5.out.lower B4.out.size⟩, B5.out⟩
    · obtain rfl : k = 2 := k1
      have call : Calls Tryz.prog 105 (#[.slice none 0 0, .agg #[.int .i64 2, .int .i64 n, .string s, .slice a m cap]]) w4 (fun e wx => ∃ vx, e = .returned vx ∧ Owns wx w4.heap.size vx ([] ++ encV (.mk 2 n s l)) ∧ AppStep w4 (.slice none 0 0) wx vx) :=
        HC.out w4.heap.size (.slice none 0 0) [] w4 (Nat.le_refl _) (Below.refl _ _) (Owns.nil _ _) (Nat.le_refl _) (by have := HL.out; simpa using this)
      have HCall := Lib.hid call
      have EP : Hid (chkT (.mk 2 n s l) = 0) := HCT
      clear call HC HCT KI
      refine Tc.plan_floats [3, 4, 5] [_, _, _] rfl ?_
      dsimp only [List.getElem_toArray, List.getElem_cons_succ, List.getElem_cons_zero]
      repeat (go_big_quiet_want; go_big_quiet_op; first | go_big_quiet_on | (refine ⟨_, fun _ _ => rfl, ?_⟩; go_big_quiet_on))
      refine wpQuiet_nil ?_
      refine Tc.plan_one 6 rfl (fun K hK => ?_)
      have y : w4.cell? ⟨b, 2, none⟩ = some (.func (.func 105) #[] #[]) := R4.out.1.cell (i := 2) (by decide)
      go_wp2_with fail
      refine hK _ _ (Tc.Rl.refl _ _) ?_
      clear hK K y
      refine Tc.plan_done (l := _) rfl (fun K hK => ?_)
      go_wp2_with fail
      refine HCall.out.mono ?_
      rintro e w5 ⟨u, rfl, o5, s5⟩
      have O5 := Lib.hid o5
      have B5 := Lib.hid (B4.out.trans ((s5.below (Owns.nil w4 w4.heap.size) (Nat.le_refl _)).mono B4.out.size))
      clear o5 s5 HCall
      go_wp2_with fail
      go_ret2
      exact ⟨by rw [EP.out, if_pos rfl]; exact ⟨u, rfl, O5.out.lower B4.out.size⟩, B5.out⟩
    · obtain rfl : k = 3 := k1
      have call : Calls Tryz.prog 106 (#[.slice none 0 0, .agg #[.int .i64 3, .int .i64 n, .string s, .slice a m cap], .pointer (some ⟨c, 0, none⟩)]) w4 (fun e wx => ∃ vx, e = .returned vx ∧ Owns wx w4.heap.size vx ([] ++ encV (.mk 3 n s l)) ∧ AppStep w4 (.slice none 0 0) wx vx) :=
        HC.out w4.heap.size (.slice none 0 0) [] w4 (Nat.le_refl _) (Below.refl _ _) (Owns.nil _ _) (Nat.le_refl _) (by have := HL.out; simpa using this)
      have HCall := Lib.hid call
      have EP : Hid (chkT (.mk 3 n s l) = 0) := HCT
      clear call HC HCT KI
      refine Tc.plan_floats [3, 4, 5] [_, _, _] rfl ?_
      dsimp only [List.getElem_toArray, List.getElem_cons_succ, List.getElem_cons_zero]
      repeat (go_big_quiet_want; go_big_quiet_op; first | go_big_quiet_on | (refine ⟨_, fun _ _ => rfl, ?_⟩; go_big_quiet_on))
      refine wpQuiet_nil ?_
      refine Tc.plan_one 6 rfl (fun K hK => ?_)
      have y : w4.cell? ⟨b, 3, none⟩ = some (.func (.func 106) #[] #[.pointer (some ⟨c, 0, none⟩)]) := R4.out.1.cell (i := 3) (by decide)
      go_wp2_with fail
      refine hK _ _ (Tc.Rl.refl _ _) ?_
      clear hK K y
      refine Tc.plan_done (l := _) rfl (fun K hK => ?_)
      go_wp2_with fail
      refine HCall.out.mono ?_
      rintro e w5 ⟨u, rfl, o5, s5⟩
      have O5 := Lib.hid o5
      have B5 := Lib.hid (B4.out.trans ((s5.below (Owns.nil w4 w4.heap.size) (Nat.le_refl _)).mono B4.out.size))
      clear o5 s5 HCall
      go_wp2_with fail
      go_ret2
      exact ⟨by rw [EP.out, if_pos rfl]; exact ⟨u, rfl, O5.out.lower B4.out.size⟩, B5.out⟩
  · have EP : Hid (EncPost (.mk k n s l) w = fun e w' => e = .returned (.tuple #[.slice none 0 0, .int .i64 ct]) ∧ Below w.heap.size w w') := Lib.hid (by
      funext e w'; unfold EncPost; rw [HCT.out, if_neg (by rcases h0 with h | h <;> rw [h] <;> decide)])
    rw [EP.out]
    clear EP HW HCT
    rcases h0 with h0 | h0 <;> subst h0
    · go_enter Tryz.func26, Tryz.ntmps26
      have B0 := Lib.hid (Below.refl w.heap.size w)
      go_upto_region 1 with fail
      obtain ⟨w1, hw1⟩ : ∃ y, w.alloc (.cells #[.int .i64 k, .int .i64 n, .string s, .slice a m cap] 59) = y := ⟨_, rfl⟩
      have b1 : Below w.heap.size w w1 := by rw [← hw1]; exact (Below.refl _ _).alloc (Nat.le_refl _) _
      have V1 : Hid (RowV w1 w.heap.size 59 4 (valC k n s (.slice a m cap))) := Lib.hid (by rw [← hw1]; exact RowV.new w _ 4 (valC k n s (.slice a m cap)))
      have z1 : w.heap.size + 1 = w1.heap.size := by rw [← hw1]; exact (Array.size_push _).symm
      rw [hw1]
      (try rw [z1])
      have B1 := Lib.hid (B0.out.trans (b1.mono B0.out.size))
      clear b1 hw1 z1 B0
      have x0 : _ = some (Value.int .i64 k) := V1.out.cell (i := 0) (by decide)
      have x1 : _ = some (Value.int .i64 n) := V1.out.cell (i := 1) (by decide)
      have x2 : _ = some (Value.string s) := V1.out.cell (i := 2) (by decide)
      have x3 : _ = some (Value.slice a m cap) := V1.out.cell (i := 3) (by decide)
      have C1 := Lib.hid (HV.out.later B1.out)
      go_wp2_with fail
      refine (H.out _ C1.out).mono ?_
      rintro e w2 ⟨rfl, b2⟩
      have B2 := Lib.hid (B1.out.trans (b2.mono B1.out.size))
      have V2 := Lib.hid (V1.out.below b2)
      clear b2 B1 V1
      go_wp2_with fail
      go_ret2
      exact ⟨rfl, B2.out⟩
    · go_enter Tryz.func26, Tryz.ntmps26
      have B0 := Lib.hid (Below.refl w.heap.size w)
      go_upto_region 1 with fail
      obtain ⟨w1, hw1⟩ : ∃ y, w.alloc (.cells #[.int .i64 k, .int .i64 n, .string s, .slice a m cap] 59) = y := ⟨_, rfl⟩
      have b1 : Below w.heap.size w w1 := by rw [← hw1]; exact (Below.refl _ _).alloc (Nat.le_refl _) _
      have V1 : Hid (RowV w1 w.heap.size 59 4 (valC k n s (.slice a m cap))) := Lib.hid (by rw [← hw1]; exact RowV.new w _ 4 (valC k n s (.slice a m cap)))
      have z1 : w.heap.size + 1 = w1.heap.size := by rw [← hw1]; exact (Array.size_push _).symm
      rw [hw1]
      (try rw [z1])
      have B1 := Lib.hid (B0.out.trans (b1.mono B0.out.size))
      clear b1 hw1 z1 B0
      have x0 : _ = some (Value.int .i64 k) := V1.out.cell (i := 0) (by decide)
      have x1 : _ = some (Value.int .i64 n) := V1.out.cell (i := 1) (by decide)
      have x2 : _ = some (Value.string s) := V1.out.cell (i := 2) (by decide)
      have x3 : _ = some (Value.slice a m cap) := V1.out.cell (i := 3) (by decide)
      have C1 := Lib.hid (HV.out.later B1.out)
      go_wp2_with fail
      refine (H.out _ C1.out).mono ?_
      rintro e w2 ⟨rfl, b2⟩
      have B2 := Lib.hid (B1.out.trans (b2.mono B1.out.size))
      have V2 := Lib.hid (V1.out.below b2)
      clear b2 B1 V1
      go_wp2_with fail
      go_ret2
      exact ⟨rfl, B2.out⟩
end Go.Proofs.YtpekhdahamloaaaGreatDoor

namespace Go.Proofs.YtpekhdahamloaaaGreatDoor
open Go.RowKit Cod
set_option maxRecDepth 100000 in
set_option maxHeartbeats 16000000 in
theorem rformed_any : ∀ (d : Nat), ∀ (t : Tv) (v : Value) (w : World), depthN t ≤ d → CodAt w v t →
    Calls Tryz.prog 153 #[v] w fun e w' => e = .returned (.bool (formB t)) ∧ Below w.heap.size w w' := by
  intro d
  induction d using Nat.strongRecOn with
  | ind d ih =>
  intro t v w ht hv
  obtain ⟨k, n, s, l⟩ := t
  obtain ⟨a, cap, c, rfl, hk, hn, hs, hl, hc⟩ := hv.open
  obtain ⟨m, hm⟩ : ∃ m, l.length = m := ⟨_, rfl⟩
  have em : ((m : Int) == 0) = l.isEmpty := by
    rw [← hm]; cases l <;> simp
    omega
  rw [hm] at hl hc ⊢
  obtain ⟨bs, hbs⟩ : ∃ b, s.toList.isEmpty = b := ⟨_, rfl⟩
  obtain ⟨bm, hbm⟩ : ∃ b, ((m : Int) == 0) = b := ⟨_, rfl⟩
  obtain ⟨bn, hbn⟩ : ∃ b, (n == 0) = b := ⟨_, rfl⟩
  have e1 : formB (.mk 1 n s l) = (bs && bm) := by rw [form_1, ← em, ← empty_dec, hbs, hbm]
  have e2 : formB (.mk 2 n s l) = (bn && bm) := by rw [form_2, ← em, hbm, ← hbn]; rfl
  have e3 : formB (.mk 3 n s l) = (bn && bs && formL l) := by rw [form_3, ← empty_dec, hbs, ← hbn]; rfl
  have zm := hl.len_le
  have HL2 := Lib.hid hl
  have HC := Lib.hid hc
  have HM := Lib.hid hm
  have E1 := Lib.hid e1
  have E2 := Lib.hid e2
  have E3 := Lib.hid e3
  by_cases k1 : k = 1
  · subst k1
    rw [E1.out]
    clear hl hc hv hm ht e1 e2 e3 em E1 E2 E3 HL2 HC HM ih
    go_enter Tryz.func153, Tryz.ntmps153
    have B0 := Lib.hid (Below.refl w.heap.size w)
    go_upto_region 1 with fail
    obtain ⟨w1, hw1⟩ : ∃ y, w.alloc (.cells #[.int .i64 1, .int .i64 n, .string s, .slice a m cap] 59) = y := ⟨_, rfl⟩
    have b1 : Below w.heap.size w w1 := by rw [← hw1]; exact (Below.refl _ _).alloc (Nat.le_refl _) _
    have V1 : Hid (RowV w1 w.heap.size 59 4 (valC 1 n s (.slice a m cap))) := Lib.hid (by rw [← hw1]; exact RowV.new w _ 4 (valC 1 n s (.slice a m cap)))
    have z1 : w.heap.size + 1 = w1.heap.size := by rw [← hw1]; exact (Array.size_push _).symm
    rw [hw1]
    (try rw [z1])
    have B1 := Lib.hid (B0.out.trans (b1.mono B0.out.size))
    clear b1 hw1 z1 B0
    have x0 : _ = some (Value.int .i64 1) := V1.out.cell (i := 0) (by decide)
    have x2 : _ = some (Value.string s) := V1.out.cell (i := 2) (by decide)
    have x3 : _ = some (Value.slice a m cap) := V1.out.cell (i := 3) (by decide)
    clear hbn
    cases bs <;> cases bm <;> (go_wp2_with fail; go_ret; exact ⟨rfl, B1.out⟩)
  by_cases k2 : k = 2
  · subst k2
    rw [E2.out]
    clear hl hc hv hm ht e1 e2 e3 em E1 E2 E3 HL2 HC HM ih k1
    go_enter Tryz.func153, Tryz.ntmps153
    have B0 := Lib.hid (Below.refl w.heap.size w)
    go_upto_region 1 with fail
    obtain ⟨w1, hw1⟩ : ∃ y, w.alloc (.cells #[.int .i64 2, .int .i64 n, .string s, .slice a m cap] 59) = y := ⟨_, rfl⟩
    have b1 : Below w.heap.size w w1 := by rw [← hw1]; exact (Below.refl _ _).alloc (Nat.le_refl _) _
    have V1 : Hid (RowV w1 w.heap.size 59 4 (valC 2 n s (.slice a m cap))) := Lib.hid (by rw [← hw1]; exact RowV.new w _ 4 (valC 2 n s (.slice a m cap)))
    have z1 : w.heap.size + 1 = w1.heap.size := by rw [← hw1]; exact (Array.size_push _).symm
    rw [hw1]
    (try rw [z1])
    have B1 := Lib.hid (B0.out.trans (b1.mono B0.out.size))
    clear b1 hw1 z1 B0
    have x0 : _ = some (Value.int .i64 2) := V1.out.cell (i := 0) (by decide)
    have x1 : _ = some (Value.int .i64 n) := V1.out.cell (i := 1) (by decide)
    have x3 : _ = some (Value.slice a m cap) := V1.out.cell (i := 3) (by decide)
    clear hbs
    cases bn <;> cases bm <;> (go_wp2_with fail; go_ret; exact ⟨rfl, B1.out⟩)
  by_cases k3 : k = 3
  · subst k3
    rw [depth_3] at ht
    have HT3 := Lib.hid ht
    have CH : Hid (∀ i, i < m → ∀ W, CodAt W (.agg (rowF 4 (c i))) (l.getD i tv0) → Calls Tryz.prog 153 #[.agg (rowF 4 (c i))] W fun e w' => e = .returned (.bool (formB (l.getD i tv0))) ∧ Below W.heap.size W w') := Lib.hid (fun i hi W h =>
      ih (d - 1) (by omega) (l.getD i tv0) _ W (depth_child (by rw [hm]; exact hi) (by omega)) h)
    have L0 : Hid (formL (l.take 0) = true) := Lib.hid (by simp [formL])
    have HS := Lib.hid hbs
    have HN := Lib.hid hbn
    rw [E3.out]
    clear hl hc hv hm ht e1 e2 e3 em E1 E2 E3 ih k1 k2 hbs hbn hbm
    go_enter Tryz.func153, Tryz.ntmps153
    have B0 := Lib.hid (Below.refl w.heap.size w)
    go_upto_region 1 with fail
    obtain ⟨w1, hw1⟩ : ∃ y, w.alloc (.cells #[.int .i64 3, .int .i64 n, .string s, .slice a m cap] 59) = y := ⟨_, rfl⟩
    have b1 : Below w.heap.size w w1 := by rw [← hw1]; exact (Below.refl _ _).alloc (Nat.le_refl _) _
    have V1 : Hid (RowV w1 w.heap.size 59 4 (valC 3 n s (.slice a m cap))) := Lib.hid (by rw [← hw1]; exact RowV.new w _ 4 (valC 3 n s (.slice a m cap)))
    have z1 : w.heap.size + 1 = w1.heap.size := by rw [← hw1]; exact (Array.size_push _).symm
    rw [hw1]
    (try rw [z1])
    have B1 := Lib.hid (B0.out.trans (b1.mono B0.out.size))
    clear b1 hw1 z1 B0
    have x0 : _ = some (Value.int .i64 3) := V1.out.cell (i := 0) (by decide)
    go_wp2_with fail
    clear x0
    go_loopg [3] m (fun g s3 wx => ∃ i : Nat, i + g = m ∧ s3 = .int .i64 (i : Int) ∧ Hid (formL (l.take i) = true) ∧ Hid (Below w1.heap.size w1 wx))
    case atStart => exact ⟨0, by omega, rfl, L0, Lib.hid (Below.refl _ _)⟩
    case round =>
      obtain ⟨i, hi, rfl, hF, hB⟩ := hrel
      obtain ⟨w3, rfl⟩ : ∃ y, y = wr := ⟨_, rfl⟩
      have V3 := Lib.hid (V1.out.below hB.out)
      have B3 := Lib.hid (B1.out.trans (hB.out.mono B1.out.size))
      have x3 : _ = some (Value.slice a m cap) := V3.out.cell (i := 3) (by decide)
      by_cases hlt : i < m
      · obtain ⟨b2, off, rfl, hcap, hb2, hcell⟩ := (HL2.out.below B3.out).at_elem hlt
        have HE := Lib.hid (hcell i hlt)
        have CE := Lib.hid (HC.out i hlt)
        have CA := Lib.hid (CH.out i hlt)
        have ST := Lib.hid (formL_take l (k := i) (by rw [HM.out]; exact hlt))
        have NO := Lib.hid (fun h => formL_no (l := l) (k := i) (by rw [HM.out]; exact hlt) h)
        obtain ⟨ti, hti⟩ : ∃ f, l.getD i tv0 = f := ⟨_, rfl⟩
        rw [hti] at CE CA ST NO
        obtain ⟨fb, hfb⟩ : ∃ f, formB ti = f := ⟨_, rfl⟩
        rw [hfb] at CA ST NO
        have d0 : decide ((i : Int) < (m : Int)) = true := by rw [decide_eq_true_iff]; omega
        have z1 : (0 : Int) ≤ (i : Int) := Int.natCast_nonneg i
        have z2 : (i : Int) < (m : Int) := by omega
        have p0 : 0 ≤ (i : Int) ∧ (i : Int) < (m : Int) := by omega
        have z3 : ((i : Int)).toNat = i := Int.toNat_natCast i
        clear hcell hti hfb hb2 hlt
        go_wp2_with ((with_reducible (show wpList _ _ _ (Oper.mk (some 41) _ _ _ _ _ :: _) _ _)); refine wpList_load_elem rfl 59 (.tmp 40) rfl b2 _ rfl 4 off i (by omega) (c i) HE.out _ Tryz.underlying59 rfl (by kernel_rfl) ?_)
        refine (CA.out _ (CE.out.later B3.out)).mono ?_
        rintro e w4 ⟨rfl, b4⟩
        have B4 := Lib.hid (B3.out.trans (b4.mono B3.out.size))
        have K4 := Lib.hid (hB.out.trans (b4.mono hB.out.size))
        clear b4 B3 hB HE CE CA x3 V3
        cases fb
        · have F : Hid (Ending.returned (.bool false) = Ending.returned (.bool (bn && bs && formL l))) := Lib.hid (by rw [NO.out rfl, Bool.and_false])
          clear CH HC ST NO
          go_wp2_with fail
          go_ret
          exact ⟨F.out, B4.out⟩
        · have L1 : Hid (formL (l.take (i + 1)) = true) := Lib.hid (by rw [ST.out, hF.out]; rfl)
          clear ST NO
          go_wp2_with fail
          go_roundg (gk - 1)
          case measure => omega
          case rel =>
            go_light
            exact ⟨i + 1, by omega, by go_num, L1, K4⟩
      · obtain rfl : i = m := by omega
        have d0 : decide ((i : Int) < (i : Int)) = false := by rw [decide_eq_false_iff_not]; omega
        have e1 : l.take i = l := List.take_of_length_le (by rw [HM.out]; exact Nat.le_refl _)
        rw [e1] at hF
        have F := Lib.hid hF.out
        have x1 : _ = some (Value.int .i64 n) := V3.out.cell (i := 1) (by decide)
        have x2 : _ = some (Value.string s) := V3.out.cell (i := 2) (by decide)
        have hbs := HS.out
        have hbn := HN.out
        clear e1 hF hB CH HC HL2 HM HT3 HS HN
        cases bn <;> cases bs <;> (go_wp2_with fail; go_ret; exact ⟨by rw [F.out]; rfl, B3.out⟩)
  · rw [form_no n s l k1 k2 k3]
    clear hl hc hv hm ht e1 e2 e3 em E1 E2 E3 HL2 HC HM ih hbs hbn hbm
    have j1 : (k == 1) = false := by simpa using k1
    have j2 : (k == 2) = false := by simpa using k2
    have j3 : (k == 3) = false := by simpa using k3
    clear k1 k2 k3
    go_enter Tryz.func153, Tryz.ntmps153
    have B0 := Lib.hid (Below.refl w.heap.size w)
    go_upto_region 1 with fail
    obtain ⟨w1, hw1⟩ : ∃ y, w.alloc (.cells #[.int .i64 k, .int .i64 n, .string s, .slice a m cap] 59) = y := ⟨_, rfl⟩
    have b1 : Below w.heap.size w w1 := by rw [← hw1]; exact (Below.refl _ _).alloc (Nat.le_refl _) _
    have V1 : Hid (RowV w1 w.heap.size 59 4 (valC k n s (.slice a m cap))) := Lib.hid (by rw [← hw1]; exact RowV.new w _ 4 (valC k n s (.slice a m cap)))
    have z1 : w.heap.size + 1 = w1.heap.size := by rw [← hw1]; exact (Array.size_push _).symm
    rw [hw1]
    (try rw [z1])
    have B1 := Lib.hid (B0.out.trans (b1.mono B0.out.size))
    clear b1 hw1 z1 B0
    have x0 : _ = some (Value.int .i64 k) := V1.out.cell (i := 0) (by decide)
    go_wp2_with fail
    go_ret
    exact ⟨rfl, B1.out⟩
set_option maxRecDepth 100000 in
set_option maxHeartbeats 16000000 in
theorem rdepth_any : ∀ (d : Nat), d ≤ 1000 → ∀ (t : Tv) (v : Value) (w : World), depthN t ≤ d → CodAt w v t →
    Calls Tryz.prog 154 #[v] w fun e w' => e = .returned (.int .i64 ((depthN t : Nat) : Int)) ∧ Below w.heap.size w w' := by
  intro d
  induction d using Nat.strongRecOn with
  | ind d ih =>
  intro hd t v w ht hv
  obtain ⟨k, n, s, l⟩ := t
  obtain ⟨a, cap, c, rfl, hk, hn, hs, hl, hc⟩ := hv.open
  obtain ⟨m, hm⟩ : ∃ m, l.length = m := ⟨_, rfl⟩
  rw [hm] at hl hc ⊢
  have zm := hl.len_le
  by_cases k3 : k = 3
  · subst k3
    rw [depth_3] at ht
    have HL2 := Lib.hid hl
    have HC := Lib.hid hc
    have HM := Lib.hid hm
    have CH : Hid (∀ i, i < m → ∀ W, CodAt W (.agg (rowF 4 (c i))) (l.getD i tv0) → Calls Tryz.prog 154 #[.agg (rowF 4 (c i))] W fun e w' => e = .returned (.int .i64 ((depthN (l.getD i tv0) : Nat) : Int)) ∧ Below W.heap.size W w') := Lib.hid (fun i hi W h =>
      ih (d - 1) (by omega) (by omega) (l.getD i tv0) _ W (depth_child (by rw [hm]; exact hi) (by omega)) h)
    have DB : Hid (∀ i, (depthL (l.take i) : Int) ≤ 1000) := Lib.hid (fun i => by
      have h1 : depthL l = max (depthL (l.take i)) (depthL (l.drop i)) := by rw [← depthL_append, List.take_append_drop]
      omega)
    have D0 : Hid (depthL (l.take 0) = 0) := Lib.hid (by simp [depthL])
    have G3 : Hid (depthN (.mk 3 n s l) = depthL l + 1) := Lib.hid (by rw [depth_3])
    clear hl hc hv hm ht hd ih
    go_enter Tryz.func154, Tryz.ntmps154
    have B0 := Lib.hid (Below.refl w.heap.size w)
    go_upto_region 1 with fail
    obtain ⟨w1, hw1⟩ : ∃ y, w.alloc (.cells #[.int .i64 3, .int .i64 n, .string s, .slice a m cap] 59) = y := ⟨_, rfl⟩
    have b1 : Below w.heap.size w w1 := by rw [← hw1]; exact (Below.refl _ _).alloc (Nat.le_refl _) _
    have V1 : Hid (RowV w1 w.heap.size 59 4 (valC 3 n s (.slice a m cap))) := Lib.hid (by rw [← hw1]; exact RowV.new w _ 4 (valC 3 n s (.slice a m cap)))
    have z1 : w.heap.size + 1 = w1.heap.size := by rw [← hw1]; exact (Array.size_push _).symm
    rw [hw1]
    (try rw [z1])
    have B1 := Lib.hid (B0.out.trans (b1.mono B0.out.size))
    clear b1 hw1 z1 B0
    have x0 : _ = some (Value.int .i64 3) := V1.out.cell (i := 0) (by decide)
    go_wp2_with fail
    clear x0
    go_loopg [3, 4] m (fun g s3 s4 wx => ∃ i : Nat, i + g = m ∧ s4 = .int .i64 (i : Int) ∧ s3 = .int .i64 ((depthL (l.take i) : Nat) : Int) ∧ Hid (Below w1.heap.size w1 wx))
    case atStart => exact ⟨0, by omega, rfl, by rw [D0.out]; rfl, Lib.hid (Below.refl _ _)⟩
    case round =>
      obtain ⟨i, hi, rfl, rfl, hB⟩ := hrel
      obtain ⟨w3, rfl⟩ : ∃ y, y = wr := ⟨_, rfl⟩
      have V3 := Lib.hid (V1.out.below hB.out)
      have B3 := Lib.hid (B1.out.trans (hB.out.mono B1.out.size))
      have x3 : _ = some (Value.slice a m cap) := V3.out.cell (i := 3) (by decide)
      by_cases hlt : i < m
      · obtain ⟨b2, off, rfl, hcap, hb2, hcell⟩ := (HL2.out.below B3.out).at_elem hlt
        have HE := Lib.hid (hcell i hlt)
        have CE := Lib.hid (HC.out i hlt)
        have CA := Lib.hid (CH.out i hlt)
        have DT := Lib.hid (depthL_take l (k := i) (by rw [HM.out]; exact hlt))
        obtain ⟨ti, hti⟩ : ∃ f, l.getD i tv0 = f := ⟨_, rfl⟩
        rw [hti] at CE CA DT
        have d0 : decide ((i : Int) < (m : Int)) = true := by rw [decide_eq_true_iff]; omega
        have z1 : (0 : Int) ≤ (i : Int) := Int.natCast_nonneg i
        have z2 : (i : Int) < (m : Int) := by omega
        have p0 : 0 ≤ (i : Int) ∧ (i : Int) < (m : Int) := by omega
        have z3 : ((i : Int)).toNat = i := Int.toNat_natCast i
        clear hcell hti hb2 hlt
        go_wp2_with ((with_reducible (show wpList _ _ _ (Oper.mk (some 20) _ _ _ _ _ :: _) _ _)); refine wpList_load_elem rfl 59 (.tmp 19) rfl b2 _ rfl 4 off i (by omega) (c i) HE.out _ Tryz.underlying59 rfl (by kernel_rfl) ?_)
        refine (CA.out _ (CE.out.later B3.out)).mono ?_
        rintro e w4 ⟨rfl, b4⟩
        have K4 := Lib.hid (hB.out.trans (b4.mono hB.out.size))
        clear b4 B3 hB HE CE CA x3 V3
        have D1 := Lib.hid (DB.out (i + 1))
        rw [DT.out] at D1
        go_wp2_with fail
        go_roundg (gk - 1)
        case measure => omega
        case rel =>
          go_light
          exact ⟨i + 1, by omega, by go_num, by rw [DT.out]; congr 1; omega, K4⟩
      · obtain rfl : i = m := by omega
        have d0 : decide ((i : Int) < (i : Int)) = false := by rw [decide_eq_false_iff_not]; omega
        have e1 : l.take i = l := List.take_of_length_le (by rw [HM.out]; exact Nat.le_refl _)
        have D1 := DB.out i
        rw [e1] at D1 ⊢
        have F : Hid (Ending.returned (.int .i64 (((depthL l : Nat) : Int) + 1)) = Ending.returned (.int .i64 ((depthN (.mk 3 n s l) : Nat) : Int))) := Lib.hid (by rw [G3.out]; rfl)
        obtain ⟨dl, hdl⟩ : ∃ y, depthL l = y := ⟨_, rfl⟩
        rw [hdl] at F D1 ⊢
        have z0 : (0 : Int) ≤ (dl : Int) := Int.natCast_nonneg dl
        clear hdl e1 hB CH HC DB HL2 HM G3
        go_wp2_with fail
        go_ret
        exact ⟨F.out, B3.out⟩
  · rw [depth_no n s l k3]
    clear hl hc hv hm ht hd ih
    have j3 : (k == 3) = false := by simpa using k3
    have j3' : (k != 3) = true := by simpa using k3
    clear k3
    go_enter Tryz.func154, Tryz.ntmps154
    have B0 := Lib.hid (Below.refl w.heap.size w)
    go_upto_region 1 with fail
    obtain ⟨w1, hw1⟩ : ∃ y, w.alloc (.cells #[.int .i64 k, .int .i64 n, .string s, .slice a m cap] 59) = y := ⟨_, rfl⟩
    have b1 : Below w.heap.size w w1 := by rw [← hw1]; exact (Below.refl _ _).alloc (Nat.le_refl _) _
    have V1 : Hid (RowV w1 w.heap.size 59 4 (valC k n s (.slice a m cap))) := Lib.hid (by rw [← hw1]; exact RowV.new w _ 4 (valC k n s (.slice a m cap)))
    have z1 : w.heap.size + 1 = w1.heap.size := by rw [← hw1]; exact (Array.size_push _).symm
    rw [hw1]
    (try rw [z1])
    have B1 := Lib.hid (B0.out.trans (b1.mono B0.out.size))
    clear b1 hw1 z1 B0
    have x0 : _ = some (Value.int .i64 k) := V1.out.cell (i := 0) (by decide)
    go_wp2_with fail
    go_ret
    exact ⟨rfl, B1.out⟩
end Go.Proofs.YtpekhdahamloaaaGreatDoor

namespace Go.Proofs.YtpekhdahamloaaaGreatDoor
open Go.RowKit Cod
set_option maxRecDepth 100000 in
set_option maxHeartbeats 4000000 in
theorem rccheck_any (t : Tv) (v : Value) (w : World) (hd : depthN t ≤ 1000) (hv : CodAt w v t) :
    Calls Tryz.prog 123 #[v] w fun e w' => e = .returned (.int .i64 (chkT t)) ∧ Below w.heap.size w w' := by
  have H := Lib.hid (fun W h => rformed_any 1000 t v W hd h)
  have H2 := Lib.hid (fun W h => rdepth_any 1000 (Nat.le_refl _) t v W hd h)
  have HV := Lib.hid hv
  obtain ⟨k, n, s, l⟩ := t
  obtain ⟨a, cap, c, rfl, -⟩ := hv.open
  obtain ⟨m, hm⟩ : ∃ m, l.length = m := ⟨_, rfl⟩
  rw [hm] at H H2 HV ⊢
  obtain ⟨fb, hfb⟩ : ∃ f, formB (.mk k n s l) = f := ⟨_, rfl⟩
  have CT : Hid (chkT (.mk k n s l) = if fb then (if 16 < depthN (.mk k n s l) then 2 else 0) else 1) := Lib.hid (by unfold chkT; rw [hfb])
  rw [hfb] at H
  obtain ⟨ct, hct⟩ : ∃ y, chkT (.mk k n s l) = y := ⟨_, rfl⟩
  rw [hct] at CT ⊢
  obtain ⟨dd, hdd⟩ : ∃ y, depthN (.mk k n s l) = y := ⟨_, rfl⟩
  rw [hdd] at CT H2
  clear hm hfb hct hv hd hdd
  go_enter Tryz.func123, Tryz.ntmps123
  have B0 := Lib.hid (Below.refl w.heap.size w)
  go_upto_region 1 with fail
  obtain ⟨w1, hw1⟩ : ∃ y, w.alloc (.cells #[.int .i64 k, .int .i64 n, .string s, .slice a m cap] 59) = y := ⟨_, rfl⟩
  have b1 : Below w.heap.size w w1 := by rw [← hw1]; exact (Below.refl _ _).alloc (Nat.le_refl _) _
  have V1 : Hid (RowV w1 w.heap.size 59 4 (valC k n s (.slice a m cap))) := Lib.hid (by rw [← hw1]; exact RowV.new w _ 4 (valC k n s (.slice a m cap)))
  have z1 : w.heap.size + 1 = w1.heap.size := by rw [← hw1]; exact (Array.size_push _).symm
  rw [hw1]
  (try rw [z1])
  have B1 := Lib.hid (B0.out.trans (b1.mono B0.out.size))
  clear b1 hw1 z1 B0
  have x0 : _ = some (Value.int .i64 k) := V1.out.cell (i := 0) (by decide)
  have x1 : _ = some (Value.int .i64 n) := V1.out.cell (i := 1) (by decide)
  have x2 : _ = some (Value.string s) := V1.out.cell (i := 2) (by decide)
  have x3 : _ = some (Value.slice a m cap) := V1.out.cell (i := 3) (by decide)
  have C1 := Lib.hid (HV.out.later B1.out)
  go_wp2_with fail
  refine (H.out _ C1.out).mono ?_
  rintro e w2 ⟨rfl, b2⟩
  have B2 := Lib.hid (B1.out.trans (b2.mono B1.out.size))
  have V2 := Lib.hid (V1.out.below b2)
  clear b2 B1 V1
  clear x0 x1 x2 x3 H C1
  cases fb
  · obtain rfl : ct = 1 := CT.out
    clear CT H2
    go_wp2_with fail
    go_ret
    exact ⟨rfl, B2.out⟩
  · have CT2 : Hid (ct = if 16 < dd then 2 else 0) := Lib.hid CT.out
    clear CT
    have x0 : _ = some (Value.int .i64 k) := V2.out.cell (i := 0) (by decide)
    have x1 : _ = some (Value.int .i64 n) := V2.out.cell (i := 1) (by decide)
    have x2 : _ = some (Value.string s) := V2.out.cell (i := 2) (by decide)
    have x3 : _ = some (Value.slice a m cap) := V2.out.cell (i := 3) (by decide)
    have C2 := Lib.hid (HV.out.later B2.out)
    go_wp2_with fail
    refine (H2.out _ C2.out).mono ?_
    rintro e w3 ⟨rfl, b3⟩
    have B3 := Lib.hid (B2.out.trans (b3.mono B2.out.size))
    have V3 := Lib.hid (V2.out.below b3)
    clear b3 B2 V2
    clear x0 x1 x2 x3 H2 C2
    by_cases h16 : 16 < dd
    · have d0 : decide ((16 : Int) < (dd : Int)) = true := by rw [decide_eq_true_iff]; omega
      have d1 : decide (16 < dd) = true := by rw [decide_eq_true_iff]; exact h16
      obtain rfl : ct = 2 := by rw [CT2.out, if_pos h16]
      clear CT2 h16
      go_wp2_with fail
      go_ret
      exact ⟨rfl, B3.out⟩
    · have d0 : decide ((16 : Int) < (dd : Int)) = false := by rw [decide_eq_false_iff_not]; omega
      have d1 : decide (16 < dd) = false := by rw [decide_eq_false_iff_not]; exact h16
      obtain rfl : ct = 0 := by rw [CT2.out, if_neg h16]
      clear CT2 h16
      go_wp2_with fail
      go_ret
      exact ⟨rfl, B3.out⟩
/-- one byte of the call's own -/
theorem Owns.one (w : World) (y : UInt8) : Owns (w.alloc (.cells #[vB y] 5)) w.heap.size (.slice (some ⟨w.heap.size, 0, none⟩) 1 1) [y] :=
  ⟨rfl, .inr ⟨w.heap.size, 1, #[vB y], rfl, Nat.le_refl _, by show (w.heap.push _)[_]? = _; simp, Nat.le_refl _, by decide, rfl, rfl⟩⟩
set_option maxRecDepth 100000 in
set_option maxHeartbeats 4000000 in
theorem rnumeral_any : ∀ (u : Nat), u < 18446744073709551616 → ∀ w : World,
    Calls Tryz.prog 155 #[.int .u64 (u : Int)] w fun e w' => (∃ v, e = .returned v ∧ Owns w' w.heap.size v (numE u)) ∧ Below w.heap.size w w' := by
  intro u
  induction u using Nat.strongRecOn with
  | ind u ih =>
  intro hu w
  have HU := Lib.hid hu
  by_cases hx : u < 128
  · have d0 : decide ((u : Int) < 128) = true := by rw [decide_eq_true_iff]; omega
    have d1 : decide (u < 128) = true := by rw [decide_eq_true_iff]; omega
    obtain ⟨y, hy⟩ : ∃ y, UInt8.ofNat u = y := ⟨_, rfl⟩
    obtain ⟨yn, hyn⟩ : ∃ z : Int, (y.toNat : Int) = z := ⟨_, rfl⟩
    have hv : (u : Int) % 256 = yn := by rw [← hyn, ← hy]; simp
    have EN : Hid (numE u = [y]) := Lib.hid (by rw [numE_lo hx, hy])
    have OB := Lib.hid (Owns.one w y)
    unfold vB at OB
    rw [hyn] at OB
    rw [EN.out]
    clear hx hy hyn hu ih
    go_enter Tryz.func155, Tryz.ntmps155
    go_wp2_with fail
    go_ret
    exact ⟨⟨_, rfl, OB.out⟩, (Below.refl _ w).alloc (Nat.le_refl _) _⟩
  · have d0 : decide ((u : Int) < 128) = false := by rw [decide_eq_false_iff_not]; omega
    have d1 : decide (u < 128) = false := by rw [decide_eq_false_iff_not]; omega
    have IH := Lib.hid (ih (u / 128) (by omega) (by omega))
    obtain ⟨y, hy⟩ : ∃ y, UInt8.ofNat (u % 128 + 128) = y := ⟨_, rfl⟩
    obtain ⟨yn, hyn⟩ : ∃ z : Int, (y.toNat : Int) = z := ⟨_, rfl⟩
    have hyt : y.toNat = u % 128 + 128 := by rw [← hy]; simp; omega
    have t1 : ((u : Int)).tmod 128 = yn - 128 := by rw [Int.tmod_eq_emod_of_nonneg (Int.natCast_nonneg _), ← hyn]; omega
    have t2 : ((u : Int)).tdiv 128 = ((u / 128 : Nat) : Int) := by rw [Int.tdiv_eq_ediv_of_nonneg (Int.natCast_nonneg _)]; omega
    have y0 : 128 ≤ yn := by omega
    have y1 : yn ≤ 255 := by omega
    have EN : Hid (numE u = [y] ++ numE (u / 128)) := Lib.hid (by rw [numE_hi hx, hy]; rfl)
    obtain ⟨q, hq⟩ : ∃ q, u / 128 = q := ⟨_, rfl⟩
    rw [hq] at IH t2 EN
    have H10 := Lib.hid (numE_10 (u := q) (by omega))
    have OB := Lib.hid (Owns.one w y)
    unfold vB at OB
    rw [hyn] at OB
    rw [EN.out]
    have w3 : IntKind.u64.wrap (q : Int) = (q : Int) := by rw [IntKind.wrap_u64]; omega
    have u0 : (u : Int) % 128 = yn - 128 := by omega
    have u1 : (u : Int) / 128 = (q : Int) := by omega
    clear hx hy hyt hyn hu ih hq
    go_enter Tryz.func155, Tryz.ntmps155
    go_wp2_with fail
    refine (IH.out _).mono ?_
    rintro e w2 ⟨⟨v2, rfl, o2⟩, b2⟩
    have O2 := Lib.hid (o2.bytesAt (by have := H10.out; omega))
    have OO := Lib.hid (OB.out.below b2)
    have B2 := Lib.hid (((Below.refl _ w).alloc (Nat.le_refl _) _).trans (b2.mono (by rw [World.size_alloc]; omega)))
    clear o2 b2 OB
    go_wp2_with ((with_reducible (show wpList _ _ _ (Oper.mk (some 16) _ _ _ _ _ :: _) _ _)); refine wpList_app_bytes rfl (.tmp 12) (.tmp 15) rfl w.heap.size (.slice (some ⟨w.heap.size, 0, none⟩) 1 1) v2 [y] (numE q) rfl rfl OO.out O2.out (by have := H10.out; simp only [List.length_cons, List.length_nil]; omega) B2.out.size ?_; intro v3 w3 O3 s3)
    go_ret
    exact ⟨⟨_, rfl, O3.out⟩, B2.out.trans (s3.out.below OO.out B2.out.size)⟩
set_option maxRecDepth 100000 in
set_option maxHeartbeats 2000000 in
theorem runsigned_any (n : Int) (hn : i64B n) (w : World) :
    Calls Tryz.prog 156 #[.int .i64 n] w fun e w' => e = .returned (.int .u64 ((zig n : Nat) : Int)) ∧ w = w' := by
  obtain ⟨h1, h2⟩ := hn
  by_cases h0 : 0 ≤ n
  · have d0 : decide (0 ≤ n) = true := by rw [decide_eq_true_iff]; exact h0
    have w1 : IntKind.u64.wrap n = n := by rw [IntKind.wrap_u64]; omega
    have w2 : IntKind.u64.wrap (2 * n) = 2 * n := by rw [IntKind.wrap_u64]; omega
    have Z : Hid (((zig n : Nat) : Int) = 2 * n) := Lib.hid (by unfold zig; rw [if_pos h0]; omega)
    rw [Z.out]
    clear h1 h2 Z
    go_enter Tryz.func156, Tryz.ntmps156
    go_wp2_with fail
    go_ret
    exact ⟨rfl, rfl⟩
  · have d0 : decide (0 ≤ n) = false := by rw [decide_eq_false_iff_not]; exact h0
    obtain ⟨p, hp⟩ : ∃ p : Int, -(n + 1) = p := ⟨_, rfl⟩
    have p0 : 0 ≤ p := by omega
    have p1 : p < 9223372036854775808 := by omega
    have w0 : IntKind.i64.wrap (n + 1) = n + 1 := IntWalk.i64_in _ (by omega)
    have w1 : IntKind.i64.wrap (-(n + 1)) = p := by rw [hp]; exact IntWalk.i64_in _ (by omega)
    have w2 : IntKind.u64.wrap p = p := by rw [IntKind.wrap_u64]; omega
    have w3 : IntKind.u64.wrap (2 * p) = 2 * p := by rw [IntKind.wrap_u64]; omega
    have w4 : IntKind.u64.wrap (2 * p + 1) = 2 * p + 1 := by rw [IntKind.wrap_u64]; omega
    have Z : Hid (((zig n : Nat) : Int) = 2 * p + 1) := Lib.hid (by unfold zig; rw [if_neg h0]; omega)
    rw [Z.out]
    clear h1 h2 Z hp p1 h0
    go_enter Tryz.func156, Tryz.ntmps156
    go_wp2_with fail
    go_ret
    exact ⟨rfl, rfl⟩
end Go.Proofs.YtpekhdahamloaaaGreatDoor

namespace Go.Proofs.YtpekhdahamloaaaGreatDoor
open Go.RowKit Cod
def REncPost (t : Tv) (w : World) (e : Ending) (w' : World) : Prop := (∃ u, e = .returned u ∧ Owns w' w.heap.size u (encV t)) ∧ Below w.heap.size w w'
set_option maxRecDepth 100000 in
set_option maxHeartbeats 16000000 in
theorem rencode_any : ∀ (d : Nat), ∀ (t : Tv) (v : Value) (w : World), depthN t ≤ d → formB t = true → CodAt w v t → (encV t).length ≤ 140737488340000 →
    Calls Tryz.prog 124 #[v] w (REncPost t w) := by
  intro d
  induction d using Nat.strongRecOn with
  | ind d ih =>
  intro t v w ht hf hv hlen
  obtain ⟨k, n, s, l⟩ := t
  obtain ⟨a, cap, c, rfl, hk, hn, hs, hl, hc⟩ := hv.open
  obtain ⟨m, hm⟩ : ∃ m, l.length = m := ⟨_, rfl⟩
  have zm := hl.len_le
  rcases form_kind hf with h1 | h1 | h1
  · obtain rfl : k = 1 := h1
    rw [enc_1] at hlen
    have EP : Hid (encV (.mk 1 n s l) = [1] ++ numE (zig n)) := Lib.hid (enc_1 n s l)
    unfold REncPost
    rw [EP.out]
    rw [hm] at *
    have HU := Lib.hid (fun W => runsigned_any n hn W)
    have HZ := Lib.hid (fun W => rnumeral_any (zig n) (zig_lt hn.1 hn.2) W)
    have H10 := Lib.hid (numE_10 (zig_lt hn.1 hn.2))
    obtain ⟨u, hu⟩ : ∃ u, zig n = u := ⟨_, rfl⟩
    rw [hu] at HU HZ H10 ⊢
    clear hl hc hv hm hlen hu EP ih ht hf
    go_enter Tryz.func124, Tryz.ntmps124
    have B0 := Lib.hid (Below.refl w.heap.size w)
    go_upto_region 1 with fail
    obtain ⟨w1, hw1⟩ : ∃ y, w.alloc (.cells #[.int .i64 1, .int .i64 n, .string s, .slice a m cap] 59) = y := ⟨_, rfl⟩
    have b1 : Below w.heap.size w w1 := by rw [← hw1]; exact (Below.refl _ _).alloc (Nat.le_refl _) _
    have V1 : Hid (RowV w1 w.heap.size 59 4 (valC 1 n s (.slice a m cap))) := Lib.hid (by rw [← hw1]; exact RowV.new w _ 4 (valC 1 n s (.slice a m cap)))
    have z1 : w.heap.size + 1 = w1.heap.size := by rw [← hw1]; exact (Array.size_push _).symm
    rw [hw1]
    (try rw [z1])
    have B1 := Lib.hid (B0.out.trans (b1.mono B0.out.size))
    clear b1 hw1 z1 B0
    have x0 : _ = some (Value.int .i64 1) := V1.out.cell (i := 0) (by decide)
    have x1 : (w1.alloc (.cells #[.int .u8 1] 5)).cell? ⟨w.heap.size, 1, none⟩ = some (Value.int .i64 n) := (V1.out.alloc _).cell (i := 1) (by decide)
    have OB := Lib.hid (Owns.one w1 1)
    go_wp2_with fail
    refine (HU.out _).mono ?_
    rintro e w' ⟨rfl, rfl⟩
    go_wp2_with fail
    refine (HZ.out _).mono ?_
    rintro e w2 ⟨⟨v2, rfl, o2⟩, b2⟩
    have O2 := Lib.hid (o2.bytesAt (by have := H10.out; omega))
    have OO := Lib.hid (OB.out.below b2)
    have K2 := Lib.hid (((Below.refl _ w1).alloc (Nat.le_refl _) _).trans (b2.mono (by rw [World.size_alloc]; omega)))
    clear o2 b2 OB x0 x1
    go_wp2_with ((with_reducible (show wpList _ _ _ (Oper.mk (some 14) _ _ _ _ _ :: _) _ _)); refine wpList_app_bytes rfl (.tmp 9) (.tmp 13) rfl w1.heap.size (.slice (some ⟨w1.heap.size, 0, none⟩) 1 1) v2 [1] (numE u) rfl rfl OO.out O2.out (by have := H10.out; simp only [List.length_cons, List.length_nil]; omega) K2.out.size ?_; intro v3 w3 O3 s3)
    go_ret
    exact ⟨⟨_, rfl, O3.out.lower B1.out.size⟩, B1.out.trans ((K2.out.trans (s3.out.below OO.out K2.out.size)).mono B1.out.size)⟩
  · obtain rfl : k = 2 := h1
    rw [enc_2] at hlen
    have EP : Hid (encV (.mk 2 n s l) = ([2] ++ numE s.size) ++ s.data.toList) := Lib.hid (by rw [enc_2, List.append_assoc]; rfl)
    unfold REncPost
    rw [EP.out]
    rw [hm] at *
    have HS := Lib.hid (show s.size < 18446744073709551616 by omega)
    have HZ := Lib.hid (fun W => rnumeral_any s.size HS.out W)
    have H10 := Lib.hid (numE_10 HS.out)
    have w1 : IntKind.u64.wrap (s.size : Int) = (s.size : Int) := by rw [IntKind.wrap_u64]; omega
    have HL := Lib.hid hlen
    clear hl hc hv hm hlen EP ih ht hf
    go_enter Tryz.func124, Tryz.ntmps124
    have B0 := Lib.hid (Below.refl w.heap.size w)
    go_upto_region 1 with fail
    obtain ⟨w1, hw1⟩ : ∃ y, w.alloc (.cells #[.int .i64 2, .int .i64 n, .string s, .slice a m cap] 59) = y := ⟨_, rfl⟩
    have b1 : Below w.heap.size w w1 := by rw [← hw1]; exact (Below.refl _ _).alloc (Nat.le_refl _) _
    have V1 : Hid (RowV w1 w.heap.size 59 4 (valC 2 n s (.slice a m cap))) := Lib.hid (by rw [← hw1]; exact RowV.new w _ 4 (valC 2 n s (.slice a m cap)))
    have z1 : w.heap.size + 1 = w1.heap.size := by rw [← hw1]; exact (Array.size_push _).symm
    rw [hw1]
    (try rw [z1])
    have B1 := Lib.hid (B0.out.trans (b1.mono B0.out.size))
    clear b1 hw1 z1 B0
    have x0 : _ = some (Value.int .i64 2) := V1.out.cell (i := 0) (by decide)
    go_upto_region 5 with fail
    clear x0
    have SZ := Lib.hid (V1.out.lt)
    have LB : Hid (([2] ++ numE s.size).length + s.size ≤ 140737488351232) := Lib.hid (by have := HL.out; have h2 := size_data s; simp only [List.length_cons, List.length_append, List.length_nil] at this ⊢; omega)
    refine Tc.wp_region_plan (Tc.Rl.stay (fun k => k = w.heap.size)) 9 [] (.fl 1 (.fl 2 (.fl 3 (.fl 4 (.fl 7 (.fl 8 (.two 0 5 (.one 5 (.one 6 .done)) (.one 0 (.one 6 .done))))))))) (by kernel_rfl) (by kernel_rfl) ?_
    intro w2 b2 e2
    have B2 := Lib.hid (B1.out.trans (b2.mono B1.out.size))
    have V2 := Lib.hid (V1.out.below b2)
    have SZ2 := Lib.hid (show w.heap.size < w2.heap.size by rw [e2]; exact SZ.out)
    clear b2 e2 B1 V1 SZ
    refine Tc.plan_floats [1, 2, 3, 4, 7, 8] [_, _, _, _, _, _] rfl ?_
    dsimp only [List.getElem_toArray, List.getElem_cons_succ, List.getElem_cons_zero]
    repeat (go_big_quiet_want; go_big_quiet_op; first | go_big_quiet_on | (refine ⟨_, fun _ _ => rfl, ?_⟩; go_big_quiet_on))
    refine wpQuiet_load_cell rfl 9 (.tmp 18) rfl w.heap.size 2 rfl _ Tryz.underlying9 rfl (.string s) (fun W hW => (stay_row (S := fun k => k = w.heap.size) V2.out rfl hW).cell (i := 2) (by decide)) ?_
    simp only [Act.put, List.setIfInBounds_toArray, List.set_cons_succ, List.set_cons_zero]
    repeat (go_big_quiet_want; go_big_quiet_op; first | go_big_quiet_on | (refine ⟨_, fun _ _ => rfl, ?_⟩; go_big_quiet_on))
    refine wpQuiet_load_cell rfl 9 (.tmp 24) rfl w.heap.size 2 rfl _ Tryz.underlying9 rfl (.string s) (fun W hW => (stay_row (S := fun k => k = w.heap.size) V2.out rfl hW).cell (i := 2) (by decide)) ?_
    simp only [Act.put, List.setIfInBounds_toArray, List.set_cons_succ, List.set_cons_zero]
    refine wpQuiet_nil ?_
    refine Tc.plan_two 0 5 rfl rfl (fun K hK => ?_) (fun K hK => ?_)
    · have K2 := Lib.hid (Below.refl w2.heap.size w2)
      go_wp2_with fail
      have al := (Below.refl _ w2).alloc (Nat.le_refl _) (.cells #[vB 2] 5)
      refine hK _ _ (stay_below al (fun k hk => by subst hk; exact SZ2.out)) ?_
      have OO := Lib.hid (Owns.one w2 2)
      have SZ3 := Lib.hid (Nat.lt_of_lt_of_le SZ2.out al.size)
      have B3 := Lib.hid (B2.out.trans (al.mono B2.out.size))
      have K3 := Lib.hid (K2.out.trans (al.mono K2.out.size))
      obtain ⟨w3, hw3⟩ : ∃ y, w2.alloc (.cells #[vB 2] 5) = y := ⟨_, rfl⟩
      have hw3' : w2.alloc (.cells #[.int .u8 2] 5) = w3 := hw3
      rw [hw3] at OO SZ3 B3 K3
      rw [hw3']
      clear hK K al hw3 hw3'
      refine Tc.plan_one 5 rfl (fun K hK => ?_)
      go_wp2_with fail
      refine (HZ.out _).mono ?_
      rintro e w4 ⟨⟨v2, rfl, o2⟩, b2⟩
      go_wp2_with fail
      refine hK _ _ (stay_below b2 (fun k hk => by subst hk; exact SZ3.out)) ?_
      have O2 := Lib.hid (o2.bytesAt (by have := H10.out; omega))
      have SZ4 := Lib.hid (Nat.lt_of_lt_of_le SZ3.out b2.size)
      have B4 := Lib.hid (B3.out.trans (b2.mono B3.out.size))
      have K4 := Lib.hid (K3.out.trans (b2.mono K3.out.size))
      have OOL := Lib.hid (OO.out.below b2)
      clear hK K o2 b2
      refine Tc.plan_one 6 rfl (fun K hK => ?_)
      refine wpList_app_bytes rfl (.tmp 17) (.tmp 22) rfl w2.heap.size (.slice (some ⟨w2.heap.size, 0, none⟩) 1 1) v2 [2] (numE s.size) rfl rfl OOL.out O2.out (by have := H10.out; simp only [List.length_cons, List.length_nil]; omega) K4.out.size ?_
      intro v5 w5 O5 s5
      go_wp2_with fail
      refine hK _ _ (stay_app s5.out (fun k hk => by subst hk; exact ⟨SZ4.out, fun e => by have := (World.ownsRow.lt OOL.out _ e).1; have := SZ2.out; omega⟩)) ?_
      have K5 := Lib.hid (K4.out.trans (s5.out.below OOL.out K4.out.size))
      clear hK K s5
      refine Tc.plan_done (l := [_, _]) rfl (fun K hK => ?_)
      go_wp2_with ((with_reducible (show wpList _ _ _ (Oper.mk (some 26) _ _ _ _ _ :: _) _ _)); refine wpList_app_string rfl (.tmp 23) (.tmp 25) rfl w2.heap.size v5 s _ rfl rfl O5.out LB.out K5.out.size ?_; intro v6 w6 O6 s6)
      go_ret
      exact ⟨⟨_, rfl, O6.out.lower B2.out.size⟩, B2.out.trans ((K5.out.trans (s6.out.below O5.out K5.out.size)).mono B2.out.size)⟩
    · have K2 := Lib.hid (Below.refl w2.heap.size w2)
      go_wp2_with fail
      refine (HZ.out _).mono ?_
      rintro e w3 ⟨⟨v2, rfl, o2⟩, b2⟩
      go_wp2_with fail
      refine hK _ _ (stay_below b2 (fun k hk => by subst hk; exact SZ2.out)) ?_
      have O2 := Lib.hid (o2.bytesAt (by have := H10.out; omega))
      have SZ3 := Lib.hid (Nat.lt_of_lt_of_le SZ2.out b2.size)
      have B3 := Lib.hid (B2.out.trans (b2.mono B2.out.size))
      have K3 := Lib.hid (K2.out.trans (b2.mono K2.out.size))
      clear hK K o2 b2
      refine Tc.plan_one 0 rfl (fun K hK => ?_)
      go_wp2_with fail
      have al := (Below.refl _ w3).alloc (Nat.le_refl _) (.cells #[vB 2] 5)
      refine hK _ _ (stay_below al (fun k hk => by subst hk; exact SZ3.out)) ?_
      have OO := Lib.hid (Owns.one w3 2)
      have SZ4 := Lib.hid (Nat.lt_of_lt_of_le SZ3.out al.size)
      have B4 := Lib.hid (B3.out.trans (al.mono B3.out.size))
      have K4 := Lib.hid (K3.out.trans (al.mono K3.out.size))
      have O2' := Lib.hid (O2.out.below al)
      clear O2
      obtain ⟨w4, hw4⟩ : ∃ y, w3.alloc (.cells #[vB 2] 5) = y := ⟨_, rfl⟩
      have hw4' : w3.alloc (.cells #[.int .u8 2] 5) = w4 := hw4
      rw [hw4] at OO SZ4 B4 K4 O2'
      rw [hw4']
      clear hK K al hw4 hw4'
      have O2 := O2'
      have OOL := Lib.hid (OO.out.lower K3.out.size)
      refine Tc.plan_one 6 rfl (fun K hK => ?_)
      refine wpList_app_bytes rfl (.tmp 17) (.tmp 22) rfl w2.heap.size (.slice (some ⟨w3.heap.size, 0, none⟩) 1 1) v2 [2] (numE s.size) rfl rfl OOL.out O2.out (by have := H10.out; simp only [List.length_cons, List.length_nil]; omega) K4.out.size ?_
      intro v5 w5 O5 s5
      go_wp2_with fail
      refine hK _ _ (stay_app s5.out (fun k hk => by subst hk; exact ⟨SZ4.out, fun e => by have := (World.ownsRow.lt OOL.out _ e).1; have := SZ2.out; omega⟩)) ?_
      have K5 := Lib.hid (K4.out.trans (s5.out.below OOL.out K4.out.size))
      clear hK K s5
      refine Tc.plan_done (l := [_, _]) rfl (fun K hK => ?_)
      go_wp2_with ((with_reducible (show wpList _ _ _ (Oper.mk (some 26) _ _ _ _ _ :: _) _ _)); refine wpList_app_string rfl (.tmp 23) (.tmp 25) rfl w2.heap.size v5 s _ rfl rfl O5.out LB.out K5.out.size ?_; intro v6 w6 O6 s6)
      go_ret
      exact ⟨⟨_, rfl, O6.out.lower B2.out.size⟩, B2.out.trans ((K5.out.trans (s6.out.below O5.out K5.out.size)).mono B2.out.size)⟩
  · obtain rfl : k = 3 := h1
    rw [enc_3] at hlen
    rw [depth_3] at ht
    rw [form_3, Bool.and_eq_true] at hf
    have EP : Hid (encV (.mk 3 n s l) = ([3] ++ numE m) ++ encL l) := Lib.hid (by rw [enc_3, hm, List.append_assoc]; rfl)
    have HM := Lib.hid hm
    have CH : Hid (∀ i, i < m → ∀ W, CodAt W (.agg (rowF 4 (c i))) (l.getD i tv0) → Calls Tryz.prog 124 #[.agg (rowF 4 (c i))] W (REncPost (l.getD i tv0) W)) := Lib.hid (fun i hi W h =>
      ih (d - 1) (by omega) (l.getD i tv0) _ W (depth_child (by rw [hm]; exact hi) (by omega)) (by
        cases hb : formB (l.getD i tv0) with
        | true => rfl
        | false => rw [formL_no (by rw [hm]; exact hi) hb] at hf; exact absurd hf.2 (by decide)) h (by
        have h2 := encL_le l (i := i) (by rw [hm]; exact hi)
        simp only [List.length_cons, List.length_append] at hlen
        omega))
    unfold REncPost
    rw [EP.out]
    rw [hm] at hl hc hlen zm ⊢
    have HL2 := Lib.hid hl
    have HC := Lib.hid hc
    have HS := Lib.hid (show m < 18446744073709551616 by omega)
    have HZ := Lib.hid (fun W => rnumeral_any m HS.out W)
    have H10 := Lib.hid (numE_10 HS.out)
    have w1 : IntKind.u64.wrap (m : Int) = (m : Int) := by rw [IntKind.wrap_u64]; omega
    have HL := Lib.hid hlen
    have L0 : Hid (encL (l.take 0) = []) := Lib.hid (by simp [encL])
    clear hl hc hv hm hlen EP ih ht hf
    go_enter Tryz.func124, Tryz.ntmps124
    have B0 := Lib.hid (Below.refl w.heap.size w)
    go_upto_region 1 with fail
    obtain ⟨w1, hw1⟩ : ∃ y, w.alloc (.cells #[.int .i64 3, .int .i64 n, .string s, .slice a m cap] 59) = y := ⟨_, rfl⟩
    have b1 : Below w.heap.size w w1 := by rw [← hw1]; exact (Below.refl _ _).alloc (Nat.le_refl _) _
    have V1 : Hid (RowV w1 w.heap.size 59 4 (valC 3 n s (.slice a m cap))) := Lib.hid (by rw [← hw1]; exact RowV.new w _ 4 (valC 3 n s (.slice a m cap)))
    have z1 : w.heap.size + 1 = w1.heap.size := by rw [← hw1]; exact (Array.size_push _).symm
    rw [hw1]
    (try rw [z1])
    have B1 := Lib.hid (B0.out.trans (b1.mono B0.out.size))
    clear b1 hw1 z1 B0
    have x0 : _ = some (Value.int .i64 3) := V1.out.cell (i := 0) (by decide)
    have x3 : (w1.alloc (.cells #[.int .u8 3] 5)).cell? ⟨w.heap.size, 3, none⟩ = some (Value.slice a m cap) := (V1.out.alloc _).cell (i := 3) (by decide)
    have OB := Lib.hid (Owns.one w1 3)
    go_wp2_with fail
    refine (HZ.out _).mono ?_
    rintro e w2 ⟨⟨v2, rfl, o2⟩, b2⟩
    have O2 := Lib.hid (o2.bytesAt (by have := H10.out; omega))
    have OO := Lib.hid (OB.out.below b2)
    have K2 := Lib.hid (((Below.refl _ w1).alloc (Nat.le_refl _) _).trans (b2.mono (by rw [World.size_alloc]; omega)))
    clear o2 b2 OB x0 x3
    go_upto_region 7 with ((with_reducible (show wpList _ _ _ (Oper.mk (some 33) _ _ _ _ _ :: _) _ _)); refine wpList_app_bytes rfl (.tmp 27) (.tmp 32) rfl w1.heap.size (.slice (some ⟨w1.heap.size, 0, none⟩) 1 1) v2 [3] (numE m) rfl rfl OO.out O2.out (by have := H10.out; simp only [List.length_cons, List.length_nil]; omega) K2.out.size ?_; intro v3 w3 O3 s3)
    have K3 := Lib.hid (K2.out.trans (s3.out.below OO.out K2.out.size))
    clear s3 OO O2 K2
    go_wp2_with fail
    go_loopg [3, 4] m (fun g s3 s4 wx => ∃ (i : Nat) (u : Value), i + g = m ∧ s4 = .int .i64 (i : Int) ∧ s3 = u ∧ Hid (Owns wx w1.heap.size u (([3] ++ numE m) ++ encL (l.take i))) ∧ Hid (Below w1.heap.size w1 wx))
    case atStart => exact ⟨0, v3, by omega, rfl, rfl, Lib.hid (by rw [L0.out, List.append_nil]; exact O3.out), K3⟩
    case round =>
      clear O3 K3
      obtain ⟨i, u, hi, rfl, e2, hO, hB⟩ := hrel
      obtain rfl : u = _ := e2.symm
      obtain ⟨w5, rfl⟩ : ∃ y, y = wr := ⟨_, rfl⟩
      have V5 := Lib.hid (V1.out.below hB.out)
      have B5 := Lib.hid (B1.out.trans (hB.out.mono B1.out.size))
      have x3 : _ = some (Value.slice a m cap) := V5.out.cell (i := 3) (by decide)
      by_cases hlt : i < m
      · obtain ⟨b2, off, rfl, hcap, hb2, hcell⟩ := (HL2.out.below B5.out).at_elem hlt
        have HE := Lib.hid (hcell i hlt)
        have CE := Lib.hid (HC.out i hlt)
        have CA := Lib.hid (CH.out i hlt)
        have ET := Lib.hid (encL_take l (k := i) (by rw [HM.out]; exact hlt))
        have EL := Lib.hid (encL_le l (i := i) (by rw [HM.out]; exact hlt))
        obtain ⟨ti, hti⟩ : ∃ f, l.getD i tv0 = f := ⟨_, rfl⟩
        rw [hti] at CE CA ET EL
        have LB : Hid ((([3] ++ numE m) ++ encL (l.take i)).length + (encV ti).length ≤ 140737488340000) := Lib.hid (by
          have h1 := HL.out; have h2 := EL.out
          simp only [List.length_append, List.length_cons, List.length_nil] at h1 ⊢; omega)
        have d0 : decide ((i : Int) < (m : Int)) = true := by rw [decide_eq_true_iff]; omega
        have z1 : (0 : Int) ≤ (i : Int) := Int.natCast_nonneg i
        have z2 : (i : Int) < (m : Int) := by omega
        have p0 : 0 ≤ (i : Int) ∧ (i : Int) < (m : Int) := by omega
        have z3 : ((i : Int)).toNat = i := Int.toNat_natCast i
        clear hcell hti hb2 hlt EL
        go_wp2_with ((with_reducible (show wpList _ _ _ (Oper.mk (some 46) _ _ _ _ _ :: _) _ _)); refine wpList_load_elem rfl 59 (.tmp 45) rfl b2 _ rfl 4 off i (by omega) (c i) HE.out _ Tryz.underlying59 rfl (by kernel_rfl) ?_)
        refine (CA.out _ (CE.out.later B5.out)).mono ?_
        rintro e w6 ⟨⟨v6, rfl, o6⟩, b6⟩
        have O6 := Lib.hid (o6.bytesAt (by have := LB.out; omega))
        have OU := Lib.hid (hO.out.below b6)
        have K6 := Lib.hid (hB.out.trans (b6.mono hB.out.size))
        clear o6 b6 hO hB HE CE CA x3 V5 B5
        go_wp2_with ((with_reducible (show wpList _ _ _ (Oper.mk (some 48) _ _ _ _ _ :: _) _ _)); refine wpList_app_bytes rfl (.tmp 41) (.tmp 47) rfl w1.heap.size u v6 _ (encV ti) rfl rfl OU.out O6.out (by have := LB.out; omega) K6.out.size ?_; intro v7 w7 O7 s7)
        go_roundg (gk - 1)
        case measure => omega
        case rel =>
          go_light
          exact ⟨i + 1, v7, by omega, by go_num, rfl, Lib.hid (by have h := O7.out; rw [List.append_assoc, ← ET.out] at h; exact h), Lib.hid (K6.out.trans (s7.out.below OU.out K6.out.size))⟩
      · obtain rfl : i = m := by omega
        have d0 : decide ((i : Int) < (i : Int)) = false := by rw [decide_eq_false_iff_not]; omega
        have e1 : Hid (l.take i = l) := Lib.hid (List.take_of_length_le (by rw [HM.out]; exact Nat.le_refl _))
        go_wp2_with fail
        go_ret
        exact ⟨⟨u, rfl, by have h := hO.out; rw [e1.out] at h; exact h.lower B1.out.size⟩, B5.out⟩
end Go.Proofs.YtpekhdahamloaaaGreatDoor

namespace Go.Proofs.YtpekhdahamloaaaGreatDoor
open Go.RowKit Cod
set_option maxRecDepth 100000 in
set_option maxHeartbeats 8000000 in
theorem rcencode_any (t : Tv) (v : Value) (w : World) (hd : depthN t ≤ 1000) (hv : CodAt w v t) (hlen : (encV t).length ≤ 140737488340000) :
    Calls Tryz.prog 81 #[v] w (EncPost t w) := by
  have H := Lib.hid (fun W h => rccheck_any t v W hd h)
  have HE := Lib.hid (fun (hf : formB t = true) W h => rencode_any 1000 t v W hd hf h hlen)
  have HV := Lib.hid hv
  obtain ⟨k, n, s, l⟩ := t
  obtain ⟨a, cap, c, rfl, -⟩ := hv.open
  obtain ⟨m, hm⟩ : ∃ m, l.length = m := ⟨_, rfl⟩
  rw [hm] at H HE HV ⊢
  obtain ⟨ct, hct⟩ : ∃ y, chkT (.mk k n s l) = y := ⟨_, rfl⟩
  have HCT := Lib.hid hct
  rw [hct] at H
  clear hm hct hv hlen hd
  rcases (HCT.out ▸ chkT_3 (.mk k n s l) : ct = 0 ∨ ct = 1 ∨ ct = 2) with h0 | h0
  · subst h0
    have HF := chkT_0 HCT.out
    have E1 := Lib.hid (HE.out HF.1)
    have EP : Hid (EncPost (.mk k n s l) w = fun e w' => (∃ u, e = .returned (.tuple #[u, .int .i64 0]) ∧ Owns w' w.heap.size u (encV (.mk k n s l))) ∧ Below w.heap.size w w') := Lib.hid (by
      funext e w'; unfold EncPost; rw [HCT.out, if_pos rfl])
    rw [EP.out]
    clear HF HE EP HCT
    go_enter Tryz.func81, Tryz.ntmps81
    have B0 := Lib.hid (Below.refl w.heap.size w)
    go_upto_region 1 with fail
    obtain ⟨w1, hw1⟩ : ∃ y, w.alloc (.cells #[.int .i64 k, .int .i64 n, .string s, .slice a m cap] 59) = y := ⟨_, rfl⟩
    have b1 : Below w.heap.size w w1 := by rw [← hw1]; exact (Below.refl _ _).alloc (Nat.le_refl _) _
    have V1 : Hid (RowV w1 w.heap.size 59 4 (valC k n s (.slice a m cap))) := Lib.hid (by rw [← hw1]; exact RowV.new w _ 4 (valC k n s (.slice a m cap)))
    have z1 : w.heap.size + 1 = w1.heap.size := by rw [← hw1]; exact (Array.size_push _).symm
    rw [hw1]
    (try rw [z1])
    have B1 := Lib.hid (B0.out.trans (b1.mono B0.out.size))
    clear b1 hw1 z1 B0
    have x0 : _ = some (Value.int .i64 k) := V1.out.cell (i := 0) (by decide)
    have x1 : _ = some (Value.int .i64 n) := V1.out.cell (i := 1) (by decide)
    have x2 : _ = some (Value.string s) := V1.out.cell (i := 2) (by decide)
    have x3 : _ = some (Value.slice a m cap) := V1.out.cell (i := 3) (by decide)
    have C1 := Lib.hid (HV.out.later B1.out)
    go_wp2_with fail
    refine (H.out _ C1.out).mono ?_
    rintro e w2 ⟨rfl, b2⟩
    have B2 := Lib.hid (B1.out.trans (b2.mono B1.out.size))
    have V2 := Lib.hid (V1.out.below b2)
    clear b2 B1 V1
    clear x0 x1 x2 x3 H C1
    have x0 : _ = some (Value.int .i64 k) := V2.out.cell (i := 0) (by decide)
    have x1 : _ = some (Value.int .i64 n) := V2.out.cell (i := 1) (by decide)
    have x2 : _ = some (Value.string s) := V2.out.cell (i := 2) (by decide)
    have x3 : _ = some (Value.slice a m cap) := V2.out.cell (i := 3) (by decide)
    have C2 := Lib.hid (HV.out.later B2.out)
    go_wp2_with fail
    refine (E1.out _ C2.out).mono ?_
    rintro e w3 ⟨⟨u, rfl, o3⟩, b3⟩
    have O3 := Lib.hid (o3.lower B2.out.size)
    have B3 := Lib.hid (B2.out.trans (b3.mono B2.out.size))
    clear o3 b3 x0 x1 x2 x3 C2
    go_wp2_with fail
    go_ret2
    exact ⟨⟨u, rfl, O3.out⟩, B3.out⟩
  · have EP : Hid (EncPost (.mk k n s l) w = fun e w' => e = .returned (.tuple #[.slice none 0 0, .int .i64 ct]) ∧ Below w.heap.size w w') := Lib.hid (by
      funext e w'; unfold EncPost; rw [HCT.out, if_neg (by rcases h0 with h | h <;> rw [h] <;> decide)])
    rw [EP.out]
    clear EP HE HCT
    rcases h0 with h0 | h0 <;> subst h0
    · go_enter Tryz.func81, Tryz.ntmps81
      have B0 := Lib.hid (Below.refl w.heap.size w)
      go_upto_region 1 with fail
      obtain ⟨w1, hw1⟩ : ∃ y, w.alloc (.cells #[.int .i64 k, .int .i64 n, .string s, .slice a m cap] 59) = y := ⟨_, rfl⟩
      have b1 : Below w.heap.size w w1 := by rw [← hw1]; exact (Below.refl _ _).alloc (Nat.le_refl _) _
      have V1 : Hid (RowV w1 w.heap.size 59 4 (valC k n s (.slice a m cap))) := Lib.hid (by rw [← hw1]; exact RowV.new w _ 4 (valC k n s (.slice a m cap)))
      have z1 : w.heap.size + 1 = w1.heap.size := by rw [← hw1]; exact (Array.size_push _).symm
      rw [hw1]
      (try rw [z1])
      have B1 := Lib.hid (B0.out.trans (b1.mono B0.out.size))
      clear b1 hw1 z1 B0
      have x0 : _ = some (Value.int .i64 k) := V1.out.cell (i := 0) (by decide)
      have x1 : _ = some (Value.int .i64 n) := V1.out.cell (i := 1) (by decide)
      have x2 : _ = some (Value.string s) := V1.out.cell (i := 2) (by decide)
      have x3 : _ = some (Value.slice a m cap) := V1.out.cell (i := 3) (by decide)
      have C1 := Lib.hid (HV.out.later B1.out)
      go_wp2_with fail
      refine (H.out _ C1.out).mono ?_
      rintro e w2 ⟨rfl, b2⟩
      have B2 := Lib.hid (B1.out.trans (b2.mono B1.out.size))
      have V2 := Lib.hid (V1.out.below b2)
      clear b2 B1 V1
      go_wp2_with fail
      go_ret2
      exact ⟨rfl, B2.out⟩
    · go_enter Tryz.func81, Tryz.ntmps81
      have B0 := Lib.hid (Below.refl w.heap.size w)
      go_upto_region 1 with fail
      obtain ⟨w1, hw1⟩ : ∃ y, w.alloc (.cells #[.int .i64 k, .int .i64 n, .string s, .slice a m cap] 59) = y := ⟨_, rfl⟩
      have b1 : Below w.heap.size w w1 := by rw [← hw1]; exact (Below.refl _ _).alloc (Nat.le_refl _) _
      have V1 : Hid (RowV w1 w.heap.size 59 4 (valC k n s (.slice a m cap))) := Lib.hid (by rw [← hw1]; exact RowV.new w _ 4 (valC k n s (.slice a m cap)))
      have z1 : w.heap.size + 1 = w1.heap.size := by rw [← hw1]; exact (Array.size_push _).symm
      rw [hw1]
      (try rw [z1])
      have B1 := Lib.hid (B0.out.trans (b1.mono B0.out.size))
      clear b1 hw1 z1 B0
      have x0 : _ = some (Value.int .i64 k) := V1.out.cell (i := 0) (by decide)
      have x1 : _ = some (Value.int .i64 n) := V1.out.cell (i := 1) (by decide)
      have x2 : _ = some (Value.string s) := V1.out.cell (i := 2) (by decide)
      have x3 : _ = some (Value.slice a m cap) := V1.out.cell (i := 3) (by decide)
      have C1 := Lib.hid (HV.out.later B1.out)
      go_wp2_with fail
      refine (H.out _ C1.out).mono ?_
      rintro e w2 ⟨rfl, b2⟩
      have B2 := Lib.hid (B1.out.trans (b2.mono B1.out.size))
      have V2 := Lib.hid (V1.out.below b2)
      clear b2 B1 V1
      go_wp2_with fail
      go_ret2
      exact ⟨rfl, B2.out⟩
set_option maxRecDepth 100000 in
set_option maxHeartbeats 2000000 in
theorem rint_any (n : Int) (w : World) :
    Calls Tryz.prog 125 #[.int .i64 n] w fun e w' => e = .returned (.agg #[.int .i64 1, .int .i64 n, .string ByteArray.empty, .slice none 0 0]) ∧ Below w.heap.size w w' := by
  go_enter Tryz.func125, Tryz.ntmps125
  go_wp2_with fail
  refine bodyPost_ret (v := .agg #[.int .i64 1, .int .i64 n, .string ByteArray.empty, .slice none 0 0]) (by exact results_rowV (fn := Tryz.f125) (p := 2) (ty := 59) rfl _ _ w.heap.size 4 59 (valC 1 n ByteArray.empty (.slice none 0 0)) _ rfl (RowV.new w _ 4 (valC 1 n ByteArray.empty (.slice none 0 0))) Tryz.underlying59 rfl (by kernel_rfl)) rfl ⟨rfl, ?_⟩
  exact (Below.refl _ w).alloc (Nat.le_refl _) _
end Go.Proofs.YtpekhdahamloaaaGreatDoor

namespace Go.Proofs.YtpekhdahamloaaaGreatDoor
open Go.RowKit Cod
end Go.Proofs.YtpekhdahamloaaaGreatDoor

namespace Go.Proofs.YtpekhdahamloaaaGreatDoor
open Go.RowKit Cod
end Go.Proofs.YtpekhdahamloaaaGreatDoor

namespace Go.Proofs.YtpekhdahamloaaaGreatDoor
open Go.RowKit Cod
end Go.Proofs.YtpekhdahamloaaaGreatDoor

namespace Go.Proofs.YtpekhdahamloaaaGreatDoor
open Go.RowKit Cod
def SlS (S : Nat → Prop) (s : Nat) (w : World) (v : Value) (n : Nat) (c : Nat → Nat → Value) : Prop :=
  ((∃ (a : Option Addr) (k : Nat), v = .slice a 0 k ∧ (a = none → k = 0)) ∧ n = 0) ∨
  ∃ b off cap : Nat, v = .slice (some ⟨b, off, none⟩) n cap ∧ n ≤ cap ∧ 0 < n ∧ ((n : Int) ≤ 140737488351232 ∧ (cap : Int) ≤ 9223372036854775807) ∧ (b < w.heap.size ∧ S b) ∧ ∀ i, i < n → ∀ j, j < s → w.cell? ⟨b, off + s * i + j, none⟩ = some (c i j)
theorem SlS.at' {S : Nat → Prop} {s : Nat} {w : World} {v : Value} {n : Nat} {c : Nat → Nat → Value} (h : SlS S s w v n c) : SlAt s w v n c := by
  rcases h with h | ⟨b, off, cap, h1, h2, h3, h4, h5, h6⟩
  · exact .inl h
  · exact .inr ⟨b, off, cap, h1, h2, h3, h4, h5.1, h6⟩
theorem SlS.keep {S S' : Nat → Prop} {s : Nat} {w w' : World} {v : Value} {n : Nat} {c : Nat → Nat → Value} (h : SlS S s w v n c) (hs : w.heap.size ≤ w'.heap.size) (hb : ∀ b, b < w.heap.size → S b → S' b ∧ w'.heap[b]? = w.heap[b]?) : SlS S' s w' v n c := by
  rcases h with h | ⟨b, off, cap, h1, h2, h3, h4, h5, h6⟩
  · exact .inl h
  · obtain ⟨g1, g2⟩ := hb b h5.1 h5.2
    exact .inr ⟨b, off, cap, h1, h2, h3, h4, ⟨Nat.lt_of_lt_of_le h5.1 hs, g1⟩, fun i hi j hj => (World.cell?_of_block (w := w) (w' := w') (a := ⟨b, off + s * i + j, none⟩) g2).trans (h6 i hi j hj)⟩
inductive CodS (S : Nat → Prop) (w : World) : Value → Tv → Prop
  | mk (k n : Int) (s : ByteArray) (sl : Value) (l : List Tv) (c : Nat → Nat → Value) (hk : i64B k) (hn : i64B n) (hs : (s.size : Int) ≤ 140737488351232) (hl : SlS S 4 w sl l.length c)
      (h : ∀ i, i < l.length → CodS S w (.agg (rowF 4 (c i))) (l.getD i tv0)) : CodS S w (.agg #[.int .i64 k, .int .i64 n, .string s, sl]) (.mk k n s l)
theorem CodS.at' {S : Nat → Prop} {w : World} {v : Value} {t : Tv} (h : CodS S w v t) : CodAt w v t := by
  induction h with
  | mk k n s sl l c hk hn hs hl _ ih => exact .mk k n s sl l c hk hn hs hl.at' ih
theorem CodS.keep {S S' : Nat → Prop} {w w' : World} {v : Value} {t : Tv} (h : CodS S w v t) (hs : w.heap.size ≤ w'.heap.size) (hb : ∀ b, b < w.heap.size → S b → S' b ∧ w'.heap[b]? = w.heap[b]?) : CodS S' w' v t := by
  induction h with
  | mk k n s sl l c hk hn hs' hl _ ih => exact .mk k n s sl l c hk hn hs' (hl.keep hs hb) ih
/-- the cells of so many values -/
def flatC (n : Nat) (c : Nat → Nat → Value) : List Value := (List.range (4 * n)).map fun j => c (j / 4) (j % 4)
theorem flatC_get {n : Nat} {c : Nat → Nat → Value} {i j : Nat} (hi : i < n) (hj : j < 4) : (flatC n c)[4 * i + j]? = some (c i j) := by
  unfold flatC
  rw [List.getElem?_map, List.getElem?_range (by omega), Option.map_some, show (4 * i + j) / 4 = i by omega, show (4 * i + j) % 4 = j by omega]
theorem flatC_succ (n : Nat) (c : Nat → Nat → Value) (f : Nat → Value) : flatC (n + 1) (fun i => if i = n then f else c i) = flatC n c ++ [f 0, f 1, f 2, f 3] := by
  unfold flatC
  rw [show 4 * (n + 1) = 4 * n + 4 by omega, List.range_add, List.map_append]
  congr 1
  · refine List.map_congr_left fun j hj => ?_
    have := List.mem_range.1 hj
    show (if j / 4 = n then f else c (j / 4)) (j % 4) = c (j / 4) (j % 4)
    rw [if_neg (by omega)]
  · simp only [List.map_map]
    show [_, _, _, _] = _
    simp only [Function.comp_apply]
    rw [show (4 * n + 0) / 4 = n by omega, show (4 * n + 1) / 4 = n by omega, show (4 * n + 2) / 4 = n by omega, show (4 * n + 3) / 4 = n by omega, show (4 * n + 0) % 4 = 0 by omega, show (4 * n + 1) % 4 = 1 by omega, show (4 * n + 2) % 4 = 2 by omega, show (4 * n + 3) % 4 = 3 by omega]
    simp
/-- a list of values of the call's own -/
def OwnV (w : World) (base : Nat) (v : Value) (ts : List Tv) : Prop :=
  ∃ c, w.ownsRow base 59 4 v ts.length (flatC ts.length c) ∧ ∀ i, i < ts.length → CodS (fun b => base ≤ b ∧ v.ownBlock ≠ some b) w (.agg (rowF 4 (c i))) (ts.getD i tv0)
theorem OwnV.nil (w : World) (base : Nat) : OwnV w base (.slice none 0 0) [] := ⟨fun _ _ => .int .i64 0, World.ownsRow_nil _ _ _ _, fun i hi => absurd hi (by simp)⟩
theorem OwnV.keep {w w' : World} {base : Nat} {v : Value} {ts : List Tv} (h : OwnV w base v ts) (hs : w.grownBy w' none) (hb : ∀ b, base ≤ b → b < w.heap.size → w'.heap[b]? = w.heap[b]?) : OwnV w' base v ts := by
  obtain ⟨c, h1, h2⟩ := h
  refine ⟨c, World.ownsRow.kept h1 (row := none) hs ?_, fun i hi => (h2 i hi).keep hs.size (fun b hlt hS => ⟨hS, hb b hS.1 hlt⟩)⟩
  cases hv : v.ownBlock with
  | none => exact .inl rfl
  | some k => exact .inr (by simp)
theorem OwnV.only {w w' : World} {base rb : Nat} {v : Value} {ts : List Tv} (h : OwnV w base v ts) (os : w'.os = w.os) (tape : w'.tape = w.tape) (output : w'.output = w.output) (hs : w.heap.size ≤ w'.heap.size) (hb : ∀ b, b < w.heap.size → b ≠ rb → w'.heap[b]? = w.heap[b]?) (hrb : rb < base) : OwnV w' base v ts := by
  obtain ⟨c, h1, h2⟩ := h
  refine ⟨c, World.ownsRow.kept h1 (row := some rb) ⟨os, tape, output, hs, fun k hk hn => hb k hk (fun e => hn (by rw [e]))⟩ ?_, fun i hi => (h2 i hi).keep hs (fun b hlt hS => ⟨hS, hb b hlt (by have := hS.1; omega)⟩)⟩
  cases hv : v.ownBlock with
  | none => exact .inl rfl
  | some k => exact .inr (by intro e; have := (World.ownsRow.lt h1 k hv).1; rw [Option.some.inj e] at this; omega)
theorem OwnV.lt {w : World} {base : Nat} {v : Value} {ts : List Tv} (h : OwnV w base v ts) : ∀ k, v.ownBlock = some k → base ≤ k ∧ k < w.heap.size := by
  obtain ⟨c, h1, _⟩ := h; exact World.ownsRow.lt h1
theorem OwnV.slice {w : World} {base : Nat} {v : Value} {ts : List Tv} (h : OwnV w base v ts) : ∃ (a : Option Addr) (c : Nat), v = .slice a ts.length c := by
  obtain ⟨c, h1, _⟩ := h
  rcases h1.2 with ⟨rfl, h3⟩ | ⟨g, cap, cur, rfl, _⟩
  · exact ⟨none, 0, by rw [h3]⟩
  · exact ⟨_, _, rfl⟩
theorem CodS.agg {S : Nat → Prop} {w : World} {u : Value} {t : Tv} (h : CodS S w u t) : ∃ k n s a m c, u = .agg #[.int .i64 k, .int .i64 n, .string s, .slice a m c] := by
  cases h with
  | mk k n s sl l c hk hn hs hl hi =>
    obtain ⟨a, cap, rfl⟩ := hl.at'.slice
    exact ⟨k, n, s, a, _, cap, rfl⟩
/-- it reads as a list -/
theorem OwnV.read {w : World} {base : Nat} {v : Value} {ts : List Tv} (h : OwnV w base v ts) (hn : (ts.length : Int) ≤ 140737488351232) {S : Nat → Prop} (hS : ∀ b, base ≤ b → S b) :
    ∃ c, SlS S 4 w v ts.length c ∧ ∀ i, i < ts.length → CodS S w (.agg (rowF 4 (c i))) (ts.getD i tv0) := by
  obtain ⟨c, h1, h2⟩ := h
  refine ⟨c, ?_, fun i hi => (h2 i hi).keep (Nat.le_refl _) (fun b _ hb => ⟨hS b hb.1, rfl⟩)⟩
  rcases h1.2 with ⟨rfl, h3⟩ | ⟨g, cap, cur, rfl, hb, hg, hle, hm, hs, ht⟩
  · exact .inl ⟨⟨none, 0, rfl, fun _ => rfl⟩, h3⟩
  · by_cases h0 : ts.length = 0
    · exact .inl ⟨⟨_, cap, by rw [h0], fun h => by cases h⟩, h0⟩
    · unfold maxLen at hm
      refine .inr ⟨g, 0, cap, rfl, hle, by omega, ⟨hn, by omega⟩, ⟨(Array.getElem?_eq_some_iff.1 hg).1, hS g hb⟩, fun i hi j hj => ?_⟩
      have h4 := World.ownsRow.cells h1 (g := g) rfl (4 * i + j) (c i j) (flatC_get hi hj)
      rw [Addr.add_mid, Nat.add_assoc] at *
      simpa using h4
theorem info_val3 : (Tryz.prog.info? 59).map (fun i => (i.zero, i.size, i.bytes)) = some (some (.agg #[.int .i64 0, .int .i64 0, .string ByteArray.empty, .slice none 0 0]), 4, 56) := by kernel_rfl
theorem info_parts3 {T : TypeId} {z : Value} {s b : Nat} (h : (Tryz.prog.info? T).map (fun i => (i.zero, i.size, i.bytes)) = some (some z, s, b)) : ∃ i, Tryz.prog.info? T = some i ∧ i.zero = some z ∧ i.size = s ∧ i.bytes = b := by
  obtain ⟨i, h1, h2⟩ := Option.map_eq_some_iff.1 h
  simp only [Prod.mk.injEq] at h2
  exact ⟨i, h1, h2.1, h2.2.1, h2.2.2⟩
/-- append(v.L, x) of one value -/
theorem wpList_app_val {w : World} {ops : Array Oper} {rest : List Oper} {o : Oper} {a : Act} {Q : Exit → Act → World → Prop} (hgd : o.guard = none) (s x : Operand)
    (ho : o.op = .call { callee := .builtin .append, args := #[s, x], argTypes := #[57, 57] })
    (base : Nat) (v : Value) (ts : List Tv) (hs : a.eval s = v) (hown : OwnV w base v ts) (g2 c2 : Nat) (f : Nat → Value) (t : Tv) (hx : a.eval x = .slice (some ⟨g2, 0, none⟩) 1 c2)
    (hrow : RowV w g2 59 4 f) (ht : CodS (fun b => base ≤ b ∧ v.ownBlock ≠ some b) w (.agg (rowF 4 f)) t) (hlen : ts.length ≤ 1000000) (hbase : base ≤ w.heap.size)
    (h : ∀ v' w', Hid (OwnV w' base v' (ts ++ [t])) → Hid (AppStep w v w' v') → wpList Tryz.prog ops Q rest (a.put o.dst v') w') : wpList Tryz.prog ops Q (o :: rest) a w := by
  obtain ⟨c, h1, h2⟩ := hown
  obtain ⟨i0, hi, hz0, hz1, hz2⟩ := info_parts3 info_val3
  have hone := ht.at'.cells
  refine wpList_app hgd s x 57 ho base 59 i0 _ 4 56 Tryz.underlying57 hi hz0 hz1 hz2 rfl (by decide) v ts.length (flatC ts.length c) hs h1 ⟨g2, 0, none⟩ 1 c2 [f 0, f 1, f 2, f 3] hx rfl ?_ ?_ (by unfold maxLen; omega) (by omega) hbase ?_
  · intro j u hj
    rw [Addr.add_mid, Nat.zero_add]
    have hj4 : j < 4 := by have := (List.getElem?_eq_some_iff.1 hj).1; simpa using this
    rw [hrow.cell hj4, ← hj]
    match j, hj4 with
    | 0, _ => rfl
    | 1, _ => rfl
    | 2, _ => rfl
    | 3, _ => rfl
  · intro u hu
    simp only [List.mem_cons, List.not_mem_nil, or_false] at hu
    rcases hu with rfl | rfl | rfl | rfl
    · exact hone 0 (by decide)
    · exact hone 1 (by decide)
    · exact hone 2 (by decide)
    · exact hone 3 (by decide)
  · intro v' w' h3 h4
    have keepS : ∀ {u : Value} {q : Tv}, CodS (fun b => base ≤ b ∧ v.ownBlock ≠ some b) w u q → CodS (fun b => base ≤ b ∧ v'.ownBlock ≠ some b) w' u q := fun hq =>
      hq.keep h4.1.size (fun b hlt hS => ⟨⟨hS.1, h4.ne hlt hS.2⟩, h4.block hlt hS.2⟩)
    refine h v' w' ⟨fun i => if i = ts.length then f else c i, ?_, ?_⟩ h4
    · rw [List.length_append, List.length_singleton, flatC_succ]; exact h3
    · intro i hi
      rw [List.length_append, List.length_singleton] at hi
      show CodS _ _ (.agg (rowF 4 (if i = ts.length then f else c i))) _
      by_cases e : i = ts.length
      · subst e
        rw [if_pos rfl, List.getD_eq_getElem?_getD, List.getElem?_append_right (Nat.le_refl _), Nat.sub_self]
        exact keepS ht
      · rw [if_neg e, List.getD_eq_getElem?_getD, List.getElem?_append_left (by omega), ← List.getD_eq_getElem?_getD]
        exact keepS (h2 i (by omega))
end Go.Proofs.YtpekhdahamloaaaGreatDoor
