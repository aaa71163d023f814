/- Package codec: Check, numerals, the writers, Encode. Package codec: the writers. -/
import Derived.Test.YtmmppibbglacdaaGreatDoorPk19
import Derived.Test.YtmmppibbglacdaaGreatDoorPk29
import Derived.Laws.EntriesVeiled
import Derived.BigQuiet
import Derived.Deep.QuietTactic
set_option linter.unusedVariables false
set_option linter.unusedSimpArgs false
namespace Go.Proofs.YtmmppibbglacdaaGreatDoor
open Go.RowKit Cod
theorem or_128 (x : Nat) : bits .or .u8 ((x : Int) % 256) 128 = (((UInt8.ofNat (x % 128 + 128)).toNat : Nat) : Int) := by
  have h : ∀ a : Fin 256, bits .or .u8 (a.val : Int) 128 = (((a.val % 128 + 128) : Nat) : Int) := by decide +kernel
  have h1 := h ⟨x % 256, Nat.mod_lt _ (by decide)⟩
  have e1 : ((x % 256 : Nat) : Int) = (x : Int) % 256 := by omega
  simp only at h1
  rw [← e1, h1]
  have e2 : (UInt8.ofNat (x % 128 + 128)).toNat = x % 128 + 128 := by simp; omega
  rw [e2]; omega
set_option maxRecDepth 100000 in
set_option maxHeartbeats 4000000 in
theorem numeral_any (u : Nat) (hu : u < 18446744073709551616) (base : Nat) (v0 : Value) (l0 : List UInt8) (w : World) (h0 : Owns w base v0 l0) (hbase : base ≤ w.heap.size) (hlen : l0.length ≤ 140737488350000) :
    Calls Tryz.prog 116 #[v0, .int .u64 (u : Int)] w fun e w' => ∃ v, e = .returned v ∧ Owns w' base v (l0 ++ numE u) ∧ AppStep w v0 w' v := by
  have P0 : Hid (Owns w base v0 (l0 ++ [])) := Lib.hid (by rw [List.append_nil]; exact h0)
  have HB := Lib.hid hbase
  have HU := Lib.hid hu
  have HL := Lib.hid hlen
  have H10 := Lib.hid (numE_10 hu)
  clear h0 hbase hu hlen
  go_enter Tryz.func116, Tryz.ntmps116
  go_wp2_with fail
  go_loopg [0, 1] u (fun g s0 s1 wx => ∃ (x : Nat) (v : Value) (dn : List UInt8), x = g ∧ s1 = .int .u64 (x : Int) ∧ s0 = v ∧ Hid (Owns wx base v (l0 ++ dn)) ∧ Hid (numE u = dn ++ numE x ∧ x < 18446744073709551616) ∧ Hid (AppStep w v0 wx v))
  case atStart => exact ⟨u, v0, [], rfl, rfl, rfl, P0, Lib.hid ⟨rfl, HU.out⟩, Lib.hid (AppStep.refl _ _)⟩
  case round =>
    clear P0
    obtain ⟨x, v, dn, rfl, rfl, e2, hO, hX, hB⟩ := hrel
    obtain rfl : v = _ := e2.symm
    by_cases hx : x < 128
    · have d0 : decide ((128 : Int) ≤ (x : Int)) = false := by rw [decide_eq_false_iff_not]; omega
      have d1 : decide (128 ≤ x) = false := by rw [decide_eq_false_iff_not]; omega
      obtain ⟨y, hy⟩ : ∃ y, UInt8.ofNat x = y := ⟨_, rfl⟩
      obtain ⟨yn, hyn⟩ : ∃ z : Int, (y.toNat : Int) = z := ⟨_, rfl⟩
      have hv : (x : Int) % 256 = yn := by rw [← hyn, ← hy]; simp
      have OB := Lib.hid (one_byte wr y)
      unfold vB at OB
      rw [hyn] at OB
      have EN : Hid (numE u = dn ++ [y]) := Lib.hid (by rw [hX.out.1, numE_lo hx, hy])
      have L4 := Lib.hid (show (l0 ++ dn).length + [y].length ≤ 140737488351232 from by
        have h1 := H10.out; have h2 := HL.out
        rw [EN.out, List.length_append] at h1
        rw [List.length_append]; simp at h1 ⊢; omega)
      clear hx hX hy hyn
      go_wp2_with ((with_reducible (show wpList _ _ _ (Oper.mk (some 19) _ _ _ _ _ :: _) _ _)); refine wpList_app_bytes rfl (.tmp 15) (.tmp 18) rfl base v (.slice (some ⟨wr.heap.size, 0, none⟩) 1 1) _ _ rfl rfl (Owns.alloc hO.out _) OB.out L4.out (by rw [World.size_alloc]; have := hB.out.1.size; have := HB.out; omega) ?_; intro v3 w3 O3 B3)
      go_ret
      exact ⟨_, rfl, by have h := O3.out; rw [List.append_assoc, ← EN.out] at h; exact h, (hB.out.trans (AppStep.of_below _ ((Below.refl _ _).alloc (Nat.le_refl _) _))).trans B3.out⟩
    · have d0 : decide ((128 : Int) ≤ (x : Int)) = true := by rw [decide_eq_true_iff]; omega
      have d1 : decide (128 ≤ x) = true := by rw [decide_eq_true_iff]; omega
      obtain ⟨y, hy⟩ : ∃ y, UInt8.ofNat (x % 128 + 128) = y := ⟨_, rfl⟩
      obtain ⟨yn, hyn⟩ : ∃ z : Int, (y.toNat : Int) = z := ⟨_, rfl⟩
      obtain ⟨xb, hxb⟩ : ∃ z : Int, (x : Int) % 256 = z := ⟨_, rfl⟩
      obtain ⟨xs, hxs⟩ : ∃ z : Int, (x : Int) / 128 = z := ⟨_, rfl⟩
      have hor : bits .or .u8 xb 128 = yn := by rw [← hxb, ← hyn, ← hy]; exact or_128 x
      have XS := Lib.hid (show xs = ((x / 128 : Nat) : Int) by rw [← hxs]; omega)
      have EN : Hid (numE u = (dn ++ [y]) ++ numE (x / 128)) := Lib.hid (by rw [hX.out.1, numE_hi hx, hy, List.append_assoc]; rfl)
      have L4 := Lib.hid (show (l0 ++ dn).length + [y].length ≤ 140737488351232 from by
        have h1 := H10.out; have h2 := HL.out
        rw [EN.out, List.length_append, List.length_append] at h1
        rw [List.length_append]; simp at h1 ⊢; omega)
      have X2 := Lib.hid (show x / 128 < 18446744073709551616 by have := hX.out.2; omega)
      have XL := Lib.hid (show x / 128 < x by omega)
      have OB := Lib.hid (one_byte wr y)
      unfold vB at OB
      rw [hyn] at OB
      clear hx hX hy hyn
      go_wp2_with ((with_reducible (show wpList _ _ _ (Oper.mk (some 14) _ _ _ _ _ :: _) _ _)); refine wpList_app_bytes rfl (.tmp 9) (.tmp 13) rfl base v (.slice (some ⟨wr.heap.size, 0, none⟩) 1 1) _ _ rfl rfl (Owns.alloc hO.out _) OB.out L4.out (by rw [World.size_alloc]; have := hB.out.1.size; have := HB.out; omega) ?_; intro v3 w3 O3 B3)
      rw [XS.out]
      go_roundg (x / 128)
      case measure => exact XL.out
      case rel =>
        go_light
        exact ⟨x / 128, v3, dn ++ [y], rfl, rfl, rfl, Lib.hid (by have h := O3.out; rw [List.append_assoc] at h; exact h), Lib.hid ⟨EN.out, X2.out⟩, Lib.hid ((hB.out.trans (AppStep.of_below _ ((Below.refl _ _).alloc (Nat.le_refl _) _))).trans B3.out)⟩
theorem xor_zig {n : Int} (hn : i64B n) : bits .xor .u64 (IntKind.u64.wrap (IntKind.u64.wrap n * 2)) (IntKind.u64.wrap (n / 9223372036854775808)) = ((zig n : Nat) : Int) := by
  obtain ⟨h1, h2⟩ := hn
  have hu : IntKind.u64.wrap n = n % 18446744073709551616 := IntKind.wrap_u64 n
  rw [hu, IntKind.wrap_u64, IntKind.wrap_u64]
  by_cases h0 : 0 ≤ n
  · have e1 : n / 9223372036854775808 = 0 := by omega
    have e2 : n % 18446744073709551616 * 2 % 18446744073709551616 = ((2 * n.toNat : Nat) : Int) := by omega
    rw [e1, e2]
    unfold zig
    rw [if_pos h0]
    show IntKind.u64.wrap ((BitVec.ofInt 64 ((2 * n.toNat : Nat) : Int) ^^^ BitVec.ofInt 64 (0 % 18446744073709551616)).toNat : Nat) = _
    rw [show BitVec.ofInt 64 (0 % 18446744073709551616) = 0#64 from rfl, BitVec.xor_zero, BitVec.toNat_ofInt, IntKind.wrap_u64]
    omega
  · have e1 : n / 9223372036854775808 = -1 := by omega
    have e2 : n % 18446744073709551616 * 2 % 18446744073709551616 = 2 * n + 18446744073709551616 := by omega
    rw [e1, e2]
    unfold zig
    rw [if_neg h0]
    show IntKind.u64.wrap ((BitVec.ofInt 64 (2 * n + 18446744073709551616) ^^^ BitVec.ofInt 64 (-1 % 18446744073709551616)).toNat : Nat) = _
    rw [show BitVec.ofInt 64 (-1 % 18446744073709551616) = BitVec.allOnes 64 from rfl, BitVec.xor_allOnes, BitVec.toNat_not, BitVec.toNat_ofInt, IntKind.wrap_u64]
    have : ((2 ^ 64 : Nat) : Int) = 18446744073709551616 := by decide
    rw [this]
    omega
set_option maxRecDepth 100000 in
set_option maxHeartbeats 2000000 in
theorem unsigned_any (n : Int) (hn : i64B n) (w : World) :
    Calls Tryz.prog 117 #[.int .i64 n] w fun e w' => e = .returned (.int .u64 ((zig n : Nat) : Int)) ∧ w = w' := by
  have hx := Lib.hid (xor_zig hn)
  go_enter Tryz.func117, Tryz.ntmps117
  go_wp2
  rw [hx.out]
  go_ret
  exact ⟨rfl, rfl⟩
/-- the writers in memory: the table in block b, the variable that holds its address in block c -/
def wrC (c : Nat) : Nat → Value
  | 0 => .nilFunc
  | 1 => .func (.func 115) #[] #[]
  | 2 => .func (.func 118) #[] #[]
  | _ => .func (.func 119) #[] #[.pointer (some ⟨c, 0, none⟩)]
def WrAt (w : World) (b c : Nat) : Prop := RowV w b 138 4 (wrC c) ∧ RowV w c 115 1 (fun _ => .pointer (some ⟨b, 0, none⟩))
set_option maxRecDepth 100000 in
set_option maxHeartbeats 4000000 in
theorem newWriter_any (w : World) :
    Calls Tryz.prog 88 #[] w fun e w' => (∃ b c, e = .returned (.pointer (some ⟨b, 0, none⟩)) ∧ WrAt w' b c) ∧ Below w.heap.size w w' := by
  have hmf : ∀ (fn : Fn) (first cap : Array Value) (w : World), (Instr.makeFunc fn first cap).run Tryz.prog w = .ok (.func fn first cap) w := fun _ _ _ _ => rfl
  go_enter Tryz.func88, Tryz.ntmps88
  go_wp2_with fail
  go_ret
  refine ⟨⟨_, w.heap.size + 1, rfl, ?_, ?_⟩, ?_⟩
  · have h := (RowV.new w 138 4 (wrC (w.heap.size + 1))).alloc (.cells #[Value.pointer (some { block := w.heap.size, off := 0 })] 115)
    exact h
  · have h := RowV.new (w.alloc (.cells (rowF 4 (wrC (w.heap.size + 1))) 138)) 115 1 (fun _ => .pointer (some ⟨w.heap.size, 0, none⟩))
    rw [World.size_alloc] at h
    exact h
  · exact ((Below.refl _ w).alloc (Nat.le_refl _) _).alloc (by rw [World.size_alloc]; omega) _
end Go.Proofs.YtmmppibbglacdaaGreatDoor

namespace Go.Proofs.YtmmppibbglacdaaGreatDoor
open Go.RowKit Cod
theorem enc_1 (n : Int) (s : ByteArray) (l : List Tv) : encV (.mk 1 n s l) = 1 :: numE (zig n) := by unfold encV; rw [if_pos rfl]
theorem enc_2 (n : Int) (s : ByteArray) (l : List Tv) : encV (.mk 2 n s l) = 2 :: (numE s.size ++ s.data.toList) := by unfold encV; rw [if_neg (by decide), if_pos rfl]
theorem enc_3 (n : Int) (s : ByteArray) (l : List Tv) : encV (.mk 3 n s l) = 3 :: (numE l.length ++ encL l) := by unfold encV; rw [if_neg (by decide), if_neg (by decide)]
theorem size_data (s : ByteArray) : s.data.toList.length = s.size := Array.length_toList
set_option maxRecDepth 100000 in
set_option maxHeartbeats 8000000 in
theorem write1_any (n : Int) (s : ByteArray) (l : List Tv) (v : Value) (base : Nat) (v0 : Value) (l0 : List UInt8) (w : World) (hv : CodAt w v (.mk 1 n s l)) (h0 : Owns w base v0 l0) (hbase : base ≤ w.heap.size) (hlen : l0.length + (encV (.mk 1 n s l)).length ≤ 140737488340000) :
    Calls Tryz.prog 115 #[v0, v] w fun e w' => ∃ v', e = .returned v' ∧ Owns w' base v' (l0 ++ encV (.mk 1 n s l)) ∧ AppStep w v0 w' v' := by
  obtain ⟨a, cap, c, rfl, hk, hn, hs, hl, hc⟩ := hv.open
  obtain ⟨m, hm⟩ : ∃ m, l.length = m := ⟨_, rfl⟩
  rw [enc_1] at hlen ⊢
  rw [hm]
  have HU := Lib.hid (fun W => unsigned_any n hn W)
  have HZ := Lib.hid (zig_lt hn.1 hn.2)
  have HL := Lib.hid hlen
  have HB := Lib.hid hbase
  have HO := Lib.hid h0
  obtain ⟨u, hu⟩ : ∃ u, zig n = u := ⟨_, rfl⟩
  rw [hu] at HU HZ HL ⊢
  clear hl hc hv hm hlen hbase h0 hu
  go_enter Tryz.func115, Tryz.ntmps115
  have B0 := Lib.hid (Below.refl w.heap.size w)
  go_upto_region 1 with fail
  obtain ⟨w1, hw1⟩ : ∃ y, w.alloc (.cells #[.int .i64 1, .int .i64 n, .string s, .slice a m cap] 90) = y := ⟨_, rfl⟩
  have b1 : Below w.heap.size w w1 := by rw [← hw1]; exact (Below.refl _ _).alloc (Nat.le_refl _) _
  have V1 : Hid (RowV w1 w.heap.size 90 4 (valC 1 n s (.slice a m cap))) := Lib.hid (by rw [← hw1]; exact RowV.new w _ 4 (valC 1 n s (.slice a m cap)))
  have z1 : w.heap.size + 1 = w1.heap.size := by rw [← hw1]; exact (Array.size_push _).symm
  rw [hw1]
  (try rw [z1])
  have B1 := Lib.hid (B0.out.trans (b1.mono B0.out.size))
  clear b1 hw1 z1 B0
  have SZ := Lib.hid (V1.out.lt)
  have NE := Lib.hid (show v0.ownBlock ≠ some w.heap.size from fun e => by have := (World.ownsRow.lt HO.out _ e).2; omega)
  have O1 := Lib.hid (HO.out.below B1.out)
  have A1 := Lib.hid (AppStep.of_below v0 B1.out)
  refine Tc.wp_region_plan (Tc.Rl.stay (fun k => k = w.heap.size)) 5 [] (.fl 0 (.fl 3 (.fl 4 (.one 1 (.one 2 .done))))) (by kernel_rfl) (by kernel_rfl) ?_
  intro w2 b2 e2
  have B2 := Lib.hid (B1.out.trans (b2.mono B1.out.size))
  have V2 := Lib.hid (V1.out.below b2)
  have SZ2 := Lib.hid (show w.heap.size < w2.heap.size by rw [e2]; exact SZ.out)
  have O2 := Lib.hid (O1.out.below b2)
  have A2 := Lib.hid (A1.out.trans (AppStep.of_below v0 b2))
  have HB2 := Lib.hid (show base ≤ w2.heap.size by have := HB.out; have := SZ2.out; omega)
  clear b2 e2 B1 V1 O1 A1 SZ
  refine Tc.plan_floats [0, 3, 4] [_, _, _] rfl ?_
  dsimp only [List.getElem_toArray, List.getElem_cons_succ, List.getElem_cons_zero]
  repeat (go_big_quiet_want; go_big_quiet_op; first | go_big_quiet_on | (refine ⟨_, fun _ _ => rfl, ?_⟩; go_big_quiet_on))
  refine wpQuiet_load_cell rfl 3 (.tmp 8) rfl w.heap.size 1 rfl _ Tryz.underlying3 rfl (.int .i64 n) (fun W hW => (stay_row (S := fun k => k = w.heap.size) V2.out rfl hW).cell (i := 1) (by decide)) ?_
  simp only [Act.put, List.setIfInBounds_toArray, List.set_cons_succ, List.set_cons_zero]
  refine wpQuiet_nil ?_
  refine Tc.plan_one 1 rfl (fun K hK => ?_)
  go_wp2_with fail
  have al := (Below.refl _ w2).alloc (Nat.le_refl _) (.cells #[vB 1] 5)
  refine hK _ _ (stay_below al (fun k hk => by subst hk; exact SZ2.out)) ?_
  have Y3 := Lib.hid (one_byte w2 1)
  have O3 := Lib.hid (O2.out.below al)
  have T3 := Lib.hid (AppStep.of_below v0 al)
  have A3 := Lib.hid (A2.out.trans (AppStep.of_below v0 al))
  have SZ3 := Lib.hid (Nat.lt_of_lt_of_le SZ2.out al.size)
  have HB3 := Lib.hid (Nat.le_trans HB2.out al.size)
  obtain ⟨w3, hw3⟩ : ∃ y, w2.alloc (.cells #[vB 1] 5) = y := ⟨_, rfl⟩
  have hw3' : w2.alloc (.cells #[.int .u8 1] 5) = w3 := hw3
  rw [hw3] at Y3 O3 A3 SZ3 HB3 T3
  rw [hw3']
  clear hK K al hw3 hw3' O2 A2
  refine Tc.plan_one 2 rfl (fun K hK => ?_)
  refine wpList_app_bytes rfl (.tmp 5) (.tmp 6) rfl base v0 (.slice (some ⟨w2.heap.size, 0, none⟩) 1 1) _ _ rfl rfl O3.out Y3.out (by have := HL.out; simp only [List.length_cons, List.length_append, List.length_nil] at this ⊢; omega) HB3.out ?_
  intro v4 w4 O4 s4
  go_wp2_with fail
  refine hK _ _ (stay_app s4.out (fun k hk => by subst hk; exact ⟨SZ3.out, NE.out⟩)) ?_
  have A4 := Lib.hid (A3.out.trans s4.out)
  have T4 := Lib.hid (T3.out.trans s4.out)
  have HB4 := Lib.hid (Nat.le_trans HB3.out s4.out.1.size)
  have SZ4 := Lib.hid (Nat.lt_of_lt_of_le SZ3.out s4.out.1.size)
  have NE4 := Lib.hid (s4.out.ne SZ3.out NE.out)
  clear hK K s4 O3 A3 Y3 T3
  refine Tc.plan_done (l := _) rfl (fun K hK => ?_)
  go_wp2_with fail
  refine (HU.out _).mono ?_
  rintro e w' ⟨rfl, rfl⟩
  go_wp2_with fail
  refine (numeral_any u HZ.out base v4 (l0 ++ [1]) _ O4.out HB4.out (by have := HL.out; rw [List.length_append]; simp only [List.length_cons, List.length_append, List.length_nil] at this ⊢; omega)).mono ?_
  rintro e w5 ⟨v5, rfl, o5, s5⟩
  have O5 := Lib.hid o5
  have A5 := Lib.hid (A4.out.trans s5)
  have HB5 := Lib.hid (Nat.le_trans HB4.out s5.1.size)
  clear o5 s5 O4 A4
  go_wp2_with fail
  go_ret
  exact ⟨v5, rfl, by have h := O5.out; rw [List.append_assoc] at h; exact h, A5.out⟩
set_option maxRecDepth 100000 in
set_option maxHeartbeats 8000000 in
theorem write2_any (n : Int) (s : ByteArray) (l : List Tv) (v : Value) (base : Nat) (v0 : Value) (l0 : List UInt8) (w : World) (hv : CodAt w v (.mk 2 n s l)) (h0 : Owns w base v0 l0) (hbase : base ≤ w.heap.size) (hlen : l0.length + (encV (.mk 2 n s l)).length ≤ 140737488340000) :
    Calls Tryz.prog 118 #[v0, v] w fun e w' => ∃ v', e = .returned v' ∧ Owns w' base v' (l0 ++ encV (.mk 2 n s l)) ∧ AppStep w v0 w' v' := by
  obtain ⟨a, cap, c, rfl, hk, hn, hs, hl, hc⟩ := hv.open
  obtain ⟨m, hm⟩ : ∃ m, l.length = m := ⟨_, rfl⟩
  rw [enc_2] at hlen ⊢
  rw [hm]
  have HL := Lib.hid hlen
  have HB := Lib.hid hbase
  have HO := Lib.hid h0
  have HS := Lib.hid (show s.size < 18446744073709551616 by omega)
  have w1 : IntKind.u64.wrap (s.size : Int) = (s.size : Int) := by rw [IntKind.wrap_u64]; omega
  clear hl hc hv hm hlen hbase h0
  go_enter Tryz.func118, Tryz.ntmps118
  have B0 := Lib.hid (Below.refl w.heap.size w)
  go_upto_region 1 with fail
  obtain ⟨w1, hw1⟩ : ∃ y, w.alloc (.cells #[.int .i64 2, .int .i64 n, .string s, .slice a m cap] 90) = y := ⟨_, rfl⟩
  have b1 : Below w.heap.size w w1 := by rw [← hw1]; exact (Below.refl _ _).alloc (Nat.le_refl _) _
  have V1 : Hid (RowV w1 w.heap.size 90 4 (valC 2 n s (.slice a m cap))) := Lib.hid (by rw [← hw1]; exact RowV.new w _ 4 (valC 2 n s (.slice a m cap)))
  have z1 : w.heap.size + 1 = w1.heap.size := by rw [← hw1]; exact (Array.size_push _).symm
  rw [hw1]
  (try rw [z1])
  have B1 := Lib.hid (B0.out.trans (b1.mono B0.out.size))
  clear b1 hw1 z1 B0
  have SZ := Lib.hid (V1.out.lt)
  have NE := Lib.hid (show v0.ownBlock ≠ some w.heap.size from fun e => by have := (World.ownsRow.lt HO.out _ e).2; omega)
  have O1 := Lib.hid (HO.out.below B1.out)
  have A1 := Lib.hid (AppStep.of_below v0 B1.out)
  refine Tc.wp_region_plan (Tc.Rl.stay (fun k => k = w.heap.size)) 12 [] (.fl 0 (.fl 3 (.fl 4 (.fl 5 (.fl 6 (.fl 8 (.fl 9 (.one 1 (.one 2 (.one 7 (.one 10 (.one 11 .done)))))))))))) (by kernel_rfl) (by kernel_rfl) ?_
  intro w2 b2 e2
  have B2 := Lib.hid (B1.out.trans (b2.mono B1.out.size))
  have V2 := Lib.hid (V1.out.below b2)
  have SZ2 := Lib.hid (show w.heap.size < w2.heap.size by rw [e2]; exact SZ.out)
  have O2 := Lib.hid (O1.out.below b2)
  have A2 := Lib.hid (A1.out.trans (AppStep.of_below v0 b2))
  have HB2 := Lib.hid (show base ≤ w2.heap.size by have := HB.out; have := SZ2.out; omega)
  clear b2 e2 B1 V1 O1 A1 SZ
  refine Tc.plan_floats [0, 3, 4, 5, 6, 8, 9] [_, _, _, _, _, _, _] rfl ?_
  dsimp only [List.getElem_toArray, List.getElem_cons_succ, List.getElem_cons_zero]
  repeat (go_big_quiet_want; go_big_quiet_op; first | go_big_quiet_on | (refine ⟨_, fun _ _ => rfl, ?_⟩; go_big_quiet_on))
  refine wpQuiet_load_cell rfl 9 (.tmp 8) rfl w.heap.size 2 rfl _ Tryz.underlying9 rfl (.string s) (fun W hW => (stay_row (S := fun k => k = w.heap.size) V2.out rfl hW).cell (i := 2) (by decide)) ?_
  simp only [Act.put, List.setIfInBounds_toArray, List.set_cons_succ, List.set_cons_zero]
  repeat (go_big_quiet_want; go_big_quiet_op; first | go_big_quiet_on | (refine ⟨_, fun _ _ => rfl, ?_⟩; go_big_quiet_on))
  refine wpQuiet_load_cell rfl 9 (.tmp 13) rfl w.heap.size 2 rfl _ Tryz.underlying9 rfl (.string s) (fun W hW => (stay_row (S := fun k => k = w.heap.size) V2.out rfl hW).cell (i := 2) (by decide)) ?_
  simp only [Act.put, List.setIfInBounds_toArray, List.set_cons_succ, List.set_cons_zero]
  refine wpQuiet_nil ?_
  refine Tc.plan_one 1 rfl (fun K hK => ?_)
  go_wp2_with fail
  have al := (Below.refl _ w2).alloc (Nat.le_refl _) (.cells #[vB 2] 5)
  refine hK _ _ (stay_below al (fun k hk => by subst hk; exact SZ2.out)) ?_
  have Y3 := Lib.hid (one_byte w2 2)
  have O3 := Lib.hid (O2.out.below al)
  have T3 := Lib.hid (AppStep.of_below v0 al)
  have A3 := Lib.hid (A2.out.trans (AppStep.of_below v0 al))
  have SZ3 := Lib.hid (Nat.lt_of_lt_of_le SZ2.out al.size)
  have HB3 := Lib.hid (Nat.le_trans HB2.out al.size)
  obtain ⟨w3, hw3⟩ : ∃ y, w2.alloc (.cells #[vB 2] 5) = y := ⟨_, rfl⟩
  have hw3' : w2.alloc (.cells #[.int .u8 2] 5) = w3 := hw3
  rw [hw3] at Y3 O3 A3 SZ3 HB3 T3
  rw [hw3']
  clear hK K al hw3 hw3' O2 A2
  refine Tc.plan_one 2 rfl (fun K hK => ?_)
  refine wpList_app_bytes rfl (.tmp 5) (.tmp 6) rfl base v0 (.slice (some ⟨w2.heap.size, 0, none⟩) 1 1) _ _ rfl rfl O3.out Y3.out (by have := HL.out; simp only [List.length_cons, List.length_append, List.length_nil] at this ⊢; omega) HB3.out ?_
  intro v4 w4 O4 s4
  go_wp2_with fail
  refine hK _ _ (stay_app s4.out (fun k hk => by subst hk; exact ⟨SZ3.out, NE.out⟩)) ?_
  have A4 := Lib.hid (A3.out.trans s4.out)
  have T4 := Lib.hid (T3.out.trans s4.out)
  have HB4 := Lib.hid (Nat.le_trans HB3.out s4.out.1.size)
  have SZ4 := Lib.hid (Nat.lt_of_lt_of_le SZ3.out s4.out.1.size)
  have NE4 := Lib.hid (s4.out.ne SZ3.out NE.out)
  clear hK K s4 O3 A3 Y3 T3
  refine Tc.plan_one 7 rfl (fun K hK => ?_)
  go_wp2_with fail
  refine (numeral_any s.size HS.out base v4 (l0 ++ [2]) _ O4.out HB4.out (by have := HL.out; rw [List.length_append]; simp only [List.length_cons, List.length_append, List.length_nil] at this ⊢; omega)).mono ?_
  rintro e w5 ⟨v5, rfl, o5, s5⟩
  have O5 := Lib.hid o5
  have A5 := Lib.hid (A4.out.trans s5)
  have HB5 := Lib.hid (Nat.le_trans HB4.out s5.1.size)
  go_wp2_with fail
  refine hK _ _ (stay_app s5 (fun k hk => by subst hk; exact ⟨SZ4.out, NE4.out⟩)) ?_
  have SZ5 := Lib.hid (Nat.lt_of_lt_of_le SZ4.out s5.1.size)
  have NE5 := Lib.hid (s5.ne SZ4.out NE4.out)
  clear hK K o5 s5 O4 A4
  refine Tc.plan_one 10 rfl (fun K hK => ?_)
  refine wpList_app_string rfl (.tmp 12) (.tmp 14) rfl base v5 s _ rfl rfl O5.out (by have := HL.out; have h2 := size_data s; simp only [List.length_cons, List.length_append, List.length_nil] at this ⊢; omega) HB5.out ?_
  intro v6 w6 O6 s6
  go_wp2_with fail
  refine hK _ _ (stay_app s6.out (fun k hk => by subst hk; exact ⟨SZ5.out, NE5.out⟩)) ?_
  have A6 := Lib.hid (A5.out.trans s6.out)
  clear hK K s6 O5 A5
  refine Tc.plan_one 11 rfl (fun K hK => ?_)
  go_wp2_with fail
  refine hK _ _ (Tc.Rl.refl _ _) ?_
  clear hK K
  refine Tc.plan_done (l := []) rfl (fun K hK => ?_)
  go_wp2_with fail
  go_ret
  exact ⟨v6, rfl, by have h := O6.out; rw [List.append_assoc, List.append_assoc] at h; exact h, A6.out⟩
/-- the function that writes a kind, and what it has captured -/
def wrF (k : Int) : FuncId := if k = 1 then 115 else if k = 2 then 118 else 119
def wrCap (c : Nat) (k : Int) : Array Value := if k = 3 then #[.pointer (some ⟨c, 0, none⟩)] else #[]
def WrOk (W0 : World) (b c : Nat) (v : Value) (t : Tv) : Prop := ∀ (base : Nat) (v0 : Value) (l0 : List UInt8) (w : World), W0.heap.size ≤ base → Below W0.heap.size W0 w → Owns w base v0 l0 → base ≤ w.heap.size → l0.length + (encV t).length ≤ 140737488340000 →
    Calls Tryz.prog (wrF t.k) (#[v0, v] ++ wrCap c t.k) w fun e w' => ∃ v', e = .returned v' ∧ Owns w' base v' (l0 ++ encV t) ∧ AppStep w v0 w' v'
theorem form_kind {t : Tv} (h : formB t = true) : t.k = 1 ∨ t.k = 2 ∨ t.k = 3 := by
  obtain ⟨k, n, s, l⟩ := t
  show k = 1 ∨ k = 2 ∨ k = 3
  by_cases h1 : k = 1
  · exact .inl h1
  by_cases h2 : k = 2
  · exact .inr (.inl h2)
  by_cases h3 : k = 3
  · exact .inr (.inr h3)
  · rw [form_no n s l h1 h2 h3] at h; cases h
theorem CodAt.kind {w : World} {f : Nat → Value} {t : Tv} (h : CodAt w (.agg (rowF 4 f)) t) : f 0 = .int .i64 t.k := by
  obtain ⟨k, n, s, l⟩ := t
  obtain ⟨a, cap, c, e, _⟩ := h.open
  have e1 := Value.agg.inj e
  have e2 : (rowF 4 f)[0]? = (#[.int .i64 k, .int .i64 n, .string s, .slice a l.length cap] : Array Value)[0]? := by rw [e1]
  rw [rowF_get (by decide)] at e2
  exact Option.some.inj e2
theorem encL_le (l : List Tv) {i : Nat} (h : i < l.length) : (encL (l.take i)).length + (encV (l.getD i tv0)).length ≤ (encL l).length := by
  have h1 : encL l = encL (l.take (i + 1)) ++ encL (l.drop (i + 1)) := by rw [← encL_append, List.take_append_drop]
  have h2 := congrArg List.length h1
  rw [encL_take l h, List.length_append, List.length_append] at h2
  omega
set_option maxRecDepth 100000 in
set_option maxHeartbeats 16000000 in
theorem write3_any (W0 : World) (b c : Nat) (hw : WrAt W0 b c) (n : Int) (s : ByteArray) (l : List Tv) (a : Option Addr) (m cap : Nat) (hm : l.length = m) (cc : Nat → Nat → Value) (hl : SlAt 4 W0 (.slice a m cap) m cc)
    (hcc : ∀ i, i < m → CodAt W0 (.agg (rowF 4 (cc i))) (l.getD i tv0)) (hf : ∀ i, i < m → formB (l.getD i tv0) = true) (hok : ∀ i, i < m → WrOk W0 b c (.agg (rowF 4 (cc i))) (l.getD i tv0)) : WrOk W0 b c (.agg #[.int .i64 3, .int .i64 n, .string s, .slice a m cap]) (.mk 3 n s l) := by
  intro base v0 l0 w hb0 hW h0 hbase hlen
  rw [enc_3] at hlen ⊢
  rw [hm] at hlen ⊢
  show Calls Tryz.prog 119 #[v0, .agg #[.int .i64 3, .int .i64 n, .string s, .slice a m cap], .pointer (some ⟨c, 0, none⟩)] w _
  have HW := Lib.hid hw
  have HM := Lib.hid hm
  have HL2 := Lib.hid hl
  have HC := Lib.hid hcc
  have HF := Lib.hid hf
  have HK := Lib.hid hok
  have HBB := Lib.hid hb0
  have HWW := Lib.hid hW
  have HL := Lib.hid hlen
  have HB := Lib.hid hbase
  have HO := Lib.hid h0
  have zm := hl.len_le
  have HS := Lib.hid (show m < 18446744073709551616 by omega)
  have w1 : IntKind.u64.wrap (m : Int) = (m : Int) := by rw [IntKind.wrap_u64]; omega
  clear hw hm hl hcc hf hok hb0 hW hlen hbase h0
  go_enter Tryz.func119, Tryz.ntmps119
  have B0 := Lib.hid (Below.refl w.heap.size w)
  go_upto_region 1 with fail
  obtain ⟨w1, hw1⟩ : ∃ y, w.alloc (.cells #[.int .i64 3, .int .i64 n, .string s, .slice a m cap] 90) = y := ⟨_, rfl⟩
  have b1 : Below w.heap.size w w1 := by rw [← hw1]; exact (Below.refl _ _).alloc (Nat.le_refl _) _
  have V1 : Hid (RowV w1 w.heap.size 90 4 (valC 3 n s (.slice a m cap))) := Lib.hid (by rw [← hw1]; exact RowV.new w _ 4 (valC 3 n s (.slice a m cap)))
  have z1 : w.heap.size + 1 = w1.heap.size := by rw [← hw1]; exact (Array.size_push _).symm
  rw [hw1]
  (try rw [z1])
  have B1 := Lib.hid (B0.out.trans (b1.mono B0.out.size))
  clear b1 hw1 z1 B0
  have SZ := Lib.hid (V1.out.lt)
  have NE := Lib.hid (show v0.ownBlock ≠ some w.heap.size from fun e => by have := (World.ownsRow.lt HO.out _ e).2; omega)
  have O1 := Lib.hid (HO.out.below B1.out)
  have A1 := Lib.hid (AppStep.of_below v0 B1.out)
  go_cut [0] (fun s0 wx => ∃ v, s0 = v ∧ Owns wx base v (l0 ++ (3 :: numE m)) ∧ AppStep w v0 wx v ∧ RowV wx w.heap.size 90 4 (valC 3 n s (.slice a m cap)) ∧ v.ownBlock ≠ some w.heap.size)
  case first =>
    refine Tc.wp_region_plan (Tc.Rl.stay (fun k => k = w.heap.size)) 7 [] (.fl 0 (.fl 3 (.fl 4 (.fl 5 (.fl 6 (.one 1 (.one 2 .done))))))) (by kernel_rfl) (by kernel_rfl) ?_
    intro w2 b2 e2
    have B2 := Lib.hid (B1.out.trans (b2.mono B1.out.size))
    have V2 := Lib.hid (V1.out.below b2)
    have SZ2 := Lib.hid (show w.heap.size < w2.heap.size by rw [e2]; exact SZ.out)
    have O2 := Lib.hid (O1.out.below b2)
    have A2 := Lib.hid (A1.out.trans (AppStep.of_below v0 b2))
    have HB2 := Lib.hid (show base ≤ w2.heap.size by have := HB.out; have := SZ2.out; omega)
    clear b2 e2 B1 V1 O1 A1 SZ
    refine Tc.plan_floats [0, 3, 4, 5, 6] [_, _, _, _, _] rfl ?_
    dsimp only [List.getElem_toArray, List.getElem_cons_succ, List.getElem_cons_zero]
    repeat (go_big_quiet_want; go_big_quiet_op; first | go_big_quiet_on | (refine ⟨_, fun _ _ => rfl, ?_⟩; go_big_quiet_on))
    refine wpQuiet_load_cell rfl 88 (.tmp 11) rfl w.heap.size 3 rfl _ Tryz.underlying88 rfl (.slice a m cap) (fun W hW => (stay_row (S := fun k => k = w.heap.size) V2.out rfl hW).cell (i := 3) (by decide)) ?_
    simp only [Act.put, List.setIfInBounds_toArray, List.set_cons_succ, List.set_cons_zero]
    repeat (go_big_quiet_want; go_big_quiet_op; first | go_big_quiet_on | (refine ⟨_, fun _ _ => rfl, ?_⟩; go_big_quiet_on))
    refine wpQuiet_nil ?_
    refine Tc.plan_one 1 rfl (fun K hK => ?_)
    go_wp2_with fail
    have al := (Below.refl _ w2).alloc (Nat.le_refl _) (.cells #[vB 3] 5)
    refine hK _ _ (stay_below al (fun k hk => by subst hk; exact SZ2.out)) ?_
    have Y3 := Lib.hid (one_byte w2 3)
    have O3 := Lib.hid (O2.out.below al)
    have T3 := Lib.hid (AppStep.of_below v0 al)
    have A3 := Lib.hid (A2.out.trans (AppStep.of_below v0 al))
    have SZ3 := Lib.hid (Nat.lt_of_lt_of_le SZ2.out al.size)
    have HB3 := Lib.hid (Nat.le_trans HB2.out al.size)
    obtain ⟨w3, hw3⟩ : ∃ y, w2.alloc (.cells #[vB 3] 5) = y := ⟨_, rfl⟩
    have hw3' : w2.alloc (.cells #[.int .u8 3] 5) = w3 := hw3
    rw [hw3] at Y3 O3 A3 SZ3 HB3 T3
    rw [hw3']
    clear hK K al hw3 hw3' O2 A2
    refine Tc.plan_one 2 rfl (fun K hK => ?_)
    refine wpList_app_bytes rfl (.tmp 8) (.tmp 9) rfl base v0 (.slice (some ⟨w2.heap.size, 0, none⟩) 1 1) _ _ rfl rfl O3.out Y3.out (by have := HL.out; simp only [List.length_cons, List.length_append, List.length_nil] at this ⊢; omega) HB3.out ?_
    intro v4 w4 O4 s4
    go_wp2_with fail
    refine hK _ _ (stay_app s4.out (fun k hk => by subst hk; exact ⟨SZ3.out, NE.out⟩)) ?_
    have A4 := Lib.hid (A3.out.trans s4.out)
    have T4 := Lib.hid (T3.out.trans s4.out)
    have HB4 := Lib.hid (Nat.le_trans HB3.out s4.out.1.size)
    have SZ4 := Lib.hid (Nat.lt_of_lt_of_le SZ3.out s4.out.1.size)
    have NE4 := Lib.hid (s4.out.ne SZ3.out NE.out)
    clear hK K s4 O3 A3 Y3 T3
    refine Tc.plan_done (l := _) rfl (fun K hK => ?_)
    go_wp2_with fail
    refine (numeral_any m HS.out base v4 (l0 ++ [3]) _ O4.out HB4.out (by have := HL.out; rw [List.length_append]; simp only [List.length_cons, List.length_append, List.length_nil] at this ⊢; omega)).mono ?_
    rintro e w5 ⟨v5, rfl, o5, s5⟩
    have O5 := Lib.hid o5
    have A5 := Lib.hid (A4.out.trans s5)
    have HB5 := Lib.hid (Nat.le_trans HB4.out s5.1.size)
    go_wp2_with fail
    go_meet
    exact ⟨v5, rfl, by have h := O5.out; rw [List.append_assoc] at h; exact h, A5.out, (T4.out.trans s5).row V2.out NE.out, ((T4.out.trans s5).ne SZ2.out NE.out)⟩
  case rest =>
    rename World => w6
    obtain ⟨v, e0, hO, hA, hV, hN⟩ := hcut
    obtain rfl : v = _ := e0.symm
    have O6 := Lib.hid hO
    have A6 := Lib.hid hA
    have x3 : w6.cell? ⟨w.heap.size, 3, none⟩ = some (.slice a m cap) := hV.cell (i := 3) (by decide)
    clear hO hA hN SZ NE O1 A1 B1 V1
    go_upto_region 3 with fail
    clear x3
    go_loopg [0, 19] m (fun g s0 s19 wx => ∃ (i : Nat) (u : Value), i + g = m ∧ s19 = .int .i64 (i : Int) ∧ s0 = u ∧ Hid (Owns wx base u ((l0 ++ 3 :: numE m) ++ encL (l.take i))) ∧ Hid (AppStep w v0 wx u))
    case atStart => exact ⟨0, v, by omega, rfl, rfl, Lib.hid (by rw [List.take_zero, show encL [] = [] from by simp [encL], List.append_nil]; exact O6.out), A6⟩
    case round =>
      clear O6 A6 hV
      obtain ⟨i, u, hi, rfl, e2, hO, hA⟩ := hrel
      obtain rfl : u = _ := e2.symm
      obtain ⟨w7, rfl⟩ : ∃ y, y = wr := ⟨_, rfl⟩
      by_cases hlt : i < m
      · have W7 := Lib.hid (HWW.out.trans ((hA.out.below HO.out HB.out).mono HBB.out))
        obtain ⟨b2, off, rfl, hcap, hb2, hcell⟩ := (HL2.out.below W7.out).at_elem hlt
        have HE := Lib.hid (hcell i hlt)
        have CE := Lib.hid (HC.out i hlt)
        have OC := Lib.hid CE.out.cells
        have KD := CE.out.kind
        have KI := form_kind (HF.out i hlt)
        have KO := Lib.hid (HK.out i hlt)
        have EL := Lib.hid (encL_le l (i := i) (by rw [HM.out]; exact hlt))
        have ET := Lib.hid (encL_take l (k := i) (by rw [HM.out]; exact hlt))
        obtain ⟨ti, hti⟩ : ∃ f, l.getD i tv0 = f := ⟨_, rfl⟩
        rw [hti] at CE KD KI KO EL ET
        have LB : Hid (((l0 ++ 3 :: numE m) ++ encL (l.take i)).length + (encV ti).length ≤ 140737488340000) := Lib.hid (by
          have h1 := HL.out; have h2 := EL.out
          simp only [List.length_append, List.length_cons] at h1 ⊢; omega)
        have d0 : decide ((i : Int) < (m : Int)) = true := by rw [decide_eq_true_iff]; omega
        have z1 : (0 : Int) ≤ (i : Int) := Int.natCast_nonneg i
        have z2 : (i : Int) < (m : Int) := by omega
        have p0 : 0 ≤ (i : Int) ∧ (i : Int) < (m : Int) := by omega
        have z3 : ((i : Int)).toNat = i := Int.toNat_natCast i
        have ZR := Lib.hid (RowV.new w7 90 4 zeroC)
        have KDH := Lib.hid KD
        have KIH := Lib.hid KI
        clear hcell hti hb2 hlt KD KI EL
        go_upto_region 5 with (first | ((with_reducible (show wpList _ _ _ (Oper.mk (some 22) _ _ _ _ _ :: _) _ _)); refine wpList_load_elem rfl 90 (.tmp 21) rfl b2 _ rfl 4 off i (by omega) (cc i) HE.out _ Tryz.underlying90 rfl (by kernel_rfl) ?_) | ((with_reducible (show wpList _ _ _ (Oper.mk none _ _ _ _ _ :: _) _ _)); refine wpList_store_rowV (o := ⟨none, .store 90 (.tmp 7) (.tmp 22), _, _, _, _⟩) rfl 90 (.tmp 7) (.tmp 22) rfl w7.heap.size rfl 4 90 _ (cc i) rfl ZR.out (by kernel_rfl) OC.out ?_; intro w8 V8 o8))
        have b8 : Below w7.heap.size w7 w8 := ((Below.refl _ w7).alloc (Nat.le_refl _) _).trans (o8.out.below (Nat.le_refl _) (by rw [World.size_alloc]; omega))
        have O8 := Lib.hid (hO.out.below b8)
        have A8 := Lib.hid (hA.out.trans (AppStep.of_below u b8))
        have W8 := Lib.hid (W7.out.trans (b8.mono W7.out.size))
        clear b8 o8 hO hA HE ZR OC W7
        refine Tc.wp_region_plan (Tc.Rl.stay (fun k => k < w8.heap.size)) 9 [] (.fl 0 (.fl 1 (.fl 2 (.fl 3 (.fl 4 (.fl 5 (.fl 6 (.fl 7 (.fl 8 .done))))))))) (by kernel_rfl) (by kernel_rfl) ?_
        intro w9 b9 e9
        have V9 := Lib.hid (V8.out.below b9)
        have O9 := Lib.hid (O8.out.below b9)
        have A9 := Lib.hid (A8.out.trans (AppStep.of_below u b9))
        have W9 := Lib.hid (W8.out.trans (b9.mono W8.out.size))
        have L1 := Lib.hid V8.out.lt
        have R1 := Lib.hid (HW.out.1.below W9.out)
        have R2 := Lib.hid (HW.out.2.below W9.out)
        have L2 := Lib.hid (Nat.lt_of_lt_of_le HW.out.1.lt W8.out.size)
        have L3 := Lib.hid (Nat.lt_of_lt_of_le HW.out.2.lt W8.out.size)
        have H9 := Lib.hid (show base ≤ w9.heap.size from Nat.le_trans HB.out A9.out.1.size)
        clear b9 e9 V8 O8 A8 W8
        refine Tc.plan_floats [0, 1, 2, 3, 4, 5, 6, 7, 8] [_, _, _, _, _, _, _, _, _] rfl ?_
        dsimp only [List.getElem_toArray, List.getElem_cons_succ, List.getElem_cons_zero]
        refine wpQuiet_load_cell rfl 115 (.tmp 2) rfl c 0 rfl _ Tryz.underlying115 rfl (.pointer (some ⟨b, 0, none⟩)) (fun W hW => (stay_row (S := fun k => k < w8.heap.size) R2.out L3.out hW).cell (i := 0) (by decide)) ?_
        simp only [Act.put, List.setIfInBounds_toArray, List.set_cons_succ, List.set_cons_zero]
        repeat (go_big_quiet_want; go_big_quiet_op; first | go_big_quiet_on | (refine ⟨_, fun _ _ => rfl, ?_⟩; go_big_quiet_on))
        rcases KIH.out with k1 | k1 | k1
        · refine wpQuiet_load_cell rfl 3 (.tmp 24) rfl w7.heap.size 0 rfl _ Tryz.underlying3 rfl (.int .i64 1) (fun W hW => ((stay_row (S := fun k => k < w8.heap.size) V9.out L1.out hW).cell (i := 0) (by decide)).trans (by rw [KDH.out, k1])) ?_
          simp only [Act.put, List.setIfInBounds_toArray, List.set_cons_succ, List.set_cons_zero]
          repeat (go_big_quiet_want; go_big_quiet_op; first | go_big_quiet_on | (refine ⟨_, fun _ _ => rfl, ?_⟩; go_big_quiet_on))
          refine wpQuiet_load_cell rfl 112 (.tmp 28) rfl b 1 rfl _ Tryz.underlying112 rfl (.func (.func 115) #[] #[]) (fun W hW => (stay_row (S := fun k => k < w8.heap.size) R1.out L2.out hW).cell (i := 1) (by decide)) ?_
          simp only [Act.put, List.setIfInBounds_toArray, List.set_cons_succ, List.set_cons_zero]
          repeat (go_big_quiet_want; go_big_quiet_op; first | go_big_quiet_on | (refine ⟨_, fun _ _ => rfl, ?_⟩; go_big_quiet_on))
          refine wpQuiet_load_agg rfl 90 (.tmp 7) rfl w7.heap.size rfl _ Tryz.underlying90 rfl 4 (by kernel_rfl) 90 (cc i) (fun W hW => stay_row (S := fun k => k < w8.heap.size) V9.out L1.out hW) ?_
          simp only [Act.put, List.setIfInBounds_toArray, List.set_cons_succ, List.set_cons_zero]
          refine wpQuiet_nil ?_
          have call : Calls Tryz.prog 115 #[u, .agg (rowF 4 (cc i))] w9 (fun e wx => ∃ vx, e = .returned vx ∧ Owns wx base vx (((l0 ++ 3 :: numE m) ++ encL (l.take i)) ++ encV ti) ∧ AppStep w9 u wx vx) := by
            have h := KO.out base u _ w9 HBB.out W9.out O9.out H9.out LB.out
            rw [k1] at h
            exact h
          have HCall := Lib.hid call
          clear call k1 KDH KIH V9 R1 R2 L1 L2 L3 KO LB
          refine Tc.plan_done (l := _) rfl (fun K hK => ?_)
          go_wp2_with fail
          refine HCall.out.mono ?_
          rintro e w10 ⟨u2, rfl, o10, s10⟩
          have O10 := Lib.hid o10
          have A10 := Lib.hid (A9.out.trans s10)
          clear o10 s10 A9 O9 HCall
          go_wp2_with fail
          go_roundg (gk - 1)
          case measure => omega
          case rel =>
            go_light
            exact ⟨i + 1, u2, by omega, by go_num, rfl, Lib.hid (by have h := O10.out; rw [List.append_assoc, ← ET.out] at h; exact h), A10⟩
        · refine wpQuiet_load_cell rfl 3 (.tmp 24) rfl w7.heap.size 0 rfl _ Tryz.underlying3 rfl (.int .i64 2) (fun W hW => ((stay_row (S := fun k => k < w8.heap.size) V9.out L1.out hW).cell (i := 0) (by decide)).trans (by rw [KDH.out, k1])) ?_
          simp only [Act.put, List.setIfInBounds_toArray, List.set_cons_succ, List.set_cons_zero]
          repeat (go_big_quiet_want; go_big_quiet_op; first | go_big_quiet_on | (refine ⟨_, fun _ _ => rfl, ?_⟩; go_big_quiet_on))
          refine wpQuiet_load_cell rfl 112 (.tmp 28) rfl b 2 rfl _ Tryz.underlying112 rfl (.func (.func 118) #[] #[]) (fun W hW => (stay_row (S := fun k => k < w8.heap.size) R1.out L2.out hW).cell (i := 2) (by decide)) ?_
          simp only [Act.put, List.setIfInBounds_toArray, List.set_cons_succ, List.set_cons_zero]
          repeat (go_big_quiet_want; go_big_quiet_op; first | go_big_quiet_on | (refine ⟨_, fun _ _ => rfl, ?_⟩; go_big_quiet_on))
          refine wpQuiet_load_agg rfl 90 (.tmp 7) rfl w7.heap.size rfl _ Tryz.underlying90 rfl 4 (by kernel_rfl) 90 (cc i) (fun W hW => stay_row (S := fun k => k < w8.heap.size) V9.out L1.out hW) ?_
          simp only [Act.put, List.setIfInBounds_toArray, List.set_cons_succ, List.set_cons_zero]
          refine wpQuiet_nil ?_
          have call : Calls Tryz.prog 118 #[u, .agg (rowF 4 (cc i))] w9 (fun e wx => ∃ vx, e = .returned vx ∧ Owns wx base vx (((l0 ++ 3 :: numE m) ++ encL (l.take i)) ++ encV ti) ∧ AppStep w9 u wx vx) := by
            have h := KO.out base u _ w9 HBB.out W9.out O9.out H9.out LB.out
            rw [k1] at h
            exact h
          have HCall := Lib.hid call
          clear call k1 KDH KIH V9 R1 R2 L1 L2 L3 KO LB
          refine Tc.plan_done (l := _) rfl (fun K hK => ?_)
          go_wp2_with fail
          refine HCall.out.mono ?_
          rintro e w10 ⟨u2, rfl, o10, s10⟩
          have O10 := Lib.hid o10
          have A10 := Lib.hid (A9.out.trans s10)
          clear o10 s10 A9 O9 HCall
          go_wp2_with fail
          go_roundg (gk - 1)
          case measure => omega
          case rel =>
            go_light
            exact ⟨i + 1, u2, by omega, by go_num, rfl, Lib.hid (by have h := O10.out; rw [List.append_assoc, ← ET.out] at h; exact h), A10⟩
        · refine wpQuiet_load_cell rfl 3 (.tmp 24) rfl w7.heap.size 0 rfl _ Tryz.underlying3 rfl (.int .i64 3) (fun W hW => ((stay_row (S := fun k => k < w8.heap.size) V9.out L1.out hW).cell (i := 0) (by decide)).trans (by rw [KDH.out, k1])) ?_
          simp only [Act.put, List.setIfInBounds_toArray, List.set_cons_succ, List.set_cons_zero]
          repeat (go_big_quiet_want; go_big_quiet_op; first | go_big_quiet_on | (refine ⟨_, fun _ _ => rfl, ?_⟩; go_big_quiet_on))
          refine wpQuiet_load_cell rfl 112 (.tmp 28) rfl b 3 rfl _ Tryz.underlying112 rfl (.func (.func 119) #[] #[.pointer (some ⟨c, 0, none⟩)]) (fun W hW => (stay_row (S := fun k => k < w8.heap.size) R1.out L2.out hW).cell (i := 3) (by decide)) ?_
          simp only [Act.put, List.setIfInBounds_toArray, List.set_cons_succ, List.set_cons_zero]
          repeat (go_big_quiet_want; go_big_quiet_op; first | go_big_quiet_on | (refine ⟨_, fun _ _ => rfl, ?_⟩; go_big_quiet_on))
          refine wpQuiet_load_agg rfl 90 (.tmp 7) rfl w7.heap.size rfl _ Tryz.underlying90 rfl 4 (by kernel_rfl) 90 (cc i) (fun W hW => stay_row (S := fun k => k < w8.heap.size) V9.out L1.out hW) ?_
          simp only [Act.put, List.setIfInBounds_toArray, List.set_cons_succ, List.set_cons_zero]
          refine wpQuiet_nil ?_
          have call : Calls Tryz.prog 119 #[u, .agg (rowF 4 (cc i)), .pointer (some ⟨c, 0, none⟩)] w9 (fun e wx => ∃ vx, e = .returned vx ∧ Owns wx base vx (((l0 ++ 3 :: numE m) ++ encL (l.take i)) ++ encV ti) ∧ AppStep w9 u wx vx) := by
            have h := KO.out base u _ w9 HBB.out W9.out O9.out H9.out LB.out
            rw [k1] at h
            exact h
          have HCall := Lib.hid call
          clear call k1 KDH KIH V9 R1 R2 L1 L2 L3 KO LB
          refine Tc.plan_done (l := _) rfl (fun K hK => ?_)
          go_wp2_with fail
          refine HCall.out.mono ?_
          rintro e w10 ⟨u2, rfl, o10, s10⟩
          have O10 := Lib.hid o10
          have A10 := Lib.hid (A9.out.trans s10)
          clear o10 s10 A9 O9 HCall
          go_wp2_with fail
          go_roundg (gk - 1)
          case measure => omega
          case rel =>
            go_light
            exact ⟨i + 1, u2, by omega, by go_num, rfl, Lib.hid (by have h := O10.out; rw [List.append_assoc, ← ET.out] at h; exact h), A10⟩
      · obtain rfl : i = m := by omega
        have d0 : decide ((i : Int) < (i : Int)) = false := by rw [decide_eq_false_iff_not]; omega
        have e1 : Hid (l.take i = l) := Lib.hid (List.take_of_length_le (by rw [HM.out]; exact Nat.le_refl _))
        go_wp2_with fail
        go_ret
        exact ⟨u, rfl, by have h := hO.out; rw [e1.out, List.append_assoc] at h; exact h, hA.out⟩
end Go.Proofs.YtmmppibbglacdaaGreatDoor
