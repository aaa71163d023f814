/- Package codec: Check, numerals, the writers, Encode. -/
import Derived.Test.YtbjbgneejdjniaaDoorPk19
import Derived.Test.YtbjbgneejdjniaaDoorPk36
import Derived.Laws.EntriesVeiled
set_option linter.unusedVariables false
set_option linter.unusedSimpArgs false
namespace Go.Proofs.YtbjbgneejdjniaaDoor
open Go.RowKit Cod
theorem or_128 (x : Nat) : bits .or .u8 ((x : Int) % 256) 128 = (((UInt8.ofNat (x % 128 + 128)).toNat : Nat) : Int) := by
  have h : ∀ a : Fin 256, bits .or .u8 (a.val : Int) 128 = (((a.val % 128 + 128) : Nat) : Int) := by decide +kernel
  have h1 := h ⟨x % 256, Nat.mod_lt _ (by decide)⟩
  have e1 : ((x % 256 : Nat) : Int) = (x : Int) % 256 := by omega
  simp only at h1
  rw [← e1, h1]
  have e2 : (UInt8.ofNat (x % 128 + 128)).toNat = x % 128 + 128 := by simp; omega
  rw [e2]; omega
set_option maxRecDepth 100000 in
set_option maxHeartbeats 4000000 in
theorem numeral_any (u : Nat) (hu : u < 18446744073709551616) (base : Nat) (v0 : Value) (l0 : List UInt8) (w : World) (h0 : Owns w base v0 l0) (hbase : base ≤ w.heap.size) (hlen : l0.length ≤ 140737488350000) :
    Calls Tryd.prog 59 #[v0, .int .u64 (u : Int)] w fun e w' => ∃ v, e = .returned v ∧ Owns w' base v (l0 ++ numE u) ∧ AppStep w v0 w' v := by
  have P0 : Hid (Owns w base v0 (l0 ++ [])) := Lib.hid (by rw [List.append_nil]; exact h0)
  have HB := Lib.hid hbase
  have HU := Lib.hid hu
  have HL := Lib.hid hlen
  have H10 := Lib.hid (numE_10 hu)
  clear h0 hbase hu hlen
  go_enter Tryd.func59, Tryd.ntmps59
  go_wp2_with fail
  go_loopg [0, 1] u (fun g s0 s1 wx => ∃ (x : Nat) (v : Value) (dn : List UInt8), x = g ∧ s1 = .int .u64 (x : Int) ∧ s0 = v ∧ Hid (Owns wx base v (l0 ++ dn)) ∧ Hid (numE u = dn ++ numE x ∧ x < 18446744073709551616) ∧ Hid (AppStep w v0 wx v))
  case atStart => exact ⟨u, v0, [], rfl, rfl, rfl, P0, Lib.hid ⟨rfl, HU.out⟩, Lib.hid (AppStep.refl _ _)⟩
  case round =>
    clear P0
    obtain ⟨x, v, dn, rfl, rfl, e2, hO, hX, hB⟩ := hrel
    obtain rfl : v = _ := e2.symm
    by_cases hx : x < 128
    · have d0 : decide ((128 : Int) ≤ (x : Int)) = false := by rw [decide_eq_false_iff_not]; omega
      have d1 : decide (128 ≤ x) = false := by rw [decide_eq_false_iff_not]; omega
      obtain ⟨y, hy⟩ : ∃ y, UInt8.ofNat x = y := ⟨_, rfl⟩
      obtain ⟨yn, hyn⟩ : ∃ z : Int, (y.toNat : Int) = z := ⟨_, rfl⟩
      have hv : (x : Int) % 256 = yn := by rw [← hyn, ← hy]; simp
      have OB := Lib.hid (one_byte wr y)
      unfold vB at OB
      rw [hyn] at OB
      have EN : Hid (numE u = dn ++ [y]) := Lib.hid (by rw [hX.out.1, numE_lo hx, hy])
      have L4 := Lib.hid (show (l0 ++ dn).length + [y].length ≤ 140737488351232 from by
        have h1 := H10.out; have h2 := HL.out
        rw [EN.out, List.length_append] at h1
        rw [List.length_append]; simp at h1 ⊢; omega)
      clear hx hX hy hyn
      go_wp2_with ((with_reducible (show wpList _ _ _ (Oper.mk (some 19) _ _ _ _ _ :: _) _ _)); refine wpList_app_bytes rfl (.tmp 15) (.tmp 18) rfl base v (.slice (some ⟨wr.heap.size, 0, none⟩) 1 1) _ _ rfl rfl (Owns.alloc hO.out _) OB.out L4.out (by rw [World.size_alloc]; have := hB.out.1.size; have := HB.out; omega) ?_; intro v3 w3 O3 B3)
      go_ret
      exact ⟨_, rfl, by have h := O3.out; rw [List.append_assoc, ← EN.out] at h; exact h, (hB.out.trans (AppStep.of_below _ ((Below.refl _ _).alloc (Nat.le_refl _) _))).trans B3.out⟩
    · have d0 : decide ((128 : Int) ≤ (x : Int)) = true := by rw [decide_eq_true_iff]; omega
      have d1 : decide (128 ≤ x) = true := by rw [decide_eq_true_iff]; omega
      obtain ⟨y, hy⟩ : ∃ y, UInt8.ofNat (x % 128 + 128) = y := ⟨_, rfl⟩
      obtain ⟨yn, hyn⟩ : ∃ z : Int, (y.toNat : Int) = z := ⟨_, rfl⟩
      obtain ⟨xb, hxb⟩ : ∃ z : Int, (x : Int) % 256 = z := ⟨_, rfl⟩
      obtain ⟨xs, hxs⟩ : ∃ z : Int, (x : Int) / 128 = z := ⟨_, rfl⟩
      have hor : bits .or .u8 xb 128 = yn := by rw [← hxb, ← hyn, ← hy]; exact or_128 x
      have XS := Lib.hid (show xs = ((x / 128 : Nat) : Int) by rw [← hxs]; omega)
      have EN : Hid (numE u = (dn ++ [y]) ++ numE (x / 128)) := Lib.hid (by rw [hX.out.1, numE_hi hx, hy, List.append_assoc]; rfl)
      have L4 := Lib.hid (show (l0 ++ dn).length + [y].length ≤ 140737488351232 from by
        have h1 := H10.out; have h2 := HL.out
        rw [EN.out, List.length_append, List.length_append] at h1
        rw [List.length_append]; simp at h1 ⊢; omega)
      have X2 := Lib.hid (show x / 128 < 18446744073709551616 by have := hX.out.2; omega)
      have XL := Lib.hid (show x / 128 < x by omega)
      have OB := Lib.hid (one_byte wr y)
      unfold vB at OB
      rw [hyn] at OB
      clear hx hX hy hyn
      go_wp2_with ((with_reducible (show wpList _ _ _ (Oper.mk (some 14) _ _ _ _ _ :: _) _ _)); refine wpList_app_bytes rfl (.tmp 9) (.tmp 13) rfl base v (.slice (some ⟨wr.heap.size, 0, none⟩) 1 1) _ _ rfl rfl (Owns.alloc hO.out _) OB.out L4.out (by rw [World.size_alloc]; have := hB.out.1.size; have := HB.out; omega) ?_; intro v3 w3 O3 B3)
      rw [XS.out]
      go_roundg (x / 128)
      case measure => exact XL.out
      case rel =>
        go_light
        exact ⟨x / 128, v3, dn ++ [y], rfl, rfl, rfl, Lib.hid (by have h := O3.out; rw [List.append_assoc] at h; exact h), Lib.hid ⟨EN.out, X2.out⟩, Lib.hid ((hB.out.trans (AppStep.of_below _ ((Below.refl _ _).alloc (Nat.le_refl _) _))).trans B3.out)⟩
theorem xor_zig {n : Int} (hn : i64B n) : bits .xor .u64 (IntKind.u64.wrap (IntKind.u64.wrap n * 2)) (IntKind.u64.wrap (n / 9223372036854775808)) = ((zig n : Nat) : Int) := by
  obtain ⟨h1, h2⟩ := hn
  have hu : IntKind.u64.wrap n = n % 18446744073709551616 := IntKind.wrap_u64 n
  rw [hu, IntKind.wrap_u64, IntKind.wrap_u64]
  by_cases h0 : 0 ≤ n
  · have e1 : n / 9223372036854775808 = 0 := by omega
    have e2 : n % 18446744073709551616 * 2 % 18446744073709551616 = ((2 * n.toNat : Nat) : Int) := by omega
    rw [e1, e2]
    unfold zig
    rw [if_pos h0]
    show IntKind.u64.wrap ((BitVec.ofInt 64 ((2 * n.toNat : Nat) : Int) ^^^ BitVec.ofInt 64 (0 % 18446744073709551616)).toNat : Nat) = _
    rw [show BitVec.ofInt 64 (0 % 18446744073709551616) = 0#64 from rfl, BitVec.xor_zero, BitVec.toNat_ofInt, IntKind.wrap_u64]
    omega
  · have e1 : n / 9223372036854775808 = -1 := by omega
    have e2 : n % 18446744073709551616 * 2 % 18446744073709551616 = 2 * n + 18446744073709551616 := by omega
    rw [e1, e2]
    unfold zig
    rw [if_neg h0]
    show IntKind.u64.wrap ((BitVec.ofInt 64 (2 * n + 18446744073709551616) ^^^ BitVec.ofInt 64 (-1 % 18446744073709551616)).toNat : Nat) = _
    rw [show BitVec.ofInt 64 (-1 % 18446744073709551616) = BitVec.allOnes 64 from rfl, BitVec.xor_allOnes, BitVec.toNat_not, BitVec.toNat_ofInt, IntKind.wrap_u64]
    have : ((2 ^ 64 : Nat) : Int) = 18446744073709551616 := by decide
    rw [this]
    omega
set_option maxRecDepth 100000 in
set_option maxHeartbeats 2000000 in
theorem unsigned_any (n : Int) (hn : i64B n) (w : World) :
    Calls Tryd.prog 60 #[.int .i64 n] w fun e w' => e = .returned (.int .u64 ((zig n : Nat) : Int)) ∧ w = w' := by
  have hx := Lib.hid (xor_zig hn)
  go_enter Tryd.func60, Tryd.ntmps60
  go_wp2
  rw [hx.out]
  go_ret
  exact ⟨rfl, rfl⟩
/-- the writers in memory: the table in block b, the variable that holds its address in block c -/
def wrC (c : Nat) : Nat → Value
  | 0 => .nilFunc
  | 1 => .func (.func 58) #[] #[]
  | 2 => .func (.func 61) #[] #[]
  | _ => .func (.func 62) #[] #[.pointer (some ⟨c, 0, none⟩)]
def WrAt (w : World) (b c : Nat) : Prop := RowV w b 107 4 (wrC c) ∧ RowV w c 79 1 (fun _ => .pointer (some ⟨b, 0, none⟩))
set_option maxRecDepth 100000 in
set_option maxHeartbeats 4000000 in
theorem newWriter_any (w : World) :
    Calls Tryd.prog 33 #[] w fun e w' => (∃ b c, e = .returned (.pointer (some ⟨b, 0, none⟩)) ∧ WrAt w' b c) ∧ Below w.heap.size w w' := by
  have hmf : ∀ (fn : Fn) (first cap : Array Value) (w : World), (Instr.makeFunc fn first cap).run Tryd.prog w = .ok (.func fn first cap) w := fun _ _ _ _ => rfl
  go_enter Tryd.func33, Tryd.ntmps33
  go_wp2_with fail
  go_ret
  refine ⟨⟨_, w.heap.size + 1, rfl, ?_, ?_⟩, ?_⟩
  · have h := (RowV.new w 107 4 (wrC (w.heap.size + 1))).alloc (.cells #[Value.pointer (some { block := w.heap.size, off := 0 })] 79)
    exact h
  · have h := RowV.new (w.alloc (.cells (rowF 4 (wrC (w.heap.size + 1))) 107)) 79 1 (fun _ => .pointer (some ⟨w.heap.size, 0, none⟩))
    rw [World.size_alloc] at h
    exact h
  · exact ((Below.refl _ w).alloc (Nat.le_refl _) _).alloc (by rw [World.size_alloc]; omega) _
end Go.Proofs.YtbjbgneejdjniaaDoor
