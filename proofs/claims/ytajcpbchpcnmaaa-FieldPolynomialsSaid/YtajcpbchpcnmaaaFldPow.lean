/- The contracts of package field's binary and power. -/
import Derived.Test.YtajcpbchpcnmaaaFld
set_option linter.unusedVariables false
set_option linter.unusedSimpArgs false
namespace Go.Proofs.Ytajcpbchpcnmaaa
open Go.RowKit Go.Shelf

theorem len_any (x : Nat) (hx : x < 18446744073709551616) (w : World) :
    Calls Try.prog 74 #[.int .u64 x] w fun e w' => e = .returned (.int .i64 (Lib.bitLen x)) ∧ w = w' := by
  have h := len64_any x w (by omega) (by omega)
  rw [Int.toNat_natCast] at h
  have H := Lib.hid h
  obtain ⟨y, hy⟩ : ∃ y, Lib.bitLen x = y := ⟨_, rfl⟩
  rw [hy] at H ⊢
  clear h hy
  go_enter Try.func74, Try.ntmps74
  go_wp2_with fail
  refine (H.out).mono ?_
  rintro e w' ⟨rfl, rfl⟩
  go_wp2_with fail
  go_ret
  exact ⟨rfl, rfl⟩

theorem i64_and1 (n : Int) : bits .and .i64 n 1 = n % 2 := by
  have h1 : (BitVec.ofInt 64 1).toNat = 2 ^ 1 - 1 := by decide
  have key : (BitVec.ofInt 64 n &&& BitVec.ofInt 64 1).toNat = (n % ((2 ^ 64 : Nat) : Int)).toNat % 2 ^ 1 := by
    rw [BitVec.toNat_and, BitVec.toNat_ofInt, h1, Nat.and_two_pow_sub_one_eq_mod]
  show IntKind.i64.wrap ((BitVec.ofInt 64 n &&& BitVec.ofInt 64 1).toNat : Nat) = n % 2
  rw [key, IntKind.wrap_i64]
  omega

attribute [local go_sem] Oper.semAt_some

set_option maxRecDepth 100000 in
set_option maxHeartbeats 1000000 in
/-- binary's closure: for every loop body that keeps the box of k. -/
theorem binary1_in (n : Nat) (hn : 1 ≤ n) (l Bk n0 k : Nat) (hk : k ≤ 9223372036854775807) (J Jx : List Bool → World → Prop)
    (hY : ∀ pre x W, J pre W → pre.length < Lib.bitLen k → YieldAt Fence.wide (n - 1) Try.prog l #[.bool x] W fun e W' =>
      (e = .returned (.bool true) ∧ J (pre ++ [x]) W' ∧ KeepBox n0 Bk W W') ∨ (e = .returned (.bool false) ∧ Jx (pre ++ [x]) W'))
    (W : World) (hB : W.cell? ⟨Bk, 0, none⟩ = some (.int .i64 k)) (h0 : J [] W) :
    CallsIn Fence.wide n Try.prog 73 #[.func (.yield l) #[] #[], .pointer (some ⟨Bk, 0, none⟩)] W fun e W' => (∃ v, e = .returned v) ∧
      ((∃ ys, ys = upto (bitAt k (Lib.bitLen k)) (Lib.bitLen k) ∧ J ys W') ∨ (∃ pre, (∃ j, j ≤ Lib.bitLen k ∧ pre = upto (bitAt k (Lib.bitLen k)) j) ∧ Jx pre W')) := by
  have hlen := len_any k (by omega) W
  have hL := bitLen_le64 (k : Int) (by omega) (by omega)
  rw [Int.toNat_natCast] at hL
  have Hlen := Lib.hid hlen
  clear hlen
  generalize Lib.bitLen k = L at *
  refine callsIn_of_wp Try.func73 rfl trivial ?_ rfl
  simp only [Try.ntmps73, List.size_toArray, List.length_cons, List.length_nil, Nat.reduceAdd, Nat.reduceSub, Array.replicate_succ, Array.replicate_zero, List.push_toArray, List.append_toArray, List.nil_append, List.cons_append]
  gi_wp2_with (refine ⟨trivial, ?_⟩; gi_at_call 74; refine (callsIn_wide.2 (Hlen.out)).mono ?_; rintro e w' ⟨rfl, rfl⟩)
  gi_loopw [3] (fun i wr => ∃ m : Nat, m ≤ L ∧ i = .int .i64 ((m : Int) - 1) ∧ J (upto (bitAt k L) (L - m)) wr ∧ KeepBox n0 Bk W wr) (fun i _ => (intOf i + 1).toNat)
  case atStart => exact ⟨L, Nat.le_refl _, rfl, by rw [Nat.sub_self]; exact h0, KeepBox.refl _ _ _⟩
  case round =>
    obtain ⟨m, hm, rfl, hJs, hkb⟩ := hrel
    have hB2 : wr.cell? ⟨Bk, 0, none⟩ = some (.int .i64 k) := (World.cell?_of_block (w := W) (a := ⟨Bk, 0, none⟩) hkb.2).trans hB
    clear hB
    cases m with
    | zero =>
      gi_wp2
      go_end0
      exact ⟨⟨_, rfl⟩, .inl ⟨_, rfl, by simpa using hJs⟩⟩
    | succ m =>
      have em : ((m + 1 : Nat) : Int) - 1 = (m : Int) := by omega
      rw [em]
      have rmin : min m 64 = m := by omega
      have hq2 : k / 2 ^ m ≤ 9223372036854775807 := Nat.le_trans (Nat.div_le_self _ _) hk
      obtain ⟨q, hq⟩ : ∃ q, k / 2 ^ m = q := ⟨_, rfl⟩
      have rq : (k : Int) / 2 ^ m = (q : Int) := by rw [← hq]; push_cast; rfl
      rw [hq] at hq2
      have hidx : L - 1 - (L - (m + 1)) = m := by omega
      have hnext : upto (bitAt k L) (L - m) = upto (bitAt k L) (L - (m + 1)) ++ [decide (q % 2 = 1)] := by
        rw [show L - m = (L - (m + 1)) + 1 from by omega, upto_succ]
        congr 2
        unfold bitAt; rw [hidx, hq]
      have rand : bits .and .i64 (q : Int) 1 = ((q % 2 : Nat) : Int) := by rw [i64_and1 q]; omega
      have Hnext := Lib.hid hnext
      clear hnext hq hidx em
      by_cases hbit : q % 2 = 1
      · have rand1 : bits .and .i64 (q : Int) 1 = 1 := by rw [rand, hbit]; rfl
        have hd : decide (q % 2 = 1) = true := by rw [hbit]; rfl
        have Hn2 := Hnext.out
        rw [hd] at Hn2
        have HN2 := Lib.hid Hn2
        obtain ⟨fn, tmps, assign, body, hy, hR⟩ := hY _ true wr hJs (by rw [upto_length]; omega)
        clear rand hbit hd Hn2 Hnext
        gi_wp2
        refine hR.mono ?_
        rintro e W3 (⟨rfl, hJ3, hk3⟩ | ⟨rfl, hJx3⟩)
        · gi_wp2
          go_roundw
          case rel => exact ⟨m, by omega, rfl, by rw [HN2.out]; exact hJ3, hkb.trans hk3⟩
          case measure => simp [intOf]
        · gi_wp2
          refine bodyPost_ret (results_none rfl _ _ _) rfl ?_
          exact ⟨⟨_, rfl⟩, .inr ⟨_, ⟨L - m, by omega, HN2.out.symm⟩, hJx3⟩⟩
      · have hbit : q % 2 = 0 := by omega
        have rand1 : bits .and .i64 (q : Int) 1 = 0 := by rw [rand, hbit]; rfl
        have hd : decide (q % 2 = 1) = false := by rw [hbit]; rfl
        have Hn2 := Hnext.out
        rw [hd] at Hn2
        have HN2 := Lib.hid Hn2
        obtain ⟨fn, tmps, assign, body, hy, hR⟩ := hY _ false wr hJs (by rw [upto_length]; omega)
        clear rand hbit hd Hn2 Hnext
        gi_wp2
        refine hR.mono ?_
        rintro e W3 (⟨rfl, hJ3, hk3⟩ | ⟨rfl, hJx3⟩)
        · gi_wp2
          go_roundw
          case rel => exact ⟨m, by omega, rfl, by rw [HN2.out]; exact hJ3, hkb.trans hk3⟩
          case measure => simp [intOf]
        · gi_wp2
          refine bodyPost_ret (results_none rfl _ _ _) rfl ?_
          exact ⟨⟨_, rfl⟩, .inr ⟨_, ⟨L - m, by omega, HN2.out.symm⟩, hJx3⟩⟩


theorem binary_stops (n : Nat) (hn : 1 ≤ n) (Bk n0 k : Nat) (hk : k ≤ 9223372036854775807) (w : World) (hBk : Bk < w.heap.size) (hc : w.cell? ⟨Bk, 0, none⟩ = some (.int .i64 k)) :
    SeqStopsK Fence.wide n Try.prog 73 #[.pointer (some ⟨Bk, 0, none⟩)] (fun x : Bool => #[Value.bool x]) (KeepBox n0 Bk) (fun ys => ys = upto (bitAt k (Lib.bitLen k)) (Lib.bitLen k)) (fun _ => True) (Lib.bitLen k) w := fun l J Jx W hW _ _ hY h0 => by
  have hc' := (hW.cell (p := ⟨Bk, 0, none⟩) hBk).trans hc
  refine (binary1_in n hn l Bk n0 k hk J Jx hY W hc' h0).mono ?_
  rintro e W' ⟨he, ⟨ys, rfl, hj⟩ | ⟨pre, _, hj⟩⟩
  · exact ⟨he, .inl ⟨_, rfl, hj⟩⟩
  · exact ⟨he, .inr ⟨_, trivial, hj⟩⟩

/-- binary: the number is boxed; the function value captures the box. -/
theorem binary_any (k : Nat) (w : World) :
    Calls Try.prog 67 #[.int .i64 k] w fun e w' => e = .returned (.func (.func 73) #[] #[.pointer (some ⟨w.heap.size, 0, none⟩)]) ∧ w' = w.alloc (.cells #[.int .i64 k] 3) := by
  go_enter Try.func67, Try.ntmps67
  go_wp2
  go_ret
  exact ⟨rfl, rfl⟩



/-- what the closure times leaves: the box written, beside new blocks -/
def TimesPost (C : Nat) (v : Int) (W : World) (e : Ending) (w' : World) : Prop := e = .returned (.tuple #[]) ∧ ∃ W1, Below W.heap.size W W1 ∧ w' = W1.setCell ⟨C, 0, none⟩ (.int .i64 v)

set_option maxHeartbeats 400000 in
theorem times1_any (b C cv : Nat) (hb : b < 2305843009213688669) (hcv : cv < 2305843009213688669) (W : World) (hc : Boxed W C 3 (.int .i64 cv)) :
    Calls Try.prog 66 #[.int .i64 b, .pointer (some ⟨C, 0, none⟩)] W (TimesPost C ((mulQ cv b : Nat) : Int) W) := by
  have hcell := hc.cell
  have HC := Lib.hid hc
  have hp := productQ_any cv b hcv hb W
  have Hp := Lib.hid hp
  obtain ⟨m, hm⟩ : ∃ m, mulQ cv b = m := ⟨_, rfl⟩
  rw [hm] at Hp ⊢
  clear hc hp hm hb hcv
  go_enter Try.func66, Try.ntmps66
  go_wp2_with fail
  refine (Hp.out).mono ?_
  rintro e W1 ⟨rfl, hb1⟩
  have hc1 : Boxed W1 C 3 _ := (hb1.block _ HC.out.lt).trans HC.out
  have hcell1 := hc1.cell
  have hfz1 := hc1.frozen
  go_wp2_with fail
  go_end0
  exact ⟨rfl, W1, hb1, rfl⟩

end Go.Proofs.Ytajcpbchpcnmaaa
