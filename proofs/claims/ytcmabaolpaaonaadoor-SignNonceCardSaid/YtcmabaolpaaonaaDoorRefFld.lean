/- The contracts of chartroomref03: Scalar, sum, product, power, Check, Add, Sub, Mul, Inv, Pow, Of. -/
import Derived.Test.YtcmabaolpaaonaaDoorFldApi
import Derived.Test.YtcmabaolpaaonaaDoorRefGrp
set_option linter.unusedVariables false
set_option linter.unusedSimpArgs false
namespace Go.Proofs.YtcmabaolpaaonaaDoor
open Go.RowKit Go.Shelf

theorem rscalar3_any (k : Int) (w : World) :
    Calls Tryd.prog 42 #[.int .i64 k] w fun e w' => e = .returned (.bool (scalB k)) ∧ w = w' := by
  cases h : scalB k with
  | true =>
    obtain ⟨n, rfl, hn⟩ := scalB_nat h
    have g1 : decide ((0 : Int) ≤ (n : Int)) = true := by rw [decide_eq_true_iff]; omega
    have g2 : decide ((n : Int) < 2305843009213688669) = true := by rw [decide_eq_true_iff]; omega
    clear h hn
    go_enter Tryd.func42, Tryd.ntmps42
    go_wp2_with fail
    go_ret
    exact ⟨rfl, rfl⟩
  | false =>
    by_cases h0 : k < 0
    · have g1 : decide ((0 : Int) ≤ k) = false := by rw [decide_eq_false_iff_not]; omega
      clear h h0
      go_enter Tryd.func42, Tryd.ntmps42
      go_wp2_with fail
      go_ret
      exact ⟨rfl, rfl⟩
    · have g1 : decide ((0 : Int) ≤ k) = true := by rw [decide_eq_true_iff]; omega
      have g2 : decide (k < 2305843009213688669) = false := by
        rw [decide_eq_false_iff_not]; have := scalB_no h; omega
      clear h h0
      go_enter Tryd.func42, Tryd.ntmps42
      go_wp2_with fail
      go_ret
      exact ⟨rfl, rfl⟩

theorem rsum3_any (a b : Nat) (hab : a + b ≤ 9223372036854775807) (w : World) :
    Calls Tryd.prog 54 #[.int .i64 a, .int .i64 b] w fun e w' => e = .returned (.int .i64 ((addQ a b : Nat) : Int)) ∧ w = w' := by
  have g1 : (a : Int) + (b : Int) ≤ 9223372036854775807 := by omega
  have re : ((a : Int) + (b : Int)) % 2305843009213688669 = ((addQ a b : Nat) : Int) := by unfold addQ; omega
  have He : Hid (Ending.returned (.int .i64 (((a : Int) + (b : Int)) % 2305843009213688669)) = Ending.returned (.int .i64 ((addQ a b : Nat) : Int))) := by
    show _ = _; rw [re]
  clear hab re
  go_enter Tryd.func54, Tryd.ntmps54
  go_wp2_with fail
  go_ret
  exact ⟨He.out, rfl⟩

theorem addQ_is (a b : Nat) : addM a b 2305843009213688669 = addQ a b := rfl
theorem mulQ_is (a b : Nat) : mulM a b 2305843009213688669 = mulQ a b := rfl
theorem addQ_bound {a b : Nat} (ha : a < 2305843009213688669) (hb : b < 2305843009213688669) : a + b ≤ 9223372036854775807 := by omega

set_option maxHeartbeats 1000000 in
theorem rproduct3_any (a0 b0 : Nat) (ha : a0 < 2305843009213688669) (hb : b0 ≤ 9223372036854775807) (w : World) :
    Calls Tryd.prog 53 #[.int .i64 a0, .int .i64 b0] w fun e w' => e = .returned (.int .i64 ((mulQ a0 b0 : Nat) : Int)) ∧ w = w' := by
  have ha0 : Hid (a0 < 2305843009213688669) := ha
  clear ha
  go_enter Tryd.func53, Tryd.ntmps53
  go_wp2_with fail
  go_loop [0, 1, 5] (fun s0 s1 s7 => ∃ a b c : Nat, s0 = .int .i64 a ∧ s1 = .int .i64 b ∧ s7 = .int .i64 c ∧ Hid (a < 2305843009213688669) ∧ Hid (c < 2305843009213688669) ∧ b ≤ 9223372036854775807 ∧ Hid (PInv a0 b0 2305843009213688669 c a b)) (fun _ s1 _ => (RowKit.intOf s1).toNat)
  case atStart => exact ⟨a0, b0, 0, rfl, rfl, rfl, ha0, Nat.lt_of_lt_of_le (by decide) (Nat.le_refl _), hb, pinv_start _ _ _⟩
  case round =>
    obtain ⟨a, b, c, rfl, rfl, rfl, ha', hc', hb', hI⟩ := hrel
    rcases Nat.eq_zero_or_pos b with h0 | h0
    · subst h0
      have he := pinv_end hc'.out hI.out
      rw [mulQ_is] at he
      go_wp2
      go_ret
      exact ⟨rfl, rfl⟩
    · have g0 : decide ((0 : Int) < (b : Int)) = true := by rw [decide_eq_true_iff]; omega
      have ra : Hid (addQ a a < 2305843009213688669) := addQ_lt a a
      have rc : Hid (addQ c a < 2305843009213688669) := addQ_lt c a
      have hbi : (b : Int) ≤ 9223372036854775807 := by omega
      have hb2 : b / 2 < b := by omega
      by_cases ho : b % 2 = 1
      · have g1 : ((b : Int) % 2 == 1) = true := by rw [beq_iff_eq]; omega
        have hI' := pinv_odd hI.out ho
        rw [addQ_is, addQ_is] at hI'
        have HI' := Lib.hid hI'
        have rdiv : (b : Int) / 2 = ((b / 2 : Nat) : Int) := by omega
        obtain ⟨d, hd⟩ : ∃ d, b / 2 = d := ⟨_, rfl⟩
        rw [hd] at rdiv HI' hb2
        clear hI' ho hI hd
        go_wp2_with fail
        refine (rsum3_any c a (addQ_bound hc'.out ha'.out) _).mono ?_
        rintro e w' ⟨rfl, rfl⟩
        go_wp2_with fail
        refine (rsum3_any a a (addQ_bound ha'.out ha'.out) _).mono ?_
        rintro e w' ⟨rfl, rfl⟩
        go_wp2_with fail
        go_round
        case rel => exact ⟨addQ a a, d, addQ c a, rfl, rfl, rfl, ra, rc, by omega, HI'⟩
        case measure => simp [RowKit.intOf]; omega
      · have hz : b % 2 = 0 := by omega
        have g1 : ((b : Int) % 2 == 1) = false := by rw [beq_eq_false_iff_ne]; omega
        have hI' := pinv_even hI.out hz
        rw [addQ_is] at hI'
        have HI' := Lib.hid hI'
        have rdiv : (b : Int) / 2 = ((b / 2 : Nat) : Int) := by omega
        obtain ⟨d, hd⟩ : ∃ d, b / 2 = d := ⟨_, rfl⟩
        rw [hd] at rdiv HI' hb2
        clear hI' ho hz hI hd
        go_wp2_with fail
        refine (rsum3_any a a (addQ_bound ha'.out ha'.out) _).mono ?_
        rintro e w' ⟨rfl, rfl⟩
        go_wp2_with fail
        go_round
        case rel => exact ⟨addQ a a, d, c, rfl, rfl, rfl, ra, hc', by omega, HI'⟩
        case measure => simp [RowKit.intOf]; omega

/-- the loop of power: what its variables keep -/
def QInv (a0 k0 c a k : Nat) : Prop := c * a ^ k % 2305843009213688669 = a0 ^ k0 % 2305843009213688669
theorem qinv_start (a0 k0 : Nat) : QInv a0 k0 1 a0 k0 := by unfold QInv; rw [Nat.one_mul]
theorem qinv_end {a0 k0 c a : Nat} (hc : c < 2305843009213688669) (h : QInv a0 k0 c a 0) : c = powQ a0 k0 := by
  unfold QInv at h; rw [Nat.pow_zero, Nat.mul_one, Nat.mod_eq_of_lt hc] at h; exact h
theorem qinv_even {a0 k0 c a k : Nat} (h : QInv a0 k0 c a k) (hk : k % 2 = 0) : QInv a0 k0 c (mulQ a a) (k / 2) := by
  unfold QInv mulQ at *
  rw [← h, Nat.mul_mod, ← Nat.pow_mod, ← Nat.mul_mod, ← Nat.pow_two, ← Nat.pow_mul]
  congr 3; omega
theorem qinv_odd {a0 k0 c a k : Nat} (h : QInv a0 k0 c a k) (hk : k % 2 = 1) : QInv a0 k0 (mulQ c a) (mulQ a a) (k / 2) := by
  unfold QInv mulQ at *
  rw [← h, Nat.mod_mul_mod, Nat.mul_mod, ← Nat.pow_mod, ← Nat.mul_mod, ← Nat.pow_two, ← Nat.pow_mul, Nat.mul_assoc, ← Nat.pow_succ']
  congr 3; omega


/-! ### the exported functions -/

set_option maxHeartbeats 400000 in
theorem radd3_any (a b : Int) (w : World) :
    Calls Tryd.prog 40 #[.int .i64 a, .int .i64 b] w fun e w' => e = .returned (.tuple #[.int .i64 (fadd a b), .int .i64 (f2E a b)]) ∧ w = w' := by
  have sa := fun w => rscalar3_any a w
  have sb := fun w => rscalar3_any b w
  unfold fadd f2E
  cases ha : scalB a with
  | false =>
    rw [ha] at sa
    have SA := Lib.hid sa
    simp only [Bool.false_and, Bool.false_eq_true, if_false]
    clear sa sb ha
    go_enter Tryd.func40, Tryd.ntmps40
    go_wp2_with fail
    refine (SA.out _).mono ?_
    rintro e w' ⟨rfl, rfl⟩
    go_wp2_with fail
    go_ret2
    exact ⟨rfl, rfl⟩
  | true =>
    rw [ha] at sa
    have SA := Lib.hid sa
    cases hb : scalB b with
    | false =>
      rw [hb] at sb
      have SB := Lib.hid sb
      simp only [Bool.and_false, Bool.false_eq_true, if_false]
      clear sa sb ha hb
      go_enter Tryd.func40, Tryd.ntmps40
      go_wp2_with fail
      refine (SA.out _).mono ?_
      rintro e w' ⟨rfl, rfl⟩
      go_wp2_with fail
      refine (SB.out _).mono ?_
      rintro e w' ⟨rfl, rfl⟩
      go_wp2_with fail
      go_ret2
      exact ⟨rfl, rfl⟩
    | true =>
      rw [hb] at sb
      have SB := Lib.hid sb
      simp only [Bool.and_self, if_true]
      obtain ⟨n, rfl, hn⟩ := scalB_nat ha
      obtain ⟨m, rfl, hm⟩ := scalB_nat hb
      rw [Int.toNat_natCast, Int.toNat_natCast]
      have C := Lib.hid (fun w => rsum3_any n m (addQ_bound hn hm) w)
      obtain ⟨s, hs⟩ : ∃ s, addQ n m = s := ⟨_, rfl⟩
      rw [hs] at C ⊢
      clear sa sb ha hb hn hm hs
      go_enter Tryd.func40, Tryd.ntmps40
      go_wp2_with fail
      refine (SA.out _).mono ?_
      rintro e w' ⟨rfl, rfl⟩
      go_wp2_with fail
      refine (SB.out _).mono ?_
      rintro e w' ⟨rfl, rfl⟩
      go_wp2_with fail
      refine (C.out _).mono ?_
      rintro e w' ⟨rfl, rfl⟩
      go_wp2_with fail
      go_ret2
      exact ⟨rfl, rfl⟩

theorem subQ_is {a b : Nat} (ha : a < 2305843009213688669) (hb : b < 2305843009213688669) : addQ a (2305843009213688669 - b) = subQ a b := by
  unfold addQ subQ; split <;> omega


set_option maxHeartbeats 400000 in
theorem rmul3_any (a b : Int) (w : World) :
    Calls Tryd.prog 38 #[.int .i64 a, .int .i64 b] w fun e w' => e = .returned (.tuple #[.int .i64 (fmul a b), .int .i64 (f2E a b)]) ∧ w = w' := by
  have sa := fun w => rscalar3_any a w
  have sb := fun w => rscalar3_any b w
  unfold fmul f2E
  cases ha : scalB a with
  | false =>
    rw [ha] at sa
    have SA := Lib.hid sa
    simp only [Bool.false_and, Bool.false_eq_true, if_false]
    clear sa sb ha
    go_enter Tryd.func38, Tryd.ntmps38
    go_wp2_with fail
    refine (SA.out _).mono ?_
    rintro e w' ⟨rfl, rfl⟩
    go_wp2_with fail
    go_ret2
    exact ⟨rfl, rfl⟩
  | true =>
    rw [ha] at sa
    have SA := Lib.hid sa
    cases hb : scalB b with
    | false =>
      rw [hb] at sb
      have SB := Lib.hid sb
      simp only [Bool.and_false, Bool.false_eq_true, if_false]
      clear sa sb ha hb
      go_enter Tryd.func38, Tryd.ntmps38
      go_wp2_with fail
      refine (SA.out _).mono ?_
      rintro e w' ⟨rfl, rfl⟩
      go_wp2_with fail
      refine (SB.out _).mono ?_
      rintro e w' ⟨rfl, rfl⟩
      go_wp2_with fail
      go_ret2
      exact ⟨rfl, rfl⟩
    | true =>
      rw [hb] at sb
      have SB := Lib.hid sb
      simp only [Bool.and_self, if_true]
      obtain ⟨n, rfl, hn⟩ := scalB_nat ha
      obtain ⟨m, rfl, hm⟩ := scalB_nat hb
      rw [Int.toNat_natCast, Int.toNat_natCast]
      have C := Lib.hid (fun w => rproduct3_any n m hn (Nat.le_trans (Nat.le_of_lt hm) (by decide)) w)
      obtain ⟨s, hs⟩ : ∃ s, mulQ n m = s := ⟨_, rfl⟩
      rw [hs] at C ⊢
      clear sa sb ha hb hn hm hs
      go_enter Tryd.func38, Tryd.ntmps38
      go_wp2_with fail
      refine (SA.out _).mono ?_
      rintro e w' ⟨rfl, rfl⟩
      go_wp2_with fail
      refine (SB.out _).mono ?_
      rintro e w' ⟨rfl, rfl⟩
      go_wp2_with fail
      refine (C.out _).mono ?_
      rintro e w' ⟨rfl, rfl⟩
      go_wp2_with fail
      go_ret2
      exact ⟨rfl, rfl⟩



end Go.Proofs.YtcmabaolpaaonaaDoor
