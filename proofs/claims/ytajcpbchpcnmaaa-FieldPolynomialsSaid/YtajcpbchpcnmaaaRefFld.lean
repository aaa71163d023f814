/- The contracts of chartroomref03: Scalar, sum, product, power, Check, Add, Sub, Mul, Inv, Pow, Of. -/
import Derived.Test.YtajcpbchpcnmaaaFldApi
import Derived.Test.YtajcpbchpcnmaaaRefGrp
set_option linter.unusedVariables false
set_option linter.unusedSimpArgs false
namespace Go.Proofs.Ytajcpbchpcnmaaa
open Go.RowKit Go.Shelf

theorem rscalar3_any (k : Int) (w : World) :
    Calls Try.prog 55 #[.int .i64 k] w fun e w' => e = .returned (.bool (scalB k)) ∧ w = w' := by
  cases h : scalB k with
  | true =>
    obtain ⟨n, rfl, hn⟩ := scalB_nat h
    have g1 : decide ((0 : Int) ≤ (n : Int)) = true := by rw [decide_eq_true_iff]; omega
    have g2 : decide ((n : Int) < 2305843009213688669) = true := by rw [decide_eq_true_iff]; omega
    clear h hn
    go_enter Try.func55, Try.ntmps55
    go_wp2_with fail
    go_ret
    exact ⟨rfl, rfl⟩
  | false =>
    by_cases h0 : k < 0
    · have g1 : decide ((0 : Int) ≤ k) = false := by rw [decide_eq_false_iff_not]; omega
      clear h h0
      go_enter Try.func55, Try.ntmps55
      go_wp2_with fail
      go_ret
      exact ⟨rfl, rfl⟩
    · have g1 : decide ((0 : Int) ≤ k) = true := by rw [decide_eq_true_iff]; omega
      have g2 : decide (k < 2305843009213688669) = false := by
        rw [decide_eq_false_iff_not]; have := scalB_no h; omega
      clear h h0
      go_enter Try.func55, Try.ntmps55
      go_wp2_with fail
      go_ret
      exact ⟨rfl, rfl⟩

theorem rsum3_any (a b : Nat) (hab : a + b ≤ 9223372036854775807) (w : World) :
    Calls Try.prog 56 #[.int .i64 a, .int .i64 b] w fun e w' => e = .returned (.int .i64 ((addQ a b : Nat) : Int)) ∧ w = w' := by
  have g1 : (a : Int) + (b : Int) ≤ 9223372036854775807 := by omega
  have re : ((a : Int) + (b : Int)) % 2305843009213688669 = ((addQ a b : Nat) : Int) := by unfold addQ; omega
  have He : Hid (Ending.returned (.int .i64 (((a : Int) + (b : Int)) % 2305843009213688669)) = Ending.returned (.int .i64 ((addQ a b : Nat) : Int))) := by
    show _ = _; rw [re]
  clear hab re
  go_enter Try.func56, Try.ntmps56
  go_wp2_with fail
  go_ret
  exact ⟨He.out, rfl⟩

theorem addQ_is (a b : Nat) : addM a b 2305843009213688669 = addQ a b := rfl
theorem mulQ_is (a b : Nat) : mulM a b 2305843009213688669 = mulQ a b := rfl
theorem addQ_bound {a b : Nat} (ha : a < 2305843009213688669) (hb : b < 2305843009213688669) : a + b ≤ 9223372036854775807 := by omega

set_option maxHeartbeats 1000000 in
theorem rproduct3_any (a0 b0 : Nat) (ha : a0 < 2305843009213688669) (hb : b0 ≤ 9223372036854775807) (w : World) :
    Calls Try.prog 57 #[.int .i64 a0, .int .i64 b0] w fun e w' => e = .returned (.int .i64 ((mulQ a0 b0 : Nat) : Int)) ∧ w = w' := by
  have ha0 : Hid (a0 < 2305843009213688669) := ha
  clear ha
  go_enter Try.func57, Try.ntmps57
  go_wp2_with fail
  go_loop [0, 1, 5] (fun s0 s1 s7 => ∃ a b c : Nat, s0 = .int .i64 a ∧ s1 = .int .i64 b ∧ s7 = .int .i64 c ∧ Hid (a < 2305843009213688669) ∧ Hid (c < 2305843009213688669) ∧ b ≤ 9223372036854775807 ∧ Hid (PInv a0 b0 2305843009213688669 c a b)) (fun _ s1 _ => (RowKit.intOf s1).toNat)
  case atStart => exact ⟨a0, b0, 0, rfl, rfl, rfl, ha0, Nat.lt_of_lt_of_le (by decide) (Nat.le_refl _), hb, pinv_start _ _ _⟩
  case round =>
    obtain ⟨a, b, c, rfl, rfl, rfl, ha', hc', hb', hI⟩ := hrel
    rcases Nat.eq_zero_or_pos b with h0 | h0
    · subst h0
      have he := pinv_end hc'.out hI.out
      rw [mulQ_is] at he
      go_wp2
      go_ret
      exact ⟨rfl, rfl⟩
    · have g0 : decide ((0 : Int) < (b : Int)) = true := by rw [decide_eq_true_iff]; omega
      have ra : Hid (addQ a a < 2305843009213688669) := addQ_lt a a
      have rc : Hid (addQ c a < 2305843009213688669) := addQ_lt c a
      have hbi : (b : Int) ≤ 9223372036854775807 := by omega
      have hb2 : b / 2 < b := by omega
      by_cases ho : b % 2 = 1
      · have g1 : ((b : Int) % 2 == 1) = true := by rw [beq_iff_eq]; omega
        have hI' := pinv_odd hI.out ho
        rw [addQ_is, addQ_is] at hI'
        have HI' := Lib.hid hI'
        have rdiv : (b : Int) / 2 = ((b / 2 : Nat) : Int) := by omega
        obtain ⟨d, hd⟩ : ∃ d, b / 2 = d := ⟨_, rfl⟩
        rw [hd] at rdiv HI' hb2
        clear hI' ho hI hd
        go_wp2_with fail
        refine (rsum3_any c a (addQ_bound hc'.out ha'.out) _).mono ?_
        rintro e w' ⟨rfl, rfl⟩
        go_wp2_with fail
        refine (rsum3_any a a (addQ_bound ha'.out ha'.out) _).mono ?_
        rintro e w' ⟨rfl, rfl⟩
        go_wp2_with fail
        go_round
        case rel => exact ⟨addQ a a, d, addQ c a, rfl, rfl, rfl, ra, rc, by omega, HI'⟩
        case measure => simp [RowKit.intOf]; omega
      · have hz : b % 2 = 0 := by omega
        have g1 : ((b : Int) % 2 == 1) = false := by rw [beq_eq_false_iff_ne]; omega
        have hI' := pinv_even hI.out hz
        rw [addQ_is] at hI'
        have HI' := Lib.hid hI'
        have rdiv : (b : Int) / 2 = ((b / 2 : Nat) : Int) := by omega
        obtain ⟨d, hd⟩ : ∃ d, b / 2 = d := ⟨_, rfl⟩
        rw [hd] at rdiv HI' hb2
        clear hI' ho hz hI hd
        go_wp2_with fail
        refine (rsum3_any a a (addQ_bound ha'.out ha'.out) _).mono ?_
        rintro e w' ⟨rfl, rfl⟩
        go_wp2_with fail
        go_round
        case rel => exact ⟨addQ a a, d, c, rfl, rfl, rfl, ra, hc', by omega, HI'⟩
        case measure => simp [RowKit.intOf]; omega

/-- the loop of power: what its variables keep -/
def QInv (a0 k0 c a k : Nat) : Prop := c * a ^ k % 2305843009213688669 = a0 ^ k0 % 2305843009213688669
theorem qinv_start (a0 k0 : Nat) : QInv a0 k0 1 a0 k0 := by unfold QInv; rw [Nat.one_mul]
theorem qinv_end {a0 k0 c a : Nat} (hc : c < 2305843009213688669) (h : QInv a0 k0 c a 0) : c = powQ a0 k0 := by
  unfold QInv at h; rw [Nat.pow_zero, Nat.mul_one, Nat.mod_eq_of_lt hc] at h; exact h
theorem qinv_even {a0 k0 c a k : Nat} (h : QInv a0 k0 c a k) (hk : k % 2 = 0) : QInv a0 k0 c (mulQ a a) (k / 2) := by
  unfold QInv mulQ at *
  rw [← h, Nat.mul_mod, ← Nat.pow_mod, ← Nat.mul_mod, ← Nat.pow_two, ← Nat.pow_mul]
  congr 3; omega
theorem qinv_odd {a0 k0 c a k : Nat} (h : QInv a0 k0 c a k) (hk : k % 2 = 1) : QInv a0 k0 (mulQ c a) (mulQ a a) (k / 2) := by
  unfold QInv mulQ at *
  rw [← h, Nat.mod_mul_mod, Nat.mul_mod, ← Nat.pow_mod, ← Nat.mul_mod, ← Nat.pow_two, ← Nat.pow_mul, Nat.mul_assoc, ← Nat.pow_succ']
  congr 3; omega

set_option maxHeartbeats 1000000 in
theorem rpower3_any (a0 k0 : Nat) (ha : a0 < 2305843009213688669) (hk : k0 ≤ 9223372036854775807) (w : World) :
    Calls Try.prog 58 #[.int .i64 a0, .int .i64 k0] w fun e w' => e = .returned (.int .i64 ((powQ a0 k0 : Nat) : Int)) ∧ w = w' := by
  have ha0 : Hid (a0 < 2305843009213688669) := ha
  have h1q : Hid (1 < 2305843009213688669) := (by decide : 1 < 2305843009213688669)
  clear ha
  go_enter Try.func58, Try.ntmps58
  go_wp2_with fail
  go_loop [0, 1, 5] (fun s0 s1 s5 => ∃ a k c : Nat, s0 = .int .i64 a ∧ s1 = .int .i64 k ∧ s5 = .int .i64 c ∧ Hid (a < 2305843009213688669) ∧ Hid (c < 2305843009213688669) ∧ k ≤ 9223372036854775807 ∧ Hid (QInv a0 k0 c a k)) (fun _ s1 _ => (RowKit.intOf s1).toNat)
  case atStart => exact ⟨a0, k0, 1, rfl, rfl, rfl, ha0, h1q, hk, qinv_start _ _⟩
  case round =>
    obtain ⟨a, k, c, rfl, rfl, rfl, Ha', Hc', hk', hI⟩ := hrel
    clear hk
    rcases Nat.eq_zero_or_pos k with h0 | h0
    · subst h0
      have he := qinv_end Hc'.out hI.out
      go_wp2
      go_ret
      exact ⟨rfl, rfl⟩
    · have g0 : decide ((0 : Int) < (k : Int)) = true := by rw [decide_eq_true_iff]; omega
      have ra : Hid (mulQ a a < 2305843009213688669) := mulQ_lt a a
      have rc : Hid (mulQ c a < 2305843009213688669) := mulQ_lt c a
      have Pa := Lib.hid (fun w => rproduct3_any a a Ha'.out (Nat.le_trans (Nat.le_of_lt Ha'.out) (by decide)) w)
      have Pc := Lib.hid (fun w => rproduct3_any c a Hc'.out (Nat.le_trans (Nat.le_of_lt Ha'.out) (by decide)) w)
      obtain ⟨aa, haa⟩ : ∃ x, mulQ a a = x := ⟨_, rfl⟩
      obtain ⟨ca, hca⟩ : ∃ x, mulQ c a = x := ⟨_, rfl⟩
      rw [haa] at ra Pa
      rw [hca] at rc Pc
      have hki : (k : Int) ≤ 9223372036854775807 := by omega
      have hk2 : k / 2 < k := by omega
      by_cases ho : k % 2 = 1
      · have g1 : ((k : Int) % 2 == 1) = true := by rw [beq_iff_eq]; omega
        have hI' := qinv_odd hI.out ho
        rw [haa, hca] at hI'
        have HI' := Lib.hid hI'
        have rdiv : (k : Int) / 2 = ((k / 2 : Nat) : Int) := by omega
        obtain ⟨d, hd⟩ : ∃ d, k / 2 = d := ⟨_, rfl⟩
        rw [hd] at rdiv HI' hk2
        clear hI' ho hI hd haa hca
        go_wp2_with fail
        refine (Pc.out _).mono ?_
        rintro e w' ⟨rfl, rfl⟩
        go_wp2_with fail
        refine (Pa.out _).mono ?_
        rintro e w' ⟨rfl, rfl⟩
        go_wp2_with fail
        go_round
        case rel => exact ⟨aa, d, ca, rfl, rfl, rfl, ra, rc, by omega, HI'⟩
        case measure => simp [RowKit.intOf]; omega
      · have hz : k % 2 = 0 := by omega
        have g1 : ((k : Int) % 2 == 1) = false := by rw [beq_eq_false_iff_ne]; omega
        have hI' := qinv_even hI.out hz
        rw [haa] at hI'
        have HI' := Lib.hid hI'
        have rdiv : (k : Int) / 2 = ((k / 2 : Nat) : Int) := by omega
        obtain ⟨d, hd⟩ : ∃ d, k / 2 = d := ⟨_, rfl⟩
        rw [hd] at rdiv HI' hk2
        clear hI' ho hz hI hd haa hca
        go_wp2_with fail
        refine (Pa.out _).mono ?_
        rintro e w' ⟨rfl, rfl⟩
        go_wp2_with fail
        go_round
        case rel => exact ⟨aa, d, c, rfl, rfl, rfl, ra, Hc', by omega, HI'⟩
        case measure => simp [RowKit.intOf]; omega

/-! ### the exported functions -/
theorem rcheck3_any (a : Int) (w : World) :
    Calls Try.prog 37 #[.int .i64 a] w fun e w' => e = .returned (.int .i64 (fchk a)) ∧ w = w' := by
  have s := fun w => rscalar3_any a w
  unfold fchk
  cases h : scalB a with
  | true =>
    rw [h] at s
    have S := Lib.hid s
    simp only [if_true]
    clear s h
    go_enter Try.func37, Try.ntmps37
    go_wp2_with fail
    refine (S.out _).mono ?_
    rintro e w' ⟨rfl, rfl⟩
    go_wp2_with fail
    go_ret
    exact ⟨rfl, rfl⟩
  | false =>
    rw [h] at s
    have S := Lib.hid s
    simp only [Bool.false_eq_true, if_false]
    clear s h
    go_enter Try.func37, Try.ntmps37
    go_wp2_with fail
    refine (S.out _).mono ?_
    rintro e w' ⟨rfl, rfl⟩
    go_wp2_with fail
    go_ret
    exact ⟨rfl, rfl⟩

set_option maxHeartbeats 400000 in
theorem radd3_any (a b : Int) (w : World) :
    Calls Try.prog 32 #[.int .i64 a, .int .i64 b] w fun e w' => e = .returned (.tuple #[.int .i64 (fadd a b), .int .i64 (f2E a b)]) ∧ w = w' := by
  have sa := fun w => rscalar3_any a w
  have sb := fun w => rscalar3_any b w
  unfold fadd f2E
  cases ha : scalB a with
  | false =>
    rw [ha] at sa
    have SA := Lib.hid sa
    simp only [Bool.false_and, Bool.false_eq_true, if_false]
    clear sa sb ha
    go_enter Try.func32, Try.ntmps32
    go_wp2_with fail
    refine (SA.out _).mono ?_
    rintro e w' ⟨rfl, rfl⟩
    go_wp2_with fail
    go_ret2
    exact ⟨rfl, rfl⟩
  | true =>
    rw [ha] at sa
    have SA := Lib.hid sa
    cases hb : scalB b with
    | false =>
      rw [hb] at sb
      have SB := Lib.hid sb
      simp only [Bool.and_false, Bool.false_eq_true, if_false]
      clear sa sb ha hb
      go_enter Try.func32, Try.ntmps32
      go_wp2_with fail
      refine (SA.out _).mono ?_
      rintro e w' ⟨rfl, rfl⟩
      go_wp2_with fail
      refine (SB.out _).mono ?_
      rintro e w' ⟨rfl, rfl⟩
      go_wp2_with fail
      go_ret2
      exact ⟨rfl, rfl⟩
    | true =>
      rw [hb] at sb
      have SB := Lib.hid sb
      simp only [Bool.and_self, if_true]
      obtain ⟨n, rfl, hn⟩ := scalB_nat ha
      obtain ⟨m, rfl, hm⟩ := scalB_nat hb
      rw [Int.toNat_natCast, Int.toNat_natCast]
      have C := Lib.hid (fun w => rsum3_any n m (addQ_bound hn hm) w)
      obtain ⟨s, hs⟩ : ∃ s, addQ n m = s := ⟨_, rfl⟩
      rw [hs] at C ⊢
      clear sa sb ha hb hn hm hs
      go_enter Try.func32, Try.ntmps32
      go_wp2_with fail
      refine (SA.out _).mono ?_
      rintro e w' ⟨rfl, rfl⟩
      go_wp2_with fail
      refine (SB.out _).mono ?_
      rintro e w' ⟨rfl, rfl⟩
      go_wp2_with fail
      refine (C.out _).mono ?_
      rintro e w' ⟨rfl, rfl⟩
      go_wp2_with fail
      go_ret2
      exact ⟨rfl, rfl⟩

theorem subQ_is {a b : Nat} (ha : a < 2305843009213688669) (hb : b < 2305843009213688669) : addQ a (2305843009213688669 - b) = subQ a b := by
  unfold addQ subQ; split <;> omega

set_option maxHeartbeats 400000 in
theorem rsub3_any (a b : Int) (w : World) :
    Calls Try.prog 34 #[.int .i64 a, .int .i64 b] w fun e w' => e = .returned (.tuple #[.int .i64 (fsub a b), .int .i64 (f2E a b)]) ∧ w = w' := by
  have sa := fun w => rscalar3_any a w
  have sb := fun w => rscalar3_any b w
  unfold fsub f2E
  cases ha : scalB a with
  | false =>
    rw [ha] at sa
    have SA := Lib.hid sa
    simp only [Bool.false_and, Bool.false_eq_true, if_false]
    clear sa sb ha
    go_enter Try.func34, Try.ntmps34
    go_wp2_with fail
    refine (SA.out _).mono ?_
    rintro e w' ⟨rfl, rfl⟩
    go_wp2_with fail
    go_ret2
    exact ⟨rfl, rfl⟩
  | true =>
    rw [ha] at sa
    have SA := Lib.hid sa
    cases hb : scalB b with
    | false =>
      rw [hb] at sb
      have SB := Lib.hid sb
      simp only [Bool.and_false, Bool.false_eq_true, if_false]
      clear sa sb ha hb
      go_enter Try.func34, Try.ntmps34
      go_wp2_with fail
      refine (SA.out _).mono ?_
      rintro e w' ⟨rfl, rfl⟩
      go_wp2_with fail
      refine (SB.out _).mono ?_
      rintro e w' ⟨rfl, rfl⟩
      go_wp2_with fail
      go_ret2
      exact ⟨rfl, rfl⟩
    | true =>
      rw [hb] at sb
      have SB := Lib.hid sb
      simp only [Bool.and_self, if_true]
      obtain ⟨n, rfl, hn⟩ := scalB_nat ha
      obtain ⟨m, rfl, hm⟩ := scalB_nat hb
      rw [Int.toNat_natCast, Int.toNat_natCast]
      have c : ∀ w, Calls Try.prog 56 #[.int .i64 n, .int .i64 (2305843009213688669 - m)] w fun e w' => e = .returned (.int .i64 ((subQ n m : Nat) : Int)) ∧ w = w' := fun w => by
        have := rsum3_any n (2305843009213688669 - m) (by omega) w
        rw [subQ_is hn hm, show ((2305843009213688669 - m : Nat) : Int) = 2305843009213688669 - (m : Int) from by omega] at this
        exact this
      have C := Lib.hid c
      have g1 : (m : Int) ≤ 2305843009213688669 := by omega
      obtain ⟨s, hs⟩ : ∃ s, subQ n m = s := ⟨_, rfl⟩
      rw [hs] at C ⊢
      clear sa sb ha hb hn hm hs c
      go_enter Try.func34, Try.ntmps34
      go_wp2_with fail
      refine (SA.out _).mono ?_
      rintro e w' ⟨rfl, rfl⟩
      go_wp2_with fail
      refine (SB.out _).mono ?_
      rintro e w' ⟨rfl, rfl⟩
      go_wp2_with fail
      refine (C.out _).mono ?_
      rintro e w' ⟨rfl, rfl⟩
      go_wp2_with fail
      go_ret2
      exact ⟨rfl, rfl⟩

set_option maxHeartbeats 400000 in
theorem rmul3_any (a b : Int) (w : World) :
    Calls Try.prog 35 #[.int .i64 a, .int .i64 b] w fun e w' => e = .returned (.tuple #[.int .i64 (fmul a b), .int .i64 (f2E a b)]) ∧ w = w' := by
  have sa := fun w => rscalar3_any a w
  have sb := fun w => rscalar3_any b w
  unfold fmul f2E
  cases ha : scalB a with
  | false =>
    rw [ha] at sa
    have SA := Lib.hid sa
    simp only [Bool.false_and, Bool.false_eq_true, if_false]
    clear sa sb ha
    go_enter Try.func35, Try.ntmps35
    go_wp2_with fail
    refine (SA.out _).mono ?_
    rintro e w' ⟨rfl, rfl⟩
    go_wp2_with fail
    go_ret2
    exact ⟨rfl, rfl⟩
  | true =>
    rw [ha] at sa
    have SA := Lib.hid sa
    cases hb : scalB b with
    | false =>
      rw [hb] at sb
      have SB := Lib.hid sb
      simp only [Bool.and_false, Bool.false_eq_true, if_false]
      clear sa sb ha hb
      go_enter Try.func35, Try.ntmps35
      go_wp2_with fail
      refine (SA.out _).mono ?_
      rintro e w' ⟨rfl, rfl⟩
      go_wp2_with fail
      refine (SB.out _).mono ?_
      rintro e w' ⟨rfl, rfl⟩
      go_wp2_with fail
      go_ret2
      exact ⟨rfl, rfl⟩
    | true =>
      rw [hb] at sb
      have SB := Lib.hid sb
      simp only [Bool.and_self, if_true]
      obtain ⟨n, rfl, hn⟩ := scalB_nat ha
      obtain ⟨m, rfl, hm⟩ := scalB_nat hb
      rw [Int.toNat_natCast, Int.toNat_natCast]
      have C := Lib.hid (fun w => rproduct3_any n m hn (Nat.le_trans (Nat.le_of_lt hm) (by decide)) w)
      obtain ⟨s, hs⟩ : ∃ s, mulQ n m = s := ⟨_, rfl⟩
      rw [hs] at C ⊢
      clear sa sb ha hb hn hm hs
      go_enter Try.func35, Try.ntmps35
      go_wp2_with fail
      refine (SA.out _).mono ?_
      rintro e w' ⟨rfl, rfl⟩
      go_wp2_with fail
      refine (SB.out _).mono ?_
      rintro e w' ⟨rfl, rfl⟩
      go_wp2_with fail
      refine (C.out _).mono ?_
      rintro e w' ⟨rfl, rfl⟩
      go_wp2_with fail
      go_ret2
      exact ⟨rfl, rfl⟩

set_option maxHeartbeats 400000 in
theorem rinv3_any (a : Int) (w : World) :
    Calls Try.prog 38 #[.int .i64 a] w fun e w' => e = .returned (.tuple #[.int .i64 (finv a), .int .i64 (finvE a)]) ∧ w = w' := by
  have s := fun w => rscalar3_any a w
  unfold finv finvE
  cases h : scalB a with
  | false =>
    rw [h] at s
    have S := Lib.hid s
    simp only [Bool.false_eq_true, if_false]
    clear s h
    go_enter Try.func38, Try.ntmps38
    go_wp2_with fail
    refine (S.out _).mono ?_
    rintro e w' ⟨rfl, rfl⟩
    go_wp2_with fail
    go_ret2
    exact ⟨rfl, rfl⟩
  | true =>
    rw [h] at s
    have S := Lib.hid s
    simp only [if_true]
    by_cases h0 : a = 0
    · subst h0
      simp only [beq_self_eq_true, if_true]
      clear s h
      go_enter Try.func38, Try.ntmps38
      go_wp2_with fail
      refine (S.out _).mono ?_
      rintro e w' ⟨rfl, rfl⟩
      go_wp2_with fail
      go_ret2
      exact ⟨rfl, rfl⟩
    · have hz : (a == 0) = false := by rw [beq_eq_false_iff_ne]; exact h0
      rw [hz]
      simp only [Bool.false_eq_true, if_false]
      obtain ⟨n, rfl, hn⟩ := scalB_nat h
      rw [Int.toNat_natCast]
      have hp : ∀ w, Calls Try.prog 58 #[.int .i64 n, .int .i64 2305843009213688667] w fun e w' => e = .returned (.int .i64 ((powQ n 2305843009213688667 : Nat) : Int)) ∧ w = w' := fun w => rpower3_any n 2305843009213688667 hn (by decide) w
      obtain ⟨p, hpe⟩ : ∃ p, powQ n 2305843009213688667 = p := ⟨_, rfl⟩
      rw [hpe] at hp ⊢
      have Hp := Lib.hid hp
      clear hp hpe s h h0 hn
      go_enter Try.func38, Try.ntmps38
      go_wp2_with fail
      refine (S.out _).mono ?_
      rintro e w' ⟨rfl, rfl⟩
      go_wp2_with fail
      refine (Hp.out _).mono ?_
      rintro e w' ⟨rfl, rfl⟩
      go_wp2_with fail
      go_ret2
      exact ⟨rfl, rfl⟩

set_option maxHeartbeats 400000 in
theorem rpow3_any (a n : Int) (hn2 : n ≤ 9223372036854775807) (w : World) :
    Calls Try.prog 40 #[.int .i64 a, .int .i64 n] w fun e w' => e = .returned (.tuple #[.int .i64 (fpow a n), .int .i64 (fpowE a n)]) ∧ w = w' := by
  have s := fun w => rscalar3_any a w
  unfold fpow fpowE
  cases h : scalB a with
  | false =>
    rw [h] at s
    have S := Lib.hid s
    simp only [Bool.false_and, Bool.false_eq_true, if_false]
    clear h hn2 s
    go_enter Try.func40, Try.ntmps40
    go_wp2_with fail
    refine (S.out _).mono ?_
    rintro e w' ⟨rfl, rfl⟩
    go_wp2_with fail
    go_ret2
    exact ⟨rfl, rfl⟩
  | true =>
    rw [h] at s
    have S := Lib.hid s
    by_cases h0 : n < 0
    · have g1 : decide (0 ≤ n) = false := by rw [decide_eq_false_iff_not]; omega
      have g2 : decide (n < 0) = true := by rw [decide_eq_true_iff]; omega
      rw [g1]
      simp only [Bool.true_and, Bool.false_eq_true, if_false]
      clear h hn2 h0 g1 s
      go_enter Try.func40, Try.ntmps40
      go_wp2_with fail
      refine (S.out _).mono ?_
      rintro e w' ⟨rfl, rfl⟩
      go_wp2_with fail
      go_ret2
      exact ⟨rfl, rfl⟩
    · have g1 : decide (0 ≤ n) = true := by rw [decide_eq_true_iff]; omega
      have g2 : decide (n < 0) = false := by rw [decide_eq_false_iff_not]; omega
      rw [g1]
      simp only [Bool.true_and, if_true]
      obtain ⟨m, rfl, hm⟩ := scalB_nat h
      obtain ⟨k, rfl⟩ : ∃ k : Nat, n = (k : Int) := ⟨n.toNat, by omega⟩
      rw [Int.toNat_natCast, Int.toNat_natCast]
      have Hp := Lib.hid (fun w => rpower3_any m k hm (by omega) w)
      obtain ⟨p, hpe⟩ : ∃ p, powQ m k = p := ⟨_, rfl⟩
      rw [hpe] at Hp ⊢
      clear hpe h h0 hm hn2 g1 s
      go_enter Try.func40, Try.ntmps40
      go_wp2_with fail
      refine (S.out _).mono ?_
      rintro e w' ⟨rfl, rfl⟩
      go_wp2_with fail
      refine (Hp.out _).mono ?_
      rintro e w' ⟨rfl, rfl⟩
      go_wp2_with fail
      go_ret2
      exact ⟨rfl, rfl⟩

end Go.Proofs.Ytajcpbchpcnmaaa
