/- The contracts of package group: Check, Mul, Inv, Exp, Base. -/
import Derived.Test.YtajcpbchpcnmaaaGrp
set_option linter.unusedVariables false
set_option linter.unusedSimpArgs false
namespace Go.Proofs.Ytajcpbchpcnmaaa
open Go.RowKit Go.Shelf

/-- a number is an element of the group -/
def elemB (a : Int) : Bool := decide (1 ≤ a ∧ a < 4611686018427377339 ∧ powP a.toNat 2305843009213688669 = 1)
theorem elemB_nat {a : Int} (h : elemB a = true) : ∃ n : Nat, a = (n : Int) ∧ 1 ≤ n ∧ n < 4611686018427377339 ∧ powP n 2305843009213688669 = 1 := by
  unfold elemB at h
  obtain ⟨h1, h2, h3⟩ := of_decide_eq_true h
  exact ⟨a.toNat, by omega, by omega, by omega, h3⟩
theorem elemB_of {n : Nat} (h1 : 1 ≤ n) (h2 : n < 4611686018427377339) (h3 : powP n 2305843009213688669 = 1) : elemB (n : Int) = true := by
  unfold elemB; exact decide_eq_true ⟨by omega, by omega, by rw [Int.toNat_natCast]; exact h3⟩

set_option maxHeartbeats 400000 in
theorem check_yes (n : Nat) (h1 : 1 ≤ n) (h2 : n < 4611686018427377339) (h3 : powP n 2305843009213688669 = 1) (w : World) :
    Calls Try.prog 24 #[.int .i64 n] w fun e w' => e = .returned (.int .i64 0) ∧ Below w.heap.size w w' := by
  have hc : Calls Try.prog 50 #[.int .u64 n, .int .u64 2305843009213688669] w fun e w' => e = .returned (.int .u64 ((powP n 2305843009213688669 : Nat) : Int)) ∧ Below w.heap.size w w' := powerP_any n 2305843009213688669 h2 (by decide) w
  rw [h3] at hc
  have Hc := Lib.hid hc
  have g1 : decide ((n : Int) < 1) = false := by rw [decide_eq_false_iff_not]; omega
  have g2 : decide ((4611686018427377339 : Int) ≤ (n : Int)) = false := by rw [decide_eq_false_iff_not]; omega
  have g4 : (n : Int) ≤ 9223372036854775807 := by omega
  clear hc h3 h1 h2
  go_enter Try.func24, Try.ntmps24
  go_wp2_with fail
  refine (Hc.out).mono ?_
  rintro e w' ⟨rfl, hb⟩
  go_wp2_with fail
  go_ret
  exact ⟨rfl, hb⟩

set_option maxHeartbeats 400000 in
theorem check_no (a : Int) (h : elemB a = false) (w : World) :
    Calls Try.prog 24 #[.int .i64 a] w fun e w' => e = .returned (.int .i64 40) ∧ Below w.heap.size w w' := by
  by_cases h1 : a < 1
  · have g1 : decide (a < 1) = true := by simp; omega
    clear h h1
    go_enter Try.func24, Try.ntmps24
    go_wp2_with fail
    go_ret
    exact ⟨rfl, Below.refl _ _⟩
  · by_cases h2 : a < 4611686018427377339
    · obtain ⟨n, rfl⟩ : ∃ n : Nat, a = (n : Int) := ⟨a.toNat, by omega⟩
      have hn2 : n < 4611686018427377339 := by omega
      have h3 : ¬ powP n 2305843009213688669 = 1 := fun h3 => by
        rw [elemB_of (by omega) hn2 h3] at h; cases h
      have hc : Calls Try.prog 50 #[.int .u64 n, .int .u64 2305843009213688669] w fun e w' => e = .returned (.int .u64 ((powP n 2305843009213688669 : Nat) : Int)) ∧ Below w.heap.size w w' := powerP_any n 2305843009213688669 hn2 (by decide) w
      have Hc := Lib.hid hc
      have g1 : decide ((n : Int) < 1) = false := by rw [decide_eq_false_iff_not]; omega
      have g2 : decide ((4611686018427377339 : Int) ≤ (n : Int)) = false := by rw [decide_eq_false_iff_not]; omega
      have g4 : (n : Int) ≤ 9223372036854775807 := by omega
      have g3 : (((powP n 2305843009213688669 : Nat) : Int) != 1) = true := by rw [bne_iff_ne]; omega
      obtain ⟨p, hp⟩ : ∃ p, powP n 2305843009213688669 = p := ⟨_, rfl⟩
      rw [hp] at Hc g3
      clear hc h h3 hp h1 h2 hn2
      go_enter Try.func24, Try.ntmps24
      go_wp2_with fail
      refine (Hc.out).mono ?_
      rintro e w' ⟨rfl, hb⟩
      go_wp2_with fail
      go_ret
      exact ⟨rfl, hb⟩
    · have g1 : decide (a < 1) = false := by rw [decide_eq_false_iff_not]; omega
      have g2 : decide ((4611686018427377339 : Int) ≤ a) = true := by rw [decide_eq_true_iff]; omega
      clear h h1 h2
      go_enter Try.func24, Try.ntmps24
      go_wp2_with fail
      go_ret
      exact ⟨rfl, Below.refl _ _⟩

/-- the error of Check -/
def chk (a : Int) : Int := if elemB a then 0 else 40
theorem check_any (a : Int) (w : World) :
    Calls Try.prog 24 #[.int .i64 a] w fun e w' => e = .returned (.int .i64 (chk a)) ∧ Below w.heap.size w w' := by
  cases h : elemB a with
  | true =>
    obtain ⟨n, rfl, h1, h2, h3⟩ := elemB_nat h
    unfold chk; rw [h]; exact check_yes n h1 h2 h3 w
  | false => unfold chk; rw [h]; exact check_no a h w

theorem chk_01 (a : Int) : chk a = 0 ∨ chk a = 40 := by unfold chk; cases elemB a <;> simp

set_option maxHeartbeats 400000 in
/-- group.Mul of two elements -/
theorem gmul_yes (a b : Nat) (ha1 : 1 ≤ a) (ha2 : a < 4611686018427377339) (ha3 : powP a 2305843009213688669 = 1) (hb1 : 1 ≤ b) (hb2 : b < 4611686018427377339) (hb3 : powP b 2305843009213688669 = 1) (w : World) :
    Calls Try.prog 16 #[.int .i64 a, .int .i64 b] w fun e w' => e = .returned (.tuple #[.int .i64 ((mulP a b : Nat) : Int), .int .i64 0]) ∧ Below w.heap.size w w' := by
  have i0 : ∀ w, (Instr.index 47 (.agg #[.int .i64 (a : Int), .int .i64 (b : Int)]) (.int .i64 0)).run Try.prog w = .ok (.int .i64 (a : Int)) w := fun _ => by kernel_rfl
  have i1 : ∀ w, (Instr.index 47 (.agg #[.int .i64 (a : Int), .int .i64 (b : Int)]) (.int .i64 1)).run Try.prog w = .ok (.int .i64 (b : Int)) w := fun _ => by kernel_rfl
  have hm := mulP_lt a b
  have g4 : (a : Int) ≤ 9223372036854775807 := by omega
  have g5 : (b : Int) ≤ 9223372036854775807 := by omega
  have g6 : ((mulP a b : Nat) : Int) ≤ 9223372036854775807 := by omega
  have Ha := Lib.hid ha3
  have Hb := Lib.hid hb3
  have Ha2 := Lib.hid ha2
  have Hb2 := Lib.hid hb2
  clear ha3 hb3 ha2 hb2 hm
  go_enter Try.func16, Try.ntmps16
  go_wp2_with fail
  refine wp_loop_rounds 3 ?_
  rw [rounds_succ]
  go_wp2_with fail
  refine (check_yes a ha1 Ha2.out Ha.out _).mono ?_
  rintro e w1 ⟨rfl, hb1'⟩
  go_wp2_with fail
  rw [rounds_succ]
  go_wp2_with fail
  refine (check_yes b hb1 Hb2.out Hb.out _).mono ?_
  rintro e w2 ⟨rfl, hb2'⟩
  go_wp2_with fail
  rw [rounds_succ]
  go_wp2_with fail
  refine (times_any a b Ha2.out Hb2.out _).mono ?_
  rintro e w3 ⟨rfl, hb3'⟩
  go_wp2_with fail
  go_ret2
  exact ⟨rfl, hb1'.trans ((hb2'.mono hb1'.size).trans (hb3'.mono (Nat.le_trans hb1'.size hb2'.size)))⟩

set_option maxHeartbeats 400000 in
/-- group.Mul where the first is no element -/
theorem gmul_no1 (a b : Int) (ha : elemB a = false) (w : World) :
    Calls Try.prog 16 #[.int .i64 a, .int .i64 b] w fun e w' => e = .returned (.tuple #[.int .i64 0, .int .i64 40]) ∧ Below w.heap.size w w' := by
  have i0 : ∀ w, (Instr.index 47 (.agg #[.int .i64 a, .int .i64 b]) (.int .i64 0)).run Try.prog w = .ok (.int .i64 a) w := fun _ => by kernel_rfl
  have Ha := Lib.hid ha
  clear ha
  go_enter Try.func16, Try.ntmps16
  go_wp2_with fail
  refine wp_loop_rounds 3 ?_
  rw [rounds_succ]
  go_wp2_with fail
  refine (check_no a Ha.out _).mono ?_
  rintro e w1 ⟨rfl, hb1'⟩
  go_wp2_with fail
  go_ret2
  exact ⟨rfl, hb1'⟩

set_option maxHeartbeats 400000 in
/-- group.Mul where the second is no element -/
theorem gmul_no2 (a b : Int) (ha : elemB a = true) (hb : elemB b = false) (w : World) :
    Calls Try.prog 16 #[.int .i64 a, .int .i64 b] w fun e w' => e = .returned (.tuple #[.int .i64 0, .int .i64 40]) ∧ Below w.heap.size w w' := by
  have i0 : ∀ w, (Instr.index 47 (.agg #[.int .i64 a, .int .i64 b]) (.int .i64 0)).run Try.prog w = .ok (.int .i64 a) w := fun _ => by kernel_rfl
  have i1 : ∀ w, (Instr.index 47 (.agg #[.int .i64 a, .int .i64 b]) (.int .i64 1)).run Try.prog w = .ok (.int .i64 b) w := fun _ => by kernel_rfl
  have ca : ∀ w, Calls Try.prog 24 #[.int .i64 a] w fun e w' => e = .returned (.int .i64 0) ∧ Below w.heap.size w w' := fun w => by
    have := check_any a w; unfold chk at this; rwa [ha] at this
  have Ca := Lib.hid ca
  have Hb := Lib.hid hb
  clear ha hb ca
  go_enter Try.func16, Try.ntmps16
  go_wp2_with fail
  refine wp_loop_rounds 3 ?_
  rw [rounds_succ]
  go_wp2_with fail
  refine (Ca.out _).mono ?_
  rintro e w1 ⟨rfl, hb1'⟩
  go_wp2_with fail
  rw [rounds_succ]
  go_wp2_with fail
  refine (check_no b Hb.out _).mono ?_
  rintro e w2 ⟨rfl, hb2'⟩
  go_wp2_with fail
  go_ret2
  exact ⟨rfl, hb1'.trans (hb2'.mono hb1'.size)⟩

/-! ### Exp, Inv, Base -/
set_option maxHeartbeats 400000 in
theorem gexp_yes (a k : Nat) (ha1 : 1 ≤ a) (ha2 : a < 4611686018427377339) (ha3 : powP a 2305843009213688669 = 1) (hk : k < 2305843009213688669) (w : World) :
    Calls Try.prog 20 #[.int .i64 a, .int .i64 k] w fun e w' => e = .returned (.tuple #[.int .i64 ((powP a k : Nat) : Int), .int .i64 0]) ∧ Below w.heap.size w w' := by
  have hm := powP_lt a k
  have g4 : (a : Int) ≤ 9223372036854775807 := by omega
  have g5 : (k : Int) ≤ 9223372036854775807 := by omega
  have g6 : ((powP a k : Nat) : Int) ≤ 9223372036854775807 := by omega
  have g1 : decide ((k : Int) < 0) = false := by rw [decide_eq_false_iff_not]; omega
  have g2 : decide ((2305843009213688669 : Int) ≤ (k : Int)) = false := by rw [decide_eq_false_iff_not]; omega
  have Ha := Lib.hid ha3
  have Ha2 := Lib.hid ha2
  have Hk := Lib.hid hk
  clear ha3 ha2 hk hm
  go_enter Try.func20, Try.ntmps20
  go_wp2_with fail
  refine (check_yes a ha1 Ha2.out Ha.out _).mono ?_
  rintro e w1 ⟨rfl, hb1'⟩
  go_wp2_with fail
  refine (powerP_any a k Ha2.out (Nat.lt_trans Hk.out (by decide)) _).mono ?_
  rintro e w2 ⟨rfl, hb2'⟩
  go_wp2_with fail
  go_ret2
  exact ⟨rfl, hb1'.trans (hb2'.mono hb1'.size)⟩

set_option maxHeartbeats 400000 in
theorem gexp_no (a k : Int) (ha : elemB a = false) (w : World) :
    Calls Try.prog 20 #[.int .i64 a, .int .i64 k] w fun e w' => e = .returned (.tuple #[.int .i64 0, .int .i64 40]) ∧ Below w.heap.size w w' := by
  have Ha := Lib.hid ha
  clear ha
  go_enter Try.func20, Try.ntmps20
  go_wp2_with fail
  refine (check_no a Ha.out _).mono ?_
  rintro e w1 ⟨rfl, hb1'⟩
  go_wp2_with fail
  go_ret2
  exact ⟨rfl, hb1'⟩

/-- a number is a scalar -/
def scalB (k : Int) : Bool := decide (0 ≤ k ∧ k < 2305843009213688669)
theorem scalB_nat {k : Int} (h : scalB k = true) : ∃ n : Nat, k = (n : Int) ∧ n < 2305843009213688669 := by
  unfold scalB at h
  obtain ⟨h1, h2⟩ := of_decide_eq_true h
  exact ⟨k.toNat, by omega, by omega⟩
theorem scalB_of {n : Nat} (h : n < 2305843009213688669) : scalB (n : Int) = true := by unfold scalB; exact decide_eq_true ⟨by omega, by omega⟩
theorem scalB_no {k : Int} (h : scalB k = false) : k < 0 ∨ 2305843009213688669 ≤ k := by
  unfold scalB at h
  have := of_decide_eq_false h
  omega

set_option maxHeartbeats 400000 in
theorem gexp_noscalar (a k : Int) (ha : elemB a = true) (hk : scalB k = false) (w : World) :
    Calls Try.prog 20 #[.int .i64 a, .int .i64 k] w fun e w' => e = .returned (.tuple #[.int .i64 0, .int .i64 1]) ∧ Below w.heap.size w w' := by
  have ca : ∀ w, Calls Try.prog 24 #[.int .i64 a] w fun e w' => e = .returned (.int .i64 0) ∧ Below w.heap.size w w' := fun w => by
    have := check_any a w; unfold chk at this; rwa [ha] at this
  have Ca := Lib.hid ca
  rcases scalB_no hk with h | h
  · have g1 : decide (k < 0) = true := by rw [decide_eq_true_iff]; omega
    clear ha hk ca h
    go_enter Try.func20, Try.ntmps20
    go_wp2_with fail
    refine (Ca.out _).mono ?_
    rintro e w1 ⟨rfl, hb1'⟩
    go_wp2_with fail
    go_ret2
    exact ⟨rfl, hb1'⟩
  · have g1 : decide (k < 0) = false := by rw [decide_eq_false_iff_not]; omega
    have g2 : decide ((2305843009213688669 : Int) ≤ k) = true := by rw [decide_eq_true_iff]; omega
    clear ha hk ca h
    go_enter Try.func20, Try.ntmps20
    go_wp2_with fail
    refine (Ca.out _).mono ?_
    rintro e w1 ⟨rfl, hb1'⟩
    go_wp2_with fail
    go_ret2
    exact ⟨rfl, hb1'⟩

/-- what Mul, Exp, Inv, Base answer: the number and the error -/
def gmulV (a b : Int) : Int := if elemB a && elemB b then ((mulP a.toNat b.toNat : Nat) : Int) else 0
def gmulE (a b : Int) : Int := if elemB a && elemB b then 0 else 40
def gexpV (a k : Int) : Int := if elemB a && scalB k then ((powP a.toNat k.toNat : Nat) : Int) else 0
def gexpE (a k : Int) : Int := if elemB a then (if scalB k then 0 else 1) else 40

theorem gmul_any (a b : Int) (w : World) :
    Calls Try.prog 16 #[.int .i64 a, .int .i64 b] w fun e w' => e = .returned (.tuple #[.int .i64 (gmulV a b), .int .i64 (gmulE a b)]) ∧ Below w.heap.size w w' := by
  unfold gmulV gmulE
  cases ha : elemB a with
  | false => exact gmul_no1 a b ha w
  | true =>
    cases hb : elemB b with
    | false => exact gmul_no2 a b ha hb w
    | true =>
      obtain ⟨n, rfl, h1, h2, h3⟩ := elemB_nat ha
      obtain ⟨m, rfl, k1, k2, k3⟩ := elemB_nat hb
      exact gmul_yes n m h1 h2 h3 k1 k2 k3 w

theorem gexp_any (a k : Int) (w : World) :
    Calls Try.prog 20 #[.int .i64 a, .int .i64 k] w fun e w' => e = .returned (.tuple #[.int .i64 (gexpV a k), .int .i64 (gexpE a k)]) ∧ Below w.heap.size w w' := by
  unfold gexpV gexpE
  cases ha : elemB a with
  | false => exact gexp_no a k ha w
  | true =>
    cases hk : scalB k with
    | false => exact gexp_noscalar a k ha hk w
    | true =>
      obtain ⟨n, rfl, h1, h2, h3⟩ := elemB_nat ha
      obtain ⟨m, rfl, k1⟩ := scalB_nat hk
      exact gexp_yes n m h1 h2 h3 k1 w

theorem ginv_any (a : Int) (w : World) :
    Calls Try.prog 18 #[.int .i64 a] w fun e w' => e = .returned (.tuple #[.int .i64 (gexpV a 2305843009213688668), .int .i64 (gexpE a 2305843009213688668)]) ∧ Below w.heap.size w w' := by
  go_enter Try.func18, Try.ntmps18
  go_wp2_with fail
  refine (gexp_any a 2305843009213688668 _).mono ?_
  rintro e w1 ⟨rfl, hb1'⟩
  go_wp2_with fail
  go_ret2
  exact ⟨rfl, hb1'⟩

theorem gbase_any (k : Int) (w : World) :
    Calls Try.prog 22 #[.int .i64 k] w fun e w' => e = .returned (.tuple #[.int .i64 (gexpV 4 k), .int .i64 (gexpE 4 k)]) ∧ Below w.heap.size w w' := by
  go_enter Try.func22, Try.ntmps22
  go_wp2_with fail
  refine (gexp_any 4 k _).mono ?_
  rintro e w1 ⟨rfl, hb1'⟩
  go_wp2_with fail
  go_ret2
  exact ⟨rfl, hb1'⟩

end Go.Proofs.Ytajcpbchpcnmaaa
