/- The contracts of package field: Check, Add, Sub, Mul, Inv, Pow. -/
import Derived.Test.YtajcpbchpcnmaaaFldPow2
set_option linter.unusedVariables false
set_option linter.unusedSimpArgs false
namespace Go.Proofs.Ytajcpbchpcnmaaa
open Go.RowKit Go.Shelf

theorem outB_one (a : Int) : outB [a] = !scalB a := by simp [outB]
theorem outB_two (a b : Int) : outB [a, b] = (!scalB a || !scalB b) := by simp [outB]

theorem intsAt_one (w : World) (a : Int) : IntsAt (w.alloc (.cells #[.int .i64 a] 3)) (.slice (some ⟨w.heap.size, 0, none⟩) 1 1) [a] :=
  .inr ⟨w.heap.size, 0, 1, rfl, by simp, by simp, fun j hj => by
    have : j = 0 := by simp at hj; omega
    subst this; simp [World.cell?_alloc_new]⟩
theorem intsAt_two (w : World) (a b : Int) : IntsAt (w.alloc (.cells #[.int .i64 a, .int .i64 b] 3)) (.slice (some ⟨w.heap.size, 0, none⟩) 2 2) [a, b] :=
  .inr ⟨w.heap.size, 0, 2, rfl, by simp, by simp, fun j hj => by
    have : j = 0 ∨ j = 1 := by simp at hj; omega
    rcases this with rfl | rfl <;> simp [World.cell?_alloc_new]⟩

theorem out_one (w : World) (a : Int) {x : Bool} (h : (!scalB a) = x) :
    Calls Try.prog 52 #[.slice (some ⟨w.heap.size, 0, none⟩) 1 1] (w.alloc (.cells #[.int .i64 a] 3)) fun e w' => e = .returned (.bool x) ∧ w.alloc (.cells #[.int .i64 a] 3) = w' := by
  have := outside_any _ [a] _ (intsAt_one w a); rwa [outB_one, h] at this
theorem out_two (w : World) (a b : Int) {x : Bool} (h : (!scalB a || !scalB b) = x) :
    Calls Try.prog 52 #[.slice (some ⟨w.heap.size, 0, none⟩) 2 2] (w.alloc (.cells #[.int .i64 a, .int .i64 b] 3)) fun e w' => e = .returned (.bool x) ∧ w.alloc (.cells #[.int .i64 a, .int .i64 b] 3) = w' := by
  have := outside_any _ [a, b] _ (intsAt_two w a b); rwa [outB_two, h] at this

theorem below_new (w : World) (o : Obj) : Below w.heap.size w (w.alloc o) := (Below.refl _ w).alloc (Nat.le_refl _) o

/-- the answers -/
def fchk (a : Int) : Int := if scalB a then 0 else 1
def addQ (a b : Nat) : Nat := (a + b) % 2305843009213688669
def subQ (a b : Nat) : Nat := if a < b then a + 2305843009213688669 - b else a - b
theorem addQ_lt (a b : Nat) : addQ a b < 2305843009213688669 := Nat.mod_lt _ (by decide)
theorem subQ_lt {a b : Nat} (ha : a < 2305843009213688669) : subQ a b < 2305843009213688669 := by unfold subQ; split <;> omega
def fadd (a b : Int) : Int := if scalB a && scalB b then ((addQ a.toNat b.toNat : Nat) : Int) else 0
def fsub (a b : Int) : Int := if scalB a && scalB b then ((subQ a.toNat b.toNat : Nat) : Int) else 0
def fmul (a b : Int) : Int := if scalB a && scalB b then ((mulQ a.toNat b.toNat : Nat) : Int) else 0
def f2E (a b : Int) : Int := if scalB a && scalB b then 0 else 1
def finv (a : Int) : Int := if scalB a then (if a == 0 then 0 else ((powQ a.toNat 2305843009213688667 : Nat) : Int)) else 0
def finvE (a : Int) : Int := if scalB a then (if a == 0 then 30 else 0) else 1
def fpow (a n : Int) : Int := if scalB a && decide (0 ≤ n) then ((powQ a.toNat n.toNat : Nat) : Int) else 0
def fpowE (a n : Int) : Int := if scalB a && decide (0 ≤ n) then 0 else 1

theorem fcheck_any (a : Int) (w : World) :
    Calls Try.prog 36 #[.int .i64 a] w fun e w' => e = .returned (.int .i64 (fchk a)) ∧ Below w.heap.size w w' := by
  have hb := below_new w (.cells #[.int .i64 a] 3)
  cases h : scalB a with
  | true =>
    have e1 : fchk a = 0 := by unfold fchk; rw [h]; rfl
    have ho := out_one w a (x := false) (by rw [h]; rfl)
    rw [e1]
    have Ho := Lib.hid ho
    clear ho h e1
    go_enter Try.func36, Try.ntmps36
    go_wp2_with fail
    refine (Ho.out).mono ?_
    rintro e w' ⟨rfl, rfl⟩
    go_wp2_with fail
    go_ret
    exact ⟨rfl, hb⟩
  | false =>
    have e1 : fchk a = 1 := by unfold fchk; rw [h]; rfl
    have ho := out_one w a (x := true) (by rw [h]; rfl)
    rw [e1]
    have Ho := Lib.hid ho
    clear ho h e1
    go_enter Try.func36, Try.ntmps36
    go_wp2_with fail
    refine (Ho.out).mono ?_
    rintro e w' ⟨rfl, rfl⟩
    go_wp2_with fail
    go_ret
    exact ⟨rfl, hb⟩

/-! ### Add, Sub, Mul where one is no scalar -/
set_option maxHeartbeats 400000 in
theorem fadd_no (a b : Int) (h : (!scalB a || !scalB b) = true) (w : World) :
    Calls Try.prog 28 #[.int .i64 a, .int .i64 b] w fun e w' => e = .returned (.tuple #[.int .i64 0, .int .i64 1]) ∧ Below w.heap.size w w' := by
  have hb := below_new w (.cells #[.int .i64 a, .int .i64 b] 3)
  have Ho := Lib.hid (out_two w a b h)
  clear h
  go_enter Try.func28, Try.ntmps28
  go_wp2_with fail
  refine (Ho.out).mono ?_
  rintro e w' ⟨rfl, rfl⟩
  go_wp2_with fail
  go_ret2
  exact ⟨rfl, hb⟩

set_option maxHeartbeats 400000 in
theorem fsub_no (a b : Int) (h : (!scalB a || !scalB b) = true) (w : World) :
    Calls Try.prog 33 #[.int .i64 a, .int .i64 b] w fun e w' => e = .returned (.tuple #[.int .i64 0, .int .i64 1]) ∧ Below w.heap.size w w' := by
  have hb := below_new w (.cells #[.int .i64 a, .int .i64 b] 3)
  have Ho := Lib.hid (out_two w a b h)
  clear h
  go_enter Try.func33, Try.ntmps33
  go_wp2_with fail
  refine (Ho.out).mono ?_
  rintro e w' ⟨rfl, rfl⟩
  go_wp2_with fail
  go_ret2
  exact ⟨rfl, hb⟩

set_option maxHeartbeats 400000 in
theorem fmul_no (a b : Int) (h : (!scalB a || !scalB b) = true) (w : World) :
    Calls Try.prog 29 #[.int .i64 a, .int .i64 b] w fun e w' => e = .returned (.tuple #[.int .i64 0, .int .i64 1]) ∧ Below w.heap.size w w' := by
  have hb := below_new w (.cells #[.int .i64 a, .int .i64 b] 3)
  have Ho := Lib.hid (out_two w a b h)
  clear h
  go_enter Try.func29, Try.ntmps29
  go_wp2_with fail
  refine (Ho.out).mono ?_
  rintro e w' ⟨rfl, rfl⟩
  go_wp2_with fail
  go_ret2
  exact ⟨rfl, hb⟩

theorem scal2 {a b : Nat} (ha : a < 2305843009213688669) (hb : b < 2305843009213688669) : (!scalB a || !scalB b) = false := by rw [scalB_of ha, scalB_of hb]; rfl

set_option maxHeartbeats 400000 in
theorem fadd_yes (a b : Nat) (ha : a < 2305843009213688669) (hb : b < 2305843009213688669) (w : World) :
    Calls Try.prog 28 #[.int .i64 a, .int .i64 b] w fun e w' => e = .returned (.tuple #[.int .i64 ((addQ a b : Nat) : Int), .int .i64 0]) ∧ Below w.heap.size w w' := by
  have hB := below_new w (.cells #[.int .i64 a, .int .i64 b] 3)
  have Ho := Lib.hid (out_two w a b (scal2 ha hb))
  have re : ((a : Int) + (b : Int)) % 2305843009213688669 = ((addQ a b : Nat) : Int) := by unfold addQ; omega
  have g1 : (a : Int) + (b : Int) ≤ 9223372036854775807 := by omega
  have He : Hid (Ending.returned (.tuple #[.int .i64 (((a : Int) + (b : Int)) % 2305843009213688669), .int .i64 0]) = Ending.returned (.tuple #[.int .i64 ((addQ a b : Nat) : Int), .int .i64 0])) := by
    show _ = _; rw [re]
  clear ha hb re
  go_enter Try.func28, Try.ntmps28
  go_wp2_with fail
  refine (Ho.out).mono ?_
  rintro e w' ⟨rfl, rfl⟩
  go_wp2_with fail
  go_ret2
  exact ⟨He.out, hB⟩

set_option maxHeartbeats 400000 in
theorem fsub_yes (a b : Nat) (ha : a < 2305843009213688669) (hb : b < 2305843009213688669) (w : World) :
    Calls Try.prog 33 #[.int .i64 a, .int .i64 b] w fun e w' => e = .returned (.tuple #[.int .i64 ((subQ a b : Nat) : Int), .int .i64 0]) ∧ Below w.heap.size w w' := by
  have hB := below_new w (.cells #[.int .i64 a, .int .i64 b] 3)
  have Ho := Lib.hid (out_two w a b (scal2 ha hb))
  have g1 : (a : Int) ≤ 2305843009213688669 := by omega
  have g2 : (b : Int) ≤ 2305843009213688669 := by omega
  by_cases hlt : a < b
  · have He : Hid (Ending.returned (.tuple #[.int .i64 ((a : Int) + 2305843009213688669 - (b : Int)), .int .i64 0]) = Ending.returned (.tuple #[.int .i64 ((subQ a b : Nat) : Int), .int .i64 0])) := by
      have e : ((subQ a b : Nat) : Int) = (a : Int) + 2305843009213688669 - (b : Int) := by unfold subQ; rw [if_pos hlt]; omega
      show _ = _; rw [e]
    have g3 : decide ((a : Int) < (b : Int)) = true := by rw [decide_eq_true_iff]; omega
    have g4 : decide (a < b) = true := by rw [decide_eq_true_iff]; omega
    clear ha hb
    go_enter Try.func33, Try.ntmps33
    go_wp2_with fail
    refine (Ho.out).mono ?_
    rintro e w' ⟨rfl, rfl⟩
    go_wp2_with fail
    go_ret2
    exact ⟨He.out, hB⟩
  · have He : Hid (Ending.returned (.tuple #[.int .i64 ((a : Int) - (b : Int)), .int .i64 0]) = Ending.returned (.tuple #[.int .i64 ((subQ a b : Nat) : Int), .int .i64 0])) := by
      have e : ((subQ a b : Nat) : Int) = (a : Int) - (b : Int) := by unfold subQ; rw [if_neg hlt]; omega
      show _ = _; rw [e]
    have g3 : decide ((a : Int) < (b : Int)) = false := by rw [decide_eq_false_iff_not]; omega
    have g4 : decide (a < b) = false := by rw [decide_eq_false_iff_not]; omega
    clear ha hb hlt
    go_enter Try.func33, Try.ntmps33
    go_wp2_with fail
    refine (Ho.out).mono ?_
    rintro e w' ⟨rfl, rfl⟩
    go_wp2_with fail
    go_ret2
    exact ⟨He.out, hB⟩

set_option maxHeartbeats 400000 in
theorem fmul_yes (a b : Nat) (ha : a < 2305843009213688669) (hb : b < 2305843009213688669) (w : World) :
    Calls Try.prog 29 #[.int .i64 a, .int .i64 b] w fun e w' => e = .returned (.tuple #[.int .i64 ((mulQ a b : Nat) : Int), .int .i64 0]) ∧ Below w.heap.size w w' := by
  have hB := below_new w (.cells #[.int .i64 a, .int .i64 b] 3)
  have Ho := Lib.hid (out_two w a b (scal2 ha hb))
  have Hp := Lib.hid (fun w => productQ_any a b ha hb w)
  obtain ⟨s, hs⟩ : ∃ s, mulQ a b = s := ⟨_, rfl⟩
  rw [hs] at Hp ⊢
  clear ha hb hs
  go_enter Try.func29, Try.ntmps29
  go_wp2_with fail
  refine (Ho.out).mono ?_
  rintro e w' ⟨rfl, rfl⟩
  go_wp2_with fail
  refine (Hp.out _).mono ?_
  rintro e w1 ⟨rfl, b1⟩
  go_wp2_with fail
  go_ret2
  exact ⟨rfl, hB.trans (b1.mono hB.size)⟩

theorem fadd_any (a b : Int) (w : World) :
    Calls Try.prog 28 #[.int .i64 a, .int .i64 b] w fun e w' => e = .returned (.tuple #[.int .i64 (fadd a b), .int .i64 (f2E a b)]) ∧ Below w.heap.size w w' := by
  unfold fadd f2E
  cases ha : scalB a with
  | false => exact fadd_no a b (by rw [ha]; rfl) w
  | true =>
    cases hb : scalB b with
    | false => exact fadd_no a b (by rw [ha, hb]; rfl) w
    | true =>
      obtain ⟨n, rfl, h1⟩ := scalB_nat ha
      obtain ⟨m, rfl, h2⟩ := scalB_nat hb
      exact fadd_yes n m h1 h2 w

theorem fsub_any (a b : Int) (w : World) :
    Calls Try.prog 33 #[.int .i64 a, .int .i64 b] w fun e w' => e = .returned (.tuple #[.int .i64 (fsub a b), .int .i64 (f2E a b)]) ∧ Below w.heap.size w w' := by
  unfold fsub f2E
  cases ha : scalB a with
  | false => exact fsub_no a b (by rw [ha]; rfl) w
  | true =>
    cases hb : scalB b with
    | false => exact fsub_no a b (by rw [ha, hb]; rfl) w
    | true =>
      obtain ⟨n, rfl, h1⟩ := scalB_nat ha
      obtain ⟨m, rfl, h2⟩ := scalB_nat hb
      exact fsub_yes n m h1 h2 w

theorem fmul_any (a b : Int) (w : World) :
    Calls Try.prog 29 #[.int .i64 a, .int .i64 b] w fun e w' => e = .returned (.tuple #[.int .i64 (fmul a b), .int .i64 (f2E a b)]) ∧ Below w.heap.size w w' := by
  unfold fmul f2E
  cases ha : scalB a with
  | false => exact fmul_no a b (by rw [ha]; rfl) w
  | true =>
    cases hb : scalB b with
    | false => exact fmul_no a b (by rw [ha, hb]; rfl) w
    | true =>
      obtain ⟨n, rfl, h1⟩ := scalB_nat ha
      obtain ⟨m, rfl, h2⟩ := scalB_nat hb
      exact fmul_yes n m h1 h2 w

/-! ### Inv, Pow -/
set_option maxHeartbeats 400000 in
theorem finv_any (a : Int) (w : World) :
    Calls Try.prog 30 #[.int .i64 a] w fun e w' => e = .returned (.tuple #[.int .i64 (finv a), .int .i64 (finvE a)]) ∧ Below w.heap.size w w' := by
  have hb := below_new w (.cells #[.int .i64 a] 3)
  unfold finv finvE
  cases h : scalB a with
  | false =>
    have Ho := Lib.hid (out_one w a (x := true) (by rw [h]; rfl))
    simp only [Bool.false_eq_true, if_false]
    clear h
    go_enter Try.func30, Try.ntmps30
    go_wp2_with fail
    refine (Ho.out).mono ?_
    rintro e w' ⟨rfl, rfl⟩
    go_wp2_with fail
    go_ret2
    exact ⟨rfl, hb⟩
  | true =>
    have Ho := Lib.hid (out_one w a (x := false) (by rw [h]; rfl))
    simp only [if_true]
    by_cases h0 : a = 0
    · subst h0
      simp only [beq_self_eq_true, if_true]
      clear h
      go_enter Try.func30, Try.ntmps30
      go_wp2_with fail
      refine (Ho.out).mono ?_
      rintro e w' ⟨rfl, rfl⟩
      go_wp2_with fail
      go_ret2
      exact ⟨rfl, hb⟩
    · have hz : (a == 0) = false := by rw [beq_eq_false_iff_ne]; exact h0
      rw [hz]
      simp only [Bool.false_eq_true, if_false]
      obtain ⟨n, rfl, hn⟩ := scalB_nat h
      rw [Int.toNat_natCast]
      have hp : ∀ w, Calls Try.prog 54 #[.int .i64 n, .int .i64 2305843009213688667] w fun e w' => e = .returned (.int .i64 ((powQ n 2305843009213688667 : Nat) : Int)) ∧ Below w.heap.size w w' := fun w => powerQ_any n 2305843009213688667 hn (by decide) w
      obtain ⟨p, hpe⟩ : ∃ p, powQ n 2305843009213688667 = p := ⟨_, rfl⟩
      rw [hpe] at hp ⊢
      have Hp := Lib.hid hp
      clear hp hpe h h0 hn
      go_enter Try.func30, Try.ntmps30
      go_wp2_with fail
      refine (Ho.out).mono ?_
      rintro e w' ⟨rfl, rfl⟩
      go_wp2_with fail
      refine (Hp.out _).mono ?_
      rintro e w1 ⟨rfl, b1⟩
      go_wp2_with fail
      go_ret2
      exact ⟨rfl, hb.trans (b1.mono hb.size)⟩

set_option maxHeartbeats 400000 in
theorem fpow_any (a n : Int) (hn2 : n ≤ 9223372036854775807) (w : World) :
    Calls Try.prog 39 #[.int .i64 a, .int .i64 n] w fun e w' => e = .returned (.tuple #[.int .i64 (fpow a n), .int .i64 (fpowE a n)]) ∧ Below w.heap.size w w' := by
  have hb := below_new w (.cells #[.int .i64 a] 3)
  unfold fpow fpowE
  cases h : scalB a with
  | false =>
    have Ho := Lib.hid (out_one w a (x := true) (by rw [h]; rfl))
    simp only [Bool.false_and, Bool.false_eq_true, if_false]
    clear h hn2
    go_enter Try.func39, Try.ntmps39
    go_wp2_with fail
    refine (Ho.out).mono ?_
    rintro e w' ⟨rfl, rfl⟩
    go_wp2_with fail
    go_ret2
    exact ⟨rfl, hb⟩
  | true =>
    have Ho := Lib.hid (out_one w a (x := false) (by rw [h]; rfl))
    by_cases h0 : n < 0
    · have g1 : decide (0 ≤ n) = false := by rw [decide_eq_false_iff_not]; omega
      have g2 : decide (n < 0) = true := by rw [decide_eq_true_iff]; omega
      rw [g1]
      simp only [Bool.true_and, Bool.false_eq_true, if_false]
      clear h hn2 h0 g1
      go_enter Try.func39, Try.ntmps39
      go_wp2_with fail
      refine (Ho.out).mono ?_
      rintro e w' ⟨rfl, rfl⟩
      go_wp2_with fail
      go_ret2
      exact ⟨rfl, hb⟩
    · have g1 : decide (0 ≤ n) = true := by rw [decide_eq_true_iff]; omega
      have g2 : decide (n < 0) = false := by rw [decide_eq_false_iff_not]; omega
      rw [g1]
      simp only [Bool.true_and, if_true]
      obtain ⟨m, rfl, hm⟩ := scalB_nat h
      obtain ⟨k, rfl⟩ : ∃ k : Nat, n = (k : Int) := ⟨n.toNat, by omega⟩
      rw [Int.toNat_natCast, Int.toNat_natCast]
      have Hp := Lib.hid (fun w => powerQ_any m k hm (by omega) w)
      obtain ⟨p, hpe⟩ : ∃ p, powQ m k = p := ⟨_, rfl⟩
      rw [hpe] at Hp ⊢
      clear hpe h h0 hm hn2 g1
      go_enter Try.func39, Try.ntmps39
      go_wp2_with fail
      refine (Ho.out).mono ?_
      rintro e w' ⟨rfl, rfl⟩
      go_wp2_with fail
      refine (Hp.out _).mono ?_
      rintro e w1 ⟨rfl, b1⟩
      go_wp2_with fail
      go_ret2
      exact ⟨rfl, hb.trans (b1.mono hb.size)⟩

end Go.Proofs.Ytajcpbchpcnmaaa
