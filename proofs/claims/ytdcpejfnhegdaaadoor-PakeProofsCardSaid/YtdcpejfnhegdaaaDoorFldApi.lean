/- The contracts of package field: Check, Add, Sub, Mul, Inv, Pow. -/
import Derived.Test.YtdcpejfnhegdaaaDoorFldPow2
set_option linter.unusedVariables false
set_option linter.unusedSimpArgs false
namespace Go.Proofs.YtdcpejfnhegdaaaDoor
open Go.RowKit Go.Shelf

theorem outB_one (a : Int) : outB [a] = !scalB a := by simp [outB]
theorem outB_two (a b : Int) : outB [a, b] = (!scalB a || !scalB b) := by simp [outB]

theorem intsAt_one (w : World) (a : Int) : IntsAt (w.alloc (.cells #[.int .i64 a] 3)) (.slice (some ⟨w.heap.size, 0, none⟩) 1 1) [a] :=
  .inr ⟨w.heap.size, 0, 1, rfl, by simp, by simp, fun j hj => by
    have : j = 0 := by simp at hj; omega
    subst this; simp [World.cell?_alloc_new]⟩
theorem intsAt_two (w : World) (a b : Int) : IntsAt (w.alloc (.cells #[.int .i64 a, .int .i64 b] 3)) (.slice (some ⟨w.heap.size, 0, none⟩) 2 2) [a, b] :=
  .inr ⟨w.heap.size, 0, 2, rfl, by simp, by simp, fun j hj => by
    have : j = 0 ∨ j = 1 := by simp at hj; omega
    rcases this with rfl | rfl <;> simp [World.cell?_alloc_new]⟩

theorem out_one (w : World) (a : Int) {x : Bool} (h : (!scalB a) = x) :
    Calls Tryd.prog 58 #[.slice (some ⟨w.heap.size, 0, none⟩) 1 1] (w.alloc (.cells #[.int .i64 a] 3)) fun e w' => e = .returned (.bool x) ∧ w.alloc (.cells #[.int .i64 a] 3) = w' := by
  have := outside_any _ [a] _ (intsAt_one w a); rwa [outB_one, h] at this
theorem out_two (w : World) (a b : Int) {x : Bool} (h : (!scalB a || !scalB b) = x) :
    Calls Tryd.prog 58 #[.slice (some ⟨w.heap.size, 0, none⟩) 2 2] (w.alloc (.cells #[.int .i64 a, .int .i64 b] 3)) fun e w' => e = .returned (.bool x) ∧ w.alloc (.cells #[.int .i64 a, .int .i64 b] 3) = w' := by
  have := outside_any _ [a, b] _ (intsAt_two w a b); rwa [outB_two, h] at this

theorem below_new (w : World) (o : Obj) : Below w.heap.size w (w.alloc o) := (Below.refl _ w).alloc (Nat.le_refl _) o

/-- the answers -/
def fchk (a : Int) : Int := if scalB a then 0 else 1
def addQ (a b : Nat) : Nat := (a + b) % 2305843009213688669
def subQ (a b : Nat) : Nat := if a < b then a + 2305843009213688669 - b else a - b
theorem addQ_lt (a b : Nat) : addQ a b < 2305843009213688669 := Nat.mod_lt _ (by decide)
theorem subQ_lt {a b : Nat} (ha : a < 2305843009213688669) : subQ a b < 2305843009213688669 := by unfold subQ; split <;> omega
def fadd (a b : Int) : Int := if scalB a && scalB b then ((addQ a.toNat b.toNat : Nat) : Int) else 0
def fsub (a b : Int) : Int := if scalB a && scalB b then ((subQ a.toNat b.toNat : Nat) : Int) else 0
def fmul (a b : Int) : Int := if scalB a && scalB b then ((mulQ a.toNat b.toNat : Nat) : Int) else 0
def f2E (a b : Int) : Int := if scalB a && scalB b then 0 else 1
def finv (a : Int) : Int := if scalB a then (if a == 0 then 0 else ((powQ a.toNat 2305843009213688667 : Nat) : Int)) else 0
def finvE (a : Int) : Int := if scalB a then (if a == 0 then 30 else 0) else 1
def fpow (a n : Int) : Int := if scalB a && decide (0 ≤ n) then ((powQ a.toNat n.toNat : Nat) : Int) else 0
def fpowE (a n : Int) : Int := if scalB a && decide (0 ≤ n) then 0 else 1


/-! ### Add, Sub, Mul where one is no scalar -/

set_option maxHeartbeats 400000 in
theorem fsub_no (a b : Int) (h : (!scalB a || !scalB b) = true) (w : World) :
    Calls Tryd.prog 37 #[.int .i64 a, .int .i64 b] w fun e w' => e = .returned (.tuple #[.int .i64 0, .int .i64 1]) ∧ Below w.heap.size w w' := by
  have hb := below_new w (.cells #[.int .i64 a, .int .i64 b] 3)
  have Ho := Lib.hid (out_two w a b h)
  clear h
  go_enter Tryd.func37, Tryd.ntmps37
  go_wp2_with fail
  refine (Ho.out).mono ?_
  rintro e w' ⟨rfl, rfl⟩
  go_wp2_with fail
  go_ret2
  exact ⟨rfl, hb⟩

set_option maxHeartbeats 400000 in
theorem fmul_no (a b : Int) (h : (!scalB a || !scalB b) = true) (w : World) :
    Calls Tryd.prog 59 #[.int .i64 a, .int .i64 b] w fun e w' => e = .returned (.tuple #[.int .i64 0, .int .i64 1]) ∧ Below w.heap.size w w' := by
  have hb := below_new w (.cells #[.int .i64 a, .int .i64 b] 3)
  have Ho := Lib.hid (out_two w a b h)
  clear h
  go_enter Tryd.func59, Tryd.ntmps59
  go_wp2_with fail
  refine (Ho.out).mono ?_
  rintro e w' ⟨rfl, rfl⟩
  go_wp2_with fail
  go_ret2
  exact ⟨rfl, hb⟩

theorem scal2 {a b : Nat} (ha : a < 2305843009213688669) (hb : b < 2305843009213688669) : (!scalB a || !scalB b) = false := by rw [scalB_of ha, scalB_of hb]; rfl


set_option maxHeartbeats 400000 in
theorem fsub_yes (a b : Nat) (ha : a < 2305843009213688669) (hb : b < 2305843009213688669) (w : World) :
    Calls Tryd.prog 37 #[.int .i64 a, .int .i64 b] w fun e w' => e = .returned (.tuple #[.int .i64 ((subQ a b : Nat) : Int), .int .i64 0]) ∧ Below w.heap.size w w' := by
  have hB := below_new w (.cells #[.int .i64 a, .int .i64 b] 3)
  have Ho := Lib.hid (out_two w a b (scal2 ha hb))
  have g1 : (a : Int) ≤ 2305843009213688669 := by omega
  have g2 : (b : Int) ≤ 2305843009213688669 := by omega
  by_cases hlt : a < b
  · have He : Hid (Ending.returned (.tuple #[.int .i64 ((a : Int) + 2305843009213688669 - (b : Int)), .int .i64 0]) = Ending.returned (.tuple #[.int .i64 ((subQ a b : Nat) : Int), .int .i64 0])) := by
      have e : ((subQ a b : Nat) : Int) = (a : Int) + 2305843009213688669 - (b : Int) := by unfold subQ; rw [if_pos hlt]; omega
      show _ = _; rw [e]
    have g3 : decide ((a : Int) < (b : Int)) = true := by rw [decide_eq_true_iff]; omega
    have g4 : decide (a < b) = true := by rw [decide_eq_true_iff]; omega
    clear ha hb
    go_enter Tryd.func37, Tryd.ntmps37
    go_wp2_with fail
    refine (Ho.out).mono ?_
    rintro e w' ⟨rfl, rfl⟩
    go_wp2_with fail
    go_ret2
    exact ⟨He.out, hB⟩
  · have He : Hid (Ending.returned (.tuple #[.int .i64 ((a : Int) - (b : Int)), .int .i64 0]) = Ending.returned (.tuple #[.int .i64 ((subQ a b : Nat) : Int), .int .i64 0])) := by
      have e : ((subQ a b : Nat) : Int) = (a : Int) - (b : Int) := by unfold subQ; rw [if_neg hlt]; omega
      show _ = _; rw [e]
    have g3 : decide ((a : Int) < (b : Int)) = false := by rw [decide_eq_false_iff_not]; omega
    have g4 : decide (a < b) = false := by rw [decide_eq_false_iff_not]; omega
    clear ha hb hlt
    go_enter Tryd.func37, Tryd.ntmps37
    go_wp2_with fail
    refine (Ho.out).mono ?_
    rintro e w' ⟨rfl, rfl⟩
    go_wp2_with fail
    go_ret2
    exact ⟨He.out, hB⟩

set_option maxHeartbeats 400000 in
theorem fmul_yes (a b : Nat) (ha : a < 2305843009213688669) (hb : b < 2305843009213688669) (w : World) :
    Calls Tryd.prog 59 #[.int .i64 a, .int .i64 b] w fun e w' => e = .returned (.tuple #[.int .i64 ((mulQ a b : Nat) : Int), .int .i64 0]) ∧ Below w.heap.size w w' := by
  have hB := below_new w (.cells #[.int .i64 a, .int .i64 b] 3)
  have Ho := Lib.hid (out_two w a b (scal2 ha hb))
  have Hp := Lib.hid (fun w => productQ_any a b ha hb w)
  obtain ⟨s, hs⟩ : ∃ s, mulQ a b = s := ⟨_, rfl⟩
  rw [hs] at Hp ⊢
  clear ha hb hs
  go_enter Tryd.func59, Tryd.ntmps59
  go_wp2_with fail
  refine (Ho.out).mono ?_
  rintro e w' ⟨rfl, rfl⟩
  go_wp2_with fail
  refine (Hp.out _).mono ?_
  rintro e w1 ⟨rfl, b1⟩
  go_wp2_with fail
  go_ret2
  exact ⟨rfl, hB.trans (b1.mono hB.size)⟩


theorem fsub_any (a b : Int) (w : World) :
    Calls Tryd.prog 37 #[.int .i64 a, .int .i64 b] w fun e w' => e = .returned (.tuple #[.int .i64 (fsub a b), .int .i64 (f2E a b)]) ∧ Below w.heap.size w w' := by
  unfold fsub f2E
  cases ha : scalB a with
  | false => exact fsub_no a b (by rw [ha]; rfl) w
  | true =>
    cases hb : scalB b with
    | false => exact fsub_no a b (by rw [ha, hb]; rfl) w
    | true =>
      obtain ⟨n, rfl, h1⟩ := scalB_nat ha
      obtain ⟨m, rfl, h2⟩ := scalB_nat hb
      exact fsub_yes n m h1 h2 w

theorem fmul_any (a b : Int) (w : World) :
    Calls Tryd.prog 59 #[.int .i64 a, .int .i64 b] w fun e w' => e = .returned (.tuple #[.int .i64 (fmul a b), .int .i64 (f2E a b)]) ∧ Below w.heap.size w w' := by
  unfold fmul f2E
  cases ha : scalB a with
  | false => exact fmul_no a b (by rw [ha]; rfl) w
  | true =>
    cases hb : scalB b with
    | false => exact fmul_no a b (by rw [ha, hb]; rfl) w
    | true =>
      obtain ⟨n, rfl, h1⟩ := scalB_nat ha
      obtain ⟨m, rfl, h2⟩ := scalB_nat hb
      exact fmul_yes n m h1 h2 w

/-! ### Inv, Pow -/


end Go.Proofs.YtdcpejfnhegdaaaDoor
