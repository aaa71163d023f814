/- chartroomref03.Of; the helpers add and mul of the field's laws; the field in plain numbers. -/
import Derived.Test.YtajcpbchpcnmaaaSane3
import Derived.Test.YtajcpbchpcnmaaaOf
set_option linter.unusedVariables false
set_option linter.unusedSimpArgs false
namespace Go.Proofs.Ytajcpbchpcnmaaa
open Go.RowKit Go.Shelf

theorem hadd {a b : Nat} (ha : a < 2305843009213688669) (hb : b < 2305843009213688669) {c : Nat} (hc : addQ a b = c) (w : World) :
    Calls Try.prog 44 #[.int .i64 a, .int .i64 b] w fun e w' => e = .returned (.int .i64 (c : Int)) ∧ Below w.heap.size w w' := by
  have H := Lib.hid (fun w => fadd_yes a b ha hb w)
  rw [hc] at H
  clear ha hb hc
  go_enter Try.func44, Try.ntmps44
  go_wp2_with fail
  refine (H.out _).mono ?_
  rintro e v1 ⟨rfl, b1⟩
  go_wp2_with fail
  go_ret
  exact ⟨rfl, b1⟩
theorem hmul {a b : Nat} (ha : a < 2305843009213688669) (hb : b < 2305843009213688669) {c : Nat} (hc : mulQ a b = c) (w : World) :
    Calls Try.prog 45 #[.int .i64 a, .int .i64 b] w fun e w' => e = .returned (.int .i64 (c : Int)) ∧ Below w.heap.size w w' := by
  have H := Lib.hid (fun w => fmul_yes a b ha hb w)
  rw [hc] at H
  clear ha hb hc
  go_enter Try.func45, Try.ntmps45
  go_wp2_with fail
  refine (H.out _).mono ?_
  rintro e v1 ⟨rfl, b1⟩
  go_wp2_with fail
  go_ret
  exact ⟨rfl, b1⟩

/-! ### the field in plain numbers -/
theorem addQ_comm (a b : Nat) : addQ a b = addQ b a := by unfold addQ; rw [Nat.add_comm]
theorem addQ_assoc (a b c : Nat) : addQ (addQ a b) c = addQ a (addQ b c) := by
  unfold addQ; rw [Nat.mod_add_mod, Nat.add_mod_mod, Nat.add_assoc]
theorem mulQ_comm (a b : Nat) : mulQ a b = mulQ b a := by unfold mulQ; rw [Nat.mul_comm]
theorem mulQ_assoc (a b c : Nat) : mulQ (mulQ a b) c = mulQ a (mulQ b c) := by
  unfold mulQ; rw [Nat.mod_mul_mod, Nat.mul_mod_mod, Nat.mul_assoc]
theorem mulQ_addQ (a b c : Nat) : mulQ a (addQ b c) = addQ (mulQ a b) (mulQ a c) := by
  unfold mulQ addQ; rw [Nat.mul_mod_mod, Nat.mul_add, Nat.mod_add_mod, Nat.add_mod_mod]
theorem addQ_zero {a : Nat} (h : a < 2305843009213688669) : addQ a 0 = a := by unfold addQ; rw [Nat.add_zero, Nat.mod_eq_of_lt h]
theorem mulQ_one {a : Nat} (h : a < 2305843009213688669) : mulQ a 1 = a := by unfold mulQ; rw [Nat.mul_one, Nat.mod_eq_of_lt h]
theorem mulQ_zero (a : Nat) : mulQ a 0 = 0 := rfl
theorem sub_add {a b : Nat} (ha : a < 2305843009213688669) (hb : b < 2305843009213688669) : subQ (addQ a b) b = a := by
  unfold subQ addQ; split <;> omega
theorem neg_add {b : Nat} (hb : b < 2305843009213688669) : addQ b (subQ 0 b) = 0 := by
  unfold subQ addQ; split <;> omega
theorem zero_powQ {k : Nat} (h : 0 < k) : powQ 0 k = 0 := by unfold powQ; rw [Nat.zero_pow h]
theorem powQ_powQ (a j k : Nat) : powQ (powQ a j) k = powQ a (j * k) := by unfold powQ; rw [← Nat.pow_mod, Nat.pow_mul]

end Go.Proofs.Ytajcpbchpcnmaaa
