/- chartroomref03.Of; the helpers add and mul of the field's laws; the field in plain numbers. -/
import Derived.Test.YtajcpbchpcnmaaaSane3
namespace Go.Proofs.Ytajcpbchpcnmaaa
open Go.RowKit Go.Shelf

/-- the scalar that a number determines -/
def ofQ (n : Int) : Nat := (n % 4611686018427387904).toNat % 2305843009213688669
theorem ofQ_lt (n : Int) : ofQ n < 2305843009213688669 := Nat.mod_lt _ (by decide)

theorem i64_and62 (n : Int) : bits .and .i64 n 4611686018427387903 = n % 4611686018427387904 := by
  have h1 : (BitVec.ofInt 64 4611686018427387903).toNat = 2 ^ 62 - 1 := by decide
  have key : (BitVec.ofInt 64 n &&& BitVec.ofInt 64 4611686018427387903).toNat = (n % ((2 ^ 64 : Nat) : Int)).toNat % 2 ^ 62 := by
    rw [BitVec.toNat_and, BitVec.toNat_ofInt, h1, Nat.and_two_pow_sub_one_eq_mod]
  show IntKind.i64.wrap ((BitVec.ofInt 64 n &&& BitVec.ofInt 64 4611686018427387903).toNat : Nat) = n % 4611686018427387904
  rw [key, IntKind.wrap_i64]
  omega

theorem of_any (n : Int) (w : World) :
    Calls Try.prog 43 #[.int .i64 n] w fun e w' => e = .returned (.int .i64 ((ofQ n : Nat) : Int)) ∧ w = w' := by
  have e1 := i64_and62 n
  obtain ⟨m, hm⟩ : ∃ m : Int, n % 4611686018427387904 = m := ⟨_, rfl⟩
  have h0 : 0 ≤ m := by omega
  have h1 : m ≤ 4611686018427387903 := by omega
  rw [hm] at e1
  have e2 : m % 2305843009213688669 = ((ofQ n : Nat) : Int) := by unfold ofQ; rw [hm]; omega
  have He : Hid (Ending.returned (.int .i64 (m % 2305843009213688669)) = Ending.returned (.int .i64 ((ofQ n : Nat) : Int))) := by
    show _ = _; rw [e2]
  clear e2 hm
  go_enter Try.func43, Try.ntmps43
  go_wp2_with fail
  go_ret
  exact ⟨He.out, rfl⟩

theorem hadd {a b : Nat} (ha : a < 2305843009213688669) (hb : b < 2305843009213688669) {c : Nat} (hc : addQ a b = c) (w : World) :
    Calls Try.prog 44 #[.int .i64 a, .int .i64 b] w fun e w' => e = .returned (.int .i64 (c : Int)) ∧ Below w.heap.size w w' := by
  have H := Lib.hid (fun w => fadd_yes a b ha hb w)
  rw [hc] at H
  clear ha hb hc
  go_enter Try.func44, Try.ntmps44
  go_wp2_with fail
  refine (H.out _).mono ?_
  rintro e v1 ⟨rfl, b1⟩
  go_wp2_with fail
  go_ret
  exact ⟨rfl, b1⟩
theorem hmul {a b : Nat} (ha : a < 2305843009213688669) (hb : b < 2305843009213688669) {c : Nat} (hc : mulQ a b = c) (w : World) :
    Calls Try.prog 45 #[.int .i64 a, .int .i64 b] w fun e w' => e = .returned (.int .i64 (c : Int)) ∧ Below w.heap.size w w' := by
  have H := Lib.hid (fun w => fmul_yes a b ha hb w)
  rw [hc] at H
  clear ha hb hc
  go_enter Try.func45, Try.ntmps45
  go_wp2_with fail
  refine (H.out _).mono ?_
  rintro e v1 ⟨rfl, b1⟩
  go_wp2_with fail
  go_ret
  exact ⟨rfl, b1⟩

/-! ### the field in plain numbers -/
theorem addQ_comm (a b : Nat) : addQ a b = addQ b a := by unfold addQ; rw [Nat.add_comm]
theorem addQ_assoc (a b c : Nat) : addQ (addQ a b) c = addQ a (addQ b c) := by
  unfold addQ; rw [Nat.mod_add_mod, Nat.add_mod_mod, Nat.add_assoc]
theorem mulQ_comm (a b : Nat) : mulQ a b = mulQ b a := by unfold mulQ; rw [Nat.mul_comm]
theorem mulQ_assoc (a b c : Nat) : mulQ (mulQ a b) c = mulQ a (mulQ b c) := by
  unfold mulQ; rw [Nat.mod_mul_mod, Nat.mul_mod_mod, Nat.mul_assoc]
theorem mulQ_addQ (a b c : Nat) : mulQ a (addQ b c) = addQ (mulQ a b) (mulQ a c) := by
  unfold mulQ addQ; rw [Nat.mul_mod_mod, Nat.mul_add, Nat.mod_add_mod, Nat.add_mod_mod]
theorem addQ_zero {a : Nat} (h : a < 2305843009213688669) : addQ a 0 = a := by unfold addQ; rw [Nat.add_zero, Nat.mod_eq_of_lt h]
theorem mulQ_one {a : Nat} (h : a < 2305843009213688669) : mulQ a 1 = a := by unfold mulQ; rw [Nat.mul_one, Nat.mod_eq_of_lt h]
theorem mulQ_zero (a : Nat) : mulQ a 0 = 0 := rfl
theorem sub_add {a b : Nat} (ha : a < 2305843009213688669) (hb : b < 2305843009213688669) : subQ (addQ a b) b = a := by
  unfold subQ addQ; split <;> omega
theorem neg_add {b : Nat} (hb : b < 2305843009213688669) : addQ b (subQ 0 b) = 0 := by
  unfold subQ addQ; split <;> omega
theorem zero_powQ {k : Nat} (h : 0 < k) : powQ 0 k = 0 := by unfold powQ; rw [Nat.zero_pow h]
theorem powQ_powQ (a j k : Nat) : powQ (powQ a j) k = powQ a (j * k) := by unfold powQ; rw [← Nat.pow_mod, Nat.pow_mul]

end Go.Proofs.Ytajcpbchpcnmaaa
