/- chartroomref03.Of. -/
import Derived.Test.YtajcpbchpcnmaaaFldApi
set_option linter.unusedVariables false
set_option linter.unusedSimpArgs false
namespace Go.Proofs.Ytajcpbchpcnmaaa
open Go.RowKit

/-- the scalar that a number determines -/
def ofQ (n : Int) : Nat := (n % 4611686018427387904).toNat % 2305843009213688669
theorem ofQ_lt (n : Int) : ofQ n < 2305843009213688669 := Nat.mod_lt _ (by decide)

theorem i64_and62 (n : Int) : bits .and .i64 n 4611686018427387903 = n % 4611686018427387904 := by
  have h1 : (BitVec.ofInt 64 4611686018427387903).toNat = 2 ^ 62 - 1 := by decide
  have key : (BitVec.ofInt 64 n &&& BitVec.ofInt 64 4611686018427387903).toNat = (n % ((2 ^ 64 : Nat) : Int)).toNat % 2 ^ 62 := by
    rw [BitVec.toNat_and, BitVec.toNat_ofInt, h1, Nat.and_two_pow_sub_one_eq_mod]
  show IntKind.i64.wrap ((BitVec.ofInt 64 n &&& BitVec.ofInt 64 4611686018427387903).toNat : Nat) = n % 4611686018427387904
  rw [key, IntKind.wrap_i64]
  omega

theorem of_any (n : Int) (w : World) :
    Calls Try.prog 43 #[.int .i64 n] w fun e w' => e = .returned (.int .i64 ((ofQ n : Nat) : Int)) ∧ w = w' := by
  have e1 := i64_and62 n
  obtain ⟨m, hm⟩ : ∃ m : Int, n % 4611686018427387904 = m := ⟨_, rfl⟩
  have h0 : 0 ≤ m := by omega
  have h1 : m ≤ 4611686018427387903 := by omega
  rw [hm] at e1
  have e2 : m % 2305843009213688669 = ((ofQ n : Nat) : Int) := by unfold ofQ; rw [hm]; omega
  have He : Hid (Ending.returned (.int .i64 (m % 2305843009213688669)) = Ending.returned (.int .i64 ((ofQ n : Nat) : Int))) := by
    show _ = _; rw [e2]
  clear e2 hm
  go_enter Try.func43, Try.ntmps43
  go_wp2_with fail
  go_ret
  exact ⟨He.out, rfl⟩
end Go.Proofs.Ytajcpbchpcnmaaa
