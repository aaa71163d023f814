/- The laws of package pake: side. -/
import Derived.Test.YtdcpejfnhegdaaaDoorPakeR3
set_option linter.unusedVariables false
set_option linter.unusedSimpArgs false
namespace Go.Proofs.YtdcpejfnhegdaaaDoor
open Go.RowKit
def roleN (z : Int) : Nat := 1 + (z % 2).toNat
def codeN (z : Int) : Nat := (z % 18446744073709551616).toNat % 1000000
def secN (z : Int) : Nat := 1 + (z % 18446744073709551616).toNat % 2305843009213688668
theorem roleN_or (z : Int) : roleN z = 1 ∨ roleN z = 2 := by unfold roleN; omega
theorem codeN_lt (z : Int) : codeN z < 1000000 := Nat.mod_lt _ (by decide)
theorem secN_bd (z : Int) : 1 ≤ secN z ∧ secN z < 2305843009213688669 := by unfold secN; omega
theorem i64_and1 (n : Int) : bits .and .i64 n 1 = n % 2 := by
  have h1 : (BitVec.ofInt 64 1).toNat = 2 ^ 1 - 1 := by decide
  have key : (BitVec.ofInt 64 n &&& BitVec.ofInt 64 1).toNat = (n % ((2 ^ 64 : Nat) : Int)).toNat % 2 ^ 1 := by
    rw [BitVec.toNat_and, BitVec.toNat_ofInt, h1, Nat.and_two_pow_sub_one_eq_mod]
  show IntKind.i64.wrap ((BitVec.ofInt 64 n &&& BitVec.ofInt 64 1).toNat : Nat) = n % 2
  rw [key, IntKind.wrap_i64]
  omega
set_option maxRecDepth 100000 in
set_option maxHeartbeats 2000000 in
theorem side_any (z c x : Int) (w : World) :
    Calls Tryd.prog 30 #[.int .i64 z, .int .i64 c, .int .i64 x] w fun e w' => e = .returned (.agg #[.int .i64 ((roleN z : Nat) : Int), .int .i64 ((codeN c : Nat) : Int), .int .i64 ((secN x : Nat) : Int)]) ∧ Below w.heap.size w w' := by
  have e1 := i64_and1 z
  have e2 : IntKind.u64.wrap c = (((c % 18446744073709551616).toNat : Nat) : Int) := by rw [IntKind.wrap_u64]; omega
  have e3 : IntKind.u64.wrap x = (((x % 18446744073709551616).toNat : Nat) : Int) := by rw [IntKind.wrap_u64]; omega
  have g1 : ((roleN z : Nat) : Int) = 1 + z % 2 := by unfold roleN; omega
  have g2 : (((c % 18446744073709551616).toNat : Nat) : Int).tmod 1000000 = ((codeN c : Nat) : Int) := by
    rw [Int.tmod_eq_emod_of_nonneg (Int.natCast_nonneg _)]; rfl
  have g3 : (((x % 18446744073709551616).toNat : Nat) : Int).tmod 2305843009213688668 = ((secN x : Nat) : Int) - 1 := by
    rw [Int.tmod_eq_emod_of_nonneg (Int.natCast_nonneg _)]; unfold secN; omega
  have hc := codeN_lt c
  have hx := secN_bd x
  obtain ⟨zz, hzz⟩ : ∃ y, z % 2 = y := ⟨_, rfl⟩
  have z0 : 0 ≤ zz := by omega
  have z1 : zz ≤ 1 := by omega
  rw [hzz] at e1 g1
  rw [g1]
  obtain ⟨cu, hcu⟩ : ∃ y, (((c % 18446744073709551616).toNat : Nat) : Int) = y := ⟨_, rfl⟩
  obtain ⟨xu, hxu⟩ : ∃ y, (((x % 18446744073709551616).toNat : Nat) : Int) = y := ⟨_, rfl⟩
  rw [hcu] at e2 g2
  rw [hxu] at e3 g3
  obtain ⟨cn, hcn⟩ : ∃ y : Int, ((codeN c : Nat) : Int) = y := ⟨_, rfl⟩
  obtain ⟨xn, hxn⟩ : ∃ y : Int, ((secN x : Nat) : Int) = 1 + y := ⟨((secN x : Nat) : Int) - 1, by omega⟩
  rw [hcn] at g2 ⊢
  rw [hxn] at g3 ⊢
  have g3' : xu.tmod 2305843009213688668 = xn := by rw [g3]; omega
  have c0 : 0 ≤ cn := by omega
  have c1 : cn ≤ 1000000 := by omega
  have v1 : IntKind.i64.wrap xn = xn := IntWalk.i64_in _ (by omega)
  have v2 : IntKind.i64.wrap (1 + xn) = 1 + xn := IntWalk.i64_in _ (by omega)
  clear hzz hcu hxu hcn hxn g3 hc hx g1
  go_enter Tryd.func30, Tryd.ntmps30
  go_wp2_with fail
  refine bodyPost_ret (v := .agg #[.int .i64 (1 + zz), .int .i64 cn, .int .i64 (1 + xn)]) (by exact results_rowV (fn := Tryd.f30) (p := 6) (ty := 33) rfl _ _ w.heap.size 3 33 (sideF (1 + zz) cn (1 + xn)) _ rfl (RowV.new w _ 3 (sideF (1 + zz) cn (1 + xn))) Tryd.underlying33 rfl (by kernel_rfl)) rfl ⟨rfl, ?_⟩
  exact (Below.refl _ w).alloc (Nat.le_refl _) _

/-- both sides of an exchange come to one element -/
theorem bare_elem {c x y r : Nat} (hr : r = 1 ∨ r = 2) : elemS r c x (pointS (3 - r) c y) = powP 4 (y * x) := by
  have e1 : El (powP 4 y) := powP_pos El4 y
  have hM : El (maskedM ((3 - r : Nat) : Int) c) := maskedM_El _ c
  have h : mulP (pointS (3 - r) c y) (powP (maskedM ((3 - r : Nat) : Int) c) 2305843009213688668) = powP 4 y := by
    unfold pointS
    rw [mulP_assoc, El.inv hM, mulP_one e1.2.1]
  have e : elemS r c x (pointS (3 - r) c y) = powP (mulP (pointS (3 - r) c y) (powP (maskedM ((3 - r : Nat) : Int) c) 2305843009213688668)) x := rfl
  rw [e, h, powP_powP]
theorem pake_agree (c x y : Nat) : keyS 1 c x (pointS 2 c y) = keyS 2 c y (pointS 1 c x) := by
  have h1 : elemS 1 c x (pointS 2 c y) = powP 4 (y * x) := bare_elem (r := 1) (.inl rfl)
  have h2 : elemS 2 c y (pointS 1 c x) = powP 4 (x * y) := bare_elem (r := 2) (.inr rfl)
  rw [key_1, key_2, h1, h2, Nat.mul_comm]
theorem pow_is {a k v : Nat} (hk : k < 2 ^ 64) (h : Num.powMod 4611686018427377339 64 a k = v) : powP a k = v := by
  unfold powP; rw [← Num.powMod_eq _ 64 a k hk, h]
theorem two_no : elemB 2 = false := by
  cases h : elemB 2 with
  | false => rfl
  | true =>
    obtain ⟨n, hn, _, _, h3⟩ := elemB_nat h
    have hn2 : n = 2 := by omega
    have h4 : Num.powMod 4611686018427377339 64 2 2305843009213688669 = 4611686018427377338 := by decide +kernel
    have h5 : powP n 2305843009213688669 = 4611686018427377338 := pow_is (by decide) (by rw [hn2]; exact h4)
    omega
theorem zero_no : elemB 0 = false := rfl
theorem sharedL_yes {r c x p : Nat} (hr : r = 1 ∨ r = 2) (hc : c < 1000000) (h1 : 1 ≤ x) (h2 : x < 2305843009213688669) (hp : El p) : sharedL (r : Int) (c : Int) (x : Int) (p : Int) = keyS r c x p := by
  unfold sharedL; rw [sideB_of hr hc h1 h2, elemB_El hp]; rfl
theorem sharedE_yes {r c x p : Nat} (hr : r = 1 ∨ r = 2) (hc : c < 1000000) (h1 : 1 ≤ x) (h2 : x < 2305843009213688669) (hp : El p) : sharedE (r : Int) (c : Int) (x : Int) (p : Int) = 0 := by
  unfold sharedE; rw [sideB_of hr hc h1 h2, elemB_El hp]; rfl
theorem sharedE_nop {r c x p : Int} (h : elemB p = false) : sharedE r c x p = 100 := by unfold sharedE; rw [h, Bool.and_false]; rfl
theorem sharedL_nop {r c x p : Int} (h : elemB p = false) : sharedL r c x p = zero32 := by unfold sharedL; rw [h, Bool.and_false]; rfl
end Go.Proofs.YtdcpejfnhegdaaaDoor
