/- The contract of package field's power. The contracts of package field: Check, Add, Sub, Mul, Inv, Pow. chartroomref03.Of. The contracts of chartroomref03: Scalar, sum, product, power, Check, Add, Sub, Mul, Inv, Pow, Of. -/
import Derived.Test.YtmmppibbglacdaaDoorPk23
import Derived.Laws.EntriesVeiled
set_option linter.unusedVariables false
set_option linter.unusedSimpArgs false
namespace Go.Proofs.YtmmppibbglacdaaDoor
open Go.RowKit Go.Shelf
attribute [local go_sem] Oper.semAt_some

/-- one call of the closure in a round: what is known of the world behind it -/
theorem times_round {n0 Bk Ba C Bt : Nat} {va vt : Value} {ta tt : TypeId} {v : Int} {W W1 W2 : World} {cv : Value}
    (hb1 : Below W.heap.size W W1) (e2 : W2 = W1.setCell ⟨C, 0, none⟩ (.int .i64 v))
    (ha : Boxed W Ba ta va) (ht : Boxed W Bt tt vt) (hc : Boxed W C 3 cv) (hCa : Ba ≠ C) (hCt : Bt ≠ C) (hCk : Bk ≠ C) (hk : Bk < W.heap.size) (hn : n0 ≤ C) (hn2 : n0 ≤ W.heap.size) :
    Boxed W2 Ba ta va ∧ Boxed W2 Bt tt vt ∧ Boxed W2 C 3 (.int .i64 v) ∧ KeepBox n0 Bk W W2 ∧ KeepsOthers W W2 := by
  subst e2
  have ha1 : Boxed W1 Ba ta va := (hb1.block _ ha.lt).trans ha
  have ht1 : Boxed W1 Bt tt vt := (hb1.block _ ht.lt).trans ht
  have hc1 : Boxed W1 C 3 cv := (hb1.block _ hc.lt).trans hc
  refine ⟨ha1.other hCa _, ht1.other hCt _, hc1.set _, ⟨(hb1.mono hn2).setCell (p := ⟨C, 0, none⟩) hn _, ?_⟩, (keepsOthers_of_below hb1).trans (KeepsOthers.setCell W1 ⟨C, 0, none⟩ _)⟩
  exact (Below.heap_setCell _ _ _ _ hCk).trans (hb1.block _ hk)


end Go.Proofs.YtmmppibbglacdaaDoor

namespace Go.Proofs.YtmmppibbglacdaaDoor
open Go.RowKit Go.Shelf

theorem outB_one (a : Int) : outB [a] = !scalB a := by simp [outB]
theorem outB_two (a b : Int) : outB [a, b] = (!scalB a || !scalB b) := by simp [outB]

theorem intsAt_one (w : World) (a : Int) : IntsAt (w.alloc (.cells #[.int .i64 a] 3)) (.slice (some ⟨w.heap.size, 0, none⟩) 1 1) [a] :=
  .inr ⟨w.heap.size, 0, 1, rfl, by simp, by simp, fun j hj => by
    have : j = 0 := by simp at hj; omega
    subst this; simp [World.cell?_alloc_new]⟩
theorem intsAt_two (w : World) (a b : Int) : IntsAt (w.alloc (.cells #[.int .i64 a, .int .i64 b] 3)) (.slice (some ⟨w.heap.size, 0, none⟩) 2 2) [a, b] :=
  .inr ⟨w.heap.size, 0, 2, rfl, by simp, by simp, fun j hj => by
    have : j = 0 ∨ j = 1 := by simp at hj; omega
    rcases this with rfl | rfl <;> simp [World.cell?_alloc_new]⟩

theorem out_one (w : World) (a : Int) {x : Bool} (h : (!scalB a) = x) :
    Calls Tryd.prog 51 #[.slice (some ⟨w.heap.size, 0, none⟩) 1 1] (w.alloc (.cells #[.int .i64 a] 3)) fun e w' => e = .returned (.bool x) ∧ w.alloc (.cells #[.int .i64 a] 3) = w' := by
  have := outside_any _ [a] _ (intsAt_one w a); rwa [outB_one, h] at this
theorem out_two (w : World) (a b : Int) {x : Bool} (h : (!scalB a || !scalB b) = x) :
    Calls Tryd.prog 51 #[.slice (some ⟨w.heap.size, 0, none⟩) 2 2] (w.alloc (.cells #[.int .i64 a, .int .i64 b] 3)) fun e w' => e = .returned (.bool x) ∧ w.alloc (.cells #[.int .i64 a, .int .i64 b] 3) = w' := by
  have := outside_any _ [a, b] _ (intsAt_two w a b); rwa [outB_two, h] at this

theorem below_new (w : World) (o : Obj) : Below w.heap.size w (w.alloc o) := (Below.refl _ w).alloc (Nat.le_refl _) o

/-- the answers -/
def fchk (a : Int) : Int := if scalB a then 0 else 1
def addQ (a b : Nat) : Nat := (a + b) % 2305843009213688669
def subQ (a b : Nat) : Nat := if a < b then a + 2305843009213688669 - b else a - b
theorem addQ_lt (a b : Nat) : addQ a b < 2305843009213688669 := Nat.mod_lt _ (by decide)
theorem subQ_lt {a b : Nat} (ha : a < 2305843009213688669) : subQ a b < 2305843009213688669 := by unfold subQ; split <;> omega
def fadd (a b : Int) : Int := if scalB a && scalB b then ((addQ a.toNat b.toNat : Nat) : Int) else 0
def fsub (a b : Int) : Int := if scalB a && scalB b then ((subQ a.toNat b.toNat : Nat) : Int) else 0
def fmul (a b : Int) : Int := if scalB a && scalB b then ((mulQ a.toNat b.toNat : Nat) : Int) else 0
def f2E (a b : Int) : Int := if scalB a && scalB b then 0 else 1
def finv (a : Int) : Int := if scalB a then (if a == 0 then 0 else ((powQ a.toNat 2305843009213688667 : Nat) : Int)) else 0
def finvE (a : Int) : Int := if scalB a then (if a == 0 then 30 else 0) else 1
def fpow (a n : Int) : Int := if scalB a && decide (0 ≤ n) then ((powQ a.toNat n.toNat : Nat) : Int) else 0
def fpowE (a n : Int) : Int := if scalB a && decide (0 ≤ n) then 0 else 1

theorem fcheck_any (a : Int) (w : World) :
    Calls Tryd.prog 30 #[.int .i64 a] w fun e w' => e = .returned (.int .i64 (fchk a)) ∧ Below w.heap.size w w' := by
  have hb := below_new w (.cells #[.int .i64 a] 3)
  cases h : scalB a with
  | true =>
    have e1 : fchk a = 0 := by unfold fchk; rw [h]; rfl
    have ho := out_one w a (x := false) (by rw [h]; rfl)
    rw [e1]
    have Ho := Lib.hid ho
    clear ho h e1
    go_enter Tryd.func30, Tryd.ntmps30
    go_wp2_with fail
    refine (Ho.out).mono ?_
    rintro e w' ⟨rfl, rfl⟩
    go_wp2_with fail
    go_ret
    exact ⟨rfl, hb⟩
  | false =>
    have e1 : fchk a = 1 := by unfold fchk; rw [h]; rfl
    have ho := out_one w a (x := true) (by rw [h]; rfl)
    rw [e1]
    have Ho := Lib.hid ho
    clear ho h e1
    go_enter Tryd.func30, Tryd.ntmps30
    go_wp2_with fail
    refine (Ho.out).mono ?_
    rintro e w' ⟨rfl, rfl⟩
    go_wp2_with fail
    go_ret
    exact ⟨rfl, hb⟩

/-! ### Add, Sub, Mul where one is no scalar -/
set_option maxHeartbeats 400000 in
theorem fadd_no (a b : Int) (h : (!scalB a || !scalB b) = true) (w : World) :
    Calls Tryd.prog 62 #[.int .i64 a, .int .i64 b] w fun e w' => e = .returned (.tuple #[.int .i64 0, .int .i64 1]) ∧ Below w.heap.size w w' := by
  have hb := below_new w (.cells #[.int .i64 a, .int .i64 b] 3)
  have Ho := Lib.hid (out_two w a b h)
  clear h
  go_enter Tryd.func62, Tryd.ntmps62
  go_wp2_with fail
  refine (Ho.out).mono ?_
  rintro e w' ⟨rfl, rfl⟩
  go_wp2_with fail
  go_ret2
  exact ⟨rfl, hb⟩


set_option maxHeartbeats 400000 in
theorem fmul_no (a b : Int) (h : (!scalB a || !scalB b) = true) (w : World) :
    Calls Tryd.prog 61 #[.int .i64 a, .int .i64 b] w fun e w' => e = .returned (.tuple #[.int .i64 0, .int .i64 1]) ∧ Below w.heap.size w w' := by
  have hb := below_new w (.cells #[.int .i64 a, .int .i64 b] 3)
  have Ho := Lib.hid (out_two w a b h)
  clear h
  go_enter Tryd.func61, Tryd.ntmps61
  go_wp2_with fail
  refine (Ho.out).mono ?_
  rintro e w' ⟨rfl, rfl⟩
  go_wp2_with fail
  go_ret2
  exact ⟨rfl, hb⟩

theorem scal2 {a b : Nat} (ha : a < 2305843009213688669) (hb : b < 2305843009213688669) : (!scalB a || !scalB b) = false := by rw [scalB_of ha, scalB_of hb]; rfl

set_option maxHeartbeats 400000 in
theorem fadd_yes (a b : Nat) (ha : a < 2305843009213688669) (hb : b < 2305843009213688669) (w : World) :
    Calls Tryd.prog 62 #[.int .i64 a, .int .i64 b] w fun e w' => e = .returned (.tuple #[.int .i64 ((addQ a b : Nat) : Int), .int .i64 0]) ∧ Below w.heap.size w w' := by
  have hB := below_new w (.cells #[.int .i64 a, .int .i64 b] 3)
  have Ho := Lib.hid (out_two w a b (scal2 ha hb))
  have re : ((a : Int) + (b : Int)) % 2305843009213688669 = ((addQ a b : Nat) : Int) := by unfold addQ; omega
  have g1 : (a : Int) + (b : Int) ≤ 9223372036854775807 := by omega
  have He : Hid (Ending.returned (.tuple #[.int .i64 (((a : Int) + (b : Int)) % 2305843009213688669), .int .i64 0]) = Ending.returned (.tuple #[.int .i64 ((addQ a b : Nat) : Int), .int .i64 0])) := by
    show _ = _; rw [re]
  clear ha hb re
  go_enter Tryd.func62, Tryd.ntmps62
  go_wp2_with fail
  refine (Ho.out).mono ?_
  rintro e w' ⟨rfl, rfl⟩
  go_wp2_with fail
  go_ret2
  exact ⟨He.out, hB⟩


set_option maxHeartbeats 400000 in
theorem fmul_yes (a b : Nat) (ha : a < 2305843009213688669) (hb : b < 2305843009213688669) (w : World) :
    Calls Tryd.prog 61 #[.int .i64 a, .int .i64 b] w fun e w' => e = .returned (.tuple #[.int .i64 ((mulQ a b : Nat) : Int), .int .i64 0]) ∧ Below w.heap.size w w' := by
  have hB := below_new w (.cells #[.int .i64 a, .int .i64 b] 3)
  have Ho := Lib.hid (out_two w a b (scal2 ha hb))
  have Hp := Lib.hid (fun w => productQ_any a b ha hb w)
  obtain ⟨s, hs⟩ : ∃ s, mulQ a b = s := ⟨_, rfl⟩
  rw [hs] at Hp ⊢
  clear ha hb hs
  go_enter Tryd.func61, Tryd.ntmps61
  go_wp2_with fail
  refine (Ho.out).mono ?_
  rintro e w' ⟨rfl, rfl⟩
  go_wp2_with fail
  refine (Hp.out _).mono ?_
  rintro e w1 ⟨rfl, b1⟩
  go_wp2_with fail
  go_ret2
  exact ⟨rfl, hB.trans (b1.mono hB.size)⟩

theorem fadd_any (a b : Int) (w : World) :
    Calls Tryd.prog 62 #[.int .i64 a, .int .i64 b] w fun e w' => e = .returned (.tuple #[.int .i64 (fadd a b), .int .i64 (f2E a b)]) ∧ Below w.heap.size w w' := by
  unfold fadd f2E
  cases ha : scalB a with
  | false => exact fadd_no a b (by rw [ha]; rfl) w
  | true =>
    cases hb : scalB b with
    | false => exact fadd_no a b (by rw [ha, hb]; rfl) w
    | true =>
      obtain ⟨n, rfl, h1⟩ := scalB_nat ha
      obtain ⟨m, rfl, h2⟩ := scalB_nat hb
      exact fadd_yes n m h1 h2 w


theorem fmul_any (a b : Int) (w : World) :
    Calls Tryd.prog 61 #[.int .i64 a, .int .i64 b] w fun e w' => e = .returned (.tuple #[.int .i64 (fmul a b), .int .i64 (f2E a b)]) ∧ Below w.heap.size w w' := by
  unfold fmul f2E
  cases ha : scalB a with
  | false => exact fmul_no a b (by rw [ha]; rfl) w
  | true =>
    cases hb : scalB b with
    | false => exact fmul_no a b (by rw [ha, hb]; rfl) w
    | true =>
      obtain ⟨n, rfl, h1⟩ := scalB_nat ha
      obtain ⟨m, rfl, h2⟩ := scalB_nat hb
      exact fmul_yes n m h1 h2 w

/-! ### Inv, Pow -/


end Go.Proofs.YtmmppibbglacdaaDoor

namespace Go.Proofs.YtmmppibbglacdaaDoor
open Go.RowKit

/-- the scalar that a number determines -/
def ofQ (n : Int) : Nat := (n % 4611686018427387904).toNat % 2305843009213688669
theorem ofQ_lt (n : Int) : ofQ n < 2305843009213688669 := Nat.mod_lt _ (by decide)

theorem i64_and62 (n : Int) : bits .and .i64 n 4611686018427387903 = n % 4611686018427387904 := by
  have h1 : (BitVec.ofInt 64 4611686018427387903).toNat = 2 ^ 62 - 1 := by decide
  have key : (BitVec.ofInt 64 n &&& BitVec.ofInt 64 4611686018427387903).toNat = (n % ((2 ^ 64 : Nat) : Int)).toNat % 2 ^ 62 := by
    rw [BitVec.toNat_and, BitVec.toNat_ofInt, h1, Nat.and_two_pow_sub_one_eq_mod]
  show IntKind.i64.wrap ((BitVec.ofInt 64 n &&& BitVec.ofInt 64 4611686018427387903).toNat : Nat) = n % 4611686018427387904
  rw [key, IntKind.wrap_i64]
  omega

theorem of_any (n : Int) (w : World) :
    Calls Tryd.prog 40 #[.int .i64 n] w fun e w' => e = .returned (.int .i64 ((ofQ n : Nat) : Int)) ∧ w = w' := by
  have e1 := i64_and62 n
  obtain ⟨m, hm⟩ : ∃ m : Int, n % 4611686018427387904 = m := ⟨_, rfl⟩
  have h0 : 0 ≤ m := by omega
  have h1 : m ≤ 4611686018427387903 := by omega
  rw [hm] at e1
  have e2 : m % 2305843009213688669 = ((ofQ n : Nat) : Int) := by unfold ofQ; rw [hm]; omega
  have He : Hid (Ending.returned (.int .i64 (m % 2305843009213688669)) = Ending.returned (.int .i64 ((ofQ n : Nat) : Int))) := by
    show _ = _; rw [e2]
  clear e2 hm
  go_enter Tryd.func40, Tryd.ntmps40
  go_wp2_with fail
  go_ret
  exact ⟨He.out, rfl⟩
end Go.Proofs.YtmmppibbglacdaaDoor

namespace Go.Proofs.YtmmppibbglacdaaDoor
open Go.RowKit Go.Shelf



theorem addQ_is (a b : Nat) : addM a b 2305843009213688669 = addQ a b := rfl
theorem mulQ_is (a b : Nat) : mulM a b 2305843009213688669 = mulQ a b := rfl
theorem addQ_bound {a b : Nat} (ha : a < 2305843009213688669) (hb : b < 2305843009213688669) : a + b ≤ 9223372036854775807 := by omega


/-- the loop of power: what its variables keep -/
def QInv (a0 k0 c a k : Nat) : Prop := c * a ^ k % 2305843009213688669 = a0 ^ k0 % 2305843009213688669
theorem qinv_start (a0 k0 : Nat) : QInv a0 k0 1 a0 k0 := by unfold QInv; rw [Nat.one_mul]
theorem qinv_end {a0 k0 c a : Nat} (hc : c < 2305843009213688669) (h : QInv a0 k0 c a 0) : c = powQ a0 k0 := by
  unfold QInv at h; rw [Nat.pow_zero, Nat.mul_one, Nat.mod_eq_of_lt hc] at h; exact h
theorem qinv_even {a0 k0 c a k : Nat} (h : QInv a0 k0 c a k) (hk : k % 2 = 0) : QInv a0 k0 c (mulQ a a) (k / 2) := by
  unfold QInv mulQ at *
  rw [← h, Nat.mul_mod, ← Nat.pow_mod, ← Nat.mul_mod, ← Nat.pow_two, ← Nat.pow_mul]
  congr 3; omega
theorem qinv_odd {a0 k0 c a k : Nat} (h : QInv a0 k0 c a k) (hk : k % 2 = 1) : QInv a0 k0 (mulQ c a) (mulQ a a) (k / 2) := by
  unfold QInv mulQ at *
  rw [← h, Nat.mod_mul_mod, Nat.mul_mod, ← Nat.pow_mod, ← Nat.mul_mod, ← Nat.pow_two, ← Nat.pow_mul, Nat.mul_assoc, ← Nat.pow_succ']
  congr 3; omega


/-! ### the exported functions -/


theorem subQ_is {a b : Nat} (ha : a < 2305843009213688669) (hb : b < 2305843009213688669) : addQ a (2305843009213688669 - b) = subQ a b := by
  unfold addQ subQ; split <;> omega





end Go.Proofs.YtmmppibbglacdaaDoor
