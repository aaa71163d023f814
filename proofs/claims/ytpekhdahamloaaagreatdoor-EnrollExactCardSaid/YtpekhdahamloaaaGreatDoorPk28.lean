/- The contract of package field's power. The contracts of package field: Check, Add, Sub, Mul, Inv, Pow. chartroomref03.Of. The contracts of chartroomref03: Scalar, sum, product, power, Check, Add, Sub, Mul, Inv, Pow, Of. -/
import Derived.Test.YtpekhdahamloaaaGreatDoorPk18
import Derived.Laws.EntriesVeiled
set_option linter.unusedVariables false
set_option linter.unusedSimpArgs false
namespace Go.Proofs.YtpekhdahamloaaaGreatDoor
open Go.RowKit Go.Shelf
attribute [local go_sem] Oper.semAt_some

/-- one call of the closure in a round: what is known of the world behind it -/
theorem times_round {n0 Bk Ba C Bt : Nat} {va vt : Value} {ta tt : TypeId} {v : Int} {W W1 W2 : World} {cv : Value}
    (hb1 : Below W.heap.size W W1) (e2 : W2 = W1.setCell ⟨C, 0, none⟩ (.int .i64 v))
    (ha : Boxed W Ba ta va) (ht : Boxed W Bt tt vt) (hc : Boxed W C 3 cv) (hCa : Ba ≠ C) (hCt : Bt ≠ C) (hCk : Bk ≠ C) (hk : Bk < W.heap.size) (hn : n0 ≤ C) (hn2 : n0 ≤ W.heap.size) :
    Boxed W2 Ba ta va ∧ Boxed W2 Bt tt vt ∧ Boxed W2 C 3 (.int .i64 v) ∧ KeepBox n0 Bk W W2 ∧ KeepsOthers W W2 := by
  subst e2
  have ha1 : Boxed W1 Ba ta va := (hb1.block _ ha.lt).trans ha
  have ht1 : Boxed W1 Bt tt vt := (hb1.block _ ht.lt).trans ht
  have hc1 : Boxed W1 C 3 cv := (hb1.block _ hc.lt).trans hc
  refine ⟨ha1.other hCa _, ht1.other hCt _, hc1.set _, ⟨(hb1.mono hn2).setCell (p := ⟨C, 0, none⟩) hn _, ?_⟩, (keepsOthers_of_below hb1).trans (KeepsOthers.setCell W1 ⟨C, 0, none⟩ _)⟩
  exact (Below.heap_setCell _ _ _ _ hCk).trans (hb1.block _ hk)


end Go.Proofs.YtpekhdahamloaaaGreatDoor

namespace Go.Proofs.YtpekhdahamloaaaGreatDoor
open Go.RowKit Go.Shelf

theorem outB_one (a : Int) : outB [a] = !scalB a := by simp [outB]
theorem outB_two (a b : Int) : outB [a, b] = (!scalB a || !scalB b) := by simp [outB]

theorem intsAt_one (w : World) (a : Int) : IntsAt (w.alloc (.cells #[.int .i64 a] 3)) (.slice (some ⟨w.heap.size, 0, none⟩) 1 1) [a] :=
  .inr ⟨w.heap.size, 0, 1, rfl, by simp, by simp, fun j hj => by
    have : j = 0 := by simp at hj; omega
    subst this; simp [World.cell?_alloc_new]⟩
theorem intsAt_two (w : World) (a b : Int) : IntsAt (w.alloc (.cells #[.int .i64 a, .int .i64 b] 3)) (.slice (some ⟨w.heap.size, 0, none⟩) 2 2) [a, b] :=
  .inr ⟨w.heap.size, 0, 2, rfl, by simp, by simp, fun j hj => by
    have : j = 0 ∨ j = 1 := by simp at hj; omega
    rcases this with rfl | rfl <;> simp [World.cell?_alloc_new]⟩

theorem out_one (w : World) (a : Int) {x : Bool} (h : (!scalB a) = x) :
    Calls Tryz.prog 139 #[.slice (some ⟨w.heap.size, 0, none⟩) 1 1] (w.alloc (.cells #[.int .i64 a] 3)) fun e w' => e = .returned (.bool x) ∧ w.alloc (.cells #[.int .i64 a] 3) = w' := by
  have := outside_any _ [a] _ (intsAt_one w a); rwa [outB_one, h] at this
theorem out_two (w : World) (a b : Int) {x : Bool} (h : (!scalB a || !scalB b) = x) :
    Calls Tryz.prog 139 #[.slice (some ⟨w.heap.size, 0, none⟩) 2 2] (w.alloc (.cells #[.int .i64 a, .int .i64 b] 3)) fun e w' => e = .returned (.bool x) ∧ w.alloc (.cells #[.int .i64 a, .int .i64 b] 3) = w' := by
  have := outside_any _ [a, b] _ (intsAt_two w a b); rwa [outB_two, h] at this

theorem below_new (w : World) (o : Obj) : Below w.heap.size w (w.alloc o) := (Below.refl _ w).alloc (Nat.le_refl _) o

/-- the answers -/
def fchk (a : Int) : Int := if scalB a then 0 else 1
def addQ (a b : Nat) : Nat := (a + b) % 2305843009213688669
def subQ (a b : Nat) : Nat := if a < b then a + 2305843009213688669 - b else a - b
theorem addQ_lt (a b : Nat) : addQ a b < 2305843009213688669 := Nat.mod_lt _ (by decide)
theorem subQ_lt {a b : Nat} (ha : a < 2305843009213688669) : subQ a b < 2305843009213688669 := by unfold subQ; split <;> omega
def fadd (a b : Int) : Int := if scalB a && scalB b then ((addQ a.toNat b.toNat : Nat) : Int) else 0
def fsub (a b : Int) : Int := if scalB a && scalB b then ((subQ a.toNat b.toNat : Nat) : Int) else 0
def fmul (a b : Int) : Int := if scalB a && scalB b then ((mulQ a.toNat b.toNat : Nat) : Int) else 0
def f2E (a b : Int) : Int := if scalB a && scalB b then 0 else 1
def finv (a : Int) : Int := if scalB a then (if a == 0 then 0 else ((powQ a.toNat 2305843009213688667 : Nat) : Int)) else 0
def finvE (a : Int) : Int := if scalB a then (if a == 0 then 30 else 0) else 1
def fpow (a n : Int) : Int := if scalB a && decide (0 ≤ n) then ((powQ a.toNat n.toNat : Nat) : Int) else 0
def fpowE (a n : Int) : Int := if scalB a && decide (0 ≤ n) then 0 else 1

theorem fcheck_any (a : Int) (w : World) :
    Calls Tryz.prog 146 #[.int .i64 a] w fun e w' => e = .returned (.int .i64 (fchk a)) ∧ Below w.heap.size w w' := by
  have hb := below_new w (.cells #[.int .i64 a] 3)
  cases h : scalB a with
  | true =>
    have e1 : fchk a = 0 := by unfold fchk; rw [h]; rfl
    have ho := out_one w a (x := false) (by rw [h]; rfl)
    rw [e1]
    have Ho := Lib.hid ho
    clear ho h e1
    go_enter Tryz.func146, Tryz.ntmps146
    go_wp2_with fail
    refine (Ho.out).mono ?_
    rintro e w' ⟨rfl, rfl⟩
    go_wp2_with fail
    go_ret
    exact ⟨rfl, hb⟩
  | false =>
    have e1 : fchk a = 1 := by unfold fchk; rw [h]; rfl
    have ho := out_one w a (x := true) (by rw [h]; rfl)
    rw [e1]
    have Ho := Lib.hid ho
    clear ho h e1
    go_enter Tryz.func146, Tryz.ntmps146
    go_wp2_with fail
    refine (Ho.out).mono ?_
    rintro e w' ⟨rfl, rfl⟩
    go_wp2_with fail
    go_ret
    exact ⟨rfl, hb⟩

/-! ### Add, Sub, Mul where one is no scalar -/
set_option maxHeartbeats 400000 in
theorem fadd_no (a b : Int) (h : (!scalB a || !scalB b) = true) (w : World) :
    Calls Tryz.prog 96 #[.int .i64 a, .int .i64 b] w fun e w' => e = .returned (.tuple #[.int .i64 0, .int .i64 1]) ∧ Below w.heap.size w w' := by
  have hb := below_new w (.cells #[.int .i64 a, .int .i64 b] 3)
  have Ho := Lib.hid (out_two w a b h)
  clear h
  go_enter Tryz.func96, Tryz.ntmps96
  go_wp2_with fail
  refine (Ho.out).mono ?_
  rintro e w' ⟨rfl, rfl⟩
  go_wp2_with fail
  go_ret2
  exact ⟨rfl, hb⟩


set_option maxHeartbeats 400000 in
theorem fmul_no (a b : Int) (h : (!scalB a || !scalB b) = true) (w : World) :
    Calls Tryz.prog 95 #[.int .i64 a, .int .i64 b] w fun e w' => e = .returned (.tuple #[.int .i64 0, .int .i64 1]) ∧ Below w.heap.size w w' := by
  have hb := below_new w (.cells #[.int .i64 a, .int .i64 b] 3)
  have Ho := Lib.hid (out_two w a b h)
  clear h
  go_enter Tryz.func95, Tryz.ntmps95
  go_wp2_with fail
  refine (Ho.out).mono ?_
  rintro e w' ⟨rfl, rfl⟩
  go_wp2_with fail
  go_ret2
  exact ⟨rfl, hb⟩

theorem scal2 {a b : Nat} (ha : a < 2305843009213688669) (hb : b < 2305843009213688669) : (!scalB a || !scalB b) = false := by rw [scalB_of ha, scalB_of hb]; rfl

set_option maxHeartbeats 400000 in
theorem fadd_yes (a b : Nat) (ha : a < 2305843009213688669) (hb : b < 2305843009213688669) (w : World) :
    Calls Tryz.prog 96 #[.int .i64 a, .int .i64 b] w fun e w' => e = .returned (.tuple #[.int .i64 ((addQ a b : Nat) : Int), .int .i64 0]) ∧ Below w.heap.size w w' := by
  have hB := below_new w (.cells #[.int .i64 a, .int .i64 b] 3)
  have Ho := Lib.hid (out_two w a b (scal2 ha hb))
  have re : ((a : Int) + (b : Int)) % 2305843009213688669 = ((addQ a b : Nat) : Int) := by unfold addQ; omega
  have g1 : (a : Int) + (b : Int) ≤ 9223372036854775807 := by omega
  have He : Hid (Ending.returned (.tuple #[.int .i64 (((a : Int) + (b : Int)) % 2305843009213688669), .int .i64 0]) = Ending.returned (.tuple #[.int .i64 ((addQ a b : Nat) : Int), .int .i64 0])) := by
    show _ = _; rw [re]
  clear ha hb re
  go_enter Tryz.func96, Tryz.ntmps96
  go_wp2_with fail
  refine (Ho.out).mono ?_
  rintro e w' ⟨rfl, rfl⟩
  go_wp2_with fail
  go_ret2
  exact ⟨He.out, hB⟩


set_option maxHeartbeats 400000 in
theorem fmul_yes (a b : Nat) (ha : a < 2305843009213688669) (hb : b < 2305843009213688669) (w : World) :
    Calls Tryz.prog 95 #[.int .i64 a, .int .i64 b] w fun e w' => e = .returned (.tuple #[.int .i64 ((mulQ a b : Nat) : Int), .int .i64 0]) ∧ Below w.heap.size w w' := by
  have hB := below_new w (.cells #[.int .i64 a, .int .i64 b] 3)
  have Ho := Lib.hid (out_two w a b (scal2 ha hb))
  have Hp := Lib.hid (fun w => productQ_any a b ha hb w)
  obtain ⟨s, hs⟩ : ∃ s, mulQ a b = s := ⟨_, rfl⟩
  rw [hs] at Hp ⊢
  clear ha hb hs
  go_enter Tryz.func95, Tryz.ntmps95
  go_wp2_with fail
  refine (Ho.out).mono ?_
  rintro e w' ⟨rfl, rfl⟩
  go_wp2_with fail
  refine (Hp.out _).mono ?_
  rintro e w1 ⟨rfl, b1⟩
  go_wp2_with fail
  go_ret2
  exact ⟨rfl, hB.trans (b1.mono hB.size)⟩

theorem fadd_any (a b : Int) (w : World) :
    Calls Tryz.prog 96 #[.int .i64 a, .int .i64 b] w fun e w' => e = .returned (.tuple #[.int .i64 (fadd a b), .int .i64 (f2E a b)]) ∧ Below w.heap.size w w' := by
  unfold fadd f2E
  cases ha : scalB a with
  | false => exact fadd_no a b (by rw [ha]; rfl) w
  | true =>
    cases hb : scalB b with
    | false => exact fadd_no a b (by rw [ha, hb]; rfl) w
    | true =>
      obtain ⟨n, rfl, h1⟩ := scalB_nat ha
      obtain ⟨m, rfl, h2⟩ := scalB_nat hb
      exact fadd_yes n m h1 h2 w


theorem fmul_any (a b : Int) (w : World) :
    Calls Tryz.prog 95 #[.int .i64 a, .int .i64 b] w fun e w' => e = .returned (.tuple #[.int .i64 (fmul a b), .int .i64 (f2E a b)]) ∧ Below w.heap.size w w' := by
  unfold fmul f2E
  cases ha : scalB a with
  | false => exact fmul_no a b (by rw [ha]; rfl) w
  | true =>
    cases hb : scalB b with
    | false => exact fmul_no a b (by rw [ha, hb]; rfl) w
    | true =>
      obtain ⟨n, rfl, h1⟩ := scalB_nat ha
      obtain ⟨m, rfl, h2⟩ := scalB_nat hb
      exact fmul_yes n m h1 h2 w

/-! ### Inv, Pow -/


end Go.Proofs.YtpekhdahamloaaaGreatDoor

namespace Go.Proofs.YtpekhdahamloaaaGreatDoor
open Go.RowKit

/-- the scalar that a number determines -/
def ofQ (n : Int) : Nat := (n % 4611686018427387904).toNat % 2305843009213688669
theorem ofQ_lt (n : Int) : ofQ n < 2305843009213688669 := Nat.mod_lt _ (by decide)

theorem i64_and62 (n : Int) : bits .and .i64 n 4611686018427387903 = n % 4611686018427387904 := by
  have h1 : (BitVec.ofInt 64 4611686018427387903).toNat = 2 ^ 62 - 1 := by decide
  have key : (BitVec.ofInt 64 n &&& BitVec.ofInt 64 4611686018427387903).toNat = (n % ((2 ^ 64 : Nat) : Int)).toNat % 2 ^ 62 := by
    rw [BitVec.toNat_and, BitVec.toNat_ofInt, h1, Nat.and_two_pow_sub_one_eq_mod]
  show IntKind.i64.wrap ((BitVec.ofInt 64 n &&& BitVec.ofInt 64 4611686018427387903).toNat : Nat) = n % 4611686018427387904
  rw [key, IntKind.wrap_i64]
  omega

end Go.Proofs.YtpekhdahamloaaaGreatDoor

namespace Go.Proofs.YtpekhdahamloaaaGreatDoor
open Go.RowKit Go.Shelf

theorem rscalar3_any (k : Int) (w : World) :
    Calls Tryz.prog 159 #[.int .i64 k] w fun e w' => e = .returned (.bool (scalB k)) ∧ w = w' := by
  cases h : scalB k with
  | true =>
    obtain ⟨n, rfl, hn⟩ := scalB_nat h
    have g1 : decide ((0 : Int) ≤ (n : Int)) = true := by rw [decide_eq_true_iff]; omega
    have g2 : decide ((n : Int) < 2305843009213688669) = true := by rw [decide_eq_true_iff]; omega
    clear h hn
    go_enter Tryz.func159, Tryz.ntmps159
    go_wp2_with fail
    go_ret
    exact ⟨rfl, rfl⟩
  | false =>
    by_cases h0 : k < 0
    · have g1 : decide ((0 : Int) ≤ k) = false := by rw [decide_eq_false_iff_not]; omega
      clear h h0
      go_enter Tryz.func159, Tryz.ntmps159
      go_wp2_with fail
      go_ret
      exact ⟨rfl, rfl⟩
    · have g1 : decide ((0 : Int) ≤ k) = true := by rw [decide_eq_true_iff]; omega
      have g2 : decide (k < 2305843009213688669) = false := by
        rw [decide_eq_false_iff_not]; have := scalB_no h; omega
      clear h h0
      go_enter Tryz.func159, Tryz.ntmps159
      go_wp2_with fail
      go_ret
      exact ⟨rfl, rfl⟩

theorem rsum3_any (a b : Nat) (hab : a + b ≤ 9223372036854775807) (w : World) :
    Calls Tryz.prog 161 #[.int .i64 a, .int .i64 b] w fun e w' => e = .returned (.int .i64 ((addQ a b : Nat) : Int)) ∧ w = w' := by
  have g1 : (a : Int) + (b : Int) ≤ 9223372036854775807 := by omega
  have re : ((a : Int) + (b : Int)) % 2305843009213688669 = ((addQ a b : Nat) : Int) := by unfold addQ; omega
  have He : Hid (Ending.returned (.int .i64 (((a : Int) + (b : Int)) % 2305843009213688669)) = Ending.returned (.int .i64 ((addQ a b : Nat) : Int))) := by
    show _ = _; rw [re]
  clear hab re
  go_enter Tryz.func161, Tryz.ntmps161
  go_wp2_with fail
  go_ret
  exact ⟨He.out, rfl⟩

theorem addQ_is (a b : Nat) : addM a b 2305843009213688669 = addQ a b := rfl
theorem mulQ_is (a b : Nat) : mulM a b 2305843009213688669 = mulQ a b := rfl
theorem addQ_bound {a b : Nat} (ha : a < 2305843009213688669) (hb : b < 2305843009213688669) : a + b ≤ 9223372036854775807 := by omega

set_option maxHeartbeats 1000000 in
theorem rproduct3_any (a0 b0 : Nat) (ha : a0 < 2305843009213688669) (hb : b0 ≤ 9223372036854775807) (w : World) :
    Calls Tryz.prog 160 #[.int .i64 a0, .int .i64 b0] w fun e w' => e = .returned (.int .i64 ((mulQ a0 b0 : Nat) : Int)) ∧ w = w' := by
  have ha0 : Hid (a0 < 2305843009213688669) := ha
  clear ha
  go_enter Tryz.func160, Tryz.ntmps160
  go_wp2_with fail
  go_loop [0, 1, 5] (fun s0 s1 s7 => ∃ a b c : Nat, s0 = .int .i64 a ∧ s1 = .int .i64 b ∧ s7 = .int .i64 c ∧ Hid (a < 2305843009213688669) ∧ Hid (c < 2305843009213688669) ∧ b ≤ 9223372036854775807 ∧ Hid (PInv a0 b0 2305843009213688669 c a b)) (fun _ s1 _ => (RowKit.intOf s1).toNat)
  case atStart => exact ⟨a0, b0, 0, rfl, rfl, rfl, ha0, Nat.lt_of_lt_of_le (by decide) (Nat.le_refl _), hb, pinv_start _ _ _⟩
  case round =>
    obtain ⟨a, b, c, rfl, rfl, rfl, ha', hc', hb', hI⟩ := hrel
    rcases Nat.eq_zero_or_pos b with h0 | h0
    · subst h0
      have he := pinv_end hc'.out hI.out
      rw [mulQ_is] at he
      go_wp2
      go_ret
      exact ⟨rfl, rfl⟩
    · have g0 : decide ((0 : Int) < (b : Int)) = true := by rw [decide_eq_true_iff]; omega
      have ra : Hid (addQ a a < 2305843009213688669) := addQ_lt a a
      have rc : Hid (addQ c a < 2305843009213688669) := addQ_lt c a
      have hbi : (b : Int) ≤ 9223372036854775807 := by omega
      have hb2 : b / 2 < b := by omega
      by_cases ho : b % 2 = 1
      · have g1 : ((b : Int) % 2 == 1) = true := by rw [beq_iff_eq]; omega
        have hI' := pinv_odd hI.out ho
        rw [addQ_is, addQ_is] at hI'
        have HI' := Lib.hid hI'
        have rdiv : (b : Int) / 2 = ((b / 2 : Nat) : Int) := by omega
        obtain ⟨d, hd⟩ : ∃ d, b / 2 = d := ⟨_, rfl⟩
        rw [hd] at rdiv HI' hb2
        clear hI' ho hI hd
        go_wp2_with fail
        refine (rsum3_any c a (addQ_bound hc'.out ha'.out) _).mono ?_
        rintro e w' ⟨rfl, rfl⟩
        go_wp2_with fail
        refine (rsum3_any a a (addQ_bound ha'.out ha'.out) _).mono ?_
        rintro e w' ⟨rfl, rfl⟩
        go_wp2_with fail
        go_round
        case rel => exact ⟨addQ a a, d, addQ c a, rfl, rfl, rfl, ra, rc, by omega, HI'⟩
        case measure => simp [RowKit.intOf]; omega
      · have hz : b % 2 = 0 := by omega
        have g1 : ((b : Int) % 2 == 1) = false := by rw [beq_eq_false_iff_ne]; omega
        have hI' := pinv_even hI.out hz
        rw [addQ_is] at hI'
        have HI' := Lib.hid hI'
        have rdiv : (b : Int) / 2 = ((b / 2 : Nat) : Int) := by omega
        obtain ⟨d, hd⟩ : ∃ d, b / 2 = d := ⟨_, rfl⟩
        rw [hd] at rdiv HI' hb2
        clear hI' ho hz hI hd
        go_wp2_with fail
        refine (rsum3_any a a (addQ_bound ha'.out ha'.out) _).mono ?_
        rintro e w' ⟨rfl, rfl⟩
        go_wp2_with fail
        go_round
        case rel => exact ⟨addQ a a, d, c, rfl, rfl, rfl, ra, hc', by omega, HI'⟩
        case measure => simp [RowKit.intOf]; omega

/-- the loop of power: what its variables keep -/
def QInv (a0 k0 c a k : Nat) : Prop := c * a ^ k % 2305843009213688669 = a0 ^ k0 % 2305843009213688669
theorem qinv_start (a0 k0 : Nat) : QInv a0 k0 1 a0 k0 := by unfold QInv; rw [Nat.one_mul]
theorem qinv_end {a0 k0 c a : Nat} (hc : c < 2305843009213688669) (h : QInv a0 k0 c a 0) : c = powQ a0 k0 := by
  unfold QInv at h; rw [Nat.pow_zero, Nat.mul_one, Nat.mod_eq_of_lt hc] at h; exact h
theorem qinv_even {a0 k0 c a k : Nat} (h : QInv a0 k0 c a k) (hk : k % 2 = 0) : QInv a0 k0 c (mulQ a a) (k / 2) := by
  unfold QInv mulQ at *
  rw [← h, Nat.mul_mod, ← Nat.pow_mod, ← Nat.mul_mod, ← Nat.pow_two, ← Nat.pow_mul]
  congr 3; omega
theorem qinv_odd {a0 k0 c a k : Nat} (h : QInv a0 k0 c a k) (hk : k % 2 = 1) : QInv a0 k0 (mulQ c a) (mulQ a a) (k / 2) := by
  unfold QInv mulQ at *
  rw [← h, Nat.mod_mul_mod, Nat.mul_mod, ← Nat.pow_mod, ← Nat.mul_mod, ← Nat.pow_two, ← Nat.pow_mul, Nat.mul_assoc, ← Nat.pow_succ']
  congr 3; omega


/-! ### the exported functions -/

set_option maxHeartbeats 400000 in
theorem radd3_any (a b : Int) (w : World) :
    Calls Tryz.prog 134 #[.int .i64 a, .int .i64 b] w fun e w' => e = .returned (.tuple #[.int .i64 (fadd a b), .int .i64 (f2E a b)]) ∧ w = w' := by
  have sa := fun w => rscalar3_any a w
  have sb := fun w => rscalar3_any b w
  unfold fadd f2E
  cases ha : scalB a with
  | false =>
    rw [ha] at sa
    have SA := Lib.hid sa
    simp only [Bool.false_and, Bool.false_eq_true, if_false]
    clear sa sb ha
    go_enter Tryz.func134, Tryz.ntmps134
    go_wp2_with fail
    refine (SA.out _).mono ?_
    rintro e w' ⟨rfl, rfl⟩
    go_wp2_with fail
    go_ret2
    exact ⟨rfl, rfl⟩
  | true =>
    rw [ha] at sa
    have SA := Lib.hid sa
    cases hb : scalB b with
    | false =>
      rw [hb] at sb
      have SB := Lib.hid sb
      simp only [Bool.and_false, Bool.false_eq_true, if_false]
      clear sa sb ha hb
      go_enter Tryz.func134, Tryz.ntmps134
      go_wp2_with fail
      refine (SA.out _).mono ?_
      rintro e w' ⟨rfl, rfl⟩
      go_wp2_with fail
      refine (SB.out _).mono ?_
      rintro e w' ⟨rfl, rfl⟩
      go_wp2_with fail
      go_ret2
      exact ⟨rfl, rfl⟩
    | true =>
      rw [hb] at sb
      have SB := Lib.hid sb
      simp only [Bool.and_self, if_true]
      obtain ⟨n, rfl, hn⟩ := scalB_nat ha
      obtain ⟨m, rfl, hm⟩ := scalB_nat hb
      rw [Int.toNat_natCast, Int.toNat_natCast]
      have C := Lib.hid (fun w => rsum3_any n m (addQ_bound hn hm) w)
      obtain ⟨s, hs⟩ : ∃ s, addQ n m = s := ⟨_, rfl⟩
      rw [hs] at C ⊢
      clear sa sb ha hb hn hm hs
      go_enter Tryz.func134, Tryz.ntmps134
      go_wp2_with fail
      refine (SA.out _).mono ?_
      rintro e w' ⟨rfl, rfl⟩
      go_wp2_with fail
      refine (SB.out _).mono ?_
      rintro e w' ⟨rfl, rfl⟩
      go_wp2_with fail
      refine (C.out _).mono ?_
      rintro e w' ⟨rfl, rfl⟩
      go_wp2_with fail
      go_ret2
      exact ⟨rfl, rfl⟩

theorem subQ_is {a b : Nat} (ha : a < 2305843009213688669) (hb : b < 2305843009213688669) : addQ a (2305843009213688669 - b) = subQ a b := by
  unfold addQ subQ; split <;> omega


set_option maxHeartbeats 400000 in
theorem rmul3_any (a b : Int) (w : World) :
    Calls Tryz.prog 132 #[.int .i64 a, .int .i64 b] w fun e w' => e = .returned (.tuple #[.int .i64 (fmul a b), .int .i64 (f2E a b)]) ∧ w = w' := by
  have sa := fun w => rscalar3_any a w
  have sb := fun w => rscalar3_any b w
  unfold fmul f2E
  cases ha : scalB a with
  | false =>
    rw [ha] at sa
    have SA := Lib.hid sa
    simp only [Bool.false_and, Bool.false_eq_true, if_false]
    clear sa sb ha
    go_enter Tryz.func132, Tryz.ntmps132
    go_wp2_with fail
    refine (SA.out _).mono ?_
    rintro e w' ⟨rfl, rfl⟩
    go_wp2_with fail
    go_ret2
    exact ⟨rfl, rfl⟩
  | true =>
    rw [ha] at sa
    have SA := Lib.hid sa
    cases hb : scalB b with
    | false =>
      rw [hb] at sb
      have SB := Lib.hid sb
      simp only [Bool.and_false, Bool.false_eq_true, if_false]
      clear sa sb ha hb
      go_enter Tryz.func132, Tryz.ntmps132
      go_wp2_with fail
      refine (SA.out _).mono ?_
      rintro e w' ⟨rfl, rfl⟩
      go_wp2_with fail
      refine (SB.out _).mono ?_
      rintro e w' ⟨rfl, rfl⟩
      go_wp2_with fail
      go_ret2
      exact ⟨rfl, rfl⟩
    | true =>
      rw [hb] at sb
      have SB := Lib.hid sb
      simp only [Bool.and_self, if_true]
      obtain ⟨n, rfl, hn⟩ := scalB_nat ha
      obtain ⟨m, rfl, hm⟩ := scalB_nat hb
      rw [Int.toNat_natCast, Int.toNat_natCast]
      have C := Lib.hid (fun w => rproduct3_any n m hn (Nat.le_trans (Nat.le_of_lt hm) (by decide)) w)
      obtain ⟨s, hs⟩ : ∃ s, mulQ n m = s := ⟨_, rfl⟩
      rw [hs] at C ⊢
      clear sa sb ha hb hn hm hs
      go_enter Tryz.func132, Tryz.ntmps132
      go_wp2_with fail
      refine (SA.out _).mono ?_
      rintro e w' ⟨rfl, rfl⟩
      go_wp2_with fail
      refine (SB.out _).mono ?_
      rintro e w' ⟨rfl, rfl⟩
      go_wp2_with fail
      refine (C.out _).mono ?_
      rintro e w' ⟨rfl, rfl⟩
      go_wp2_with fail
      go_ret2
      exact ⟨rfl, rfl⟩



end Go.Proofs.YtpekhdahamloaaaGreatDoor
