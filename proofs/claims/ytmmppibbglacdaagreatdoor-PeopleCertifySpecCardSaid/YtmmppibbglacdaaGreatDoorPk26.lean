/- The contract of package field's power. The contracts of package field: Check, Add, Sub, Mul, Inv, Pow. chartroomref03.Of. The contracts of chartroomref03: Scalar, sum, product, power, Check, Add, Sub, Mul, Inv, Pow, Of. -/
import Derived.Test.YtmmppibbglacdaaGreatDoorPk23
import Derived.Laws.EntriesVeiled
set_option linter.unusedVariables false
set_option linter.unusedSimpArgs false
namespace Go.Proofs.YtmmppibbglacdaaGreatDoor
open Go.RowKit Go.Shelf
attribute [local go_sem] Oper.semAt_some

end Go.Proofs.YtmmppibbglacdaaGreatDoor

namespace Go.Proofs.YtmmppibbglacdaaGreatDoor
open Go.RowKit Go.Shelf

theorem outB_one (a : Int) : outB [a] = !scalB a := by simp [outB]
theorem outB_two (a b : Int) : outB [a, b] = (!scalB a || !scalB b) := by simp [outB]

theorem intsAt_one (w : World) (a : Int) : IntsAt (w.alloc (.cells #[.int .i64 a] 3)) (.slice (some ⟨w.heap.size, 0, none⟩) 1 1) [a] :=
  .inr ⟨w.heap.size, 0, 1, rfl, by simp, by simp, fun j hj => by
    have : j = 0 := by simp at hj; omega
    subst this; simp [World.cell?_alloc_new]⟩
theorem intsAt_two (w : World) (a b : Int) : IntsAt (w.alloc (.cells #[.int .i64 a, .int .i64 b] 3)) (.slice (some ⟨w.heap.size, 0, none⟩) 2 2) [a, b] :=
  .inr ⟨w.heap.size, 0, 2, rfl, by simp, by simp, fun j hj => by
    have : j = 0 ∨ j = 1 := by simp at hj; omega
    rcases this with rfl | rfl <;> simp [World.cell?_alloc_new]⟩

theorem out_one (w : World) (a : Int) {x : Bool} (h : (!scalB a) = x) :
    Calls Tryz.prog 85 #[.slice (some ⟨w.heap.size, 0, none⟩) 1 1] (w.alloc (.cells #[.int .i64 a] 3)) fun e w' => e = .returned (.bool x) ∧ w.alloc (.cells #[.int .i64 a] 3) = w' := by
  have := outside_any _ [a] _ (intsAt_one w a); rwa [outB_one, h] at this
theorem out_two (w : World) (a b : Int) {x : Bool} (h : (!scalB a || !scalB b) = x) :
    Calls Tryz.prog 85 #[.slice (some ⟨w.heap.size, 0, none⟩) 2 2] (w.alloc (.cells #[.int .i64 a, .int .i64 b] 3)) fun e w' => e = .returned (.bool x) ∧ w.alloc (.cells #[.int .i64 a, .int .i64 b] 3) = w' := by
  have := outside_any _ [a, b] _ (intsAt_two w a b); rwa [outB_two, h] at this

theorem below_new (w : World) (o : Obj) : Below w.heap.size w (w.alloc o) := (Below.refl _ w).alloc (Nat.le_refl _) o

/-- the answers -/
def fchk (a : Int) : Int := if scalB a then 0 else 1
def addQ (a b : Nat) : Nat := (a + b) % 2305843009213688669
theorem addQ_lt (a b : Nat) : addQ a b < 2305843009213688669 := Nat.mod_lt _ (by decide)
def fadd (a b : Int) : Int := if scalB a && scalB b then ((addQ a.toNat b.toNat : Nat) : Int) else 0
def fmul (a b : Int) : Int := if scalB a && scalB b then ((mulQ a.toNat b.toNat : Nat) : Int) else 0
def f2E (a b : Int) : Int := if scalB a && scalB b then 0 else 1
theorem fcheck_any (a : Int) (w : World) :
    Calls Tryz.prog 100 #[.int .i64 a] w fun e w' => e = .returned (.int .i64 (fchk a)) ∧ Below w.heap.size w w' := by
  have hb := below_new w (.cells #[.int .i64 a] 3)
  cases h : scalB a with
  | true =>
    have e1 : fchk a = 0 := by unfold fchk; rw [h]; rfl
    have ho := out_one w a (x := false) (by rw [h]; rfl)
    rw [e1]
    have Ho := Lib.hid ho
    clear ho h e1
    go_enter Tryz.func100, Tryz.ntmps100
    go_wp2_with fail
    refine (Ho.out).mono ?_
    rintro e w' ⟨rfl, rfl⟩
    go_wp2_with fail
    go_ret
    exact ⟨rfl, hb⟩
  | false =>
    have e1 : fchk a = 1 := by unfold fchk; rw [h]; rfl
    have ho := out_one w a (x := true) (by rw [h]; rfl)
    rw [e1]
    have Ho := Lib.hid ho
    clear ho h e1
    go_enter Tryz.func100, Tryz.ntmps100
    go_wp2_with fail
    refine (Ho.out).mono ?_
    rintro e w' ⟨rfl, rfl⟩
    go_wp2_with fail
    go_ret
    exact ⟨rfl, hb⟩

/-! ### Add, Sub, Mul where one is no scalar -/
theorem scal2 {a b : Nat} (ha : a < 2305843009213688669) (hb : b < 2305843009213688669) : (!scalB a || !scalB b) = false := by rw [scalB_of ha, scalB_of hb]; rfl

set_option maxHeartbeats 400000 in
theorem fadd_yes (a b : Nat) (ha : a < 2305843009213688669) (hb : b < 2305843009213688669) (w : World) :
    Calls Tryz.prog 55 #[.int .i64 a, .int .i64 b] w fun e w' => e = .returned (.tuple #[.int .i64 ((addQ a b : Nat) : Int), .int .i64 0]) ∧ Below w.heap.size w w' := by
  have hB := below_new w (.cells #[.int .i64 a, .int .i64 b] 3)
  have Ho := Lib.hid (out_two w a b (scal2 ha hb))
  have re : ((a : Int) + (b : Int)) % 2305843009213688669 = ((addQ a b : Nat) : Int) := by unfold addQ; omega
  have g1 : (a : Int) + (b : Int) ≤ 9223372036854775807 := by omega
  have He : Hid (Ending.returned (.tuple #[.int .i64 (((a : Int) + (b : Int)) % 2305843009213688669), .int .i64 0]) = Ending.returned (.tuple #[.int .i64 ((addQ a b : Nat) : Int), .int .i64 0])) := by
    show _ = _; rw [re]
  clear ha hb re
  go_enter Tryz.func55, Tryz.ntmps55
  go_wp2_with fail
  refine (Ho.out).mono ?_
  rintro e w' ⟨rfl, rfl⟩
  go_wp2_with fail
  go_ret2
  exact ⟨He.out, hB⟩


set_option maxHeartbeats 400000 in
theorem fmul_yes (a b : Nat) (ha : a < 2305843009213688669) (hb : b < 2305843009213688669) (w : World) :
    Calls Tryz.prog 54 #[.int .i64 a, .int .i64 b] w fun e w' => e = .returned (.tuple #[.int .i64 ((mulQ a b : Nat) : Int), .int .i64 0]) ∧ Below w.heap.size w w' := by
  have hB := below_new w (.cells #[.int .i64 a, .int .i64 b] 3)
  have Ho := Lib.hid (out_two w a b (scal2 ha hb))
  have Hp := Lib.hid (fun w => productQ_any a b ha hb w)
  obtain ⟨s, hs⟩ : ∃ s, mulQ a b = s := ⟨_, rfl⟩
  rw [hs] at Hp ⊢
  clear ha hb hs
  go_enter Tryz.func54, Tryz.ntmps54
  go_wp2_with fail
  refine (Ho.out).mono ?_
  rintro e w' ⟨rfl, rfl⟩
  go_wp2_with fail
  refine (Hp.out _).mono ?_
  rintro e w1 ⟨rfl, b1⟩
  go_wp2_with fail
  go_ret2
  exact ⟨rfl, hB.trans (b1.mono hB.size)⟩

/-! ### Inv, Pow -/


end Go.Proofs.YtmmppibbglacdaaGreatDoor

namespace Go.Proofs.YtmmppibbglacdaaGreatDoor
open Go.RowKit

/-- the scalar that a number determines -/
def ofQ (n : Int) : Nat := (n % 4611686018427387904).toNat % 2305843009213688669
theorem i64_and62 (n : Int) : bits .and .i64 n 4611686018427387903 = n % 4611686018427387904 := by
  have h1 : (BitVec.ofInt 64 4611686018427387903).toNat = 2 ^ 62 - 1 := by decide
  have key : (BitVec.ofInt 64 n &&& BitVec.ofInt 64 4611686018427387903).toNat = (n % ((2 ^ 64 : Nat) : Int)).toNat % 2 ^ 62 := by
    rw [BitVec.toNat_and, BitVec.toNat_ofInt, h1, Nat.and_two_pow_sub_one_eq_mod]
  show IntKind.i64.wrap ((BitVec.ofInt 64 n &&& BitVec.ofInt 64 4611686018427387903).toNat : Nat) = n % 4611686018427387904
  rw [key, IntKind.wrap_i64]
  omega

theorem of_any (n : Int) (w : World) :
    Calls Tryz.prog 26 #[.int .i64 n] w fun e w' => e = .returned (.int .i64 ((ofQ n : Nat) : Int)) ∧ w = w' := by
  have e1 := i64_and62 n
  obtain ⟨m, hm⟩ : ∃ m : Int, n % 4611686018427387904 = m := ⟨_, rfl⟩
  have h0 : 0 ≤ m := by omega
  have h1 : m ≤ 4611686018427387903 := by omega
  rw [hm] at e1
  have e2 : m % 2305843009213688669 = ((ofQ n : Nat) : Int) := by unfold ofQ; rw [hm]; omega
  have He : Hid (Ending.returned (.int .i64 (m % 2305843009213688669)) = Ending.returned (.int .i64 ((ofQ n : Nat) : Int))) := by
    show _ = _; rw [e2]
  clear e2 hm
  go_enter Tryz.func26, Tryz.ntmps26
  go_wp2_with fail
  go_ret
  exact ⟨He.out, rfl⟩
end Go.Proofs.YtmmppibbglacdaaGreatDoor

namespace Go.Proofs.YtmmppibbglacdaaGreatDoor
open Go.RowKit Go.Shelf

theorem rscalar3_any (k : Int) (w : World) :
    Calls Tryz.prog 74 #[.int .i64 k] w fun e w' => e = .returned (.bool (scalB k)) ∧ w = w' := by
  cases h : scalB k with
  | true =>
    obtain ⟨n, rfl, hn⟩ := scalB_nat h
    have g1 : decide ((0 : Int) ≤ (n : Int)) = true := by rw [decide_eq_true_iff]; omega
    have g2 : decide ((n : Int) < 2305843009213688669) = true := by rw [decide_eq_true_iff]; omega
    clear h hn
    go_enter Tryz.func74, Tryz.ntmps74
    go_wp2_with fail
    go_ret
    exact ⟨rfl, rfl⟩
  | false =>
    by_cases h0 : k < 0
    · have g1 : decide ((0 : Int) ≤ k) = false := by rw [decide_eq_false_iff_not]; omega
      clear h h0
      go_enter Tryz.func74, Tryz.ntmps74
      go_wp2_with fail
      go_ret
      exact ⟨rfl, rfl⟩
    · have g1 : decide ((0 : Int) ≤ k) = true := by rw [decide_eq_true_iff]; omega
      have g2 : decide (k < 2305843009213688669) = false := by
        rw [decide_eq_false_iff_not]; have := scalB_no h; omega
      clear h h0
      go_enter Tryz.func74, Tryz.ntmps74
      go_wp2_with fail
      go_ret
      exact ⟨rfl, rfl⟩

theorem rsum3_any (a b : Nat) (hab : a + b ≤ 9223372036854775807) (w : World) :
    Calls Tryz.prog 94 #[.int .i64 a, .int .i64 b] w fun e w' => e = .returned (.int .i64 ((addQ a b : Nat) : Int)) ∧ w = w' := by
  have g1 : (a : Int) + (b : Int) ≤ 9223372036854775807 := by omega
  have re : ((a : Int) + (b : Int)) % 2305843009213688669 = ((addQ a b : Nat) : Int) := by unfold addQ; omega
  have He : Hid (Ending.returned (.int .i64 (((a : Int) + (b : Int)) % 2305843009213688669)) = Ending.returned (.int .i64 ((addQ a b : Nat) : Int))) := by
    show _ = _; rw [re]
  clear hab re
  go_enter Tryz.func94, Tryz.ntmps94
  go_wp2_with fail
  go_ret
  exact ⟨He.out, rfl⟩

theorem addQ_is (a b : Nat) : addM a b 2305843009213688669 = addQ a b := rfl
theorem mulQ_is (a b : Nat) : mulM a b 2305843009213688669 = mulQ a b := rfl
theorem addQ_bound {a b : Nat} (ha : a < 2305843009213688669) (hb : b < 2305843009213688669) : a + b ≤ 9223372036854775807 := by omega

set_option maxHeartbeats 1000000 in
theorem rproduct3_any (a0 b0 : Nat) (ha : a0 < 2305843009213688669) (hb : b0 ≤ 9223372036854775807) (w : World) :
    Calls Tryz.prog 93 #[.int .i64 a0, .int .i64 b0] w fun e w' => e = .returned (.int .i64 ((mulQ a0 b0 : Nat) : Int)) ∧ w = w' := by
  have ha0 : Hid (a0 < 2305843009213688669) := ha
  clear ha
  go_enter Tryz.func93, Tryz.ntmps93
  go_wp2_with fail
  go_loop [0, 1, 5] (fun s0 s1 s7 => ∃ a b c : Nat, s0 = .int .i64 a ∧ s1 = .int .i64 b ∧ s7 = .int .i64 c ∧ Hid (a < 2305843009213688669) ∧ Hid (c < 2305843009213688669) ∧ b ≤ 9223372036854775807 ∧ Hid (PInv a0 b0 2305843009213688669 c a b)) (fun _ s1 _ => (RowKit.intOf s1).toNat)
  case atStart => exact ⟨a0, b0, 0, rfl, rfl, rfl, ha0, Nat.lt_of_lt_of_le (by decide) (Nat.le_refl _), hb, pinv_start _ _ _⟩
  case round =>
    obtain ⟨a, b, c, rfl, rfl, rfl, ha', hc', hb', hI⟩ := hrel
    rcases Nat.eq_zero_or_pos b with h0 | h0
    · subst h0
      have he := pinv_end hc'.out hI.out
      rw [mulQ_is] at he
      go_wp2
      go_ret
      exact ⟨rfl, rfl⟩
    · have g0 : decide ((0 : Int) < (b : Int)) = true := by rw [decide_eq_true_iff]; omega
      have ra : Hid (addQ a a < 2305843009213688669) := addQ_lt a a
      have rc : Hid (addQ c a < 2305843009213688669) := addQ_lt c a
      have hbi : (b : Int) ≤ 9223372036854775807 := by omega
      have hb2 : b / 2 < b := by omega
      by_cases ho : b % 2 = 1
      · have g1 : ((b : Int) % 2 == 1) = true := by rw [beq_iff_eq]; omega
        have hI' := pinv_odd hI.out ho
        rw [addQ_is, addQ_is] at hI'
        have HI' := Lib.hid hI'
        have rdiv : (b : Int) / 2 = ((b / 2 : Nat) : Int) := by omega
        obtain ⟨d, hd⟩ : ∃ d, b / 2 = d := ⟨_, rfl⟩
        rw [hd] at rdiv HI' hb2
        clear hI' ho hI hd
        go_wp2_with fail
        refine (rsum3_any c a (addQ_bound hc'.out ha'.out) _).mono ?_
        rintro e w' ⟨rfl, rfl⟩
        go_wp2_with fail
        refine (rsum3_any a a (addQ_bound ha'.out ha'.out) _).mono ?_
        rintro e w' ⟨rfl, rfl⟩
        go_wp2_with fail
        go_round
        case rel => exact ⟨addQ a a, d, addQ c a, rfl, rfl, rfl, ra, rc, by omega, HI'⟩
        case measure => simp [RowKit.intOf]; omega
      · have hz : b % 2 = 0 := by omega
        have g1 : ((b : Int) % 2 == 1) = false := by rw [beq_eq_false_iff_ne]; omega
        have hI' := pinv_even hI.out hz
        rw [addQ_is] at hI'
        have HI' := Lib.hid hI'
        have rdiv : (b : Int) / 2 = ((b / 2 : Nat) : Int) := by omega
        obtain ⟨d, hd⟩ : ∃ d, b / 2 = d := ⟨_, rfl⟩
        rw [hd] at rdiv HI' hb2
        clear hI' ho hz hI hd
        go_wp2_with fail
        refine (rsum3_any a a (addQ_bound ha'.out ha'.out) _).mono ?_
        rintro e w' ⟨rfl, rfl⟩
        go_wp2_with fail
        go_round
        case rel => exact ⟨addQ a a, d, c, rfl, rfl, rfl, ra, hc', by omega, HI'⟩
        case measure => simp [RowKit.intOf]; omega

/-! ### the exported functions -/

set_option maxHeartbeats 400000 in
theorem radd3_any (a b : Int) (w : World) :
    Calls Tryz.prog 64 #[.int .i64 a, .int .i64 b] w fun e w' => e = .returned (.tuple #[.int .i64 (fadd a b), .int .i64 (f2E a b)]) ∧ w = w' := by
  have sa := fun w => rscalar3_any a w
  have sb := fun w => rscalar3_any b w
  unfold fadd f2E
  cases ha : scalB a with
  | false =>
    rw [ha] at sa
    have SA := Lib.hid sa
    simp only [Bool.false_and, Bool.false_eq_true, if_false]
    clear sa sb ha
    go_enter Tryz.func64, Tryz.ntmps64
    go_wp2_with fail
    refine (SA.out _).mono ?_
    rintro e w' ⟨rfl, rfl⟩
    go_wp2_with fail
    go_ret2
    exact ⟨rfl, rfl⟩
  | true =>
    rw [ha] at sa
    have SA := Lib.hid sa
    cases hb : scalB b with
    | false =>
      rw [hb] at sb
      have SB := Lib.hid sb
      simp only [Bool.and_false, Bool.false_eq_true, if_false]
      clear sa sb ha hb
      go_enter Tryz.func64, Tryz.ntmps64
      go_wp2_with fail
      refine (SA.out _).mono ?_
      rintro e w' ⟨rfl, rfl⟩
      go_wp2_with fail
      refine (SB.out _).mono ?_
      rintro e w' ⟨rfl, rfl⟩
      go_wp2_with fail
      go_ret2
      exact ⟨rfl, rfl⟩
    | true =>
      rw [hb] at sb
      have SB := Lib.hid sb
      simp only [Bool.and_self, if_true]
      obtain ⟨n, rfl, hn⟩ := scalB_nat ha
      obtain ⟨m, rfl, hm⟩ := scalB_nat hb
      rw [Int.toNat_natCast, Int.toNat_natCast]
      have C := Lib.hid (fun w => rsum3_any n m (addQ_bound hn hm) w)
      obtain ⟨s, hs⟩ : ∃ s, addQ n m = s := ⟨_, rfl⟩
      rw [hs] at C ⊢
      clear sa sb ha hb hn hm hs
      go_enter Tryz.func64, Tryz.ntmps64
      go_wp2_with fail
      refine (SA.out _).mono ?_
      rintro e w' ⟨rfl, rfl⟩
      go_wp2_with fail
      refine (SB.out _).mono ?_
      rintro e w' ⟨rfl, rfl⟩
      go_wp2_with fail
      refine (C.out _).mono ?_
      rintro e w' ⟨rfl, rfl⟩
      go_wp2_with fail
      go_ret2
      exact ⟨rfl, rfl⟩

set_option maxHeartbeats 400000 in
theorem rmul3_any (a b : Int) (w : World) :
    Calls Tryz.prog 62 #[.int .i64 a, .int .i64 b] w fun e w' => e = .returned (.tuple #[.int .i64 (fmul a b), .int .i64 (f2E a b)]) ∧ w = w' := by
  have sa := fun w => rscalar3_any a w
  have sb := fun w => rscalar3_any b w
  unfold fmul f2E
  cases ha : scalB a with
  | false =>
    rw [ha] at sa
    have SA := Lib.hid sa
    simp only [Bool.false_and, Bool.false_eq_true, if_false]
    clear sa sb ha
    go_enter Tryz.func62, Tryz.ntmps62
    go_wp2_with fail
    refine (SA.out _).mono ?_
    rintro e w' ⟨rfl, rfl⟩
    go_wp2_with fail
    go_ret2
    exact ⟨rfl, rfl⟩
  | true =>
    rw [ha] at sa
    have SA := Lib.hid sa
    cases hb : scalB b with
    | false =>
      rw [hb] at sb
      have SB := Lib.hid sb
      simp only [Bool.and_false, Bool.false_eq_true, if_false]
      clear sa sb ha hb
      go_enter Tryz.func62, Tryz.ntmps62
      go_wp2_with fail
      refine (SA.out _).mono ?_
      rintro e w' ⟨rfl, rfl⟩
      go_wp2_with fail
      refine (SB.out _).mono ?_
      rintro e w' ⟨rfl, rfl⟩
      go_wp2_with fail
      go_ret2
      exact ⟨rfl, rfl⟩
    | true =>
      rw [hb] at sb
      have SB := Lib.hid sb
      simp only [Bool.and_self, if_true]
      obtain ⟨n, rfl, hn⟩ := scalB_nat ha
      obtain ⟨m, rfl, hm⟩ := scalB_nat hb
      rw [Int.toNat_natCast, Int.toNat_natCast]
      have C := Lib.hid (fun w => rproduct3_any n m hn (Nat.le_trans (Nat.le_of_lt hm) (by decide)) w)
      obtain ⟨s, hs⟩ : ∃ s, mulQ n m = s := ⟨_, rfl⟩
      rw [hs] at C ⊢
      clear sa sb ha hb hn hm hs
      go_enter Tryz.func62, Tryz.ntmps62
      go_wp2_with fail
      refine (SA.out _).mono ?_
      rintro e w' ⟨rfl, rfl⟩
      go_wp2_with fail
      refine (SB.out _).mono ?_
      rintro e w' ⟨rfl, rfl⟩
      go_wp2_with fail
      refine (C.out _).mono ?_
      rintro e w' ⟨rfl, rfl⟩
      go_wp2_with fail
      go_ret2
      exact ⟨rfl, rfl⟩



end Go.Proofs.YtmmppibbglacdaaGreatDoor
