/- The contracts of package field's inner functions: outside, product, power. The contracts of package field's binary and power. -/
import Derived.Test.YtbjbgneejdjniaaDoorPk17
set_option linter.unusedVariables false
set_option linter.unusedSimpArgs false
namespace Go.Proofs.YtbjbgneejdjniaaDoor
open Go.RowKit Go.Shelf

/-- one of some numbers is no scalar -/
def outB (zs : List Int) : Bool := zs.any fun z => !scalB z

theorem out1_any (a : Int) (w : World) :
    Calls Tryd.prog 89 #[.int .i64 a] w fun e w' => e = .returned (.bool (!scalB a)) ∧ w = w' := by
  cases h : scalB a with
  | true =>
    obtain ⟨n, rfl, hn⟩ := scalB_nat h
    have g1 : decide ((n : Int) < 0) = false := by rw [decide_eq_false_iff_not]; omega
    have g2 : decide ((2305843009213688669 : Int) ≤ (n : Int)) = false := by rw [decide_eq_false_iff_not]; omega
    clear h hn
    go_enter Tryd.func89, Tryd.ntmps89
    go_wp2_with fail
    go_ret
    exact ⟨rfl, rfl⟩
  | false =>
    by_cases h0 : a < 0
    · have g1 : decide (a < 0) = true := by rw [decide_eq_true_iff]; omega
      clear h h0
      go_enter Tryd.func89, Tryd.ntmps89
      go_wp2_with fail
      go_ret
      exact ⟨rfl, rfl⟩
    · have g1 : decide (a < 0) = false := by rw [decide_eq_false_iff_not]; omega
      have g2 : decide ((2305843009213688669 : Int) ≤ a) = true := by
        rw [decide_eq_true_iff]; have := scalB_no h; omega
      clear h h0
      go_enter Tryd.func89, Tryd.ntmps89
      go_wp2_with fail
      go_ret
      exact ⟨rfl, rfl⟩

theorem outB_false {zs : List Int} (h : ∀ j, j < zs.length → scalB (zs[j]?.getD 0) = true) : outB zs = false := by
  unfold outB
  rw [List.any_eq_false]
  intro x hx
  obtain ⟨j, hj, rfl⟩ := List.mem_iff_getElem.1 hx
  have := h j hj
  rw [List.getElem?_eq_getElem hj, Option.getD_some] at this
  rw [this]; decide
theorem outB_true {zs : List Int} {j : Nat} (hj : j < zs.length) (h : scalB (zs[j]?.getD 0) = false) : outB zs = true := by
  unfold outB
  rw [List.any_eq_true]
  refine ⟨zs[j], List.getElem_mem hj, ?_⟩
  rw [List.getElem?_eq_getElem hj, Option.getD_some] at h
  rw [h]; rfl

/-- what IndexFunc answers: some number, not negative just where one is outside -/
def IdxPost (zs : List Int) (w : World) (e : Ending) (w' : World) : Prop := (∃ r : Int, e = .returned (.int .i64 r) ∧ decide (0 ≤ r) = outB zs) ∧ w = w'

set_option maxHeartbeats 400000 in
theorem indexFunc_any (b off cap : Nat) (zs : List Int) (hlen : (zs.length : Int) ≤ 9223372036854775807) (w : World) (hc : ∀ j, j < zs.length → w.cell? ⟨b, off + j, none⟩ = some (.int .i64 (zs[j]?.getD 0))) :
    Calls Tryd.prog 96 #[.slice (some ⟨b, off, none⟩) zs.length cap, .func (.func 89) #[] #[]] w (IdxPost zs w) := by
  have HC := Lib.hid hc
  clear hc
  have hout : ∀ (j : Nat), j < zs.length → scalB (zs[j]?.getD 0) = false → decide ((0 : Int) ≤ (j : Int)) = outB zs := fun j hj h => by
    rw [outB_true hj h, decide_eq_true_iff]; omega
  have hin : (∀ j, j < zs.length → scalB (zs[j]?.getD 0) = true) → decide ((0 : Int) ≤ -1) = outB zs := fun h => by
    rw [outB_false h]; rfl
  have Hout := Lib.hid hout
  have Hin := Lib.hid hin
  clear hout hin
  go_enter Tryd.func96, Tryd.ntmps96
  go_wp2_with fail
  go_loop [8] (fun s8 => ∃ k : Nat, k ≤ zs.length ∧ s8 = .int .i64 k ∧ Hid (∀ j, j < k → scalB (zs[j]?.getD 0) = true)) (fun s8 => zs.length - (RowKit.intOf s8).toNat)
  case atStart => exact ⟨0, Nat.zero_le _, rfl, fun j hj => by omega⟩
  case round =>
    obtain ⟨k, hk, rfl, hI⟩ := hrel
    by_cases hlt : k < zs.length
    · have hcell := HC.out k hlt
      have g0 : decide ((k : Int) < (zs.length : Int)) = true := by rw [decide_eq_true_iff]; omega
      obtain ⟨z, hz⟩ : ∃ z, zs[k]?.getD 0 = z := ⟨_, rfl⟩
      rw [hz] at hcell
      have co := fun w => out1_any z w
      cases hs : scalB z with
      | true =>
        rw [hs] at co
        have Co := Lib.hid co
        have hI2 : Hid (∀ j, j < k + 1 → scalB (zs[j]?.getD 0) = true) := fun j hj => by
          by_cases hjk : j = k
          · rw [hjk, hz]; exact hs
          · exact hI.out j (by omega)
        clear hs hz co
        go_wp2_with fail
        refine (Co.out _).mono ?_
        rintro e w' ⟨rfl, rfl⟩
        go_wp2_with fail
        go_round
        case rel => exact ⟨k + 1, by omega, by go_num, hI2⟩
        case measure => simp [RowKit.intOf]; omega
      | false =>
        rw [hs] at co
        have Co := Lib.hid co
        have hfin := Hout.out k hlt (by rw [hz]; exact hs)
        have Hfin := Lib.hid hfin
        clear hs hz co hfin
        go_wp2_with fail
        refine (Co.out _).mono ?_
        rintro e w' ⟨rfl, rfl⟩
        go_wp2_with fail
        go_ret
        exact ⟨⟨_, rfl, Hfin.out⟩, rfl⟩
    · have g0 : decide (k < zs.length) = false := decide_eq_false hlt
      have hfin := Hin.out (fun j hj => hI.out j (by omega))
      have Hfin := Lib.hid hfin
      clear hfin hlt
      go_wp2_with fail
      go_ret
      exact ⟨⟨_, rfl, Hfin.out⟩, rfl⟩

theorem indexFunc_nil (a : Option Addr) (c : Nat) (w : World) :
    Calls Tryd.prog 96 #[.slice a 0 c, .func (.func 89) #[] #[]] w (IdxPost [] w) := by
  go_enter Tryd.func96, Tryd.ntmps96
  go_wp2_with fail
  refine wp_loop_rounds 1 ?_
  rw [rounds_succ]
  go_wp2_with fail
  go_ret
  exact ⟨⟨_, rfl, rfl⟩, rfl⟩

/-- a slice value that holds these ints; one of length 0 holds none -/
def IntsAt (w : World) (sv : Value) (zs : List Int) : Prop :=
  ((∃ (a : Option Addr) (c : Nat), sv = .slice a 0 c) ∧ zs = []) ∨ ∃ b off cap : Nat, sv = .slice (some ⟨b, off, none⟩) zs.length cap ∧ (zs.length : Int) ≤ 9223372036854775807 ∧ b < w.heap.size ∧ ∀ j, j < zs.length → w.cell? ⟨b, off + j, none⟩ = some (.int .i64 (zs[j]?.getD 0))
theorem IntsAt.below {w w' : World} {sv : Value} {zs : List Int} (h : IntsAt w sv zs) (hb : Below w.heap.size w w') : IntsAt w' sv zs := by
  rcases h with h | ⟨b, off, cap, h1, h2, h3, h4⟩
  · exact .inl h
  · exact .inr ⟨b, off, cap, h1, h2, Nat.lt_of_lt_of_le h3 hb.size, fun j hj => (hb.cell (p := ⟨b, off + j, none⟩) h3).trans (h4 j hj)⟩

theorem outside_any (sv : Value) (zs : List Int) (w : World) (h : IntsAt w sv zs) :
    Calls Tryd.prog 67 #[sv] w fun e w' => e = .returned (.bool (outB zs)) ∧ w = w' := by
  have hi : Calls Tryd.prog 96 #[sv, .func (.func 89) #[] #[]] w (IdxPost zs w) := by
    rcases h with ⟨⟨a, c, rfl⟩, rfl⟩ | ⟨b, off, cap, rfl, h2, h3, h4⟩
    · exact indexFunc_nil a c w
    · exact indexFunc_any b off cap zs h2 w h4
  have hcf : Calls Tryd.prog 88 #[sv, .func (.func 89) #[] #[]] w fun e w' => e = .returned (.bool (outB zs)) ∧ w = w' := by
    have Hi := Lib.hid hi
    clear hi h
    obtain ⟨bo, hbo⟩ : ∃ bo, outB zs = bo := ⟨_, rfl⟩
    rw [hbo]
    have Hbo := Lib.hid hbo
    clear hbo
    go_enter Tryd.func88, Tryd.ntmps88
    go_wp2_with fail
    refine (Hi.out).mono ?_
    rintro e w' ⟨⟨r, rfl, hr⟩, rfl⟩
    rw [Hbo.out] at hr
    go_wp2_with fail
    go_ret
    exact ⟨rfl, rfl⟩
  have Hcf := Lib.hid hcf
  clear hcf hi h
  go_enter Tryd.func67, Tryd.ntmps67
  go_wp2_with fail
  refine (Hcf.out).mono ?_
  rintro e w' ⟨rfl, rfl⟩
  go_wp2_with fail
  go_ret
  exact ⟨rfl, rfl⟩


/-! ### product -/
theorem mulq_hi_lt {a b : Nat} (ha : a < 2305843009213688669) (hb : b < 2305843009213688669) : a * b / 18446744073709551616 < 1152921504606844330 := by
  have h : a * b ≤ 2305843009213688668 * 2305843009213688668 := Nat.mul_le_mul (by omega) (by omega)
  omega

set_option maxHeartbeats 400000 in
/-- field.product: the product modulo Q. -/
theorem productQ_any (a b : Nat) (ha : a < 2305843009213688669) (hb : b < 2305843009213688669) (w : World) :
    Calls Tryd.prog 93 #[.int .i64 a, .int .i64 b] w fun e w' => e = .returned (.int .i64 ((mulQ a b : Nat) : Int)) ∧ Below w.heap.size w w' := by
  have h1 := mul64_any a b (by omega) (by omega) w
  have h2 := mulq_hi_lt ha hb
  have h3 := Nat.div_add_mod' (a * b) 18446744073709551616
  have h4 := Nat.mod_lt (a * b) (show 0 < 18446744073709551616 by decide)
  have hm := mulQ_lt a b
  obtain ⟨hi, e1⟩ : ∃ x, a * b / 18446744073709551616 = x := ⟨_, rfl⟩
  obtain ⟨lo, e2⟩ : ∃ x, a * b % 18446744073709551616 = x := ⟨_, rfl⟩
  rw [e1, e2] at h1 h3
  rw [e1] at h2
  rw [e2] at h4
  have h5 := div64_any hi lo 2305843009213688669 (by omega) (by omega) h4 w
  rw [h3] at h5
  have e3 : a * b % 2305843009213688669 = mulQ a b := rfl
  obtain ⟨q, e4⟩ : ∃ x, a * b / 2305843009213688669 = x := ⟨_, rfl⟩
  rw [e3, e4] at h5
  have H1 := Lib.hid h1
  have H5 := Lib.hid h5
  have g1 : (a : Int) ≤ 9223372036854775807 := by omega
  have g2 : (b : Int) ≤ 9223372036854775807 := by omega
  have g3 : ((mulQ a b : Nat) : Int) ≤ 9223372036854775807 := by omega
  clear h1 h5 h3 e1 e2 e3 e4 ha hb hm h2 h4
  go_enter Tryd.func93, Tryd.ntmps93
  go_wp2_with fail
  refine (H1.out).mono ?_
  rintro e w' ⟨rfl, rfl⟩
  go_wp2_with fail
  refine (H5.out).mono ?_
  rintro e w' ⟨rfl, hb'⟩
  go_wp2_with fail
  go_ret
  exact ⟨rfl, hb'⟩

end Go.Proofs.YtbjbgneejdjniaaDoor

namespace Go.Proofs.YtbjbgneejdjniaaDoor
open Go.RowKit Go.Shelf


theorem i64_and1 (n : Int) : bits .and .i64 n 1 = n % 2 := by
  have h1 : (BitVec.ofInt 64 1).toNat = 2 ^ 1 - 1 := by decide
  have key : (BitVec.ofInt 64 n &&& BitVec.ofInt 64 1).toNat = (n % ((2 ^ 64 : Nat) : Int)).toNat % 2 ^ 1 := by
    rw [BitVec.toNat_and, BitVec.toNat_ofInt, h1, Nat.and_two_pow_sub_one_eq_mod]
  show IntKind.i64.wrap ((BitVec.ofInt 64 n &&& BitVec.ofInt 64 1).toNat : Nat) = n % 2
  rw [key, IntKind.wrap_i64]
  omega

attribute [local go_sem] Oper.semAt_some







/-- what the closure times leaves: the box written, beside new blocks -/
def TimesPost (C : Nat) (v : Int) (W : World) (e : Ending) (w' : World) : Prop := e = .returned (.tuple #[]) ∧ ∃ W1, Below W.heap.size W W1 ∧ w' = W1.setCell ⟨C, 0, none⟩ (.int .i64 v)


end Go.Proofs.YtbjbgneejdjniaaDoor
