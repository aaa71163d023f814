/- chartroomlaw04.sane returns true: the chapter's examples. -/
import Derived.Test.YtcmabaolpaaonaaDoorRefGrp
set_option linter.unusedVariables false
set_option linter.unusedSimpArgs false
namespace Go.Proofs.YtcmabaolpaaonaaDoor
open Go.RowKit Go.Shelf

theorem powP_pm (a k : Nat) (hk : k < 18446744073709551616) : powP a k = Num.powMod 4611686018427377339 64 a k := (Num.powMod_eq 4611686018427377339 64 a k hk).symm

theorem el1 : elemB 1 = true := by
  show elemB ((1 : Nat) : Int) = true
  exact elemB_of (by decide) (by decide) (by rw [powP_pm 1 2305843009213688669 (by decide)]; decide +kernel)
theorem el4 : elemB 4 = true := by
  show elemB ((4 : Nat) : Int) = true
  exact elemB_of (by decide) (by decide) (by rw [powP_pm 4 2305843009213688669 (by decide)]; decide +kernel)
theorem el16 : elemB 16 = true := by
  show elemB ((16 : Nat) : Int) = true
  exact elemB_of (by decide) (by decide) (by rw [powP_pm 16 2305843009213688669 (by decide)]; decide +kernel)
theorem el_no (a : Int) (h : ¬ (1 ≤ a ∧ a < 4611686018427377339)) : elemB a = false := by
  unfold elemB; exact decide_eq_false fun h' => h ⟨h'.1, h'.2.1⟩
theorem elN (n : Nat) (h : Num.powMod 4611686018427377339 64 n 2305843009213688669 ≠ 1) : elemB (n : Int) = false := by
  unfold elemB
  refine decide_eq_false fun h' => h ?_
  rw [← powP_pm n 2305843009213688669 (by decide)]
  have := h'.2.2; rwa [Int.toNat_natCast] at this
theorem el2 : elemB 2 = false := elN 2 (by decide +kernel)
theorem elPm : elemB 4611686018427377338 = false := elN 4611686018427377338 (by decide +kernel)

/-- the numbers of the examples -/
theorem sane4_nums : gmulV 4 4 = 16 ∧ gmulE 4 4 = 0 ∧ gexpV 4 3 = 64 ∧ gexpE 4 3 = 0 ∧ gexpE 4 (-1) = 1 ∧ gexpE 4 2305843009213688669 = 1 ∧
    gexpV 1 2305843009213688668 = 1 ∧ gexpE 1 2305843009213688668 = 0 ∧ gexpV 4 2305843009213688668 = 1152921504606844335 ∧ gexpE 4 2305843009213688668 = 0 ∧ gexpV 16 0 = 1 ∧ gexpE 16 0 = 0 := by
  unfold gmulV gmulE gexpV gexpE
  rw [el4, el1, el16]
  have p1 : powP 4 3 = 64 := by rw [powP_pm 4 3 (by decide)]; decide +kernel
  have p2 : powP 1 2305843009213688668 = 1 := by rw [powP_pm 1 2305843009213688668 (by decide)]; decide +kernel
  have p3 : powP 4 2305843009213688668 = 1152921504606844335 := by rw [powP_pm 4 2305843009213688668 (by decide)]; decide +kernel
  have p4 : powP 16 0 = 1 := by rw [powP_pm 16 0 (by decide)]; decide +kernel
  have s1 : scalB 3 = true := by decide
  have s2 : scalB (-1) = false := by decide
  have s3 : scalB 2305843009213688669 = false := by decide
  have s4 : scalB 2305843009213688668 = true := by decide
  have s5 : scalB 0 = true := by decide
  rw [s1, s2, s3, s4, s5]
  refine ⟨by decide +kernel, rfl, ?_, rfl, rfl, rfl, ?_, rfl, ?_, rfl, ?_, rfl⟩
  · show ((powP 4 3 : Nat) : Int) = 64; rw [p1]; rfl
  · show ((powP 1 2305843009213688668 : Nat) : Int) = 1; rw [p2]; rfl
  · show ((powP 4 2305843009213688668 : Nat) : Int) = 1152921504606844335; rw [p3]; rfl
  · show ((powP 16 0 : Nat) : Int) = 1; rw [p4]; rfl

theorem check_el (a : Int) (h : elemB a = true) (w : World) :
    Calls Tryd.prog 18 #[.int .i64 a] w fun e w' => e = .returned (.int .i64 0) ∧ Below w.heap.size w w' := by
  have := check_any a w; rwa [chk_yes h] at this


end Go.Proofs.YtcmabaolpaaonaaDoor
