/- chartroomlaw03.sane returns true: the chapter's examples; the small functions of the law's package. -/
import Derived.Test.YtajcpbchpcnmaaaRefEval
import Derived.Test.YtajcpbchpcnmaaaGrpLaw
set_option linter.unusedVariables false
set_option linter.unusedSimpArgs false
namespace Go.Proofs.Ytajcpbchpcnmaaa
open Go.RowKit Go.Shelf

theorem is_yes (c : Int) (w : World) :
    Calls Try.prog 46 #[.int .i64 c, .int .i64 0, .int .i64 c] w fun e w' => e = .returned (.bool true) ∧ w = w' := by
  go_enter Try.func46, Try.ntmps46
  go_wp2_with fail
  go_ret
  exact ⟨rfl, rfl⟩

theorem powQ_pm (a k : Nat) (hk : k < 18446744073709551616) : powQ a k = Num.powMod 2305843009213688669 64 a k := (Num.powMod_eq 2305843009213688669 64 a k hk).symm

theorem sane3_nums : fadd 2305843009213688668 2 = 1 ∧ f2E 2305843009213688668 2 = 0 ∧ fsub 0 1 = 2305843009213688668 ∧ f2E 0 1 = 0 ∧
    fmul 2305843009213688668 2305843009213688668 = 1 ∧ f2E 2305843009213688668 2305843009213688668 = 0 ∧ finv 2 = 1152921504606844335 ∧ finvE 2 = 0 ∧
    fpow 2 61 = 5283 ∧ fpowE 2 61 = 0 ∧ fevalV [3, 0, 1] 5 = 28 ∧ fevalE [3, 0, 1] 5 = 0 ∧ fevalV [] 5 = 0 ∧ fevalE [] 5 = 0 ∧ fpow 0 0 = 1 ∧ fpowE 0 0 = 0 ∧
    f2E 2305843009213688669 0 = 1 ∧ finvE 0 = 30 ∧ fpowE 2 (-1) = 1 := by
  have p1 : powQ 2 2305843009213688667 = 1152921504606844335 := by rw [powQ_pm 2 2305843009213688667 (by decide)]; decide +kernel
  have i1 : finv 2 = 1152921504606844335 := by
    unfold finv
    rw [show scalB 2 = true from by decide, show ((2 : Int) == 0) = false from by decide]
    show ((powQ 2 2305843009213688667 : Nat) : Int) = _
    rw [p1]; rfl
  refine ⟨by decide +kernel, by decide +kernel, by decide +kernel, by decide +kernel, by decide +kernel, by decide +kernel, i1, by decide +kernel, by decide +kernel, by decide +kernel, by decide +kernel, by decide +kernel, by decide +kernel, by decide +kernel, by decide +kernel, by decide +kernel, by decide +kernel, by decide +kernel, by decide +kernel⟩

theorem intsAt_three (w : World) (a b c : Int) : IntsAt (w.alloc (.cells #[.int .i64 a, .int .i64 b, .int .i64 c] 3)) (.slice (some ⟨w.heap.size, 0, none⟩) 3 3) [a, b, c] :=
  .inr ⟨w.heap.size, 0, 3, rfl, by simp, by simp, fun j hj => by
    have : j = 0 ∨ j = 1 ∨ j = 2 := by simp at hj; omega
    rcases this with rfl | rfl | rfl <;> simp [World.cell?_alloc_new]⟩
theorem eval_three {a b c x v e : Int} (h1 : fevalV [a, b, c] x = v) (h2 : fevalE [a, b, c] x = e) (w : World) :
    Calls Try.prog 41 #[.slice (some ⟨w.heap.size, 0, none⟩) 3 3, .int .i64 x] (w.alloc (.cells #[.int .i64 a, .int .i64 b, .int .i64 c] 3)) fun e' w' => e' = .returned (.tuple #[.int .i64 v, .int .i64 e]) ∧ Below w.heap.size w w' := by
  subst h1 h2
  have hb := below_new w (.cells #[.int .i64 a, .int .i64 b, .int .i64 c] 3)
  exact (feval_any _ _ x _ (intsAt_three w a b c)).mono fun e w' ⟨he, hw⟩ => ⟨he, hb.trans (hw.mono hb.size)⟩

set_option maxRecDepth 100000 in
set_option maxHeartbeats 1000000 in
theorem sane3_any (w : World) :
    Calls Try.prog 31 #[] w fun e w' => e = .returned (.bool true) ∧ Below w.heap.size w w' := by
  obtain ⟨n1, n2, n3, n4, n5, n6, n7, n8, n9, n10, n11, n12, n13, n14, n15, n16, n17, n18, n19⟩ := sane3_nums
  have c1 := fun w => fadd_any 2305843009213688668 2 w
  have c2 := fun w => fsub_any 0 1 w
  have c3 := fun w => fmul_any 2305843009213688668 2305843009213688668 w
  have c4 := fun w => finv_any 2 w
  have c5 := fun w => fpow_any 2 61 (by decide) w
  have c6 := fun w => eval_three n11 n12 w
  have c7 := fun w => feval_any (.slice none 0 0) [] 5 w (.inl ⟨⟨none, 0, rfl⟩, rfl⟩)
  have c8 := fun w => fpow_any 0 0 (by decide) w
  have c9 := fun w => fadd_any 2305843009213688669 0 w
  have c10 := fun w => finv_any 0 w
  have c11 := fun w => fpow_any 2 (-1) (by decide) w
  have c12 := fun w => fcheck_any 2305843009213688668 w
  have c13 := fun w => fcheck_any 2305843009213688669 w
  obtain ⟨x9, hx9⟩ : ∃ x, fadd 2305843009213688669 0 = x := ⟨_, rfl⟩
  obtain ⟨x10, hx10⟩ : ∃ x, finv 0 = x := ⟨_, rfl⟩
  obtain ⟨x11, hx11⟩ : ∃ x, fpow 2 (-1) = x := ⟨_, rfl⟩
  rw [n1, n2] at c1
  rw [n3, n4] at c2
  rw [n5, n6] at c3
  rw [n7, n8] at c4
  rw [n9, n10] at c5
  rw [n13, n14] at c7
  rw [n15, n16] at c8
  rw [hx9, n17] at c9
  rw [hx10, n18] at c10
  rw [hx11, n19] at c11
  rw [show fchk 2305843009213688668 = 0 from by decide] at c12
  rw [show fchk 2305843009213688669 = 1 from by decide] at c13
  have C1 := Lib.hid c1
  have C2 := Lib.hid c2
  have C3 := Lib.hid c3
  have C4 := Lib.hid c4
  have C5 := Lib.hid c5
  have C6 := Lib.hid c6
  have C7 := Lib.hid c7
  have C8 := Lib.hid c8
  have C9 := Lib.hid c9
  have C10 := Lib.hid c10
  have C11 := Lib.hid c11
  have C12 := Lib.hid c12
  have C13 := Lib.hid c13
  clear c1 c2 c3 c4 c5 c6 c7 c8 c9 c10 c11 c12 c13
  clear n1 n2 n3 n4 n5 n6 n7 n8 n9 n10 n11 n12 n13 n14 n15 n16 n17 n18 n19 hx9 hx10 hx11
  go_enter Try.func31, Try.ntmps31
  go_wp2_with fail
  refine (C1.out _).mono ?_
  rintro e v1 ⟨rfl, b1⟩
  go_wp2_with fail
  refine (C2.out _).mono ?_
  rintro e v2 ⟨rfl, b2⟩
  have B2 := b1.trans (b2.mono b1.size)
  clear b2 b1
  go_wp2_with fail
  refine (C3.out _).mono ?_
  rintro e v3 ⟨rfl, b3⟩
  have B3 := B2.trans (b3.mono B2.size)
  clear b3 B2
  go_wp2_with fail
  refine (C4.out _).mono ?_
  rintro e v4 ⟨rfl, b4⟩
  have B4 := B3.trans (b4.mono B3.size)
  clear b4 B3
  go_wp2_with fail
  refine (C5.out _).mono ?_
  rintro e v5 ⟨rfl, b5⟩
  have B5 := B4.trans (b5.mono B4.size)
  clear b5 B4
  go_wp2_with fail
  refine (C6.out _).mono ?_
  rintro e v6 ⟨rfl, b6⟩
  have B6 := B5.trans (b6.mono B5.size)
  clear b6 B5
  go_wp2_with fail
  refine (C7.out _).mono ?_
  rintro e v7 ⟨rfl, b7⟩
  have B7 := B6.trans (b7.mono B6.size)
  clear b7 B6
  go_wp2_with fail
  refine (C8.out _).mono ?_
  rintro e v8 ⟨rfl, b8⟩
  have B8 := B7.trans (b8.mono B7.size)
  clear b8 B7
  go_wp2_with fail
  refine (C9.out _).mono ?_
  rintro e v9 ⟨rfl, b9⟩
  have B9 := B8.trans (b9.mono B8.size)
  clear b9 B8
  go_wp2_with fail
  refine (C10.out _).mono ?_
  rintro e v10 ⟨rfl, b10⟩
  have B10 := B9.trans (b10.mono B9.size)
  clear b10 B9
  go_wp2_with fail
  refine (C11.out _).mono ?_
  rintro e v11 ⟨rfl, b11⟩
  have B11 := B10.trans (b11.mono B10.size)
  clear b11 B10
  go_wp2_with fail
  refine (is_yes 1 _).mono ?_
  rintro e w' ⟨rfl, rfl⟩
  go_wp2_with fail
  refine (is_yes 2305843009213688668 _).mono ?_
  rintro e w' ⟨rfl, rfl⟩
  go_wp2_with fail
  refine (is_yes 1 _).mono ?_
  rintro e w' ⟨rfl, rfl⟩
  go_wp2_with fail
  refine (is_yes 1152921504606844335 _).mono ?_
  rintro e w' ⟨rfl, rfl⟩
  go_wp2_with fail
  refine (is_yes 5283 _).mono ?_
  rintro e w' ⟨rfl, rfl⟩
  go_wp2_with fail
  refine (is_yes 28 _).mono ?_
  rintro e w' ⟨rfl, rfl⟩
  go_wp2_with fail
  refine (is_yes 0 _).mono ?_
  rintro e w' ⟨rfl, rfl⟩
  go_wp2_with fail
  refine (is_yes 1 _).mono ?_
  rintro e w' ⟨rfl, rfl⟩
  go_wp2_with fail
  refine (C12.out _).mono ?_
  rintro e v12 ⟨rfl, b12⟩
  have B12 := B11.trans (b12.mono B11.size)
  clear b12 B11
  go_wp2_with fail
  refine (C13.out _).mono ?_
  rintro e v13 ⟨rfl, b13⟩
  have B13 := B12.trans (b13.mono B12.size)
  clear b13 B12
  go_wp2_with fail
  go_ret
  exact ⟨rfl, B13⟩

end Go.Proofs.Ytajcpbchpcnmaaa
