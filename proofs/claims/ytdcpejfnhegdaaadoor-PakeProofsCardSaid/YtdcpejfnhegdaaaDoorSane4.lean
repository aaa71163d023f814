/- chartroomlaw04.sane returns true: the chapter's examples. -/
import Derived.Test.YtdcpejfnhegdaaaDoorRefGrp
set_option linter.unusedVariables false
set_option linter.unusedSimpArgs false
namespace Go.Proofs.YtdcpejfnhegdaaaDoor
open Go.RowKit Go.Shelf

theorem powP_pm (a k : Nat) (hk : k < 18446744073709551616) : powP a k = Num.powMod 4611686018427377339 64 a k := (Num.powMod_eq 4611686018427377339 64 a k hk).symm

theorem el1 : elemB 1 = true := by
  show elemB ((1 : Nat) : Int) = true
  exact elemB_of (by decide) (by decide) (by rw [powP_pm 1 2305843009213688669 (by decide)]; decide +kernel)
theorem el4 : elemB 4 = true := by
  show elemB ((4 : Nat) : Int) = true
  exact elemB_of (by decide) (by decide) (by rw [powP_pm 4 2305843009213688669 (by decide)]; decide +kernel)
theorem el16 : elemB 16 = true := by
  show elemB ((16 : Nat) : Int) = true
  exact elemB_of (by decide) (by decide) (by rw [powP_pm 16 2305843009213688669 (by decide)]; decide +kernel)
theorem el_no (a : Int) (h : ¬ (1 ≤ a ∧ a < 4611686018427377339)) : elemB a = false := by
  unfold elemB; exact decide_eq_false fun h' => h ⟨h'.1, h'.2.1⟩
theorem elN (n : Nat) (h : Num.powMod 4611686018427377339 64 n 2305843009213688669 ≠ 1) : elemB (n : Int) = false := by
  unfold elemB
  refine decide_eq_false fun h' => h ?_
  rw [← powP_pm n 2305843009213688669 (by decide)]
  have := h'.2.2; rwa [Int.toNat_natCast] at this
theorem el2 : elemB 2 = false := elN 2 (by decide +kernel)
theorem elPm : elemB 4611686018427377338 = false := elN 4611686018427377338 (by decide +kernel)

/-- the numbers of the examples -/
theorem sane4_nums : gmulV 4 4 = 16 ∧ gmulE 4 4 = 0 ∧ gexpV 4 3 = 64 ∧ gexpE 4 3 = 0 ∧ gexpE 4 (-1) = 1 ∧ gexpE 4 2305843009213688669 = 1 ∧
    gexpV 1 2305843009213688668 = 1 ∧ gexpE 1 2305843009213688668 = 0 ∧ gexpV 4 2305843009213688668 = 1152921504606844335 ∧ gexpE 4 2305843009213688668 = 0 ∧ gexpV 16 0 = 1 ∧ gexpE 16 0 = 0 := by
  unfold gmulV gmulE gexpV gexpE
  rw [el4, el1, el16]
  have p1 : powP 4 3 = 64 := by rw [powP_pm 4 3 (by decide)]; decide +kernel
  have p2 : powP 1 2305843009213688668 = 1 := by rw [powP_pm 1 2305843009213688668 (by decide)]; decide +kernel
  have p3 : powP 4 2305843009213688668 = 1152921504606844335 := by rw [powP_pm 4 2305843009213688668 (by decide)]; decide +kernel
  have p4 : powP 16 0 = 1 := by rw [powP_pm 16 0 (by decide)]; decide +kernel
  have s1 : scalB 3 = true := by decide
  have s2 : scalB (-1) = false := by decide
  have s3 : scalB 2305843009213688669 = false := by decide
  have s4 : scalB 2305843009213688668 = true := by decide
  have s5 : scalB 0 = true := by decide
  rw [s1, s2, s3, s4, s5]
  refine ⟨by decide +kernel, rfl, ?_, rfl, rfl, rfl, ?_, rfl, ?_, rfl, ?_, rfl⟩
  · show ((powP 4 3 : Nat) : Int) = 64; rw [p1]; rfl
  · show ((powP 1 2305843009213688668 : Nat) : Int) = 1; rw [p2]; rfl
  · show ((powP 4 2305843009213688668 : Nat) : Int) = 1152921504606844335; rw [p3]; rfl
  · show ((powP 16 0 : Nat) : Int) = 1; rw [p4]; rfl

theorem check_el (a : Int) (h : elemB a = true) (w : World) :
    Calls Tryd.prog 17 #[.int .i64 a] w fun e w' => e = .returned (.int .i64 0) ∧ Below w.heap.size w w' := by
  have := check_any a w; rwa [chk_yes h] at this

set_option maxRecDepth 100000 in
set_option maxHeartbeats 1000000 in
theorem sane4_any (w : World) :
    Calls Tryd.prog 12 #[] w fun e w' => e = .returned (.bool true) ∧ Below w.heap.size w w' := by
  obtain ⟨n1, n2, n3, n4, n5, n6, n7, n8, n9, n10, n11, n12⟩ := sane4_nums
  have c1 := fun w => gmul_any 4 4 w
  have c2 := fun w => gbase_any 3 w
  have c3 := fun w => gexp_any 4 (-1) w
  have c4 := fun w => gexp_any 4 2305843009213688669 w
  have c5 := fun w => ginv_any 1 w
  have c6 := fun w => ginv_any 4 w
  have c7 := fun w => gexp_any 16 0 w
  obtain ⟨x3, hx3⟩ : ∃ x, gexpV 4 (-1) = x := ⟨_, rfl⟩
  obtain ⟨x4, hx4⟩ : ∃ x, gexpV 4 2305843009213688669 = x := ⟨_, rfl⟩
  rw [n1, n2] at c1
  rw [n3, n4] at c2
  rw [hx3, n5] at c3
  rw [hx4, n6] at c4
  rw [n7, n8] at c5
  rw [n9, n10] at c6
  rw [n11, n12] at c7
  have C1 := Lib.hid c1
  have C2 := Lib.hid c2
  have C3 := Lib.hid c3
  have C4 := Lib.hid c4
  have C5 := Lib.hid c5
  have C6 := Lib.hid c6
  have C7 := Lib.hid c7
  clear c1 c2 c3 c4 c5 c6 c7 n1 n2 n3 n4 n5 n6 n7 n8 n9 n10 n11 n12 hx3 hx4
  go_enter Tryd.func12, Tryd.ntmps12
  go_wp2_with fail
  refine (C1.out _).mono ?_
  rintro e w1 ⟨rfl, b1⟩
  go_wp2_with fail
  refine (C2.out _).mono ?_
  rintro e w2 ⟨rfl, b2⟩
  have B2 := b1.trans (b2.mono b1.size)
  clear b1 b2
  go_wp2_with fail
  refine (C3.out _).mono ?_
  rintro e w3 ⟨rfl, b3⟩
  have B3 := B2.trans (b3.mono B2.size)
  clear b3 B2
  go_wp2_with fail
  refine (C4.out _).mono ?_
  rintro e w4 ⟨rfl, b4⟩
  have B4 := B3.trans (b4.mono B3.size)
  clear b4 B3
  go_wp2_with fail
  refine (C5.out _).mono ?_
  rintro e w5 ⟨rfl, b5⟩
  have B5 := B4.trans (b5.mono B4.size)
  clear b5 B4
  go_wp2_with fail
  refine (C6.out _).mono ?_
  rintro e w6 ⟨rfl, b6⟩
  have B6 := B5.trans (b6.mono B5.size)
  clear b6 B5
  go_wp2_with fail
  refine (C7.out _).mono ?_
  rintro e w7 ⟨rfl, b7⟩
  have B7 := B6.trans (b7.mono B6.size)
  clear b7 B6
  go_wp2_with fail
  -- what is no element is refused: six rounds
  have E0 : Hid (elemB 0 = false) := el_no 0 (by decide)
  obtain ⟨W0, hW0⟩ : ∃ W0, w7.alloc (.cells #[.int .i64 0, .int .i64 4611686018427377339, .int .i64 4611686018427377338, .int .i64 2, .int .i64 (-4), .int .i64 4611686018427387904] 3) = W0 := ⟨_, rfl⟩
  have hz0 : W0.heap.size = w7.heap.size + 1 := by rw [← hW0]; simp
  have q0 : W0.cell? ⟨w7.heap.size, 0, none⟩ = some (.int .i64 0) := by rw [← hW0]; simp [World.cell?_alloc_new]
  have q1 : W0.cell? ⟨w7.heap.size, 1, none⟩ = some (.int .i64 4611686018427377339) := by rw [← hW0]; simp [World.cell?_alloc_new]
  have q2 : W0.cell? ⟨w7.heap.size, 2, none⟩ = some (.int .i64 4611686018427377338) := by rw [← hW0]; simp [World.cell?_alloc_new]
  have q3 : W0.cell? ⟨w7.heap.size, 3, none⟩ = some (.int .i64 2) := by rw [← hW0]; simp [World.cell?_alloc_new]
  have q4 : W0.cell? ⟨w7.heap.size, 4, none⟩ = some (.int .i64 (-4)) := by rw [← hW0]; simp [World.cell?_alloc_new]
  have q5 : W0.cell? ⟨w7.heap.size, 5, none⟩ = some (.int .i64 4611686018427387904) := by rw [← hW0]; simp [World.cell?_alloc_new]
  have B8 : Below w.heap.size w W0 := by rw [← hW0]; exact B7.alloc B7.size _
  rw [hW0]
  clear hW0 B7 E0
  obtain ⟨bb, hbb⟩ : ∃ bb, w7.heap.size = bb := ⟨_, rfl⟩
  rw [hbb] at hz0 q0 q1 q2 q3 q4 q5 ⊢
  clear hbb
  have hbz : bb < W0.heap.size := by omega
  clear hz0
  go_loopw [47] (fun s47 wr => ∃ i : Nat, i ≤ 6 ∧ s47 = .int .i64 i ∧ Below W0.heap.size W0 wr) (fun s47 _ => 6 - (RowKit.intOf s47).toNat)
  case atStart => exact ⟨0, by omega, rfl, Below.refl _ _⟩
  case round =>
    obtain ⟨i, hi, rfl, hb⟩ := hrel
    have hcs : i = 0 ∨ i = 1 ∨ i = 2 ∨ i = 3 ∨ i = 4 ∨ i = 5 ∨ i = 6 := by omega
    clear hi
    rcases hcs with rfl | rfl | rfl | rfl | rfl | rfl | rfl
    · have hq : wr.cell? ⟨bb, 0, none⟩ = some (.int .i64 0) := (hb.cell (p := ⟨bb, 0, none⟩) hbz).trans q0
      clear q0 q1 q2 q3 q4 q5
      go_wp2_with fail
      refine (check_no 0 (el_no 0 (by decide)) _).mono ?_
      rintro e w8 ⟨rfl, b8⟩
      go_wp2_with fail
      go_roundw
      case rel => exact ⟨1, by omega, rfl, hb.trans (b8.mono hb.size)⟩
      case measure => simp [RowKit.intOf]
    · have hq : wr.cell? ⟨bb, 1, none⟩ = some (.int .i64 4611686018427377339) := (hb.cell (p := ⟨bb, 1, none⟩) hbz).trans q1
      clear q0 q1 q2 q3 q4 q5
      go_wp2_with fail
      refine (check_no 4611686018427377339 (el_no 4611686018427377339 (by decide)) _).mono ?_
      rintro e w8 ⟨rfl, b8⟩
      go_wp2_with fail
      go_roundw
      case rel => exact ⟨2, by omega, rfl, hb.trans (b8.mono hb.size)⟩
      case measure => simp [RowKit.intOf]
    · have hq : wr.cell? ⟨bb, 2, none⟩ = some (.int .i64 4611686018427377338) := (hb.cell (p := ⟨bb, 2, none⟩) hbz).trans q2
      clear q0 q1 q2 q3 q4 q5
      go_wp2_with fail
      refine (check_no 4611686018427377338 (elPm) _).mono ?_
      rintro e w8 ⟨rfl, b8⟩
      go_wp2_with fail
      go_roundw
      case rel => exact ⟨3, by omega, rfl, hb.trans (b8.mono hb.size)⟩
      case measure => simp [RowKit.intOf]
    · have hq : wr.cell? ⟨bb, 3, none⟩ = some (.int .i64 2) := (hb.cell (p := ⟨bb, 3, none⟩) hbz).trans q3
      clear q0 q1 q2 q3 q4 q5
      go_wp2_with fail
      refine (check_no 2 (el2) _).mono ?_
      rintro e w8 ⟨rfl, b8⟩
      go_wp2_with fail
      go_roundw
      case rel => exact ⟨4, by omega, rfl, hb.trans (b8.mono hb.size)⟩
      case measure => simp [RowKit.intOf]
    · have hq : wr.cell? ⟨bb, 4, none⟩ = some (.int .i64 (-4)) := (hb.cell (p := ⟨bb, 4, none⟩) hbz).trans q4
      clear q0 q1 q2 q3 q4 q5
      go_wp2_with fail
      refine (check_no (-4) (el_no (-4) (by decide)) _).mono ?_
      rintro e w8 ⟨rfl, b8⟩
      go_wp2_with fail
      go_roundw
      case rel => exact ⟨5, by omega, rfl, hb.trans (b8.mono hb.size)⟩
      case measure => simp [RowKit.intOf]
    · have hq : wr.cell? ⟨bb, 5, none⟩ = some (.int .i64 4611686018427387904) := (hb.cell (p := ⟨bb, 5, none⟩) hbz).trans q5
      clear q0 q1 q2 q3 q4 q5
      go_wp2_with fail
      refine (check_no 4611686018427387904 (el_no 4611686018427387904 (by decide)) _).mono ?_
      rintro e w8 ⟨rfl, b8⟩
      go_wp2_with fail
      go_roundw
      case rel => exact ⟨6, by omega, rfl, hb.trans (b8.mono hb.size)⟩
      case measure => simp [RowKit.intOf]
    · have B9 : Below w.heap.size w wr := B8.trans (hb.mono B8.size)
      clear q0 q1 q2 q3 q4 q5 hb B8 hbz
      go_wp2_with fail
      refine (check_el 1 el1 _).mono ?_
      rintro e v1 ⟨rfl, d1⟩
      go_wp2_with fail
      refine (check_el 4 el4 _).mono ?_
      rintro e v2 ⟨rfl, d2⟩
      go_wp2_with fail
      refine (check_el 16 el16 _).mono ?_
      rintro e v3 ⟨rfl, d3⟩
      go_wp2_with fail
      go_ret
      have D1 := B9.trans (d1.mono B9.size)
      have D2 := D1.trans (d2.mono D1.size)
      exact ⟨rfl, D2.trans (d3.mono D2.size)⟩

end Go.Proofs.YtdcpejfnhegdaaaDoor
