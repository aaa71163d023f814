/- Package pake: Point. -/
import Derived.Test.YtdcpejfnhegdaaaDoorPake1
set_option linter.unusedVariables false
set_option linter.unusedSimpArgs false
namespace Go.Proofs.YtdcpejfnhegdaaaDoor
open Go.RowKit
theorem chkS_no {r c x : Int} (h : sideB r c x = false) : chkS r c x = 100 := by unfold chkS; rw [h]; rfl
theorem chkS_yes {r c x : Int} (h : sideB r c x = true) : chkS r c x = 0 := by unfold chkS; rw [h]; rfl
set_option maxRecDepth 100000 in
set_option maxHeartbeats 4000000 in
theorem point_no (r c x : Int) (h : sideB r c x = false) (w : World) :
    Calls Tryd.prog 20 #[.agg #[.int .i64 r, .int .i64 c, .int .i64 x]] w fun e w' => e = .returned (.tuple #[.int .i64 0, .int .i64 100]) ∧ Below w.heap.size w w' := by
  have C1 := fun W => check10_any r c x W
  rw [chkS_no h] at C1
  have H1 := Lib.hid C1
  clear C1 h
  go_enter Tryd.func20, Tryd.ntmps20
  have B0 := Lib.hid (Below.refl w.heap.size w)
  go_upto_region 1 with fail
  obtain ⟨w1, hw1⟩ : ∃ y, w.alloc (.cells #[.int .i64 r, .int .i64 c, .int .i64 x] 33) = y := ⟨_, rfl⟩
  have b1 : Below w.heap.size w w1 := by rw [← hw1]; exact (Below.refl _ _).alloc (Nat.le_refl _) _
  have S1 : Hid (RowV w1 w.heap.size 33 3 (sideF r c x)) := Lib.hid (by rw [← hw1]; exact RowV.new w _ 3 (sideF r c x))
  have z1 : w.heap.size + 1 = w1.heap.size := by rw [← hw1]; exact (Array.size_push _).symm
  rw [hw1]
  (try rw [z1])
  have B1 := Lib.hid (B0.out.trans (b1.mono B0.out.size))
  clear b1 hw1 z1 B0
  have x0 : _ = some (Value.int .i64 r) := S1.out.cell (i := 0) (by decide)
  have x1 : _ = some (Value.int .i64 c) := S1.out.cell (i := 1) (by decide)
  have x2 : _ = some (Value.int .i64 x) := S1.out.cell (i := 2) (by decide)
  go_wp2_with fail
  refine (H1.out _).mono ?_
  rintro e w2 ⟨rfl, b2⟩
  have B2 := Lib.hid (B1.out.trans (b2.mono B1.out.size))
  have S2 := Lib.hid (S1.out.below b2)
  clear b2 B1 S1
  clear x0 x1 x2
  go_wp2_with fail
  go_ret2
  exact ⟨rfl, B2.out⟩
set_option maxRecDepth 100000 in
set_option maxHeartbeats 4000000 in
theorem point_yes (r c x : Nat) (hr : r = 1 ∨ r = 2) (hc : c < 1000000) (hx1 : 1 ≤ x) (hx2 : x < 2305843009213688669) (w : World) (hT : Tab w) :
    Calls Tryd.prog 20 #[.agg #[.int .i64 r, .int .i64 c, .int .i64 x]] w fun e w' => e = .returned (.tuple #[.int .i64 ((pointS r c x : Nat) : Int), .int .i64 0]) ∧ Below w.heap.size w w' := by
  have C1 := fun W => check10_any (r : Int) (c : Int) (x : Int) W
  rw [chkS_yes (sideB_of hr hc hx1 hx2)] at C1
  have C2 := fun W => gbase_el hx2 rfl W
  have C3 := fun W => roles_any W
  have C4 : ∀ W, Tab W → Calls Tryd.prog 49 #[.agg #[.string (nameR (r : Int)), roleF (r : Int)], .int .i64 (c : Int)] W fun e w' => e = .returned (.int .i64 ((maskedM r c : Nat) : Int)) ∧ Below W.heap.size W w' := fun W h => masked_any (r : Int) (roleF (r : Int)) c (by omega) W h
  have C5 := fun W => gmul_el (powP_pos El4 x) (maskedM_El (r : Int) c) rfl W
  rw [show mulP (powP 4 x) (maskedM (r : Int) c) = pointS r c x from rfl] at C5
  have hl : ∀ (W : World) m, RolesAt W m → (Instr.lookup 71 (.map (some m)) (.int .i64 (r : Int)) false).run Tryd.prog W = .ok (.agg #[.string (nameR (r : Int)), roleF (r : Int)]) W := fun W m h => look_plain h hr
  obtain ⟨P, hP⟩ : ∃ P, pointS r c x = P := ⟨_, rfl⟩
  obtain ⟨M, hM⟩ : ∃ P, maskedM (r : Int) c = P := ⟨_, rfl⟩
  obtain ⟨X, hX⟩ : ∃ P, powP 4 x = P := ⟨_, rfl⟩
  obtain ⟨nm, hnm⟩ : ∃ s, nameR (r : Int) = s := ⟨_, rfl⟩
  obtain ⟨fv, hfv⟩ : ∃ s, roleF (r : Int) = s := ⟨_, rfl⟩
  rw [hP] at C5 ⊢
  rw [hM] at C4 C5
  rw [hX] at C2 C5
  rw [hnm, hfv] at C4 hl
  have H1 := Lib.hid C1; have H2 := Lib.hid C2; have H3 := Lib.hid C3; have H4 := Lib.hid C4; have H5 := Lib.hid C5; have HL := Lib.hid hl; have HT := Lib.hid hT
  clear C1 C2 C3 C4 C5 hl hT hP hM hX hnm hfv hr hc hx1 hx2
  go_enter Tryd.func20, Tryd.ntmps20
  have B0 := Lib.hid (Below.refl w.heap.size w)
  go_upto_region 1 with fail
  obtain ⟨w1, hw1⟩ : ∃ y, w.alloc (.cells #[.int .i64 r, .int .i64 c, .int .i64 x] 33) = y := ⟨_, rfl⟩
  have b1 : Below w.heap.size w w1 := by rw [← hw1]; exact (Below.refl _ _).alloc (Nat.le_refl _) _
  have S1 : Hid (RowV w1 w.heap.size 33 3 (sideF r c x)) := Lib.hid (by rw [← hw1]; exact RowV.new w _ 3 (sideF r c x))
  have z1 : w.heap.size + 1 = w1.heap.size := by rw [← hw1]; exact (Array.size_push _).symm
  rw [hw1]
  (try rw [z1])
  have B1 := Lib.hid (B0.out.trans (b1.mono B0.out.size))
  clear b1 hw1 z1 B0
  have x0 : _ = some (Value.int .i64 (r : Int)) := S1.out.cell (i := 0) (by decide)
  have x1 : _ = some (Value.int .i64 (c : Int)) := S1.out.cell (i := 1) (by decide)
  have x2 : _ = some (Value.int .i64 (x : Int)) := S1.out.cell (i := 2) (by decide)
  go_wp2_with fail
  refine (H1.out _).mono ?_
  rintro e w2 ⟨rfl, b2⟩
  have B2 := Lib.hid (B1.out.trans (b2.mono B1.out.size))
  have S2 := Lib.hid (S1.out.below b2)
  clear b2 B1 S1
  clear x0 x1 x2
  have x2 : _ = some (Value.int .i64 (x : Int)) := S2.out.cell (i := 2) (by decide)
  go_wp2_with fail
  refine (H2.out _).mono ?_
  rintro e w3 ⟨rfl, b3⟩
  have B3 := Lib.hid (B2.out.trans (b3.mono B2.out.size))
  have S3 := Lib.hid (S2.out.below b3)
  clear b3 B2 S2
  clear x2
  go_upto_region 5 with fail
  go_cut [2] (fun s2 wx => s2 = .int .i64 (P : Int) ∧ Below w3.heap.size w3 wx)
  case first =>
    refine St.wp_region_plan 13 [] (St.flAll [0, 2, 3, 5, 6] (.one 1 (St.flAll [4] (.one 7 (.one 8 (St.fpAll [9, 10, 11, 12] .done)))))) (by kernel_rfl) (by kernel_rfl) ?_
    intro w4 b4 e4
    clear e4
    have B4 := Lib.hid b4
    have x0 := fun d os => cell_regrown (show _ = some (Value.int .i64 (r : Int)) from (S3.out.below b4).cell (i := 0) (by decide)) d os
    have x1 := fun d os => cell_regrown (show _ = some (Value.int .i64 (c : Int)) from (S3.out.below b4).cell (i := 1) (by decide)) d os
    clear b4
    refine St.plan_floats [0, 2, 3, 5, 6] [_, _, _, _, _] rfl ?_
    dsimp only [List.getElem_toArray, List.getElem_cons_succ, List.getElem_cons_zero]
    repeat (go_big_quiet_step (fail))
    refine wpQuiet_nil ?_
    clear x0 x1
    refine St.plan_one 1 rfl (fun K hK => ?_)
    go_wp2_with fail
    refine (H3.out _).mono ?_
    rintro e w5 ⟨⟨m, rfl, hm⟩, b5⟩
    go_wp2_with fail
    refine hK _ _ b5 ?_
    have R5 := Lib.hid hm
    have B5 := Lib.hid (B4.out.trans (b5.mono B4.out.size))
    clear hm b5 hK K
    refine St.plan_floats [4] [_] rfl ?_
    dsimp only [List.getElem_toArray, List.getElem_cons_succ, List.getElem_cons_zero]
    have hq := fun d os => HL.out _ _ (R5.out.below (below_regrown w5 d os))
    repeat (go_big_quiet_step (fail))
    refine wpQuiet_nil ?_
    clear hq
    refine St.plan_one 7 rfl (fun K hK => ?_)
    go_wp2_with fail
    refine (H4.out _ (HT.out.below (B3.out.trans (B5.out.mono B3.out.size)))).mono ?_
    rintro e w6 ⟨rfl, b6⟩
    go_wp2_with fail
    refine hK _ _ b6 ?_
    have B6 := Lib.hid (B5.out.trans (b6.mono B5.out.size))
    clear b6 hK K
    refine St.plan_one 8 rfl (fun K hK => ?_)
    go_wp2_with fail
    refine (H5.out _).mono ?_
    rintro e w7 ⟨rfl, b7⟩
    go_wp2_with fail
    refine hK _ _ b7 ?_
    have B7 := Lib.hid (B6.out.trans (b7.mono B6.out.size))
    clear b7 hK K
    refine St.plan_pures [9, 10, 11, 12] [_, _, _, _] rfl ?_
    dsimp only [List.getElem_toArray, List.getElem_cons_succ, List.getElem_cons_zero]
    repeat (go_big_quiet_step (fail))
    refine wpQuiet_nil ?_
    refine St.plan_done (l := []) rfl (fun K hK => ?_)
    go_wp2_with fail
    go_meet
    exact ⟨rfl, B7.out⟩
  case rest =>
    obtain ⟨rfl, Bb⟩ := hcut
    have BF := Lib.hid (B3.out.trans (Bb.mono B3.out.size))
    clear Bb B3
    go_wp2_with fail
    go_ret2
    exact ⟨rfl, BF.out⟩
end Go.Proofs.YtdcpejfnhegdaaaDoor
