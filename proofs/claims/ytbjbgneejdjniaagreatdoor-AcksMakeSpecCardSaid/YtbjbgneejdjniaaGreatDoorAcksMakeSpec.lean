/- AcksMakeSpec returns true for every input. No condition beyond the card's own: the two tables of package digest are tied to the program's text. -/
import Derived.Test.YtbjbgneejdjniaaGreatDoorPk52
import Derived.Test.YtbjbgneejdjniaaGreatDoorPk45
import Derived.Test.YtbjbgneejdjniaaGreatDoorCards
namespace Go.Proofs.YtbjbgneejdjniaaGreatDoor.acksMakeSpec
open Go.ChangeShapes Go.WideShapes Go.ChangeAt Go.RowKit
open Go.ChangeMaps (open_string shut_string)
set_option linter.unusedVariables false
set_option linter.unusedSimpArgs false

theorem akC_ch (a : Ak) (j : Nat) (hj : j < 32) : akC a (4 + j) = dgF a.ch j := by
  unfold akC dgF
  rw [if_pos ⟨by omega, by omega⟩, Nat.add_sub_cancel_left]
set_option maxRecDepth 100000 in
set_option maxHeartbeats 8000000 in
theorem walk {w : World} (a : Ak) (ha : a.wf) (p : Int) (wp : (Lit.int .i64 p).wf = true) (v : Int) (wv : (Lit.int .i64 v).wf = true) (hT : Tab w) :
    Calls Tryz.prog 3 #[.agg (rowF 38 (akC a)), .int .i64 p, .int .i64 v] w fun e w' => e = .returned (.bool true) ∧ Below w.heap.size w w' := by
  have SN := Lib.hid (fun W (h : Tab W) => sane33_any W h)
  have T0 := Lib.hid hT
  have HA := Lib.hid ha
  have KY : ∀ W, Calls Tryz.prog 5 #[.int .i64 p] W fun e w' => e = .returned (.int .i64 ((keyM p : Nat) : Int)) ∧ W = w' := fun W => key_any p W wp
  obtain ⟨ky, hky⟩ : ∃ y : Int, ((keyM p : Nat) : Int) = y := ⟨_, rfl⟩
  rw [hky] at KY
  have KYH := Lib.hid KY
  have C1 := Lib.hid (fun W (h : Tab W) => acheck_any a ha v W h)
  have C2 := Lib.hid (fun W => rcheck33_any a ha v W)
  obtain ⟨cka, hcka⟩ : ∃ y, ckA a v = y := ⟨_, rfl⟩
  rw [hcka] at C1 C2
  clear hT ha wp wv KY hky hcka
  go_enter Tryz.func3, Tryz.ntmps3
  have B0 := Lib.hid (Below.refl w.heap.size w)
  go_upto_region 1 with fail
  obtain ⟨w1, hw1⟩ : ∃ y, w.alloc (.cells (rowF 38 (akC a)) 27) = y := ⟨_, rfl⟩
  have b1 : Below w.heap.size w w1 := by rw [← hw1]; exact (Below.refl _ _).alloc (Nat.le_refl _) _
  have A1 : Hid (RowV w1 w.heap.size 27 38 (akC a)) := Lib.hid (by rw [← hw1]; exact RowV.new w _ 38 (akC a))
  have z1 : w.heap.size + 1 = w1.heap.size := by rw [← hw1]; exact (Array.size_push _).symm
  rw [hw1]
  (try rw [z1])
  have B1 := Lib.hid (B0.out.trans (b1.mono B0.out.size))
  have T1 := Lib.hid (T0.out.below b1)
  clear b1 hw1 z1 B0 T0
  go_wp2_with fail
  refine (SN.out _ T1.out).mono ?_
  rintro e w2 ⟨rfl, b2⟩
  have B2 := Lib.hid (B1.out.trans (b2.mono B1.out.size))
  have T2 := Lib.hid (T1.out.below b2)
  have A2 := Lib.hid (A1.out.below b2)
  clear b2 B1 T1 A1
  go_wp2_with fail
  refine (KYH.out _).mono ?_
  rintro e wp ⟨rfl, rfl⟩
  go_upto_region 4 with fail
  obtain ⟨w3, hw3⟩ : ∃ y, w2.alloc (.cells #[.int .i64 p, .int .i64 ky] 3) = y := ⟨_, rfl⟩
  have b3 : Below w2.heap.size w2 w3 := by rw [← hw3]; exact (Below.refl _ _).alloc (Nat.le_refl _) _
  have I3 : Hid (RowV w3 w2.heap.size 3 2 (fun i => .int .i64 ([p, ky].getD i 0))) := Lib.hid (by rw [← hw3]; exact RowV.new w2 _ 2 (fun i => .int .i64 ([p, ky].getD i 0)))
  have z3 : w2.heap.size + 1 = w3.heap.size := by rw [← hw3]; exact (Array.size_push _).symm
  rw [hw3]
  (try rw [z3])
  have B3 := Lib.hid (B2.out.trans (b3.mono B2.out.size))
  have T3 := Lib.hid (T2.out.below b3)
  have A3 := Lib.hid (A2.out.below b3)
  clear b3 hw3 z3 B2 T2 A2
  obtain ⟨zs, hzs⟩ : ∃ zs, [p, ky] = zs := ⟨_, rfl⟩
  rw [hzs] at I3
  clear hzs
  go_loopg [20] 2 (fun g s20 wx => ∃ (k : Nat), k + g = 2 ∧ s20 = .int .i64 (k : Int) ∧ Hid (Since w3 wx))
  case atStart => exact ⟨0, by omega, rfl, Lib.hid (Since.refl _)⟩
  case round =>
    obtain ⟨k, hk, rfl, G4⟩ := hrel
    obtain ⟨w4, rfl⟩ : ∃ y, y = wr := ⟨_, rfl⟩
    have A4 := Lib.hid (A3.out.below G4.out.b)
    have T4 := Lib.hid (T3.out.below G4.out.b)
    have I4 := Lib.hid (I3.out.below G4.out.b)
    have B4 := Lib.hid (B3.out.trans (G4.out.b.mono B3.out.size))
    have q0 : (0 : Int) ≤ (k : Int) := Int.natCast_nonneg k
    by_cases hlt : k < 2
    · have d0 : decide ((k : Int) < 2) = true := by rw [decide_eq_true_iff]; omega
      have d1 : decide (k < 2) = true := by rw [decide_eq_true_iff]; omega
      have k6 : (k : Int) < 2 := by omega
      have KL := Lib.hid hlt
      obtain ⟨x, hx⟩ : ∃ y, zs.getD k 0 = y := ⟨_, rfl⟩
      have c0 : w4.cell? ⟨w2.heap.size, k, none⟩ = some (.int .i64 x) := by rw [← hx]; exact I4.out.cell hlt
      have x0 : w4.cell? ⟨w.heap.size, 0, none⟩ = some (Value.int .i64 a.f) := ak_cell A4.out (i := 0) (by decide) (by decide)
      have x1 : w4.cell? ⟨w.heap.size, 1, none⟩ = some (Value.int .i64 a.d) := ak_cell A4.out (i := 1) (by decide) (by decide)
      have x2 : w4.cell? ⟨w.heap.size, 2, none⟩ = some (Value.int .i64 a.s) := ak_cell A4.out (i := 2) (by decide) (by decide)
      have x3 : w4.cell? ⟨w.heap.size, 3, none⟩ = some (Value.int .i64 a.u) := ak_cell A4.out (i := 3) (by decide) (by decide)
      have M1 := Lib.hid (fun W (h : Tab W) => amake_any a.f a.d a.s a.u a.ch x HA.out.f HA.out.d HA.out.s HA.out.u HA.out.ch W h)
      have M2 := Lib.hid (fun W => rmake_any a.f a.d a.s a.u a.ch x HA.out.f HA.out.d HA.out.s HA.out.u HA.out.ch W)
      have WC := Lib.hid (mkV_wf (x := x) HA.out.f HA.out.d HA.out.s HA.out.u HA.out.ch)
      obtain ⟨c, hc⟩ : ∃ y, mkV a.f a.d a.s a.u a.ch x = y := ⟨_, rfl⟩
      obtain ⟨me, hme⟩ : ∃ y, mkE a.f a.d a.s a.u a.ch x = y := ⟨_, rfl⟩
      rw [hc] at M1 M2 WC
      rw [hme] at M1 M2
      have D1 := Lib.hid (fun W (h : Tab W) => acheck_any c WC.out v W h)
      have D2 := Lib.hid (fun W => rcheck33_any c WC.out v W)
      obtain ⟨ckc, hckc⟩ : ∃ y, ckA c v = y := ⟨_, rfl⟩
      rw [hckc] at D1 D2
      have HNE := Lib.hid (fun W => show (binOp .neq 27 (.agg (rowF 38 (akC c))) (.agg (rowF 38 (akC c)))).run Tryz.prog W = .ok (.bool false) W by rw [neq_ack c c WC.out.ch WC.out.ch, akB_self]; rfl)
      have HGU := Lib.hid (fun x y W => guard_ack .neq x y c c W)
      clear hx hc hme hckc hlt
      go_wp2_with (first | ((with_reducible (show wpList _ _ _ (Oper.mk (some 34) _ _ _ _ _ :: _) _ _)); refine Hid.out ?_))
      refine Lib.hid ?_
      refine wpList_load_part rfl 23 (.tmp 33) rfl w.heap.size 4 rfl 38 32 27 (akC a) (dgF a.ch) A4.out (by decide) (akC_ch a) _ Tryz.underlying23 rfl (by kernel_rfl) ?_
      go_wp2_with fail
      refine (M1.out _ T4.out).mono ?_
      rintro e w5 ⟨rfl, b5⟩
      have B5 := Lib.hid (B4.out.trans (b5.mono B4.out.size))
      have A5 := Lib.hid (A4.out.below b5)
      have T5 := Lib.hid (T4.out.below b5)
      have G5 := Lib.hid (G4.out.below b5)
      clear b5 B4 A4 T4 G4
      have Zr := Lib.hid (RowV.new w5 27 38 (akC ak0))
      go_upto_region 7 with ((with_reducible (show wpList _ _ _ (Oper.mk none _ _ _ _ _ :: _) _ _)); refine wpList_store_rowV (o := ⟨none, .store 27 (.tmp 9) (.tmp 37), _, _, _, _⟩) rfl 27 (.tmp 9) (.tmp 37) rfl w5.heap.size rfl 38 27 _ (akC c) rfl Zr.out (by kernel_rfl) (fun j _ => akC_one c j) ?_; intro w6 X6 o6)
      have b6 : Below w5.heap.size w5 w6 := ((Below.refl _ _).alloc (Nat.le_refl _) _).trans (o6.out.below (Nat.le_refl _) (by rw [World.size_alloc]; omega))
      have B6 := Lib.hid (B5.out.trans (b6.mono B5.out.size))
      have A6 := Lib.hid (A5.out.below b6)
      have T6 := Lib.hid (T5.out.below b6)
      have G6 := Lib.hid (G5.out.below b6)
      clear b6 o6 Zr B5 A5 T5 G5
      clear c0 x0 x1 x2 x3 I4
      have x0 : w6.cell? ⟨w.heap.size, 0, none⟩ = some (Value.int .i64 a.f) := ak_cell A6.out (i := 0) (by decide) (by decide)
      have x1 : w6.cell? ⟨w.heap.size, 1, none⟩ = some (Value.int .i64 a.d) := ak_cell A6.out (i := 1) (by decide) (by decide)
      have x2 : w6.cell? ⟨w.heap.size, 2, none⟩ = some (Value.int .i64 a.s) := ak_cell A6.out (i := 2) (by decide) (by decide)
      have x3 : w6.cell? ⟨w.heap.size, 3, none⟩ = some (Value.int .i64 a.u) := ak_cell A6.out (i := 3) (by decide) (by decide)
      go_wp2_with (first | ((with_reducible (show wpList _ _ _ (Oper.mk (some 49) _ _ _ _ _ :: _) _ _)); refine Hid.out ?_))
      refine Lib.hid ?_
      refine wpList_load_part rfl 23 (.tmp 48) rfl w.heap.size 4 rfl 38 32 27 (akC a) (dgF a.ch) A6.out (by decide) (akC_ch a) _ Tryz.underlying23 rfl (by kernel_rfl) ?_
      go_wp2_with fail
      refine (M2.out _).mono ?_
      rintro e w7 ⟨rfl, b7⟩
      have B7 := Lib.hid (B6.out.trans (b7.mono B6.out.size))
      have A7 := Lib.hid (A6.out.below b7)
      have T7 := Lib.hid (T6.out.below b7)
      have G7 := Lib.hid (G6.out.below b7)
      have X7 := Lib.hid (X6.out.below b7)
      clear b7 B6 A6 T6 G6 X6
      have Zr := Lib.hid (RowV.new w7 27 38 (akC ak0))
      go_upto_region 8 with ((with_reducible (show wpList _ _ _ (Oper.mk none _ _ _ _ _ :: _) _ _)); refine wpList_store_rowV (o := ⟨none, .store 27 (.tmp 11) (.tmp 52), _, _, _, _⟩) rfl 27 (.tmp 11) (.tmp 52) rfl w7.heap.size rfl 38 27 _ (akC c) rfl Zr.out (by kernel_rfl) (fun j _ => akC_one c j) ?_; intro w8 Y8 o8)
      have b8 : Below w7.heap.size w7 w8 := ((Below.refl _ _).alloc (Nat.le_refl _) _).trans (o8.out.below (Nat.le_refl _) (by rw [World.size_alloc]; omega))
      have B8 := Lib.hid (B7.out.trans (b8.mono B7.out.size))
      have A8 := Lib.hid (A7.out.below b8)
      have T8 := Lib.hid (T7.out.below b8)
      have G8 := Lib.hid (G7.out.below b8)
      have X8 := Lib.hid (X7.out.below b8)
      clear b8 o8 Zr B7 A7 T7 G7 X7
      clear x0 x1 x2 x3
      have t0 : (me == me) = true := by simp
      have t1 : (me != me) = false := by simp
      have t2 : (ckc == ckc) = true := by simp
      have t3 : (ckc != ckc) = false := by simp
      have XL := Lib.hid X8.out.lt
      refine Tc.wp_region_plan (keep w8.heap.size) 17 [] (.fl 0 (.fl 1 (.fl 2 (.fl 3 (.fl 4 (.fl 5 (.fl 6 (.fl 7 (.fl 8 (.fl 9 (.fl 10 (.fl 12 (.fl 13 (.one 11 (.one 14 (.fl 15 (.fl 16 .done))))))))))))))))) (by kernel_rfl) (by kernel_rfl) ?_
      intro w9 b9 e9
      have BB9 : Hid (Below w8.heap.size w8 w9) := Lib.hid b9
      clear b9 e9
      refine Tc.plan_floats [0, 1, 2, 3, 4, 5, 6, 7, 8, 9, 10, 12, 13] [_, _, _, _, _, _, _, _, _, _, _, _, _] rfl ?_
      dsimp only [List.getElem_toArray, List.getElem_cons_succ, List.getElem_cons_zero]
      repeat (first | go_big_quiet_skip | (go_big_quiet_want; go_big_quiet_op; first | go_big_quiet_on | (refine ⟨_, fun _ _ => rfl, ?_⟩; go_big_quiet_on)))
      refine wpQuiet_load_part rfl 27 (.tmp 9) rfl w5.heap.size 0 rfl 38 38 _ (akC c) (akC c) (fun W hW => row_keep (n := w8.heap.size) ((X8.out).below BB9.out) (X8.out.lt) hW) (by decide) (fun j _ => by rw [Nat.zero_add]) _ Tryz.underlying27 rfl (by kernel_rfl) ?_
      simp only [Act.put, List.setIfInBounds_toArray, List.set_cons_succ, List.set_cons_zero]
      repeat (first | go_big_quiet_skip | (go_big_quiet_want; go_big_quiet_op; first | go_big_quiet_on | (refine ⟨_, fun _ _ => rfl, ?_⟩; go_big_quiet_on)))
      refine wpQuiet_load_part rfl 27 (.tmp 11) rfl w7.heap.size 0 rfl 38 38 _ (akC c) (akC c) (fun W hW => row_keep (n := w8.heap.size) ((Y8.out).below BB9.out) (Y8.out.lt) hW) (by decide) (fun j _ => by rw [Nat.zero_add]) _ Tryz.underlying27 rfl (by kernel_rfl) ?_
      simp only [Act.put, List.setIfInBounds_toArray, List.set_cons_succ, List.set_cons_zero]
      refine wpQuiet_binOp rfl .neq 27 (.tmp 54) (.tmp 55) 27 rfl _ _ _ rfl rfl (fun W => HGU.out _ _ W) HNE.out ?_
      simp only [Act.put, List.setIfInBounds_toArray, List.set_cons_succ, List.set_cons_zero]
      repeat (first | go_big_quiet_skip | (go_big_quiet_want; go_big_quiet_op; first | go_big_quiet_on | (refine ⟨_, fun _ _ => rfl, ?_⟩; go_big_quiet_on)))
      refine wpQuiet_unguard rfl ?_
      refine wpQuiet_load_part rfl 27 (.tmp 11) rfl w7.heap.size 0 rfl 38 38 _ (akC c) (akC c) (fun W hW => row_keep (n := w8.heap.size) ((Y8.out).below BB9.out) (Y8.out.lt) hW) (by decide) (fun j _ => by rw [Nat.zero_add]) _ Tryz.underlying27 rfl (by kernel_rfl) ?_
      simp only [Act.put, List.setIfInBounds_toArray, List.set_cons_succ, List.set_cons_zero]
      repeat (first | go_big_quiet_skip | (go_big_quiet_want; go_big_quiet_op; first | go_big_quiet_on | (refine ⟨_, fun _ _ => rfl, ?_⟩; go_big_quiet_on)))
      refine wpQuiet_unguard rfl ?_
      refine wpQuiet_load_part rfl 27 (.tmp 11) rfl w7.heap.size 0 rfl 38 38 _ (akC c) (akC c) (fun W hW => row_keep (n := w8.heap.size) ((Y8.out).below BB9.out) (Y8.out.lt) hW) (by decide) (fun j _ => by rw [Nat.zero_add]) _ Tryz.underlying27 rfl (by kernel_rfl) ?_
      simp only [Act.put, List.setIfInBounds_toArray, List.set_cons_succ, List.set_cons_zero]
      repeat (first | go_big_quiet_skip | (go_big_quiet_want; go_big_quiet_op; first | go_big_quiet_on | (refine ⟨_, fun _ _ => rfl, ?_⟩; go_big_quiet_on)))
      refine wpQuiet_nil ?_
      refine Tc.plan_one 11 rfl (fun K hK => ?_)
      go_wp2_with fail
      refine (D1.out _ (T8.out.below BB9.out)).mono ?_
      rintro e w10 ⟨rfl, b10⟩
      have bb := b10.mono BB9.out.size
      have BB10 := Lib.hid (BB9.out.trans bb)
      go_wp2_with fail
      refine hK _ _ (keep_below bb) ?_
      clear hK K bb b10 BB9
      refine Tc.plan_one 14 rfl (fun K hK => ?_)
      go_wp2_with fail
      refine (D2.out _).mono ?_
      rintro e w11 ⟨rfl, b11⟩
      have bb := b11.mono BB10.out.size
      have BB11 := Lib.hid (BB10.out.trans bb)
      go_wp2_with fail
      refine hK _ _ (keep_below bb) ?_
      clear hK K bb b11 BB10
      refine Tc.plan_floats [15, 16] [_, _] rfl ?_
      dsimp only [List.getElem_toArray, List.getElem_cons_succ, List.getElem_cons_zero]
      repeat (first | go_big_quiet_skip | (go_big_quiet_want; go_big_quiet_op; first | go_big_quiet_on | (refine ⟨_, fun _ _ => rfl, ?_⟩; go_big_quiet_on)))
      refine wpQuiet_nil ?_
      refine Tc.plan_done (l := []) rfl (fun K hK => ?_)
      go_wp2_with fail
      have G11 := Lib.hid (G8.out.below BB11.out)
      go_roundg (gk - 1)
      case measure => have := KL.out; omega
      case rel =>
        go_light
        exact ⟨k + 1, by have := KL.out; omega, by go_num, G11⟩
    · obtain rfl : k = 2 := by omega
      have d0 : decide (((2 : Nat) : Int) < 2) = false := by decide
      have t2 : (cka == cka) = true := by simp
      have t3 : (cka != cka) = false := by simp
      go_upto_region 11 with fail
      refine Tc.wp_region_plan (keep w4.heap.size) 7 [] (.fl 0 (.fl 1 (.fl 3 (.fl 4 (.one 2 (.one 5 (.fl 6 .done))))))) (by kernel_rfl) (by kernel_rfl) ?_
      intro w5 b5 e5
      have BB5 : Hid (Below w4.heap.size w4 w5) := Lib.hid b5
      clear b5 e5
      refine Tc.plan_floats [0, 1, 3, 4] [_, _, _, _] rfl ?_
      dsimp only [List.getElem_toArray, List.getElem_cons_succ, List.getElem_cons_zero]
      repeat (first | go_big_quiet_skip | (go_big_quiet_want; go_big_quiet_op; first | go_big_quiet_on | (refine ⟨_, fun _ _ => rfl, ?_⟩; go_big_quiet_on)))
      refine wpQuiet_load_part rfl 27 (.tmp 3) rfl w.heap.size 0 rfl 38 38 _ (akC a) (akC a) (fun W hW => row_keep (n := w4.heap.size) ((A4.out).below BB5.out) (A4.out.lt) hW) (by decide) (fun j _ => by rw [Nat.zero_add]) _ Tryz.underlying27 rfl (by kernel_rfl) ?_
      simp only [Act.put, List.setIfInBounds_toArray, List.set_cons_succ, List.set_cons_zero]
      repeat (first | go_big_quiet_skip | (go_big_quiet_want; go_big_quiet_op; first | go_big_quiet_on | (refine ⟨_, fun _ _ => rfl, ?_⟩; go_big_quiet_on)))
      refine wpQuiet_load_part rfl 27 (.tmp 3) rfl w.heap.size 0 rfl 38 38 _ (akC a) (akC a) (fun W hW => row_keep (n := w4.heap.size) ((A4.out).below BB5.out) (A4.out.lt) hW) (by decide) (fun j _ => by rw [Nat.zero_add]) _ Tryz.underlying27 rfl (by kernel_rfl) ?_
      simp only [Act.put, List.setIfInBounds_toArray, List.set_cons_succ, List.set_cons_zero]
      repeat (first | go_big_quiet_skip | (go_big_quiet_want; go_big_quiet_op; first | go_big_quiet_on | (refine ⟨_, fun _ _ => rfl, ?_⟩; go_big_quiet_on)))
      refine wpQuiet_nil ?_
      refine Tc.plan_one 2 rfl (fun K hK => ?_)
      go_wp2_with fail
      refine (C1.out _ (T4.out.below BB5.out)).mono ?_
      rintro e w6 ⟨rfl, b6⟩
      have bb := b6.mono BB5.out.size
      have BB6 := Lib.hid (BB5.out.trans bb)
      go_wp2_with fail
      refine hK _ _ (keep_below bb) ?_
      clear hK K bb b6 BB5
      refine Tc.plan_one 5 rfl (fun K hK => ?_)
      go_wp2_with fail
      refine (C2.out _).mono ?_
      rintro e w7 ⟨rfl, b7⟩
      have bb := b7.mono BB6.out.size
      have BB7 := Lib.hid (BB6.out.trans bb)
      go_wp2_with fail
      refine hK _ _ (keep_below bb) ?_
      clear hK K bb b7 BB6
      refine Tc.plan_floats [6] [_] rfl ?_
      dsimp only [List.getElem_toArray, List.getElem_cons_succ, List.getElem_cons_zero]
      repeat (first | go_big_quiet_skip | (go_big_quiet_want; go_big_quiet_op; first | go_big_quiet_on | (refine ⟨_, fun _ _ => rfl, ?_⟩; go_big_quiet_on)))
      refine wpQuiet_nil ?_
      refine Tc.plan_done (l := [_]) rfl (fun K hK => ?_)
      go_wp2_with fail
      go_ret
      exact ⟨rfl, B4.out.trans (BB7.out.mono B4.out.size)⟩

set_option maxRecDepth 100000 in
set_option maxHeartbeats 1000000 in
theorem lifted (os : Os) (started : os.Started) (H : Type) (enc : TypeId × Value → H) :
    ReturnsInHanded {} Tryz.checked os 3 .any (fun w args => (Rows.acksMakeSpecSpec.pre enc Tryz.prog Tryz.f3 [] false w args ∧ laidMetH Tryz.prog laidL w) ∧ sizedMet enc Tryz.prog Tryz.f3 (OpenSpec.ofChange Rows.acksMakeSpecSpec) false w args)
      (Rows.acksMakeSpecSpec.post enc Tryz.prog Tryz.f3 false true false false) := by
  refine returnsInHanded_of_change_and (C := Tryz.checked) (X := fun w _ => laidMetH Tryz.prog laidL w) (fun _ _ _ hh h => h.of_heap hh) own started (by kernel_rfl) Tryz.func3
    (ChangeSpec.witness_shaped (enc := enc) (C := Tryz.checked) (os := os) (X := fun w _ => laidMetH Tryz.prog laidL w) false (World.doorLaid Tryz.prog 19 os) #[.agg #[.int .i64 0, .int .i64 0, .int .i64 0, .int .i64 0, .int .u8 0, .int .u8 0, .int .u8 0, .int .u8 0, .int .u8 0, .int .u8 0, .int .u8 0, .int .u8 0, .int .u8 0, .int .u8 0, .int .u8 0, .int .u8 0, .int .u8 0, .int .u8 0, .int .u8 0, .int .u8 0, .int .u8 0, .int .u8 0, .int .u8 0, .int .u8 0, .int .u8 0, .int .u8 0, .int .u8 0, .int .u8 0, .int .u8 0, .int .u8 0, .int .u8 0, .int .u8 0, .int .u8 0, .int .u8 0, .int .u8 0, .int .u8 0, .int .i64 0, .int .i64 0], .int .i64 0, .int .i64 0] 8 rfl (World.shaped_of_RefB (by kernel_rfl) (by kernel_rfl)) (by kernel_rfl) (by kernel_rfl) (by kernel_rfl) (door_met os _)) ?_
  intro W base args ds gs before hval0 hW _ hsz hL _
  have hval : ∀ (j : Nat) t v, Tryz.f3.params[j]? = some t → args[j]? = some v → Value.okWide Tryz.prog W .any base t v := hval0
  have hW' := hW
  obtain ⟨p, q, hA0, hV, rfl, hfz, hnd⟩ := hW
  have hA : DataW.TrodAll enc Tryz.prog W 0 (fun _ => true) true Tryz.f3.params.toList args.toList ds p := hA0
  rw [Tryz.params3] at hA hval
  obtain ⟨v0, vs0, d0, ds0, p0, q0, hargs, rfl, rfl, h0, r0⟩ := trodAll_cons hA
  obtain ⟨v1, vs1, d1, ds1, p1, q1, rfl, rfl, rfl, h1, r1⟩ := trodAll_cons r0
  obtain ⟨v2, vs2, d2, ds2, p2, q2, rfl, rfl, rfl, h2, r2⟩ := trodAll_cons r1
  obtain ⟨rfl, rfl, rfl⟩ := trodAll_nil r2
  obtain rfl : args = #[v0, v1, v2] := by cases args; simp_all
  obtain ⟨rfl, rfl⟩ := trodVars_none hV
  have k0 := h0
  have lt0 : ∀ x ∈ p0, x.block < W.heap.size := by obtain ⟨m, hm⟩ := k0; exact DataW.trod_lt m _ _ _ hm
  obtain ⟨a0, wa0, rfl⟩ := ack_open (hval 0 27 v0 rfl rfl) h0
  obtain ⟨a1, rfl, rfl, rfl, w1⟩ := open_int Tryz.underlying3 (hval 1 3 v1 rfl rfl) h1
  obtain ⟨a2, rfl, rfl, rfl, w2⟩ := open_int Tryz.underlying3 (hval 2 3 v2 rfl rfl) h2
  have hT := tab_of_laid hL
  clear hA0 hval0 hsz hL
  simp only [List.append_nil] at hW'
  refine (walk a0 wa0 a1 w1 a2 w2 hT).mono fun e W' ⟨he, hg⟩ => ?_
  subst he
  exact ⟨_, rfl, _, _, _, [], _, [], hW', trodAll_mk1 (shut_bool Tryz.underlying4 _), (trodAll_cons_mk (Below.trod laidOut (by kernel_rfl) (of_decide_eq_true (by kernel_rfl)) k0 hg lt0) (trodAll_cons_mk (shut_int Tryz.underlying3 w1) (trodAll_cons_mk (shut_int Tryz.underlying3 w2) trodAll_mk0))), rfl, hg.frame _, fun h => by cases h⟩

theorem over : Rows.acksMakeSpecRow.holds Tryz.pinned (OpenSpec.ofChange Rows.acksMakeSpecSpec) :=
  OpenClaim.holds_of_wide 3 Tryz.f3 rfl rfl rfl rfl rfl rfl rfl ⟨rfl, rfl, rfl, rfl, rfl⟩ rfl rfl rfl rfl rfl (by kernel_rfl) Tryz.func3 (by kernel_rfl)
    (of_decide_eq_true (by kernel_rfl)) (by unfold Func.isWrapper; first | (rw [if_pos (by decide +kernel)]; kernel_rfl) | (rw [if_neg (by decide +kernel)]; exact ⟨rfl, rfl⟩))
    (fun os started H enc _ => lifted os started H enc)

end Go.Proofs.YtbjbgneejdjniaaGreatDoor.acksMakeSpec
namespace Go.Proofs.YtbjbgneejdjniaaGreatDoor
set_option maxRecDepth 100000 in
theorem acksMakeSpec_holds : Rows.AcksMakeSpecCardSaid :=
  Claim7.holds_tied_plain_at .later [] [.data, .data] true _ true
    acksMakeSpec.over (fun _ h => by cases h) (by kernel_rfl) (fun _ h => by cases h) acksMakeSpec_row_tie rfl ⟨rfl, rfl⟩ (by kernel_rfl) rfl
    (fun f fn hf hfn => by
      obtain rfl : f = 3 := Option.some.inj ((show Tryz.prog.funcNamed "chartroom/chartroomlaw33.AcksMakeSpec" = some 3 by kernel_rfl).symm.trans hf) |>.symm
      obtain rfl : fn = Tryz.f3 := (Option.some.inj (Tryz.func3.symm.trans hfn)).symm
      exact ⟨by kernel_rfl, fun j t ht => by
        rw [Tryz.params3] at ht
        have hm : t ∈ [27, 3, 3] := by simpa using Array.mem_of_getElem? ht
        have hall : ([27, 3, 3].all fun u => !Tryz.prog.wantsStandIn u) = true := by kernel_rfl
        exact (show Tryz.prog.wantsStandIn t = false by simpa using List.all_eq_true.1 hall t hm)⟩)
    (by kernel_rfl)
#print axioms acksMakeSpec_holds
end Go.Proofs.YtbjbgneejdjniaaGreatDoor
