/- Package pake: Check. Package pake: Point. The reference of package pake: Mask, Password, masked, Point, Element. Package pake: proof, of the program and of the reference. Package pake: Shared. -/
import Derived.Test.YtpekhdahamloaaaGreatDoorPk37
import Derived.Test.YtpekhdahamloaaaGreatDoorPk18
import Derived.Lib.SlBytesConst
import Derived.ArgAppend
set_option linter.unusedVariables false
set_option linter.unusedSimpArgs false
/-! Package pake: Check. -/
namespace Go.Proofs.YtpekhdahamloaaaGreatDoor
open Go.RowKit
def sideF (r c x : Int) : Nat → Value := fun i => if i = 0 then .int .i64 r else if i = 1 then .int .i64 c else .int .i64 x
def roleRow (s : ByteArray) (fv : Value) : Nat → Value := fun i => if i = 0 then .string s else fv
theorem roleRow_one {s : ByteArray} {fv : Value} (h : fv.oneCell' = true) : ∀ j, j < 2 → (roleRow s fv j).oneCell' = true := by intro j _; unfold roleRow; split; rfl; exact h
set_option maxRecDepth 100000 in
set_option maxHeartbeats 4000000 in
theorem check10_any (r c x : Int) (w : World) :
    Calls Tryz.prog 31 #[.agg #[.int .i64 r, .int .i64 c, .int .i64 x]] w fun e w' => e = .returned (.int .i64 (chkS r c x)) ∧ Below w.heap.size w w' := by
  have key : chkS r c x = if !decide (r = 1 ∨ r = 2) || decide (c < 0) || decide (1000000 ≤ c) || decide (x < 1) || decide (2305843009213688669 ≤ x) then 100 else 0 := by
    unfold chkS sideB
    by_cases h : (1 ≤ r ∧ r ≤ 2 ∧ 0 ≤ c ∧ c < 1000000 ∧ 1 ≤ x ∧ x < 2305843009213688669)
    · rw [if_pos (by simpa using h), if_neg (by simp; omega)]
    · rw [if_neg (by simpa using h), if_pos (by simp; omega)]
  obtain ⟨v, hv⟩ : ∃ v, chkS r c x = v := ⟨_, rfl⟩
  obtain ⟨s, fv, ho, hl⟩ := look_gen r
  obtain ⟨met, hmet⟩ : ∃ b, decide (r = 1 ∨ r = 2) = b := ⟨_, rfl⟩
  rw [hmet] at hl key
  rw [hv] at key ⊢
  have HL := Lib.hid hl
  have HO := Lib.hid ho
  have C1 := Lib.hid (fun W => roles_any W)
  clear hv hl ho hmet
  go_enter Tryz.func31, Tryz.ntmps31
  go_upto_region 1 with fail
  have B0 := Lib.hid (Below.refl w.heap.size w)
  obtain ⟨w1, hw1⟩ : ∃ y, w.alloc (.cells #[.int .i64 r, .int .i64 c, .int .i64 x] 23) = y := ⟨_, rfl⟩
  have b1 : Below w.heap.size w w1 := by rw [← hw1]; exact (Below.refl _ _).alloc (Nat.le_refl _) _
  have S1 : Hid (RowV w1 w.heap.size 23 3 (sideF r c x)) := Lib.hid (by rw [← hw1]; exact RowV.new w _ 3 (sideF r c x))
  have z1 : w.heap.size + 1 = w1.heap.size := by rw [← hw1]; exact (Array.size_push _).symm
  rw [hw1]
  (try rw [z1])
  have B1 := Lib.hid (B0.out.trans (b1.mono B0.out.size))
  clear b1 hw1 z1 B0
  go_cut [4] (fun s4 wx => s4 = .bool met ∧ Below w1.heap.size w1 wx)
  case first =>
    refine St.wp_region_plan 9 [8] (St.flAll [1, 2] (.two 0 7 (St.flAll [3] (St.fpAll [4, 5, 6] (.one 7 (.st 8 .done)))) (.one 0 (St.flAll [3] (St.fpAll [4, 5, 6] (.st 8 .done)))))) (by kernel_rfl) (by kernel_rfl) ?_
    intro w2 b2 e2
    clear e2
    have B2 := Lib.hid b2
    have x0 := fun d os => cell_regrown (show w2.cell? ⟨w.heap.size, 0, none⟩ = some (.int .i64 r) from (S1.out.below b2).cell (i := 0) (by decide)) d os
    clear b2
    refine St.plan_floats [1, 2] [_, _] rfl ?_
    dsimp only [List.getElem_toArray, List.getElem_cons_succ, List.getElem_cons_zero]
    repeat (go_big_quiet_step (fail))
    refine wpQuiet_nil ?_
    clear x0
    refine St.plan_two 0 7 rfl rfl (fun K hK => ?_) (fun K hK => ?_)
    · skip
      go_wp2_with fail
      refine (C1.out _).mono ?_
      rintro e w3 ⟨⟨m, rfl, hm⟩, b3⟩
      go_wp2_with fail
      refine hK _ _ b3 ?_
      have R3 := Lib.hid hm
      have B3 := Lib.hid (B2.out.trans (b3.mono B2.out.size))
      clear hm b3 hK K
      refine St.plan_floats [3] [_] rfl ?_
      dsimp only [List.getElem_toArray, List.getElem_cons_succ, List.getElem_cons_zero]
      have hq := fun d os => HL.out _ _ (R3.out.below (below_regrown w3 d os))
      repeat (go_big_quiet_step (fail))
      refine wpQuiet_nil ?_
      clear hq
      refine St.plan_pures [4, 5, 6] [_, _, _] rfl ?_
      dsimp only [List.getElem_toArray, List.getElem_cons_succ, List.getElem_cons_zero]
      repeat (go_big_quiet_step (fail))
      refine wpQuiet_nil ?_
      refine St.plan_one 7 rfl (fun K hK => ?_)
      go_wp2_with fail
      have al := (Below.refl _ w3).alloc (Nat.le_refl _) (.cells #[.string ByteArray.empty, .nilFunc] 105)
      refine hK _ _ al ?_
      have P4 := Lib.hid (RowV.new w3 105 2 (roleRow ByteArray.empty .nilFunc))
      have B4 := Lib.hid (B3.out.trans (al.mono B3.out.size))
      clear al hK K
      refine St.plan_st 8 rfl (fun K hK => ?_)
      refine wpList_store_rowV (o := ⟨none, .store 105 (.tmp 3) (.tmp 10), _, _, _, _⟩) rfl 105 (.tmp 3) (.tmp 10) rfl w3.heap.size rfl 2 105 _ (roleRow s fv) rfl P4.out (by kernel_rfl) (roleRow_one HO.out) ?_
      intro w5 R5 O5
      refine (show wpList _ _ _ [] _ _ from hK _ _ ?_)
      have B5 := Lib.hid (B4.out.trans (O5.out.below B3.out.size B4.out.size))
      clear hK K
      refine St.plan_done (l := [_]) rfl (fun K hK => ?_)
      go_wp2_with fail
      go_meet
      exact ⟨rfl, B5.out⟩
    · skip
      go_wp2_with fail
      have al := (Below.refl _ w2).alloc (Nat.le_refl _) (.cells #[.string ByteArray.empty, .nilFunc] 105)
      refine hK _ _ al ?_
      have BW := B2.out.size
      have P3 := Lib.hid (RowV.new w2 105 2 (roleRow ByteArray.empty .nilFunc))
      have B2' := Lib.hid (B2.out.trans (al.mono B2.out.size))
      clear al hK K
      refine St.plan_one 0 rfl (fun K hK => ?_)
      go_wp2_with fail
      refine (C1.out _).mono ?_
      rintro e w3 ⟨⟨m, rfl, hm⟩, b3⟩
      go_wp2_with fail
      refine hK _ _ b3 ?_
      have R3 := Lib.hid hm
      have P4 := Lib.hid (P3.out.below b3)
      have B3 := Lib.hid (B2'.out.trans (b3.mono B2'.out.size))
      clear hm b3 hK K
      refine St.plan_floats [3] [_] rfl ?_
      dsimp only [List.getElem_toArray, List.getElem_cons_succ, List.getElem_cons_zero]
      have hq := fun d os => HL.out _ _ (R3.out.below (below_regrown w3 d os))
      repeat (go_big_quiet_step (fail))
      refine wpQuiet_nil ?_
      clear hq
      refine St.plan_pures [4, 5, 6] [_, _, _] rfl ?_
      dsimp only [List.getElem_toArray, List.getElem_cons_succ, List.getElem_cons_zero]
      repeat (go_big_quiet_step (fail))
      refine wpQuiet_nil ?_
      refine St.plan_st 8 rfl (fun K hK => ?_)
      refine wpList_store_rowV (o := ⟨none, .store 105 (.tmp 3) (.tmp 10), _, _, _, _⟩) rfl 105 (.tmp 3) (.tmp 10) rfl w2.heap.size rfl 2 105 _ (roleRow s fv) rfl P4.out (by kernel_rfl) (roleRow_one HO.out) ?_
      intro w5 R5 O5
      refine (show wpList _ _ _ [] _ _ from hK _ _ ?_)
      have B5 := Lib.hid (B3.out.trans (O5.out.below BW B3.out.size))
      clear hK K
      refine St.plan_done (l := [_]) rfl (fun K hK => ?_)
      go_wp2_with fail
      go_meet
      exact ⟨rfl, B5.out⟩
  case rest =>
    obtain ⟨rfl, Bb⟩ := hcut
    have B2 := Lib.hid (B1.out.trans (Bb.mono B1.out.size))
    have S2 := S1.out.below Bb
    have x1 : _ = some (Value.int .i64 c) := S2.cell (i := 1) (by decide)
    have x2 : _ = some (Value.int .i64 x) := S2.cell (i := 2) (by decide)
    clear Bb B1 S1 S2 HL HO C1
    cases met with
    | false =>
      obtain rfl : v = 100 := by rw [key]; rfl
      clear key
      go_wp2_with fail
      go_ret
      exact ⟨rfl, B2.out⟩
    | true =>
      cases t0 : decide (c < 0) with
      | true =>
        obtain rfl : v = 100 := by rw [key]; simp only [t0]; rfl
        clear key
        go_wp2_with fail
        go_ret
        exact ⟨rfl, B2.out⟩
      | false =>
        cases t1 : decide (1000000 ≤ c) with
        | true =>
          obtain rfl : v = 100 := by rw [key]; simp only [t0, t1]; rfl
          clear key
          go_wp2_with fail
          go_ret
          exact ⟨rfl, B2.out⟩
        | false =>
          cases t2 : decide (x < 1) with
          | true =>
            obtain rfl : v = 100 := by rw [key]; simp only [t0, t1, t2]; rfl
            clear key
            go_wp2_with fail
            go_ret
            exact ⟨rfl, B2.out⟩
          | false =>
            cases t3 : decide ((2305843009213688669 : Int) ≤ x) with
            | true =>
              obtain rfl : v = 100 := by rw [key]; simp only [t0, t1, t2, t3]; rfl
              clear key
              go_wp2_with fail
              go_ret
              exact ⟨rfl, B2.out⟩
            | false =>
              obtain rfl : v = 0 := by rw [key]; simp only [t0, t1, t2, t3]; rfl
              clear key
              go_wp2_with fail
              go_ret
              exact ⟨rfl, B2.out⟩
end Go.Proofs.YtpekhdahamloaaaGreatDoor

/-! Package pake: Point. -/
namespace Go.Proofs.YtpekhdahamloaaaGreatDoor
open Go.RowKit
theorem chkS_no {r c x : Int} (h : sideB r c x = false) : chkS r c x = 100 := by unfold chkS; rw [h]; rfl
theorem chkS_yes {r c x : Int} (h : sideB r c x = true) : chkS r c x = 0 := by unfold chkS; rw [h]; rfl
set_option maxRecDepth 100000 in
set_option maxHeartbeats 4000000 in
theorem point_no (r c x : Int) (h : sideB r c x = false) (w : World) :
    Calls Tryz.prog 33 #[.agg #[.int .i64 r, .int .i64 c, .int .i64 x]] w fun e w' => e = .returned (.tuple #[.int .i64 0, .int .i64 100]) ∧ Below w.heap.size w w' := by
  have C1 := fun W => check10_any r c x W
  rw [chkS_no h] at C1
  have H1 := Lib.hid C1
  clear C1 h
  go_enter Tryz.func33, Tryz.ntmps33
  have B0 := Lib.hid (Below.refl w.heap.size w)
  go_upto_region 1 with fail
  obtain ⟨w1, hw1⟩ : ∃ y, w.alloc (.cells #[.int .i64 r, .int .i64 c, .int .i64 x] 23) = y := ⟨_, rfl⟩
  have b1 : Below w.heap.size w w1 := by rw [← hw1]; exact (Below.refl _ _).alloc (Nat.le_refl _) _
  have S1 : Hid (RowV w1 w.heap.size 23 3 (sideF r c x)) := Lib.hid (by rw [← hw1]; exact RowV.new w _ 3 (sideF r c x))
  have z1 : w.heap.size + 1 = w1.heap.size := by rw [← hw1]; exact (Array.size_push _).symm
  rw [hw1]
  (try rw [z1])
  have B1 := Lib.hid (B0.out.trans (b1.mono B0.out.size))
  clear b1 hw1 z1 B0
  have x0 : _ = some (Value.int .i64 r) := S1.out.cell (i := 0) (by decide)
  have x1 : _ = some (Value.int .i64 c) := S1.out.cell (i := 1) (by decide)
  have x2 : _ = some (Value.int .i64 x) := S1.out.cell (i := 2) (by decide)
  go_wp2_with fail
  refine (H1.out _).mono ?_
  rintro e w2 ⟨rfl, b2⟩
  have B2 := Lib.hid (B1.out.trans (b2.mono B1.out.size))
  have S2 := Lib.hid (S1.out.below b2)
  clear b2 B1 S1
  clear x0 x1 x2
  go_wp2_with fail
  go_ret2
  exact ⟨rfl, B2.out⟩
set_option maxRecDepth 100000 in
set_option maxHeartbeats 4000000 in
theorem point_yes (r c x : Nat) (hr : r = 1 ∨ r = 2) (hc : c < 1000000) (hx1 : 1 ≤ x) (hx2 : x < 2305843009213688669) (w : World) (hT : Tab w) :
    Calls Tryz.prog 33 #[.agg #[.int .i64 r, .int .i64 c, .int .i64 x]] w fun e w' => e = .returned (.tuple #[.int .i64 ((pointS r c x : Nat) : Int), .int .i64 0]) ∧ Below w.heap.size w w' := by
  have C1 := fun W => check10_any (r : Int) (c : Int) (x : Int) W
  rw [chkS_yes (sideB_of hr hc hx1 hx2)] at C1
  have C2 := fun W => gbase_el hx2 rfl W
  have C3 := fun W => roles_any W
  have C4 : ∀ W, Tab W → Calls Tryz.prog 55 #[.agg #[.string (nameR (r : Int)), roleF (r : Int)], .int .i64 (c : Int)] W fun e w' => e = .returned (.int .i64 ((maskedM r c : Nat) : Int)) ∧ Below W.heap.size W w' := fun W h => masked_any (r : Int) (roleF (r : Int)) c (by omega) W h
  have C5 := fun W => gmul_el (powP_pos El4 x) (maskedM_El (r : Int) c) rfl W
  rw [show mulP (powP 4 x) (maskedM (r : Int) c) = pointS r c x from rfl] at C5
  have hl : ∀ (W : World) m, RolesAt W m → (Instr.lookup 100 (.map (some m)) (.int .i64 (r : Int)) false).run Tryz.prog W = .ok (.agg #[.string (nameR (r : Int)), roleF (r : Int)]) W := fun W m h => look_plain h hr
  obtain ⟨P, hP⟩ : ∃ P, pointS r c x = P := ⟨_, rfl⟩
  obtain ⟨M, hM⟩ : ∃ P, maskedM (r : Int) c = P := ⟨_, rfl⟩
  obtain ⟨X, hX⟩ : ∃ P, powP 4 x = P := ⟨_, rfl⟩
  obtain ⟨nm, hnm⟩ : ∃ s, nameR (r : Int) = s := ⟨_, rfl⟩
  obtain ⟨fv, hfv⟩ : ∃ s, roleF (r : Int) = s := ⟨_, rfl⟩
  rw [hP] at C5 ⊢
  rw [hM] at C4 C5
  rw [hX] at C2 C5
  rw [hnm, hfv] at C4 hl
  have H1 := Lib.hid C1; have H2 := Lib.hid C2; have H3 := Lib.hid C3; have H4 := Lib.hid C4; have H5 := Lib.hid C5; have HL := Lib.hid hl; have HT := Lib.hid hT
  clear C1 C2 C3 C4 C5 hl hT hP hM hX hnm hfv hr hc hx1 hx2
  go_enter Tryz.func33, Tryz.ntmps33
  have B0 := Lib.hid (Below.refl w.heap.size w)
  go_upto_region 1 with fail
  obtain ⟨w1, hw1⟩ : ∃ y, w.alloc (.cells #[.int .i64 r, .int .i64 c, .int .i64 x] 23) = y := ⟨_, rfl⟩
  have b1 : Below w.heap.size w w1 := by rw [← hw1]; exact (Below.refl _ _).alloc (Nat.le_refl _) _
  have S1 : Hid (RowV w1 w.heap.size 23 3 (sideF r c x)) := Lib.hid (by rw [← hw1]; exact RowV.new w _ 3 (sideF r c x))
  have z1 : w.heap.size + 1 = w1.heap.size := by rw [← hw1]; exact (Array.size_push _).symm
  rw [hw1]
  (try rw [z1])
  have B1 := Lib.hid (B0.out.trans (b1.mono B0.out.size))
  clear b1 hw1 z1 B0
  have x0 : _ = some (Value.int .i64 (r : Int)) := S1.out.cell (i := 0) (by decide)
  have x1 : _ = some (Value.int .i64 (c : Int)) := S1.out.cell (i := 1) (by decide)
  have x2 : _ = some (Value.int .i64 (x : Int)) := S1.out.cell (i := 2) (by decide)
  go_wp2_with fail
  refine (H1.out _).mono ?_
  rintro e w2 ⟨rfl, b2⟩
  have B2 := Lib.hid (B1.out.trans (b2.mono B1.out.size))
  have S2 := Lib.hid (S1.out.below b2)
  clear b2 B1 S1
  clear x0 x1 x2
  have x2 : _ = some (Value.int .i64 (x : Int)) := S2.out.cell (i := 2) (by decide)
  go_wp2_with fail
  refine (H2.out _).mono ?_
  rintro e w3 ⟨rfl, b3⟩
  have B3 := Lib.hid (B2.out.trans (b3.mono B2.out.size))
  have S3 := Lib.hid (S2.out.below b3)
  clear b3 B2 S2
  clear x2
  go_upto_region 5 with fail
  go_cut [2] (fun s2 wx => s2 = .int .i64 (P : Int) ∧ Below w3.heap.size w3 wx)
  case first =>
    refine St.wp_region_plan 13 [] (St.flAll [0, 2, 3, 5, 6] (.one 1 (St.flAll [4] (.one 7 (.one 8 (St.fpAll [9, 10, 11, 12] .done)))))) (by kernel_rfl) (by kernel_rfl) ?_
    intro w4 b4 e4
    clear e4
    have B4 := Lib.hid b4
    have x0 := fun d os => cell_regrown (show _ = some (Value.int .i64 (r : Int)) from (S3.out.below b4).cell (i := 0) (by decide)) d os
    have x1 := fun d os => cell_regrown (show _ = some (Value.int .i64 (c : Int)) from (S3.out.below b4).cell (i := 1) (by decide)) d os
    clear b4
    refine St.plan_floats [0, 2, 3, 5, 6] [_, _, _, _, _] rfl ?_
    dsimp only [List.getElem_toArray, List.getElem_cons_succ, List.getElem_cons_zero]
    repeat (go_big_quiet_step (fail))
    refine wpQuiet_nil ?_
    clear x0 x1
    refine St.plan_one 1 rfl (fun K hK => ?_)
    go_wp2_with fail
    refine (H3.out _).mono ?_
    rintro e w5 ⟨⟨m, rfl, hm⟩, b5⟩
    go_wp2_with fail
    refine hK _ _ b5 ?_
    have R5 := Lib.hid hm
    have B5 := Lib.hid (B4.out.trans (b5.mono B4.out.size))
    clear hm b5 hK K
    refine St.plan_floats [4] [_] rfl ?_
    dsimp only [List.getElem_toArray, List.getElem_cons_succ, List.getElem_cons_zero]
    have hq := fun d os => HL.out _ _ (R5.out.below (below_regrown w5 d os))
    repeat (go_big_quiet_step (fail))
    refine wpQuiet_nil ?_
    clear hq
    refine St.plan_one 7 rfl (fun K hK => ?_)
    go_wp2_with fail
    refine (H4.out _ (HT.out.below (B3.out.trans (B5.out.mono B3.out.size)))).mono ?_
    rintro e w6 ⟨rfl, b6⟩
    go_wp2_with fail
    refine hK _ _ b6 ?_
    have B6 := Lib.hid (B5.out.trans (b6.mono B5.out.size))
    clear b6 hK K
    refine St.plan_one 8 rfl (fun K hK => ?_)
    go_wp2_with fail
    refine (H5.out _).mono ?_
    rintro e w7 ⟨rfl, b7⟩
    go_wp2_with fail
    refine hK _ _ b7 ?_
    have B7 := Lib.hid (B6.out.trans (b7.mono B6.out.size))
    clear b7 hK K
    refine St.plan_pures [9, 10, 11, 12] [_, _, _, _] rfl ?_
    dsimp only [List.getElem_toArray, List.getElem_cons_succ, List.getElem_cons_zero]
    repeat (go_big_quiet_step (fail))
    refine wpQuiet_nil ?_
    refine St.plan_done (l := []) rfl (fun K hK => ?_)
    go_wp2_with fail
    go_meet
    exact ⟨rfl, B7.out⟩
  case rest =>
    obtain ⟨rfl, Bb⟩ := hcut
    have BF := Lib.hid (B3.out.trans (Bb.mono B3.out.size))
    clear Bb B3
    go_wp2_with fail
    go_ret2
    exact ⟨rfl, BF.out⟩
end Go.Proofs.YtpekhdahamloaaaGreatDoor

/-! The reference of package pake: Mask, Password, masked, Point, Element. -/
namespace Go.Proofs.YtpekhdahamloaaaGreatDoor
open Go.RowKit
theorem bytes_mark (w : World) (l : List UInt8) (fr : Nat × Nat) (h0 : 0 < l.length) (hn : l.length ≤ 1000) : BytesAt (w.alloc (.cells (rowF l.length (fun i => vB (l.getD i 0))) 5 fr)) (.slice (some ⟨w.heap.size, 0, none⟩) l.length l.length) l :=
  .inr ⟨w.heap.size, 0, l.length, rfl, Nat.le_refl _, h0, ⟨by omega, by omega⟩, by rw [World.size_alloc]; omega, fun j hj => by
    rw [Nat.zero_add, World.cell?_alloc_mark, rowF_get hj]⟩
set_option maxRecDepth 100000 in
set_option maxHeartbeats 2000000 in
theorem rmask_any (r : Int) (w : World) :
    Calls Tryz.prog 121 #[.int .i64 r] w fun e w' => e = .returned (.int .i64 ((maskM r : Nat) : Int)) ∧ Below w.heap.size w w' := by
  have C1 : ∀ v W, BytesAt W v (nameR r).data.toList → Calls Tryz.prog 152 #[.string sPake, v] W fun e w' => e = .returned (.int .i64 ((maskM r : Nat) : Int)) ∧ Below W.heap.size W w' := fun v W hv => rpoint_any sPake v _ W (by decide) (by have := nameR_size r; simp; omega) hv
  obtain ⟨M, hM⟩ : ∃ M, maskM r = M := ⟨_, rfl⟩
  rw [hM] at C1 ⊢
  clear hM
  have hcv := fun (w : World) (C : Array Value) (n c : Nat) => Lib.run_convert_bytes_const (P := Tryz.prog) w 61 5 C n c Tryz.underlying61 Tryz.underlying5
  by_cases h : r = 1
  · subst h
    have H1 := Lib.hid C1
    clear C1
    go_enter Tryz.func121, Tryz.ntmps121
    have B0 := Lib.hid (Below.refl w.heap.size w)
    go_wp2_with fail
    obtain ⟨w1, hw1⟩ : ∃ y, w.alloc (.cells #[.int .u8 104, .int .u8 111, .int .u8 115, .int .u8 116] 5 (4, 5)) = y := ⟨_, rfl⟩
    have b1 : Below w.heap.size w w1 := by rw [← hw1]; exact (Below.refl _ _).alloc (Nat.le_refl _) _
    have Y1 : Hid (BytesAt w1 (.slice (some ⟨w.heap.size, 0, none⟩) 4 4) [104, 111, 115, 116]) := Lib.hid (by rw [← hw1]; exact bytes_mark w [104, 111, 115, 116] (4, 5) (by decide) (by decide))
    have z1 : w.heap.size + 1 = w1.heap.size := by rw [← hw1]; exact (Array.size_push _).symm
    rw [hw1]
    (try rw [z1])
    have B1 := Lib.hid (B0.out.trans (b1.mono B0.out.size))
    clear b1 hw1 z1 B0
    go_wp2_with fail
    refine (H1.out _ _ Y1.out).mono ?_
    rintro e w2 ⟨rfl, b2⟩
    have B2 := Lib.hid (B1.out.trans (b2.mono B1.out.size))
    have Y2 := Lib.hid (Y1.out.below b2)
    clear b2 B1 Y1
    go_wp2_with fail
    go_ret
    exact ⟨rfl, B2.out⟩
  · have e1 : nameR r = sGuest := by unfold nameR; rw [if_neg h]
    have t1 : (r == 1) = false := by simpa using h
    rw [e1] at C1
    have H1 := Lib.hid C1
    clear C1 e1 h
    go_enter Tryz.func121, Tryz.ntmps121
    have B0 := Lib.hid (Below.refl w.heap.size w)
    go_wp2_with fail
    obtain ⟨w1, hw1⟩ : ∃ y, w.alloc (.cells #[.int .u8 103, .int .u8 117, .int .u8 101, .int .u8 115, .int .u8 116] 5 (5, 6)) = y := ⟨_, rfl⟩
    have b1 : Below w.heap.size w w1 := by rw [← hw1]; exact (Below.refl _ _).alloc (Nat.le_refl _) _
    have Y1 : Hid (BytesAt w1 (.slice (some ⟨w.heap.size, 0, none⟩) 5 5) [103, 117, 101, 115, 116]) := Lib.hid (by rw [← hw1]; exact bytes_mark w [103, 117, 101, 115, 116] (5, 6) (by decide) (by decide))
    have z1 : w.heap.size + 1 = w1.heap.size := by rw [← hw1]; exact (Array.size_push _).symm
    rw [hw1]
    (try rw [z1])
    have B1 := Lib.hid (B0.out.trans (b1.mono B0.out.size))
    clear b1 hw1 z1 B0
    go_wp2_with fail
    refine (H1.out _ _ Y1.out).mono ?_
    rintro e w2 ⟨rfl, b2⟩
    have B2 := Lib.hid (B1.out.trans (b2.mono B1.out.size))
    have Y2 := Lib.hid (Y1.out.below b2)
    clear b2 B1 Y1
    go_wp2_with fail
    go_ret
    exact ⟨rfl, B2.out⟩
set_option maxRecDepth 100000 in
set_option maxHeartbeats 2000000 in
theorem rpass_any (c : Nat) (hc : c < 9223372036854775808) (w : World) :
    Calls Tryz.prog 122 #[.int .i64 (c : Int)] w fun e w' => e = .returned (.int .i64 ((passM c : Nat) : Int)) ∧ Below w.heap.size w w' := by
  have C1 := Lib.hid (fun W => reight_any c hc W)
  have C2 : ∀ v W, BytesAt W v (Sha.be8 c) → Calls Tryz.prog 130 #[.string sCode, v] W fun e w' => e = .returned (.int .i64 ((passM c : Nat) : Int)) ∧ Below W.heap.size W w' := fun v W hv => rscalar_any sCode v _ W (by decide) (by rw [be8_len]; decide) hv
  obtain ⟨M, hM⟩ : ∃ M, passM c = M := ⟨_, rfl⟩
  rw [hM] at C2 ⊢
  have H2 := Lib.hid C2
  clear C2 hM hc
  go_enter Tryz.func122, Tryz.ntmps122
  have B0 := Lib.hid (Below.refl w.heap.size w)
  go_wp2_with fail
  refine (C1.out _).mono ?_
  rintro e w1 ⟨⟨u, rfl, o1⟩, b1⟩
  have O1 := Lib.hid o1
  have G1 := Lib.hid b1.size
  have S1 := Lib.hid B0.out.size
  have B1 := Lib.hid (B0.out.trans (b1.mono B0.out.size))
  clear b1 o1 B0
  go_wp2_with fail
  refine (H2.out _ _ (O1.out.bytesAt (by rw [be8_len]; omega))).mono ?_
  rintro e w2 ⟨rfl, b2⟩
  have B2 := Lib.hid (B1.out.trans (b2.mono B1.out.size))
  clear b2 B1
  go_wp2_with fail
  go_ret
  exact ⟨rfl, B2.out⟩
set_option maxRecDepth 100000 in
set_option maxHeartbeats 2000000 in
theorem rmasked_any (r : Int) (c : Nat) (hc : c < 9223372036854775808) (w : World) :
    Calls Tryz.prog 77 #[.int .i64 r, .int .i64 (c : Int)] w fun e w' => e = .returned (.int .i64 ((maskedM r c : Nat) : Int)) ∧ Below w.heap.size w w' := by
  have C1 := fun W => rmask_any r W
  have C2 := fun W => rpass_any c hc W
  have C3 := fun W => rexp_el (maskM_El r) (passM_bd c).2 rfl W
  rw [show powP (maskM r) (passM c) = maskedM r c from rfl] at C3
  obtain ⟨k1, hk1⟩ : ∃ k, maskM r = k := ⟨_, rfl⟩
  obtain ⟨k2, hk2⟩ : ∃ k, passM c = k := ⟨_, rfl⟩
  obtain ⟨k3, hk3⟩ : ∃ k, maskedM r c = k := ⟨_, rfl⟩
  rw [hk1] at C1 C3
  rw [hk2] at C2 C3
  rw [hk3] at C3 ⊢
  have H1 := Lib.hid C1; have H2 := Lib.hid C2; have H3 := Lib.hid C3
  clear C1 C2 C3 hk1 hk2 hk3 hc
  go_enter Tryz.func77, Tryz.ntmps77
  have B0 := Lib.hid (Below.refl w.heap.size w)
  go_wp2_with fail
  refine (H1.out _).mono ?_
  rintro e w1 ⟨rfl, b1⟩
  have B1 := Lib.hid (B0.out.trans (b1.mono B0.out.size))
  clear b1 B0
  go_wp2_with fail
  refine (H2.out _).mono ?_
  rintro e w2 ⟨rfl, b2⟩
  have B2 := Lib.hid (B1.out.trans (b2.mono B1.out.size))
  clear b2 B1
  go_wp2_with fail
  refine (H3.out _).mono ?_
  rintro e wp ⟨rfl, rfl⟩
  go_wp2_with fail
  go_ret
  exact ⟨rfl, B2.out⟩
set_option maxRecDepth 100000 in
set_option maxHeartbeats 2000000 in
theorem rpoint_yes (r c x : Nat) (hr : r = 1 ∨ r = 2) (hc : c < 1000000) (hx1 : 1 ≤ x) (hx2 : x < 2305843009213688669) (w : World) :
    Calls Tryz.prog 34 #[.agg #[.int .i64 r, .int .i64 c, .int .i64 x]] w fun e w' => e = .returned (.tuple #[.int .i64 ((pointS r c x : Nat) : Int), .int .i64 0]) ∧ Below w.heap.size w w' := by
  have C1 := fun W => rcheckS_any (r : Int) (c : Int) (x : Int) W
  rw [chkS_yes (sideB_of hr hc hx1 hx2)] at C1
  have C2 := fun W => rbase_el hx2 rfl W
  have C4 := fun W => rmasked_any (r : Int) c (by omega) W
  have C5 := fun W => rmul_el (powP_pos El4 x) (maskedM_El (r : Int) c) rfl W
  rw [show mulP (powP 4 x) (maskedM (r : Int) c) = pointS r c x from rfl] at C5
  obtain ⟨P, hP⟩ : ∃ P, pointS r c x = P := ⟨_, rfl⟩
  obtain ⟨M, hM⟩ : ∃ P, maskedM (r : Int) c = P := ⟨_, rfl⟩
  obtain ⟨X, hX⟩ : ∃ P, powP 4 x = P := ⟨_, rfl⟩
  rw [hP] at C5 ⊢
  rw [hM] at C4 C5
  rw [hX] at C2 C5
  have H1 := Lib.hid C1; have H2 := Lib.hid C2; have H4 := Lib.hid C4; have H5 := Lib.hid C5
  clear C1 C2 C4 C5 hP hM hX hr hc hx1 hx2
  go_enter Tryz.func34, Tryz.ntmps34
  have B0 := Lib.hid (Below.refl w.heap.size w)
  go_upto_region 1 with fail
  obtain ⟨w1, hw1⟩ : ∃ y, w.alloc (.cells #[.int .i64 r, .int .i64 c, .int .i64 x] 23) = y := ⟨_, rfl⟩
  have b1 : Below w.heap.size w w1 := by rw [← hw1]; exact (Below.refl _ _).alloc (Nat.le_refl _) _
  have S1 : Hid (RowV w1 w.heap.size 23 3 (sideF r c x)) := Lib.hid (by rw [← hw1]; exact RowV.new w _ 3 (sideF r c x))
  have z1 : w.heap.size + 1 = w1.heap.size := by rw [← hw1]; exact (Array.size_push _).symm
  rw [hw1]
  (try rw [z1])
  have B1 := Lib.hid (B0.out.trans (b1.mono B0.out.size))
  clear b1 hw1 z1 B0
  have x0 : _ = some (Value.int .i64 (r : Int)) := S1.out.cell (i := 0) (by decide)
  have x1 : _ = some (Value.int .i64 (c : Int)) := S1.out.cell (i := 1) (by decide)
  have x2 : _ = some (Value.int .i64 (x : Int)) := S1.out.cell (i := 2) (by decide)
  go_wp2_with fail
  refine (H1.out _).mono ?_
  rintro e w2 ⟨rfl, b2⟩
  have B2 := Lib.hid (B1.out.trans (b2.mono B1.out.size))
  have S2 := Lib.hid (S1.out.below b2)
  clear b2 B1 S1
  clear x0 x1 x2
  have x0 : _ = some (Value.int .i64 (r : Int)) := S2.out.cell (i := 0) (by decide)
  have x1 : _ = some (Value.int .i64 (c : Int)) := S2.out.cell (i := 1) (by decide)
  have x2 : _ = some (Value.int .i64 (x : Int)) := S2.out.cell (i := 2) (by decide)
  go_wp2_with fail
  refine (H2.out _).mono ?_
  rintro e wp ⟨rfl, rfl⟩
  go_wp2_with fail
  refine (H4.out _).mono ?_
  rintro e w3 ⟨rfl, b3⟩
  have B3 := Lib.hid (B2.out.trans (b3.mono B2.out.size))
  have S3 := Lib.hid (S2.out.below b3)
  clear b3 B2 S2
  clear x0 x1 x2
  go_wp2_with fail
  refine (H5.out _).mono ?_
  rintro e wp ⟨rfl, rfl⟩
  go_wp2_with fail
  go_ret2
  exact ⟨rfl, B3.out⟩
set_option maxRecDepth 100000 in
set_option maxHeartbeats 2000000 in
theorem relem_any (r c x p : Nat) (hr : r = 1 ∨ r = 2) (hc : c < 1000000) (hx2 : x < 2305843009213688669) (hp : El p) (w : World) :
    Calls Tryz.prog 117 #[.agg #[.int .i64 r, .int .i64 c, .int .i64 x], .int .i64 (p : Int)] w fun e w' => e = .returned (.int .i64 ((elemS r c x p : Nat) : Int)) ∧ Below w.heap.size w w' := by
  have C1 := fun W => rmasked_any ((3 - r : Nat) : Int) c (by omega) W
  have e3 : ((3 - r : Nat) : Int) = 3 - (r : Int) := by omega
  have e4 : IntKind.i64.wrap (3 - (r : Int)) = 3 - (r : Int) := IntWalk.i64_in _ (by omega)
  have C2 := fun W => rinv_el (maskedM_El ((3 - r : Nat) : Int) c) rfl W
  have C3 := fun W => rmul_el hp (powP_pos (maskedM_El ((3 - r : Nat) : Int) c) 2305843009213688668) rfl W
  have C4 := fun W => rexp_el (El.mul hp (powP_pos (maskedM_El ((3 - r : Nat) : Int) c) 2305843009213688668)) hx2 rfl W
  rw [show powP (mulP p (powP (maskedM ((3 - r : Nat) : Int) c) 2305843009213688668)) x = elemS r c x p from rfl] at C4
  obtain ⟨E, hE⟩ : ∃ P, elemS r c x p = P := ⟨_, rfl⟩
  obtain ⟨Y, hY⟩ : ∃ P, mulP p (powP (maskedM ((3 - r : Nat) : Int) c) 2305843009213688668) = P := ⟨_, rfl⟩
  obtain ⟨I, hI⟩ : ∃ P, powP (maskedM ((3 - r : Nat) : Int) c) 2305843009213688668 = P := ⟨_, rfl⟩
  obtain ⟨M, hM⟩ : ∃ P, maskedM ((3 - r : Nat) : Int) c = P := ⟨_, rfl⟩
  rw [hE] at C4 ⊢
  rw [hY] at C3 C4
  rw [hI] at C2 C3
  rw [hM, e3] at C1
  rw [hM] at C2
  have H1 := Lib.hid C1; have H2 := Lib.hid C2; have H3 := Lib.hid C3; have H4 := Lib.hid C4
  have z1 : (0 : Int) ≤ (r : Int) := Int.natCast_nonneg r
  have z2 : (r : Int) ≤ 2 := by omega
  clear C1 C2 C3 C4 hE hY hI hM hr hc hx2 hp e3 e4
  go_enter Tryz.func117, Tryz.ntmps117
  have B0 := Lib.hid (Below.refl w.heap.size w)
  go_upto_region 1 with fail
  obtain ⟨w1, hw1⟩ : ∃ y, w.alloc (.cells #[.int .i64 r, .int .i64 c, .int .i64 x] 23) = y := ⟨_, rfl⟩
  have b1 : Below w.heap.size w w1 := by rw [← hw1]; exact (Below.refl _ _).alloc (Nat.le_refl _) _
  have S1 : Hid (RowV w1 w.heap.size 23 3 (sideF r c x)) := Lib.hid (by rw [← hw1]; exact RowV.new w _ 3 (sideF r c x))
  have z1 : w.heap.size + 1 = w1.heap.size := by rw [← hw1]; exact (Array.size_push _).symm
  rw [hw1]
  (try rw [z1])
  have B1 := Lib.hid (B0.out.trans (b1.mono B0.out.size))
  clear b1 hw1 z1 B0
  have x0 : _ = some (Value.int .i64 (r : Int)) := S1.out.cell (i := 0) (by decide)
  have x1 : _ = some (Value.int .i64 (c : Int)) := S1.out.cell (i := 1) (by decide)
  go_wp2_with fail
  refine (H1.out _).mono ?_
  rintro e w2 ⟨rfl, b2⟩
  have B2 := Lib.hid (B1.out.trans (b2.mono B1.out.size))
  have S2 := Lib.hid (S1.out.below b2)
  clear b2 B1 S1
  clear x0 x1
  go_wp2_with fail
  refine (H2.out _).mono ?_
  rintro e wp ⟨rfl, rfl⟩
  go_wp2_with fail
  refine (H3.out _).mono ?_
  rintro e wp ⟨rfl, rfl⟩
  have x2 : _ = some (Value.int .i64 (x : Int)) := S2.out.cell (i := 2) (by decide)
  go_wp2_with fail
  refine (H4.out _).mono ?_
  rintro e wp ⟨rfl, rfl⟩
  clear x2
  go_wp2_with fail
  go_ret
  exact ⟨rfl, B2.out⟩
end Go.Proofs.YtpekhdahamloaaaGreatDoor

/-! Package pake: proof, of the program and of the reference. -/
namespace Go.Proofs.YtpekhdahamloaaaGreatDoor
open Go.RowKit
/-- append(s, x...), s full, x some bytes -/
theorem wpList_append_full {w : World} {ops : Array Oper} {rest : List Oper} {o : Oper} {a : Act} {Q : Exit → Act → World → Prop} (hgd : o.guard = none) (s x : Operand)
    (ho : o.op = .call { callee := .builtin .append, args := #[s, x], argTypes := #[61, 61] })
    (vs vx : Value) (l lx : List UInt8) (ad : Addr) (hs : a.eval s = vs) (hvs : vs = .slice (some ad) l.length l.length) (hx : a.eval x = vx) (hbs : BytesAt w vs l) (hbx : BytesAt w vx lx) (h0 : 0 < l.length) (h1 : 0 < lx.length) (hlen : l.length + lx.length ≤ 140737488351232)
    (h : ∀ v' w', Hid (Owns w' w.heap.size v' (l ++ lx)) → Hid (Below w.heap.size w w') → wpList Tryz.prog ops Q rest (a.put o.dst v') w') : wpList Tryz.prog ops Q (o :: rest) a w := by
  obtain ⟨i0, hi, hz0, hz1, hz2⟩ := info_parts info_byte
  subst hvs
  rcases hbs with ⟨_, rfl⟩ | ⟨b, off, cap, e1, _, _, _, hb, hcell⟩
  · simp at h0
  rcases hbx with ⟨_, rfl⟩ | ⟨b', off', cap', rfl, _, _, _, hb', hcell'⟩
  · simp at h1
  injection e1 with e1 e2 e3
  injection e1 with e1
  subst e1
  have cells : ∀ (B off : Nat) (m : List UInt8), (∀ j, j < m.length → w.cell? ⟨B, off + j, none⟩ = some (vB (m.getD j 0))) → ∀ j u, (m.map vB)[j]? = some u → w.cell? ((⟨B, off, none⟩ : Addr).add j) = some u := by
    intro B off m hm j u hj
    obtain ⟨hlt, he⟩ := List.getElem?_eq_some_iff.1 hj
    rw [List.length_map] at hlt
    rw [Addr.add_mid, hm j hlt, ← he]
    simp [List.getD_eq_getElem?_getD, List.getElem?_eq_getElem hlt]
  refine wpList_append_grows w hgd s x 61 ho 5 i0 (.int .u8 0) 1 1 Tryz.underlying61 hi hz0 hz1 hz2 rfl (by decide) (some ⟨b, off, none⟩) l.length l.length (l.map vB) hs (fun h => by cases h) (by simp)
    (fun B hB => by injection hB with hB; subst hB; exact cells b off l hcell) ⟨b', off', none⟩ lx.length cap' (lx.map vB) hx (by simp) (cells b' off' lx hcell') (fun u hu => by obtain ⟨y, _, rfl⟩ := List.mem_map.1 hu; rfl) (by omega) (by unfold maxLen; omega) (by omega) ?_
  intro v' w' h1 hg
  refine h v' w' ?_ ((Below.refl _ w).grown hg (Nat.le_refl _) (fun k hk => by cases hk))
  unfold Hid Owns
  rw [List.length_append, List.map_append]
  exact h1
set_option maxRecDepth 100000 in
set_option maxHeartbeats 4000000 in
theorem proof_any (k : List UInt8) (hk : k.length = 32) (r : Int) (w : World) (hT : Tab w) :
    Calls Tryz.prog 78 #[digV k, .int .i64 r] w fun e w' => e = .returned (digV (proofL k r)) ∧ Below w.heap.size w w' := by
  have hb := vB_role r
  have C1 : ∀ v W, BytesAt W v (k ++ [roleByte r]) → Tab W → Calls Tryz.prog 27 #[.string sProof, v] W fun e w' => e = .returned (digV (proofL k r)) ∧ Below W.heap.size W w' := fun v W hv hT => tagged_any sProof v _ W (by decide) (by rw [List.length_append, hk, List.length_singleton]; decide) hv hT
  have hb1 : ∀ W B, RowV W B 54 32 (fun i => vB (k.getD i 0)) → BytesAt W (.slice (some ⟨B, 0, none⟩) 32 32) k := fun W B h => RowV.bytesAt h hk (by decide) (by decide)
  unfold digV at C1 ⊢
  obtain ⟨g, hg⟩ : ∃ g, (fun i => vB ((proofL k r).getD i 0)) = g := ⟨_, rfl⟩
  obtain ⟨f, hf⟩ : ∃ f, (fun i => vB (k.getD i 0)) = f := ⟨_, rfl⟩
  have g1 : ∀ j, j < 32 → (g j).oneCell' = true := by intro j _; rw [← hg]; rfl
  rw [hf] at hb1 ⊢
  rw [hg] at C1 ⊢
  obtain ⟨x, hx⟩ : ∃ x, roleByte r = x := ⟨_, rfl⟩
  rw [hx] at hb C1
  have H1 := Lib.hid C1; have HB1 := Lib.hid hb1; have G1 := Lib.hid g1; have HT := Lib.hid hT; have HK := Lib.hid hk
  clear C1 hb1 g1 hT hg hf hx hk
  go_enter Tryz.func78, Tryz.ntmps78
  have B0 := Lib.hid (Below.refl w.heap.size w)
  go_upto_region 1 with fail
  obtain ⟨w1, hw1⟩ : ∃ y, w.alloc (.cells (rowF 32 f) 54) = y := ⟨_, rfl⟩
  have b1 : Below w.heap.size w w1 := by rw [← hw1]; exact (Below.refl _ _).alloc (Nat.le_refl _) _
  have F1 : Hid (RowV w1 w.heap.size 54 32 f) := Lib.hid (by rw [← hw1]; exact RowV.new w _ 32 f)
  have z1 : w.heap.size + 1 = w1.heap.size := by rw [← hw1]; exact (Array.size_push _).symm
  rw [hw1]
  (try rw [z1])
  have B1 := Lib.hid (B0.out.trans (b1.mono B0.out.size))
  clear b1 hw1 z1 B0
  have LT := Lib.hid B1.out.size
  obtain ⟨w2, hw2⟩ : ∃ y, w1.alloc (.cells #[.int .u8 0, .int .u8 0, .int .u8 0, .int .u8 0, .int .u8 0, .int .u8 0, .int .u8 0, .int .u8 0, .int .u8 0, .int .u8 0, .int .u8 0, .int .u8 0, .int .u8 0, .int .u8 0, .int .u8 0, .int .u8 0, .int .u8 0, .int .u8 0, .int .u8 0, .int .u8 0, .int .u8 0, .int .u8 0, .int .u8 0, .int .u8 0, .int .u8 0, .int .u8 0, .int .u8 0, .int .u8 0, .int .u8 0, .int .u8 0, .int .u8 0, .int .u8 0] 35) = y := ⟨_, rfl⟩
  have b2 : Below w1.heap.size w1 w2 := by rw [← hw2]; exact (Below.refl _ _).alloc (Nat.le_refl _) _
  have D2 : Hid (RowV w2 w1.heap.size 35 32 (fun _ => vB 0)) := Lib.hid (by rw [← hw2]; exact RowV.new w1 _ 32 (fun _ => vB 0))
  have z2 : w1.heap.size + 1 = w2.heap.size := by rw [← hw2]; exact (Array.size_push _).symm
  rw [hw2]
  (try rw [z2])
  have B2 := Lib.hid (B1.out.trans (b2.mono B1.out.size))
  have F2 := Lib.hid (F1.out.below b2)
  clear b2 hw2 z2 B1 F1
  have W3 := Lib.hid (B2.out.alloc B2.out.size (.cells #[vB x] 5))
  have D3 := Lib.hid (D2.out.alloc (.cells #[vB x] 5))
  have K3 := Lib.hid (HB1.out _ _ (F2.out.alloc (.cells #[vB x] 5)))
  have X3 := Lib.hid (one_byte w2 x)
  go_wp2_with ((with_reducible (show wpList _ _ _ (Oper.mk (some 9) _ _ _ _ _ :: _) _ _)); refine wpList_append_full rfl (.tmp 5) (.tmp 8) rfl (.slice (some ⟨w.heap.size, 0, none⟩) 32 32) (.slice (some ⟨w2.heap.size, 0, none⟩) 1 1) k [x] ⟨w.heap.size, 0, none⟩ rfl (by rw [HK.out]) rfl K3.out X3.out (by rw [HK.out]; decide) (Nat.succ_pos 0) (by rw [HK.out, List.length_singleton]; decide) ?_; intro v4 w4 O4 b4)
  have B4 := Lib.hid (W3.out.trans (b4.out.mono W3.out.size))
  have D4 := Lib.hid (D3.out.below b4.out)
  refine (H1.out _ _ (O4.out.bytesAt (by rw [List.length_append, HK.out, List.length_singleton]; decide)) (HT.out.below B4.out)).mono ?_
  rintro e w5 ⟨rfl, b5⟩
  have B5 := Lib.hid (B4.out.trans (b5.mono B4.out.size))
  have D5 := Lib.hid (D4.out.below b5)
  clear b5 b4 D3 W3 K3 X3
  go_wp2_with ((with_reducible (show wpList _ _ _ (Oper.mk none _ _ _ _ _ :: _) _ _)); refine wpList_store_rowV (o := ⟨none, .store 35 (.tmp 4) (.tmp 10), _, _, _, _⟩) rfl 35 (.tmp 4) (.tmp 10) rfl w1.heap.size rfl 32 35 _ g rfl D5.out (by kernel_rfl) G1.out ?_; intro w6 R6 O6)
  refine bodyPost_ret (v := .agg (rowF 32 g)) (by exact results_rowV (fn := Tryz.f78) (p := 4) (ty := 35) rfl _ _ w1.heap.size 32 35 _ _ rfl R6.out Tryz.underlying35 rfl (by kernel_rfl)) rfl ⟨rfl, ?_⟩
  exact B5.out.trans (O6.out.below LT.out B5.out.size)
end Go.Proofs.YtpekhdahamloaaaGreatDoor

/-! Package pake: Shared. -/
namespace Go.Proofs.YtpekhdahamloaaaGreatDoor
open Go.RowKit
/-- zeros -/
theorem zero_dig : Value.agg (rowF 32 (fun _ => vB 0)) = digV zero32 := by
  unfold digV
  congr 1
set_option maxRecDepth 100000 in
set_option maxHeartbeats 4000000 in
theorem shared_no1 (r c x p : Int) (h : sideB r c x = false) (w : World) :
    Calls Tryz.prog 24 #[.agg #[.int .i64 r, .int .i64 c, .int .i64 x], .int .i64 p] w fun e w' => e = .returned (.tuple #[digV zero32, .int .i64 100]) ∧ Below w.heap.size w w' := by
  have C1 := Lib.hid (fun W => point_no r c x h W)
  rw [← zero_dig]
  clear h
  go_enter Tryz.func24, Tryz.ntmps24
  have B0 := Lib.hid (Below.refl w.heap.size w)
  go_upto_region 1 with fail
  obtain ⟨w1, hw1⟩ : ∃ y, w.alloc (.cells #[.int .i64 r, .int .i64 c, .int .i64 x] 23) = y := ⟨_, rfl⟩
  have b1 : Below w.heap.size w w1 := by rw [← hw1]; exact (Below.refl _ _).alloc (Nat.le_refl _) _
  have S1 : Hid (RowV w1 w.heap.size 23 3 (sideF r c x)) := Lib.hid (by rw [← hw1]; exact RowV.new w _ 3 (sideF r c x))
  have z1 : w.heap.size + 1 = w1.heap.size := by rw [← hw1]; exact (Array.size_push _).symm
  rw [hw1]
  (try rw [z1])
  have B1 := Lib.hid (B0.out.trans (b1.mono B0.out.size))
  clear b1 hw1 z1 B0
  have LT := Lib.hid B1.out.size
  obtain ⟨w2, hw2⟩ : ∃ y, w1.alloc (.cells #[.int .u8 0, .int .u8 0, .int .u8 0, .int .u8 0, .int .u8 0, .int .u8 0, .int .u8 0, .int .u8 0, .int .u8 0, .int .u8 0, .int .u8 0, .int .u8 0, .int .u8 0, .int .u8 0, .int .u8 0, .int .u8 0, .int .u8 0, .int .u8 0, .int .u8 0, .int .u8 0, .int .u8 0, .int .u8 0, .int .u8 0, .int .u8 0, .int .u8 0, .int .u8 0, .int .u8 0, .int .u8 0, .int .u8 0, .int .u8 0, .int .u8 0, .int .u8 0] 54) = y := ⟨_, rfl⟩
  have b2 : Below w1.heap.size w1 w2 := by rw [← hw2]; exact (Below.refl _ _).alloc (Nat.le_refl _) _
  have D2 : Hid (RowV w2 w1.heap.size 54 32 (fun _ => vB 0)) := Lib.hid (by rw [← hw2]; exact RowV.new w1 _ 32 (fun _ => vB 0))
  have z2 : w1.heap.size + 1 = w2.heap.size := by rw [← hw2]; exact (Array.size_push _).symm
  rw [hw2]
  (try rw [z2])
  have B2 := Lib.hid (B1.out.trans (b2.mono B1.out.size))
  have S2 := Lib.hid (S1.out.below b2)
  clear b2 hw2 z2 B1 S1
  have x0 : _ = some (Value.int .i64 r) := S2.out.cell (i := 0) (by decide)
  have x1 : _ = some (Value.int .i64 c) := S2.out.cell (i := 1) (by decide)
  have x2 : _ = some (Value.int .i64 x) := S2.out.cell (i := 2) (by decide)
  go_wp2_with fail
  refine (C1.out _).mono ?_
  rintro e w3 ⟨rfl, b3⟩
  have B3 := Lib.hid (B2.out.trans (b3.mono B2.out.size))
  have S3 := Lib.hid (S2.out.below b3)
  have D3 := Lib.hid (D2.out.below b3)
  clear b3 B2 S2 D2
  clear x0 x1 x2
  go_wp2_with (first
    | ((with_reducible (show wpList _ _ _ (Oper.mk (some 26) _ _ _ _ _ :: _) _ _)); refine wpList_load_rowV rfl 54 (.tmp 4) rfl w1.heap.size rfl 32 54 _ D3.out _ Tryz.underlying54 rfl (by kernel_rfl) ?_)
    | ((with_reducible (show wpList _ _ _ (Oper.mk none _ _ _ _ _ :: _) _ _)); refine wpList_store_rowV (o := ⟨none, .store 54 (.tmp 4) (.tmp 26), _, _, _, _⟩) rfl 54 (.tmp 4) (.tmp 26) rfl w1.heap.size rfl 32 54 _ (fun _ => vB 0) rfl D3.out (by kernel_rfl) (fun _ _ => rfl) ?_; intro w9 R9 O9))
  refine bodyPost_ret (v := .tuple #[.agg (rowF 32 (fun _ => vB 0)), .int .i64 100]) (by exact results_rowV2 (fn := Tryz.f24) (p := 4) (u := 5) (ty := 54) rfl _ _ w1.heap.size 32 54 _ _ rfl R9.out Tryz.underlying54 rfl (by kernel_rfl)) rfl ⟨rfl, ?_⟩
  exact B3.out.trans (O9.out.below LT.out B3.out.size)
set_option maxRecDepth 100000 in
set_option maxHeartbeats 4000000 in
theorem shared_no2 (r c x : Nat) (hr : r = 1 ∨ r = 2) (hc : c < 1000000) (hx1 : 1 ≤ x) (hx2 : x < 2305843009213688669) (p : Int) (hp : elemB p = false) (w : World) (hT : Tab w) :
    Calls Tryz.prog 24 #[.agg #[.int .i64 r, .int .i64 c, .int .i64 x], .int .i64 p] w fun e w' => e = .returned (.tuple #[digV zero32, .int .i64 100]) ∧ Below w.heap.size w w' := by
  have C1 := Lib.hid (fun W h => point_yes r c x hr hc hx1 hx2 W h)
  have C2 := Lib.hid (fun W => check_no p hp W)
  have HT := Lib.hid hT
  rw [← zero_dig]
  clear hr hc hx1 hx2 hp hT
  go_enter Tryz.func24, Tryz.ntmps24
  have B0 := Lib.hid (Below.refl w.heap.size w)
  go_upto_region 1 with fail
  obtain ⟨w1, hw1⟩ : ∃ y, w.alloc (.cells #[.int .i64 r, .int .i64 c, .int .i64 x] 23) = y := ⟨_, rfl⟩
  have b1 : Below w.heap.size w w1 := by rw [← hw1]; exact (Below.refl _ _).alloc (Nat.le_refl _) _
  have S1 : Hid (RowV w1 w.heap.size 23 3 (sideF r c x)) := Lib.hid (by rw [← hw1]; exact RowV.new w _ 3 (sideF r c x))
  have z1 : w.heap.size + 1 = w1.heap.size := by rw [← hw1]; exact (Array.size_push _).symm
  rw [hw1]
  (try rw [z1])
  have B1 := Lib.hid (B0.out.trans (b1.mono B0.out.size))
  clear b1 hw1 z1 B0
  have LT := Lib.hid B1.out.size
  obtain ⟨w2, hw2⟩ : ∃ y, w1.alloc (.cells #[.int .u8 0, .int .u8 0, .int .u8 0, .int .u8 0, .int .u8 0, .int .u8 0, .int .u8 0, .int .u8 0, .int .u8 0, .int .u8 0, .int .u8 0, .int .u8 0, .int .u8 0, .int .u8 0, .int .u8 0, .int .u8 0, .int .u8 0, .int .u8 0, .int .u8 0, .int .u8 0, .int .u8 0, .int .u8 0, .int .u8 0, .int .u8 0, .int .u8 0, .int .u8 0, .int .u8 0, .int .u8 0, .int .u8 0, .int .u8 0, .int .u8 0, .int .u8 0] 54) = y := ⟨_, rfl⟩
  have b2 : Below w1.heap.size w1 w2 := by rw [← hw2]; exact (Below.refl _ _).alloc (Nat.le_refl _) _
  have D2 : Hid (RowV w2 w1.heap.size 54 32 (fun _ => vB 0)) := Lib.hid (by rw [← hw2]; exact RowV.new w1 _ 32 (fun _ => vB 0))
  have z2 : w1.heap.size + 1 = w2.heap.size := by rw [← hw2]; exact (Array.size_push _).symm
  rw [hw2]
  (try rw [z2])
  have B2 := Lib.hid (B1.out.trans (b2.mono B1.out.size))
  have S2 := Lib.hid (S1.out.below b2)
  clear b2 hw2 z2 B1 S1
  have x0 : _ = some (Value.int .i64 (r : Int)) := S2.out.cell (i := 0) (by decide)
  have x1 : _ = some (Value.int .i64 (c : Int)) := S2.out.cell (i := 1) (by decide)
  have x2 : _ = some (Value.int .i64 (x : Int)) := S2.out.cell (i := 2) (by decide)
  go_wp2_with fail
  refine (C1.out _ (HT.out.below B2.out)).mono ?_
  rintro e w3 ⟨rfl, b3⟩
  have B3 := Lib.hid (B2.out.trans (b3.mono B2.out.size))
  have S3 := Lib.hid (S2.out.below b3)
  have D3 := Lib.hid (D2.out.below b3)
  clear b3 B2 S2 D2
  clear x0 x1 x2
  go_wp2_with fail
  refine (C2.out _).mono ?_
  rintro e w4 ⟨rfl, b4⟩
  have B4 := Lib.hid (B3.out.trans (b4.mono B3.out.size))
  have S4 := Lib.hid (S3.out.below b4)
  have D4 := Lib.hid (D3.out.below b4)
  clear b4 B3 S3 D3
  go_wp2_with (first
    | ((with_reducible (show wpList _ _ _ (Oper.mk (some 31) _ _ _ _ _ :: _) _ _)); refine wpList_load_rowV rfl 54 (.tmp 4) rfl w1.heap.size rfl 32 54 _ D4.out _ Tryz.underlying54 rfl (by kernel_rfl) ?_)
    | ((with_reducible (show wpList _ _ _ (Oper.mk none _ _ _ _ _ :: _) _ _)); refine wpList_store_rowV (o := ⟨none, .store 54 (.tmp 4) (.tmp 31), _, _, _, _⟩) rfl 54 (.tmp 4) (.tmp 31) rfl w1.heap.size rfl 32 54 _ (fun _ => vB 0) rfl D4.out (by kernel_rfl) (fun _ _ => rfl) ?_; intro w9 R9 O9))
  refine bodyPost_ret (v := .tuple #[.agg (rowF 32 (fun _ => vB 0)), .int .i64 100]) (by exact results_rowV2 (fn := Tryz.f24) (p := 4) (u := 5) (ty := 54) rfl _ _ w1.heap.size 32 54 _ _ rfl R9.out Tryz.underlying54 rfl (by kernel_rfl)) rfl ⟨rfl, ?_⟩
  exact B4.out.trans (O9.out.below LT.out B4.out.size)
theorem key_1 (c x p : Nat) : keyS 1 c x p = Sha.tagged sPake.data.toList (Sha.be8 (pointS 1 c x) ++ Sha.be8 p ++ Sha.be8 (elemS 1 c x p)) := by
  unfold keyS keyL hostS guestS; rw [if_neg (by decide), if_neg (by decide)]
theorem key_2 (c x p : Nat) : keyS 2 c x p = Sha.tagged sPake.data.toList (Sha.be8 p ++ Sha.be8 (pointS 2 c x) ++ Sha.be8 (elemS 2 c x p)) := by
  unfold keyS keyL hostS guestS; rw [if_pos rfl, if_pos rfl]
theorem order1_any (a b : Int) (w : World) : Calls Tryz.prog 97 #[.int .i64 a, .int .i64 b] w fun e w' => e = .returned (.tuple #[.int .i64 a, .int .i64 b]) ∧ w = w' := by
  go_enter Tryz.func97, Tryz.ntmps97
  go_wp2_with fail
  go_ret2
  exact ⟨rfl, rfl⟩
theorem order2_any (a b : Int) (w : World) : Calls Tryz.prog 98 #[.int .i64 a, .int .i64 b] w fun e w' => e = .returned (.tuple #[.int .i64 b, .int .i64 a]) ∧ w = w' := by
  go_enter Tryz.func98, Tryz.ntmps98
  go_wp2_with fail
  go_ret2
  exact ⟨rfl, rfl⟩
set_option maxRecDepth 100000 in
set_option maxHeartbeats 4000000 in
theorem shared_yes1 (c x p : Nat) (hc : c < 1000000) (hx1 : 1 ≤ x) (hx2 : x < 2305843009213688669) (hp : El p) (w : World) (hT : Tab w) :
    Calls Tryz.prog 24 #[.agg #[.int .i64 1, .int .i64 c, .int .i64 x], .int .i64 (p : Int)] w fun e w' => e = .returned (.tuple #[digV (keyS 1 c x p), .int .i64 0]) ∧ Below w.heap.size w w' := by
  have C1 : ∀ W, Tab W → Calls Tryz.prog 33 #[.agg #[.int .i64 1, .int .i64 c, .int .i64 x]] W fun e w' => e = .returned (.tuple #[.int .i64 ((pointS 1 c x : Nat) : Int), .int .i64 0]) ∧ Below W.heap.size W w' := fun W h => point_yes 1 c x (by omega) hc hx1 hx2 W h
  have C2 := fun W => check_El hp W
  have C4 : ∀ W, Tab W → Calls Tryz.prog 55 #[.agg #[.string sGuest, .func (.func 98) #[] #[]], .int .i64 (c : Int)] W fun e w' => e = .returned (.int .i64 ((maskedM 2 c : Nat) : Int)) ∧ Below W.heap.size W w' := fun W h => masked_any 2 _ c (by omega) W h
  have C5 := fun W => ginv_el (maskedM_El 2 c) rfl W
  have C6 := fun W => gmul_el hp (powP_pos (maskedM_El 2 c) 2305843009213688668) rfl W
  have C7 := fun W => gexp_el (El.mul hp (powP_pos (maskedM_El 2 c) 2305843009213688668)) hx2 rfl W
  rw [show powP (mulP p (powP (maskedM 2 c) 2305843009213688668)) x = elemS 1 c x p from rfl] at C7
  have C10 : ∀ v W, BytesAt W v (Sha.be8 (pointS 1 c x) ++ Sha.be8 (p) ++ Sha.be8 (elemS 1 c x p)) → Tab W → Calls Tryz.prog 27 #[.string sPake, v] W fun e w' => e = .returned (digV (Sha.tagged sPake.data.toList (Sha.be8 (pointS 1 c x) ++ Sha.be8 p ++ Sha.be8 (elemS 1 c x p)))) ∧ Below W.heap.size W w' := fun v W hv hT => tagged_any sPake v _ W (by decide) (by rw [be8_3]; decide) hv hT
  rw [← key_1] at C10
  have hl1 : ∀ (W : World) m, RolesAt W m → (Instr.lookup 100 (.map (some m)) (.int .i64 1) false).run Tryz.prog W = .ok (.agg #[.string sHost, .func (.func 97) #[] #[]]) W := fun W m h => look_plain (k := 1) h (by omega)
  have hl2 : ∀ (W : World) m, RolesAt W m → (Instr.lookup 100 (.map (some m)) (.int .i64 2) false).run Tryz.prog W = .ok (.agg #[.string sGuest, .func (.func 98) #[] #[]]) W := fun W m h => look_plain (k := 2) h (by omega)
  have hfd : ∀ W, (Instr.field 105 (.agg #[.string sHost, .func (.func 97) #[] #[]]) 1).run Tryz.prog W = .ok (.func (.func 97) #[] #[]) W := fun W => by kernel_rfl
  have b1 := (pointS_El 1 c x).lt63
  have b2 := hp.lt63
  have b3 := (elemS_El hp 1 c x).lt63
  unfold digV at C10 ⊢
  obtain ⟨G, hG⟩ : ∃ g, (fun i => vB ((keyS 1 c x p).getD i 0)) = g := ⟨_, rfl⟩
  have g1 : ∀ j, j < 32 → (G j).oneCell' = true := by intro j _; rw [← hG]; rfl
  rw [hG] at C10 ⊢
  obtain ⟨E, hE⟩ : ∃ P, elemS 1 c x p = P := ⟨_, rfl⟩
  obtain ⟨Y, hY⟩ : ∃ P, mulP p (powP (maskedM 2 c) 2305843009213688668) = P := ⟨_, rfl⟩
  obtain ⟨I, hI⟩ : ∃ P, powP (maskedM 2 c) 2305843009213688668 = P := ⟨_, rfl⟩
  obtain ⟨M, hM⟩ : ∃ P, maskedM 2 c = P := ⟨_, rfl⟩
  obtain ⟨P, hP⟩ : ∃ P, pointS 1 c x = P := ⟨_, rfl⟩
  rw [hE] at C7 C10 b3
  rw [hY] at C6 C7
  rw [hI] at C5 C6
  rw [hM] at C4 C5
  rw [hP] at C1 C10 b1
  obtain ⟨zs, hzs⟩ : ∃ l : List Nat, [P, p, E] = l := ⟨_, rfl⟩
  have hz : ∀ k, k < 3 → zs.getD k 0 < 9223372036854775808 := by
    intro k hk
    have : k = 0 ∨ k = 1 ∨ k = 2 := by omega
    rw [← hzs]
    rcases this with rfl | rfl | rfl
    · exact b1
    · exact b2
    · exact b3
  have hstep : ∀ k, k < 3 → ((zs.take (k + 1)).map Sha.be8).flatten = ((zs.take k).map Sha.be8).flatten ++ Sha.be8 (zs.getD k 0) := by
    intro k hk
    have : k = 0 ∨ k = 1 ∨ k = 2 := by omega
    rw [← hzs]
    rcases this with rfl | rfl | rfl <;> simp
  have hall : ((zs.take 3).map Sha.be8).flatten = Sha.be8 P ++ Sha.be8 p ++ Sha.be8 E := by rw [← hzs]; simp
  have hle : ∀ k, k ≤ 3 → ((zs.take k).map Sha.be8).flatten.length ≤ 24 := by
    intro k hk
    have : k = 0 ∨ k = 1 ∨ k = 2 ∨ k = 3 := by omega
    rw [← hzs]
    rcases this with rfl | rfl | rfl | rfl <;> simp [be8_len]
  rw [← hall] at C10
  have hrow : ∀ W : World, RowV (W.alloc (.cells #[.int .i64 (P : Int), .int .i64 (p : Int), .int .i64 (E : Int)] 3)) W.heap.size 3 3 (fun i => .int .i64 ((zs.getD i 0 : Nat) : Int)) := by
    intro W; rw [← hzs]; exact RowV.new W 3 3 (fun i => .int .i64 (([P, p, E].getD i 0 : Nat) : Int))
  have H1 := Lib.hid C1; have H2 := Lib.hid C2; have H3 := Lib.hid (fun W => roles_any W); have H4 := Lib.hid C4; have H5 := Lib.hid C5; have H6 := Lib.hid C6; have H7 := Lib.hid C7; have H8 := Lib.hid (fun a b W => order1_any a b W); have H9 := Lib.hid (fun n hn W => eight_any n hn W); have H10 := Lib.hid C10
  have HL1 := Lib.hid hl1; have HL2 := Lib.hid hl2; have HT := Lib.hid hT; have G1 := Lib.hid g1; have HZ := Lib.hid hz; have HS := Lib.hid hstep; have HLE := Lib.hid hle; have HR := Lib.hid hrow
  clear C1 C2 C4 C5 C6 C7 C10 hl1 hl2 hT g1 hz hstep hle hrow hall hzs hE hY hI hM hP hG b1 b2 b3 hc hx1 hx2 hp
  go_enter Tryz.func24, Tryz.ntmps24
  have B0 := Lib.hid (Below.refl w.heap.size w)
  go_upto_region 1 with fail
  obtain ⟨w1, hw1⟩ : ∃ y, w.alloc (.cells #[.int .i64 1, .int .i64 c, .int .i64 x] 23) = y := ⟨_, rfl⟩
  have b1 : Below w.heap.size w w1 := by rw [← hw1]; exact (Below.refl _ _).alloc (Nat.le_refl _) _
  have S1 : Hid (RowV w1 w.heap.size 23 3 (sideF 1 c x)) := Lib.hid (by rw [← hw1]; exact RowV.new w _ 3 (sideF 1 c x))
  have z1 : w.heap.size + 1 = w1.heap.size := by rw [← hw1]; exact (Array.size_push _).symm
  rw [hw1]
  (try rw [z1])
  have B1 := Lib.hid (B0.out.trans (b1.mono B0.out.size))
  clear b1 hw1 z1 B0
  have LT := Lib.hid B1.out.size
  obtain ⟨w2, hw2⟩ : ∃ y, w1.alloc (.cells #[.int .u8 0, .int .u8 0, .int .u8 0, .int .u8 0, .int .u8 0, .int .u8 0, .int .u8 0, .int .u8 0, .int .u8 0, .int .u8 0, .int .u8 0, .int .u8 0, .int .u8 0, .int .u8 0, .int .u8 0, .int .u8 0, .int .u8 0, .int .u8 0, .int .u8 0, .int .u8 0, .int .u8 0, .int .u8 0, .int .u8 0, .int .u8 0, .int .u8 0, .int .u8 0, .int .u8 0, .int .u8 0, .int .u8 0, .int .u8 0, .int .u8 0, .int .u8 0] 54) = y := ⟨_, rfl⟩
  have b2 : Below w1.heap.size w1 w2 := by rw [← hw2]; exact (Below.refl _ _).alloc (Nat.le_refl _) _
  have D2 : Hid (RowV w2 w1.heap.size 54 32 (fun _ => vB 0)) := Lib.hid (by rw [← hw2]; exact RowV.new w1 _ 32 (fun _ => vB 0))
  have z2 : w1.heap.size + 1 = w2.heap.size := by rw [← hw2]; exact (Array.size_push _).symm
  rw [hw2]
  (try rw [z2])
  have B2 := Lib.hid (B1.out.trans (b2.mono B1.out.size))
  have S2 := Lib.hid (S1.out.below b2)
  clear b2 hw2 z2 B1 S1
  have x0 : _ = some (Value.int .i64 1) := S2.out.cell (i := 0) (by decide)
  have x1 : _ = some (Value.int .i64 (c : Int)) := S2.out.cell (i := 1) (by decide)
  have x2 : _ = some (Value.int .i64 (x : Int)) := S2.out.cell (i := 2) (by decide)
  go_wp2_with fail
  refine (H1.out _ (HT.out.below B2.out)).mono ?_
  rintro e w3 ⟨rfl, b3⟩
  have B3 := Lib.hid (B2.out.trans (b3.mono B2.out.size))
  have S3 := Lib.hid (S2.out.below b3)
  have D3 := Lib.hid (D2.out.below b3)
  clear b3 B2 S2 D2
  clear x0 x1 x2
  go_wp2_with fail
  refine (H2.out _).mono ?_
  rintro e w4 ⟨rfl, b4⟩
  have B4 := Lib.hid (B3.out.trans (b4.mono B3.out.size))
  have S4 := Lib.hid (S3.out.below b4)
  have D4 := Lib.hid (D3.out.below b4)
  clear b4 B3 S3 D3
  go_wp2_with fail
  refine (H3.out _).mono ?_
  rintro e w5 ⟨⟨m, rfl, hm⟩, b5⟩
  have B5 := Lib.hid (B4.out.trans (b5.mono B4.out.size))
  have S5 := Lib.hid (S4.out.below b5)
  have D5 := Lib.hid (D4.out.below b5)
  have M5 := Lib.hid hm
  clear b5 hm B4 S4 D4
  have q1 := HL2.out _ _ M5.out
  have x0 : _ = some (Value.int .i64 1) := S5.out.cell (i := 0) (by decide)
  have x1 : _ = some (Value.int .i64 (c : Int)) := S5.out.cell (i := 1) (by decide)
  go_wp2_with fail
  refine (H4.out _ (HT.out.below B5.out)).mono ?_
  rintro e w6 ⟨rfl, b6⟩
  have B6 := Lib.hid (B5.out.trans (b6.mono B5.out.size))
  have S6 := Lib.hid (S5.out.below b6)
  have D6 := Lib.hid (D5.out.below b6)
  have M6 := Lib.hid (M5.out.below b6)
  clear b6 B5 S5 D5 M5
  clear q1 x0 x1
  go_wp2_with fail
  refine (H5.out _).mono ?_
  rintro e w7 ⟨rfl, b7⟩
  have B7 := Lib.hid (B6.out.trans (b7.mono B6.out.size))
  have S7 := Lib.hid (S6.out.below b7)
  have D7 := Lib.hid (D6.out.below b7)
  have M7 := Lib.hid (M6.out.below b7)
  clear b7 B6 S6 D6 M6
  go_wp2_with fail
  refine (H6.out _).mono ?_
  rintro e w8 ⟨rfl, b8⟩
  have B8 := Lib.hid (B7.out.trans (b8.mono B7.out.size))
  have S8 := Lib.hid (S7.out.below b8)
  have D8 := Lib.hid (D7.out.below b8)
  have M8 := Lib.hid (M7.out.below b8)
  clear b8 B7 S7 D7 M7
  have x2 : _ = some (Value.int .i64 (x : Int)) := S8.out.cell (i := 2) (by decide)
  go_wp2_with fail
  refine (H7.out _).mono ?_
  rintro e w9 ⟨rfl, b9⟩
  have B9 := Lib.hid (B8.out.trans (b9.mono B8.out.size))
  have S9 := Lib.hid (S8.out.below b9)
  have D9 := Lib.hid (D8.out.below b9)
  have M9 := Lib.hid (M8.out.below b9)
  clear b9 B8 S8 D8 M8
  clear x2
  have q1 := HL1.out _ _ M9.out
  have x0 : _ = some (Value.int .i64 1) := S9.out.cell (i := 0) (by decide)
  go_wp2_with fail
  refine (H8.out _ _ _).mono ?_
  rintro e wp ⟨rfl, rfl⟩
  clear q1 x0
  go_wp2_with fail
  obtain ⟨w10, hw10⟩ : ∃ y, w9.alloc (.cells #[.int .i64 (P : Int), .int .i64 (p : Int), .int .i64 (E : Int)] 3) = y := ⟨_, rfl⟩
  have b10 : Below w9.heap.size w9 w10 := by rw [← hw10]; exact (Below.refl _ _).alloc (Nat.le_refl _) _
  have R10 : Hid (RowV w10 w9.heap.size 3 3 (fun i => .int .i64 ((zs.getD i 0 : Nat) : Int))) := Lib.hid (by rw [← hw10]; exact HR.out w9)
  have z10 : w9.heap.size + 1 = w10.heap.size := by rw [← hw10]; exact (Array.size_push _).symm
  rw [hw10]
  (try rw [z10])
  have B10 := Lib.hid (B9.out.trans (b10.mono B9.out.size))
  have S10 := Lib.hid (S9.out.below b10)
  have D10 := Lib.hid (D9.out.below b10)
  have M10 := Lib.hid (M9.out.below b10)
  clear b10 hw10 z10 B9 S9 D9 M9
  have SZ := Lib.hid B10.out.size
  go_loopg [16, 74] 3 (fun g s16 s74 wx => ∃ (k : Nat) (u : Value), k + g = 3 ∧ s74 = .int .i64 (k : Int) ∧ s16 = u ∧ Hid (Owns wx w10.heap.size u ((zs.take k).map Sha.be8).flatten) ∧ Hid (Below w10.heap.size w10 wx))
  case atStart => exact ⟨0, _, by omega, rfl, rfl, Lib.hid (Owns.nil _ _), Lib.hid (Below.refl _ _)⟩
  case round =>
    obtain ⟨k, u, hk, rfl, e2, hO, hB⟩ := hrel
    obtain rfl : u = _ := e2.symm
    by_cases hk3 : k < 3
    · have d0 : decide ((k : Int) < 3) = true := by rw [decide_eq_true_iff]; omega
      have z1 : (0 : Int) ≤ (k : Int) := Int.natCast_nonneg k
      have z2 : (k : Int) < 3 := by omega
      have p0 : 0 ≤ (k : Int) ∧ (k : Int) < 3 := by omega
      have z3 : ((k : Int)).toNat = k := Int.toNat_natCast k
      have c0 := (R10.out.below hB.out).cell (i := k) hk3
      have Hn := Lib.hid (HZ.out k hk3)
      have Hst := Lib.hid (HS.out k hk3)
      have Hl := HLE.out k (by omega)
      obtain ⟨n, hn⟩ : ∃ n, zs.getD k 0 = n := ⟨_, rfl⟩
      obtain ⟨l, hl⟩ : ∃ l, ((zs.take k).map Sha.be8).flatten = l := ⟨_, rfl⟩
      rw [hn] at c0 Hn Hst
      rw [hl] at hO Hst Hl
      have L1 := Lib.hid (show l.length + (Sha.be8 n).length ≤ 140737488351232 from by rw [be8_len]; omega)
      clear hn hl Hl hk3
      go_wp2_with fail
      refine (H9.out n Hn.out _).mono ?_
      rintro e w11 ⟨⟨u2, rfl, o2⟩, b2⟩
      have O2 := Lib.hid (o2.bytesAt (by rw [be8_len]; omega))
      have hO2 := Lib.hid (hO.out.below b2)
      have B11 := Lib.hid (hB.out.trans (b2.mono hB.out.size))
      clear o2 b2 hO hB c0
      go_wp2_with ((with_reducible (show wpList _ _ _ (Oper.mk (some 81) _ _ _ _ _ :: _) _ _)); refine wpList_append_bytes rfl (.tmp 78) (.tmp 80) rfl w10.heap.size u u2 l (Sha.be8 n) rfl rfl hO2.out O2.out L1.out B11.out.size ?_; intro v3 w12 O3 B3 _)
      go_roundg (gk - 1)
      case measure => omega
      case rel =>
        go_light
        exact ⟨k + 1, v3, by omega, rfl, rfl, Lib.hid (by rw [Hst.out]; exact O3.out), Lib.hid (B11.out.trans B3.out)⟩
    · obtain rfl : k = 3 := by omega
      have d0 : decide (((3 : Nat) : Int) < 3) = false := by decide
      have BF := B10.out.trans (hB.out.mono SZ.out)
      have DF := Lib.hid (D10.out.below hB.out)
      have BH := Lib.hid hB.out.size
      go_wp2_with fail
      refine (H10.out _ _ (hO.out.bytesAt (by have := HLE.out 3 (by omega); omega)) (HT.out.below BF)).mono ?_
      rintro e w11 ⟨rfl, b5⟩
      have B11 := Lib.hid (BF.trans (b5.mono BF.size))
      have D11 := Lib.hid (DF.out.below b5)
      clear b5 BF DF
      go_wp2_with ((with_reducible (show wpList _ _ _ (Oper.mk none _ _ _ _ _ :: _) _ _)); refine wpList_store_rowV (o := ⟨none, .store 54 (.tmp 4) (.tmp 84), _, _, _, _⟩) rfl 54 (.tmp 4) (.tmp 84) rfl w1.heap.size rfl 32 54 _ G rfl D11.out (by kernel_rfl) G1.out ?_; intro w12 R12 O12)
      refine bodyPost_ret (v := .tuple #[.agg (rowF 32 G), .int .i64 0]) (by exact results_rowV2 (fn := Tryz.f24) (p := 4) (u := 5) (ty := 54) rfl _ _ w1.heap.size 32 54 _ _ rfl R12.out Tryz.underlying54 rfl (by kernel_rfl)) rfl ⟨rfl, ?_⟩
      exact B11.out.trans (O12.out.below LT.out B11.out.size)
set_option maxRecDepth 100000 in
set_option maxHeartbeats 4000000 in
theorem shared_yes2 (c x p : Nat) (hc : c < 1000000) (hx1 : 1 ≤ x) (hx2 : x < 2305843009213688669) (hp : El p) (w : World) (hT : Tab w) :
    Calls Tryz.prog 24 #[.agg #[.int .i64 2, .int .i64 c, .int .i64 x], .int .i64 (p : Int)] w fun e w' => e = .returned (.tuple #[digV (keyS 2 c x p), .int .i64 0]) ∧ Below w.heap.size w w' := by
  have C1 : ∀ W, Tab W → Calls Tryz.prog 33 #[.agg #[.int .i64 2, .int .i64 c, .int .i64 x]] W fun e w' => e = .returned (.tuple #[.int .i64 ((pointS 2 c x : Nat) : Int), .int .i64 0]) ∧ Below W.heap.size W w' := fun W h => point_yes 2 c x (by omega) hc hx1 hx2 W h
  have C2 := fun W => check_El hp W
  have C4 : ∀ W, Tab W → Calls Tryz.prog 55 #[.agg #[.string sHost, .func (.func 97) #[] #[]], .int .i64 (c : Int)] W fun e w' => e = .returned (.int .i64 ((maskedM 1 c : Nat) : Int)) ∧ Below W.heap.size W w' := fun W h => masked_any 1 _ c (by omega) W h
  have C5 := fun W => ginv_el (maskedM_El 1 c) rfl W
  have C6 := fun W => gmul_el hp (powP_pos (maskedM_El 1 c) 2305843009213688668) rfl W
  have C7 := fun W => gexp_el (El.mul hp (powP_pos (maskedM_El 1 c) 2305843009213688668)) hx2 rfl W
  rw [show powP (mulP p (powP (maskedM 1 c) 2305843009213688668)) x = elemS 2 c x p from rfl] at C7
  have C10 : ∀ v W, BytesAt W v (Sha.be8 p ++ Sha.be8 (pointS 2 c x) ++ Sha.be8 (elemS 2 c x p)) → Tab W → Calls Tryz.prog 27 #[.string sPake, v] W fun e w' => e = .returned (digV (Sha.tagged sPake.data.toList (Sha.be8 p ++ Sha.be8 (pointS 2 c x) ++ Sha.be8 (elemS 2 c x p)))) ∧ Below W.heap.size W w' := fun v W hv hT => tagged_any sPake v _ W (by decide) (by rw [be8_3]; decide) hv hT
  rw [← key_2] at C10
  have hl1 : ∀ (W : World) m, RolesAt W m → (Instr.lookup 100 (.map (some m)) (.int .i64 2) false).run Tryz.prog W = .ok (.agg #[.string sGuest, .func (.func 98) #[] #[]]) W := fun W m h => look_plain (k := 2) h (by omega)
  have hl2 : ∀ (W : World) m, RolesAt W m → (Instr.lookup 100 (.map (some m)) (.int .i64 1) false).run Tryz.prog W = .ok (.agg #[.string sHost, .func (.func 97) #[] #[]]) W := fun W m h => look_plain (k := 1) h (by omega)
  have hfd : ∀ W, (Instr.field 105 (.agg #[.string sGuest, .func (.func 98) #[] #[]]) 1).run Tryz.prog W = .ok (.func (.func 98) #[] #[]) W := fun W => by kernel_rfl
  have b1 := (pointS_El 2 c x).lt63
  have b2 := hp.lt63
  have b3 := (elemS_El hp 2 c x).lt63
  unfold digV at C10 ⊢
  obtain ⟨G, hG⟩ : ∃ g, (fun i => vB ((keyS 2 c x p).getD i 0)) = g := ⟨_, rfl⟩
  have g1 : ∀ j, j < 32 → (G j).oneCell' = true := by intro j _; rw [← hG]; rfl
  rw [hG] at C10 ⊢
  obtain ⟨E, hE⟩ : ∃ P, elemS 2 c x p = P := ⟨_, rfl⟩
  obtain ⟨Y, hY⟩ : ∃ P, mulP p (powP (maskedM 1 c) 2305843009213688668) = P := ⟨_, rfl⟩
  obtain ⟨I, hI⟩ : ∃ P, powP (maskedM 1 c) 2305843009213688668 = P := ⟨_, rfl⟩
  obtain ⟨M, hM⟩ : ∃ P, maskedM 1 c = P := ⟨_, rfl⟩
  obtain ⟨P, hP⟩ : ∃ P, pointS 2 c x = P := ⟨_, rfl⟩
  rw [hE] at C7 C10 b3
  rw [hY] at C6 C7
  rw [hI] at C5 C6
  rw [hM] at C4 C5
  rw [hP] at C1 C10 b1
  obtain ⟨zs, hzs⟩ : ∃ l : List Nat, [p, P, E] = l := ⟨_, rfl⟩
  have hz : ∀ k, k < 3 → zs.getD k 0 < 9223372036854775808 := by
    intro k hk
    have : k = 0 ∨ k = 1 ∨ k = 2 := by omega
    rw [← hzs]
    rcases this with rfl | rfl | rfl
    · exact b2
    · exact b1
    · exact b3
  have hstep : ∀ k, k < 3 → ((zs.take (k + 1)).map Sha.be8).flatten = ((zs.take k).map Sha.be8).flatten ++ Sha.be8 (zs.getD k 0) := by
    intro k hk
    have : k = 0 ∨ k = 1 ∨ k = 2 := by omega
    rw [← hzs]
    rcases this with rfl | rfl | rfl <;> simp
  have hall : ((zs.take 3).map Sha.be8).flatten = Sha.be8 p ++ Sha.be8 P ++ Sha.be8 E := by rw [← hzs]; simp
  have hle : ∀ k, k ≤ 3 → ((zs.take k).map Sha.be8).flatten.length ≤ 24 := by
    intro k hk
    have : k = 0 ∨ k = 1 ∨ k = 2 ∨ k = 3 := by omega
    rw [← hzs]
    rcases this with rfl | rfl | rfl | rfl <;> simp [be8_len]
  rw [← hall] at C10
  have hrow : ∀ W : World, RowV (W.alloc (.cells #[.int .i64 (p : Int), .int .i64 (P : Int), .int .i64 (E : Int)] 3)) W.heap.size 3 3 (fun i => .int .i64 ((zs.getD i 0 : Nat) : Int)) := by
    intro W; rw [← hzs]; exact RowV.new W 3 3 (fun i => .int .i64 (([p, P, E].getD i 0 : Nat) : Int))
  have H1 := Lib.hid C1; have H2 := Lib.hid C2; have H3 := Lib.hid (fun W => roles_any W); have H4 := Lib.hid C4; have H5 := Lib.hid C5; have H6 := Lib.hid C6; have H7 := Lib.hid C7; have H8 := Lib.hid (fun a b W => order2_any a b W); have H9 := Lib.hid (fun n hn W => eight_any n hn W); have H10 := Lib.hid C10
  have HL1 := Lib.hid hl1; have HL2 := Lib.hid hl2; have HT := Lib.hid hT; have G1 := Lib.hid g1; have HZ := Lib.hid hz; have HS := Lib.hid hstep; have HLE := Lib.hid hle; have HR := Lib.hid hrow
  clear C1 C2 C4 C5 C6 C7 C10 hl1 hl2 hT g1 hz hstep hle hrow hall hzs hE hY hI hM hP hG b1 b2 b3 hc hx1 hx2 hp
  go_enter Tryz.func24, Tryz.ntmps24
  have B0 := Lib.hid (Below.refl w.heap.size w)
  go_upto_region 1 with fail
  obtain ⟨w1, hw1⟩ : ∃ y, w.alloc (.cells #[.int .i64 2, .int .i64 c, .int .i64 x] 23) = y := ⟨_, rfl⟩
  have b1 : Below w.heap.size w w1 := by rw [← hw1]; exact (Below.refl _ _).alloc (Nat.le_refl _) _
  have S1 : Hid (RowV w1 w.heap.size 23 3 (sideF 2 c x)) := Lib.hid (by rw [← hw1]; exact RowV.new w _ 3 (sideF 2 c x))
  have z1 : w.heap.size + 1 = w1.heap.size := by rw [← hw1]; exact (Array.size_push _).symm
  rw [hw1]
  (try rw [z1])
  have B1 := Lib.hid (B0.out.trans (b1.mono B0.out.size))
  clear b1 hw1 z1 B0
  have LT := Lib.hid B1.out.size
  obtain ⟨w2, hw2⟩ : ∃ y, w1.alloc (.cells #[.int .u8 0, .int .u8 0, .int .u8 0, .int .u8 0, .int .u8 0, .int .u8 0, .int .u8 0, .int .u8 0, .int .u8 0, .int .u8 0, .int .u8 0, .int .u8 0, .int .u8 0, .int .u8 0, .int .u8 0, .int .u8 0, .int .u8 0, .int .u8 0, .int .u8 0, .int .u8 0, .int .u8 0, .int .u8 0, .int .u8 0, .int .u8 0, .int .u8 0, .int .u8 0, .int .u8 0, .int .u8 0, .int .u8 0, .int .u8 0, .int .u8 0, .int .u8 0] 54) = y := ⟨_, rfl⟩
  have b2 : Below w1.heap.size w1 w2 := by rw [← hw2]; exact (Below.refl _ _).alloc (Nat.le_refl _) _
  have D2 : Hid (RowV w2 w1.heap.size 54 32 (fun _ => vB 0)) := Lib.hid (by rw [← hw2]; exact RowV.new w1 _ 32 (fun _ => vB 0))
  have z2 : w1.heap.size + 1 = w2.heap.size := by rw [← hw2]; exact (Array.size_push _).symm
  rw [hw2]
  (try rw [z2])
  have B2 := Lib.hid (B1.out.trans (b2.mono B1.out.size))
  have S2 := Lib.hid (S1.out.below b2)
  clear b2 hw2 z2 B1 S1
  have x0 : _ = some (Value.int .i64 2) := S2.out.cell (i := 0) (by decide)
  have x1 : _ = some (Value.int .i64 (c : Int)) := S2.out.cell (i := 1) (by decide)
  have x2 : _ = some (Value.int .i64 (x : Int)) := S2.out.cell (i := 2) (by decide)
  go_wp2_with fail
  refine (H1.out _ (HT.out.below B2.out)).mono ?_
  rintro e w3 ⟨rfl, b3⟩
  have B3 := Lib.hid (B2.out.trans (b3.mono B2.out.size))
  have S3 := Lib.hid (S2.out.below b3)
  have D3 := Lib.hid (D2.out.below b3)
  clear b3 B2 S2 D2
  clear x0 x1 x2
  go_wp2_with fail
  refine (H2.out _).mono ?_
  rintro e w4 ⟨rfl, b4⟩
  have B4 := Lib.hid (B3.out.trans (b4.mono B3.out.size))
  have S4 := Lib.hid (S3.out.below b4)
  have D4 := Lib.hid (D3.out.below b4)
  clear b4 B3 S3 D3
  go_wp2_with fail
  refine (H3.out _).mono ?_
  rintro e w5 ⟨⟨m, rfl, hm⟩, b5⟩
  have B5 := Lib.hid (B4.out.trans (b5.mono B4.out.size))
  have S5 := Lib.hid (S4.out.below b5)
  have D5 := Lib.hid (D4.out.below b5)
  have M5 := Lib.hid hm
  clear b5 hm B4 S4 D4
  have q1 := HL2.out _ _ M5.out
  have x0 : _ = some (Value.int .i64 2) := S5.out.cell (i := 0) (by decide)
  have x1 : _ = some (Value.int .i64 (c : Int)) := S5.out.cell (i := 1) (by decide)
  go_wp2_with fail
  refine (H4.out _ (HT.out.below B5.out)).mono ?_
  rintro e w6 ⟨rfl, b6⟩
  have B6 := Lib.hid (B5.out.trans (b6.mono B5.out.size))
  have S6 := Lib.hid (S5.out.below b6)
  have D6 := Lib.hid (D5.out.below b6)
  have M6 := Lib.hid (M5.out.below b6)
  clear b6 B5 S5 D5 M5
  clear q1 x0 x1
  go_wp2_with fail
  refine (H5.out _).mono ?_
  rintro e w7 ⟨rfl, b7⟩
  have B7 := Lib.hid (B6.out.trans (b7.mono B6.out.size))
  have S7 := Lib.hid (S6.out.below b7)
  have D7 := Lib.hid (D6.out.below b7)
  have M7 := Lib.hid (M6.out.below b7)
  clear b7 B6 S6 D6 M6
  go_wp2_with fail
  refine (H6.out _).mono ?_
  rintro e w8 ⟨rfl, b8⟩
  have B8 := Lib.hid (B7.out.trans (b8.mono B7.out.size))
  have S8 := Lib.hid (S7.out.below b8)
  have D8 := Lib.hid (D7.out.below b8)
  have M8 := Lib.hid (M7.out.below b8)
  clear b8 B7 S7 D7 M7
  have x2 : _ = some (Value.int .i64 (x : Int)) := S8.out.cell (i := 2) (by decide)
  go_wp2_with fail
  refine (H7.out _).mono ?_
  rintro e w9 ⟨rfl, b9⟩
  have B9 := Lib.hid (B8.out.trans (b9.mono B8.out.size))
  have S9 := Lib.hid (S8.out.below b9)
  have D9 := Lib.hid (D8.out.below b9)
  have M9 := Lib.hid (M8.out.below b9)
  clear b9 B8 S8 D8 M8
  clear x2
  have q1 := HL1.out _ _ M9.out
  have x0 : _ = some (Value.int .i64 2) := S9.out.cell (i := 0) (by decide)
  go_wp2_with fail
  refine (H8.out _ _ _).mono ?_
  rintro e wp ⟨rfl, rfl⟩
  clear q1 x0
  go_wp2_with fail
  obtain ⟨w10, hw10⟩ : ∃ y, w9.alloc (.cells #[.int .i64 (p : Int), .int .i64 (P : Int), .int .i64 (E : Int)] 3) = y := ⟨_, rfl⟩
  have b10 : Below w9.heap.size w9 w10 := by rw [← hw10]; exact (Below.refl _ _).alloc (Nat.le_refl _) _
  have R10 : Hid (RowV w10 w9.heap.size 3 3 (fun i => .int .i64 ((zs.getD i 0 : Nat) : Int))) := Lib.hid (by rw [← hw10]; exact HR.out w9)
  have z10 : w9.heap.size + 1 = w10.heap.size := by rw [← hw10]; exact (Array.size_push _).symm
  rw [hw10]
  (try rw [z10])
  have B10 := Lib.hid (B9.out.trans (b10.mono B9.out.size))
  have S10 := Lib.hid (S9.out.below b10)
  have D10 := Lib.hid (D9.out.below b10)
  have M10 := Lib.hid (M9.out.below b10)
  clear b10 hw10 z10 B9 S9 D9 M9
  have SZ := Lib.hid B10.out.size
  go_loopg [16, 74] 3 (fun g s16 s74 wx => ∃ (k : Nat) (u : Value), k + g = 3 ∧ s74 = .int .i64 (k : Int) ∧ s16 = u ∧ Hid (Owns wx w10.heap.size u ((zs.take k).map Sha.be8).flatten) ∧ Hid (Below w10.heap.size w10 wx))
  case atStart => exact ⟨0, _, by omega, rfl, rfl, Lib.hid (Owns.nil _ _), Lib.hid (Below.refl _ _)⟩
  case round =>
    obtain ⟨k, u, hk, rfl, e2, hO, hB⟩ := hrel
    obtain rfl : u = _ := e2.symm
    by_cases hk3 : k < 3
    · have d0 : decide ((k : Int) < 3) = true := by rw [decide_eq_true_iff]; omega
      have z1 : (0 : Int) ≤ (k : Int) := Int.natCast_nonneg k
      have z2 : (k : Int) < 3 := by omega
      have p0 : 0 ≤ (k : Int) ∧ (k : Int) < 3 := by omega
      have z3 : ((k : Int)).toNat = k := Int.toNat_natCast k
      have c0 := (R10.out.below hB.out).cell (i := k) hk3
      have Hn := Lib.hid (HZ.out k hk3)
      have Hst := Lib.hid (HS.out k hk3)
      have Hl := HLE.out k (by omega)
      obtain ⟨n, hn⟩ : ∃ n, zs.getD k 0 = n := ⟨_, rfl⟩
      obtain ⟨l, hl⟩ : ∃ l, ((zs.take k).map Sha.be8).flatten = l := ⟨_, rfl⟩
      rw [hn] at c0 Hn Hst
      rw [hl] at hO Hst Hl
      have L1 := Lib.hid (show l.length + (Sha.be8 n).length ≤ 140737488351232 from by rw [be8_len]; omega)
      clear hn hl Hl hk3
      go_wp2_with fail
      refine (H9.out n Hn.out _).mono ?_
      rintro e w11 ⟨⟨u2, rfl, o2⟩, b2⟩
      have O2 := Lib.hid (o2.bytesAt (by rw [be8_len]; omega))
      have hO2 := Lib.hid (hO.out.below b2)
      have B11 := Lib.hid (hB.out.trans (b2.mono hB.out.size))
      clear o2 b2 hO hB c0
      go_wp2_with ((with_reducible (show wpList _ _ _ (Oper.mk (some 81) _ _ _ _ _ :: _) _ _)); refine wpList_append_bytes rfl (.tmp 78) (.tmp 80) rfl w10.heap.size u u2 l (Sha.be8 n) rfl rfl hO2.out O2.out L1.out B11.out.size ?_; intro v3 w12 O3 B3 _)
      go_roundg (gk - 1)
      case measure => omega
      case rel =>
        go_light
        exact ⟨k + 1, v3, by omega, rfl, rfl, Lib.hid (by rw [Hst.out]; exact O3.out), Lib.hid (B11.out.trans B3.out)⟩
    · obtain rfl : k = 3 := by omega
      have d0 : decide (((3 : Nat) : Int) < 3) = false := by decide
      have BF := B10.out.trans (hB.out.mono SZ.out)
      have DF := Lib.hid (D10.out.below hB.out)
      have BH := Lib.hid hB.out.size
      go_wp2_with fail
      refine (H10.out _ _ (hO.out.bytesAt (by have := HLE.out 3 (by omega); omega)) (HT.out.below BF)).mono ?_
      rintro e w11 ⟨rfl, b5⟩
      have B11 := Lib.hid (BF.trans (b5.mono BF.size))
      have D11 := Lib.hid (DF.out.below b5)
      clear b5 BF DF
      go_wp2_with ((with_reducible (show wpList _ _ _ (Oper.mk none _ _ _ _ _ :: _) _ _)); refine wpList_store_rowV (o := ⟨none, .store 54 (.tmp 4) (.tmp 84), _, _, _, _⟩) rfl 54 (.tmp 4) (.tmp 84) rfl w1.heap.size rfl 32 54 _ G rfl D11.out (by kernel_rfl) G1.out ?_; intro w12 R12 O12)
      refine bodyPost_ret (v := .tuple #[.agg (rowF 32 G), .int .i64 0]) (by exact results_rowV2 (fn := Tryz.f24) (p := 4) (u := 5) (ty := 54) rfl _ _ w1.heap.size 32 54 _ _ rfl R12.out Tryz.underlying54 rfl (by kernel_rfl)) rfl ⟨rfl, ?_⟩
      exact B11.out.trans (O12.out.below LT.out B11.out.size)
/-- what Shared answers -/
def sharedL (r c x p : Int) : List UInt8 := if sideB r c x && elemB p then keyS r.toNat c.toNat x.toNat p.toNat else zero32
def sharedE (r c x p : Int) : Int := if sideB r c x && elemB p then 0 else 100
theorem sharedL_len (r c x p : Int) : (sharedL r c x p).length = 32 := by unfold sharedL; split; exact keyL_len _ _ _; rfl
theorem shared_any (r c x p : Int) (w : World) (hT : Tab w) :
    Calls Tryz.prog 24 #[.agg #[.int .i64 r, .int .i64 c, .int .i64 x], .int .i64 p] w fun e w' => e = .returned (.tuple #[digV (sharedL r c x p), .int .i64 (sharedE r c x p)]) ∧ Below w.heap.size w w' := by
  unfold sharedL sharedE
  cases h : sideB r c x with
  | false => exact shared_no1 r c x p h w
  | true =>
    obtain ⟨R, C, X, rfl, rfl, rfl, hr, hc, hx1, hx2⟩ := sideB_nat h
    cases h2 : elemB p with
    | false => exact shared_no2 R C X hr hc hx1 hx2 p h2 w hT
    | true =>
      obtain ⟨n, rfl, h3, h4, h5⟩ := elemB_nat h2
      rcases hr with rfl | rfl
      · exact shared_yes1 C X n hc hx1 hx2 ⟨h3, h4, h5⟩ w hT
      · exact shared_yes2 C X n hc hx1 hx2 ⟨h3, h4, h5⟩ w hT
end Go.Proofs.YtpekhdahamloaaaGreatDoor
