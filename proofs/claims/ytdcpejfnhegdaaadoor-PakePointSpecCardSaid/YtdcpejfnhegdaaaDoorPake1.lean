/- Package pake: Check. -/
import Derived.Test.YtdcpejfnhegdaaaDoorRoles
import Derived.Test.YtdcpejfnhegdaaaDoorPakeDef
import Derived.Test.YtdcpejfnhegdaaaDoorFloat3
set_option linter.unusedVariables false
set_option linter.unusedSimpArgs false
namespace Go.Proofs.YtdcpejfnhegdaaaDoor
open Go.RowKit
def sideF (r c x : Int) : Nat → Value := fun i => if i = 0 then .int .i64 r else if i = 1 then .int .i64 c else .int .i64 x
def roleRow (s : ByteArray) (fv : Value) : Nat → Value := fun i => if i = 0 then .string s else fv
theorem roleRow_one {s : ByteArray} {fv : Value} (h : fv.oneCell' = true) : ∀ j, j < 2 → (roleRow s fv j).oneCell' = true := by intro j _; unfold roleRow; split; rfl; exact h
set_option maxRecDepth 100000 in
set_option maxHeartbeats 4000000 in
theorem check10_any (r c x : Int) (w : World) :
    Calls Tryd.prog 22 #[.agg #[.int .i64 r, .int .i64 c, .int .i64 x]] w fun e w' => e = .returned (.int .i64 (chkS r c x)) ∧ Below w.heap.size w w' := by
  have key : chkS r c x = if !decide (r = 1 ∨ r = 2) || decide (c < 0) || decide (1000000 ≤ c) || decide (x < 1) || decide (2305843009213688669 ≤ x) then 100 else 0 := by
    unfold chkS sideB
    by_cases h : (1 ≤ r ∧ r ≤ 2 ∧ 0 ≤ c ∧ c < 1000000 ∧ 1 ≤ x ∧ x < 2305843009213688669)
    · rw [if_pos (by simpa using h), if_neg (by simp; omega)]
    · rw [if_neg (by simpa using h), if_pos (by simp; omega)]
  obtain ⟨v, hv⟩ : ∃ v, chkS r c x = v := ⟨_, rfl⟩
  obtain ⟨s, fv, ho, hl⟩ := look_gen r
  obtain ⟨met, hmet⟩ : ∃ b, decide (r = 1 ∨ r = 2) = b := ⟨_, rfl⟩
  rw [hmet] at hl key
  rw [hv] at key ⊢
  have HL := Lib.hid hl
  have HO := Lib.hid ho
  have C1 := Lib.hid (fun W => roles_any W)
  clear hv hl ho hmet
  go_enter Tryd.func22, Tryd.ntmps22
  go_upto_region 1 with fail
  have B0 := Lib.hid (Below.refl w.heap.size w)
  obtain ⟨w1, hw1⟩ : ∃ y, w.alloc (.cells #[.int .i64 r, .int .i64 c, .int .i64 x] 33) = y := ⟨_, rfl⟩
  have b1 : Below w.heap.size w w1 := by rw [← hw1]; exact (Below.refl _ _).alloc (Nat.le_refl _) _
  have S1 : Hid (RowV w1 w.heap.size 33 3 (sideF r c x)) := Lib.hid (by rw [← hw1]; exact RowV.new w _ 3 (sideF r c x))
  have z1 : w.heap.size + 1 = w1.heap.size := by rw [← hw1]; exact (Array.size_push _).symm
  rw [hw1]
  (try rw [z1])
  have B1 := Lib.hid (B0.out.trans (b1.mono B0.out.size))
  clear b1 hw1 z1 B0
  go_cut [4] (fun s4 wx => s4 = .bool met ∧ Below w1.heap.size w1 wx)
  case first =>
    refine St.wp_region_plan 9 [8] (St.flAll [1, 2] (.two 0 7 (St.flAll [3] (St.fpAll [4, 5, 6] (.one 7 (.st 8 .done)))) (.one 0 (St.flAll [3] (St.fpAll [4, 5, 6] (.st 8 .done)))))) (by kernel_rfl) (by kernel_rfl) ?_
    intro w2 b2 e2
    clear e2
    have B2 := Lib.hid b2
    have x0 := fun d os => cell_regrown (show w2.cell? ⟨w.heap.size, 0, none⟩ = some (.int .i64 r) from (S1.out.below b2).cell (i := 0) (by decide)) d os
    clear b2
    refine St.plan_floats [1, 2] [_, _] rfl ?_
    dsimp only [List.getElem_toArray, List.getElem_cons_succ, List.getElem_cons_zero]
    repeat (go_big_quiet_step (fail))
    refine wpQuiet_nil ?_
    clear x0
    refine St.plan_two 0 7 rfl rfl (fun K hK => ?_) (fun K hK => ?_)
    · skip
      go_wp2_with fail
      refine (C1.out _).mono ?_
      rintro e w3 ⟨⟨m, rfl, hm⟩, b3⟩
      go_wp2_with fail
      refine hK _ _ b3 ?_
      have R3 := Lib.hid hm
      have B3 := Lib.hid (B2.out.trans (b3.mono B2.out.size))
      clear hm b3 hK K
      refine St.plan_floats [3] [_] rfl ?_
      dsimp only [List.getElem_toArray, List.getElem_cons_succ, List.getElem_cons_zero]
      have hq := fun d os => HL.out _ _ (R3.out.below (below_regrown w3 d os))
      repeat (go_big_quiet_step (fail))
      refine wpQuiet_nil ?_
      clear hq
      refine St.plan_pures [4, 5, 6] [_, _, _] rfl ?_
      dsimp only [List.getElem_toArray, List.getElem_cons_succ, List.getElem_cons_zero]
      repeat (go_big_quiet_step (fail))
      refine wpQuiet_nil ?_
      refine St.plan_one 7 rfl (fun K hK => ?_)
      go_wp2_with fail
      have al := (Below.refl _ w3).alloc (Nat.le_refl _) (.cells #[.string ByteArray.empty, .nilFunc] 70)
      refine hK _ _ al ?_
      have P4 := Lib.hid (RowV.new w3 70 2 (roleRow ByteArray.empty .nilFunc))
      have B4 := Lib.hid (B3.out.trans (al.mono B3.out.size))
      clear al hK K
      refine St.plan_st 8 rfl (fun K hK => ?_)
      refine wpList_store_rowV (o := ⟨none, .store 70 (.tmp 3) (.tmp 10), _, _, _, _⟩) rfl 70 (.tmp 3) (.tmp 10) rfl w3.heap.size rfl 2 70 _ (roleRow s fv) rfl P4.out (by kernel_rfl) (roleRow_one HO.out) ?_
      intro w5 R5 O5
      refine (show wpList _ _ _ [] _ _ from hK _ _ ?_)
      have B5 := Lib.hid (B4.out.trans (O5.out.below B3.out.size B4.out.size))
      clear hK K
      refine St.plan_done (l := [_]) rfl (fun K hK => ?_)
      go_wp2_with fail
      go_meet
      exact ⟨rfl, B5.out⟩
    · skip
      go_wp2_with fail
      have al := (Below.refl _ w2).alloc (Nat.le_refl _) (.cells #[.string ByteArray.empty, .nilFunc] 70)
      refine hK _ _ al ?_
      have BW := B2.out.size
      have P3 := Lib.hid (RowV.new w2 70 2 (roleRow ByteArray.empty .nilFunc))
      have B2' := Lib.hid (B2.out.trans (al.mono B2.out.size))
      clear al hK K
      refine St.plan_one 0 rfl (fun K hK => ?_)
      go_wp2_with fail
      refine (C1.out _).mono ?_
      rintro e w3 ⟨⟨m, rfl, hm⟩, b3⟩
      go_wp2_with fail
      refine hK _ _ b3 ?_
      have R3 := Lib.hid hm
      have P4 := Lib.hid (P3.out.below b3)
      have B3 := Lib.hid (B2'.out.trans (b3.mono B2'.out.size))
      clear hm b3 hK K
      refine St.plan_floats [3] [_] rfl ?_
      dsimp only [List.getElem_toArray, List.getElem_cons_succ, List.getElem_cons_zero]
      have hq := fun d os => HL.out _ _ (R3.out.below (below_regrown w3 d os))
      repeat (go_big_quiet_step (fail))
      refine wpQuiet_nil ?_
      clear hq
      refine St.plan_pures [4, 5, 6] [_, _, _] rfl ?_
      dsimp only [List.getElem_toArray, List.getElem_cons_succ, List.getElem_cons_zero]
      repeat (go_big_quiet_step (fail))
      refine wpQuiet_nil ?_
      refine St.plan_st 8 rfl (fun K hK => ?_)
      refine wpList_store_rowV (o := ⟨none, .store 70 (.tmp 3) (.tmp 10), _, _, _, _⟩) rfl 70 (.tmp 3) (.tmp 10) rfl w2.heap.size rfl 2 70 _ (roleRow s fv) rfl P4.out (by kernel_rfl) (roleRow_one HO.out) ?_
      intro w5 R5 O5
      refine (show wpList _ _ _ [] _ _ from hK _ _ ?_)
      have B5 := Lib.hid (B3.out.trans (O5.out.below BW B3.out.size))
      clear hK K
      refine St.plan_done (l := [_]) rfl (fun K hK => ?_)
      go_wp2_with fail
      go_meet
      exact ⟨rfl, B5.out⟩
  case rest =>
    obtain ⟨rfl, Bb⟩ := hcut
    have B2 := Lib.hid (B1.out.trans (Bb.mono B1.out.size))
    have S2 := S1.out.below Bb
    have x1 : _ = some (Value.int .i64 c) := S2.cell (i := 1) (by decide)
    have x2 : _ = some (Value.int .i64 x) := S2.cell (i := 2) (by decide)
    clear Bb B1 S1 S2 HL HO C1
    cases met with
    | false =>
      obtain rfl : v = 100 := by rw [key]; rfl
      clear key
      go_wp2_with fail
      go_ret
      exact ⟨rfl, B2.out⟩
    | true =>
      cases t0 : decide (c < 0) with
      | true =>
        obtain rfl : v = 100 := by rw [key]; simp only [t0]; rfl
        clear key
        go_wp2_with fail
        go_ret
        exact ⟨rfl, B2.out⟩
      | false =>
        cases t1 : decide (1000000 ≤ c) with
        | true =>
          obtain rfl : v = 100 := by rw [key]; simp only [t0, t1]; rfl
          clear key
          go_wp2_with fail
          go_ret
          exact ⟨rfl, B2.out⟩
        | false =>
          cases t2 : decide (x < 1) with
          | true =>
            obtain rfl : v = 100 := by rw [key]; simp only [t0, t1, t2]; rfl
            clear key
            go_wp2_with fail
            go_ret
            exact ⟨rfl, B2.out⟩
          | false =>
            cases t3 : decide ((2305843009213688669 : Int) ≤ x) with
            | true =>
              obtain rfl : v = 100 := by rw [key]; simp only [t0, t1, t2, t3]; rfl
              clear key
              go_wp2_with fail
              go_ret
              exact ⟨rfl, B2.out⟩
            | false =>
              obtain rfl : v = 0 := by rw [key]; simp only [t0, t1, t2, t3]; rfl
              clear key
              go_wp2_with fail
              go_ret
              exact ⟨rfl, B2.out⟩
end Go.Proofs.YtdcpejfnhegdaaaDoor
