/- PakeMasks returns true for every input. No condition beyond the card's own: the two tables of package digest are tied to the program's text. -/
import Derived.Test.YtdcpejfnhegdaaaDoorPakeL
import Derived.Test.YtdcpejfnhegdaaaDoorLaid
import Derived.Test.YtdcpejfnhegdaaaDoorCards
namespace Go.Proofs.YtdcpejfnhegdaaaDoor.pakeMasks
open Go.ChangeShapes Go.WideShapes Go.ChangeAt Go.RowKit
open Go.ChangeMaps (open_string shut_string)
set_option linter.unusedVariables false
set_option linter.unusedSimpArgs false

set_option maxRecDepth 100000 in
set_option maxHeartbeats 8000000 in
theorem walk {w : World} (ro : Int) (wr : (Lit.int .i64 ro).wf = true) (c : Int) (wc : (Lit.int .i64 c).wf = true) (a : Int) (wa : (Lit.int .i64 a).wf = true) (b : Int) (wb : (Lit.int .i64 b).wf = true) (hT : Tab w) :
    Calls Tryd.prog 10 #[.int .i64 ro, .int .i64 c, .int .i64 a, .int .i64 b] w fun e w' => e = .returned (.bool true) ∧ Below w.heap.size w w' := by
  have C0 := Lib.hid (fun W hT => sane10_any W hT)
  have c1 := fun W => side_any ro c a W
  have c2 := fun W => side_any ro c b W
  have hR := roleN_or ro
  have hC := codeN_lt c
  have hA := secN_bd a
  have hB := secN_bd b
  obtain ⟨R, eR⟩ : ∃ y, roleN ro = y := ⟨_, rfl⟩
  obtain ⟨C, eC⟩ : ∃ y, codeN c = y := ⟨_, rfl⟩
  obtain ⟨A, eA⟩ : ∃ y, secN a = y := ⟨_, rfl⟩
  obtain ⟨B, eB⟩ : ∃ y, secN b = y := ⟨_, rfl⟩
  rw [eR, eC, eA] at c1
  rw [eR, eC, eB] at c2
  rw [eR] at hR
  rw [eC] at hC
  rw [eA] at hA
  rw [eB] at hB
  clear eR eC eA eB wr wc wa wb
  have el1 := pointS_El R C A
  have elM := maskedM_El (R : Int) C
  have c3 := fun W h => point_yes R C A hR hC hA.1 hA.2 W h
  have c4 := fun W h => point_yes R C B hR hC hB.1 hB.2 W h
  have c5 := fun W => rmask_any (R : Int) W
  have c6 := fun W => rpass_any C (by omega) W
  have c7 := fun W => gexp_el (maskM_El (R : Int)) (passM_bd C).2 rfl W
  rw [show powP (maskM (R : Int)) (passM C) = maskedM (R : Int) C from rfl] at c7
  have c8 := fun W => ginv_el elM rfl W
  have c9 := fun W => gmul_el el1 (powP_pos elM 2305843009213688668) (bare_point R C A) W
  have c10 := fun W => gbase_el hA.2 rfl W
  have c11 := fun W => fsub_yes B A hB.2 hA.2 W
  have c12 := fun W => gbase_el (subQ_lt (b := A) hB.2) rfl W
  have c13 := fun W => gmul_el el1 (powP_pos El4 (subQ B A)) (moved_point R C A B hA.2 hB.2) W
  obtain ⟨p, hp⟩ : ∃ y, pointS R C A = y := ⟨_, rfl⟩
  obtain ⟨q, hq⟩ : ∃ y, pointS R C B = y := ⟨_, rfl⟩
  obtain ⟨g, hg⟩ : ∃ y, powP 4 A = y := ⟨_, rfl⟩
  obtain ⟨z, hz⟩ : ∃ y, powP 4 (subQ B A) = y := ⟨_, rfl⟩
  obtain ⟨s, hs⟩ : ∃ y, subQ B A = y := ⟨_, rfl⟩
  obtain ⟨I, hI⟩ : ∃ y, powP (maskedM (R : Int) C) 2305843009213688668 = y := ⟨_, rfl⟩
  obtain ⟨M, hM⟩ : ∃ y, maskedM (R : Int) C = y := ⟨_, rfl⟩
  obtain ⟨k1, hk1⟩ : ∃ y, maskM (R : Int) = y := ⟨_, rfl⟩
  obtain ⟨k2, hk2⟩ : ∃ y, passM C = y := ⟨_, rfl⟩
  rw [hp] at c3 c9 c13
  rw [hq] at c4 c13
  rw [hg] at c9 c10
  rw [hz] at c12 c13
  rw [hs] at c11 c12
  rw [hI] at c8 c9
  rw [hM] at c7 c8
  rw [hk1] at c5 c7
  rw [hk2] at c6 c7
  have H1 := Lib.hid c1; have H2 := Lib.hid c2; have H3 := Lib.hid c3; have H4 := Lib.hid c4; have H5 := Lib.hid c5; have H6 := Lib.hid c6; have H7 := Lib.hid c7; have H8 := Lib.hid c8; have H9 := Lib.hid c9; have H10 := Lib.hid c10; have H11 := Lib.hid c11; have H12 := Lib.hid c12; have H13 := Lib.hid c13
  have T := Lib.hid hT
  clear c1 c2 c3 c4 c5 c6 c7 c8 c9 c10 c11 c12 c13 hT hp hq hg hz hs hI hM hk1 hk2 el1 elM hR hC hA hB
  go_enter Tryd.func10, Tryd.ntmps10
  have B0 := Lib.hid (Below.refl w.heap.size w)
  go_wp2_with fail
  refine (C0.out _ (T.out.below B0.out)).mono ?_
  rintro e w1 ⟨rfl, b1⟩
  have B1 := Lib.hid (B0.out.trans (b1.mono B0.out.size))
  clear b1 B0
  go_wp2_with fail
  refine (H1.out _).mono ?_
  rintro e w2 ⟨rfl, b2⟩
  have B2 := Lib.hid (B1.out.trans (b2.mono B1.out.size))
  clear b2 B1
  go_wp2_with fail
  refine (H2.out _).mono ?_
  rintro e w3 ⟨rfl, b3⟩
  have B3 := Lib.hid (B2.out.trans (b3.mono B2.out.size))
  clear b3 B2
  go_upto_region 4 with fail
  obtain ⟨w4, hw4⟩ : ∃ y, w3.alloc (.cells #[.int .i64 R, .int .i64 C, .int .i64 A] 33) = y := ⟨_, rfl⟩
  have b4 : Below w3.heap.size w3 w4 := by rw [← hw4]; exact (Below.refl _ _).alloc (Nat.le_refl _) _
  have P4 : Hid (RowV w4 w3.heap.size 33 3 (sideF R C A)) := Lib.hid (by rw [← hw4]; exact RowV.new w3 _ 3 (sideF R C A))
  have z4 : w3.heap.size + 1 = w4.heap.size := by rw [← hw4]; exact (Array.size_push _).symm
  rw [hw4]
  (try rw [z4])
  have B4 := Lib.hid (B3.out.trans (b4.mono B3.out.size))
  clear b4 hw4 z4 B3
  obtain ⟨w5, hw5⟩ : ∃ y, w4.alloc (.cells #[.int .i64 R, .int .i64 C, .int .i64 B] 33) = y := ⟨_, rfl⟩
  have b5 : Below w4.heap.size w4 w5 := by rw [← hw5]; exact (Below.refl _ _).alloc (Nat.le_refl _) _
  have Q5 : Hid (RowV w5 w4.heap.size 33 3 (sideF R C B)) := Lib.hid (by rw [← hw5]; exact RowV.new w4 _ 3 (sideF R C B))
  have z5 : w4.heap.size + 1 = w5.heap.size := by rw [← hw5]; exact (Array.size_push _).symm
  rw [hw5]
  (try rw [z5])
  have B5 := Lib.hid (B4.out.trans (b5.mono B4.out.size))
  have P5 := Lib.hid (P4.out.below b5)
  clear b5 hw5 z5 B4 P4
  have x0 : _ = some (Value.int .i64 (R : Int)) := P5.out.cell (i := 0) (by decide)
  have x1 : _ = some (Value.int .i64 (C : Int)) := P5.out.cell (i := 1) (by decide)
  have x2 : _ = some (Value.int .i64 (A : Int)) := P5.out.cell (i := 2) (by decide)
  go_wp2_with fail
  refine (H3.out _ (T.out.below B5.out)).mono ?_
  rintro e w6 ⟨rfl, b6⟩
  have B6 := Lib.hid (B5.out.trans (b6.mono B5.out.size))
  have P6 := Lib.hid (P5.out.below b6)
  have Q6 := Lib.hid (Q5.out.below b6)
  clear b6 B5 P5 Q5
  clear x0 x1 x2
  have x0 : _ = some (Value.int .i64 (R : Int)) := Q6.out.cell (i := 0) (by decide)
  have x1 : _ = some (Value.int .i64 (C : Int)) := Q6.out.cell (i := 1) (by decide)
  have x2 : _ = some (Value.int .i64 (B : Int)) := Q6.out.cell (i := 2) (by decide)
  go_wp2_with fail
  refine (H4.out _ (T.out.below B6.out)).mono ?_
  rintro e w7 ⟨rfl, b7⟩
  have B7 := Lib.hid (B6.out.trans (b7.mono B6.out.size))
  have P7 := Lib.hid (P6.out.below b7)
  have Q7 := Lib.hid (Q6.out.below b7)
  clear b7 B6 P6 Q6
  clear x0 x1 x2
  go_upto_region 6 with fail
  have x0 : _ = some (Value.int .i64 (R : Int)) := P7.out.cell (i := 0) (by decide)
  have x1 : _ = some (Value.int .i64 (C : Int)) := P7.out.cell (i := 1) (by decide)
  have qx0 := fun d os => cell_regrown x0 d os
  have qx1 := fun d os => cell_regrown x1 d os
  clear x0 x1
  have D0 := Lib.hid (fun (W : World) (b : Below w7.heap.size w7 W) => H5.out W)
  have D1 := Lib.hid (fun (W : World) (b : Below w7.heap.size w7 W) => H6.out W)
  have D2 := Lib.hid (fun (W : World) (b : Below w7.heap.size w7 W) => H7.out W)
  refine wp_region_quiet_below (by kernel_rfl) (by kernel_rfl) ?_
  repeat (quiet_step (first | with_reducible exact qbelow D0.out _ _ | with_reducible exact qbelow D1.out _ _ | with_reducible exact qbelow D2.out _ _))
  refine wpQuiet_nil ?_
  intro w8 hw8
  have b8 := regrown_below hw8
  have B8 := Lib.hid (B7.out.trans (b8.mono B7.out.size))
  have P8 := Lib.hid (P7.out.below b8)
  have Q8 := Lib.hid (Q7.out.below b8)
  clear b8 hw8 qx0 qx1 D0 D1 D2 B7 P7 Q7
  go_wp2_with fail
  refine (H8.out _).mono ?_
  rintro e w9 ⟨rfl, b9⟩
  have B9 := Lib.hid (B8.out.trans (b9.mono B8.out.size))
  have P9 := Lib.hid (P8.out.below b9)
  have Q9 := Lib.hid (Q8.out.below b9)
  clear b9 B8 P8 Q8
  go_wp2_with fail
  refine (H9.out _).mono ?_
  rintro e w10 ⟨rfl, b10⟩
  have B10 := Lib.hid (B9.out.trans (b10.mono B9.out.size))
  have P10 := Lib.hid (P9.out.below b10)
  have Q10 := Lib.hid (Q9.out.below b10)
  clear b10 B9 P9 Q9
  have x0 : _ = some (Value.int .i64 (R : Int)) := P10.out.cell (i := 0) (by decide)
  have x1 : _ = some (Value.int .i64 (C : Int)) := P10.out.cell (i := 1) (by decide)
  have x2 : _ = some (Value.int .i64 (A : Int)) := P10.out.cell (i := 2) (by decide)
  go_wp2_with fail
  refine (H10.out _).mono ?_
  rintro e w11 ⟨rfl, b11⟩
  have B11 := Lib.hid (B10.out.trans (b11.mono B10.out.size))
  have P11 := Lib.hid (P10.out.below b11)
  have Q11 := Lib.hid (Q10.out.below b11)
  clear b11 B10 P10 Q10
  clear x0 x1 x2
  have x0 : _ = some (Value.int .i64 (R : Int)) := P11.out.cell (i := 0) (by decide)
  have x1 : _ = some (Value.int .i64 (C : Int)) := P11.out.cell (i := 1) (by decide)
  have x2 : _ = some (Value.int .i64 (A : Int)) := P11.out.cell (i := 2) (by decide)
  have y0 : _ = some (Value.int .i64 (R : Int)) := Q11.out.cell (i := 0) (by decide)
  have y1 : _ = some (Value.int .i64 (C : Int)) := Q11.out.cell (i := 1) (by decide)
  have y2 : _ = some (Value.int .i64 (B : Int)) := Q11.out.cell (i := 2) (by decide)
  go_wp2_with fail
  refine (H11.out _).mono ?_
  rintro e w12 ⟨rfl, b12⟩
  have B12 := Lib.hid (B11.out.trans (b12.mono B11.out.size))
  have P12 := Lib.hid (P11.out.below b12)
  have Q12 := Lib.hid (Q11.out.below b12)
  clear b12 B11 P11 Q11
  clear x0 x1 x2 y0 y1 y2
  go_wp2_with fail
  refine (H12.out _).mono ?_
  rintro e w13 ⟨rfl, b13⟩
  have B13 := Lib.hid (B12.out.trans (b13.mono B12.out.size))
  have P13 := Lib.hid (P12.out.below b13)
  have Q13 := Lib.hid (Q12.out.below b13)
  clear b13 B12 P12 Q12
  go_wp2_with fail
  refine (H13.out _).mono ?_
  rintro e w14 ⟨rfl, b14⟩
  have B14 := Lib.hid (B13.out.trans (b14.mono B13.out.size))
  have P14 := Lib.hid (P13.out.below b14)
  have Q14 := Lib.hid (Q13.out.below b14)
  clear b14 B13 P13 Q13
  go_wp2_with fail
  go_ret
  exact ⟨rfl, B14.out⟩

set_option maxRecDepth 100000 in
set_option maxHeartbeats 1000000 in
theorem lifted (os : Os) (started : os.Started) (H : Type) (enc : TypeId × Value → H) :
    ReturnsInHanded {} Tryd.checked os 10 .any (fun w args => (Rows.pakeMasksSpec.pre enc Tryd.prog Tryd.f10 [] false w args ∧ laidMetH Tryd.prog laidL w) ∧ sizedMet enc Tryd.prog Tryd.f10 (OpenSpec.ofChange Rows.pakeMasksSpec) false w args)
      (Rows.pakeMasksSpec.post enc Tryd.prog Tryd.f10 false true false false) := by
  refine returnsInHanded_of_change_and (C := Tryd.checked) (X := fun w _ => laidMetH Tryd.prog laidL w) (fun _ _ _ hh h => h.of_heap hh) own started (by kernel_rfl) Tryd.func10
    (ChangeSpec.witness_shaped (enc := enc) (C := Tryd.checked) (os := os) (X := fun w _ => laidMetH Tryd.prog laidL w) false (World.doorLaid Tryd.prog 19 os) #[.int .i64 0, .int .i64 0, .int .i64 0, .int .i64 0] 8 rfl (World.shaped_of_RefB (by kernel_rfl) (by kernel_rfl)) (by kernel_rfl) (by kernel_rfl) (by kernel_rfl) (door_met os _)) ?_
  intro W base args ds gs before hval0 hW _ hsz hL _
  have hval : ∀ (j : Nat) t v, Tryd.f10.params[j]? = some t → args[j]? = some v → Value.okWide Tryd.prog W .any base t v := hval0
  have hW' := hW
  obtain ⟨p, q, hA0, hV, rfl, hfz, hnd⟩ := hW
  have hA : DataW.TrodAll enc Tryd.prog W 0 (fun _ => true) true Tryd.f10.params.toList args.toList ds p := hA0
  rw [Tryd.params10] at hA hval
  obtain ⟨v0, vs0, d0, ds0, p0, q0, hargs, rfl, rfl, h0, r0⟩ := trodAll_cons hA
  obtain ⟨v1, vs1, d1, ds1, p1, q1, rfl, rfl, rfl, h1, r1⟩ := trodAll_cons r0
  obtain ⟨v2, vs2, d2, ds2, p2, q2, rfl, rfl, rfl, h2, r2⟩ := trodAll_cons r1
  obtain ⟨v3, vs3, d3, ds3, p3, q3, rfl, rfl, rfl, h3, r3⟩ := trodAll_cons r2
  obtain ⟨rfl, rfl, rfl⟩ := trodAll_nil r3
  obtain rfl : args = #[v0, v1, v2, v3] := by cases args; simp_all
  obtain ⟨rfl, rfl⟩ := trodVars_none hV
  obtain ⟨a0, rfl, rfl, rfl, w0⟩ := open_int Tryd.underlying3 (hval 0 3 v0 rfl rfl) h0
  obtain ⟨a1, rfl, rfl, rfl, w1⟩ := open_int Tryd.underlying3 (hval 1 3 v1 rfl rfl) h1
  obtain ⟨a2, rfl, rfl, rfl, w2⟩ := open_int Tryd.underlying3 (hval 2 3 v2 rfl rfl) h2
  obtain ⟨a3, rfl, rfl, rfl, w3⟩ := open_int Tryd.underlying3 (hval 3 3 v3 rfl rfl) h3
  have hT := tab_of_laid hL
  clear hA0 hval0 hsz hL
  simp only [List.append_nil] at hW'
  refine (walk a0 w0 a1 w1 a2 w2 a3 w3 hT).mono fun e W' ⟨he, hg⟩ => ?_
  subst he
  exact ⟨_, rfl, post_below (pa := []) (pv := []) hW' (fun _ _ _ => (trodAll_cons_mk (shut_bool Tryd.underlying4 _) trodAll_mk0)) (fun sp _ => (trodAll_cons_mk (shut_int Tryd.underlying3 w0) (trodAll_cons_mk (shut_int Tryd.underlying3 w1) (trodAll_cons_mk (shut_int Tryd.underlying3 w2) (trodAll_cons_mk (shut_int Tryd.underlying3 w3) trodAll_mk0))))) (fun _ _ => rfl) rfl hg (ok_one (by kernel_rfl) rfl (okWide_bool_mk Tryd.underlying4 _))⟩

theorem over : Rows.pakeMasksRow.holds Tryd.pinned (OpenSpec.ofChange Rows.pakeMasksSpec) :=
  OpenClaim.holds_of_wide 10 Tryd.f10 rfl rfl rfl rfl rfl rfl rfl ⟨rfl, rfl, rfl, rfl, rfl⟩ rfl rfl rfl rfl rfl (by kernel_rfl) Tryd.func10 (by kernel_rfl)
    (of_decide_eq_true (by kernel_rfl)) (by unfold Func.isWrapper; first | (rw [if_pos (by decide +kernel)]; kernel_rfl) | (rw [if_neg (by decide +kernel)]; exact ⟨rfl, rfl⟩))
    (fun os started H enc _ => lifted os started H enc)

end Go.Proofs.YtdcpejfnhegdaaaDoor.pakeMasks
namespace Go.Proofs.YtdcpejfnhegdaaaDoor
set_option maxRecDepth 100000 in
theorem pakeMasks_holds : Rows.PakeMasksCardSaid :=
  Claim7.holds_tied_plain_at .later [] [.data, .data] true _ false
    pakeMasks.over (fun _ h => by cases h) (by kernel_rfl) (fun _ h => by cases h) pakeMasks_row_tie rfl ⟨rfl, rfl⟩ (by kernel_rfl) rfl
    (fun f fn hf hfn => by
      obtain rfl : f = 10 := Option.some.inj ((show Tryd.prog.funcNamed "chartroom/chartroomlaw10.PakeMasks" = some 10 by kernel_rfl).symm.trans hf) |>.symm
      obtain rfl : fn = Tryd.f10 := (Option.some.inj (Tryd.func10.symm.trans hfn)).symm
      exact ⟨by kernel_rfl, fun j t ht => by
        rw [Tryd.params10] at ht
        have hm : t ∈ [3, 3, 3, 3] := by simpa using Array.mem_of_getElem? ht
        have hall : ([3, 3, 3, 3].all fun u => !Tryd.prog.wantsStandIn u) = true := by kernel_rfl
        exact (show Tryd.prog.wantsStandIn t = false by simpa using List.all_eq_true.1 hall t hm)⟩)
    (by kernel_rfl)
#print axioms pakeMasks_holds
end Go.Proofs.YtdcpejfnhegdaaaDoor
