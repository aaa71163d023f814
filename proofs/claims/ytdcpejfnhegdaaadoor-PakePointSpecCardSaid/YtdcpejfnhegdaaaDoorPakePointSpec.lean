/- PakePointSpec returns true for every input. No condition beyond the card's own: the two tables of package digest are tied to the program's text. -/
import Derived.Test.YtdcpejfnhegdaaaDoorPakeL3
import Derived.Test.YtdcpejfnhegdaaaDoorLaid
import Derived.Test.YtdcpejfnhegdaaaDoorCards
namespace Go.Proofs.YtdcpejfnhegdaaaDoor.pakePointSpec
open Go.ChangeShapes Go.WideShapes Go.ChangeAt Go.RowKit
open Go.ChangeMaps (open_string shut_string)
set_option linter.unusedVariables false
set_option linter.unusedSimpArgs false

set_option maxRecDepth 100000 in
set_option maxHeartbeats 4000000 in
theorem walk {w : World} (r c x : Int) (wr : (Lit.int .i64 r).wf = true) (wc : (Lit.int .i64 c).wf = true) (wx : (Lit.int .i64 x).wf = true) (hT : Tab w) :
    Calls Tryd.prog 5 #[.agg #[.int .i64 r, .int .i64 c, .int .i64 x]] w fun e w' => e = .returned (.bool true) ∧ Below w.heap.size w w' := by
  have C1 := Lib.hid (fun W hT => sane10_any W hT)
  have c2 := fun W h => point_any10 r c x W h
  have c3 := fun W => rpoint_any10 r c x W
  have c4 := fun W => check10_any r c x W
  have c5 := fun W => rcheckS_any r c x W
  obtain ⟨P, hP⟩ : ∃ y, pointV r c x = y := ⟨_, rfl⟩
  obtain ⟨E, hE⟩ : ∃ y, chkS r c x = y := ⟨_, rfl⟩
  rw [hP, hE] at c2 c3
  rw [hE] at c4 c5
  have C2 := Lib.hid c2; have C3 := Lib.hid c3; have C4 := Lib.hid c4; have C5 := Lib.hid c5; have T := Lib.hid hT
  clear c2 c3 c4 c5 hP hE hT wr wc wx
  go_enter Tryd.func5, Tryd.ntmps5
  have B0 := Lib.hid (Below.refl w.heap.size w)
  go_upto_region 1 with fail
  obtain ⟨w1, hw1⟩ : ∃ y, w.alloc (.cells #[.int .i64 r, .int .i64 c, .int .i64 x] 33) = y := ⟨_, rfl⟩
  have b1 : Below w.heap.size w w1 := by rw [← hw1]; exact (Below.refl _ _).alloc (Nat.le_refl _) _
  have S1 : Hid (RowV w1 w.heap.size 33 3 (sideF r c x)) := Lib.hid (by rw [← hw1]; exact RowV.new w _ 3 (sideF r c x))
  have z1 : w.heap.size + 1 = w1.heap.size := by rw [← hw1]; exact (Array.size_push _).symm
  rw [hw1]
  (try rw [z1])
  have B1 := Lib.hid (B0.out.trans (b1.mono B0.out.size))
  clear b1 hw1 z1 B0
  go_wp2_with fail
  refine (C1.out _ (T.out.below B1.out)).mono ?_
  rintro e w2 ⟨rfl, b2⟩
  have B2 := Lib.hid (B1.out.trans (b2.mono B1.out.size))
  have S2 := Lib.hid (S1.out.below b2)
  clear b2 B1 S1
  have x0 : _ = some (Value.int .i64 r) := S2.out.cell (i := 0) (by decide)
  have x1 : _ = some (Value.int .i64 c) := S2.out.cell (i := 1) (by decide)
  have x2 : _ = some (Value.int .i64 x) := S2.out.cell (i := 2) (by decide)
  go_wp2_with fail
  refine (C2.out _ (T.out.below B2.out)).mono ?_
  rintro e w3 ⟨rfl, b3⟩
  have B3 := Lib.hid (B2.out.trans (b3.mono B2.out.size))
  have S3 := Lib.hid (S2.out.below b3)
  clear b3 B2 S2
  clear x0 x1 x2
  have x0 : _ = some (Value.int .i64 r) := S3.out.cell (i := 0) (by decide)
  have x1 : _ = some (Value.int .i64 c) := S3.out.cell (i := 1) (by decide)
  have x2 : _ = some (Value.int .i64 x) := S3.out.cell (i := 2) (by decide)
  go_wp2_with fail
  refine (C3.out _).mono ?_
  rintro e w4 ⟨rfl, b4⟩
  have B4 := Lib.hid (B3.out.trans (b4.mono B3.out.size))
  have S4 := Lib.hid (S3.out.below b4)
  clear b4 B3 S3
  clear x0 x1 x2
  go_upto_region 5 with fail
  have x0 : _ = some (Value.int .i64 r) := S4.out.cell (i := 0) (by decide)
  have x1 : _ = some (Value.int .i64 c) := S4.out.cell (i := 1) (by decide)
  have x2 : _ = some (Value.int .i64 x) := S4.out.cell (i := 2) (by decide)
  have qx0 := fun d os => cell_regrown x0 d os
  have qx1 := fun d os => cell_regrown x1 d os
  have qx2 := fun d os => cell_regrown x2 d os
  clear x0 x1 x2
  have D0 := Lib.hid (fun (W : World) (b : Below w4.heap.size w4 W) => C4.out W)
  have D1 := Lib.hid (fun (W : World) (b : Below w4.heap.size w4 W) => C5.out W)
  refine wp_region_quiet_below (by kernel_rfl) (by kernel_rfl) ?_
  repeat (quiet_step (first | with_reducible exact qbelow D0.out _ _ | with_reducible exact qbelow D1.out _ _))
  refine wpQuiet_nil ?_
  intro w5 hw5
  have b5 := regrown_below hw5
  have B5 := Lib.hid (B4.out.trans (b5.mono B4.out.size))
  have S5 := Lib.hid (S4.out.below b5)
  clear b5 hw5 qx0 qx1 qx2 D0 D1 B4 S4
  go_wp2_with fail
  go_ret
  exact ⟨rfl, B5.out⟩

set_option maxRecDepth 100000 in
set_option maxHeartbeats 1000000 in
theorem lifted (os : Os) (started : os.Started) (H : Type) (enc : TypeId × Value → H) :
    ReturnsInHanded {} Tryd.checked os 5 .any (fun w args => (Rows.pakePointSpecSpec.pre enc Tryd.prog Tryd.f5 [] false w args ∧ laidMetH Tryd.prog laidL w) ∧ sizedMet enc Tryd.prog Tryd.f5 (OpenSpec.ofChange Rows.pakePointSpecSpec) false w args)
      (Rows.pakePointSpecSpec.post enc Tryd.prog Tryd.f5 false true false false) := by
  refine returnsInHanded_of_change_and (C := Tryd.checked) (X := fun w _ => laidMetH Tryd.prog laidL w) (fun _ _ _ hh h => h.of_heap hh) own started (by kernel_rfl) Tryd.func5
    (ChangeSpec.witness_shaped (enc := enc) (C := Tryd.checked) (os := os) (X := fun w _ => laidMetH Tryd.prog laidL w) false (World.doorLaid Tryd.prog 19 os) #[.agg #[.int .i64 0, .int .i64 0, .int .i64 0]] 8 rfl (World.shaped_of_RefB (by kernel_rfl) (by kernel_rfl)) (by kernel_rfl) (by kernel_rfl) (by kernel_rfl) (door_met os _)) ?_
  intro W base args ds gs before hval0 hW _ hsz hL _
  have hval : ∀ (j : Nat) t v, Tryd.f5.params[j]? = some t → args[j]? = some v → Value.okWide Tryd.prog W .any base t v := hval0
  have hW' := hW
  obtain ⟨p, q, hA0, hV, rfl, hfz, hnd⟩ := hW
  have hA : DataW.TrodAll enc Tryd.prog W 0 (fun _ => true) true Tryd.f5.params.toList args.toList ds p := hA0
  rw [Tryd.params5] at hA hval
  obtain ⟨v0, vs0, d0, ds0, p0, q0, hargs, rfl, rfl, h0, r0⟩ := trodAll_cons hA
  obtain ⟨rfl, rfl, rfl⟩ := trodAll_nil r0
  obtain rfl : args = #[v0] := by cases args; simp_all
  obtain ⟨rfl, rfl⟩ := trodVars_none hV
  have k0 := h0
  have lt0 : ∀ x ∈ p0, x.block < W.heap.size := by obtain ⟨m, hm⟩ := k0; exact DataW.trod_lt m _ _ _ hm
  obtain ⟨a0, b0, c0, wa0, wb0, wc0, rfl⟩ := side_open (hval 0 33 v0 rfl rfl) h0
  have hT := tab_of_laid hL
  clear hA0 hval0 hsz hL
  simp only [List.append_nil] at hW'
  refine (walk a0 b0 c0 wa0 wb0 wc0 hT).mono fun e W' ⟨he, hg⟩ => ?_
  subst he
  exact ⟨_, rfl, _, _, _, [], _, [], hW', trodAll_mk1 (shut_bool Tryd.underlying4 _), (trodAll_cons_mk (Below.trod laidOut (by kernel_rfl) (of_decide_eq_true (by kernel_rfl)) k0 hg lt0) trodAll_mk0), rfl, hg.frame _, fun h => by cases h⟩

theorem over : Rows.pakePointSpecRow.holds Tryd.pinned (OpenSpec.ofChange Rows.pakePointSpecSpec) :=
  OpenClaim.holds_of_wide 5 Tryd.f5 rfl rfl rfl rfl rfl rfl rfl ⟨rfl, rfl, rfl, rfl, rfl⟩ rfl rfl rfl rfl rfl (by kernel_rfl) Tryd.func5 (by kernel_rfl)
    (of_decide_eq_true (by kernel_rfl)) (by unfold Func.isWrapper; first | (rw [if_pos (by decide +kernel)]; kernel_rfl) | (rw [if_neg (by decide +kernel)]; exact ⟨rfl, rfl⟩))
    (fun os started H enc _ => lifted os started H enc)

end Go.Proofs.YtdcpejfnhegdaaaDoor.pakePointSpec
namespace Go.Proofs.YtdcpejfnhegdaaaDoor
set_option maxRecDepth 100000 in
theorem pakePointSpec_holds : Rows.PakePointSpecCardSaid :=
  Claim7.holds_tied_plain_at .later [] [.data, .data] true _ false
    pakePointSpec.over (fun _ h => by cases h) (by kernel_rfl) (fun _ h => by cases h) pakePointSpec_row_tie rfl ⟨rfl, rfl⟩ (by kernel_rfl) rfl
    (fun f fn hf hfn => by
      obtain rfl : f = 5 := Option.some.inj ((show Tryd.prog.funcNamed "chartroom/chartroomlaw10.PakePointSpec" = some 5 by kernel_rfl).symm.trans hf) |>.symm
      obtain rfl : fn = Tryd.f5 := (Option.some.inj (Tryd.func5.symm.trans hfn)).symm
      exact ⟨by kernel_rfl, fun j t ht => by
        rw [Tryd.params5] at ht
        have hm : t ∈ [33] := by simpa using Array.mem_of_getElem? ht
        have hall : ([33].all fun u => !Tryd.prog.wantsStandIn u) = true := by kernel_rfl
        exact (show Tryd.prog.wantsStandIn t = false by simpa using List.all_eq_true.1 hall t hm)⟩)
    (by kernel_rfl)
#print axioms pakePointSpec_holds
end Go.Proofs.YtdcpejfnhegdaaaDoor
