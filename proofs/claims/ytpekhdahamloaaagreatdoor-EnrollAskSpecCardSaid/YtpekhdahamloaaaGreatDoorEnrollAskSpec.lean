/- EnrollAskSpec returns true for every input. No condition beyond the card's own: the two tables of package digest and the variable errorType of package errors are tied to the program's text. -/
import Derived.Test.YtpekhdahamloaaaGreatDoorPk52
import Derived.Test.YtpekhdahamloaaaGreatDoorPk40
import Derived.Test.YtpekhdahamloaaaGreatDoorCards
namespace Go.Proofs.YtpekhdahamloaaaGreatDoor.enrollAskSpec
open Go.ChangeShapes Go.WideShapes Go.ChangeAt Go.RowKit
open Go.ChangeMaps (open_string shut_string)
set_option linter.unusedVariables false
set_option linter.unusedSimpArgs false

theorem askV_len (c x n dv vf lf : Int) : (askV c x n dv vf lf).pf.length = 32 := by
  unfold askV
  split
  · exact prfL_len _ _ _ _
  · rfl
set_option maxRecDepth 100000 in
set_option maxHeartbeats 8000000 in
theorem walk {w : World} (c : Int) (wc : (Lit.int .i64 c).wf = true) (x : Int) (wx : (Lit.int .i64 x).wf = true) (n : Int) (wn : (Lit.int .i64 n).wf = true) (dv : Int) (w1' : (Lit.int .i64 dv).wf = true) (vf : Int) (w2' : (Lit.int .i64 vf).wf = true) (lf : Int) (w3' : (Lit.int .i64 lf).wf = true) (hT : Tab w) (hE : ErrT w) :
    Calls Tryz.prog 4 #[.int .i64 c, .int .i64 x, .int .i64 n, .int .i64 dv, .int .i64 vf, .int .i64 lf] w fun e w' => e = .returned (.bool true) ∧ Below w.heap.size w w' := by
  have SN := Lib.hid (fun W (h : Tab W) (h2 : ErrT W) => sane38_any W h h2)
  have HT := Lib.hid hT; have HE := Lib.hid hE
  have c1 := fun W (h : Tab W) => pask_any c x n dv vf lf (i64B_of w1') (i64B_of w2') (i64B_of w3') W h
  have c2 := fun W => qask_any c x n dv vf lf (i64B_of w1') (i64B_of w2') (i64B_of w3') W
  have vl := askV_len c x n dv vf lf
  obtain ⟨V, hV⟩ : ∃ y, askV c x n dv vf lf = y := ⟨_, rfl⟩
  obtain ⟨E, hEE⟩ : ∃ y, askE c x n dv vf lf = y := ⟨_, rfl⟩
  rw [hV, hEE] at c1 c2
  rw [hV] at vl
  have eq : ∀ W, (binOp .eql 37 (.agg (rowF 36 (rqC V))) (.agg (rowF 36 (rqC V)))).run Tryz.prog W = .ok (.bool true) W := fun W => by rw [eql_rq V V vl vl W, rqB_self]
  have gu : ∀ x y W, (eqGuard .eql 37 x y (.agg (rowF 36 (rqC V))) (.agg (rowF 36 (rqC V)))).run Tryz.prog W = .ok () W := fun x y W => guard_rq .eql x y V V W
  have H1 := Lib.hid c1; have H2 := Lib.hid c2; have HQ := Lib.hid eq; have HG := Lib.hid gu
  clear hT hE c1 c2 vl hV hEE eq gu wc wx wn w1' w2' w3'
  go_enter Tryz.func4, Tryz.ntmps4
  have B0 := Lib.hid (Below.refl w.heap.size w)
  go_wp2_with fail
  refine (SN.out _ HT.out HE.out).mono ?_
  rintro e w1 ⟨rfl, b1⟩
  have B1 := Lib.hid (B0.out.trans (b1.mono B0.out.size))
  clear b1 B0
  go_wp2_with fail
  refine (H1.out _ (HT.out.below B1.out)).mono ?_
  rintro e w2 ⟨rfl, b2⟩
  have B2 := Lib.hid (B1.out.trans (b2.mono B1.out.size))
  clear b2 B1
  have Zr := Lib.hid (RowV.new w2 37 36 (rqC rq0))
  go_upto_region 4 with ((with_reducible (show wpList _ _ _ (Oper.mk none _ _ _ _ _ :: _) _ _)); refine wpList_store_rowV (o := ⟨none, .store 37 (.tmp 13) (.tmp 27), _, _, _, _⟩) rfl 37 (.tmp 13) (.tmp 27) rfl w2.heap.size rfl 36 37 _ (rqC V) rfl Zr.out (by kernel_rfl) (fun j _ => rqC_one V j) ?_; intro w3 X3 o3)
  have b3 : Below w2.heap.size w2 w3 := ((Below.refl _ _).alloc (Nat.le_refl _) _).trans (o3.out.below (Nat.le_refl _) (by rw [World.size_alloc]; omega))
  have B3 := Lib.hid (B2.out.trans (b3.mono B2.out.size))
  clear b3 o3 Zr B2
  go_wp2_with fail
  refine (H2.out _).mono ?_
  rintro e w4 ⟨rfl, b4⟩
  have B4 := Lib.hid (B3.out.trans (b4.mono B3.out.size))
  have X4 := Lib.hid (X3.out.below b4)
  clear b4 B3 X3
  have Zr := Lib.hid (RowV.new w4 37 36 (rqC rq0))
  go_upto_region 5 with ((with_reducible (show wpList _ _ _ (Oper.mk none _ _ _ _ _ :: _) _ _)); refine wpList_store_rowV (o := ⟨none, .store 37 (.tmp 15) (.tmp 37), _, _, _, _⟩) rfl 37 (.tmp 15) (.tmp 37) rfl w4.heap.size rfl 36 37 _ (rqC V) rfl Zr.out (by kernel_rfl) (fun j _ => rqC_one V j) ?_; intro w5 Y5 o5)
  have b5 : Below w4.heap.size w4 w5 := ((Below.refl _ _).alloc (Nat.le_refl _) _).trans (o5.out.below (Nat.le_refl _) (by rw [World.size_alloc]; omega))
  have B5 := Lib.hid (B4.out.trans (b5.mono B4.out.size))
  have X5 := Lib.hid (X4.out.below b5)
  clear b5 o5 Zr B4 X4
  have eq := HQ.out
  have gu := HG.out
  go_wp2_with (first | ((with_reducible (show wpList _ _ _ (Oper.mk (some 39) _ _ _ _ _ :: _) _ _)); refine Hid.out ?_))
  refine Lib.hid ?_
  refine wpList_load_rowV rfl 37 (.tmp 13) rfl w2.heap.size rfl 36 _ _ (X5.out) _ Tryz.underlying37 rfl (by kernel_rfl) ?_
  go_wp2_with (first | ((with_reducible (show wpList _ _ _ (Oper.mk (some 40) _ _ _ _ _ :: _) _ _)); refine Hid.out ?_))
  refine Lib.hid ?_
  refine wpList_load_rowV rfl 37 (.tmp 15) rfl w4.heap.size rfl 36 _ _ (Y5.out) _ Tryz.underlying37 rfl (by kernel_rfl) ?_
  go_wp2_with fail
  go_ret
  exact ⟨rfl, B5.out⟩

set_option maxRecDepth 100000 in
set_option maxHeartbeats 1000000 in
theorem lifted (os : Os) (started : os.Started) (H : Type) (enc : TypeId × Value → H) :
    ReturnsInHanded {} Tryz.checked os 4 .any (fun w args => (Rows.enrollAskSpecSpec.pre enc Tryz.prog Tryz.f4 [] false w args ∧ laidMetH Tryz.prog laidLE w) ∧ sizedMet enc Tryz.prog Tryz.f4 (OpenSpec.ofChange Rows.enrollAskSpecSpec) false w args)
      (Rows.enrollAskSpecSpec.post enc Tryz.prog Tryz.f4 false true false false) := by
  refine returnsInHanded_of_change_and (C := Tryz.checked) (X := fun w _ => laidMetH Tryz.prog laidLE w) (fun _ _ _ hh h => h.of_heap hh) own started (by kernel_rfl) Tryz.func4
    (ChangeSpec.witness_shaped (enc := enc) (C := Tryz.checked) (os := os) (X := fun w _ => laidMetH Tryz.prog laidLE w) false (World.doorLaid Tryz.prog 19 os) #[.int .i64 0, .int .i64 0, .int .i64 0, .int .i64 0, .int .i64 0, .int .i64 0] 8 rfl (World.shaped_of_RefB (by kernel_rfl) (by kernel_rfl)) (by kernel_rfl) (by kernel_rfl) (by kernel_rfl) (door_metE os _)) ?_
  intro W base args ds gs before hval0 hW _ hsz hL _
  have hval : ∀ (j : Nat) t v, Tryz.f4.params[j]? = some t → args[j]? = some v → Value.okWide Tryz.prog W .any base t v := hval0
  have hW' := hW
  obtain ⟨p, q, hA0, hV, rfl, hfz, hnd⟩ := hW
  have hA : DataW.TrodAll enc Tryz.prog W 0 (fun _ => true) true Tryz.f4.params.toList args.toList ds p := hA0
  rw [Tryz.params4] at hA hval
  obtain ⟨v0, vs0, d0, ds0, p0, q0, hargs, rfl, rfl, h0, r0⟩ := trodAll_cons hA
  obtain ⟨v1, vs1, d1, ds1, p1, q1, rfl, rfl, rfl, h1, r1⟩ := trodAll_cons r0
  obtain ⟨v2, vs2, d2, ds2, p2, q2, rfl, rfl, rfl, h2, r2⟩ := trodAll_cons r1
  obtain ⟨v3, vs3, d3, ds3, p3, q3, rfl, rfl, rfl, h3, r3⟩ := trodAll_cons r2
  obtain ⟨v4, vs4, d4, ds4, p4, q4, rfl, rfl, rfl, h4, r4⟩ := trodAll_cons r3
  obtain ⟨v5, vs5, d5, ds5, p5, q5, rfl, rfl, rfl, h5, r5⟩ := trodAll_cons r4
  obtain ⟨rfl, rfl, rfl⟩ := trodAll_nil r5
  obtain rfl : args = #[v0, v1, v2, v3, v4, v5] := by cases args; simp_all
  obtain ⟨rfl, rfl⟩ := trodVars_none hV
  obtain ⟨a0, rfl, rfl, rfl, w0⟩ := open_int Tryz.underlying3 (hval 0 3 v0 rfl rfl) h0
  obtain ⟨a1, rfl, rfl, rfl, w1⟩ := open_int Tryz.underlying3 (hval 1 3 v1 rfl rfl) h1
  obtain ⟨a2, rfl, rfl, rfl, w2⟩ := open_int Tryz.underlying3 (hval 2 3 v2 rfl rfl) h2
  obtain ⟨a3, rfl, rfl, rfl, w3⟩ := open_int Tryz.underlying3 (hval 3 3 v3 rfl rfl) h3
  obtain ⟨a4, rfl, rfl, rfl, w4⟩ := open_int Tryz.underlying3 (hval 4 3 v4 rfl rfl) h4
  obtain ⟨a5, rfl, rfl, rfl, w5⟩ := open_int Tryz.underlying3 (hval 5 3 v5 rfl rfl) h5
  obtain ⟨hT, hE⟩ := tabE_of_laid hL
  clear hA0 hval0 hsz hL
  simp only [List.append_nil] at hW'
  refine (walk a0 w0 a1 w1 a2 w2 a3 w3 a4 w4 a5 w5 hT hE).mono fun e W' ⟨he, hg⟩ => ?_
  subst he
  exact ⟨_, rfl, post_below (pa := []) (pv := []) hW' (fun _ _ _ => (trodAll_cons_mk (shut_bool Tryz.underlying4 _) trodAll_mk0)) (fun sp _ => (trodAll_cons_mk (shut_int Tryz.underlying3 w0) (trodAll_cons_mk (shut_int Tryz.underlying3 w1) (trodAll_cons_mk (shut_int Tryz.underlying3 w2) (trodAll_cons_mk (shut_int Tryz.underlying3 w3) (trodAll_cons_mk (shut_int Tryz.underlying3 w4) (trodAll_cons_mk (shut_int Tryz.underlying3 w5) trodAll_mk0))))))) (fun _ _ => rfl) rfl hg (ok_one (by kernel_rfl) rfl (okWide_bool_mk Tryz.underlying4 _))⟩

theorem over : Rows.enrollAskSpecRow.holds Tryz.pinned (OpenSpec.ofChange Rows.enrollAskSpecSpec) :=
  OpenClaim.holds_of_wide 4 Tryz.f4 rfl rfl rfl rfl rfl rfl rfl ⟨rfl, rfl, rfl, rfl, rfl⟩ rfl rfl rfl rfl rfl (by kernel_rfl) Tryz.func4 (by kernel_rfl)
    (of_decide_eq_true (by kernel_rfl)) (by unfold Func.isWrapper; first | (rw [if_pos (by decide +kernel)]; kernel_rfl) | (rw [if_neg (by decide +kernel)]; exact ⟨rfl, rfl⟩))
    (fun os started H enc _ => lifted os started H enc)

end Go.Proofs.YtpekhdahamloaaaGreatDoor.enrollAskSpec
namespace Go.Proofs.YtpekhdahamloaaaGreatDoor
set_option maxRecDepth 100000 in
theorem enrollAskSpec_holds : Rows.EnrollAskSpecCardSaid :=
  Claim7.holds_tied_plain_at .later [] [.handle, .data, .data] true _ true
    enrollAskSpec.over (fun _ h => by cases h) (by kernel_rfl) (fun _ h => by cases h) enrollAskSpec_row_tie rfl ⟨rfl, rfl⟩ (by kernel_rfl) rfl
    (fun f fn hf hfn => by
      obtain rfl : f = 4 := Option.some.inj ((show Tryz.prog.funcNamed "chartroom/chartroomlaw38.EnrollAskSpec" = some 4 by kernel_rfl).symm.trans hf) |>.symm
      obtain rfl : fn = Tryz.f4 := (Option.some.inj (Tryz.func4.symm.trans hfn)).symm
      exact ⟨by kernel_rfl, fun j t ht => by
        rw [Tryz.params4] at ht
        have hm : t ∈ [3, 3, 3, 3, 3, 3] := by simpa using Array.mem_of_getElem? ht
        have hall : ([3, 3, 3, 3, 3, 3].all fun u => !Tryz.prog.wantsStandIn u) = true := by kernel_rfl
        exact (show Tryz.prog.wantsStandIn t = false by simpa using List.all_eq_true.1 hall t hm)⟩)
    (by kernel_rfl)
#print axioms enrollAskSpec_holds
end Go.Proofs.YtpekhdahamloaaaGreatDoor
