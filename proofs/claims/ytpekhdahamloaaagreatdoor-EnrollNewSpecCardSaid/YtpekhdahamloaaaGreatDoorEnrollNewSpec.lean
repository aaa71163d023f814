/- EnrollNewSpec returns true for every input. No condition beyond the card's own: the two tables of package digest and the variable errorType of package errors are tied to the program's text. -/
import Derived.Test.YtpekhdahamloaaaGreatDoorPk52
import Derived.Test.YtpekhdahamloaaaGreatDoorPk40
import Derived.Test.YtpekhdahamloaaaGreatDoorCards
namespace Go.Proofs.YtpekhdahamloaaaGreatDoor.enrollNewSpec
open Go.ChangeShapes Go.WideShapes Go.ChangeAt Go.RowKit
open Go.ChangeMaps (open_string shut_string)
set_option linter.unusedVariables false
set_option linter.unusedSimpArgs false

set_option maxRecDepth 100000 in
set_option maxHeartbeats 8000000 in
theorem walk {w : World} (q : Int) (wq : (Lit.int .i64 q).wf = true) (c : Int) (wc : (Lit.int .i64 c).wf = true) (x : Int) (wx : (Lit.int .i64 x).wf = true) (s : Ss) (ws : s.wf) (hT : Tab w) (hE : ErrT w) :
    Calls Tryz.prog 3 #[.int .i64 q, .int .i64 c, .int .i64 x, .agg (rowF 6 (ssC s))] w fun e w' => e = .returned (.bool true) ∧ Below w.heap.size w w' := by
  have SN := Lib.hid (fun W (h : Tab W) (h2 : ErrT W) => sane38_any W h h2)
  have HT := Lib.hid hT; have HE := Lib.hid hE
  have c1 := fun W => pnew38_any q c x W
  have c2 := fun W => qnew38_any q c x W
  have c3 := fun W (h : Tab W) => ppoint38_any s W h
  have c4 := fun W => qpoint38_any s W
  have c5 := fun W => pcheck38_any s W
  have c6 := fun W => qcheck38_any s W
  obtain ⟨V, hV⟩ : ∃ y, newV q c x = y := ⟨_, rfl⟩
  obtain ⟨E, hEE⟩ : ∃ y, newE q c x = y := ⟨_, rfl⟩
  obtain ⟨P, hP⟩ : ∃ y, sptV s = y := ⟨_, rfl⟩
  obtain ⟨K0, hK0⟩ : ∃ y, chkSs s = y := ⟨_, rfl⟩
  rw [hV, hEE] at c1 c2
  rw [hP, hK0] at c3 c4
  rw [hK0] at c5 c6
  have es : ∀ W, (binOp .eql 25 (.agg (rowF 6 (ssC V))) (.agg (rowF 6 (ssC V)))).run Tryz.prog W = .ok (.bool true) W := fun W => by rw [eql_ss V V W, ssB_self]
  have gs : ∀ x y W, (eqGuard .eql 25 x y (.agg (rowF 6 (ssC V))) (.agg (rowF 6 (ssC V)))).run Tryz.prog W = .ok () W := fun x y W => guard_ss .eql x y V V W
  have H1 := Lib.hid c1; have H2 := Lib.hid c2; have H3 := Lib.hid c3; have H4 := Lib.hid c4; have H5 := Lib.hid c5; have H6 := Lib.hid c6; have ES := Lib.hid es; have GS := Lib.hid gs
  clear hT hE c1 c2 c3 c4 c5 c6 hV hEE hP hK0 es gs wq wc wx ws
  go_enter Tryz.func3, Tryz.ntmps3
  have B0 := Lib.hid (Below.refl w.heap.size w)
  go_upto_region 1 with fail
  obtain ⟨w1, hw1⟩ : ∃ y, w.alloc (.cells (rowF 6 (ssC s)) 25) = y := ⟨_, rfl⟩
  have b1 : Below w.heap.size w w1 := by rw [← hw1]; exact (Below.refl _ _).alloc (Nat.le_refl _) _
  have S1 : Hid (RowV w1 w.heap.size 25 6 (ssC s)) := Lib.hid (by rw [← hw1]; exact RowV.new w _ 6 (ssC s))
  have z1 : w.heap.size + 1 = w1.heap.size := by rw [← hw1]; exact (Array.size_push _).symm
  rw [hw1]
  (try rw [z1])
  have B1 := Lib.hid (B0.out.trans (b1.mono B0.out.size))
  clear b1 hw1 z1 B0
  go_wp2_with fail
  refine (SN.out _ (HT.out.below B1.out) (HE.out.below B1.out HE.out.lt)).mono ?_
  rintro e w2 ⟨rfl, b2⟩
  have B2 := Lib.hid (B1.out.trans (b2.mono B1.out.size))
  have S2 := Lib.hid (S1.out.below b2)
  clear b2 B1 S1
  go_wp2_with fail
  refine (H1.out _).mono ?_
  rintro e w3 ⟨rfl, b3⟩
  have B3 := Lib.hid (B2.out.trans (b3.mono B2.out.size))
  have S3 := Lib.hid (S2.out.below b3)
  clear b3 B2 S2
  have Zr := Lib.hid (RowV.new w3 25 6 (ssC ss0))
  go_upto_region 4 with ((with_reducible (show wpList _ _ _ (Oper.mk none _ _ _ _ _ :: _) _ _)); refine wpList_store_rowV (o := ⟨none, .store 25 (.tmp 9) (.tmp 24), _, _, _, _⟩) rfl 25 (.tmp 9) (.tmp 24) rfl w3.heap.size rfl 6 25 _ (ssC V) rfl Zr.out (by kernel_rfl) (fun j _ => ssC_one V j) ?_; intro w4 X4 o4)
  have b4 : Below w3.heap.size w3 w4 := ((Below.refl _ _).alloc (Nat.le_refl _) _).trans (o4.out.below (Nat.le_refl _) (by rw [World.size_alloc]; omega))
  have B4 := Lib.hid (B3.out.trans (b4.mono B3.out.size))
  have S4 := Lib.hid (S3.out.below b4)
  clear b4 o4 Zr B3 S3
  go_wp2_with fail
  refine (H2.out _).mono ?_
  rintro e w5 ⟨rfl, b5⟩
  have B5 := Lib.hid (B4.out.trans (b5.mono B4.out.size))
  have S5 := Lib.hid (S4.out.below b5)
  have X5 := Lib.hid (X4.out.below b5)
  clear b5 B4 S4 X4
  have Zr := Lib.hid (RowV.new w5 25 6 (ssC ss0))
  go_upto_region 5 with ((with_reducible (show wpList _ _ _ (Oper.mk none _ _ _ _ _ :: _) _ _)); refine wpList_store_rowV (o := ⟨none, .store 25 (.tmp 11) (.tmp 31), _, _, _, _⟩) rfl 25 (.tmp 11) (.tmp 31) rfl w5.heap.size rfl 6 25 _ (ssC V) rfl Zr.out (by kernel_rfl) (fun j _ => ssC_one V j) ?_; intro w6 Y6 o6)
  have b6 : Below w5.heap.size w5 w6 := ((Below.refl _ _).alloc (Nat.le_refl _) _).trans (o6.out.below (Nat.le_refl _) (by rw [World.size_alloc]; omega))
  have B6 := Lib.hid (B5.out.trans (b6.mono B5.out.size))
  have S6 := Lib.hid (S5.out.below b6)
  have X6 := Lib.hid (X5.out.below b6)
  clear b6 o6 Zr B5 S5 X5
  go_wp2_with (first | ((with_reducible (show wpList _ _ _ (Oper.mk (some 34) _ _ _ _ _ :: _) _ _)); refine Hid.out ?_))
  refine Lib.hid ?_
  refine wpList_load_rowV rfl 25 (.tmp 7) rfl w.heap.size rfl 6 _ _ (S6.out) _ Tryz.underlying25 rfl (by kernel_rfl) ?_
  go_wp2_with fail
  refine (H3.out _ (HT.out.below B6.out)).mono ?_
  rintro e w7 ⟨rfl, b7⟩
  have B7 := Lib.hid (B6.out.trans (b7.mono B6.out.size))
  have S7 := Lib.hid (S6.out.below b7)
  have X7 := Lib.hid (X6.out.below b7)
  have Y7 := Lib.hid (Y6.out.below b7)
  clear b7 B6 S6 X6 Y6
  go_wp2_with (first | ((with_reducible (show wpList _ _ _ (Oper.mk (some 39) _ _ _ _ _ :: _) _ _)); refine Hid.out ?_))
  refine Lib.hid ?_
  refine wpList_load_rowV rfl 25 (.tmp 7) rfl w.heap.size rfl 6 _ _ (S7.out) _ Tryz.underlying25 rfl (by kernel_rfl) ?_
  go_wp2_with fail
  refine (H4.out _).mono ?_
  rintro e w8 ⟨rfl, b8⟩
  have B8 := Lib.hid (B7.out.trans (b8.mono B7.out.size))
  have S8 := Lib.hid (S7.out.below b8)
  have X8 := Lib.hid (X7.out.below b8)
  have Y8 := Lib.hid (Y7.out.below b8)
  clear b8 B7 S7 X7 Y7
  have es := ES.out
  have gs := GS.out
  go_upto_region 7 with fail
  refine Tc.wp_region_plan (keep w8.heap.size) 26 [] (.fl 0 (.fl 1 (.fl 2 (.fl 3 (.fl 4 (.fl 5 (.fl 6 (.fl 7 (.fl 8 (.fl 9 (.fl 10 (.fl 11 (.fl 12 (.fl 13 (.fl 14 (.fl 15 (.fl 16 (.fl 17 (.fl 18 (.fl 19 (.fl 21 (.one 20 (.one 22 (.fl 23 (.fl 24 (.fp 25 .done)))))))))))))))))))))))))) (by kernel_rfl) (by kernel_rfl) ?_
  intro w9 b9 e9
  have BB9 : Hid (Below w8.heap.size w8 w9) := Lib.hid b9
  clear b9 e9
  refine Tc.plan_floats [0, 1, 2, 3, 4, 5, 6, 7, 8, 9, 10, 11, 12, 13, 14, 15, 16, 17, 18, 19, 21] [_, _, _, _, _, _, _, _, _, _, _, _, _, _, _, _, _, _, _, _, _] rfl ?_
  dsimp only [List.getElem_toArray, List.getElem_cons_succ, List.getElem_cons_zero]
  repeat (first | go_big_quiet_skip | (go_big_quiet_want; go_big_quiet_op; first | go_big_quiet_on | (refine ⟨_, fun _ _ => rfl, ?_⟩; go_big_quiet_on)))
  refine wpQuiet_load_part rfl 25 (.tmp 9) rfl w3.heap.size 0 rfl 6 6 _ (ssC V) (ssC V) (fun W hW => row_keep (n := w8.heap.size) ((X8.out).below BB9.out) (X8.out.lt) hW) (by decide) (fun j _ => by rw [Nat.zero_add]) _ Tryz.underlying25 rfl (by kernel_rfl) ?_
  simp only [Act.put, List.setIfInBounds_toArray, List.set_cons_succ, List.set_cons_zero]
  repeat (first | go_big_quiet_skip | (go_big_quiet_want; go_big_quiet_op; first | go_big_quiet_on | (refine ⟨_, fun _ _ => rfl, ?_⟩; go_big_quiet_on)))
  refine wpQuiet_load_part rfl 25 (.tmp 11) rfl w5.heap.size 0 rfl 6 6 _ (ssC V) (ssC V) (fun W hW => row_keep (n := w8.heap.size) ((Y8.out).below BB9.out) (Y8.out.lt) hW) (by decide) (fun j _ => by rw [Nat.zero_add]) _ Tryz.underlying25 rfl (by kernel_rfl) ?_
  simp only [Act.put, List.setIfInBounds_toArray, List.set_cons_succ, List.set_cons_zero]
  repeat (first | go_big_quiet_skip | (go_big_quiet_want; go_big_quiet_op; first | go_big_quiet_on | (refine ⟨_, fun _ _ => rfl, ?_⟩; go_big_quiet_on)))
  refine wpQuiet_unguard rfl ?_
  refine wpQuiet_load_part rfl 25 (.tmp 7) rfl w.heap.size 0 rfl 6 6 _ (ssC s) (ssC s) (fun W hW => row_keep (n := w8.heap.size) ((S8.out).below BB9.out) (S8.out.lt) hW) (by decide) (fun j _ => by rw [Nat.zero_add]) _ Tryz.underlying25 rfl (by kernel_rfl) ?_
  simp only [Act.put, List.setIfInBounds_toArray, List.set_cons_succ, List.set_cons_zero]
  repeat (first | go_big_quiet_skip | (go_big_quiet_want; go_big_quiet_op; first | go_big_quiet_on | (refine ⟨_, fun _ _ => rfl, ?_⟩; go_big_quiet_on)))
  refine wpQuiet_unguard rfl ?_
  refine wpQuiet_load_part rfl 25 (.tmp 7) rfl w.heap.size 0 rfl 6 6 _ (ssC s) (ssC s) (fun W hW => row_keep (n := w8.heap.size) ((S8.out).below BB9.out) (S8.out.lt) hW) (by decide) (fun j _ => by rw [Nat.zero_add]) _ Tryz.underlying25 rfl (by kernel_rfl) ?_
  simp only [Act.put, List.setIfInBounds_toArray, List.set_cons_succ, List.set_cons_zero]
  repeat (first | go_big_quiet_skip | (go_big_quiet_want; go_big_quiet_op; first | go_big_quiet_on | (refine ⟨_, fun _ _ => rfl, ?_⟩; go_big_quiet_on)))
  refine wpQuiet_nil ?_
  refine Tc.plan_one 20 rfl (fun K hK => ?_)
  go_wp2_with fail
  refine (H5.out _).mono ?_
  rintro e w10 ⟨rfl, b10⟩
  have bb := b10.mono BB9.out.size
  have BB10 := Lib.hid (BB9.out.trans bb)
  go_wp2_with fail
  refine hK _ _ (keep_below bb) ?_
  clear hK K bb b10 BB9
  refine Tc.plan_one 22 rfl (fun K hK => ?_)
  go_wp2_with fail
  refine (H6.out _).mono ?_
  rintro e w11 ⟨rfl, b11⟩
  have bb := b11.mono BB10.out.size
  have BB11 := Lib.hid (BB10.out.trans bb)
  go_wp2_with fail
  refine hK _ _ (keep_below bb) ?_
  clear hK K bb b11 BB10
  refine Tc.plan_floats [23, 24] [_, _] rfl ?_
  dsimp only [List.getElem_toArray, List.getElem_cons_succ, List.getElem_cons_zero]
  repeat (first | go_big_quiet_skip | (go_big_quiet_want; go_big_quiet_op; first | go_big_quiet_on | (refine ⟨_, fun _ _ => rfl, ?_⟩; go_big_quiet_on)))
  refine wpQuiet_nil ?_
  refine Tc.plan_pures [25] [_] rfl ?_
  dsimp only [List.getElem_toArray, List.getElem_cons_succ, List.getElem_cons_zero]
  repeat (first | go_big_quiet_skip | (go_big_quiet_want; go_big_quiet_op; first | go_big_quiet_on | (refine ⟨_, fun _ _ => rfl, ?_⟩; go_big_quiet_on)))
  refine wpQuiet_nil ?_
  refine Tc.plan_done (l := []) rfl (fun K hK => ?_)
  go_wp2_with fail
  go_ret
  exact ⟨rfl, B8.out.trans (BB11.out.mono B8.out.size)⟩

set_option maxRecDepth 100000 in
set_option maxHeartbeats 1000000 in
theorem lifted (os : Os) (started : os.Started) (H : Type) (enc : TypeId × Value → H) :
    ReturnsInHanded {} Tryz.checked os 3 .any (fun w args => (Rows.enrollNewSpecSpec.pre enc Tryz.prog Tryz.f3 [] false w args ∧ laidMetH Tryz.prog laidLE w) ∧ sizedMet enc Tryz.prog Tryz.f3 (OpenSpec.ofChange Rows.enrollNewSpecSpec) false w args)
      (Rows.enrollNewSpecSpec.post enc Tryz.prog Tryz.f3 false true false false) := by
  refine returnsInHanded_of_change_and (C := Tryz.checked) (X := fun w _ => laidMetH Tryz.prog laidLE w) (fun _ _ _ hh h => h.of_heap hh) own started (by kernel_rfl) Tryz.func3
    (ChangeSpec.witness_shaped (enc := enc) (C := Tryz.checked) (os := os) (X := fun w _ => laidMetH Tryz.prog laidLE w) false (World.doorLaid Tryz.prog 19 os) #[.int .i64 0, .int .i64 0, .int .i64 0, .agg #[.int .i64 0, .int .i64 0, .int .i64 0, .int .i64 0, .int .i64 0, .bool false]] 8 rfl (World.shaped_of_RefB (by kernel_rfl) (by kernel_rfl)) (by kernel_rfl) (by kernel_rfl) (by kernel_rfl) (door_metE os _)) ?_
  intro W base args ds gs before hval0 hW _ hsz hL _
  have hval : ∀ (j : Nat) t v, Tryz.f3.params[j]? = some t → args[j]? = some v → Value.okWide Tryz.prog W .any base t v := hval0
  have hW' := hW
  obtain ⟨p, q, hA0, hV, rfl, hfz, hnd⟩ := hW
  have hA : DataW.TrodAll enc Tryz.prog W 0 (fun _ => true) true Tryz.f3.params.toList args.toList ds p := hA0
  rw [Tryz.params3] at hA hval
  obtain ⟨v0, vs0, d0, ds0, p0, q0, hargs, rfl, rfl, h0, r0⟩ := trodAll_cons hA
  obtain ⟨v1, vs1, d1, ds1, p1, q1, rfl, rfl, rfl, h1, r1⟩ := trodAll_cons r0
  obtain ⟨v2, vs2, d2, ds2, p2, q2, rfl, rfl, rfl, h2, r2⟩ := trodAll_cons r1
  obtain ⟨v3, vs3, d3, ds3, p3, q3, rfl, rfl, rfl, h3, r3⟩ := trodAll_cons r2
  obtain ⟨rfl, rfl, rfl⟩ := trodAll_nil r3
  obtain rfl : args = #[v0, v1, v2, v3] := by cases args; simp_all
  obtain ⟨rfl, rfl⟩ := trodVars_none hV
  obtain ⟨a0, rfl, rfl, rfl, w0⟩ := open_int Tryz.underlying3 (hval 0 3 v0 rfl rfl) h0
  obtain ⟨a1, rfl, rfl, rfl, w1⟩ := open_int Tryz.underlying3 (hval 1 3 v1 rfl rfl) h1
  obtain ⟨a2, rfl, rfl, rfl, w2⟩ := open_int Tryz.underlying3 (hval 2 3 v2 rfl rfl) h2
  have k3 := h3
  have lt3 : ∀ x ∈ p3, x.block < W.heap.size := by obtain ⟨m, hm⟩ := k3; exact DataW.trod_lt m _ _ _ hm
  obtain ⟨a3, wa3, rfl⟩ := ss_open (hval 3 25 v3 rfl rfl) h3
  obtain ⟨hT, hE⟩ := tabE_of_laid hL
  clear hA0 hval0 hsz hL
  simp only [List.append_nil] at hW'
  refine (walk a0 w0 a1 w1 a2 w2 a3 wa3 hT hE).mono fun e W' ⟨he, hg⟩ => ?_
  subst he
  exact ⟨_, rfl, _, _, _, [], _, [], hW', trodAll_mk1 (shut_bool Tryz.underlying4 _), (trodAll_cons_mk (shut_int Tryz.underlying3 w0) (trodAll_cons_mk (shut_int Tryz.underlying3 w1) (trodAll_cons_mk (shut_int Tryz.underlying3 w2) (trodAll_cons_mk (Below.trod laidOut (by kernel_rfl) (of_decide_eq_true (by kernel_rfl)) k3 hg lt3) trodAll_mk0)))), rfl, hg.frame _, fun h => by cases h⟩

theorem over : Rows.enrollNewSpecRow.holds Tryz.pinned (OpenSpec.ofChange Rows.enrollNewSpecSpec) :=
  OpenClaim.holds_of_wide 3 Tryz.f3 rfl rfl rfl rfl rfl rfl rfl ⟨rfl, rfl, rfl, rfl, rfl⟩ rfl rfl rfl rfl rfl (by kernel_rfl) Tryz.func3 (by kernel_rfl)
    (of_decide_eq_true (by kernel_rfl)) (by unfold Func.isWrapper; first | (rw [if_pos (by decide +kernel)]; kernel_rfl) | (rw [if_neg (by decide +kernel)]; exact ⟨rfl, rfl⟩))
    (fun os started H enc _ => lifted os started H enc)

end Go.Proofs.YtpekhdahamloaaaGreatDoor.enrollNewSpec
namespace Go.Proofs.YtpekhdahamloaaaGreatDoor
set_option maxRecDepth 100000 in
theorem enrollNewSpec_holds : Rows.EnrollNewSpecCardSaid :=
  Claim7.holds_tied_plain_at .later [] [.handle, .data, .data] true _ true
    enrollNewSpec.over (fun _ h => by cases h) (by kernel_rfl) (fun _ h => by cases h) enrollNewSpec_row_tie rfl ⟨rfl, rfl⟩ (by kernel_rfl) rfl
    (fun f fn hf hfn => by
      obtain rfl : f = 3 := Option.some.inj ((show Tryz.prog.funcNamed "chartroom/chartroomlaw38.EnrollNewSpec" = some 3 by kernel_rfl).symm.trans hf) |>.symm
      obtain rfl : fn = Tryz.f3 := (Option.some.inj (Tryz.func3.symm.trans hfn)).symm
      exact ⟨by kernel_rfl, fun j t ht => by
        rw [Tryz.params3] at ht
        have hm : t ∈ [3, 3, 3, 25] := by simpa using Array.mem_of_getElem? ht
        have hall : ([3, 3, 3, 25].all fun u => !Tryz.prog.wantsStandIn u) = true := by kernel_rfl
        exact (show Tryz.prog.wantsStandIn t = false by simpa using List.all_eq_true.1 hall t hm)⟩)
    (by kernel_rfl)
#print axioms enrollNewSpec_holds
end Go.Proofs.YtpekhdahamloaaaGreatDoor
