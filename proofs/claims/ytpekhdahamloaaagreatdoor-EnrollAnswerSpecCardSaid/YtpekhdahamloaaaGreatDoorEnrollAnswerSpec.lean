/- EnrollAnswerSpec returns true for every input. No condition beyond the card's own: the two tables of package digest and the variable errorType of package errors are tied to the program's text. -/
import Derived.Test.YtpekhdahamloaaaGreatDoorPk52
import Derived.Test.YtpekhdahamloaaaGreatDoorPk40
import Derived.Test.YtpekhdahamloaaaGreatDoorCards
namespace Go.Proofs.YtpekhdahamloaaaGreatDoor.enrollAnswerSpec
open Go.ChangeShapes Go.WideShapes Go.ChangeAt Go.RowKit
open Go.ChangeMaps (open_string shut_string)
set_option linter.unusedVariables false
set_option linter.unusedSimpArgs false

set_option maxRecDepth 100000 in
set_option maxHeartbeats 8000000 in
theorem walk {w : World} (s : Ss) (ws : s.wf) (q : Rq) (wq : q.wf) (v : Int) (wv : (Lit.int .i64 v).wf = true) (b : Int) (wb : (Lit.int .i64 b).wf = true) (x : Int) (wx : (Lit.int .i64 x).wf = true) (hT : Tab w) (hE : ErrT w) :
    Calls Tryz.prog 5 #[.agg (rowF 6 (ssC s)), .agg (rowF 36 (rqC q)), .int .i64 v, .int .i64 b, .int .i64 x] w fun e w' => e = .returned (.bool true) ∧ Below w.heap.size w w' := by
  have SN := Lib.hid (fun W (h : Tab W) (h2 : ErrT W) => sane38_any W h h2)
  have HT := Lib.hid hT; have HE := Lib.hid hE
  have c1 := fun W (h1 : Tab W) (h2 : ErrT W) => pans_any s q wq v b x (i64B_of wv) (i64B_of wb) W h1 h2
  have c2 := fun W => qans_any s q wq v b x (i64B_of wv) (i64B_of wb) W
  obtain ⟨AE, hAE⟩ : ∃ y, ansE s q v b x = y := ⟨_, rfl⟩
  obtain ⟨AS, hAS⟩ : ∃ y, ansS s q v b x = y := ⟨_, rfl⟩
  obtain ⟨AC, hAC⟩ : ∃ y, ansC s q v b x = y := ⟨_, rfl⟩
  rw [hAE, hAS, hAC] at c1 c2
  have es : ∀ W, (binOp .eql 25 (.agg (rowF 6 (ssC AS))) (.agg (rowF 6 (ssC AS)))).run Tryz.prog W = .ok (.bool true) W := fun W => by rw [eql_ss AS AS W, ssB_self]
  have gs : ∀ x y W, (eqGuard .eql 25 x y (.agg (rowF 6 (ssC AS))) (.agg (rowF 6 (ssC AS)))).run Tryz.prog W = .ok () W := fun x y W => guard_ss .eql x y AS AS W
  have ec : ∀ W, (binOp .eql 44 (.agg (rowF 8 (ctC AC))) (.agg (rowF 8 (ctC AC)))).run Tryz.prog W = .ok (.bool true) W := fun W => by rw [eql_ct AC AC W, ctB_self]
  have gc : ∀ x y W, (eqGuard .eql 44 x y (.agg (rowF 8 (ctC AC))) (.agg (rowF 8 (ctC AC)))).run Tryz.prog W = .ok () W := fun x y W => guard_ct .eql x y AC AC W
  have H1 := Lib.hid c1; have H2 := Lib.hid c2; have ES := Lib.hid es; have GS := Lib.hid gs; have EC := Lib.hid ec; have GC := Lib.hid gc
  clear hT hE c1 c2 hAE hAS hAC es gs ec gc ws wq wv wb wx
  go_enter Tryz.func5, Tryz.ntmps5
  have B0 := Lib.hid (Below.refl w.heap.size w)
  go_upto_region 1 with fail
  obtain ⟨w1, hw1⟩ : ∃ y, w.alloc (.cells (rowF 6 (ssC s)) 25) = y := ⟨_, rfl⟩
  have b1 : Below w.heap.size w w1 := by rw [← hw1]; exact (Below.refl _ _).alloc (Nat.le_refl _) _
  have S1 : Hid (RowV w1 w.heap.size 25 6 (ssC s)) := Lib.hid (by rw [← hw1]; exact RowV.new w _ 6 (ssC s))
  have z1 : w.heap.size + 1 = w1.heap.size := by rw [← hw1]; exact (Array.size_push _).symm
  rw [hw1]
  (try rw [z1])
  have B1 := Lib.hid (B0.out.trans (b1.mono B0.out.size))
  clear b1 hw1 z1 B0
  obtain ⟨w2, hw2⟩ : ∃ y, w1.alloc (.cells (rowF 36 (rqC q)) 37) = y := ⟨_, rfl⟩
  have b2 : Below w1.heap.size w1 w2 := by rw [← hw2]; exact (Below.refl _ _).alloc (Nat.le_refl _) _
  have Q2 : Hid (RowV w2 w1.heap.size 37 36 (rqC q)) := Lib.hid (by rw [← hw2]; exact RowV.new w1 _ 36 (rqC q))
  have z2 : w1.heap.size + 1 = w2.heap.size := by rw [← hw2]; exact (Array.size_push _).symm
  rw [hw2]
  (try rw [z2])
  have B2 := Lib.hid (B1.out.trans (b2.mono B1.out.size))
  have S2 := Lib.hid (S1.out.below b2)
  clear b2 hw2 z2 B1 S1
  go_wp2_with fail
  refine (SN.out _ (HT.out.below B2.out) (HE.out.below B2.out HE.out.lt)).mono ?_
  rintro e w3 ⟨rfl, b3⟩
  have B3 := Lib.hid (B2.out.trans (b3.mono B2.out.size))
  have S3 := Lib.hid (S2.out.below b3)
  have Q3 := Lib.hid (Q2.out.below b3)
  clear b3 B2 S2 Q2
  go_wp2_with (first | ((with_reducible (show wpList _ _ _ (Oper.mk (some 20) _ _ _ _ _ :: _) _ _)); refine wpList_load_rowV rfl 25 (.tmp 5) rfl w.heap.size rfl 6 25 _ S3.out _ Tryz.underlying25 rfl (by kernel_rfl) ?_) | ((with_reducible (show wpList _ _ _ (Oper.mk (some 21) _ _ _ _ _ :: _) _ _)); refine wpList_load_rowV rfl 37 (.tmp 6) rfl w1.heap.size rfl 36 37 _ Q3.out _ Tryz.underlying37 rfl (by kernel_rfl) ?_))
  refine (H1.out _ (HT.out.below B3.out) (HE.out.below B3.out HE.out.lt)).mono ?_
  rintro e w4 ⟨rfl, b4⟩
  have B4 := Lib.hid (B3.out.trans (b4.mono B3.out.size))
  have S4 := Lib.hid (S3.out.below b4)
  have Q4 := Lib.hid (Q3.out.below b4)
  clear b4 B3 S3 Q3
  have Za := Lib.hid ((RowV.new w4 25 6 (ssC ss0)).alloc (.cells (rowF 8 (ctC ct0)) 44))
  have Zb : Hid (RowV ((w4.alloc (.cells (rowF 6 (ssC ss0)) 25)).alloc (.cells (rowF 8 (ctC ct0)) 44)) (w4.heap.size + 1) 44 8 (ctC ct0)) := Lib.hid (by have h := RowV.new (w4.alloc (.cells (rowF 6 (ssC ss0)) 25)) 44 8 (ctC ct0); rwa [World.size_alloc] at h)
  go_upto_region 4 with (first | ((with_reducible (show wpList _ _ _ (Oper.mk none _ _ _ _ _ :: _) _ _)); refine wpList_store_rowV (o := ⟨none, .store 25 (.tmp 11) (.tmp 26), _, _, _, _⟩) rfl 25 (.tmp 11) (.tmp 26) rfl (w4.heap.size) rfl 6 25 _ (ssC AS) rfl Za.out (by kernel_rfl) (fun j _ => ssC_one AS j) ?_; intro wa Sa oa) | ((with_reducible (show wpList _ _ _ (Oper.mk none _ _ _ _ _ :: _) _ _)); refine wpList_store_rowV (o := ⟨none, .store 44 (.tmp 12) (.tmp 27), _, _, _, _⟩) rfl 44 (.tmp 12) (.tmp 27) rfl (w4.heap.size + 1) rfl 8 44 _ (ctC AC) rfl (oa.out.row (Nat.ne_of_gt (Nat.lt_succ_self _)) Zb.out) (by kernel_rfl) (fun j _ => ctC_one AC j) ?_; intro w5 Y5 ob))
  have X5 := Lib.hid (ob.out.row (Nat.ne_of_lt (Nat.lt_succ_self _)) Sa.out)
  have b5 : Below w4.heap.size w4 w5 := by
    have h1 := (Below.refl w4.heap.size w4).alloc (Nat.le_refl _) (.cells (rowF 6 (ssC ss0)) 25)
    have h2 := h1.alloc h1.size (.cells (rowF 8 (ctC ct0)) 44)
    have h3 := h2.trans (oa.out.below (K := w4.heap.size) (Nat.le_refl _) h2.size)
    exact h3.trans (ob.out.below (K := w4.heap.size) (Nat.le_succ _) h3.size)
  have B5 := Lib.hid (B4.out.trans (b5.mono B4.out.size))
  have S5 := Lib.hid (S4.out.below b5)
  have Q5 := Lib.hid (Q4.out.below b5)
  clear b5 oa ob Sa Za Zb B4 S4 Q4
  go_wp2_with (first | ((with_reducible (show wpList _ _ _ (Oper.mk (some 30) _ _ _ _ _ :: _) _ _)); refine wpList_load_rowV rfl 25 (.tmp 5) rfl w.heap.size rfl 6 25 _ S5.out _ Tryz.underlying25 rfl (by kernel_rfl) ?_) | ((with_reducible (show wpList _ _ _ (Oper.mk (some 31) _ _ _ _ _ :: _) _ _)); refine wpList_load_rowV rfl 37 (.tmp 6) rfl w1.heap.size rfl 36 37 _ Q5.out _ Tryz.underlying37 rfl (by kernel_rfl) ?_))
  refine (H2.out _).mono ?_
  rintro e w6 ⟨rfl, b6⟩
  have B6 := Lib.hid (B5.out.trans (b6.mono B5.out.size))
  have S6 := Lib.hid (S5.out.below b6)
  have Q6 := Lib.hid (Q5.out.below b6)
  have X6 := Lib.hid (X5.out.below b6)
  have Y6 := Lib.hid (Y5.out.below b6)
  clear b6 B5 S5 Q5 X5 Y5
  have Za := Lib.hid ((RowV.new w6 25 6 (ssC ss0)).alloc (.cells (rowF 8 (ctC ct0)) 44))
  have Zb : Hid (RowV ((w6.alloc (.cells (rowF 6 (ssC ss0)) 25)).alloc (.cells (rowF 8 (ctC ct0)) 44)) (w6.heap.size + 1) 44 8 (ctC ct0)) := Lib.hid (by have h := RowV.new (w6.alloc (.cells (rowF 6 (ssC ss0)) 25)) 44 8 (ctC ct0); rwa [World.size_alloc] at h)
  go_upto_region 5 with (first | ((with_reducible (show wpList _ _ _ (Oper.mk none _ _ _ _ _ :: _) _ _)); refine wpList_store_rowV (o := ⟨none, .store 25 (.tmp 14) (.tmp 36), _, _, _, _⟩) rfl 25 (.tmp 14) (.tmp 36) rfl (w6.heap.size) rfl 6 25 _ (ssC AS) rfl Za.out (by kernel_rfl) (fun j _ => ssC_one AS j) ?_; intro wa Sa oa) | ((with_reducible (show wpList _ _ _ (Oper.mk none _ _ _ _ _ :: _) _ _)); refine wpList_store_rowV (o := ⟨none, .store 44 (.tmp 15) (.tmp 37), _, _, _, _⟩) rfl 44 (.tmp 15) (.tmp 37) rfl (w6.heap.size + 1) rfl 8 44 _ (ctC AC) rfl (oa.out.row (Nat.ne_of_gt (Nat.lt_succ_self _)) Zb.out) (by kernel_rfl) (fun j _ => ctC_one AC j) ?_; intro w7 V7 ob))
  have U7 := Lib.hid (ob.out.row (Nat.ne_of_lt (Nat.lt_succ_self _)) Sa.out)
  have b7 : Below w6.heap.size w6 w7 := by
    have h1 := (Below.refl w6.heap.size w6).alloc (Nat.le_refl _) (.cells (rowF 6 (ssC ss0)) 25)
    have h2 := h1.alloc h1.size (.cells (rowF 8 (ctC ct0)) 44)
    have h3 := h2.trans (oa.out.below (K := w6.heap.size) (Nat.le_refl _) h2.size)
    exact h3.trans (ob.out.below (K := w6.heap.size) (Nat.le_succ _) h3.size)
  have B7 := Lib.hid (B6.out.trans (b7.mono B6.out.size))
  have S7 := Lib.hid (S6.out.below b7)
  have Q7 := Lib.hid (Q6.out.below b7)
  have X7 := Lib.hid (X6.out.below b7)
  have Y7 := Lib.hid (Y6.out.below b7)
  clear b7 oa ob Sa Za Zb B6 S6 Q6 X6 Y6
  have es := ES.out
  have gs := GS.out
  have ec := EC.out
  have gc := GC.out
  go_wp2_with (first | ((with_reducible (show wpList _ _ _ (Oper.mk (some 39) _ _ _ _ _ :: _) _ _)); refine wpList_load_rowV rfl 25 (.tmp 11) rfl w4.heap.size rfl 6 25 _ X7.out _ Tryz.underlying25 rfl (by kernel_rfl) ?_) | ((with_reducible (show wpList _ _ _ (Oper.mk (some 40) _ _ _ _ _ :: _) _ _)); refine wpList_load_rowV rfl 25 (.tmp 14) rfl w6.heap.size rfl 6 25 _ U7.out _ Tryz.underlying25 rfl (by kernel_rfl) ?_) | ((with_reducible (show wpList _ _ _ (Oper.mk (some 43) _ _ _ _ _ :: _) _ _)); refine wpList_unguard rfl ?_; refine wpList_load_rowV rfl 44 (.tmp 12) rfl (w4.heap.size + 1) rfl 8 44 _ Y7.out _ Tryz.underlying44 rfl (by kernel_rfl) ?_) | ((with_reducible (show wpList _ _ _ (Oper.mk (some 44) _ _ _ _ _ :: _) _ _)); refine wpList_unguard rfl ?_; refine wpList_load_rowV rfl 44 (.tmp 15) rfl (w6.heap.size + 1) rfl 8 44 _ V7.out _ Tryz.underlying44 rfl (by kernel_rfl) ?_))
  go_ret
  exact ⟨rfl, B7.out⟩

set_option maxRecDepth 100000 in
set_option maxHeartbeats 1000000 in
theorem lifted (os : Os) (started : os.Started) (H : Type) (enc : TypeId × Value → H) :
    ReturnsInHanded {} Tryz.checked os 5 .any (fun w args => (Rows.enrollAnswerSpecSpec.pre enc Tryz.prog Tryz.f5 [] false w args ∧ laidMetH Tryz.prog laidLE w) ∧ sizedMet enc Tryz.prog Tryz.f5 (OpenSpec.ofChange Rows.enrollAnswerSpecSpec) false w args)
      (Rows.enrollAnswerSpecSpec.post enc Tryz.prog Tryz.f5 false true false false) := by
  refine returnsInHanded_of_change_and (C := Tryz.checked) (X := fun w _ => laidMetH Tryz.prog laidLE w) (fun _ _ _ hh h => h.of_heap hh) own started (by kernel_rfl) Tryz.func5
    (ChangeSpec.witness_shaped (enc := enc) (C := Tryz.checked) (os := os) (X := fun w _ => laidMetH Tryz.prog laidLE w) false (World.doorLaid Tryz.prog 19 os) #[.agg #[.int .i64 0, .int .i64 0, .int .i64 0, .int .i64 0, .int .i64 0, .bool false], .agg #[.int .i64 0, .int .i64 0, .int .i64 0, .int .i64 0, .int .u8 0, .int .u8 0, .int .u8 0, .int .u8 0, .int .u8 0, .int .u8 0, .int .u8 0, .int .u8 0, .int .u8 0, .int .u8 0, .int .u8 0, .int .u8 0, .int .u8 0, .int .u8 0, .int .u8 0, .int .u8 0, .int .u8 0, .int .u8 0, .int .u8 0, .int .u8 0, .int .u8 0, .int .u8 0, .int .u8 0, .int .u8 0, .int .u8 0, .int .u8 0, .int .u8 0, .int .u8 0, .int .u8 0, .int .u8 0, .int .u8 0, .int .u8 0], .int .i64 0, .int .i64 0, .int .i64 0] 8 rfl (World.shaped_of_RefB (by kernel_rfl) (by kernel_rfl)) (by kernel_rfl) (by kernel_rfl) (by kernel_rfl) (door_metE os _)) ?_
  intro W base args ds gs before hval0 hW _ hsz hL _
  have hval : ∀ (j : Nat) t v, Tryz.f5.params[j]? = some t → args[j]? = some v → Value.okWide Tryz.prog W .any base t v := hval0
  have hW' := hW
  obtain ⟨p, q, hA0, hV, rfl, hfz, hnd⟩ := hW
  have hA : DataW.TrodAll enc Tryz.prog W 0 (fun _ => true) true Tryz.f5.params.toList args.toList ds p := hA0
  rw [Tryz.params5] at hA hval
  obtain ⟨v0, vs0, d0, ds0, p0, q0, hargs, rfl, rfl, h0, r0⟩ := trodAll_cons hA
  obtain ⟨v1, vs1, d1, ds1, p1, q1, rfl, rfl, rfl, h1, r1⟩ := trodAll_cons r0
  obtain ⟨v2, vs2, d2, ds2, p2, q2, rfl, rfl, rfl, h2, r2⟩ := trodAll_cons r1
  obtain ⟨v3, vs3, d3, ds3, p3, q3, rfl, rfl, rfl, h3, r3⟩ := trodAll_cons r2
  obtain ⟨v4, vs4, d4, ds4, p4, q4, rfl, rfl, rfl, h4, r4⟩ := trodAll_cons r3
  obtain ⟨rfl, rfl, rfl⟩ := trodAll_nil r4
  obtain rfl : args = #[v0, v1, v2, v3, v4] := by cases args; simp_all
  obtain ⟨rfl, rfl⟩ := trodVars_none hV
  have k0 := h0
  have lt0 : ∀ x ∈ p0, x.block < W.heap.size := by obtain ⟨m, hm⟩ := k0; exact DataW.trod_lt m _ _ _ hm
  obtain ⟨a0, wa0, rfl⟩ := ss_open (hval 0 25 v0 rfl rfl) h0
  have k1 := h1
  have lt1 : ∀ x ∈ p1, x.block < W.heap.size := by obtain ⟨m, hm⟩ := k1; exact DataW.trod_lt m _ _ _ hm
  obtain ⟨a1, wa1, rfl⟩ := rq_open (hval 1 37 v1 rfl rfl) h1
  obtain ⟨a2, rfl, rfl, rfl, w2⟩ := open_int Tryz.underlying3 (hval 2 3 v2 rfl rfl) h2
  obtain ⟨a3, rfl, rfl, rfl, w3⟩ := open_int Tryz.underlying3 (hval 3 3 v3 rfl rfl) h3
  obtain ⟨a4, rfl, rfl, rfl, w4⟩ := open_int Tryz.underlying3 (hval 4 3 v4 rfl rfl) h4
  obtain ⟨hT, hE⟩ := tabE_of_laid hL
  clear hA0 hval0 hsz hL
  simp only [List.append_nil] at hW'
  refine (walk a0 wa0 a1 wa1 a2 w2 a3 w3 a4 w4 hT hE).mono fun e W' ⟨he, hg⟩ => ?_
  subst he
  exact ⟨_, rfl, _, _, _, [], _, [], hW', trodAll_mk1 (shut_bool Tryz.underlying4 _), (trodAll_cons_mk (Below.trod laidOut (by kernel_rfl) (of_decide_eq_true (by kernel_rfl)) k0 hg lt0) (trodAll_cons_mk (Below.trod laidOut (by kernel_rfl) (of_decide_eq_true (by kernel_rfl)) k1 hg lt1) (trodAll_cons_mk (shut_int Tryz.underlying3 w2) (trodAll_cons_mk (shut_int Tryz.underlying3 w3) (trodAll_cons_mk (shut_int Tryz.underlying3 w4) trodAll_mk0))))), rfl, hg.frame _, fun h => by cases h⟩

theorem over : Rows.enrollAnswerSpecRow.holds Tryz.pinned (OpenSpec.ofChange Rows.enrollAnswerSpecSpec) :=
  OpenClaim.holds_of_wide 5 Tryz.f5 rfl rfl rfl rfl rfl rfl rfl ⟨rfl, rfl, rfl, rfl, rfl⟩ rfl rfl rfl rfl rfl (by kernel_rfl) Tryz.func5 (by kernel_rfl)
    (of_decide_eq_true (by kernel_rfl)) (by unfold Func.isWrapper; first | (rw [if_pos (by decide +kernel)]; kernel_rfl) | (rw [if_neg (by decide +kernel)]; exact ⟨rfl, rfl⟩))
    (fun os started H enc _ => lifted os started H enc)

end Go.Proofs.YtpekhdahamloaaaGreatDoor.enrollAnswerSpec
namespace Go.Proofs.YtpekhdahamloaaaGreatDoor
set_option maxRecDepth 100000 in
theorem enrollAnswerSpec_holds : Rows.EnrollAnswerSpecCardSaid :=
  Claim7.holds_tied_plain_at .later [] [.handle, .data, .data] true _ true
    enrollAnswerSpec.over (fun _ h => by cases h) (by kernel_rfl) (fun _ h => by cases h) enrollAnswerSpec_row_tie rfl ⟨rfl, rfl⟩ (by kernel_rfl) rfl
    (fun f fn hf hfn => by
      obtain rfl : f = 5 := Option.some.inj ((show Tryz.prog.funcNamed "chartroom/chartroomlaw38.EnrollAnswerSpec" = some 5 by kernel_rfl).symm.trans hf) |>.symm
      obtain rfl : fn = Tryz.f5 := (Option.some.inj (Tryz.func5.symm.trans hfn)).symm
      exact ⟨by kernel_rfl, fun j t ht => by
        rw [Tryz.params5] at ht
        have hm : t ∈ [25, 37, 3, 3, 3] := by simpa using Array.mem_of_getElem? ht
        have hall : ([25, 37, 3, 3, 3].all fun u => !Tryz.prog.wantsStandIn u) = true := by kernel_rfl
        exact (show Tryz.prog.wantsStandIn t = false by simpa using List.all_eq_true.1 hall t hm)⟩)
    (by kernel_rfl)
#print axioms enrollAnswerSpec_holds
end Go.Proofs.YtpekhdahamloaaaGreatDoor
