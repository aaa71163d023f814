/- The laws of package enroll: sane. What a tied row of package enroll has from its condition; its arguments opened. Sessions, requests and certificates compared. -/
import Derived.Test.YtpekhdahamloaaaGreatDoorPk43
import Derived.Test.YtpekhdahamloaaaGreatDoorPk42
import Derived.LaidHandle
import Derived.LaidLaws
set_option linter.unusedVariables false
set_option linter.unusedSimpArgs false
namespace Go.Proofs.YtpekhdahamloaaaGreatDoor
open Go.RowKit Cod
set_option maxRecDepth 100000 in
set_option maxHeartbeats 16000000 in
theorem sane38_any (w : World) (hT : Tab w) (hE : ErrT w) :
    Calls Tryz.prog 10 #[] w fun e w' => e = .returned (.bool true) ∧ Below w.heap.size w w' := by
  have c1 : ∀ W, Calls Tryz.prog 11 #[.int .i64 1, .int .i64 123456, .int .i64 7] W fun e w' => e = .returned (.tuple #[.agg (rowF 6 (ssC sX)), .int .i64 0]) ∧ Below W.heap.size W w' := fun W => by
    have := pnew38_any 1 123456 7 W
    rwa [X_new.1, X_new.2] at this
  have c2 : ∀ W, Tab W → Calls Tryz.prog 13 #[.agg (rowF 6 (ssC sX))] W fun e w' => e = .returned (.tuple #[.int .i64 (pX : Int), .int .i64 0]) ∧ Below W.heap.size W w' := fun W h => by
    have := ppoint38_any sX W h
    rwa [X_pt, show chkSs sX = 0 from chk_of (ok_X (t := 0) (d := false) (by decide))] at this
  have c3 : ∀ W, Calls Tryz.prog 28 #[.int .i64 9] W fun e w' => e = .returned (.tuple #[.int .i64 (vf9 : Int), .int .i64 0]) ∧ Below W.heap.size W w' := fun W => public_key 9 (by decide) (by decide) W
  have c4 : ∀ W, Tab W → Calls Tryz.prog 17 #[.int .i64 123456, .int .i64 11, .int .i64 (pX : Int), .int .i64 10, .int .i64 (vf9 : Int), .int .i64 4] W fun e w' => e = .returned (.tuple #[.agg (rowF 36 (rqC rX)), .int .i64 0]) ∧ Below W.heap.size W w' := fun W h => by
    have := pask_any 123456 11 (pX : Int) 10 (vf9 : Int) 4 ⟨by decide, by decide⟩ vf9_bd ⟨by decide, by decide⟩ W h
    rwa [X_ask.1, X_ask.2] at this
  have c5 : ∀ W, Tab W → ErrT W → Calls Tryz.prog 19 #[.agg (rowF 6 (ssC sX)), .agg (rowF 36 (rqC rX)), .int .i64 1, .int .i64 8, .int .i64 5] W fun e w' => e = .returned (.tuple #[.agg (rowF 6 (ssC xX)), .agg (rowF 8 (ctC cX)), .int .i64 0]) ∧ Below W.heap.size W w' := fun W h1 h2 => by
    have := pans_any sX rX rX_wf 1 8 5 ⟨by decide, by decide⟩ ⟨by decide, by decide⟩ W h1 h2
    rwa [X_ans.1, X_ans.2.1, X_ans.2.2] at this
  have c6 : ∀ W, Tab W → ErrT W → Calls Tryz.prog 19 #[.agg (rowF 6 (ssC xX)), .agg (rowF 36 (rqC rX)), .int .i64 1, .int .i64 8, .int .i64 5] W fun e w' => e = .returned (.tuple #[.agg (rowF 6 (ssC ss0)), .agg (rowF 8 (ctC ct0)), .int .i64 380]) ∧ Below W.heap.size W w' := fun W h1 h2 => by
    have := pans_any xX rX rX_wf 1 8 5 ⟨by decide, by decide⟩ ⟨by decide, by decide⟩ W h1 h2
    rwa [X_again.1, X_again.2.1, X_again.2.2] at this
  have c7 : ∀ W, Tab W → Calls Tryz.prog 17 #[.int .i64 123457, .int .i64 11, .int .i64 (pX : Int), .int .i64 10, .int .i64 (vf9 : Int), .int .i64 4] W fun e w' => e = .returned (.tuple #[.agg (rowF 36 (rqC wX)), .int .i64 0]) ∧ Below W.heap.size W w' := fun W h => by
    have := pask_any 123457 11 (pX : Int) 10 (vf9 : Int) 4 ⟨by decide, by decide⟩ vf9_bd ⟨by decide, by decide⟩ W h
    rwa [X_wrong.1, show askV 123457 11 (pX : Int) 10 (vf9 : Int) 4 = wX from rfl] at this
  have c8 : ∀ W, Tab W → ErrT W → Calls Tryz.prog 19 #[.agg (rowF 6 (ssC sX)), .agg (rowF 36 (rqC zX)), .int .i64 1, .int .i64 8, .int .i64 5] W fun e w' => e = .returned (.tuple #[.agg (rowF 6 (ssC (ansS sX zX 1 8 5))), .agg (rowF 8 (ctC (ansC sX zX 1 8 5))), .int .i64 (ansE sX zX 1 8 5)]) ∧ Below W.heap.size W w' := fun W h1 h2 => pans_any sX zX zX_wf 1 8 5 ⟨by decide, by decide⟩ ⟨by decide, by decide⟩ W h1 h2
  have c9 : ∀ W, Tab W → ErrT W → Calls Tryz.prog 19 #[.agg (rowF 6 (ssC ⟨1, 123456, 7, 1, 5, false⟩)), .agg (rowF 36 (rqC rX)), .int .i64 1, .int .i64 8, .int .i64 5] W fun e w' => e = .returned (.tuple #[.agg (rowF 6 (ssC ss0)), .agg (rowF 8 (ctC ct0)), .int .i64 381]) ∧ Below W.heap.size W w' := fun W h1 h2 => by
    have := pans_any ⟨1, 123456, 7, 1, 5, false⟩ rX rX_wf 1 8 5 ⟨by decide, by decide⟩ ⟨by decide, by decide⟩ W h1 h2
    rwa [X_lock.1, X_lock.2.1, X_lock.2.2] at this
  have c10 : ∀ W, Calls Tryz.prog 11 #[.int .i64 64, .int .i64 0, .int .i64 1] W fun e w' => e = .returned (.tuple #[.agg (rowF 6 (ssC ss0)), .int .i64 1]) ∧ Below W.heap.size W w' := fun W => by
    have := pnew38_any 64 0 1 W
    rwa [X_no.1, X_no.2.1] at this
  have c11 : ∀ W, Calls Tryz.prog 11 #[.int .i64 0, .int .i64 1000000, .int .i64 1] W fun e w' => e = .returned (.tuple #[.agg (rowF 6 (ssC ss0)), .int .i64 100]) ∧ Below W.heap.size W w' := fun W => by
    have := pnew38_any 0 1000000 1 W
    rwa [X_no.2.2.1, X_no.2.2.2.1] at this
  have c12 : ∀ W, Tab W → Calls Tryz.prog 17 #[.int .i64 0, .int .i64 1, .int .i64 4, .int .i64 512, .int .i64 4, .int .i64 4] W fun e w' => e = .returned (.tuple #[.agg (rowF 36 (rqC rq0)), .int .i64 1]) ∧ Below W.heap.size W w' := fun W h => by
    have := pask_any 0 1 4 512 4 4 ⟨by decide, by decide⟩ ⟨by decide, by decide⟩ ⟨by decide, by decide⟩ W h
    rwa [X_no.2.2.2.2.1, X_no.2.2.2.2.2] at this
  have c13 : ∀ W, Calls Tryz.prog 30 #[.agg (rowF 6 (ssC sX)), .agg (rowF 36 (rqC zX))] W fun e w' => e = .returned (digV (wantL sX zX)) ∧ Below W.heap.size W w' := fun W => qwanted_any sX zX zX_wf W
  have XZ := X_zero
  have CI := cX_is
  have WL := wantL_len sX zX
  have zz : zX = ⟨wX.pt, wX.dv, wX.vf, wX.lf, zero32⟩ := rfl
  obtain ⟨p, hp⟩ : ∃ y : Int, (pX : Int) = y := ⟨_, rfl⟩
  obtain ⟨vf, hvf⟩ : ∃ y : Int, (vf9 : Int) = y := ⟨_, rfl⟩
  obtain ⟨r, hr⟩ : ∃ y, rX = y := ⟨_, rfl⟩
  obtain ⟨cc, hcc⟩ : ∃ y, cX = y := ⟨_, rfl⟩
  obtain ⟨wr, hwr⟩ : ∃ y, wX = y := ⟨_, rfl⟩
  obtain ⟨zr, hzr⟩ : ∃ y, zX = y := ⟨_, rfl⟩
  rw [hp] at c2 c4 c7
  rw [hvf] at c3 c4 c7 CI
  rw [hr] at c4 c5 c6 c9
  rw [hcc] at c5 CI
  rw [hwr] at c7 zz
  rw [hzr] at c8 c13 XZ WL zz
  obtain ⟨ys, hys⟩ : ∃ y, ansS sX zr 1 8 5 = y := ⟨_, rfl⟩
  obtain ⟨yc, hyc⟩ : ∃ y, ansC sX zr 1 8 5 = y := ⟨_, rfl⟩
  obtain ⟨ye, hye⟩ : ∃ y, ansE sX zr 1 8 5 = y := ⟨_, rfl⟩
  rw [hys, hyc, hye] at c8
  rw [hys, hye] at XZ
  obtain ⟨L, hL⟩ : ∃ y, wantL sX zr = y := ⟨_, rfl⟩
  rw [hL] at c13 XZ WL
  have heq : ∀ W, (binOp .eql 35 (digV L) (.agg #[.int .u8 0, .int .u8 0, .int .u8 0, .int .u8 0, .int .u8 0, .int .u8 0, .int .u8 0, .int .u8 0, .int .u8 0, .int .u8 0, .int .u8 0, .int .u8 0, .int .u8 0, .int .u8 0, .int .u8 0, .int .u8 0, .int .u8 0, .int .u8 0, .int .u8 0, .int .u8 0, .int .u8 0, .int .u8 0, .int .u8 0, .int .u8 0, .int .u8 0, .int .u8 0, .int .u8 0, .int .u8 0, .int .u8 0, .int .u8 0, .int .u8 0, .int .u8 0])).run Tryz.prog W = .ok (.bool (L == zero32)) W := fun W => by
    rw [lit_zero]; exact eql_dig W 35 Tryz.underlying35 WL zero32_len
  have hgu : ∀ x y W, (eqGuard .eql 35 x y (digV L) (.agg #[.int .u8 0, .int .u8 0, .int .u8 0, .int .u8 0, .int .u8 0, .int .u8 0, .int .u8 0, .int .u8 0, .int .u8 0, .int .u8 0, .int .u8 0, .int .u8 0, .int .u8 0, .int .u8 0, .int .u8 0, .int .u8 0, .int .u8 0, .int .u8 0, .int .u8 0, .int .u8 0, .int .u8 0, .int .u8 0, .int .u8 0, .int .u8 0, .int .u8 0, .int .u8 0, .int .u8 0, .int .u8 0, .int .u8 0, .int .u8 0, .int .u8 0, .int .u8 0])).run Tryz.prog W = .ok () W := fun x y W => by
    rw [lit_zero]; exact guard_dig W .eql 35 x y L zero32 (by kernel_rfl)
  have rqz : ∀ i, i < 36 → (if 4 ≤ i ∧ i < 4 + 32 then dgF zero32 (i - 4) else rqC wr i) = rqC zr i := by rw [zz]; exact rq_proof wr zero32
  have H1 := Lib.hid c1; have H2 := Lib.hid c2; have H3 := Lib.hid c3; have H4 := Lib.hid c4; have H5 := Lib.hid c5; have H6 := Lib.hid c6; have H7 := Lib.hid c7; have H8 := Lib.hid c8; have H9 := Lib.hid c9; have H10 := Lib.hid c10; have H11 := Lib.hid c11; have H12 := Lib.hid c12; have H13 := Lib.hid c13
  have HT := Lib.hid hT; have HE := Lib.hid hE; have HXZ := Lib.hid XZ; have HCI := Lib.hid CI; have HQ := Lib.hid heq; have HG := Lib.hid hgu; have HRQ := Lib.hid rqz
  clear c1 c2 c3 c4 c5 c6 c7 c8 c9 c10 c11 c12 c13 hT hE XZ CI WL zz hp hvf hr hcc hwr hzr hys hyc hye hL heq hgu rqz
  go_enter Tryz.func10, Tryz.ntmps10
  have B0 := Lib.hid (Below.refl w.heap.size w)
  go_wp2_with fail
  refine (H1.out _).mono ?_
  rintro e w1 ⟨rfl, b1⟩
  have B1 := Lib.hid (B0.out.trans (b1.mono B0.out.size))
  clear b1 B0
  have Zr := Lib.hid (RowV.new w1 25 6 (ssC ss0))
  go_upto_region 2 with ((with_reducible (show wpList _ _ _ (Oper.mk none _ _ _ _ _ :: _) _ _)); refine wpList_store_rowV (o := ⟨none, .store 25 (.tmp 1) (.tmp 33), _, _, _, _⟩) rfl 25 (.tmp 1) (.tmp 33) rfl w1.heap.size rfl 6 25 _ (ssC sX) rfl Zr.out (by kernel_rfl) (fun j _ => ssC_one sX j) ?_; intro w2 S2 o2)
  have b2 : Below w1.heap.size w1 w2 := ((Below.refl _ _).alloc (Nat.le_refl _) _).trans (o2.out.below (Nat.le_refl _) (by rw [World.size_alloc]; omega))
  have B2 := Lib.hid (B1.out.trans (b2.mono B1.out.size))
  clear b2 o2 Zr B1
  have LS := Lib.hid S2.out.lt
  go_wp2_with (first | ((with_reducible (show wpList _ _ _ (Oper.mk (some 36) _ _ _ _ _ :: _) _ _)); refine Hid.out ?_))
  refine Lib.hid ?_
  refine wpList_load_rowV rfl 25 (.tmp 1) rfl w1.heap.size rfl 6 _ _ (S2.out) _ Tryz.underlying25 rfl (by kernel_rfl) ?_
  go_wp2_with fail
  refine (H2.out _ (HT.out.below B2.out)).mono ?_
  rintro e w3 ⟨rfl, b3⟩
  have B3 := Lib.hid (B2.out.trans (b3.mono B2.out.size))
  have S3 := Lib.hid (S2.out.below b3)
  clear b3 B2 S2
  go_wp2_with fail
  refine (H3.out _).mono ?_
  rintro e w4 ⟨rfl, b4⟩
  have B4 := Lib.hid (B3.out.trans (b4.mono B3.out.size))
  have S4 := Lib.hid (S3.out.below b4)
  clear b4 B3 S3
  go_wp2_with fail
  refine (H4.out _ (HT.out.below B4.out)).mono ?_
  rintro e w5 ⟨rfl, b5⟩
  have B5 := Lib.hid (B4.out.trans (b5.mono B4.out.size))
  have S5 := Lib.hid (S4.out.below b5)
  clear b5 B4 S4
  have Zr := Lib.hid (RowV.new w5 37 36 (rqC rq0))
  go_upto_region 5 with ((with_reducible (show wpList _ _ _ (Oper.mk none _ _ _ _ _ :: _) _ _)); refine wpList_store_rowV (o := ⟨none, .store 37 (.tmp 7) (.tmp 48), _, _, _, _⟩) rfl 37 (.tmp 7) (.tmp 48) rfl w5.heap.size rfl 36 37 _ (rqC r) rfl Zr.out (by kernel_rfl) (fun j _ => rqC_one r j) ?_; intro w6 R6 o6)
  have b6 : Below w5.heap.size w5 w6 := ((Below.refl _ _).alloc (Nat.le_refl _) _).trans (o6.out.below (Nat.le_refl _) (by rw [World.size_alloc]; omega))
  have B6 := Lib.hid (B5.out.trans (b6.mono B5.out.size))
  have S6 := Lib.hid (S5.out.below b6)
  clear b6 o6 Zr B5 S5
  go_wp2_with (first | ((with_reducible (show wpList _ _ _ (Oper.mk (some 51) _ _ _ _ _ :: _) _ _)); refine wpList_load_rowV rfl 25 (.tmp 1) rfl w1.heap.size rfl 6 25 _ S6.out _ Tryz.underlying25 rfl (by kernel_rfl) ?_) | ((with_reducible (show wpList _ _ _ (Oper.mk (some 52) _ _ _ _ _ :: _) _ _)); refine wpList_load_rowV rfl 37 (.tmp 7) rfl w5.heap.size rfl 36 37 _ R6.out _ Tryz.underlying37 rfl (by kernel_rfl) ?_))
  refine (H5.out _ (HT.out.below B6.out) (HE.out.below B6.out HE.out.lt)).mono ?_
  rintro e w7 ⟨rfl, b7⟩
  have B7 := Lib.hid (B6.out.trans (b7.mono B6.out.size))
  have S7 := Lib.hid (S6.out.below b7)
  have R7 := Lib.hid (R6.out.below b7)
  clear b7 B6 S6 R6
  have Za := Lib.hid ((RowV.new w7 25 6 (ssC ss0)).alloc (.cells (rowF 8 (ctC ct0)) 44))
  have Zb : Hid (RowV ((w7.alloc (.cells (rowF 6 (ssC ss0)) 25)).alloc (.cells (rowF 8 (ctC ct0)) 44)) (w7.heap.size + 1) 44 8 (ctC ct0)) := Lib.hid (by have h := RowV.new (w7.alloc (.cells (rowF 6 (ssC ss0)) 25)) 44 8 (ctC ct0); rwa [World.size_alloc] at h)
  go_upto_region 6 with (first | ((with_reducible (show wpList _ _ _ (Oper.mk none _ _ _ _ _ :: _) _ _)); refine wpList_store_rowV (o := ⟨none, .store 25 (.tmp 9) (.tmp 54), _, _, _, _⟩) rfl 25 (.tmp 9) (.tmp 54) rfl (w7.heap.size) rfl 6 25 _ (ssC xX) rfl Za.out (by kernel_rfl) (fun j _ => ssC_one xX j) ?_; intro wa Sa oa) | ((with_reducible (show wpList _ _ _ (Oper.mk none _ _ _ _ _ :: _) _ _)); refine wpList_store_rowV (o := ⟨none, .store 44 (.tmp 10) (.tmp 55), _, _, _, _⟩) rfl 44 (.tmp 10) (.tmp 55) rfl (w7.heap.size + 1) rfl 8 44 _ (ctC cc) rfl (oa.out.row (Nat.ne_of_gt (Nat.lt_succ_self _)) Zb.out) (by kernel_rfl) (fun j _ => ctC_one cc j) ?_; intro w8 C8 ob))
  have X8 := Lib.hid (ob.out.row (Nat.ne_of_lt (Nat.lt_succ_self _)) Sa.out)
  have b8 : Below w7.heap.size w7 w8 := by
    have h1 := (Below.refl w7.heap.size w7).alloc (Nat.le_refl _) (.cells (rowF 6 (ssC ss0)) 25)
    have h2 := h1.alloc h1.size (.cells (rowF 8 (ctC ct0)) 44)
    have h3 := h2.trans (oa.out.below (K := w7.heap.size) (Nat.le_refl _) h2.size)
    exact h3.trans (ob.out.below (K := w7.heap.size) (Nat.le_succ _) h3.size)
  have B8 := Lib.hid (B7.out.trans (b8.mono B7.out.size))
  have S8 := Lib.hid (S7.out.below b8)
  have R8 := Lib.hid (R7.out.below b8)
  clear b8 oa ob Sa Za Zb B7 S7 R7
  go_wp2_with (first | ((with_reducible (show wpList _ _ _ (Oper.mk (some 58) _ _ _ _ _ :: _) _ _)); refine wpList_load_rowV rfl 25 (.tmp 9) rfl w7.heap.size rfl 6 25 _ X8.out _ Tryz.underlying25 rfl (by kernel_rfl) ?_) | ((with_reducible (show wpList _ _ _ (Oper.mk (some 59) _ _ _ _ _ :: _) _ _)); refine wpList_load_rowV rfl 37 (.tmp 7) rfl w5.heap.size rfl 36 37 _ R8.out _ Tryz.underlying37 rfl (by kernel_rfl) ?_))
  refine (H6.out _ (HT.out.below B8.out) (HE.out.below B8.out HE.out.lt)).mono ?_
  rintro e w9 ⟨rfl, b9⟩
  have B9 := Lib.hid (B8.out.trans (b9.mono B8.out.size))
  have S9 := Lib.hid (S8.out.below b9)
  have R9 := Lib.hid (R8.out.below b9)
  have X9 := Lib.hid (X8.out.below b9)
  have C9 := Lib.hid (C8.out.below b9)
  clear b9 B8 S8 R8 X8 C8
  have Za := Lib.hid ((RowV.new w9 25 6 (ssC ss0)).alloc (.cells (rowF 8 (ctC ct0)) 44))
  have Zb : Hid (RowV ((w9.alloc (.cells (rowF 6 (ssC ss0)) 25)).alloc (.cells (rowF 8 (ctC ct0)) 44)) (w9.heap.size + 1) 44 8 (ctC ct0)) := Lib.hid (by have h := RowV.new (w9.alloc (.cells (rowF 6 (ssC ss0)) 25)) 44 8 (ctC ct0); rwa [World.size_alloc] at h)
  go_upto_region 7 with (first | ((with_reducible (show wpList _ _ _ (Oper.mk none _ _ _ _ _ :: _) _ _)); refine wpList_store_rowV (o := ⟨none, .store 25 (.tmp 12) (.tmp 61), _, _, _, _⟩) rfl 25 (.tmp 12) (.tmp 61) rfl (w9.heap.size) rfl 6 25 _ (ssC ss0) rfl Za.out (by kernel_rfl) (fun j _ => ssC_one ss0 j) ?_; intro wa Sa oa) | ((with_reducible (show wpList _ _ _ (Oper.mk none _ _ _ _ _ :: _) _ _)); refine wpList_store_rowV (o := ⟨none, .store 44 (.tmp 13) (.tmp 62), _, _, _, _⟩) rfl 44 (.tmp 13) (.tmp 62) rfl (w9.heap.size + 1) rfl 8 44 _ (ctC ct0) rfl (oa.out.row (Nat.ne_of_gt (Nat.lt_succ_self _)) Zb.out) (by kernel_rfl) (fun j _ => ctC_one ct0 j) ?_; intro w10 E10 ob))
  have D10 := Lib.hid (ob.out.row (Nat.ne_of_lt (Nat.lt_succ_self _)) Sa.out)
  have b10 : Below w9.heap.size w9 w10 := by
    have h1 := (Below.refl w9.heap.size w9).alloc (Nat.le_refl _) (.cells (rowF 6 (ssC ss0)) 25)
    have h2 := h1.alloc h1.size (.cells (rowF 8 (ctC ct0)) 44)
    have h3 := h2.trans (oa.out.below (K := w9.heap.size) (Nat.le_refl _) h2.size)
    exact h3.trans (ob.out.below (K := w9.heap.size) (Nat.le_succ _) h3.size)
  have B10 := Lib.hid (B9.out.trans (b10.mono B9.out.size))
  have S10 := Lib.hid (S9.out.below b10)
  have R10 := Lib.hid (R9.out.below b10)
  have X10 := Lib.hid (X9.out.below b10)
  have C10 := Lib.hid (C9.out.below b10)
  clear b10 oa ob Sa Za Zb B9 S9 R9 X9 C9
  clear D10 E10
  go_wp2_with fail
  refine (H7.out _ (HT.out.below B10.out)).mono ?_
  rintro e w11 ⟨rfl, b11⟩
  have B11 := Lib.hid (B10.out.trans (b11.mono B10.out.size))
  have S11 := Lib.hid (S10.out.below b11)
  have R11 := Lib.hid (R10.out.below b11)
  have X11 := Lib.hid (X10.out.below b11)
  have C11 := Lib.hid (C10.out.below b11)
  clear b11 B10 S10 R10 X10 C10
  have LR := Lib.hid R11.out.lt
  have LX := Lib.hid X11.out.lt
  have LC := Lib.hid C11.out.lt
  have LS2 := Lib.hid S11.out.lt
  have LB2 := Lib.hid B11.out.size
  have Zr := Lib.hid (RowV.new w11 37 36 (rqC rq0))
  go_upto_region 8 with ((with_reducible (show wpList _ _ _ (Oper.mk none _ _ _ _ _ :: _) _ _)); refine wpList_store_rowV (o := ⟨none, .store 37 (.tmp 15) (.tmp 68), _, _, _, _⟩) rfl 37 (.tmp 15) (.tmp 68) rfl w11.heap.size rfl 36 37 _ (rqC wr) rfl Zr.out (by kernel_rfl) (fun j _ => rqC_one wr j) ?_; intro w12 Q12 o12)
  have b12 : Below w11.heap.size w11 w12 := ((Below.refl _ _).alloc (Nat.le_refl _) _).trans (o12.out.below (Nat.le_refl _) (by rw [World.size_alloc]; omega))
  have B12 := Lib.hid (B11.out.trans (b12.mono B11.out.size))
  have S12 := Lib.hid (S11.out.below b12)
  have R12 := Lib.hid (R11.out.below b12)
  have X12 := Lib.hid (X11.out.below b12)
  have C12 := Lib.hid (C11.out.below b12)
  clear b12 o12 Zr B11 S11 R11 X11 C11
  go_wp2_with (first | ((with_reducible (show wpList _ _ _ (Oper.mk none _ _ _ _ _ :: _) _ _)); refine Hid.out ?_))
  refine Lib.hid ?_
  refine wpList_store_part rfl 35 (.tmp 71) (.tmp 70) rfl w11.heap.size 4 rfl 36 32 _ _ (dgF zero32) (rqC zr) rfl Q12.out (by decide) (by kernel_rfl) (fun _ _ => rfl) HRQ.out ?_
  intro w13 Q13 O13
  have b13 := O13.out.below (K := w11.heap.size) (Nat.le_refl _) (Nat.le_of_lt Q12.out.lt)
  have S13 := Lib.hid (S12.out.belowK LS2.out b13)
  have R13 := Lib.hid (R12.out.belowK LR.out b13)
  have X13 := Lib.hid (X12.out.belowK LX.out b13)
  have C13 := Lib.hid (C12.out.belowK LC.out b13)
  have B13 := Lib.hid (B12.out.trans (b13.mono LB2.out))
  clear b13 O13 S12 R12 X12 C12 Q12 B12 LS2 LR LX LC LB2
  go_wp2_with (first | ((with_reducible (show wpList _ _ _ (Oper.mk (some 73) _ _ _ _ _ :: _) _ _)); refine wpList_load_rowV rfl 25 (.tmp 1) rfl w1.heap.size rfl 6 25 _ S13.out _ Tryz.underlying25 rfl (by kernel_rfl) ?_) | ((with_reducible (show wpList _ _ _ (Oper.mk (some 74) _ _ _ _ _ :: _) _ _)); refine wpList_load_rowV rfl 37 (.tmp 15) rfl w11.heap.size rfl 36 37 _ Q13.out _ Tryz.underlying37 rfl (by kernel_rfl) ?_))
  refine (H8.out _ (HT.out.below B13.out) (HE.out.below B13.out HE.out.lt)).mono ?_
  rintro e w14 ⟨rfl, b14⟩
  have B14 := Lib.hid (B13.out.trans (b14.mono B13.out.size))
  have S14 := Lib.hid (S13.out.below b14)
  have R14 := Lib.hid (R13.out.below b14)
  have X14 := Lib.hid (X13.out.below b14)
  have C14 := Lib.hid (C13.out.below b14)
  have Q14 := Lib.hid (Q13.out.below b14)
  clear b14 B13 S13 R13 X13 C13 Q13
  have Za := Lib.hid ((RowV.new w14 25 6 (ssC ss0)).alloc (.cells (rowF 8 (ctC ct0)) 44))
  have Zb : Hid (RowV ((w14.alloc (.cells (rowF 6 (ssC ss0)) 25)).alloc (.cells (rowF 8 (ctC ct0)) 44)) (w14.heap.size + 1) 44 8 (ctC ct0)) := Lib.hid (by have h := RowV.new (w14.alloc (.cells (rowF 6 (ssC ss0)) 25)) 44 8 (ctC ct0); rwa [World.size_alloc] at h)
  go_upto_region 10 with (first | ((with_reducible (show wpList _ _ _ (Oper.mk none _ _ _ _ _ :: _) _ _)); refine wpList_store_rowV (o := ⟨none, .store 25 (.tmp 17) (.tmp 76), _, _, _, _⟩) rfl 25 (.tmp 17) (.tmp 76) rfl (w14.heap.size) rfl 6 25 _ (ssC ys) rfl Za.out (by kernel_rfl) (fun j _ => ssC_one ys j) ?_; intro wa Sa oa) | ((with_reducible (show wpList _ _ _ (Oper.mk none _ _ _ _ _ :: _) _ _)); refine wpList_store_rowV (o := ⟨none, .store 44 (.tmp 18) (.tmp 77), _, _, _, _⟩) rfl 44 (.tmp 18) (.tmp 77) rfl (w14.heap.size + 1) rfl 8 44 _ (ctC yc) rfl (oa.out.row (Nat.ne_of_gt (Nat.lt_succ_self _)) Zb.out) (by kernel_rfl) (fun j _ => ctC_one yc j) ?_; intro w15 D15 ob))
  have Y15 := Lib.hid (ob.out.row (Nat.ne_of_lt (Nat.lt_succ_self _)) Sa.out)
  have b15 : Below w14.heap.size w14 w15 := by
    have h1 := (Below.refl w14.heap.size w14).alloc (Nat.le_refl _) (.cells (rowF 6 (ssC ss0)) 25)
    have h2 := h1.alloc h1.size (.cells (rowF 8 (ctC ct0)) 44)
    have h3 := h2.trans (oa.out.below (K := w14.heap.size) (Nat.le_refl _) h2.size)
    exact h3.trans (ob.out.below (K := w14.heap.size) (Nat.le_succ _) h3.size)
  have B15 := Lib.hid (B14.out.trans (b15.mono B14.out.size))
  have S15 := Lib.hid (S14.out.below b15)
  have R15 := Lib.hid (R14.out.below b15)
  have X15 := Lib.hid (X14.out.below b15)
  have C15 := Lib.hid (C14.out.below b15)
  have Q15 := Lib.hid (Q14.out.below b15)
  clear b15 oa ob Sa Za Zb B14 S14 R14 X14 C14 Q14
  clear D15
  go_wp2_with (first | ((with_reducible (show wpList _ _ _ (Oper.mk (some 79) _ _ _ _ _ :: _) _ _)); refine Hid.out ?_))
  refine Lib.hid ?_
  refine wpList_load_rowV rfl 25 (.tmp 1) rfl w1.heap.size rfl 6 _ _ (S15.out) _ Tryz.underlying25 rfl (by kernel_rfl) ?_
  have MS := Lib.hid S15.out.lt
  have MR := Lib.hid R15.out.lt
  have MX := Lib.hid X15.out.lt
  have MC := Lib.hid C15.out.lt
  have MQ := Lib.hid Q15.out.lt
  have MY := Lib.hid Y15.out.lt
  have MB := Lib.hid B15.out.size
  have Zr := Lib.hid (RowV.new w15 25 6 (ssC ss0))
  go_upto_region 11 with ((with_reducible (show wpList _ _ _ (Oper.mk none _ _ _ _ _ :: _) _ _)); refine wpList_store_rowV (o := ⟨none, .store 25 (.tmp 20) (.tmp 79), _, _, _, _⟩) rfl 25 (.tmp 20) (.tmp 79) rfl w15.heap.size rfl 6 25 _ (ssC sX) rfl Zr.out (by kernel_rfl) (fun j _ => ssC_one sX j) ?_; intro w16 L16 o16)
  have b16 : Below w15.heap.size w15 w16 := ((Below.refl _ _).alloc (Nat.le_refl _) _).trans (o16.out.below (Nat.le_refl _) (by rw [World.size_alloc]; omega))
  have B16 := Lib.hid (B15.out.trans (b16.mono B15.out.size))
  have S16 := Lib.hid (S15.out.below b16)
  have R16 := Lib.hid (R15.out.below b16)
  have X16 := Lib.hid (X15.out.below b16)
  have C16 := Lib.hid (C15.out.below b16)
  have Q16 := Lib.hid (Q15.out.below b16)
  have Y16 := Lib.hid (Y15.out.below b16)
  clear b16 o16 Zr B15 S15 R15 X15 C15 Q15 Y15
  have x4 : w16.cell? ⟨w15.heap.size, 4, none⟩ = some (.int .i64 0) := ss_cell L16.out (i := 4) (by decide)
  have f4 : w16.frozen? ⟨w15.heap.size, 4, none⟩ = false := L16.out.frozen 4
  go_upto_region 12 with fail
  clear x4 f4
  have L17 := Lib.hid (show RowV (w16.setCell ⟨w15.heap.size, 4, none⟩ (.int .i64 5)) w15.heap.size 25 6 (ssC ⟨1, 123456, 7, 1, 5, false⟩) from (L16.out.set 4 (.int .i64 5)).congr (fun i hi => by match i, hi with | 0, _ => rfl | 1, _ => rfl | 2, _ => rfl | 3, _ => rfl | 4, _ => rfl | 5, _ => rfl))
  have b17 := ((OnlyB.refl w15.heap.size w16).setCell (p := ⟨w15.heap.size, 4, none⟩) (.inl rfl) (.int .i64 5)).below (K := w15.heap.size) (Nat.le_refl _) (Nat.le_of_lt L16.out.lt)
  obtain ⟨w17, hw17⟩ : ∃ y, w16.setCell ⟨w15.heap.size, 4, none⟩ (.int .i64 5) = y := ⟨_, rfl⟩
  rw [hw17] at L17 b17 ⊢
  have S17 := Lib.hid (S16.out.belowK MS.out b17)
  have R17 := Lib.hid (R16.out.belowK MR.out b17)
  have X17 := Lib.hid (X16.out.belowK MX.out b17)
  have C17 := Lib.hid (C16.out.belowK MC.out b17)
  have Q17 := Lib.hid (Q16.out.belowK MQ.out b17)
  have Y17 := Lib.hid (Y16.out.belowK MY.out b17)
  have B17 := Lib.hid (B16.out.trans (b17.mono MB.out))
  clear hw17 b17 L16 S16 R16 X16 C16 Q16 Y16 B16 MS MR MX MC MQ MY MB
  go_wp2_with (first | ((with_reducible (show wpList _ _ _ (Oper.mk (some 82) _ _ _ _ _ :: _) _ _)); refine wpList_load_rowV rfl 25 (.tmp 20) rfl w15.heap.size rfl 6 25 _ L17.out _ Tryz.underlying25 rfl (by kernel_rfl) ?_) | ((with_reducible (show wpList _ _ _ (Oper.mk (some 83) _ _ _ _ _ :: _) _ _)); refine wpList_load_rowV rfl 37 (.tmp 7) rfl w5.heap.size rfl 36 37 _ R17.out _ Tryz.underlying37 rfl (by kernel_rfl) ?_))
  refine (H9.out _ (HT.out.below B17.out) (HE.out.below B17.out HE.out.lt)).mono ?_
  rintro e w18 ⟨rfl, b18⟩
  have B18 := Lib.hid (B17.out.trans (b18.mono B17.out.size))
  have S18 := Lib.hid (S17.out.below b18)
  have R18 := Lib.hid (R17.out.below b18)
  have X18 := Lib.hid (X17.out.below b18)
  have C18 := Lib.hid (C17.out.below b18)
  have Q18 := Lib.hid (Q17.out.below b18)
  have Y18 := Lib.hid (Y17.out.below b18)
  have L18 := Lib.hid (L17.out.below b18)
  clear b18 B17 S17 R17 X17 C17 Q17 Y17 L17
  clear L18 R18
  have Za := Lib.hid ((RowV.new w18 25 6 (ssC ss0)).alloc (.cells (rowF 8 (ctC ct0)) 44))
  have Zb : Hid (RowV ((w18.alloc (.cells (rowF 6 (ssC ss0)) 25)).alloc (.cells (rowF 8 (ctC ct0)) 44)) (w18.heap.size + 1) 44 8 (ctC ct0)) := Lib.hid (by have h := RowV.new (w18.alloc (.cells (rowF 6 (ssC ss0)) 25)) 44 8 (ctC ct0); rwa [World.size_alloc] at h)
  go_upto_region 13 with (first | ((with_reducible (show wpList _ _ _ (Oper.mk none _ _ _ _ _ :: _) _ _)); refine wpList_store_rowV (o := ⟨none, .store 25 (.tmp 21) (.tmp 85), _, _, _, _⟩) rfl 25 (.tmp 21) (.tmp 85) rfl (w18.heap.size) rfl 6 25 _ (ssC ss0) rfl Za.out (by kernel_rfl) (fun j _ => ssC_one ss0 j) ?_; intro wa Sa oa) | ((with_reducible (show wpList _ _ _ (Oper.mk none _ _ _ _ _ :: _) _ _)); refine wpList_store_rowV (o := ⟨none, .store 44 (.tmp 22) (.tmp 86), _, _, _, _⟩) rfl 44 (.tmp 22) (.tmp 86) rfl (w18.heap.size + 1) rfl 8 44 _ (ctC ct0) rfl (oa.out.row (Nat.ne_of_gt (Nat.lt_succ_self _)) Zb.out) (by kernel_rfl) (fun j _ => ctC_one ct0 j) ?_; intro w19 E19 ob))
  have D19 := Lib.hid (ob.out.row (Nat.ne_of_lt (Nat.lt_succ_self _)) Sa.out)
  have b19 : Below w18.heap.size w18 w19 := by
    have h1 := (Below.refl w18.heap.size w18).alloc (Nat.le_refl _) (.cells (rowF 6 (ssC ss0)) 25)
    have h2 := h1.alloc h1.size (.cells (rowF 8 (ctC ct0)) 44)
    have h3 := h2.trans (oa.out.below (K := w18.heap.size) (Nat.le_refl _) h2.size)
    exact h3.trans (ob.out.below (K := w18.heap.size) (Nat.le_succ _) h3.size)
  have B19 := Lib.hid (B18.out.trans (b19.mono B18.out.size))
  have S19 := Lib.hid (S18.out.below b19)
  have X19 := Lib.hid (X18.out.below b19)
  have C19 := Lib.hid (C18.out.below b19)
  have Q19 := Lib.hid (Q18.out.below b19)
  have Y19 := Lib.hid (Y18.out.below b19)
  clear b19 oa ob Sa Za Zb B18 S18 X18 C18 Q18 Y18
  clear D19 E19
  go_wp2_with fail
  refine (H10.out _).mono ?_
  rintro e w20 ⟨rfl, b20⟩
  have B20 := Lib.hid (B19.out.trans (b20.mono B19.out.size))
  have S20 := Lib.hid (S19.out.below b20)
  have X20 := Lib.hid (X19.out.below b20)
  have C20 := Lib.hid (C19.out.below b20)
  have Q20 := Lib.hid (Q19.out.below b20)
  have Y20 := Lib.hid (Y19.out.below b20)
  clear b20 B19 S19 X19 C19 Q19 Y19
  have Zr := Lib.hid (RowV.new w20 25 6 (ssC ss0))
  go_upto_region 14 with ((with_reducible (show wpList _ _ _ (Oper.mk none _ _ _ _ _ :: _) _ _)); refine wpList_store_rowV (o := ⟨none, .store 25 (.tmp 24) (.tmp 90), _, _, _, _⟩) rfl 25 (.tmp 24) (.tmp 90) rfl w20.heap.size rfl 6 25 _ (ssC ss0) rfl Zr.out (by kernel_rfl) (fun j _ => ssC_one ss0 j) ?_; intro w21 D21 o21)
  have b21 : Below w20.heap.size w20 w21 := ((Below.refl _ _).alloc (Nat.le_refl _) _).trans (o21.out.below (Nat.le_refl _) (by rw [World.size_alloc]; omega))
  have B21 := Lib.hid (B20.out.trans (b21.mono B20.out.size))
  have S21 := Lib.hid (S20.out.below b21)
  have X21 := Lib.hid (X20.out.below b21)
  have C21 := Lib.hid (C20.out.below b21)
  have Q21 := Lib.hid (Q20.out.below b21)
  have Y21 := Lib.hid (Y20.out.below b21)
  clear b21 o21 Zr B20 S20 X20 C20 Q20 Y20
  clear D21
  go_wp2_with fail
  refine (H11.out _).mono ?_
  rintro e w22 ⟨rfl, b22⟩
  have B22 := Lib.hid (B21.out.trans (b22.mono B21.out.size))
  have S22 := Lib.hid (S21.out.below b22)
  have X22 := Lib.hid (X21.out.below b22)
  have C22 := Lib.hid (C21.out.below b22)
  have Q22 := Lib.hid (Q21.out.below b22)
  have Y22 := Lib.hid (Y21.out.below b22)
  clear b22 B21 S21 X21 C21 Q21 Y21
  have Zr := Lib.hid (RowV.new w22 25 6 (ssC ss0))
  go_upto_region 15 with ((with_reducible (show wpList _ _ _ (Oper.mk none _ _ _ _ _ :: _) _ _)); refine wpList_store_rowV (o := ⟨none, .store 25 (.tmp 26) (.tmp 94), _, _, _, _⟩) rfl 25 (.tmp 26) (.tmp 94) rfl w22.heap.size rfl 6 25 _ (ssC ss0) rfl Zr.out (by kernel_rfl) (fun j _ => ssC_one ss0 j) ?_; intro w23 D23 o23)
  have b23 : Below w22.heap.size w22 w23 := ((Below.refl _ _).alloc (Nat.le_refl _) _).trans (o23.out.below (Nat.le_refl _) (by rw [World.size_alloc]; omega))
  have B23 := Lib.hid (B22.out.trans (b23.mono B22.out.size))
  have S23 := Lib.hid (S22.out.below b23)
  have X23 := Lib.hid (X22.out.below b23)
  have C23 := Lib.hid (C22.out.below b23)
  have Q23 := Lib.hid (Q22.out.below b23)
  have Y23 := Lib.hid (Y22.out.below b23)
  clear b23 o23 Zr B22 S22 X22 C22 Q22 Y22
  clear D23
  go_wp2_with fail
  refine (H12.out _ (HT.out.below B23.out)).mono ?_
  rintro e w24 ⟨rfl, b24⟩
  have B24 := Lib.hid (B23.out.trans (b24.mono B23.out.size))
  have S24 := Lib.hid (S23.out.below b24)
  have X24 := Lib.hid (X23.out.below b24)
  have C24 := Lib.hid (C23.out.below b24)
  have Q24 := Lib.hid (Q23.out.below b24)
  have Y24 := Lib.hid (Y23.out.below b24)
  clear b24 B23 S23 X23 C23 Q23 Y23
  have Zr := Lib.hid (RowV.new w24 37 36 (rqC rq0))
  go_upto_region 16 with ((with_reducible (show wpList _ _ _ (Oper.mk none _ _ _ _ _ :: _) _ _)); refine wpList_store_rowV (o := ⟨none, .store 37 (.tmp 28) (.tmp 98), _, _, _, _⟩) rfl 37 (.tmp 28) (.tmp 98) rfl w24.heap.size rfl 36 37 _ (rqC rq0) rfl Zr.out (by kernel_rfl) (fun j _ => rqC_one rq0 j) ?_; intro w25 D25 o25)
  have b25 : Below w24.heap.size w24 w25 := ((Below.refl _ _).alloc (Nat.le_refl _) _).trans (o25.out.below (Nat.le_refl _) (by rw [World.size_alloc]; omega))
  have B25 := Lib.hid (B24.out.trans (b25.mono B24.out.size))
  have S25 := Lib.hid (S24.out.below b25)
  have X25 := Lib.hid (X24.out.below b25)
  have C25 := Lib.hid (C24.out.below b25)
  have Q25 := Lib.hid (Q24.out.below b25)
  have Y25 := Lib.hid (Y24.out.below b25)
  clear b25 o25 Zr B24 S24 X24 C24 Q24 Y24
  clear D25
  have x4 : _ = some (Value.int .i64 0) := ss_cell X25.out (i := 4) (by decide)
  have x5 : _ = some (Value.bool true) := ss_done X25.out
  have y1 := (ct_cell C25.out (i := 1) (by decide)).trans (show some (Value.int .i64 (cc.at 1)) = some (.int .i64 10) by rw [show cc.at 1 = 10 from HCI.out.1])
  have y2 := (ct_cell C25.out (i := 2) (by decide)).trans (show some (Value.int .i64 (cc.at 2)) = some (.int .i64 vf) by rw [show cc.at 2 = vf from HCI.out.2.1])
  have y3 := (ct_cell C25.out (i := 3) (by decide)).trans (show some (Value.int .i64 (cc.at 3)) = some (.int .i64 4) by rw [show cc.at 3 = 4 from HCI.out.2.2.1])
  have y5 := (ct_cell C25.out (i := 5) (by decide)).trans (show some (Value.int .i64 (cc.at 5)) = some (.int .i64 8) by rw [show cc.at 5 = 8 from HCI.out.2.2.2])
  go_upto_region 17 with fail
  clear x4 x5 y1 y2 y3 y5
  have SB := Lib.hid B25.out
  rcases HXZ.out with ⟨hL, rfl⟩ | ⟨rfl, rfl⟩
  · have heq := HQ.out
    have hgu := HG.out
    rw [← hL, beq_self_eq_true] at heq
    rw [← hL] at H13 hgu
    clear hL
    go_wp2_with (first | ((with_reducible (show wpList _ _ _ (Oper.mk (some 187) _ _ _ _ _ :: _) _ _)); refine wpList_unguard rfl ?_; refine wpList_load_rowV rfl 25 (.tmp 1) rfl w1.heap.size rfl 6 25 _ S25.out _ Tryz.underlying25 rfl (by kernel_rfl) ?_) | ((with_reducible (show wpList _ _ _ (Oper.mk (some 188) _ _ _ _ _ :: _) _ _)); refine wpList_unguard rfl ?_; refine wpList_load_rowV rfl 37 (.tmp 15) rfl w11.heap.size rfl 36 37 _ Q25.out _ Tryz.underlying37 rfl (by kernel_rfl) ?_))
    refine (H13.out _).mono ?_
    rintro e w26 ⟨rfl, b26⟩
    have B26 := Lib.hid (B25.out.trans (b26.mono B25.out.size))
    have S26 := Lib.hid (S25.out.below b26)
    have X26 := Lib.hid (X25.out.below b26)
    have C26 := Lib.hid (C25.out.below b26)
    have Q26 := Lib.hid (Q25.out.below b26)
    have Y26 := Lib.hid (Y25.out.below b26)
    clear b26 B25 S25 X25 C25 Q25 Y25
    go_wp2_with fail
    go_ret
    exact ⟨rfl, B26.out⟩
  · have z4 : _ = some (Value.int .i64 1) := ss_cell Y25.out (i := 4) (by decide)
    have z5 : _ = some (Value.bool false) := ss_done Y25.out
    go_wp2_with fail
    go_ret
    exact ⟨rfl, SB.out⟩
end Go.Proofs.YtpekhdahamloaaaGreatDoor

namespace Go.Proofs.YtpekhdahamloaaaGreatDoor
open Go.ChangeShapes Go.WideShapes Go.ChangeAt Go.RowKit Cod
abbrev laidLE : List (String × DataW Unit) := [("errors.errorType", Rows.laid_errors_errorType), ("chartroom/digest.start", Rows.laid_chartroom_digest_start), ("chartroom/digest.numbers", Rows.laid_chartroom_digest_numbers)]
theorem gE : Tryz.prog.globalNamed "errors.errorType" = some 0 := by kernel_rfl
theorem rE : (Tryz.prog.cutTypes.find? (·.1 == "internal/reflectlite.rtype")).map (·.2) = some 177 := by kernel_rfl
theorem oneE : ((List.range 248).filter fun t => Tryz.prog.rowNamed t [101, 114, 114, 111, 114]) = [91] := by kernel_rfl
theorem sizeE : Tryz.prog.types.size = 248 := by kernel_rfl
theorem door_metE (os : Os) (args : Array Value) : laidMetH Tryz.prog laidLE ((World.doorLaid Tryz.prog 19 os).forCall (fun _ _ => 0) ⟨#[], args, []⟩).memory :=
  laidMetH_of_parts3 (fuel := 8) (laidMet_of_run' 8 (by kernel_rfl) (by kernel_rfl)) (by kernel_rfl) (by kernel_rfl)
theorem tabE_of_laid {W : World} (h : laidMetH Tryz.prog laidLE W) : Tab W ∧ ErrT W := by
  have h' : laidMetH Tryz.prog laidL W ∧ handlesMet Tryz.prog [("errors.errorType", Rows.laid_errors_errorType)] W := h
  refine ⟨tab_of_laid h'.1, ?_⟩
  obtain ⟨name, u, ty, e1, e2, e3, e4, e5⟩ := h'.2 _ (List.mem_singleton.2 rfl)
  have en : name = [101, 114, 114, 111, 114] := (Option.some.inj e1).symm
  subst en
  obtain rfl := Option.some.inj (rE.symm.trans e2)
  have hm : ty ∈ (List.range 248).filter fun t => Tryz.prog.rowNamed t [101, 114, 114, 111, 114] := List.mem_filter.2 ⟨List.mem_range.2 (by rw [← sizeE]; exact e3), e4⟩
  rw [oneE] at hm
  obtain rfl := List.mem_singleton.1 hm
  have hh : typeHandle Tryz.prog 91 = .pointer (some ⟨5, 91, none⟩) := by kernel_rfl
  rw [hh] at e5
  have hc : W.cell? ⟨0, 0, none⟩ = some (.iface 177 (.agg #[.pointer (some ⟨5, 91, none⟩)])) := by simpa using World.var?_cell gE e5 0
  exact ⟨block_of_cell hc, hc⟩
section
variable {H : Type} {enc : TypeId × Value → H} {W : World} {fuel : Nat} {cs : List Value} {x : DataW H × List MemPlace}
end
end Go.Proofs.YtpekhdahamloaaaGreatDoor

namespace Go.Proofs.YtpekhdahamloaaaGreatDoor
open Go.RowKit Cod
end Go.Proofs.YtpekhdahamloaaaGreatDoor
