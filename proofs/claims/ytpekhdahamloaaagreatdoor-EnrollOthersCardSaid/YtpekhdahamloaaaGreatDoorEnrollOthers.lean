/- EnrollOthers returns true for every input. No condition beyond the card's own: the two tables of package digest and the variable errorType of package errors are tied to the program's text. -/
import Derived.Test.YtpekhdahamloaaaGreatDoorPk52
import Derived.Test.YtpekhdahamloaaaGreatDoorPk40
import Derived.Test.YtpekhdahamloaaaGreatDoorCards
namespace Go.Proofs.YtpekhdahamloaaaGreatDoor.enrollOthers
open Go.ChangeShapes Go.WideShapes Go.ChangeAt Go.RowKit
open Go.ChangeMaps (open_string shut_string)
set_option linter.unusedVariables false
set_option linter.unusedSimpArgs false

theorem pre_others {s : Ss} {q : Rq} {v b x : Int} (h : chkSs s = 0) (ht : ¬ s.t = 5) (hd : s.d = false) (hf : fitsQ s q = false) : ansE s q v b x = 1 ∧ ansS s q v b x = ss0 ∧ ansC s q v b x = ct0 := by
  refine ans_of ?_ (by decide)
  unfold preE
  rw [if_neg (by rw [h]; decide), if_neg ht, if_neg (by rw [hd]; decide), if_neg (by rw [hf]; decide)]
set_option maxRecDepth 100000 in
set_option maxHeartbeats 8000000 in
theorem walk {w : World} (s : Ss) (ws : s.wf) (q : Rq) (wq : q.wf) (v : Int) (wv : (Lit.int .i64 v).wf = true) (b : Int) (wb : (Lit.int .i64 b).wf = true) (x : Int) (wx : (Lit.int .i64 x).wf = true) (hT : Tab w) (hE : ErrT w) :
    Calls Tryz.prog 8 #[.agg (rowF 6 (ssC s)), .agg (rowF 36 (rqC q)), .int .i64 v, .int .i64 b, .int .i64 x] w fun e w' => e = .returned (.bool true) ∧ Below w.heap.size w w' := by
  have SN := Lib.hid (fun W (h : Tab W) (h2 : ErrT W) => sane38_any W h h2)
  have HT := Lib.hid hT; have HE := Lib.hid hE
  have c1 : chkSs s = 0 → ¬ s.t = 5 → s.d = false → fitsQ s q = false → ∀ W, Tab W → ErrT W → Calls Tryz.prog 19 #[.agg (rowF 6 (ssC s)), .agg (rowF 36 (rqC q)), .int .i64 v, .int .i64 b, .int .i64 x] W fun e w' => e = .returned (.tuple #[.agg (rowF 6 (ssC ss0)), .agg (rowF 8 (ctC ct0)), .int .i64 1]) ∧ Below W.heap.size W w' := fun h ht hd hf W h1 h2 => by
    have := pans_any s q wq v b x (i64B_of wv) (i64B_of wb) W h1 h2
    obtain ⟨e1, e2, e3⟩ := pre_others (v := v) (b := b) (x := x) h ht hd hf
    rwa [e1, e2, e3] at this
  have C0 := fun W => pcheck38_any s W
  have CO := fun W => powner_any q.dv W
  unfold ownV ownE at CO
  have K1 := fun W => check_any q.pt W
  have K2 := fun W => check_any q.vf W
  have K3 := fun W => check_any q.lf W
  unfold chk at K1 K2 K3
  have FQ : fitsQ s q = (devB q.dv && decide (q.dv.tdiv 8 = s.p) && elemB q.pt && elemB q.vf && elemB q.lf) := rfl
  obtain ⟨e0, he0⟩ : ∃ y, chkSs s = y := ⟨_, rfl⟩
  rw [he0] at C0 c1
  obtain ⟨fq, hfq⟩ : ∃ y, fitsQ s q = y := ⟨_, rfl⟩
  rw [hfq] at FQ c1
  obtain ⟨db, hdb⟩ : ∃ y, devB q.dv = y := ⟨_, rfl⟩
  obtain ⟨ow, how⟩ : ∃ y, q.dv.tdiv 8 = y := ⟨_, rfl⟩
  obtain ⟨b1, hb1⟩ : ∃ y, elemB q.pt = y := ⟨_, rfl⟩
  obtain ⟨b2, hb2⟩ : ∃ y, elemB q.vf = y := ⟨_, rfl⟩
  obtain ⟨b3, hb3⟩ : ∃ y, elemB q.lf = y := ⟨_, rfl⟩
  rw [hdb, how, hb1, hb2, hb3] at FQ
  rw [hdb, how] at CO
  obtain ⟨ov, hov⟩ : ∃ y : Int, (if db = true then ow else 0) = y := ⟨_, rfl⟩
  obtain ⟨oe, hoe⟩ : ∃ y : Int, (if db = true then (0 : Int) else 371) = y := ⟨_, rfl⟩
  rw [hov, hoe] at CO
  have HOV := Lib.hid hov.symm
  have HOE := Lib.hid hoe.symm
  rw [hb1] at K1
  rw [hb2] at K2
  rw [hb3] at K3
  have es : ∀ W, (binOp .eql 25 (.agg (rowF 6 (ssC ss0))) (.agg #[.int .i64 0, .int .i64 0, .int .i64 0, .int .i64 0, .int .i64 0, .bool false])).run Tryz.prog W = .ok (.bool true) W := fun W => eql_ss ss0 ss0 W
  have gs : ∀ x y W, (eqGuard .eql 25 x y (.agg (rowF 6 (ssC ss0))) (.agg #[.int .i64 0, .int .i64 0, .int .i64 0, .int .i64 0, .int .i64 0, .bool false])).run Tryz.prog W = .ok () W := fun x y W => guard_ss .eql x y ss0 ss0 W
  have ec : ∀ W, (binOp .eql 44 (.agg (rowF 8 (ctC ct0))) (.agg #[.int .i64 0, .int .i64 0, .int .i64 0, .int .i64 0, .int .i64 0, .int .i64 0, .int .i64 0, .int .i64 0])).run Tryz.prog W = .ok (.bool true) W := fun W => eql_ct ct0 ct0 W
  have gc : ∀ x y W, (eqGuard .eql 44 x y (.agg (rowF 8 (ctC ct0))) (.agg #[.int .i64 0, .int .i64 0, .int .i64 0, .int .i64 0, .int .i64 0, .int .i64 0, .int .i64 0, .int .i64 0])).run Tryz.prog W = .ok () W := fun x y W => guard_ct .eql x y ct0 ct0 W
  have H1 := Lib.hid c1; have H0 := Lib.hid C0; have HO := Lib.hid CO; have HK1 := Lib.hid K1; have HK2 := Lib.hid K2; have HK3 := Lib.hid K3; have HFQ := Lib.hid FQ; have ES := Lib.hid es; have GS := Lib.hid gs; have EC := Lib.hid ec; have GC := Lib.hid gc
  clear hT hE c1 C0 CO K1 K2 K3 FQ es gs ec gc ws wq wv wb wx he0 hfq hdb how hb1 hb2 hb3 hov hoe
  go_enter Tryz.func8, Tryz.ntmps8
  have B0 := Lib.hid (Below.refl w.heap.size w)
  go_upto_region 1 with fail
  obtain ⟨w1, hw1⟩ : ∃ y, w.alloc (.cells (rowF 6 (ssC s)) 25) = y := ⟨_, rfl⟩
  have b1 : Below w.heap.size w w1 := by rw [← hw1]; exact (Below.refl _ _).alloc (Nat.le_refl _) _
  have S1 : Hid (RowV w1 w.heap.size 25 6 (ssC s)) := Lib.hid (by rw [← hw1]; exact RowV.new w _ 6 (ssC s))
  have z1 : w.heap.size + 1 = w1.heap.size := by rw [← hw1]; exact (Array.size_push _).symm
  rw [hw1]
  (try rw [z1])
  have B1 := Lib.hid (B0.out.trans (b1.mono B0.out.size))
  clear b1 hw1 z1 B0
  obtain ⟨w2, hw2⟩ : ∃ y, w1.alloc (.cells (rowF 36 (rqC q)) 37) = y := ⟨_, rfl⟩
  have b2 : Below w1.heap.size w1 w2 := by rw [← hw2]; exact (Below.refl _ _).alloc (Nat.le_refl _) _
  have Q2 : Hid (RowV w2 w1.heap.size 37 36 (rqC q)) := Lib.hid (by rw [← hw2]; exact RowV.new w1 _ 36 (rqC q))
  have z2 : w1.heap.size + 1 = w2.heap.size := by rw [← hw2]; exact (Array.size_push _).symm
  rw [hw2]
  (try rw [z2])
  have B2 := Lib.hid (B1.out.trans (b2.mono B1.out.size))
  have S2 := Lib.hid (S1.out.below b2)
  clear b2 hw2 z2 B1 S1
  go_wp2_with fail
  refine (SN.out _ (HT.out.below B2.out) (HE.out.below B2.out HE.out.lt)).mono ?_
  rintro e w3 ⟨rfl, b3⟩
  have B3 := Lib.hid (B2.out.trans (b3.mono B2.out.size))
  have S3 := Lib.hid (S2.out.below b3)
  have Q3 := Lib.hid (Q2.out.below b3)
  clear b3 B2 S2 Q2
  have x7 : w3.cell? ⟨w1.heap.size, 1, none⟩ = some (Value.int .i64 q.dv) := rq_cell Q3.out (i := 1) (by decide)
  go_wp2_with fail
  refine (HO.out _).mono ?_
  rintro e wp ⟨rfl, rfl⟩
  clear x7 HO
  go_upto_region 4 with fail
  go_cut [13] (fun sb wx => sb = .bool fq ∧ Below w3.heap.size w3 wx)
  case first =>
    have R5 := Lib.hid (Below.refl w3.heap.size w3)
    cases db
    · obtain rfl : fq = false := HFQ.out
      obtain rfl : oe = 371 := HOE.out
      obtain rfl : ov = 0 := HOV.out
      clear HFQ
      go_wp2_with fail
      go_meet
      exact ⟨rfl, R5.out⟩
    obtain rfl : oe = 0 := HOE.out
    obtain rfl : ov = ow := HOV.out
    have x3 : _ = some (Value.int .i64 s.p) := ss_cell S3.out (i := 3) (by decide)
    obtain ⟨p, hp⟩ : ∃ y, s.p = y := ⟨_, rfl⟩
    rw [hp] at x3 HFQ
    clear hp
    cases z0 : (ov == p)
    · obtain rfl : fq = false := by rw [HFQ.out, dec_false z0]; rfl
      clear HFQ
      go_wp2_with fail
      go_meet
      exact ⟨rfl, R5.out⟩
    have z2 := Lib.hid (dec_true z0)
    rw [z2.out] at HFQ
    have x6 : w3.cell? ⟨w1.heap.size, 0, none⟩ = some (Value.int .i64 q.pt) := rq_cell Q3.out (i := 0) (by decide)
    go_wp2_with fail
    refine (HK1.out _).mono ?_
    rintro e w6 ⟨rfl, b6⟩
    have R6 := Lib.hid b6
    have Q6 := Lib.hid (Q3.out.below b6)
    clear b6 x6 x3
    cases b1
    · obtain rfl : fq = false := HFQ.out
      clear HFQ
      go_wp2_with fail
      go_meet
      exact ⟨rfl, R6.out⟩
    have x8 : w6.cell? ⟨w1.heap.size, 2, none⟩ = some (Value.int .i64 q.vf) := rq_cell Q6.out (i := 2) (by decide)
    go_wp2_with fail
    refine (HK2.out _).mono ?_
    rintro e w7 ⟨rfl, b7⟩
    have R7 := Lib.hid (R6.out.trans (b7.mono R6.out.size))
    have Q7 := Lib.hid (Q6.out.below b7)
    clear b7 x8
    cases b2
    · obtain rfl : fq = false := HFQ.out
      clear HFQ
      go_wp2_with fail
      go_meet
      exact ⟨rfl, R7.out⟩
    have x9 : w7.cell? ⟨w1.heap.size, 3, none⟩ = some (Value.int .i64 q.lf) := rq_cell Q7.out (i := 3) (by decide)
    go_wp2_with fail
    refine (HK3.out _).mono ?_
    rintro e w8 ⟨rfl, b8⟩
    have R8 := Lib.hid (R7.out.trans (b8.mono R7.out.size))
    clear b8 x9
    cases b3
    · obtain rfl : fq = false := HFQ.out
      clear HFQ
      go_wp2_with fail
      go_meet
      exact ⟨rfl, R8.out⟩
    · obtain rfl : fq = true := HFQ.out
      clear HFQ
      go_wp2_with fail
      go_meet
      exact ⟨rfl, R8.out⟩
  case rest =>
    rename World => w4
    obtain ⟨rfl, hb4⟩ := hcut
    have B4 := Lib.hid (B3.out.trans (hb4.mono B3.out.size))
    have S4 := Lib.hid (S3.out.below hb4)
    have Q4 := Lib.hid (Q3.out.below hb4)
    clear hb4 B3 S3 Q3 HK1 HK2 HK3 HFQ HOV HOE
    cases fq
    rotate_left
    · go_wp2_with fail
      go_ret
      exact ⟨rfl, B4.out⟩
    go_wp2_with (first | ((with_reducible (show wpList _ _ _ (Oper.mk (some 53) _ _ _ _ _ :: _) _ _)); refine wpList_unguard rfl ?_; refine wpList_load_rowV rfl 25 (.tmp 5) rfl w.heap.size rfl 6 25 _ S4.out _ Tryz.underlying25 rfl (by kernel_rfl) ?_))
    refine (H0.out _).mono ?_
    rintro e w5 ⟨rfl, b5⟩
    have B5 := Lib.hid (B4.out.trans (b5.mono B4.out.size))
    have S5 := Lib.hid (S4.out.below b5)
    have Q5 := Lib.hid (Q4.out.below b5)
    clear b5 B4 S4 Q4
    clear H0
    cases z0 : (e0 == 0)
    · have z1 := bne_true z0
      go_wp2_with fail
      go_ret
      exact ⟨rfl, B5.out⟩
    obtain rfl := beq_iff_eq.1 z0
    clear z0
    have x5 : _ = some (Value.bool s.d) := ss_done S5.out
    have x4 : _ = some (Value.int .i64 s.t) := ss_cell S5.out (i := 4) (by decide)
    have c1 := H1.out rfl
    obtain ⟨sd, hsd⟩ : ∃ y, s.d = y := ⟨_, rfl⟩
    obtain ⟨st, hst⟩ : ∃ y, s.t = y := ⟨_, rfl⟩
    rw [hsd] at x5 c1
    rw [hst] at x4 c1
    clear hsd hst H1
    have H1 := Lib.hid c1
    clear c1
    cases sd
    rotate_left
    · go_wp2_with fail
      go_ret
      exact ⟨rfl, B5.out⟩
    cases z0 : decide ((5 : Int) ≤ st)
    rotate_left
    · go_wp2_with fail
      go_ret
      exact ⟨rfl, B5.out⟩
    have H2 := Lib.hid (H1.out (by have := of_decide_eq_false z0; omega) (by first | rfl | trivial) (by first | rfl | trivial))
    clear H1
    go_wp2_with (first | ((with_reducible (show wpList _ _ _ (Oper.mk (some 67) _ _ _ _ _ :: _) _ _)); refine wpList_load_rowV rfl 25 (.tmp 5) rfl w.heap.size rfl 6 25 _ S5.out _ Tryz.underlying25 rfl (by kernel_rfl) ?_) | ((with_reducible (show wpList _ _ _ (Oper.mk (some 68) _ _ _ _ _ :: _) _ _)); refine wpList_load_rowV rfl 37 (.tmp 6) rfl w1.heap.size rfl 36 37 _ Q5.out _ Tryz.underlying37 rfl (by kernel_rfl) ?_))
    refine (H2.out _ (HT.out.below B5.out) (HE.out.below B5.out HE.out.lt)).mono ?_
    rintro e w6 ⟨rfl, b6⟩
    have B6 := Lib.hid (B5.out.trans (b6.mono B5.out.size))
    have S6 := Lib.hid (S5.out.below b6)
    have Q6 := Lib.hid (Q5.out.below b6)
    clear b6 B5 S5 Q5
    clear x4 x5 z0
    have Za := Lib.hid ((RowV.new w6 25 6 (ssC ss0)).alloc (.cells (rowF 8 (ctC ct0)) 44))
    have Zb : Hid (RowV ((w6.alloc (.cells (rowF 6 (ssC ss0)) 25)).alloc (.cells (rowF 8 (ctC ct0)) 44)) (w6.heap.size + 1) 44 8 (ctC ct0)) := Lib.hid (by have h := RowV.new (w6.alloc (.cells (rowF 6 (ssC ss0)) 25)) 44 8 (ctC ct0); rwa [World.size_alloc] at h)
    go_upto_region 8 with (first | ((with_reducible (show wpList _ _ _ (Oper.mk none _ _ _ _ _ :: _) _ _)); refine wpList_store_rowV (o := ⟨none, .store 25 (.tmp 14) (.tmp 73), _, _, _, _⟩) rfl 25 (.tmp 14) (.tmp 73) rfl (w6.heap.size) rfl 6 25 _ (ssC ss0) rfl Za.out (by kernel_rfl) (fun j _ => ssC_one ss0 j) ?_; intro wa Sa oa) | ((with_reducible (show wpList _ _ _ (Oper.mk none _ _ _ _ _ :: _) _ _)); refine wpList_store_rowV (o := ⟨none, .store 44 (.tmp 15) (.tmp 74), _, _, _, _⟩) rfl 44 (.tmp 15) (.tmp 74) rfl (w6.heap.size + 1) rfl 8 44 _ (ctC ct0) rfl (oa.out.row (Nat.ne_of_gt (Nat.lt_succ_self _)) Zb.out) (by kernel_rfl) (fun j _ => ctC_one ct0 j) ?_; intro w7 Y7 ob))
    have X7 := Lib.hid (ob.out.row (Nat.ne_of_lt (Nat.lt_succ_self _)) Sa.out)
    have b7 : Below w6.heap.size w6 w7 := by
      have h1 := (Below.refl w6.heap.size w6).alloc (Nat.le_refl _) (.cells (rowF 6 (ssC ss0)) 25)
      have h2 := h1.alloc h1.size (.cells (rowF 8 (ctC ct0)) 44)
      have h3 := h2.trans (oa.out.below (K := w6.heap.size) (Nat.le_refl _) h2.size)
      exact h3.trans (ob.out.below (K := w6.heap.size) (Nat.le_succ _) h3.size)
    have B7 := Lib.hid (B6.out.trans (b7.mono B6.out.size))
    have S7 := Lib.hid (S6.out.below b7)
    have Q7 := Lib.hid (Q6.out.below b7)
    clear b7 oa ob Sa Za Zb B6 S6 Q6
    have es := ES.out
    have gs := GS.out
    have ec := EC.out
    have gc := GC.out
    go_wp2_with (first | ((with_reducible (show wpList _ _ _ (Oper.mk (some 79) _ _ _ _ _ :: _) _ _)); refine wpList_unguard rfl ?_; refine wpList_load_rowV rfl 25 (.tmp 14) rfl w6.heap.size rfl 6 25 _ X7.out _ Tryz.underlying25 rfl (by kernel_rfl) ?_) | ((with_reducible (show wpList _ _ _ (Oper.mk (some 84) _ _ _ _ _ :: _) _ _)); refine wpList_unguard rfl ?_; refine wpList_load_rowV rfl 44 (.tmp 15) rfl (w6.heap.size + 1) rfl 8 44 _ Y7.out _ Tryz.underlying44 rfl (by kernel_rfl) ?_))
    go_ret
    exact ⟨rfl, B7.out⟩

set_option maxRecDepth 100000 in
set_option maxHeartbeats 1000000 in
theorem lifted (os : Os) (started : os.Started) (H : Type) (enc : TypeId × Value → H) :
    ReturnsInHanded {} Tryz.checked os 8 .any (fun w args => (Rows.enrollOthersSpec.pre enc Tryz.prog Tryz.f8 [] false w args ∧ laidMetH Tryz.prog laidLE w) ∧ sizedMet enc Tryz.prog Tryz.f8 (OpenSpec.ofChange Rows.enrollOthersSpec) false w args)
      (Rows.enrollOthersSpec.post enc Tryz.prog Tryz.f8 false true false false) := by
  refine returnsInHanded_of_change_and (C := Tryz.checked) (X := fun w _ => laidMetH Tryz.prog laidLE w) (fun _ _ _ hh h => h.of_heap hh) own started (by kernel_rfl) Tryz.func8
    (ChangeSpec.witness_shaped (enc := enc) (C := Tryz.checked) (os := os) (X := fun w _ => laidMetH Tryz.prog laidLE w) false (World.doorLaid Tryz.prog 19 os) #[.agg #[.int .i64 0, .int .i64 0, .int .i64 0, .int .i64 0, .int .i64 0, .bool false], .agg #[.int .i64 0, .int .i64 0, .int .i64 0, .int .i64 0, .int .u8 0, .int .u8 0, .int .u8 0, .int .u8 0, .int .u8 0, .int .u8 0, .int .u8 0, .int .u8 0, .int .u8 0, .int .u8 0, .int .u8 0, .int .u8 0, .int .u8 0, .int .u8 0, .int .u8 0, .int .u8 0, .int .u8 0, .int .u8 0, .int .u8 0, .int .u8 0, .int .u8 0, .int .u8 0, .int .u8 0, .int .u8 0, .int .u8 0, .int .u8 0, .int .u8 0, .int .u8 0, .int .u8 0, .int .u8 0, .int .u8 0, .int .u8 0], .int .i64 0, .int .i64 0, .int .i64 0] 8 rfl (World.shaped_of_RefB (by kernel_rfl) (by kernel_rfl)) (by kernel_rfl) (by kernel_rfl) (by kernel_rfl) (door_metE os _)) ?_
  intro W base args ds gs before hval0 hW _ hsz hL _
  have hval : ∀ (j : Nat) t v, Tryz.f8.params[j]? = some t → args[j]? = some v → Value.okWide Tryz.prog W .any base t v := hval0
  have hW' := hW
  obtain ⟨p, q, hA0, hV, rfl, hfz, hnd⟩ := hW
  have hA : DataW.TrodAll enc Tryz.prog W 0 (fun _ => true) true Tryz.f8.params.toList args.toList ds p := hA0
  rw [Tryz.params8] at hA hval
  obtain ⟨v0, vs0, d0, ds0, p0, q0, hargs, rfl, rfl, h0, r0⟩ := trodAll_cons hA
  obtain ⟨v1, vs1, d1, ds1, p1, q1, rfl, rfl, rfl, h1, r1⟩ := trodAll_cons r0
  obtain ⟨v2, vs2, d2, ds2, p2, q2, rfl, rfl, rfl, h2, r2⟩ := trodAll_cons r1
  obtain ⟨v3, vs3, d3, ds3, p3, q3, rfl, rfl, rfl, h3, r3⟩ := trodAll_cons r2
  obtain ⟨v4, vs4, d4, ds4, p4, q4, rfl, rfl, rfl, h4, r4⟩ := trodAll_cons r3
  obtain ⟨rfl, rfl, rfl⟩ := trodAll_nil r4
  obtain rfl : args = #[v0, v1, v2, v3, v4] := by cases args; simp_all
  obtain ⟨rfl, rfl⟩ := trodVars_none hV
  have k0 := h0
  have lt0 : ∀ x ∈ p0, x.block < W.heap.size := by obtain ⟨m, hm⟩ := k0; exact DataW.trod_lt m _ _ _ hm
  obtain ⟨a0, wa0, rfl⟩ := ss_open (hval 0 25 v0 rfl rfl) h0
  have k1 := h1
  have lt1 : ∀ x ∈ p1, x.block < W.heap.size := by obtain ⟨m, hm⟩ := k1; exact DataW.trod_lt m _ _ _ hm
  obtain ⟨a1, wa1, rfl⟩ := rq_open (hval 1 37 v1 rfl rfl) h1
  obtain ⟨a2, rfl, rfl, rfl, w2⟩ := open_int Tryz.underlying3 (hval 2 3 v2 rfl rfl) h2
  obtain ⟨a3, rfl, rfl, rfl, w3⟩ := open_int Tryz.underlying3 (hval 3 3 v3 rfl rfl) h3
  obtain ⟨a4, rfl, rfl, rfl, w4⟩ := open_int Tryz.underlying3 (hval 4 3 v4 rfl rfl) h4
  obtain ⟨hT, hE⟩ := tabE_of_laid hL
  clear hA0 hval0 hsz hL
  simp only [List.append_nil] at hW'
  refine (walk a0 wa0 a1 wa1 a2 w2 a3 w3 a4 w4 hT hE).mono fun e W' ⟨he, hg⟩ => ?_
  subst he
  exact ⟨_, rfl, _, _, _, [], _, [], hW', trodAll_mk1 (shut_bool Tryz.underlying4 _), (trodAll_cons_mk (Below.trod laidOut (by kernel_rfl) (of_decide_eq_true (by kernel_rfl)) k0 hg lt0) (trodAll_cons_mk (Below.trod laidOut (by kernel_rfl) (of_decide_eq_true (by kernel_rfl)) k1 hg lt1) (trodAll_cons_mk (shut_int Tryz.underlying3 w2) (trodAll_cons_mk (shut_int Tryz.underlying3 w3) (trodAll_cons_mk (shut_int Tryz.underlying3 w4) trodAll_mk0))))), rfl, hg.frame _, fun h => by cases h⟩

theorem over : Rows.enrollOthersRow.holds Tryz.pinned (OpenSpec.ofChange Rows.enrollOthersSpec) :=
  OpenClaim.holds_of_wide 8 Tryz.f8 rfl rfl rfl rfl rfl rfl rfl ⟨rfl, rfl, rfl, rfl, rfl⟩ rfl rfl rfl rfl rfl (by kernel_rfl) Tryz.func8 (by kernel_rfl)
    (of_decide_eq_true (by kernel_rfl)) (by unfold Func.isWrapper; first | (rw [if_pos (by decide +kernel)]; kernel_rfl) | (rw [if_neg (by decide +kernel)]; exact ⟨rfl, rfl⟩))
    (fun os started H enc _ => lifted os started H enc)

end Go.Proofs.YtpekhdahamloaaaGreatDoor.enrollOthers
namespace Go.Proofs.YtpekhdahamloaaaGreatDoor
set_option maxRecDepth 100000 in
theorem enrollOthers_holds : Rows.EnrollOthersCardSaid :=
  Claim7.holds_tied_plain_at .later [] [.handle, .data, .data] true _ true
    enrollOthers.over (fun _ h => by cases h) (by kernel_rfl) (fun _ h => by cases h) enrollOthers_row_tie rfl ⟨rfl, rfl⟩ (by kernel_rfl) rfl
    (fun f fn hf hfn => by
      obtain rfl : f = 8 := Option.some.inj ((show Tryz.prog.funcNamed "chartroom/chartroomlaw38.EnrollOthers" = some 8 by kernel_rfl).symm.trans hf) |>.symm
      obtain rfl : fn = Tryz.f8 := (Option.some.inj (Tryz.func8.symm.trans hfn)).symm
      exact ⟨by kernel_rfl, fun j t ht => by
        rw [Tryz.params8] at ht
        have hm : t ∈ [25, 37, 3, 3, 3] := by simpa using Array.mem_of_getElem? ht
        have hall : ([25, 37, 3, 3, 3].all fun u => !Tryz.prog.wantsStandIn u) = true := by kernel_rfl
        exact (show Tryz.prog.wantsStandIn t = false by simpa using List.all_eq_true.1 hall t hm)⟩)
    (by kernel_rfl)
#print axioms enrollOthers_holds
end Go.Proofs.YtpekhdahamloaaaGreatDoor
