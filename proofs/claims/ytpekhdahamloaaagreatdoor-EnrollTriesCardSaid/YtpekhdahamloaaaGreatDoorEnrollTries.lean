/-  -/
import Derived.Test.YtpekhdahamloaaaGreatDoorPk52
import Derived.Test.YtpekhdahamloaaaGreatDoorPk40
import Derived.Test.YtpekhdahamloaaaGreatDoorCards
namespace Go.Proofs.YtpekhdahamloaaaGreatDoor.enrollTries
open Go.ChangeShapes Go.WideShapes Go.ChangeAt Go.RowKit
open Go.ChangeMaps (open_string shut_string)
set_option linter.unusedVariables false
set_option linter.unusedSimpArgs false

theorem t5f {t : Int} (h : t < 5) : (t == 5) = false ∧ decide (t < 5) = true ∧ decide ((5 : Int) ≤ t) = false := by
  refine ⟨?_, ?_, ?_⟩
  · rw [beq_eq_false_iff_ne]; omega
  · rw [decide_eq_true_iff]; exact h
  · rw [decide_eq_false_iff_not]; omega
theorem okSs_t {s : Ss} (h : okSs s = true) {t : Int} (h0 : 0 ≤ t) (h5 : t ≤ 5) (d : Bool) : okSs ⟨s.r, s.c, s.x, s.p, t, d⟩ = true := by
  unfold okSs at h ⊢
  simp only [Bool.and_eq_true, decide_eq_true_eq, Bool.not_eq_true', decide_eq_false_iff_not] at h ⊢
  obtain ⟨⟨⟨⟨⟨h1, h2⟩, h3⟩, h4⟩, _⟩, _⟩ := h
  exact ⟨⟨⟨⟨⟨h1, h2⟩, h3⟩, h4⟩, by omega⟩, by omega⟩
theorem try_of {s : Ss} (h : okSs s = true) (q : Rq) (v b x : Int) : 
    (ansE s q v b x = 0 ∧ ansS s q v b x = ⟨s.r, s.c, s.x, s.p, s.t, true⟩ ∧ s.d = false ∧ s.t < 5 ∧ chkSs (ansS s q v b x) = 0) ∨
    (ansE s q v b x = 380 ∧ ansS s q v b x ≠ ss0 ∧ ansC s q v b x = ct0 ∧ ansS s q v b x = ⟨s.r, s.c, s.x, s.p, s.t + 1, s.d⟩ ∧ s.d = false ∧ 0 ≤ s.t ∧ s.t < 5 ∧ chkSs (ansS s q v b x) = 0) ∨
    (ansE s q v b x = 381 ∧ ansS s q v b x = ss0 ∧ ansC s q v b x = ct0 ∧ s.t = 5) ∨
    (ansE s q v b x = 380 ∧ ansS s q v b x = ss0 ∧ ansC s q v b x = ct0 ∧ s.t < 5 ∧ s.d = true) ∨
    (ansE s q v b x ≠ 0 ∧ ansS s q v b x = ss0 ∧ ansC s q v b x = ct0 ∧ s.t < 5 ∧ s.d = false) := by
  obtain ⟨_, hr, _, _, ht0, ht5⟩ := okSs_side h
  by_cases ht : s.t = 5
  · obtain ⟨e1, e2, e3⟩ := ans_lock (q := q) (v := v) (b := b) (x := x) h ht
    exact .inr (.inr (.inl ⟨e1, e2, e3, ht⟩))
  have hl : s.t < 5 := by omega
  cases hd : s.d
  rotate_left
  · obtain ⟨e1, e2, e3⟩ := ans_done (q := q) (v := v) (b := b) (x := x) h ht hd
    exact .inr (.inr (.inr (.inl ⟨e1, e2, e3, hl, rfl⟩)))
  by_cases hp : preE s q v b x = 0
  · by_cases hw : q.pf = wantL s q
    · obtain ⟨e1, e2, _⟩ := ans_yes hp hw
      exact .inl ⟨e1, e2, rfl, hl, by rw [e2]; exact chk_of (okSs_t h ht0 ht5 true)⟩
    · obtain ⟨e1, e2, e3⟩ := ans_no hp hw
      refine .inr (.inl ⟨e1, ?_, e3, by rw [e2, hd], rfl, ht0, hl, by rw [e2]; exact chk_of (okSs_t h (by omega) (by omega) s.d)⟩)
      rw [e2]
      intro e
      have := congrArg Ss.r e
      rw [show ss0.r = 0 from rfl] at this
      rw [hr] at this
      exact absurd this (by decide)
  · obtain ⟨e1, e2, e3⟩ := ans_of rfl hp
    exact .inr (.inr (.inr (.inr ⟨by rw [e1]; exact hp, e2, e3, hl, rfl⟩)))
set_option maxRecDepth 100000 in
set_option maxHeartbeats 8000000 in
theorem walk {w : World} (s : Ss) (ws : s.wf) (qv : Value) (qs : List Rq) (gq : ∀ q ∈ qs, q.wf) (hq : SlAt 36 w qv qs.length (fun i => rqC (qs.getD i rq0))) (v : Int) (wv : (Lit.int .i64 v).wf = true) (b : Int) (wb : (Lit.int .i64 b).wf = true) (x : Int) (wx : (Lit.int .i64 x).wf = true) (hT : Tab w) (hE : ErrT w) :
    Calls Tryz.prog 6 #[.agg (rowF 6 (ssC s)), qv, .int .i64 v, .int .i64 b, .int .i64 x] w fun e w' => e = .returned (.bool true) ∧ Below w.heap.size w w' := by
  have SN := Lib.hid (fun W (h : Tab W) (h2 : ErrT W) => sane38_any W h h2)
  have HT := Lib.hid hT; have HE := Lib.hid hE
  have C0 := Lib.hid (fun u W => pcheck38_any u W)
  have HSL := Lib.hid hq
  have GQ := Lib.hid gq
  obtain ⟨qa, qc, rfl⟩ := hq.slice
  obtain ⟨n, hn⟩ : ∃ y, qs.length = y := ⟨_, rfl⟩
  rw [hn] at HSL ⊢
  have HN := Lib.hid hn
  have V1 := Lib.hid (i64B_of wv)
  have V2 := Lib.hid (i64B_of wb)
  have nl := hq.len_le
  rw [hn] at nl
  have n0 : (0 : Int) ≤ (n : Int) := Int.natCast_nonneg n
  have c0 := fun W => C0.out s W
  obtain ⟨e0, he0⟩ : ∃ y, chkSs s = y := ⟨_, rfl⟩
  rw [he0] at c0
  have HE0 := Lib.hid he0
  have C1 := Lib.hid c0
  clear hT hE hq hn gq ws wv wb wx c0 he0
  go_enter Tryz.func6, Tryz.ntmps6
  have B0 := Lib.hid (Below.refl w.heap.size w)
  go_upto_region 1 with fail
  obtain ⟨w1, hw1⟩ : ∃ y, w.alloc (.cells (rowF 6 (ssC s)) 25) = y := ⟨_, rfl⟩
  have b1 : Below w.heap.size w w1 := by rw [← hw1]; exact (Below.refl _ _).alloc (Nat.le_refl _) _
  have S1 : Hid (RowV w1 w.heap.size 25 6 (ssC s)) := Lib.hid (by rw [← hw1]; exact RowV.new w _ 6 (ssC s))
  have z1 : w.heap.size + 1 = w1.heap.size := by rw [← hw1]; exact (Array.size_push _).symm
  rw [hw1]
  (try rw [z1])
  have B1 := Lib.hid (B0.out.trans (b1.mono B0.out.size))
  clear b1 hw1 z1 B0
  go_wp2_with fail
  refine (SN.out _ (HT.out.below B1.out) (HE.out.below B1.out HE.out.lt)).mono ?_
  rintro e w2 ⟨rfl, b2⟩
  have B2 := Lib.hid (B1.out.trans (b2.mono B1.out.size))
  have S2 := Lib.hid (S1.out.below b2)
  clear b2 B1 S1
  cases z8 : decide ((8 : Int) < (n : Int))
  rotate_left
  · go_wp2_with fail
    go_ret
    exact ⟨rfl, B2.out⟩
  go_wp2_with (first | ((with_reducible (show wpList _ _ _ (Oper.mk (some 24) _ _ _ _ _ :: _) _ _)); refine wpList_unguard rfl ?_; refine wpList_load_rowV rfl 25 (.tmp 5) rfl w.heap.size rfl 6 25 _ S2.out _ Tryz.underlying25 rfl (by kernel_rfl) ?_))
  refine (C1.out _).mono ?_
  rintro e w3 ⟨rfl, b3⟩
  have B3 := Lib.hid (B2.out.trans (b3.mono B2.out.size))
  have S3 := Lib.hid (S2.out.below b3)
  clear b3 B2 S2
  cases z0 : (e0 == 0)
  · have z1 := bne_true z0
    go_wp2_with fail
    go_ret
    exact ⟨rfl, B3.out⟩
  obtain rfl := beq_iff_eq.1 z0
  clear C1 z0 z8
  go_wp2_with fail
  go_loopg [30] n (fun g s30 wx => ∃ (k : Nat) (u : Ss), k + g = n ∧ s30 = .int .i64 (k : Int) ∧ Hid (chkSs u = 0) ∧ Hid (RowV wx w.heap.size 25 6 (ssC u)) ∧ Hid (Below w.heap.size w wx))
  case atStart => exact ⟨0, s, by omega, rfl, HE0, S3, B3⟩
  case round =>
    obtain ⟨k, u, hk, rfl, CK, S5, B5⟩ := hrel
    obtain ⟨w5, rfl⟩ : ∃ y, y = wr := ⟨_, rfl⟩
    have q0 : (0 : Int) ≤ (k : Int) := Int.natCast_nonneg k
    clear S3 B3 HE0
    by_cases hlt : k < n
    · have d0 : decide ((k : Int) < (n : Int)) = true := by rw [decide_eq_true_iff]; omega
      have d1 : decide (k < n) = true := by rw [decide_eq_true_iff]; omega
      have k6 : (k : Int) < (n : Int) := by omega
      have KL := Lib.hid hlt
      have HK := Lib.hid hk
      obtain ⟨be, oe, e2, hcape, hbe, hce⟩ := SlAt.at_elem (s := 36) (n := n) (a := qa) (k := qc) (c := fun i => rqC (qs.getD i rq0)) (HSL.out.below B5.out) hlt
      have HCK := Lib.hid (fun j hj => hce k hlt j hj)
      have QW : (qs.getD k rq0).wf := by
        have hl : k < qs.length := by rw [HN.out]; exact hlt
        rw [List.getD_eq_getElem?_getD, List.getElem?_eq_getElem hl]
        exact GQ.out _ (List.getElem_mem hl)
      obtain ⟨q, hx⟩ : ∃ y, qs.getD k rq0 = y := ⟨_, rfl⟩
      rw [hx] at HCK QW
      subst e2
      have H1 := Lib.hid (fun W h1 h2 => pans_any u q QW v b x V1.out V2.out W h1 h2)
      have FX := try_of (okSs_of CK.out) q v b x
      obtain ⟨AE, hAE⟩ : ∃ y, ansE u q v b x = y := ⟨_, rfl⟩
      obtain ⟨AS, hAS⟩ : ∃ y, ansS u q v b x = y := ⟨_, rfl⟩
      obtain ⟨AC, hAC⟩ : ∃ y, ansC u q v b x = y := ⟨_, rfl⟩
      rw [hAE, hAS, hAC] at H1 FX
      have FF := Lib.hid FX
      clear hce hcape hbe hx hlt hk QW FX hAE hAS hAC
      go_wp2_with (first | ((with_reducible (show wpList _ _ _ (Oper.mk (some 33) _ _ _ _ _ :: _) _ _)); refine Hid.out ?_))
      refine Lib.hid ?_
      refine wpList_load_elem rfl 37 (.tmp 32) rfl be (oe + k * 36) rfl 36 oe k (by rw [Nat.mul_comm]) (rqC q) HCK.out _ Tryz.underlying37 rfl (by kernel_rfl) ?_
      clear HCK
      have Zr := Lib.hid (RowV.new w5 37 36 (rqC rq0))
      go_upto_region 8 with ((with_reducible (show wpList _ _ _ (Oper.mk none _ _ _ _ _ :: _) _ _)); refine wpList_store_rowV (o := ⟨none, .store 37 (.tmp 12) (.tmp 33), _, _, _, _⟩) rfl 37 (.tmp 12) (.tmp 33) rfl w5.heap.size rfl 36 37 _ (rqC q) rfl Zr.out (by kernel_rfl) (fun j _ => rqC_one q j) ?_; intro w6 Q6 o6)
      have b6 : Below w5.heap.size w5 w6 := ((Below.refl _ _).alloc (Nat.le_refl _) _).trans (o6.out.below (Nat.le_refl _) (by rw [World.size_alloc]; omega))
      have B6 := Lib.hid (B5.out.trans (b6.mono B5.out.size))
      have S6 := Lib.hid (S5.out.below b6)
      clear b6 o6 Zr B5 S5
      go_wp2_with (first | ((with_reducible (show wpList _ _ _ (Oper.mk (some 35) _ _ _ _ _ :: _) _ _)); refine wpList_load_rowV rfl 25 (.tmp 5) rfl w.heap.size rfl 6 25 _ S6.out _ Tryz.underlying25 rfl (by kernel_rfl) ?_) | ((with_reducible (show wpList _ _ _ (Oper.mk (some 36) _ _ _ _ _ :: _) _ _)); refine wpList_load_rowV rfl 37 (.tmp 12) rfl w5.heap.size rfl 36 37 _ Q6.out _ Tryz.underlying37 rfl (by kernel_rfl) ?_))
      refine (H1.out _ (HT.out.below B6.out) (HE.out.below B6.out HE.out.lt)).mono ?_
      rintro e w7 ⟨rfl, b7⟩
      have B7 := Lib.hid (B6.out.trans (b7.mono B6.out.size))
      have S7 := Lib.hid (S6.out.below b7)
      have Q7 := Lib.hid (Q6.out.below b7)
      clear b7 B6 S6 Q6
      clear Q7 H1
      have Za := Lib.hid ((RowV.new w7 25 6 (ssC ss0)).alloc (.cells (rowF 8 (ctC ct0)) 44))
      have Zb : Hid (RowV ((w7.alloc (.cells (rowF 6 (ssC ss0)) 25)).alloc (.cells (rowF 8 (ctC ct0)) 44)) (w7.heap.size + 1) 44 8 (ctC ct0)) := Lib.hid (by have h := RowV.new (w7.alloc (.cells (rowF 6 (ssC ss0)) 25)) 44 8 (ctC ct0); rwa [World.size_alloc] at h)
      go_upto_region 9 with (first | ((with_reducible (show wpList _ _ _ (Oper.mk none _ _ _ _ _ :: _) _ _)); refine wpList_store_rowV (o := ⟨none, .store 25 (.tmp 13) (.tmp 41), _, _, _, _⟩) rfl 25 (.tmp 13) (.tmp 41) rfl (w7.heap.size) rfl 6 25 _ (ssC AS) rfl Za.out (by kernel_rfl) (fun j _ => ssC_one AS j) ?_; intro wa Sa oa) | ((with_reducible (show wpList _ _ _ (Oper.mk none _ _ _ _ _ :: _) _ _)); refine wpList_store_rowV (o := ⟨none, .store 44 (.tmp 14) (.tmp 42), _, _, _, _⟩) rfl 44 (.tmp 14) (.tmp 42) rfl (w7.heap.size + 1) rfl 8 44 _ (ctC AC) rfl (oa.out.row (Nat.ne_of_gt (Nat.lt_succ_self _)) Zb.out) (by kernel_rfl) (fun j _ => ctC_one AC j) ?_; intro w8 Y8 ob))
      have X8 := Lib.hid (ob.out.row (Nat.ne_of_lt (Nat.lt_succ_self _)) Sa.out)
      have b8 : Below w7.heap.size w7 w8 := by
        have h1 := (Below.refl w7.heap.size w7).alloc (Nat.le_refl _) (.cells (rowF 6 (ssC ss0)) 25)
        have h2 := h1.alloc h1.size (.cells (rowF 8 (ctC ct0)) 44)
        have h3 := h2.trans (oa.out.below (K := w7.heap.size) (Nat.le_refl _) h2.size)
        exact h3.trans (ob.out.below (K := w7.heap.size) (Nat.le_succ _) h3.size)
      have B8 := Lib.hid (B7.out.trans (b8.mono B7.out.size))
      have S8 := Lib.hid (S7.out.below b8)
      clear b8 oa ob Sa Za Zb B7 S7
      have x4 : w8.cell? ⟨w.heap.size, 4, none⟩ = some (.int .i64 u.t) := ss_cell S8.out (i := 4) (by decide)
      have x5 : w8.cell? ⟨w.heap.size, 5, none⟩ = some (.bool u.d) := ss_done S8.out
      have ec0 : ∀ W, (binOp .neq 44 (.agg (rowF 8 (ctC ct0))) (.agg #[.int .i64 0, .int .i64 0, .int .i64 0, .int .i64 0, .int .i64 0, .int .i64 0, .int .i64 0, .int .i64 0])).run Tryz.prog W = .ok (.bool false) W := fun W => neq_ct ct0 ct0 W
      have gc0 : ∀ x y W, (eqGuard .neq 44 x y (.agg (rowF 8 (ctC ct0))) (.agg #[.int .i64 0, .int .i64 0, .int .i64 0, .int .i64 0, .int .i64 0, .int .i64 0, .int .i64 0, .int .i64 0])).run Tryz.prog W = .ok () W := fun x y W => guard_ct .neq x y ct0 ct0 W
      have es0 : ∀ W, (binOp .neq 25 (.agg (rowF 6 (ssC ss0))) (.agg #[.int .i64 0, .int .i64 0, .int .i64 0, .int .i64 0, .int .i64 0, .bool false])).run Tryz.prog W = .ok (.bool false) W := fun W => neq_ss ss0 ss0 W
      have gs0 : ∀ x y W, (eqGuard .neq 25 x y (.agg (rowF 6 (ssC ss0))) (.agg #[.int .i64 0, .int .i64 0, .int .i64 0, .int .i64 0, .int .i64 0, .bool false])).run Tryz.prog W = .ok () W := fun x y W => guard_ss .neq x y ss0 ss0 W
      rcases FF.out with ⟨rfl, fs, fd, ft, fc⟩ | ⟨rfl, fn, rfl, fs, fd, f0, ft, fc⟩ | ⟨rfl, rfl, rfl, ft⟩ | ⟨rfl, rfl, rfl, ft, fd⟩ | ⟨fe, rfl, rfl, ft, fd⟩
      · obtain ⟨t1, t2, t3⟩ := t5f ft
        have t4 := ft
        rw [fd] at x5
        have FS := Lib.hid fs
        have FC := Lib.hid fc
        have FD := Lib.hid fd
        have L1 := Lib.hid (RowV.lt S8.out)
        have L2 := Lib.hid (RowV.lt X8.out)
        have es2 : ∀ W, (binOp .neq 25 (.agg (rowF 6 (ssC AS))) (.agg (rowF 6 (ssC AS)))).run Tryz.prog W = .ok (.bool false) W := fun W => by rw [neq_ss AS AS W, ssB_self]; rfl
        have gs2 : ∀ x y W, (eqGuard .neq 25 x y (.agg (rowF 6 (ssC AS))) (.agg (rowF 6 (ssC AS)))).run Tryz.prog W = .ok () W := fun x y W => guard_ss .neq x y AS AS W
        clear fs fc fd ft
        go_wp2_with (first | ((with_reducible (show wpList _ _ _ (Oper.mk (some 74) _ _ _ _ _ :: _) _ _)); refine Hid.out ?_))
        refine Lib.hid ?_
        refine wpList_load_rowV rfl 25 (.tmp 5) rfl w.heap.size rfl 6 _ _ (S8.out) _ Tryz.underlying25 rfl (by kernel_rfl) ?_
        clear Y8 x4 x5
        have Zr := Lib.hid (RowV.new w8 25 6 (ssC ss0))
        go_upto_region 15 with ((with_reducible (show wpList _ _ _ (Oper.mk none _ _ _ _ _ :: _) _ _)); refine wpList_store_rowV (o := ⟨none, .store 25 (.tmp 16) (.tmp 74), _, _, _, _⟩) rfl 25 (.tmp 16) (.tmp 74) rfl w8.heap.size rfl 6 25 _ (ssC u) rfl Zr.out (by kernel_rfl) (fun j _ => ssC_one u j) ?_; intro w9 W9 o9)
        have b9 : Below w8.heap.size w8 w9 := ((Below.refl _ _).alloc (Nat.le_refl _) _).trans (o9.out.below (Nat.le_refl _) (by rw [World.size_alloc]; omega))
        have B9 := Lib.hid (B8.out.trans (b9.mono B8.out.size))
        have S9 := Lib.hid (S8.out.below b9)
        have X9 := Lib.hid (X8.out.below b9)
        clear b9 o9 Zr B8 S8 X8
        have x5 : w9.cell? ⟨w8.heap.size, 5, none⟩ = some (.bool u.d) := ss_done W9.out
        have f5 : w9.frozen? ⟨w8.heap.size, 5, none⟩ = false := W9.out.frozen 5
        go_upto_region 16 with fail
        clear x5 f5
        have SC := Lib.hid (show RowV (w9.setCell ⟨w8.heap.size, 5, none⟩ (.bool true)) w8.heap.size 25 6 (ssC ⟨u.r, u.c, u.x, u.p, u.t, true⟩) from (W9.out.set 5 (.bool true)).congr (fun i hi => by match i, hi with | 0, _ => rfl | 1, _ => rfl | 2, _ => rfl | 3, _ => rfl | 4, _ => rfl | 5, _ => rfl))
        have OC := Lib.hid ((OnlyB.refl w8.heap.size w9).setCell (p := ⟨w8.heap.size, 5, none⟩) (.inl rfl) (.bool true))
        obtain ⟨w10, hw10⟩ : ∃ y, w9.setCell ⟨w8.heap.size, 5, none⟩ (.bool true) = y := ⟨_, rfl⟩
        rw [hw10] at SC OC ⊢
        have W10 := Lib.hid SC.out
        rw [← FS.out] at W10
        have S10 := Lib.hid (OC.out.row (show w.heap.size ≠ w8.heap.size by have := L1.out; have := L2.out; omega) S9.out)
        have X10 := Lib.hid (OC.out.row (show w7.heap.size ≠ w8.heap.size by have := L2.out; omega) X9.out)
        have B10 := Lib.hid (B9.out.trans (OC.out.below (show w.heap.size ≤ w8.heap.size by have := L1.out; have := L2.out; omega) B9.out.size))
        clear SC OC hw10 W9 S9 X9 B9
        have x4 : w10.cell? ⟨w.heap.size, 4, none⟩ = some (.int .i64 u.t) := ss_cell S10.out (i := 4) (by decide)
        have x5 : w10.cell? ⟨w.heap.size, 5, none⟩ = some (.bool u.d) := ss_done S10.out
        rw [FD.out] at x5
        go_wp2_with (first | ((with_reducible (show wpList _ _ _ (Oper.mk (some 76) _ _ _ _ _ :: _) _ _)); refine Hid.out ?_))
        refine Lib.hid ?_
        refine wpList_load_rowV rfl 25 (.tmp 13) rfl w7.heap.size rfl 6 _ _ (X10.out) _ Tryz.underlying25 rfl (by kernel_rfl) ?_
        go_wp2_with (first | ((with_reducible (show wpList _ _ _ (Oper.mk (some 77) _ _ _ _ _ :: _) _ _)); refine Hid.out ?_))
        refine Lib.hid ?_
        refine wpList_load_rowV rfl 25 (.tmp 16) rfl w8.heap.size rfl 6 _ _ (W10.out) _ Tryz.underlying25 rfl (by kernel_rfl) ?_
        go_wp2_with (first | ((with_reducible (show wpList _ _ _ (Oper.mk (some 88) _ _ _ _ _ :: _) _ _)); refine Hid.out ?_))
        refine Lib.hid ?_
        refine wpList_load_rowV rfl 25 (.tmp 13) rfl w7.heap.size rfl 6 _ _ (X10.out) _ Tryz.underlying25 rfl (by kernel_rfl) ?_
        go_wp2_with (first | ((with_reducible (show wpList _ _ _ (Oper.mk none _ _ _ _ _ :: _) _ _)); refine Hid.out ?_))
        refine Lib.hid ?_
        refine wpList_store_rowV rfl 25 (.tmp 5) (.tmp 88) rfl w.heap.size rfl 6 _ _ _ rfl (S10.out) (by kernel_rfl) (fun j _ => ssC_one AS j) ?_
        intro w11 S11 O11
        have B11 := Lib.hid (B10.out.trans (O11.out.below (Nat.le_refl _) B10.out.size))
        clear O11 B10 S10 X10 W10 x4 x5 FS FD es2 gs2
        have C2 := fun W => C0.out AS W
        rw [FC.out] at C2
        have C3 := Lib.hid C2
        clear C2
        go_wp2_with (first | ((with_reducible (show wpList _ _ _ (Oper.mk (some 115) _ _ _ _ _ :: _) _ _)); refine wpList_load_rowV rfl 25 (.tmp 5) rfl w.heap.size rfl 6 25 _ S11.out _ Tryz.underlying25 rfl (by kernel_rfl) ?_))
        refine (C3.out _).mono ?_
        rintro e w12 ⟨rfl, b12⟩
        have B12 := Lib.hid (B11.out.trans (b12.mono B11.out.size))
        have S12 := Lib.hid (S11.out.below b12)
        clear b12 B11 S11
        clear C3
        go_wp2_with fail
        go_roundg (gk - 1)
        case measure => have := KL.out; have := HK.out; omega
        case rel =>
          go_light
          exact ⟨k + 1, AS, by have := KL.out; have := HK.out; omega, by go_num, FC, S12, B12⟩
      · obtain ⟨t1, t2, t3⟩ := t5f ft
        have t4 := ft
        rw [fd] at x5
        have FS := Lib.hid fs
        have FC := Lib.hid fc
        have FD := Lib.hid fd
        have L1 := Lib.hid (RowV.lt S8.out)
        have L2 := Lib.hid (RowV.lt X8.out)
        have es : ∀ W, (binOp .neq 25 (.agg (rowF 6 (ssC AS))) (.agg #[.int .i64 0, .int .i64 0, .int .i64 0, .int .i64 0, .int .i64 0, .bool false])).run Tryz.prog W = .ok (.bool true) W := fun W => by rw [show Value.agg #[.int .i64 0, .int .i64 0, .int .i64 0, .int .i64 0, .int .i64 0, .bool false] = .agg (rowF 6 (ssC ss0)) from rfl, neq_ss AS ss0 W, show ssB AS ss0 = false from by rw [← Bool.not_eq_true, ssB_iff]; exact fn]; rfl
        have gs : ∀ x y W, (eqGuard .neq 25 x y (.agg (rowF 6 (ssC AS))) (.agg #[.int .i64 0, .int .i64 0, .int .i64 0, .int .i64 0, .int .i64 0, .bool false])).run Tryz.prog W = .ok () W := fun x y W => guard_ss .neq x y AS ss0 W
        have es2 : ∀ W, (binOp .neq 25 (.agg (rowF 6 (ssC AS))) (.agg (rowF 6 (ssC AS)))).run Tryz.prog W = .ok (.bool false) W := fun W => by rw [neq_ss AS AS W, ssB_self]; rfl
        have gs2 : ∀ x y W, (eqGuard .neq 25 x y (.agg (rowF 6 (ssC AS))) (.agg (rowF 6 (ssC AS)))).run Tryz.prog W = .ok () W := fun x y W => guard_ss .neq x y AS AS W
        have FN := Lib.hid fn
        have tw : IntKind.i64.wrap (u.t + 1) = u.t + 1 := IntWalk.i64_in _ (by omega)
        have F6 := Lib.hid (show decide ((5 : Int) < AS.t) = false by rw [decide_eq_false_iff_not, fs]; show ¬ 5 < u.t + 1; omega)
        rw [fd] at FS
        clear fs fc fd ft fn f0
        go_wp2_with (first | ((with_reducible (show wpList _ _ _ (Oper.mk (some 67) _ _ _ _ _ :: _) _ _)); refine Hid.out ?_))
        refine Lib.hid ?_
        refine wpList_unguard rfl ?_
        refine wpList_load_rowV rfl 44 (.tmp 14) rfl (w7.heap.size + 1) rfl 8 _ _ (Y8.out) _ Tryz.underlying44 rfl (by kernel_rfl) ?_
        go_wp2_with (first | ((with_reducible (show wpList _ _ _ (Oper.mk (some 90) _ _ _ _ _ :: _) _ _)); refine Hid.out ?_))
        refine Lib.hid ?_
        refine wpList_load_rowV rfl 25 (.tmp 13) rfl w7.heap.size rfl 6 _ _ (X8.out) _ Tryz.underlying25 rfl (by kernel_rfl) ?_
        go_wp2_with (first | ((with_reducible (show wpList _ _ _ (Oper.mk (some 93) _ _ _ _ _ :: _) _ _)); refine Hid.out ?_))
        refine Lib.hid ?_
        refine wpList_load_rowV rfl 25 (.tmp 5) rfl w.heap.size rfl 6 _ _ (S8.out) _ Tryz.underlying25 rfl (by kernel_rfl) ?_
        clear es gs x4 x5
        clear Y8
        have Zr := Lib.hid (RowV.new w8 25 6 (ssC ss0))
        go_upto_region 21 with ((with_reducible (show wpList _ _ _ (Oper.mk none _ _ _ _ _ :: _) _ _)); refine wpList_store_rowV (o := ⟨none, .store 25 (.tmp 17) (.tmp 93), _, _, _, _⟩) rfl 25 (.tmp 17) (.tmp 93) rfl w8.heap.size rfl 6 25 _ (ssC u) rfl Zr.out (by kernel_rfl) (fun j _ => ssC_one u j) ?_; intro w9 W9 o9)
        have b9 : Below w8.heap.size w8 w9 := ((Below.refl _ _).alloc (Nat.le_refl _) _).trans (o9.out.below (Nat.le_refl _) (by rw [World.size_alloc]; omega))
        have B9 := Lib.hid (B8.out.trans (b9.mono B8.out.size))
        have S9 := Lib.hid (S8.out.below b9)
        have X9 := Lib.hid (X8.out.below b9)
        clear b9 o9 Zr B8 S8 X8
        have x4 : w9.cell? ⟨w8.heap.size, 4, none⟩ = some (.int .i64 u.t) := ss_cell W9.out (i := 4) (by decide)
        have f4 : w9.frozen? ⟨w8.heap.size, 4, none⟩ = false := W9.out.frozen 4
        go_upto_region 22 with fail
        clear x4 f4 tw
        have SC := Lib.hid (show RowV (w9.setCell ⟨w8.heap.size, 4, none⟩ (.int .i64 (u.t + 1))) w8.heap.size 25 6 (ssC ⟨u.r, u.c, u.x, u.p, u.t + 1, u.d⟩) from (W9.out.set 4 (.int .i64 (u.t + 1))).congr (fun i hi => by match i, hi with | 0, _ => rfl | 1, _ => rfl | 2, _ => rfl | 3, _ => rfl | 4, _ => rfl | 5, _ => rfl))
        have OC := Lib.hid ((OnlyB.refl w8.heap.size w9).setCell (p := ⟨w8.heap.size, 4, none⟩) (.inl rfl) (.int .i64 (u.t + 1)))
        obtain ⟨w10, hw10⟩ : ∃ y, w9.setCell ⟨w8.heap.size, 4, none⟩ (.int .i64 (u.t + 1)) = y := ⟨_, rfl⟩
        rw [hw10] at SC OC ⊢
        have W10 := Lib.hid SC.out
        rw [FD.out] at W10
        rw [← FS.out] at W10
        have S10 := Lib.hid (OC.out.row (show w.heap.size ≠ w8.heap.size by have := L1.out; have := L2.out; omega) S9.out)
        have X10 := Lib.hid (OC.out.row (show w7.heap.size ≠ w8.heap.size by have := L2.out; omega) X9.out)
        have B10 := Lib.hid (B9.out.trans (OC.out.below (show w.heap.size ≤ w8.heap.size by have := L1.out; have := L2.out; omega) B9.out.size))
        clear SC OC hw10 W9 S9 X9 B9
        have x4 : w10.cell? ⟨w7.heap.size, 4, none⟩ = some (.int .i64 AS.t) := ss_cell X10.out (i := 4) (by decide)
        have x5 : w10.cell? ⟨w.heap.size, 5, none⟩ = some (.bool u.d) := ss_done S10.out
        have x6 := F6.out
        rw [FD.out] at x5
        go_wp2_with (first | ((with_reducible (show wpList _ _ _ (Oper.mk (some 98) _ _ _ _ _ :: _) _ _)); refine Hid.out ?_))
        refine Lib.hid ?_
        refine wpList_load_rowV rfl 25 (.tmp 13) rfl w7.heap.size rfl 6 _ _ (X10.out) _ Tryz.underlying25 rfl (by kernel_rfl) ?_
        go_wp2_with (first | ((with_reducible (show wpList _ _ _ (Oper.mk (some 99) _ _ _ _ _ :: _) _ _)); refine Hid.out ?_))
        refine Lib.hid ?_
        refine wpList_load_rowV rfl 25 (.tmp 17) rfl w8.heap.size rfl 6 _ _ (W10.out) _ Tryz.underlying25 rfl (by kernel_rfl) ?_
        go_wp2_with (first | ((with_reducible (show wpList _ _ _ (Oper.mk (some 114) _ _ _ _ _ :: _) _ _)); refine Hid.out ?_))
        refine Lib.hid ?_
        refine wpList_load_rowV rfl 25 (.tmp 13) rfl w7.heap.size rfl 6 _ _ (X10.out) _ Tryz.underlying25 rfl (by kernel_rfl) ?_
        go_wp2_with (first | ((with_reducible (show wpList _ _ _ (Oper.mk none _ _ _ _ _ :: _) _ _)); refine Hid.out ?_))
        refine Lib.hid ?_
        refine wpList_store_rowV rfl 25 (.tmp 5) (.tmp 114) rfl w.heap.size rfl 6 _ _ _ rfl (S10.out) (by kernel_rfl) (fun j _ => ssC_one AS j) ?_
        intro w11 S11 O11
        have B11 := Lib.hid (B10.out.trans (O11.out.below (Nat.le_refl _) B10.out.size))
        clear O11 B10 S10 X10 W10 x4 x5 x6 F6 FS FD FN es2 gs2
        have C2 := fun W => C0.out AS W
        rw [FC.out] at C2
        have C3 := Lib.hid C2
        clear C2
        go_wp2_with (first | ((with_reducible (show wpList _ _ _ (Oper.mk (some 115) _ _ _ _ _ :: _) _ _)); refine wpList_load_rowV rfl 25 (.tmp 5) rfl w.heap.size rfl 6 25 _ S11.out _ Tryz.underlying25 rfl (by kernel_rfl) ?_))
        refine (C3.out _).mono ?_
        rintro e w12 ⟨rfl, b12⟩
        have B12 := Lib.hid (B11.out.trans (b12.mono B11.out.size))
        have S12 := Lib.hid (S11.out.below b12)
        clear b12 B11 S11
        clear C3
        go_wp2_with fail
        go_roundg (gk - 1)
        case measure => have := KL.out; have := HK.out; omega
        case rel =>
          go_light
          exact ⟨k + 1, AS, by have := KL.out; have := HK.out; omega, by go_num, FC, S12, B12⟩
      · obtain ⟨ut, hut⟩ : ∃ y, u.t = y := ⟨_, rfl⟩
        rw [hut] at x4 ft
        subst ft
        clear hut
        have FC := Lib.hid CK.out
        have C2 := fun W => C0.out u W
        rw [CK.out] at C2
        have C3 := Lib.hid C2
        clear C2
        go_wp2_with (first | ((with_reducible (show wpList _ _ _ (Oper.mk (some 115) _ _ _ _ _ :: _) _ _)); refine wpList_load_rowV rfl 25 (.tmp 5) rfl w.heap.size rfl 6 25 _ S8.out _ Tryz.underlying25 rfl (by kernel_rfl) ?_) | ((with_reducible (show wpList _ _ _ (Oper.mk (some 67) _ _ _ _ _ :: _) _ _)); refine wpList_unguard rfl ?_; refine wpList_load_rowV rfl 44 (.tmp 14) rfl (w7.heap.size + 1) rfl 8 44 _ Y8.out _ Tryz.underlying44 rfl (by kernel_rfl) ?_) | ((with_reducible (show wpList _ _ _ (Oper.mk (some 90) _ _ _ _ _ :: _) _ _)); refine wpList_load_rowV rfl 25 (.tmp 13) rfl w7.heap.size rfl 6 25 _ X8.out _ Tryz.underlying25 rfl (by kernel_rfl) ?_))
        refine (C3.out _).mono ?_
        rintro e w9 ⟨rfl, b9⟩
        have B9 := Lib.hid (B8.out.trans (b9.mono B8.out.size))
        have S9 := Lib.hid (S8.out.below b9)
        have X9 := Lib.hid (X8.out.below b9)
        have Y9 := Lib.hid (Y8.out.below b9)
        clear b9 B8 S8 X8 Y8
        clear C3
        go_wp2_with fail
        go_roundg (gk - 1)
        case measure => have := KL.out; have := HK.out; omega
        case rel =>
          go_light
          exact ⟨k + 1, u, by have := KL.out; have := HK.out; omega, by go_num, FC, S9, B9⟩
      · rw [fd] at x5
        obtain ⟨t1, t2, t3⟩ := t5f ft
        have t4 := ft
        clear ft fd
        have FC := Lib.hid CK.out
        have C2 := fun W => C0.out u W
        rw [CK.out] at C2
        have C3 := Lib.hid C2
        clear C2
        go_wp2_with (first | ((with_reducible (show wpList _ _ _ (Oper.mk (some 115) _ _ _ _ _ :: _) _ _)); refine wpList_load_rowV rfl 25 (.tmp 5) rfl w.heap.size rfl 6 25 _ S8.out _ Tryz.underlying25 rfl (by kernel_rfl) ?_) | ((with_reducible (show wpList _ _ _ (Oper.mk (some 67) _ _ _ _ _ :: _) _ _)); refine wpList_unguard rfl ?_; refine wpList_load_rowV rfl 44 (.tmp 14) rfl (w7.heap.size + 1) rfl 8 44 _ Y8.out _ Tryz.underlying44 rfl (by kernel_rfl) ?_) | ((with_reducible (show wpList _ _ _ (Oper.mk (some 90) _ _ _ _ _ :: _) _ _)); refine wpList_load_rowV rfl 25 (.tmp 13) rfl w7.heap.size rfl 6 25 _ X8.out _ Tryz.underlying25 rfl (by kernel_rfl) ?_))
        refine (C3.out _).mono ?_
        rintro e w9 ⟨rfl, b9⟩
        have B9 := Lib.hid (B8.out.trans (b9.mono B8.out.size))
        have S9 := Lib.hid (S8.out.below b9)
        have X9 := Lib.hid (X8.out.below b9)
        have Y9 := Lib.hid (Y8.out.below b9)
        clear b9 B8 S8 X8 Y8
        clear C3
        go_wp2_with fail
        go_roundg (gk - 1)
        case measure => have := KL.out; have := HK.out; omega
        case rel =>
          go_light
          exact ⟨k + 1, u, by have := KL.out; have := HK.out; omega, by go_num, FC, S9, B9⟩
      · rw [fd] at x5
        obtain ⟨t1, t2, t3⟩ := t5f ft
        have t4 := ft
        clear ft fd
        have z1 : (AE != 0) = true := by rw [bne_iff_ne]; exact fe
        have z2 : (AE == 0) = false := by rw [beq_eq_false_iff_ne]; exact fe
        clear fe
        have FC := Lib.hid CK.out
        have C2 := fun W => C0.out u W
        rw [CK.out] at C2
        have C3 := Lib.hid C2
        clear C2
        go_wp2_with (first | ((with_reducible (show wpList _ _ _ (Oper.mk (some 115) _ _ _ _ _ :: _) _ _)); refine wpList_load_rowV rfl 25 (.tmp 5) rfl w.heap.size rfl 6 25 _ S8.out _ Tryz.underlying25 rfl (by kernel_rfl) ?_) | ((with_reducible (show wpList _ _ _ (Oper.mk (some 67) _ _ _ _ _ :: _) _ _)); refine wpList_unguard rfl ?_; refine wpList_load_rowV rfl 44 (.tmp 14) rfl (w7.heap.size + 1) rfl 8 44 _ Y8.out _ Tryz.underlying44 rfl (by kernel_rfl) ?_) | ((with_reducible (show wpList _ _ _ (Oper.mk (some 90) _ _ _ _ _ :: _) _ _)); refine wpList_load_rowV rfl 25 (.tmp 13) rfl w7.heap.size rfl 6 25 _ X8.out _ Tryz.underlying25 rfl (by kernel_rfl) ?_))
        refine (C3.out _).mono ?_
        rintro e w9 ⟨rfl, b9⟩
        have B9 := Lib.hid (B8.out.trans (b9.mono B8.out.size))
        have S9 := Lib.hid (S8.out.below b9)
        have X9 := Lib.hid (X8.out.below b9)
        have Y9 := Lib.hid (Y8.out.below b9)
        clear b9 B8 S8 X8 Y8
        clear C3
        go_wp2_with fail
        go_roundg (gk - 1)
        case measure => have := KL.out; have := HK.out; omega
        case rel =>
          go_light
          exact ⟨k + 1, u, by have := KL.out; have := HK.out; omega, by go_num, FC, S9, B9⟩
    · have d0 : decide ((k : Int) < (n : Int)) = false := by rw [decide_eq_false_iff_not]; omega
      have d1 : decide (k < n) = false := by rw [decide_eq_false_iff_not]; omega
      clear hlt hk
      go_wp2_with fail
      go_ret
      exact ⟨rfl, B5.out⟩

set_option maxRecDepth 100000 in
set_option maxHeartbeats 1000000 in
theorem lifted (os : Os) (started : os.Started) (H : Type) (enc : TypeId × Value → H) :
    ReturnsInHanded {} Tryz.checked os 6 .any (fun w args => (Rows.enrollTriesSpec.pre enc Tryz.prog Tryz.f6 [] false w args ∧ laidMetH Tryz.prog laidLE w) ∧ sizedMet enc Tryz.prog Tryz.f6 (OpenSpec.ofChange Rows.enrollTriesSpec) false w args)
      (Rows.enrollTriesSpec.post enc Tryz.prog Tryz.f6 false true false false) := by
  refine returnsInHanded_of_change_and (C := Tryz.checked) (X := fun w _ => laidMetH Tryz.prog laidLE w) (fun _ _ _ hh h => h.of_heap hh) own started (by kernel_rfl) Tryz.func6
    (ChangeSpec.witness_shaped (enc := enc) (C := Tryz.checked) (os := os) (X := fun w _ => laidMetH Tryz.prog laidLE w) false (World.doorLaid Tryz.prog 19 os) #[.agg #[.int .i64 0, .int .i64 0, .int .i64 0, .int .i64 0, .int .i64 0, .bool false], .slice none 0 0, .int .i64 0, .int .i64 0, .int .i64 0] 8 rfl (World.shaped_of_RefB (by kernel_rfl) (by kernel_rfl)) (by kernel_rfl) (by kernel_rfl) (by kernel_rfl) (door_metE os _)) ?_
  intro W base args ds gs before hval0 hW _ hsz hL _
  have hval : ∀ (j : Nat) t v, Tryz.f6.params[j]? = some t → args[j]? = some v → Value.okWide Tryz.prog W .any base t v := hval0
  have hW' := hW
  obtain ⟨p, q, hA0, hV, rfl, hfz, hnd⟩ := hW
  have hA : DataW.TrodAll enc Tryz.prog W 0 (fun _ => true) true Tryz.f6.params.toList args.toList ds p := hA0
  rw [Tryz.params6] at hA hval
  obtain ⟨v0, vs0, d0, ds0, p0, q0, hargs, rfl, rfl, h0, r0⟩ := trodAll_cons hA
  obtain ⟨v1, vs1, d1, ds1, p1, q1, rfl, rfl, rfl, h1, r1⟩ := trodAll_cons r0
  obtain ⟨v2, vs2, d2, ds2, p2, q2, rfl, rfl, rfl, h2, r2⟩ := trodAll_cons r1
  obtain ⟨v3, vs3, d3, ds3, p3, q3, rfl, rfl, rfl, h3, r3⟩ := trodAll_cons r2
  obtain ⟨v4, vs4, d4, ds4, p4, q4, rfl, rfl, rfl, h4, r4⟩ := trodAll_cons r3
  obtain ⟨rfl, rfl, rfl⟩ := trodAll_nil r4
  obtain rfl : args = #[v0, v1, v2, v3, v4] := by cases args; simp_all
  obtain ⟨rfl, rfl⟩ := trodVars_none hV
  have k0 := h0
  have lt0 : ∀ x ∈ p0, x.block < W.heap.size := by obtain ⟨m, hm⟩ := k0; exact DataW.trod_lt m _ _ _ hm
  obtain ⟨a0, wa0, rfl⟩ := ss_open (hval 0 25 v0 rfl rfl) h0
  have k1 := h1
  have lt1 : ∀ x ∈ p1, x.block < W.heap.size := by obtain ⟨m, hm⟩ := k1; exact DataW.trod_lt m _ _ _ hm
  obtain ⟨l1, g1, s1⟩ := slice_open (c := rqC) (good := Rq.wf) rq0 Tryz.underlying48 (show Tryz.prog.cellsOf 37 = 36 by kernel_rfl) (by decide) (fun n cs x h => trod_rq h) (hval 1 48 v1 rfl rfl) h1 (fun elems spare e => by
    have := sized_slice hsz (j := 1) (t := 48) (e := 37) (elems := elems) (spare := spare) (by kernel_rfl) (by rw [← e]; rfl) Tryz.underlying48
    rw [show Tryz.checked.prog.bytesOf 37 = 64 by kernel_rfl] at this; omega)
  obtain ⟨a2, rfl, rfl, rfl, w2⟩ := open_int Tryz.underlying3 (hval 2 3 v2 rfl rfl) h2
  obtain ⟨a3, rfl, rfl, rfl, w3⟩ := open_int Tryz.underlying3 (hval 3 3 v3 rfl rfl) h3
  obtain ⟨a4, rfl, rfl, rfl, w4⟩ := open_int Tryz.underlying3 (hval 4 3 v4 rfl rfl) h4
  obtain ⟨hT, hE⟩ := tabE_of_laid hL
  clear hA0 hval0 hsz hL
  simp only [List.append_nil] at hW'
  refine (walk a0 wa0 v1 l1 g1 s1 a2 w2 a3 w3 a4 w4 hT hE).mono fun e W' ⟨he, hg⟩ => ?_
  subst he
  exact ⟨_, rfl, _, _, _, [], _, [], hW', trodAll_mk1 (shut_bool Tryz.underlying4 _), (trodAll_cons_mk (Below.trod laidOut (by kernel_rfl) (of_decide_eq_true (by kernel_rfl)) k0 hg lt0) (trodAll_cons_mk (Below.trod laidOut (by kernel_rfl) (of_decide_eq_true (by kernel_rfl)) k1 hg lt1) (trodAll_cons_mk (shut_int Tryz.underlying3 w2) (trodAll_cons_mk (shut_int Tryz.underlying3 w3) (trodAll_cons_mk (shut_int Tryz.underlying3 w4) trodAll_mk0))))), rfl, hg.frame _, fun h => by cases h⟩

theorem over : Rows.enrollTriesRow.holds Tryz.pinned (OpenSpec.ofChange Rows.enrollTriesSpec) :=
  OpenClaim.holds_of_wide 6 Tryz.f6 rfl rfl rfl rfl rfl rfl rfl ⟨rfl, rfl, rfl, rfl, rfl⟩ rfl rfl rfl rfl rfl (by kernel_rfl) Tryz.func6 (by kernel_rfl)
    (of_decide_eq_true (by kernel_rfl)) (by unfold Func.isWrapper; first | (rw [if_pos (by decide +kernel)]; kernel_rfl) | (rw [if_neg (by decide +kernel)]; exact ⟨rfl, rfl⟩))
    (fun os started H enc _ => lifted os started H enc)

end Go.Proofs.YtpekhdahamloaaaGreatDoor.enrollTries
namespace Go.Proofs.YtpekhdahamloaaaGreatDoor
set_option maxRecDepth 100000 in
theorem enrollTries_holds : Rows.EnrollTriesCardSaid :=
  Claim7.holds_tied_plain_at .later [] [.handle, .data, .data] true _ true
    enrollTries.over (fun _ h => by cases h) (by kernel_rfl) (fun _ h => by cases h) enrollTries_row_tie rfl ⟨rfl, rfl⟩ (by kernel_rfl) rfl
    (fun f fn hf hfn => by
      obtain rfl : f = 6 := Option.some.inj ((show Tryz.prog.funcNamed "chartroom/chartroomlaw38.EnrollTries" = some 6 by kernel_rfl).symm.trans hf) |>.symm
      obtain rfl : fn = Tryz.f6 := (Option.some.inj (Tryz.func6.symm.trans hfn)).symm
      exact ⟨by kernel_rfl, fun j t ht => by
        rw [Tryz.params6] at ht
        have hm : t ∈ [25, 48, 3, 3, 3] := by simpa using Array.mem_of_getElem? ht
        have hall : ([25, 48, 3, 3, 3].all fun u => !Tryz.prog.wantsStandIn u) = true := by kernel_rfl
        exact (show Tryz.prog.wantsStandIn t = false by simpa using List.all_eq_true.1 hall t hm)⟩)
    (by kernel_rfl)
#print axioms enrollTries_holds
end Go.Proofs.YtpekhdahamloaaaGreatDoor
