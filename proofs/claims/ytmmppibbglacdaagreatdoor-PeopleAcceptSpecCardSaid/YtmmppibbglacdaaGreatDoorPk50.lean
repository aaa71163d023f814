/- The reference of people: find, guards, Check. -/
import Derived.Test.YtmmppibbglacdaaGreatDoorPk47
import Derived.Test.YtmmppibbglacdaaGreatDoorPk48
set_option linter.unusedVariables false
set_option linter.unusedSimpArgs false
namespace Go.Proofs.YtmmppibbglacdaaGreatDoor
open Go.RowKit Cod
theorem has_find {ps : List Pe} {z : Int} : hasB ps z = (findP ps z).isSome := by
  unfold hasB findP
  rw [Bool.eq_iff_iff, List.find?_isSome]
  simp
set_option maxRecDepth 100000 in
set_option maxHeartbeats 8000000 in
theorem rfind37_any (ps : List Pe) (us : Nat → Sv) (v : Value) (z : Int) (w : World) (h : SlAt 5 w v ps.length (fun i => peC (ps.getD i pe0) (us i))) (hn : ps.length ≤ 1000) :
    Calls Tryz.prog 39 #[v, .int .i64 z] w (PidxPost ps z w) := by
  obtain ⟨la, lc, rfl⟩ := h.slice
  have FY : Hid (∀ k w', (∀ i, i < k → ¬ (ps.getD i pe0).i = z) → k < ps.length → (ps.getD k pe0).i = z → Below w.heap.size w w' → PidxPost ps z w (.returned (.int .i64 (k : Int))) w') := Lib.hid (fun k w' h1 h2 h3 b => ⟨.inl ⟨k, h2, rfl, fndP_yes h1 h2 h3⟩, b⟩)
  have FN : Hid (∀ w', (∀ i, i < ps.length → ¬ (ps.getD i pe0).i = z) → Below w.heap.size w w' → PidxPost ps z w (.returned (.int .i64 (-1))) w') := Lib.hid (fun w' h1 b => ⟨.inr ⟨rfl, fndP_no h1⟩, b⟩)
  obtain ⟨n, hln⟩ : ∃ y, ps.length = y := ⟨_, rfl⟩
  have HN := Lib.hid hln
  have H0 : Hid (SlAt 5 w (.slice la n lc) n (fun i => peC (ps.getD i pe0) (us i))) := Lib.hid (by rw [← hln]; exact h)
  have qn : (n : Int) ≤ 1000 := by omega
  rw [hln] at FY FN ⊢
  clear h hn hln
  go_enter Tryz.func39, Tryz.ntmps39
  go_wp2_with fail
  go_loopg [5] n (fun g s5 wx => ∃ k : Nat, k + g = n ∧ s5 = .int .i64 (k : Int) ∧ Hid (∀ i, i < k → ¬ (ps.getD i pe0).i = z) ∧ w = wx)
  case atStart => exact ⟨0, by omega, rfl, Lib.hid (fun i hi => by omega), rfl⟩
  case round =>
    obtain ⟨k, hk, rfl, hA, rfl⟩ := hrel
    have q0 : (0 : Int) ≤ (k : Int) := Int.natCast_nonneg k
    by_cases hlt : k < n
    · have d0 : decide ((k : Int) < (n : Int)) = true := by rw [decide_eq_true_iff]; omega
      have d1 : decide (k < n) = true := by rw [decide_eq_true_iff]; omega
      have p2 : (k : Int) < (n : Int) := by omega
      obtain ⟨b, off, rfl, hcap, hb, hc⟩ := SlAt.at_elem (s := 5) (n := n) (a := la) (k := lc) (c := fun i => peC (ps.getD i pe0) (us i)) H0.out hlt
      have HLT := Lib.hid hlt
      have x0 : w.cell? ⟨b, off + k * 5, none⟩ = some (.int .i64 (ps.getD k pe0).i) := by have := hc k hlt 0 (by decide); rwa [Nat.mul_comm 5 k, Nat.add_zero] at this
      obtain ⟨y, hy⟩ : ∃ y, (ps.getD k pe0).i = y := ⟨_, rfl⟩
      rw [hy] at x0
      have HY := Lib.hid hy
      have p1 : (k : Int) + 1 ≤ 1000 := by omega
      clear hc hcap hb hy hlt
      by_cases he : y = z
      · have e1 : (y == z) = true := by rw [beq_iff_eq]; exact he
        have F := Lib.hid (FY.out k w hA.out HLT.out (by rw [HY.out]; exact he) (Below.refl _ _))
        clear he hA
        go_wp2_with fail
        go_ret
        exact F.out
      · have e1 : (y == z) = false := by rw [beq_eq_false_iff_ne]; exact he
        have A2 : Hid (∀ i, i < k + 1 → ¬ (ps.getD i pe0).i = z) := Lib.hid (fun i hi => by
          by_cases e : i = k
          · subst e; rw [HY.out]; exact he
          · exact hA.out i (by omega))
        clear he hA
        go_wp2_with fail
        go_roundg (n - (k + 1))
        case measure => have := HLT.out; omega
        case rel =>
          go_light
          exact ⟨k + 1, by have := HLT.out; omega, by go_num, A2, rfl⟩
    · have d0 : decide ((k : Int) < (n : Int)) = false := by rw [decide_eq_false_iff_not]; omega
      have d1 : decide (k < n) = false := by rw [decide_eq_false_iff_not]; omega
      have F := Lib.hid (FN.out w (fun i hi => hA.out i (by omega)) (Below.refl _ _))
      clear hA
      go_wp2_with fail
      go_ret
      exact F.out
theorem rfind_sign (ps : List Pe) (us : Nat → Sv) (v : Value) (z : Int) (w : World) (h : SlAt 5 w v ps.length (fun i => peC (ps.getD i pe0) (us i))) (hn : ps.length ≤ 1000) :
    Calls Tryz.prog 39 #[v, .int .i64 z] w fun e w' => ∃ r : Int, e = .returned (.int .i64 r) ∧ decide (r < 0) = !hasB ps z ∧ Below w.heap.size w w' := by
  refine (rfind37_any ps us v z w h hn).mono fun e w' hp => ?_
  rw [has_find]
  obtain ⟨h1 | h1, b⟩ := hp
  · obtain ⟨k, _, e1, e2⟩ := h1
    refine ⟨_, e1, ?_, b⟩
    rw [e2, decide_eq_false (by omega)]; rfl
  · refine ⟨_, h1.1, ?_, b⟩
    rw [h1.2]; rfl
theorem cnt_zero {p : Pe} (h : p.gs.length = 0) : cntB p = decide (p.n = 0) := by
  unfold cntB
  rw [h]
  rw [Bool.eq_iff_iff]
  simp only [Bool.and_eq_true, Bool.not_eq_true', decide_eq_false_iff_not, decide_eq_true_iff]
  constructor
  · rintro ⟨_, h1, h2⟩
    have : min (((0 : Nat) : Int)) 1 = 0 := by decide
    rw [this] at h1
    omega
  · intro h1
    refine ⟨by decide, ?_, ?_⟩
    · rw [h1]; decide
    · rw [h1]; decide
theorem cnt_pos {p : Pe} (h : 0 < p.gs.length) : cntB p = (!decide (16 < (p.gs.length : Int)) && (!decide (p.n < 1) && !decide ((p.gs.length : Int) < p.n))) := by
  unfold cntB
  rw [show min (p.gs.length : Int) 1 = 1 by omega]
set_option maxRecDepth 100000 in
set_option maxHeartbeats 16000000 in
theorem rguards_any (ps : List Pe) (us : Nat → Sv) (v : Value) (p : Pe) (s : Sv) (w : World) (h : SlAt 5 w v ps.length (fun i => peC (ps.getD i pe0) (us i))) (hn : ps.length ≤ 1000) (hs : s.n = p.gs.length) (hg : IntsS w (.slice s.a s.n s.k) p.gs) :
    Calls Tryz.prog 25 #[v, .agg (rowF 5 (peC p s))] w fun e w' => e = .returned (.bool (cntB p && allB (grdB ps p) p.gs.length)) ∧ Below w.heap.size w w' := by
  have HP := Lib.hid h
  have FI := Lib.hid (fun z W (h : SlAt 5 W v ps.length (fun i => peC (ps.getD i pe0) (us i))) => rfind_sign ps us v z W h hn)
  obtain ⟨va, vc, rfl⟩ := h.slice
  obtain ⟨n, hpn⟩ : ∃ y, ps.length = y := ⟨_, rfl⟩
  rw [hpn] at HP FI ⊢
  obtain ⟨sa, sn, sc⟩ := s
  obtain ⟨m, hm⟩ : ∃ y, p.gs.length = y := ⟨_, rfl⟩
  obtain rfl : sn = m := hs.trans hm
  have mlen := hg.len_le
  rw [hm] at mlen
  have HI : Hid (IntsS w (.slice sa sn sc) p.gs) := Lib.hid hg
  have HM := Lib.hid hm
  have CZ := Lib.hid (fun (h : sn = 0) => cnt_zero (p := p) (by omega))
  have CP : Hid (0 < sn → cntB p = (!decide (16 < (sn : Int)) && (!decide (p.n < 1) && !decide ((sn : Int) < p.n)))) := Lib.hid (fun h => by rw [cnt_pos (by omega), hm])
  obtain ⟨cb, hcb⟩ : ∃ y, cntB p = y := ⟨_, rfl⟩
  rw [hcb] at CZ CP ⊢
  rw [hm]
  have sn0 : (0 : Int) ≤ (sn : Int) := Int.natCast_nonneg sn
  obtain ⟨pn, hpn2⟩ : ∃ y, p.n = y := ⟨_, rfl⟩
  obtain ⟨pi, hpi⟩ : ∃ y, p.i = y := ⟨_, rfl⟩
  rw [hpn2] at CZ CP
  have HPN := Lib.hid hpn2
  have HPI := Lib.hid hpi
  obtain ⟨rb, hrb⟩ : ∃ y, (cb && allB (grdB ps p) sn) = y := ⟨_, rfl⟩
  rw [hrb]
  have HR := Lib.hid hrb
  clear h hn hs hg hm hcb hpn hpn2 hpi hrb
  go_enter Tryz.func25, Tryz.ntmps25
  have B0 := Lib.hid (Below.refl w.heap.size w)
  go_upto_region 1 with fail
  obtain ⟨w1, hw1⟩ : ∃ y, w.alloc (.cells (rowF 5 (peC p ⟨sa, sn, sc⟩)) 50) = y := ⟨_, rfl⟩
  have b1 : Below w.heap.size w w1 := by rw [← hw1]; exact (Below.refl _ _).alloc (Nat.le_refl _) _
  have X1 : Hid (RowV w1 w.heap.size 50 5 (peC p ⟨sa, sn, sc⟩)) := Lib.hid (by rw [← hw1]; exact RowV.new w _ 5 (peC p ⟨sa, sn, sc⟩))
  have z1 : w.heap.size + 1 = w1.heap.size := by rw [← hw1]; exact (Array.size_push _).symm
  rw [hw1]
  (try rw [z1])
  have B1 := Lib.hid (B0.out.trans (b1.mono B0.out.size))
  clear b1 hw1 z1 B0
  have x2 : w1.cell? ⟨w.heap.size, 2, none⟩ = some (.slice sa sn sc) := pe_cell X1.out (i := 2) (by decide)
  have x3 : w1.cell? ⟨w.heap.size, 3, none⟩ = some (.int .i64 p.n) := pe_cell X1.out (i := 3) (by decide)
  rw [HPN.out] at x3
  go_upto_region 2 with fail
  go_cut [35] from 7 to 76 (fun s35 wx => s35 = .bool (!cb) ∧ w1 = wx)
  case first =>
    by_cases h0 : sn = 0
    · subst h0
      have e := Lib.hid (CZ.out rfl)
      clear CZ CP
      cases hp0 : (pn == 0)
      · obtain rfl : cb = false := by rw [e.out, decide_eq_false (by rw [beq_eq_false_iff_ne] at hp0; exact hp0)]
        have hp1 : (pn != 0) = true := by rw [bne, hp0]; rfl
        go_wp2_with fail
        go_meet
        exact ⟨rfl, rfl⟩
      · obtain rfl : cb = true := by rw [e.out, decide_eq_true (by rw [beq_iff_eq] at hp0; exact hp0)]
        have hp1 : (pn != 0) = false := by rw [bne, hp0]; rfl
        go_wp2_with fail
        go_meet
        exact ⟨rfl, rfl⟩
    · have e := Lib.hid (CP.out (by omega))
      have e0 : ((sn : Int) == 0) = false := by rw [beq_eq_false_iff_ne]; omega
      have e1 : (sn == 0) = false := by rw [beq_eq_false_iff_ne]; exact h0
      have e2 : decide ((0 : Int) < (sn : Int)) = true := by rw [decide_eq_true_iff]; omega
      have e3 : decide (0 < sn) = true := by rw [decide_eq_true_iff]; omega
      clear CZ CP h0
      cases n0 : decide (16 < (sn : Int))
      · have n0' : decide (16 < sn) = false := by have := of_decide_eq_false n0; rw [decide_eq_false_iff_not]; omega
        cases n1 : decide (pn < 1)
        · cases n2 : decide ((sn : Int) < pn)
          · obtain rfl : cb = true := by rw [e.out, n0, n1, n2]; rfl
            go_wp2_with fail
            go_meet
            exact ⟨rfl, rfl⟩
          · obtain rfl : cb = false := by rw [e.out, n0, n1, n2]; rfl
            go_wp2_with fail
            go_meet
            exact ⟨rfl, rfl⟩
        · obtain rfl : cb = false := by rw [e.out, n0, n1]; rfl
          go_wp2_with fail
          go_meet
          exact ⟨rfl, rfl⟩
      · have n0' : decide (16 < sn) = true := by have := of_decide_eq_true n0; rw [decide_eq_true_iff]; omega
        obtain rfl : cb = false := by rw [e.out, n0]; rfl
        go_wp2_with fail
        go_meet
        exact ⟨rfl, rfl⟩
  case rest =>
    obtain ⟨rfl, rfl⟩ := hcut
    clear x2 x3 CZ CP
    cases cb
    · obtain rfl : rb = false := by rw [← HR.out]; rfl
      go_wp2_with fail
      go_ret
      exact ⟨rfl, B1.out⟩
    go_wp2_with fail
    go_loopg [6] sn (fun gh s6 wx => ∃ j : Nat, j + gh = sn ∧ s6 = .int .i64 (j : Int) ∧ Hid (∀ i, i < j → grdB ps p i = true) ∧ Hid (RowV wx w.heap.size 50 5 (peC p ⟨sa, sn, sc⟩)) ∧ Hid (Below w.heap.size w wx))
    case atStart => exact ⟨0, by omega, rfl, Lib.hid (fun i hi => by omega), X1, B1⟩
    case round =>
      clear X1 B1
      obtain ⟨j, hj, rfl, hG, hX, hB⟩ := hrel
      obtain ⟨w2, rfl⟩ : ∃ y, y = wr := ⟨_, rfl⟩
      have q1 : (0 : Int) ≤ (j : Int) := Int.natCast_nonneg j
      by_cases hlt : j < sn
      · have d0 : decide ((j : Int) < (sn : Int)) = true := by rw [decide_eq_true_iff]; omega
        have d1 : decide (j < sn) = true := by rw [decide_eq_true_iff]; omega
        have j1 : (j : Int) < (sn : Int) := by omega
        have j9 : IntKind.i64.wrap ((j : Int) + 1) = (j : Int) + 1 := IntWalk.i64_in _ (by omega)
        obtain ⟨gb, go, rfl, hcap, hgb, hgc⟩ := SlAt.at_elem (s := 1) (n := sn) (a := sa) (k := sc) (c := fun i _ => .int .i64 (p.gs.getD i 0)) (by have h := HI.out; unfold IntsS at h; rw [HM.out] at h; exact h) hlt
        have HJ := Lib.hid hlt
        have XL := Lib.hid hX.out.lt
        have GB : Hid (gb < w2.heap.size) := Lib.hid (Nat.lt_of_lt_of_le hgb hB.out.size)
        have X0 : Hid (w2.cell? ⟨w.heap.size, 0, none⟩ = some (.int .i64 pi)) := Lib.hid (by rw [← HPI.out]; exact pe_cell hX.out (i := 0) (by decide))
        have X2 : Hid (w2.cell? ⟨w.heap.size, 2, none⟩ = some (.slice (some ⟨gb, go, none⟩) sn sc)) := Lib.hid (pe_cell hX.out (i := 2) (by decide))
        have Y0 : Hid (w2.cell? ⟨gb, go + j, none⟩ = some (.int .i64 (p.gs.getD j 0))) := Lib.hid ((hB.out.cell (p := ⟨gb, go + j, none⟩) hgb).trans (by have := hgc j hlt 0 (by decide); rwa [Nat.one_mul, Nat.add_zero] at this))
        have YP : Hid (∀ t, j = t + 1 → w2.cell? ⟨gb, go + t, none⟩ = some (.int .i64 (p.gs.getD t 0))) := Lib.hid (fun t ht => (hB.out.cell (p := ⟨gb, go + t, none⟩) hgb).trans (by have := hgc t (by omega) 0 (by decide); rwa [Nat.one_mul, Nat.add_zero] at this))
        have GJ : Hid (grdB ps p j = (!decide (p.gs.getD j 0 = pi) && (hasB ps (p.gs.getD j 0) && (decide (j = 0) || !decide (p.gs.getD j 0 ≤ p.gs.getD (j - 1) 0))))) := Lib.hid (by unfold grdB; rw [HPI.out])
        have GA : Hid (∀ b, grdB ps p j = b → b = false → allB (grdB ps p) sn = false) := Lib.hid (fun b h1 h2 => allB_false hlt (h1.trans h2))
        obtain ⟨z, hz⟩ : ∃ y, p.gs.getD j 0 = y := ⟨_, rfl⟩
        rw [hz] at Y0 GJ
        obtain ⟨gj, hgj⟩ : ∃ y, grdB ps p j = y := ⟨_, rfl⟩
        rw [hgj] at GJ
        have HGJ := Lib.hid hgj
        have FZ := Lib.hid (fun W (h : Below w.heap.size w W) => FI.out z W (HP.out.below h))
        obtain ⟨hb, hhb⟩ : ∃ y, hasB ps z = y := ⟨_, rfl⟩
        rw [hhb] at GJ FZ
        clear hz hgj hgc hcap hgb hlt hhb
        go_upto_region 7 with fail
        clear d0 d1
        go_cut [76] from 36 to 76 (fun s76 wx => s76 = .bool (!gj) ∧ Hid (Below w2.heap.size w2 wx))
        case first =>
          by_cases hzp : z = pi
          have e1 : (z == pi) = true := by rw [beq_iff_eq]; exact hzp
          obtain rfl : gj = false := by rw [GJ.out, hzp]; simp
          clear hzp GJ GA HGJ hG
          rotate_left
          have e1 : (z == pi) = false := by rw [beq_eq_false_iff_ne]; exact hzp
          rw [decide_eq_false hzp, Bool.not_false, Bool.true_and] at GJ
          clear hzp
          cases hb
          obtain rfl : gj = false := by rw [GJ.out]; rfl
          clear GJ GA HGJ hG
          rotate_left
          rw [Bool.true_and] at GJ
          by_cases j0 : j = 0
          subst j0
          obtain rfl : gj = true := by rw [GJ.out]; rfl
          clear GJ GA HGJ hG
          rotate_left
          obtain ⟨t, rfl⟩ : ∃ t, j = t + 1 := ⟨j - 1, by omega⟩
          have Y1 := Lib.hid (YP.out t rfl)
          rw [show decide (t + 1 = 0) = false from rfl, Bool.false_or, Nat.add_sub_cancel] at GJ
          clear YP j0
          obtain ⟨u, hu⟩ : ∃ y, p.gs.getD t 0 = y := ⟨_, rfl⟩
          rw [hu] at Y1 GJ
          clear hu
          have t0 : (0 : Int) ≤ (t : Int) := Int.natCast_nonneg t
          have t1 : (t : Int) < (sn : Int) := by have := HJ.out; omega
          have t2 : IntKind.i64.wrap (t : Int) = (t : Int) := IntWalk.i64_in _ (by omega)
          have t3 : decide ((0 : Int) < (t : Int) + 1) = true := by rw [decide_eq_true_iff]; omega
          cases hc : decide (z ≤ u)
          obtain rfl : gj = true := by rw [GJ.out]; simp [hc]
          clear GJ GA HGJ hG
          rotate_left
          obtain rfl : gj = false := by rw [GJ.out]; simp [hc]
          clear GJ GA HGJ hG
          all_goals (
            refine Tc.wp_region_plan (keep w2.heap.size) 36 [] (.fl 0 (.fl 1 (.fl 2 (.fl 3 (.fl 4 (.fl 5 (.fl 6 (.fl 7 (.fl 8 (.fl 9 (.fl 10 (.fl 11 (.fl 12 (.fl 13 (.fl 14 (.one 15 (.fl 16 (.fl 17 (.fl 18 (.fl 19 (.fl 20 (.fl 21 (.fl 22 (.fl 23 (.fl 24 (.fl 25 (.fl 26 (.fl 27 (.fl 28 (.fl 29 (.fl 30 (.fl 31 (.fl 32 (.fl 33 (.fl 34 (.fl 35 .done)))))))))))))))))))))))))))))))))))) (by kernel_rfl) (by kernel_rfl) ?_
            intro w3 b3 e3
            have BB3 : Hid (Below w2.heap.size w2 w3) := Lib.hid b3
            clear b3 e3
            refine Tc.plan_floats [0, 1, 2, 3, 4, 5, 6, 7, 8, 9, 10, 11, 12, 13, 14] [_, _, _, _, _, _, _, _, _, _, _, _, _, _, _] rfl ?_
            dsimp only [List.getElem_toArray, List.getElem_cons_succ, List.getElem_cons_zero]
            repeat (first | go_big_quiet_skip | (go_big_quiet_want; go_big_quiet_op; first | go_big_quiet_on | (refine ⟨_, fun _ _ => rfl, ?_⟩; go_big_quiet_on)) | ((try refine wpQuiet_unguard rfl ?_); refine wpQuiet_load_cell rfl 35 (.tmp 41) rfl w.heap.size 2 rfl _ Tryz.underlying35 rfl (.slice (some ⟨gb, go, none⟩) sn sc) (fun W hW => cell_keep (n := w2.heap.size) ((BB3.out.cell (p := ⟨w.heap.size, 2, none⟩) XL.out).trans X2.out) XL.out hW) ?_; simp only [Act.put, List.setIfInBounds_toArray, List.set_cons_succ, List.set_cons_zero]) | ((try refine wpQuiet_unguard rfl ?_); refine wpQuiet_load_cell rfl 3 (.tmp 44) rfl gb _ rfl _ Tryz.underlying3 rfl (.int .i64 z) (fun W hW => cell_keep (n := w2.heap.size) ((BB3.out.cell (p := ⟨gb, _, none⟩) GB.out).trans Y0.out) GB.out hW) ?_; simp only [Act.put, List.setIfInBounds_toArray, List.set_cons_succ, List.set_cons_zero]) | ((try refine wpQuiet_unguard rfl ?_); refine wpQuiet_load_cell rfl 3 (.tmp 46) rfl w.heap.size 0 rfl _ Tryz.underlying3 rfl (.int .i64 pi) (fun W hW => cell_keep (n := w2.heap.size) ((BB3.out.cell (p := ⟨w.heap.size, 0, none⟩) XL.out).trans X0.out) XL.out hW) ?_; simp only [Act.put, List.setIfInBounds_toArray, List.set_cons_succ, List.set_cons_zero]) | ((try refine wpQuiet_unguard rfl ?_); refine wpQuiet_load_cell rfl 35 (.tmp 51) rfl w.heap.size 2 rfl _ Tryz.underlying35 rfl (.slice (some ⟨gb, go, none⟩) sn sc) (fun W hW => cell_keep (n := w2.heap.size) ((BB3.out.cell (p := ⟨w.heap.size, 2, none⟩) XL.out).trans X2.out) XL.out hW) ?_; simp only [Act.put, List.setIfInBounds_toArray, List.set_cons_succ, List.set_cons_zero]) | ((try refine wpQuiet_unguard rfl ?_); refine wpQuiet_load_cell rfl 3 (.tmp 54) rfl gb _ rfl _ Tryz.underlying3 rfl (.int .i64 z) (fun W hW => cell_keep (n := w2.heap.size) ((BB3.out.cell (p := ⟨gb, _, none⟩) GB.out).trans Y0.out) GB.out hW) ?_; simp only [Act.put, List.setIfInBounds_toArray, List.set_cons_succ, List.set_cons_zero]))
            refine wpQuiet_nil ?_
            refine Tc.plan_one 15 rfl (fun K hK => ?_)
            first
            | (refine wpList_pass rfl ?_
               refine hK _ _ (keep_below (Below.refl _ _)) ?_
               have BB4 := BB3
               clear hK K BB3
               (try dsimp only [Act.put]))
            | (go_wp2_with fail
               refine (FZ.out _ (hB.out.trans (BB3.out.mono hB.out.size))).mono ?_
               rintro e w4 ⟨rr, rfl, hrr, b4⟩
               have bb := b4.mono BB3.out.size
               have BB4 := Lib.hid (BB3.out.trans bb)
               have HRR := Lib.hid hrr
               clear hrr
               go_wp2_with fail
               refine hK _ _ (keep_below bb) ?_
               clear hK K bb b4 BB3
               have hrr := HRR.out)
            refine Tc.plan_floats [16, 17, 18, 19, 20, 21, 22, 23, 24, 25, 26, 27, 28, 29, 30, 31, 32, 33, 34, 35] [_, _, _, _, _, _, _, _, _, _, _, _, _, _, _, _, _, _, _, _] rfl ?_
            dsimp only [List.getElem_toArray, List.getElem_cons_succ, List.getElem_cons_zero]
            (try simp only [List.setIfInBounds_toArray, List.set_cons_succ, List.set_cons_zero])
            repeat (first | go_big_quiet_skip | (go_big_quiet_want; go_big_quiet_op; first | go_big_quiet_on | (refine ⟨_, fun _ _ => rfl, ?_⟩; go_big_quiet_on)) | ((try refine wpQuiet_unguard rfl ?_); refine wpQuiet_load_cell rfl 35 (.tmp 63) rfl w.heap.size 2 rfl _ Tryz.underlying35 rfl (.slice (some ⟨gb, go, none⟩) sn sc) (fun W hW => cell_keep (n := w2.heap.size) ((BB4.out.cell (p := ⟨w.heap.size, 2, none⟩) XL.out).trans X2.out) XL.out hW) ?_; simp only [Act.put, List.setIfInBounds_toArray, List.set_cons_succ, List.set_cons_zero]) | ((try refine wpQuiet_unguard rfl ?_); refine wpQuiet_load_cell rfl 3 (.tmp 66) rfl gb _ rfl _ Tryz.underlying3 rfl (.int .i64 z) (fun W hW => cell_keep (n := w2.heap.size) ((BB4.out.cell (p := ⟨gb, _, none⟩) GB.out).trans Y0.out) GB.out hW) ?_; simp only [Act.put, List.setIfInBounds_toArray, List.set_cons_succ, List.set_cons_zero]) | ((try refine wpQuiet_unguard rfl ?_); refine wpQuiet_load_cell rfl 35 (.tmp 68) rfl w.heap.size 2 rfl _ Tryz.underlying35 rfl (.slice (some ⟨gb, go, none⟩) sn sc) (fun W hW => cell_keep (n := w2.heap.size) ((BB4.out.cell (p := ⟨w.heap.size, 2, none⟩) XL.out).trans X2.out) XL.out hW) ?_; simp only [Act.put, List.setIfInBounds_toArray, List.set_cons_succ, List.set_cons_zero]) | ((try refine wpQuiet_unguard rfl ?_); refine wpQuiet_load_cell rfl 3 (.tmp 72) rfl gb _ rfl _ Tryz.underlying3 rfl (.int .i64 u) (fun W hW => cell_keep (n := w2.heap.size) ((BB4.out.cell (p := ⟨gb, _, none⟩) GB.out).trans Y1.out) GB.out hW) ?_; simp only [Act.put, List.setIfInBounds_toArray, List.set_cons_succ, List.set_cons_zero]))
            refine wpQuiet_nil ?_
            refine Tc.plan_done (l := []) rfl (fun K hK => ?_)
            go_wp2_with fail
            go_meet
            exact ⟨rfl, BB4⟩)
        case rest =>
          rename World => w3
          obtain ⟨rfl, b3⟩ := hcut
          have B3 := Lib.hid (hB.out.trans (b3.out.mono hB.out.size))
          have X3 := Lib.hid (hX.out.below b3.out)
          clear FZ GJ Y0 YP X0 X2 b3 hB hX
          cases gj
          · obtain rfl : rb = false := by rw [← HR.out, GA.out _ HGJ.out rfl]; rfl
            clear GA hG
            go_wp2_with fail
            go_ret
            exact ⟨rfl, B3.out⟩
          · have GN : Hid (∀ i, i < j + 1 → grdB ps p i = true) := Lib.hid (fun i hi => by
              by_cases e : i = j
              · subst e; exact HGJ.out
              · exact hG.out i (by omega))
            clear GA hG
            go_wp2_with fail
            go_roundg (sn - (j + 1))
            case measure => have := HJ.out; omega
            case rel =>
              go_light
              exact ⟨j + 1, by have := HJ.out; omega, by go_num, GN, X3, B3⟩
      · have d0 : decide ((j : Int) < (sn : Int)) = false := by rw [decide_eq_false_iff_not]; omega
        have d1 : decide (j < sn) = false := by rw [decide_eq_false_iff_not]; omega
        obtain rfl : rb = true := by rw [← HR.out, allB_true (fun i hi => hG.out i (by omega))]; rfl
        clear hG hlt hX
        go_wp2_with fail
        go_ret
        exact ⟨rfl, hB.out⟩
theorem okR {ps : List Pe} {k : Nat} {p : Pe} (h : ps.getD k pe0 = p) : okPe ps k = (!decide (p.i < 0) && (!decide (64 ≤ p.i) && ((decide (k = 0) || !decide (p.i ≤ (ps.getD (k - 1) pe0).i)) && (elemB p.r && ((cntB p && allB (grdB ps p) p.gs.length) && (!decide (p.c < 0) && !decide (1048576 < p.c))))))) := by
  unfold okPe hdPe
  rw [h]
  generalize decide (p.i < 0) = a
  generalize decide (64 ≤ p.i) = b
  generalize (decide (k = 0) || !decide (p.i ≤ (ps.getD (k - 1) pe0).i)) = c
  generalize elemB p.r = d
  generalize cntB p = e
  generalize allB (grdB ps p) p.gs.length = f
  generalize decide (p.c < 0) = g
  generalize decide (1048576 < p.c) = i
  cases a <;> cases b <;> cases c <;> cases d <;> cases e <;> cases f <;> cases g <;> cases i <;> rfl
set_option maxRecDepth 100000 in
set_option maxHeartbeats 16000000 in
theorem rcheck37_any (ps : List Pe) (us : Nat → Sv) (v : Value) (w : World) (h : PesS w v ps us) (hn : ps.length ≤ 1000) :
    Calls Tryz.prog 11 #[v] w fun e w' => e = .returned (.int .i64 (if chkPe ps then 0 else 371)) ∧ Below w.heap.size w w' := by
  obtain ⟨la, lc, rfl⟩ := h.1.slice
  have FT : Hid ((∀ i, i < ps.length → okPe ps i = true) → (if chkPe ps then (0 : Int) else 371) = 0) := Lib.hid (fun h => by unfold chkPe; rw [allB_true h, if_pos rfl])
  have FF : Hid (∀ i, i < ps.length → okPe ps i = false → (if chkPe ps then (0 : Int) else 371) = 371) := Lib.hid (fun i hi h => by unfold chkPe; rw [allB_false hi h, if_neg Bool.false_ne_true])
  obtain ⟨R, hR⟩ : ∃ y, (if chkPe ps then (0 : Int) else 371) = y := ⟨_, rfl⟩
  rw [hR] at FT FF ⊢
  obtain ⟨n, hln⟩ : ∃ y, ps.length = y := ⟨_, rfl⟩
  have HN := Lib.hid hln
  have H0 : Hid (PesS w (.slice la n lc) ps us) := Lib.hid (by rw [← hln]; exact h)
  have GC : Hid (∀ (p : Pe) (s : Sv) (W : World) , Below w.heap.size w W → s.n = p.gs.length → IntsS W (.slice s.a s.n s.k) p.gs → Calls Tryz.prog 25 #[.slice la n lc, .agg (rowF 5 (peC p s))] W fun e w' => e = .returned (.bool (cntB p && allB (grdB ps p) p.gs.length)) ∧ Below W.heap.size W w') :=
    Lib.hid (fun p s W hb h1 h2 => rguards_any ps us _ p s W (by have g := (h.below hb).1; rw [hln] at g ⊢; exact g) hn h1 h2)
  have qn : (n : Int) ≤ 1000 := by omega
  rw [hln] at FT FF ⊢
  clear h hn hR hln
  go_enter Tryz.func11, Tryz.ntmps11
  go_wp2_with fail
  go_loopg [3] n (fun g s3 wx => ∃ k : Nat, k + g = n ∧ s3 = .int .i64 (k : Int) ∧ Hid (∀ i, i < k → okPe ps i = true) ∧ Hid (Below w.heap.size w wx))
  case atStart => exact ⟨0, by omega, rfl, Lib.hid (fun i hi => by omega), Lib.hid (Below.refl _ _)⟩
  case round =>
    obtain ⟨k, hk, rfl, hA, hB⟩ := hrel
    obtain ⟨w3, rfl⟩ : ∃ y, y = wr := ⟨_, rfl⟩
    have q0 : (0 : Int) ≤ (k : Int) := Int.natCast_nonneg k
    by_cases hlt : k < n
    · have d0 : decide ((k : Int) < (n : Int)) = true := by rw [decide_eq_true_iff]; omega
      have d1 : decide (k < n) = true := by rw [decide_eq_true_iff]; omega
      obtain ⟨b, off, rfl, hcap, hb, hc⟩ := SlAt.at_elem (s := 5) (n := n) (a := la) (k := lc) (c := fun i => peC (ps.getD i pe0) (us i)) (by have h := H0.out.1; rw [HN.out] at h; exact h) hlt
      have HLT := Lib.hid hlt
      have HCK : Hid (∀ j, j < 5 → w3.cell? ⟨b, off + 5 * k + j, none⟩ = some (peC (ps.getD k pe0) (us k) j)) := Lib.hid (fun j hj => (hB.out.cell (p := ⟨b, off + 5 * k + j, none⟩) hb).trans (hc k HLT.out j hj))
      have HPV := Lib.hid (fun (i : Nat) (hi : i < n) => hc i hi 0 (by decide))
      have HBW := Lib.hid hb
      have GI := Lib.hid (H0.out.2 k (by rw [HN.out]; exact hlt))
      have OF := Lib.hid (FF.out k HLT.out)
      have OA : Hid (okPe ps k = true → ∀ i, i < k + 1 → okPe ps i = true) := Lib.hid (fun h i hi => by
        by_cases e : i = k
        · subst e; exact h
        · exact hA.out i (by omega))
      obtain ⟨p, hp⟩ : ∃ y, ps.getD k pe0 = y := ⟨_, rfl⟩
      obtain ⟨s, hs⟩ : ∃ y, us k = y := ⟨_, rfl⟩
      have HD := Lib.hid (okR hp)
      obtain ⟨ok, hok⟩ : ∃ y, okPe ps k = y := ⟨_, rfl⟩
      rw [hok] at OF OA HD
      rw [hp, hs] at HCK GI
      have p1 : (k : Int) + 1 ≤ 1000 := by omega
      clear hc hcap hb hp hs hlt hA hok
      go_upto_region 4 with fail
      clear d0 d1
      go_wp2_with (first | ((with_reducible (show wpList _ _ _ (Oper.mk (some 14) _ _ _ _ _ :: _) _ _)); refine Hid.out ?_))
      refine Lib.hid ?_
      refine wpList_load_elem rfl 50 (.tmp 13) rfl b (off + k * 5) rfl 5 off k (by rw [Nat.mul_comm]) (peC p s) HCK.out _ Tryz.underlying50 rfl (by kernel_rfl) ?_
      have B3 := hB
      clear hB HCK
      have Zr := Lib.hid (RowV.new w3 50 5 (peC pe0 pe00))
      go_upto_region 5 with ((with_reducible (show wpList _ _ _ (Oper.mk none _ _ _ _ _ :: _) _ _)); refine wpList_store_rowV (o := ⟨none, .store 50 (.tmp 4) (.tmp 14), _, _, _, _⟩) rfl 50 (.tmp 4) (.tmp 14) rfl w3.heap.size rfl 5 50 _ (peC p s) rfl Zr.out (by kernel_rfl) (fun j _ => peC_one p s j) ?_; intro w4 X4 o4)
      have b4 : Below w3.heap.size w3 w4 := ((Below.refl _ _).alloc (Nat.le_refl _) _).trans (o4.out.below (Nat.le_refl _) (by rw [World.size_alloc]; omega))
      have B4 := Lib.hid (B3.out.trans (b4.mono B3.out.size))
      clear b4 o4 Zr B3
      have x0 : w4.cell? ⟨w3.heap.size, 0, none⟩ = some (.int .i64 p.i) := pe_cell X4.out (i := 0) (by decide)
      have x1 : w4.cell? ⟨w3.heap.size, 1, none⟩ = some (.int .i64 p.r) := pe_cell X4.out (i := 1) (by decide)
      have x4 : w4.cell? ⟨w3.heap.size, 4, none⟩ = some (.int .i64 p.c) := pe_cell X4.out (i := 4) (by decide)
      have CK : Hid (∀ W, Calls Tryz.prog 24 #[.int .i64 p.r] W fun e w' => e = .returned (.int .i64 (if elemB p.r then 0 else 40)) ∧ Below W.heap.size W w') := Lib.hid (fun W => (rcheck_any p.r W).mono fun e w' ⟨h, hw⟩ => ⟨h, by rw [← hw]; exact Below.refl _ _⟩)
      have XP : Hid (∀ j, k = j + 1 → w4.cell? ⟨b, off + 5 * j, none⟩ = some (.int .i64 (ps.getD j pe0).i)) := Lib.hid (fun j hj => (B4.out.cell (p := ⟨b, off + 5 * j, none⟩) HBW.out).trans (HPV.out j (by have := HLT.out; omega)))
      have GK : Hid (∀ W, Below w.heap.size w W → Calls Tryz.prog 25 #[.slice (some ⟨b, off, none⟩) n lc, .agg (rowF 5 (peC p s))] W fun e w' => e = .returned (.bool (cntB p && allB (grdB ps p) p.gs.length)) ∧ Below W.heap.size W w') := Lib.hid (fun W hb => GC.out p s W hb GI.out.1 (GI.out.2.below hb))
      obtain ⟨gg, hgg⟩ : ∃ y, (cntB p && allB (grdB ps p) p.gs.length) = y := ⟨_, rfl⟩
      rw [hgg] at GK HD
      clear hgg GI
      obtain ⟨pi, hpi⟩ : ∃ y, p.i = y := ⟨_, rfl⟩
      obtain ⟨pr, hpr⟩ : ∃ y, p.r = y := ⟨_, rfl⟩
      obtain ⟨pc, hpc⟩ : ∃ y, p.c = y := ⟨_, rfl⟩
      rw [hpi] at x0 HD
      rw [hpr] at x1 CK HD
      rw [hpc] at x4 HD
      clear hpi hpr hpc
      obtain ⟨ev, hev⟩ : ∃ y, elemB pr = y := ⟨_, rfl⟩
      rw [hev] at CK HD
      clear hev
      dsimp only [Act.put]
      go_cut [3, 59] from 15 to 59 (fun s3 s59 wx => s3 = .int .i64 (k : Int) ∧ s59 = .bool (!ok) ∧ Hid (Below w.heap.size w wx))
      case first =>
        have LX := Lib.hid X4.out.lt
        have LB : Hid (b < w4.heap.size) := Lib.hid (by have h1 := HBW.out; have h2 := B4.out.size; omega)
        have X0 := Lib.hid x0
        have X1 := Lib.hid x1
        have X4c := Lib.hid x4
        clear x0 x1 x4
        by_cases k0 : k = 0
        · subst k0
          rw [show decide ((0 : Nat) = 0) = true from rfl, Bool.true_or, Bool.true_and] at HD
          clear XP HPV
          cases n0 : decide (pi < 0)
          rotate_left
          obtain rfl : ok = false := by rw [HD.out]; simp [n0]
          clear HD OF OA
          rotate_right
          cases n1 : decide (64 ≤ pi)
          rotate_left
          obtain rfl : ok = false := by rw [HD.out]; simp [n0, n1]
          clear HD OF OA
          rotate_right
          cases ev
          obtain rfl : ok = false := by rw [HD.out]; simp [n0, n1]
          clear HD OF OA
          rotate_left
          cases gg
          obtain rfl : ok = false := by rw [HD.out]; simp [n0, n1]
          clear HD OF OA
          rotate_left
          cases n4 : decide (pc < 0)
          rotate_left
          obtain rfl : ok = false := by rw [HD.out]; simp [n0, n1, n4]
          clear HD OF OA
          rotate_right
          cases n5 : decide (1048576 < pc)
          rotate_left
          obtain rfl : ok = false := by rw [HD.out]; simp [n0, n1, n4, n5]
          clear HD OF OA
          rotate_right
          obtain rfl : ok = true := by rw [HD.out]; simp [n0, n1, n4, n5]
          clear HD OF OA
          all_goals (
            refine Tc.wp_region_plan (keep w4.heap.size) 45 [] (.fl 0 (.fl 1 (.fl 2 (.fl 3 (.fl 4 (.fl 5 (.fl 6 (.fl 7 (.fl 8 (.fl 9 (.fl 10 (.fl 11 (.fl 12 (.fl 13 (.fl 14 (.fl 15 (.fl 16 (.fl 17 (.fl 18 (.fl 19 (.fl 20 (.fl 21 (.fl 22 (.fl 23 (.fl 24 (.fl 25 (.one 26 (.fl 27 (.fl 28 (.fl 29 (.fl 30 (.fl 31 (.one 32 (.fl 33 (.fl 34 (.fl 35 (.fl 36 (.fl 37 (.fl 38 (.fl 39 (.fl 40 (.fl 41 (.fl 42 (.fl 43 (.fl 44 .done))))))))))))))))))))))))))))))))))))))))))))) (by kernel_rfl) (by kernel_rfl) ?_
            intro w5 b5 e5
            have BB5 : Hid (Below w4.heap.size w4 w5) := Lib.hid b5
            clear b5 e5
            refine Tc.plan_floats [0, 1, 2, 3, 4, 5, 6, 7, 8, 9, 10, 11, 12, 13, 14, 15, 16, 17, 18, 19, 20, 21, 22, 23, 24, 25] [_, _, _, _, _, _, _, _, _, _, _, _, _, _, _, _, _, _, _, _, _, _, _, _, _, _] rfl ?_
            dsimp only [List.getElem_toArray, List.getElem_cons_succ, List.getElem_cons_zero]
            repeat (first | go_big_quiet_skip | (go_big_quiet_want; go_big_quiet_op; first | go_big_quiet_on | (refine ⟨_, fun _ _ => rfl, ?_⟩; go_big_quiet_on)) | ((try refine wpQuiet_unguard rfl ?_); refine wpQuiet_load_cell rfl 3 (.tmp 15) rfl w3.heap.size 0 rfl _ Tryz.underlying3 rfl (.int .i64 pi) (fun W hW => cell_keep (n := w4.heap.size) ((BB5.out.cell (p := ⟨w3.heap.size, 0, none⟩) LX.out).trans X0.out) LX.out hW) ?_; simp only [Act.put, List.setIfInBounds_toArray, List.set_cons_succ, List.set_cons_zero]) | ((try refine wpQuiet_unguard rfl ?_); refine wpQuiet_load_cell rfl 3 (.tmp 19) rfl w3.heap.size 0 rfl _ Tryz.underlying3 rfl (.int .i64 pi) (fun W hW => cell_keep (n := w4.heap.size) ((BB5.out.cell (p := ⟨w3.heap.size, 0, none⟩) LX.out).trans X0.out) LX.out hW) ?_; simp only [Act.put, List.setIfInBounds_toArray, List.set_cons_succ, List.set_cons_zero]) | ((try refine wpQuiet_unguard rfl ?_); refine wpQuiet_load_cell rfl 3 (.tmp 27) rfl w3.heap.size 0 rfl _ Tryz.underlying3 rfl (.int .i64 pi) (fun W hW => cell_keep (n := w4.heap.size) ((BB5.out.cell (p := ⟨w3.heap.size, 0, none⟩) LX.out).trans X0.out) LX.out hW) ?_; simp only [Act.put, List.setIfInBounds_toArray, List.set_cons_succ, List.set_cons_zero]) | ((try refine wpQuiet_unguard rfl ?_); refine wpQuiet_load_cell rfl 3 (.tmp 33) rfl b (off + j * 5) rfl _ Tryz.underlying3 rfl (.int .i64 pv) (fun W hW => cell_keep (n := w4.heap.size) ((BB5.out.cell (p := ⟨b, (off + j * 5), none⟩) LB.out).trans XQ.out) LB.out hW) ?_; simp only [Act.put, List.setIfInBounds_toArray, List.set_cons_succ, List.set_cons_zero]) | ((try refine wpQuiet_unguard rfl ?_); refine wpQuiet_load_cell rfl 3 (.tmp 39) rfl w3.heap.size 1 rfl _ Tryz.underlying3 rfl (.int .i64 pr) (fun W hW => cell_keep (n := w4.heap.size) ((BB5.out.cell (p := ⟨w3.heap.size, 1, none⟩) LX.out).trans X1.out) LX.out hW) ?_; simp only [Act.put, List.setIfInBounds_toArray, List.set_cons_succ, List.set_cons_zero]))
            refine wpQuiet_nil ?_
            refine Tc.plan_one 26 rfl (fun K hK => ?_)
            first
            | (refine wpList_pass rfl ?_
               refine hK _ _ (keep_below (Below.refl _ _)) ?_
               have BB6 := BB5
               clear hK K BB5
               (try dsimp only [Act.put]))
            | (go_wp2_with fail
               refine (CK.out _).mono ?_
               rintro e wq ⟨rfl, bq⟩
               have bb := bq.mono BB5.out.size
               have BB6 := Lib.hid (BB5.out.trans bb)
               go_wp2_with fail
               refine hK _ _ (keep_below bb) ?_
               clear hK K bb bq BB5)
            refine Tc.plan_floats [27, 28, 29, 30, 31] [_, _, _, _, _] rfl ?_
            dsimp only [List.getElem_toArray, List.getElem_cons_succ, List.getElem_cons_zero]
            (try simp only [List.setIfInBounds_toArray, List.set_cons_succ, List.set_cons_zero])
            repeat (first | go_big_quiet_skip | (go_big_quiet_want; go_big_quiet_op; first | go_big_quiet_on | (refine ⟨_, fun _ _ => rfl, ?_⟩; go_big_quiet_on)) | ((try refine wpQuiet_unguard rfl ?_); refine wpQuiet_load_part rfl 50 (.tmp 4) rfl w3.heap.size 0 rfl 5 5 _ (peC p s) (peC p s) (fun W hW => row_keep (n := w4.heap.size) (X4.out.below BB6.out) LX.out hW) (by decide) (fun j _ => by rw [Nat.zero_add]) _ Tryz.underlying50 rfl (by kernel_rfl) ?_; simp only [Act.put, List.setIfInBounds_toArray, List.set_cons_succ, List.set_cons_zero]))
            refine wpQuiet_nil ?_
            refine Tc.plan_one 32 rfl (fun K hK => ?_)
            first
            | (refine wpList_pass rfl ?_
               refine hK _ _ (keep_below (Below.refl _ _)) ?_
               have BB7 := BB6
               clear hK K BB6
               (try dsimp only [Act.put]))
            | (go_wp2_with fail
               refine (GK.out _ (B4.out.trans (BB6.out.mono B4.out.size))).mono ?_
               rintro e wq ⟨rfl, bq⟩
               have bb := bq.mono BB6.out.size
               have BB7 := Lib.hid (BB6.out.trans bb)
               go_wp2_with fail
               refine hK _ _ (keep_below bb) ?_
               clear hK K bb bq BB6)
            refine Tc.plan_floats [33, 34, 35, 36, 37, 38, 39, 40, 41, 42, 43, 44] [_, _, _, _, _, _, _, _, _, _, _, _] rfl ?_
            dsimp only [List.getElem_toArray, List.getElem_cons_succ, List.getElem_cons_zero]
            (try simp only [List.setIfInBounds_toArray, List.set_cons_succ, List.set_cons_zero])
            repeat (first | go_big_quiet_skip | (go_big_quiet_want; go_big_quiet_op; first | go_big_quiet_on | (refine ⟨_, fun _ _ => rfl, ?_⟩; go_big_quiet_on)) | ((try refine wpQuiet_unguard rfl ?_); refine wpQuiet_load_cell rfl 3 (.tmp 51) rfl w3.heap.size 4 rfl _ Tryz.underlying3 rfl (.int .i64 pc) (fun W hW => cell_keep (n := w4.heap.size) ((BB7.out.cell (p := ⟨w3.heap.size, 4, none⟩) LX.out).trans X4c.out) LX.out hW) ?_; simp only [Act.put, List.setIfInBounds_toArray, List.set_cons_succ, List.set_cons_zero]) | ((try refine wpQuiet_unguard rfl ?_); refine wpQuiet_load_cell rfl 3 (.tmp 56) rfl w3.heap.size 4 rfl _ Tryz.underlying3 rfl (.int .i64 pc) (fun W hW => cell_keep (n := w4.heap.size) ((BB7.out.cell (p := ⟨w3.heap.size, 4, none⟩) LX.out).trans X4c.out) LX.out hW) ?_; simp only [Act.put, List.setIfInBounds_toArray, List.set_cons_succ, List.set_cons_zero]))
            refine wpQuiet_nil ?_
            refine Tc.plan_done (l := []) rfl (fun K hK => ?_)
            go_wp2_with fail
            go_meet
            exact ⟨rfl, rfl, Lib.hid (B4.out.trans (BB7.out.mono B4.out.size))⟩)
        · obtain ⟨j, rfl⟩ : ∃ j, k = j + 1 := ⟨k - 1, by omega⟩
          have xp := XP.out j rfl
          rw [show off + 5 * j = off + j * 5 by omega] at xp
          rw [show decide (j + 1 = 0) = false from rfl, Bool.false_or, Nat.add_sub_cancel] at HD
          obtain ⟨pv, hpv⟩ : ∃ y, (ps.getD j pe0).i = y := ⟨_, rfl⟩
          rw [hpv] at xp HD
          have j0 : (0 : Int) ≤ (j : Int) := Int.natCast_nonneg j
          have j1 : (j : Int) < (n : Int) := by have := HLT.out; omega
          have j2 : IntKind.i64.wrap (j : Int) = (j : Int) := IntWalk.i64_in _ (by omega)
          have d3 : decide ((0 : Int) < (j : Int) + 1) = true := by rw [decide_eq_true_iff]; omega
          have XQ := Lib.hid xp
          clear k0 XP HPV hpv xp
          cases n0 : decide (pi < 0)
          rotate_left
          obtain rfl : ok = false := by rw [HD.out]; simp [n0]
          clear HD OF OA
          rotate_right
          cases n1 : decide (64 ≤ pi)
          rotate_left
          obtain rfl : ok = false := by rw [HD.out]; simp [n0, n1]
          clear HD OF OA
          rotate_right
          cases n3 : decide (pi ≤ pv)
          rotate_left
          obtain rfl : ok = false := by rw [HD.out]; simp [n0, n1, n3]
          clear HD OF OA
          rotate_right
          cases ev
          obtain rfl : ok = false := by rw [HD.out]; simp [n0, n1, n3]
          clear HD OF OA
          rotate_left
          cases gg
          obtain rfl : ok = false := by rw [HD.out]; simp [n0, n1, n3]
          clear HD OF OA
          rotate_left
          cases n4 : decide (pc < 0)
          rotate_left
          obtain rfl : ok = false := by rw [HD.out]; simp [n0, n1, n4, n3]
          clear HD OF OA
          rotate_right
          cases n5 : decide (1048576 < pc)
          rotate_left
          obtain rfl : ok = false := by rw [HD.out]; simp [n0, n1, n4, n5, n3]
          clear HD OF OA
          rotate_right
          obtain rfl : ok = true := by rw [HD.out]; simp [n0, n1, n4, n5, n3]
          clear HD OF OA
          all_goals (
            refine Tc.wp_region_plan (keep w4.heap.size) 45 [] (.fl 0 (.fl 1 (.fl 2 (.fl 3 (.fl 4 (.fl 5 (.fl 6 (.fl 7 (.fl 8 (.fl 9 (.fl 10 (.fl 11 (.fl 12 (.fl 13 (.fl 14 (.fl 15 (.fl 16 (.fl 17 (.fl 18 (.fl 19 (.fl 20 (.fl 21 (.fl 22 (.fl 23 (.fl 24 (.fl 25 (.one 26 (.fl 27 (.fl 28 (.fl 29 (.fl 30 (.fl 31 (.one 32 (.fl 33 (.fl 34 (.fl 35 (.fl 36 (.fl 37 (.fl 38 (.fl 39 (.fl 40 (.fl 41 (.fl 42 (.fl 43 (.fl 44 .done))))))))))))))))))))))))))))))))))))))))))))) (by kernel_rfl) (by kernel_rfl) ?_
            intro w5 b5 e5
            have BB5 : Hid (Below w4.heap.size w4 w5) := Lib.hid b5
            clear b5 e5
            refine Tc.plan_floats [0, 1, 2, 3, 4, 5, 6, 7, 8, 9, 10, 11, 12, 13, 14, 15, 16, 17, 18, 19, 20, 21, 22, 23, 24, 25] [_, _, _, _, _, _, _, _, _, _, _, _, _, _, _, _, _, _, _, _, _, _, _, _, _, _] rfl ?_
            dsimp only [List.getElem_toArray, List.getElem_cons_succ, List.getElem_cons_zero]
            repeat (first | go_big_quiet_skip | (go_big_quiet_want; go_big_quiet_op; first | go_big_quiet_on | (refine ⟨_, fun _ _ => rfl, ?_⟩; go_big_quiet_on)) | ((try refine wpQuiet_unguard rfl ?_); refine wpQuiet_load_cell rfl 3 (.tmp 15) rfl w3.heap.size 0 rfl _ Tryz.underlying3 rfl (.int .i64 pi) (fun W hW => cell_keep (n := w4.heap.size) ((BB5.out.cell (p := ⟨w3.heap.size, 0, none⟩) LX.out).trans X0.out) LX.out hW) ?_; simp only [Act.put, List.setIfInBounds_toArray, List.set_cons_succ, List.set_cons_zero]) | ((try refine wpQuiet_unguard rfl ?_); refine wpQuiet_load_cell rfl 3 (.tmp 19) rfl w3.heap.size 0 rfl _ Tryz.underlying3 rfl (.int .i64 pi) (fun W hW => cell_keep (n := w4.heap.size) ((BB5.out.cell (p := ⟨w3.heap.size, 0, none⟩) LX.out).trans X0.out) LX.out hW) ?_; simp only [Act.put, List.setIfInBounds_toArray, List.set_cons_succ, List.set_cons_zero]) | ((try refine wpQuiet_unguard rfl ?_); refine wpQuiet_load_cell rfl 3 (.tmp 27) rfl w3.heap.size 0 rfl _ Tryz.underlying3 rfl (.int .i64 pi) (fun W hW => cell_keep (n := w4.heap.size) ((BB5.out.cell (p := ⟨w3.heap.size, 0, none⟩) LX.out).trans X0.out) LX.out hW) ?_; simp only [Act.put, List.setIfInBounds_toArray, List.set_cons_succ, List.set_cons_zero]) | ((try refine wpQuiet_unguard rfl ?_); refine wpQuiet_load_cell rfl 3 (.tmp 33) rfl b (off + j * 5) rfl _ Tryz.underlying3 rfl (.int .i64 pv) (fun W hW => cell_keep (n := w4.heap.size) ((BB5.out.cell (p := ⟨b, (off + j * 5), none⟩) LB.out).trans XQ.out) LB.out hW) ?_; simp only [Act.put, List.setIfInBounds_toArray, List.set_cons_succ, List.set_cons_zero]) | ((try refine wpQuiet_unguard rfl ?_); refine wpQuiet_load_cell rfl 3 (.tmp 39) rfl w3.heap.size 1 rfl _ Tryz.underlying3 rfl (.int .i64 pr) (fun W hW => cell_keep (n := w4.heap.size) ((BB5.out.cell (p := ⟨w3.heap.size, 1, none⟩) LX.out).trans X1.out) LX.out hW) ?_; simp only [Act.put, List.setIfInBounds_toArray, List.set_cons_succ, List.set_cons_zero]))
            refine wpQuiet_nil ?_
            refine Tc.plan_one 26 rfl (fun K hK => ?_)
            first
            | (refine wpList_pass rfl ?_
               refine hK _ _ (keep_below (Below.refl _ _)) ?_
               have BB6 := BB5
               clear hK K BB5
               (try dsimp only [Act.put]))
            | (go_wp2_with fail
               refine (CK.out _).mono ?_
               rintro e wq ⟨rfl, bq⟩
               have bb := bq.mono BB5.out.size
               have BB6 := Lib.hid (BB5.out.trans bb)
               go_wp2_with fail
               refine hK _ _ (keep_below bb) ?_
               clear hK K bb bq BB5)
            refine Tc.plan_floats [27, 28, 29, 30, 31] [_, _, _, _, _] rfl ?_
            dsimp only [List.getElem_toArray, List.getElem_cons_succ, List.getElem_cons_zero]
            (try simp only [List.setIfInBounds_toArray, List.set_cons_succ, List.set_cons_zero])
            repeat (first | go_big_quiet_skip | (go_big_quiet_want; go_big_quiet_op; first | go_big_quiet_on | (refine ⟨_, fun _ _ => rfl, ?_⟩; go_big_quiet_on)) | ((try refine wpQuiet_unguard rfl ?_); refine wpQuiet_load_part rfl 50 (.tmp 4) rfl w3.heap.size 0 rfl 5 5 _ (peC p s) (peC p s) (fun W hW => row_keep (n := w4.heap.size) (X4.out.below BB6.out) LX.out hW) (by decide) (fun j _ => by rw [Nat.zero_add]) _ Tryz.underlying50 rfl (by kernel_rfl) ?_; simp only [Act.put, List.setIfInBounds_toArray, List.set_cons_succ, List.set_cons_zero]))
            refine wpQuiet_nil ?_
            refine Tc.plan_one 32 rfl (fun K hK => ?_)
            first
            | (refine wpList_pass rfl ?_
               refine hK _ _ (keep_below (Below.refl _ _)) ?_
               have BB7 := BB6
               clear hK K BB6
               (try dsimp only [Act.put]))
            | (go_wp2_with fail
               refine (GK.out _ (B4.out.trans (BB6.out.mono B4.out.size))).mono ?_
               rintro e wq ⟨rfl, bq⟩
               have bb := bq.mono BB6.out.size
               have BB7 := Lib.hid (BB6.out.trans bb)
               go_wp2_with fail
               refine hK _ _ (keep_below bb) ?_
               clear hK K bb bq BB6)
            refine Tc.plan_floats [33, 34, 35, 36, 37, 38, 39, 40, 41, 42, 43, 44] [_, _, _, _, _, _, _, _, _, _, _, _] rfl ?_
            dsimp only [List.getElem_toArray, List.getElem_cons_succ, List.getElem_cons_zero]
            (try simp only [List.setIfInBounds_toArray, List.set_cons_succ, List.set_cons_zero])
            repeat (first | go_big_quiet_skip | (go_big_quiet_want; go_big_quiet_op; first | go_big_quiet_on | (refine ⟨_, fun _ _ => rfl, ?_⟩; go_big_quiet_on)) | ((try refine wpQuiet_unguard rfl ?_); refine wpQuiet_load_cell rfl 3 (.tmp 51) rfl w3.heap.size 4 rfl _ Tryz.underlying3 rfl (.int .i64 pc) (fun W hW => cell_keep (n := w4.heap.size) ((BB7.out.cell (p := ⟨w3.heap.size, 4, none⟩) LX.out).trans X4c.out) LX.out hW) ?_; simp only [Act.put, List.setIfInBounds_toArray, List.set_cons_succ, List.set_cons_zero]) | ((try refine wpQuiet_unguard rfl ?_); refine wpQuiet_load_cell rfl 3 (.tmp 56) rfl w3.heap.size 4 rfl _ Tryz.underlying3 rfl (.int .i64 pc) (fun W hW => cell_keep (n := w4.heap.size) ((BB7.out.cell (p := ⟨w3.heap.size, 4, none⟩) LX.out).trans X4c.out) LX.out hW) ?_; simp only [Act.put, List.setIfInBounds_toArray, List.set_cons_succ, List.set_cons_zero]))
            refine wpQuiet_nil ?_
            refine Tc.plan_done (l := []) rfl (fun K hK => ?_)
            go_wp2_with fail
            go_meet
            exact ⟨rfl, rfl, Lib.hid (B4.out.trans (BB7.out.mono B4.out.size))⟩)
      case rest =>
        rename World => w5
        obtain ⟨rfl, rfl, B5⟩ := hcut
        clear CK GK HD HPV XP B4 X4 x0 x1 x4
        cases ok
        · skip
          obtain rfl : R = 371 := OF.out rfl
          clear OF OA
          go_wp2_with fail
          go_ret
          exact ⟨rfl, B5.out⟩
        have AN := Lib.hid (OA.out rfl)
        clear OA OF
        go_wp2_with fail
        go_roundg (n - (k + 1))
        case measure => have := HLT.out; omega
        case rel =>
          go_light
          exact ⟨k + 1, by have := HLT.out; omega, by go_num, AN, B5⟩
    · have d0 : decide ((k : Int) < (n : Int)) = false := by rw [decide_eq_false_iff_not]; omega
      have d1 : decide (k < n) = false := by rw [decide_eq_false_iff_not]; omega
      obtain rfl : R = 0 := FT.out (fun i hi => hA.out i (by omega))
      clear hA
      go_wp2_with fail
      go_ret
      exact ⟨rfl, hB.out⟩
end Go.Proofs.YtmmppibbglacdaaGreatDoor
