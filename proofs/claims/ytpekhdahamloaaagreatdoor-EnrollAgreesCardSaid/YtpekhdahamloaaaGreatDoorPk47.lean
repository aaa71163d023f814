/- Package people: verify. -/
import Derived.Test.YtpekhdahamloaaaGreatDoorPk46
import Derived.Test.YtpekhdahamloaaaGreatDoorPk42
set_option linter.unusedVariables false
set_option linter.unusedSimpArgs false
namespace Go.Proofs.YtpekhdahamloaaaGreatDoor
open Go.RowKit Cod
def VerPost (r : Int × Li) (w : World) (e : Ending) (w' : World) : Prop := (if r.1 = 0 then e = .returned (liA r.2) else e = pan r.1) ∧ Below w.heap.size w w'
theorem VerPost.yes {r : Int × Li} {l : Li} {w w' : World} (h : r = (0, l)) (b : Below w.heap.size w w') : VerPost r w (.returned (liA l)) w' := by subst h; exact ⟨rfl, b⟩
theorem VerPost.no {r : Int × Li} {l : Li} {z : Int} {w w' : World} (h : r = (z, l)) (hz : z ≠ 0) (b : Below w.heap.size w w') : VerPost r w (pan z) w' := by subst h; exact ⟨by show (if z = 0 then pan z = Ending.returned (liA l) else pan z = pan z); rw [if_neg hz], b⟩
abbrev fnV (f : Nat) (c : Ct) (p : Pe) (s : Sv) (b : Nat) : Value := .func (.func f) #[.agg (rowF 14 (trC c p s b))] #[]
/-- the functions of the kinds -/
def fnC (c : Ct) (p : Pe) (s : Sv) (b : Nat) (j : Nat) : Value := match j with | 0 => .nilFunc | 1 => fnV 111 c p s b | 2 => fnV 112 c p s b | 3 => fnV 113 c p s b | _ => fnV 114 c p s b
def sgC (c : Ct) (j : Nat) : Value := if j = 0 then .int .i64 c.r else .int .i64 c.g
theorem key_first {p : Pe} {x : List Li} {c : Ct} (h : c.k = 1) : keyF p x c = if famB x p.i then none else some c.v := by unfold keyF; rw [if_pos h]
theorem key_enroll {p : Pe} {x : List Li} {c : Ct} (h : c.k = 2) : keyF p x c = if presB x c.b then some (lastL x c.b).v else none := by unfold keyF; rw [if_neg (by omega), if_pos h]
theorem key_restore {p : Pe} {x : List Li} {c : Ct} (h : c.k = 3) : keyF p x c = some p.r := by unfold keyF; rw [if_neg (by omega), if_neg (by omega), if_pos h]
theorem key_revoke {p : Pe} {x : List Li} {c : Ct} (h : c.k = 4) : keyF p x c = if presB x c.b && presB x c.d then some (lastL x c.b).v else none := by unfold keyF; rw [if_neg (by omega), if_neg (by omega), if_neg (by omega)]
theorem build_li (d v l n : Int) (W : World) : (Instr.build 71 #[(0, .int .i64 d), (1, .int .i64 v), (2, .int .i64 l), (3, .int .i64 n)]).run Tryz.prog W = .ok (liA ⟨d, v, l, n, false⟩) W := by kernel_rfl
set_option maxRecDepth 100000 in
set_option maxHeartbeats 16000000 in
theorem pverify_any (c : Ct) (p : Pe) (s : Sv) (b : Nat) (x : List Li) (w : World) (hc : c.wf) (hk : c.k = 1 ∨ c.k = 2 ∨ c.k = 3 ∨ c.k = 4) (hm : MapL w b x) (hT : Tab w) :
    Calls Tryz.prog 71 #[.agg (rowF 14 (trC c p s b))] w (VerPost (verF p x c) w) := by
  have HM := Lib.hid hm
  obtain ⟨m, hm1, hm2⟩ := hm
  have M0 := Lib.hid hm1
  have T0 := Lib.hid hT
  have GL := Lib.hid (get_last hm2 c.d)
  have HC := Lib.hid hc
  have HK := Lib.hid hk
  have VF : Hid (verF p x c = if decide (c.n = IntKind.i64.wrap ((lastL x c.d).n + 1)) then (match keyF p x c with | none => ((370 : Int), li0) | some k => if verB k (msgC c) c.r c.g then (0, resF x c) else (222, li0)) else (370, li0)) := Lib.hid rfl
  have RF : Hid (resF x c = if c.k = 4 then ⟨(lastL x c.d).d, (lastL x c.d).v, (lastL x c.d).l, c.n, true⟩ else ⟨c.d, c.v, c.l, c.n, false⟩) := Lib.hid rfl
  obtain ⟨l, hl⟩ : ∃ y, lastL x c.d = y := ⟨_, rfl⟩
  rw [hl] at GL VF RF
  obtain ⟨R, hR⟩ : ∃ y, verF p x c = y := ⟨_, rfl⟩
  rw [hR] at VF ⊢
  clear hm1 hm2 hT hc hk hl hR
  go_enter Tryz.func71, Tryz.ntmps71
  have B0 := Lib.hid (Below.refl w.heap.size w)
  go_upto_region 1 with fail
  obtain ⟨w1, hw1⟩ : ∃ y, w.alloc (.cells (rowF 14 (trC c p s b)) 125) = y := ⟨_, rfl⟩
  have b1 : Below w.heap.size w w1 := by rw [← hw1]; exact (Below.refl _ _).alloc (Nat.le_refl _) _
  have X1 : Hid (RowV w1 w.heap.size 125 14 (trC c p s b)) := Lib.hid (by rw [← hw1]; exact RowV.new w _ 14 (trC c p s b))
  have z1 : w.heap.size + 1 = w1.heap.size := by rw [← hw1]; exact (Array.size_push _).symm
  rw [hw1]
  (try rw [z1])
  have B1 := Lib.hid (B0.out.trans (b1.mono B0.out.size))
  have M1 := Lib.hid (M0.out.below b1)
  have T1 := Lib.hid (T0.out.below b1)
  clear b1 hw1 z1 B0 M0 T0
  have L1 : Hid (w.heap.size < w1.heap.size) := Lib.hid X1.out.lt
  obtain ⟨w2, hw2⟩ : ∃ y, w1.alloc (.cells #[.int .i64 0, .int .i64 0, .int .i64 0, .int .i64 0, .bool false] 71) = y := ⟨_, rfl⟩
  have b2 : Below w1.heap.size w1 w2 := by rw [← hw2]; exact (Below.refl _ _).alloc (Nat.le_refl _) _
  have Z2 : Hid (RowV w2 w1.heap.size 71 5 (liC li0)) := Lib.hid (by rw [← hw2]; exact RowV.new w1 _ 5 (liC li0))
  have z2 : w1.heap.size + 1 = w2.heap.size := by rw [← hw2]; exact (Array.size_push _).symm
  rw [hw2]
  (try rw [z2])
  have B2 := Lib.hid (B1.out.trans (b2.mono B1.out.size))
  have M2 := Lib.hid (M1.out.below b2)
  have T2 := Lib.hid (T1.out.below b2)
  have X2 := Lib.hid (X1.out.below b2)
  clear b2 hw2 z2 B1 M1 T1 X1
  have L2 : Hid (w1.heap.size < w2.heap.size) := Lib.hid Z2.out.lt
  have xm : _ = some (Value.map (some b)) := X2.out.cell (i := 13) (by decide)
  have x1 : _ = some (Value.int .i64 c.d) := X2.out.cell (i := 1) (by decide)
  go_wp2_with (first | ((with_reducible (show wpList _ _ _ (Oper.mk (some 10) _ _ _ _ _ :: _) _ _)); refine Hid.out ?_))
  refine Lib.hid ?_
  refine IM.wpList_lookup rfl 123 3 71 (.tmp 6) (.tmp 9) false rfl c.d rfl rfl M2.out Tryz.underlying123 Tryz.underlying3 zero_li ?_
  rw [if_neg Bool.false_ne_true, GL.out]
  have Zr := Lib.hid (RowV.new w2 71 5 (liC li0))
  go_upto_region 2 with ((with_reducible (show wpList _ _ _ (Oper.mk none _ _ _ _ _ :: _) _ _)); refine wpList_store_rowV (o := ⟨none, .store 71 (.tmp 3) (.tmp 10), _, _, _, _⟩) rfl 71 (.tmp 3) (.tmp 10) rfl w2.heap.size rfl 5 71 _ (liC l) rfl Zr.out (by kernel_rfl) (fun j _ => liC_one l j) ?_; intro w3 Y3 o3)
  have b3 : Below w2.heap.size w2 w3 := ((Below.refl _ _).alloc (Nat.le_refl _) _).trans (o3.out.below (Nat.le_refl _) (by rw [World.size_alloc]; omega))
  have B3 := Lib.hid (B2.out.trans (b3.mono B2.out.size))
  have M3 := Lib.hid (M2.out.below b3)
  have T3 := Lib.hid (T2.out.below b3)
  have X3 := Lib.hid (X2.out.below b3)
  have Z3 := Lib.hid (Z2.out.below b3)
  clear b3 o3 Zr B2 M2 T2 X2 Z2
  have L3 : Hid (w2.heap.size < w3.heap.size) := Lib.hid Y3.out.lt
  have x4 : w3.cell? ⟨w.heap.size, 4, none⟩ = some (Value.int .i64 c.n) := X3.out.cell (i := 4) (by decide)
  have y3 := li_cell Y3.out (i := 3) (by decide)
  clear xm x1
  obtain ⟨ln, hln⟩ : ∃ y, l.n = y := ⟨_, rfl⟩
  rw [show l.at 3 = l.n from rfl, hln] at y3
  rw [hln] at VF
  clear hln
  obtain ⟨nx, hnx⟩ : ∃ y, IntKind.i64.wrap (ln + 1) = y := ⟨_, rfl⟩
  rw [hnx] at VF
  obtain ⟨cn, hcn⟩ : ∃ y, c.n = y := ⟨_, rfl⟩
  have HCN := Lib.hid hcn
  rw [hcn] at x4 VF
  clear hcn
  by_cases hn : cn = nx
  rotate_left
  · have e1 : (cn == nx) = false := by rw [beq_eq_false_iff_ne]; exact hn
    have F : Hid (R = (370, li0)) := Lib.hid (by rw [VF.out, decide_eq_false hn]; rfl)
    clear hn VF RF
    go_wp2_with fail
    refine (must_false _ _).mono ?_
    rintro e w4 ⟨rfl, rfl⟩
    go_wp2_with fail
    exact ⟨rfl, VerPost.no F.out (by decide) B3.out⟩
  have e1 : (cn == nx) = true := by rw [beq_iff_eq]; exact hn
  rw [decide_eq_true hn, if_pos rfl] at VF
  clear hn
  go_wp2_with fail
  refine (must_true _ _).mono ?_
  rintro e w4 ⟨rfl, rfl⟩
  clear e1 x4 y3 hnx
  go_wp2_with (first | ((with_reducible (show wpList _ _ _ (Oper.mk (some 19) _ _ _ _ _ :: _) _ _)); refine Hid.out ?_))
  refine Lib.hid ?_
  refine wpList_load_rowV rfl 125 (.tmp 1) rfl w.heap.size rfl 14 _ _ (X3.out) _ Tryz.underlying125 rfl (by kernel_rfl) ?_
  go_wp2_with (first | ((with_reducible (show wpList _ _ _ (Oper.mk (some 21) _ _ _ _ _ :: _) _ _)); refine Hid.out ?_))
  refine Lib.hid ?_
  refine wpList_load_rowV rfl 125 (.tmp 1) rfl w.heap.size rfl 14 _ _ (X3.out) _ Tryz.underlying125 rfl (by kernel_rfl) ?_
  go_wp2_with (first | ((with_reducible (show wpList _ _ _ (Oper.mk (some 23) _ _ _ _ _ :: _) _ _)); refine Hid.out ?_))
  refine Lib.hid ?_
  refine wpList_load_rowV rfl 125 (.tmp 1) rfl w.heap.size rfl 14 _ _ (X3.out) _ Tryz.underlying125 rfl (by kernel_rfl) ?_
  go_wp2_with (first | ((with_reducible (show wpList _ _ _ (Oper.mk (some 25) _ _ _ _ _ :: _) _ _)); refine Hid.out ?_))
  refine Lib.hid ?_
  refine wpList_load_rowV rfl 125 (.tmp 1) rfl w.heap.size rfl 14 _ _ (X3.out) _ Tryz.underlying125 rfl (by kernel_rfl) ?_
  go_upto_region 4 with fail
  obtain ⟨w4, hw4⟩ : ∃ y, w3.alloc (.cells #[Value.nilFunc, fnV 111 c p s b, fnV 112 c p s b, fnV 113 c p s b, fnV 114 c p s b] 170) = y := ⟨_, rfl⟩
  have b4 : Below w3.heap.size w3 w4 := by rw [← hw4]; exact (Below.refl _ _).alloc (Nat.le_refl _) _
  have A4 : Hid (RowV w4 w3.heap.size 170 5 (fnC c p s b)) := Lib.hid (by rw [← hw4]; exact RowV.new w3 _ 5 (fnC c p s b))
  have z4 : w3.heap.size + 1 = w4.heap.size := by rw [← hw4]; exact (Array.size_push _).symm
  rw [hw4]
  (try rw [z4])
  have B4 := Lib.hid (B3.out.trans (b4.mono B3.out.size))
  have M4 := Lib.hid (M3.out.below b4)
  have T4 := Lib.hid (T3.out.below b4)
  have X4 := Lib.hid (X3.out.below b4)
  have Z4 := Lib.hid (Z3.out.below b4)
  have Y4 := Lib.hid (Y3.out.below b4)
  clear b4 hw4 z4 B3 M3 T3 X3 Z3 Y3
  have LA := Lib.hid A4.out.lt
  have LX := Lib.hid X4.out.lt
  go_cut [] (fun wx => R = (0, resF x c) ∧ Below w4.heap.size w4 wx)
  case first =>
    rename_i hJJ hMM
    have MS := Lib.hid (fun W (h : Tab W) => pmessage_any c HC.out W h)
    have ML := Lib.hid (msgC_len c)
    rcases HK.out with hk | hk | hk | hk
    · have KC : Hid (∀ W, MapL W b x → Calls Tryz.prog 111 #[.agg (rowF 14 (trC c p s b))] W (KeyPost (keyF p x c) W)) := Lib.hid (fun W h => by rw [key_first hk]; exact pfirst_any c p s b x W h)
      have x0 : Hid (w4.cell? ⟨w.heap.size, 0, none⟩ = some (Value.int .i64 1)) := Lib.hid (by rw [← hk]; exact X4.out.cell (i := 0) (by decide))
      have HK2 := Lib.hid hk
      clear hk
      refine Tc.wp_region_panics (keep w4.heap.size) (fun ch w' => ∃ z, ch = [{ v := .iface 27 (.int .i64 z), recovered := false }] ∧ (∃ l, R = (z, l)) ∧ z ≠ 0 ∧ Below w.heap.size w w') ?_ 14 [] (.fl 0 (.fl 1 (.fl 2 (.fl 3 (.fl 4 (.fl 6 (.fl 7 (.fl 9 (.fl 10 (.fl 11 (.one 5 (.one 8 (.one 12 (.one 13 .done)))))))))))))) (by kernel_rfl) (by kernel_rfl) ?_
      · intro ch a' w' hd hR0
        obtain ⟨z, rfl, ⟨l', hl'⟩, hz, hb⟩ := hR0
        exact ⟨hd, VerPost.no hl' hz hb⟩
      intro w5 b5 e5
      have BB5 : Hid (Below w4.heap.size w4 w5) := Lib.hid b5
      have M5 := Lib.hid (HM.out.below (B4.out.trans (b5.mono B4.out.size)))
      have T5 := Lib.hid (T4.out.below b5)
      clear b5 e5
      refine Tc.plan_floats [0, 1, 2, 3, 4, 6, 7, 9, 10, 11] [_, _, _, _, _, _, _, _, _, _] rfl ?_
      dsimp only [List.getElem_toArray, List.getElem_cons_succ, List.getElem_cons_zero]
      repeat (first | go_big_quiet_skip | (go_big_quiet_want; go_big_quiet_op; first | go_big_quiet_on | (refine ⟨_, fun _ _ => rfl, ?_⟩; go_big_quiet_on)))
      refine wpQuiet_load_cell rfl 3 (.tmp 29) rfl w.heap.size 0 rfl _ Tryz.underlying3 rfl (.int .i64 1) (fun W hW => cell_keep (n := w4.heap.size) ((BB5.out.cell (p := ⟨w.heap.size, 0, none⟩) LX.out).trans x0.out) LX.out hW) ?_
      simp only [Act.put, List.setIfInBounds_toArray, List.set_cons_succ, List.set_cons_zero]
      repeat (first | go_big_quiet_skip | (go_big_quiet_want; go_big_quiet_op; first | go_big_quiet_on | (refine ⟨_, fun _ _ => rfl, ?_⟩; go_big_quiet_on)))
      refine wpQuiet_load_cell rfl 118 (.tmp 31) rfl w3.heap.size 1 rfl _ Tryz.underlying118 rfl (fnV 111 c p s b) (fun W hW => cell_keep (n := w4.heap.size) ((BB5.out.cell (p := ⟨w3.heap.size, 1, none⟩) LA.out).trans (A4.out.cell (i := 1) (by decide))) LA.out hW) ?_
      simp only [Act.put, List.setIfInBounds_toArray, List.set_cons_succ, List.set_cons_zero]
      repeat (first | go_big_quiet_skip | (go_big_quiet_want; go_big_quiet_op; first | go_big_quiet_on | (refine ⟨_, fun _ _ => rfl, ?_⟩; go_big_quiet_on)))
      refine wpQuiet_load_part rfl 44 (.tmp 34) rfl w.heap.size 0 rfl 14 8 125 (trC c p s b) (ctC c) (fun W hW => row_keep (n := w4.heap.size) (X4.out.below BB5.out) LX.out hW) (by decide) (fun j hj => by match j, hj with | 0, _ => rfl | 1, _ => rfl | 2, _ => rfl | 3, _ => rfl | 4, _ => rfl | 5, _ => rfl | 6, _ => rfl | 7, _ => rfl) _ Tryz.underlying44 rfl (by kernel_rfl) ?_
      simp only [Act.put, List.setIfInBounds_toArray, List.set_cons_succ, List.set_cons_zero]
      repeat (first | go_big_quiet_skip | (go_big_quiet_want; go_big_quiet_op; first | go_big_quiet_on | (refine ⟨_, fun _ _ => rfl, ?_⟩; go_big_quiet_on)))
      refine wpQuiet_load_part rfl 42 (.tmp 38) rfl w.heap.size 6 rfl 14 2 125 (trC c p s b) (sgC c) (fun W hW => row_keep (n := w4.heap.size) (X4.out.below BB5.out) LX.out hW) (by decide) (fun j hj => by match j, hj with | 0, _ => rfl | 1, _ => rfl) _ Tryz.underlying42 rfl (by kernel_rfl) ?_
      simp only [Act.put, List.setIfInBounds_toArray, List.set_cons_succ, List.set_cons_zero]
      repeat (first | go_big_quiet_skip | (go_big_quiet_want; go_big_quiet_op; first | go_big_quiet_on | (refine ⟨_, fun _ _ => rfl, ?_⟩; go_big_quiet_on)))
      refine wpQuiet_nil ?_
      clear x0
      refine Tc.plan_panics 5 rfl (fun K hK hP => ?_)
      go_wp2_with fail
      refine (KC.out _ M5.out).mono ?_
      rintro e w6 ⟨he, b6⟩
      have BB6 := Lib.hid (BB5.out.trans (b6.mono BB5.out.size))
      have T6 := Lib.hid (T5.out.below b6)
      cases hkf : keyF p x c with
      | none =>
        rw [hkf] at he VF
        subst he
        exact hP _ _ _ ⟨rfl, 370, rfl, ⟨_, VF.out⟩, by decide, B4.out.trans (BB6.out.mono B4.out.size)⟩
      | some key =>
        rw [hkf] at he VF
        have VF2 : Hid (R = if verB key (msgC c) c.r c.g then (0, resF x c) else (222, li0)) := VF
        subst he
        clear VF hkf KC M5 T5
        go_wp2_with fail
        refine hK _ _ (keep_below (b6.mono BB5.out.size)) ?_
        clear hK K hP b6 BB5
        refine Tc.plan_one 8 rfl (fun K hK => ?_)
        go_wp2_with fail
        refine (MS.out _ T6.out).mono ?_
        rintro e w7 ⟨⟨v, rfl, y7⟩, b7⟩
        obtain ⟨va, vc, rfl⟩ := y7.slice
        have Y7 := Lib.hid y7
        have BB7 := Lib.hid (BB6.out.trans (b7.mono BB6.out.size))
        have T7 := Lib.hid (T6.out.below b7)
        clear y7
        go_wp2_with fail
        refine hK _ _ (keep_below (b7.mono BB6.out.size)) ?_
        clear hK K b7 BB6 T6 MS
        have VC := Lib.hid (verify_any key c.r c.g _ (msgC c) w7 (by rw [ML.out]; decide) Y7.out T7.out)
        obtain ⟨vb, hvb⟩ : ∃ y, verB key (msgC c) c.r c.g = y := ⟨_, rfl⟩
        rw [hvb] at VC VF2
        clear hvb
        refine Tc.plan_one 12 rfl (fun K hK => ?_)
        go_wp2_with fail
        refine VC.out.mono ?_
        rintro e w8 ⟨rfl, b8⟩
        have BB8 := Lib.hid (BB7.out.trans (b8.mono BB7.out.size))
        go_wp2_with fail
        refine hK _ _ (keep_below (b8.mono BB7.out.size)) ?_
        clear hK K b8 BB7 T7 Y7 VC
        refine Tc.plan_panics 13 rfl (fun K hK hP => ?_)
        cases vb
        · go_wp2_with fail
          refine (must_false _ _).mono ?_
          rintro e w9 ⟨rfl, rfl⟩
          exact hP _ _ _ ⟨rfl, 222, rfl, ⟨_, VF2.out⟩, by decide, B4.out.trans (BB8.out.mono B4.out.size)⟩
        · go_wp2_with fail
          refine (must_true _ _).mono ?_
          rintro e w9 ⟨rfl, rfl⟩
          go_wp2_with fail
          refine hK _ _ (keep_below (Below.refl _ _)) ?_
          clear hK K hP
          refine Tc.plan_end (l := []) rfl (fun K hK => ?_)
          go_wp2_with fail
          unfold Tc.withP
          dsimp only
          refine hMM _ _ ?_
          go_meet
          exact ⟨VF2.out, BB8.out⟩
    · have KC : Hid (∀ W, MapL W b x → Calls Tryz.prog 112 #[.agg (rowF 14 (trC c p s b))] W (KeyPost (keyF p x c) W)) := Lib.hid (fun W h => by rw [key_enroll hk]; exact penroll_any c p s b x W h)
      have x0 : Hid (w4.cell? ⟨w.heap.size, 0, none⟩ = some (Value.int .i64 2)) := Lib.hid (by rw [← hk]; exact X4.out.cell (i := 0) (by decide))
      have HK2 := Lib.hid hk
      clear hk
      refine Tc.wp_region_panics (keep w4.heap.size) (fun ch w' => ∃ z, ch = [{ v := .iface 27 (.int .i64 z), recovered := false }] ∧ (∃ l, R = (z, l)) ∧ z ≠ 0 ∧ Below w.heap.size w w') ?_ 14 [] (.fl 0 (.fl 1 (.fl 2 (.fl 3 (.fl 4 (.fl 6 (.fl 7 (.fl 9 (.fl 10 (.fl 11 (.one 5 (.one 8 (.one 12 (.one 13 .done)))))))))))))) (by kernel_rfl) (by kernel_rfl) ?_
      · intro ch a' w' hd hR0
        obtain ⟨z, rfl, ⟨l', hl'⟩, hz, hb⟩ := hR0
        exact ⟨hd, VerPost.no hl' hz hb⟩
      intro w5 b5 e5
      have BB5 : Hid (Below w4.heap.size w4 w5) := Lib.hid b5
      have M5 := Lib.hid (HM.out.below (B4.out.trans (b5.mono B4.out.size)))
      have T5 := Lib.hid (T4.out.below b5)
      clear b5 e5
      refine Tc.plan_floats [0, 1, 2, 3, 4, 6, 7, 9, 10, 11] [_, _, _, _, _, _, _, _, _, _] rfl ?_
      dsimp only [List.getElem_toArray, List.getElem_cons_succ, List.getElem_cons_zero]
      repeat (first | go_big_quiet_skip | (go_big_quiet_want; go_big_quiet_op; first | go_big_quiet_on | (refine ⟨_, fun _ _ => rfl, ?_⟩; go_big_quiet_on)))
      refine wpQuiet_load_cell rfl 3 (.tmp 29) rfl w.heap.size 0 rfl _ Tryz.underlying3 rfl (.int .i64 2) (fun W hW => cell_keep (n := w4.heap.size) ((BB5.out.cell (p := ⟨w.heap.size, 0, none⟩) LX.out).trans x0.out) LX.out hW) ?_
      simp only [Act.put, List.setIfInBounds_toArray, List.set_cons_succ, List.set_cons_zero]
      repeat (first | go_big_quiet_skip | (go_big_quiet_want; go_big_quiet_op; first | go_big_quiet_on | (refine ⟨_, fun _ _ => rfl, ?_⟩; go_big_quiet_on)))
      refine wpQuiet_load_cell rfl 118 (.tmp 31) rfl w3.heap.size 2 rfl _ Tryz.underlying118 rfl (fnV 112 c p s b) (fun W hW => cell_keep (n := w4.heap.size) ((BB5.out.cell (p := ⟨w3.heap.size, 2, none⟩) LA.out).trans (A4.out.cell (i := 2) (by decide))) LA.out hW) ?_
      simp only [Act.put, List.setIfInBounds_toArray, List.set_cons_succ, List.set_cons_zero]
      repeat (first | go_big_quiet_skip | (go_big_quiet_want; go_big_quiet_op; first | go_big_quiet_on | (refine ⟨_, fun _ _ => rfl, ?_⟩; go_big_quiet_on)))
      refine wpQuiet_load_part rfl 44 (.tmp 34) rfl w.heap.size 0 rfl 14 8 125 (trC c p s b) (ctC c) (fun W hW => row_keep (n := w4.heap.size) (X4.out.below BB5.out) LX.out hW) (by decide) (fun j hj => by match j, hj with | 0, _ => rfl | 1, _ => rfl | 2, _ => rfl | 3, _ => rfl | 4, _ => rfl | 5, _ => rfl | 6, _ => rfl | 7, _ => rfl) _ Tryz.underlying44 rfl (by kernel_rfl) ?_
      simp only [Act.put, List.setIfInBounds_toArray, List.set_cons_succ, List.set_cons_zero]
      repeat (first | go_big_quiet_skip | (go_big_quiet_want; go_big_quiet_op; first | go_big_quiet_on | (refine ⟨_, fun _ _ => rfl, ?_⟩; go_big_quiet_on)))
      refine wpQuiet_load_part rfl 42 (.tmp 38) rfl w.heap.size 6 rfl 14 2 125 (trC c p s b) (sgC c) (fun W hW => row_keep (n := w4.heap.size) (X4.out.below BB5.out) LX.out hW) (by decide) (fun j hj => by match j, hj with | 0, _ => rfl | 1, _ => rfl) _ Tryz.underlying42 rfl (by kernel_rfl) ?_
      simp only [Act.put, List.setIfInBounds_toArray, List.set_cons_succ, List.set_cons_zero]
      repeat (first | go_big_quiet_skip | (go_big_quiet_want; go_big_quiet_op; first | go_big_quiet_on | (refine ⟨_, fun _ _ => rfl, ?_⟩; go_big_quiet_on)))
      refine wpQuiet_nil ?_
      clear x0
      refine Tc.plan_panics 5 rfl (fun K hK hP => ?_)
      go_wp2_with fail
      refine (KC.out _ M5.out).mono ?_
      rintro e w6 ⟨he, b6⟩
      have BB6 := Lib.hid (BB5.out.trans (b6.mono BB5.out.size))
      have T6 := Lib.hid (T5.out.below b6)
      cases hkf : keyF p x c with
      | none =>
        rw [hkf] at he VF
        subst he
        exact hP _ _ _ ⟨rfl, 370, rfl, ⟨_, VF.out⟩, by decide, B4.out.trans (BB6.out.mono B4.out.size)⟩
      | some key =>
        rw [hkf] at he VF
        have VF2 : Hid (R = if verB key (msgC c) c.r c.g then (0, resF x c) else (222, li0)) := VF
        subst he
        clear VF hkf KC M5 T5
        go_wp2_with fail
        refine hK _ _ (keep_below (b6.mono BB5.out.size)) ?_
        clear hK K hP b6 BB5
        refine Tc.plan_one 8 rfl (fun K hK => ?_)
        go_wp2_with fail
        refine (MS.out _ T6.out).mono ?_
        rintro e w7 ⟨⟨v, rfl, y7⟩, b7⟩
        obtain ⟨va, vc, rfl⟩ := y7.slice
        have Y7 := Lib.hid y7
        have BB7 := Lib.hid (BB6.out.trans (b7.mono BB6.out.size))
        have T7 := Lib.hid (T6.out.below b7)
        clear y7
        go_wp2_with fail
        refine hK _ _ (keep_below (b7.mono BB6.out.size)) ?_
        clear hK K b7 BB6 T6 MS
        have VC := Lib.hid (verify_any key c.r c.g _ (msgC c) w7 (by rw [ML.out]; decide) Y7.out T7.out)
        obtain ⟨vb, hvb⟩ : ∃ y, verB key (msgC c) c.r c.g = y := ⟨_, rfl⟩
        rw [hvb] at VC VF2
        clear hvb
        refine Tc.plan_one 12 rfl (fun K hK => ?_)
        go_wp2_with fail
        refine VC.out.mono ?_
        rintro e w8 ⟨rfl, b8⟩
        have BB8 := Lib.hid (BB7.out.trans (b8.mono BB7.out.size))
        go_wp2_with fail
        refine hK _ _ (keep_below (b8.mono BB7.out.size)) ?_
        clear hK K b8 BB7 T7 Y7 VC
        refine Tc.plan_panics 13 rfl (fun K hK hP => ?_)
        cases vb
        · go_wp2_with fail
          refine (must_false _ _).mono ?_
          rintro e w9 ⟨rfl, rfl⟩
          exact hP _ _ _ ⟨rfl, 222, rfl, ⟨_, VF2.out⟩, by decide, B4.out.trans (BB8.out.mono B4.out.size)⟩
        · go_wp2_with fail
          refine (must_true _ _).mono ?_
          rintro e w9 ⟨rfl, rfl⟩
          go_wp2_with fail
          refine hK _ _ (keep_below (Below.refl _ _)) ?_
          clear hK K hP
          refine Tc.plan_end (l := []) rfl (fun K hK => ?_)
          go_wp2_with fail
          unfold Tc.withP
          dsimp only
          refine hMM _ _ ?_
          go_meet
          exact ⟨VF2.out, BB8.out⟩
    · have KC : Hid (∀ W, MapL W b x → Calls Tryz.prog 113 #[.agg (rowF 14 (trC c p s b))] W (KeyPost (keyF p x c) W)) := Lib.hid (fun W h => by rw [key_restore hk]; exact prestore_any c p s b W)
      have x0 : Hid (w4.cell? ⟨w.heap.size, 0, none⟩ = some (Value.int .i64 3)) := Lib.hid (by rw [← hk]; exact X4.out.cell (i := 0) (by decide))
      have HK2 := Lib.hid hk
      clear hk
      refine Tc.wp_region_panics (keep w4.heap.size) (fun ch w' => ∃ z, ch = [{ v := .iface 27 (.int .i64 z), recovered := false }] ∧ (∃ l, R = (z, l)) ∧ z ≠ 0 ∧ Below w.heap.size w w') ?_ 14 [] (.fl 0 (.fl 1 (.fl 2 (.fl 3 (.fl 4 (.fl 6 (.fl 7 (.fl 9 (.fl 10 (.fl 11 (.one 5 (.one 8 (.one 12 (.one 13 .done)))))))))))))) (by kernel_rfl) (by kernel_rfl) ?_
      · intro ch a' w' hd hR0
        obtain ⟨z, rfl, ⟨l', hl'⟩, hz, hb⟩ := hR0
        exact ⟨hd, VerPost.no hl' hz hb⟩
      intro w5 b5 e5
      have BB5 : Hid (Below w4.heap.size w4 w5) := Lib.hid b5
      have M5 := Lib.hid (HM.out.below (B4.out.trans (b5.mono B4.out.size)))
      have T5 := Lib.hid (T4.out.below b5)
      clear b5 e5
      refine Tc.plan_floats [0, 1, 2, 3, 4, 6, 7, 9, 10, 11] [_, _, _, _, _, _, _, _, _, _] rfl ?_
      dsimp only [List.getElem_toArray, List.getElem_cons_succ, List.getElem_cons_zero]
      repeat (first | go_big_quiet_skip | (go_big_quiet_want; go_big_quiet_op; first | go_big_quiet_on | (refine ⟨_, fun _ _ => rfl, ?_⟩; go_big_quiet_on)))
      refine wpQuiet_load_cell rfl 3 (.tmp 29) rfl w.heap.size 0 rfl _ Tryz.underlying3 rfl (.int .i64 3) (fun W hW => cell_keep (n := w4.heap.size) ((BB5.out.cell (p := ⟨w.heap.size, 0, none⟩) LX.out).trans x0.out) LX.out hW) ?_
      simp only [Act.put, List.setIfInBounds_toArray, List.set_cons_succ, List.set_cons_zero]
      repeat (first | go_big_quiet_skip | (go_big_quiet_want; go_big_quiet_op; first | go_big_quiet_on | (refine ⟨_, fun _ _ => rfl, ?_⟩; go_big_quiet_on)))
      refine wpQuiet_load_cell rfl 118 (.tmp 31) rfl w3.heap.size 3 rfl _ Tryz.underlying118 rfl (fnV 113 c p s b) (fun W hW => cell_keep (n := w4.heap.size) ((BB5.out.cell (p := ⟨w3.heap.size, 3, none⟩) LA.out).trans (A4.out.cell (i := 3) (by decide))) LA.out hW) ?_
      simp only [Act.put, List.setIfInBounds_toArray, List.set_cons_succ, List.set_cons_zero]
      repeat (first | go_big_quiet_skip | (go_big_quiet_want; go_big_quiet_op; first | go_big_quiet_on | (refine ⟨_, fun _ _ => rfl, ?_⟩; go_big_quiet_on)))
      refine wpQuiet_load_part rfl 44 (.tmp 34) rfl w.heap.size 0 rfl 14 8 125 (trC c p s b) (ctC c) (fun W hW => row_keep (n := w4.heap.size) (X4.out.below BB5.out) LX.out hW) (by decide) (fun j hj => by match j, hj with | 0, _ => rfl | 1, _ => rfl | 2, _ => rfl | 3, _ => rfl | 4, _ => rfl | 5, _ => rfl | 6, _ => rfl | 7, _ => rfl) _ Tryz.underlying44 rfl (by kernel_rfl) ?_
      simp only [Act.put, List.setIfInBounds_toArray, List.set_cons_succ, List.set_cons_zero]
      repeat (first | go_big_quiet_skip | (go_big_quiet_want; go_big_quiet_op; first | go_big_quiet_on | (refine ⟨_, fun _ _ => rfl, ?_⟩; go_big_quiet_on)))
      refine wpQuiet_load_part rfl 42 (.tmp 38) rfl w.heap.size 6 rfl 14 2 125 (trC c p s b) (sgC c) (fun W hW => row_keep (n := w4.heap.size) (X4.out.below BB5.out) LX.out hW) (by decide) (fun j hj => by match j, hj with | 0, _ => rfl | 1, _ => rfl) _ Tryz.underlying42 rfl (by kernel_rfl) ?_
      simp only [Act.put, List.setIfInBounds_toArray, List.set_cons_succ, List.set_cons_zero]
      repeat (first | go_big_quiet_skip | (go_big_quiet_want; go_big_quiet_op; first | go_big_quiet_on | (refine ⟨_, fun _ _ => rfl, ?_⟩; go_big_quiet_on)))
      refine wpQuiet_nil ?_
      clear x0
      refine Tc.plan_panics 5 rfl (fun K hK hP => ?_)
      go_wp2_with fail
      refine (KC.out _ M5.out).mono ?_
      rintro e w6 ⟨he, b6⟩
      have BB6 := Lib.hid (BB5.out.trans (b6.mono BB5.out.size))
      have T6 := Lib.hid (T5.out.below b6)
      cases hkf : keyF p x c with
      | none =>
        rw [hkf] at he VF
        subst he
        exact hP _ _ _ ⟨rfl, 370, rfl, ⟨_, VF.out⟩, by decide, B4.out.trans (BB6.out.mono B4.out.size)⟩
      | some key =>
        rw [hkf] at he VF
        have VF2 : Hid (R = if verB key (msgC c) c.r c.g then (0, resF x c) else (222, li0)) := VF
        subst he
        clear VF hkf KC M5 T5
        go_wp2_with fail
        refine hK _ _ (keep_below (b6.mono BB5.out.size)) ?_
        clear hK K hP b6 BB5
        refine Tc.plan_one 8 rfl (fun K hK => ?_)
        go_wp2_with fail
        refine (MS.out _ T6.out).mono ?_
        rintro e w7 ⟨⟨v, rfl, y7⟩, b7⟩
        obtain ⟨va, vc, rfl⟩ := y7.slice
        have Y7 := Lib.hid y7
        have BB7 := Lib.hid (BB6.out.trans (b7.mono BB6.out.size))
        have T7 := Lib.hid (T6.out.below b7)
        clear y7
        go_wp2_with fail
        refine hK _ _ (keep_below (b7.mono BB6.out.size)) ?_
        clear hK K b7 BB6 T6 MS
        have VC := Lib.hid (verify_any key c.r c.g _ (msgC c) w7 (by rw [ML.out]; decide) Y7.out T7.out)
        obtain ⟨vb, hvb⟩ : ∃ y, verB key (msgC c) c.r c.g = y := ⟨_, rfl⟩
        rw [hvb] at VC VF2
        clear hvb
        refine Tc.plan_one 12 rfl (fun K hK => ?_)
        go_wp2_with fail
        refine VC.out.mono ?_
        rintro e w8 ⟨rfl, b8⟩
        have BB8 := Lib.hid (BB7.out.trans (b8.mono BB7.out.size))
        go_wp2_with fail
        refine hK _ _ (keep_below (b8.mono BB7.out.size)) ?_
        clear hK K b8 BB7 T7 Y7 VC
        refine Tc.plan_panics 13 rfl (fun K hK hP => ?_)
        cases vb
        · go_wp2_with fail
          refine (must_false _ _).mono ?_
          rintro e w9 ⟨rfl, rfl⟩
          exact hP _ _ _ ⟨rfl, 222, rfl, ⟨_, VF2.out⟩, by decide, B4.out.trans (BB8.out.mono B4.out.size)⟩
        · go_wp2_with fail
          refine (must_true _ _).mono ?_
          rintro e w9 ⟨rfl, rfl⟩
          go_wp2_with fail
          refine hK _ _ (keep_below (Below.refl _ _)) ?_
          clear hK K hP
          refine Tc.plan_end (l := []) rfl (fun K hK => ?_)
          go_wp2_with fail
          unfold Tc.withP
          dsimp only
          refine hMM _ _ ?_
          go_meet
          exact ⟨VF2.out, BB8.out⟩
    · have KC : Hid (∀ W, MapL W b x → Calls Tryz.prog 114 #[.agg (rowF 14 (trC c p s b))] W (KeyPost (keyF p x c) W)) := Lib.hid (fun W h => by rw [key_revoke hk]; exact prevoke_any c p s b x W h)
      have x0 : Hid (w4.cell? ⟨w.heap.size, 0, none⟩ = some (Value.int .i64 4)) := Lib.hid (by rw [← hk]; exact X4.out.cell (i := 0) (by decide))
      have HK2 := Lib.hid hk
      clear hk
      refine Tc.wp_region_panics (keep w4.heap.size) (fun ch w' => ∃ z, ch = [{ v := .iface 27 (.int .i64 z), recovered := false }] ∧ (∃ l, R = (z, l)) ∧ z ≠ 0 ∧ Below w.heap.size w w') ?_ 14 [] (.fl 0 (.fl 1 (.fl 2 (.fl 3 (.fl 4 (.fl 6 (.fl 7 (.fl 9 (.fl 10 (.fl 11 (.one 5 (.one 8 (.one 12 (.one 13 .done)))))))))))))) (by kernel_rfl) (by kernel_rfl) ?_
      · intro ch a' w' hd hR0
        obtain ⟨z, rfl, ⟨l', hl'⟩, hz, hb⟩ := hR0
        exact ⟨hd, VerPost.no hl' hz hb⟩
      intro w5 b5 e5
      have BB5 : Hid (Below w4.heap.size w4 w5) := Lib.hid b5
      have M5 := Lib.hid (HM.out.below (B4.out.trans (b5.mono B4.out.size)))
      have T5 := Lib.hid (T4.out.below b5)
      clear b5 e5
      refine Tc.plan_floats [0, 1, 2, 3, 4, 6, 7, 9, 10, 11] [_, _, _, _, _, _, _, _, _, _] rfl ?_
      dsimp only [List.getElem_toArray, List.getElem_cons_succ, List.getElem_cons_zero]
      repeat (first | go_big_quiet_skip | (go_big_quiet_want; go_big_quiet_op; first | go_big_quiet_on | (refine ⟨_, fun _ _ => rfl, ?_⟩; go_big_quiet_on)))
      refine wpQuiet_load_cell rfl 3 (.tmp 29) rfl w.heap.size 0 rfl _ Tryz.underlying3 rfl (.int .i64 4) (fun W hW => cell_keep (n := w4.heap.size) ((BB5.out.cell (p := ⟨w.heap.size, 0, none⟩) LX.out).trans x0.out) LX.out hW) ?_
      simp only [Act.put, List.setIfInBounds_toArray, List.set_cons_succ, List.set_cons_zero]
      repeat (first | go_big_quiet_skip | (go_big_quiet_want; go_big_quiet_op; first | go_big_quiet_on | (refine ⟨_, fun _ _ => rfl, ?_⟩; go_big_quiet_on)))
      refine wpQuiet_load_cell rfl 118 (.tmp 31) rfl w3.heap.size 4 rfl _ Tryz.underlying118 rfl (fnV 114 c p s b) (fun W hW => cell_keep (n := w4.heap.size) ((BB5.out.cell (p := ⟨w3.heap.size, 4, none⟩) LA.out).trans (A4.out.cell (i := 4) (by decide))) LA.out hW) ?_
      simp only [Act.put, List.setIfInBounds_toArray, List.set_cons_succ, List.set_cons_zero]
      repeat (first | go_big_quiet_skip | (go_big_quiet_want; go_big_quiet_op; first | go_big_quiet_on | (refine ⟨_, fun _ _ => rfl, ?_⟩; go_big_quiet_on)))
      refine wpQuiet_load_part rfl 44 (.tmp 34) rfl w.heap.size 0 rfl 14 8 125 (trC c p s b) (ctC c) (fun W hW => row_keep (n := w4.heap.size) (X4.out.below BB5.out) LX.out hW) (by decide) (fun j hj => by match j, hj with | 0, _ => rfl | 1, _ => rfl | 2, _ => rfl | 3, _ => rfl | 4, _ => rfl | 5, _ => rfl | 6, _ => rfl | 7, _ => rfl) _ Tryz.underlying44 rfl (by kernel_rfl) ?_
      simp only [Act.put, List.setIfInBounds_toArray, List.set_cons_succ, List.set_cons_zero]
      repeat (first | go_big_quiet_skip | (go_big_quiet_want; go_big_quiet_op; first | go_big_quiet_on | (refine ⟨_, fun _ _ => rfl, ?_⟩; go_big_quiet_on)))
      refine wpQuiet_load_part rfl 42 (.tmp 38) rfl w.heap.size 6 rfl 14 2 125 (trC c p s b) (sgC c) (fun W hW => row_keep (n := w4.heap.size) (X4.out.below BB5.out) LX.out hW) (by decide) (fun j hj => by match j, hj with | 0, _ => rfl | 1, _ => rfl) _ Tryz.underlying42 rfl (by kernel_rfl) ?_
      simp only [Act.put, List.setIfInBounds_toArray, List.set_cons_succ, List.set_cons_zero]
      repeat (first | go_big_quiet_skip | (go_big_quiet_want; go_big_quiet_op; first | go_big_quiet_on | (refine ⟨_, fun _ _ => rfl, ?_⟩; go_big_quiet_on)))
      refine wpQuiet_nil ?_
      clear x0
      refine Tc.plan_panics 5 rfl (fun K hK hP => ?_)
      go_wp2_with fail
      refine (KC.out _ M5.out).mono ?_
      rintro e w6 ⟨he, b6⟩
      have BB6 := Lib.hid (BB5.out.trans (b6.mono BB5.out.size))
      have T6 := Lib.hid (T5.out.below b6)
      cases hkf : keyF p x c with
      | none =>
        rw [hkf] at he VF
        subst he
        exact hP _ _ _ ⟨rfl, 370, rfl, ⟨_, VF.out⟩, by decide, B4.out.trans (BB6.out.mono B4.out.size)⟩
      | some key =>
        rw [hkf] at he VF
        have VF2 : Hid (R = if verB key (msgC c) c.r c.g then (0, resF x c) else (222, li0)) := VF
        subst he
        clear VF hkf KC M5 T5
        go_wp2_with fail
        refine hK _ _ (keep_below (b6.mono BB5.out.size)) ?_
        clear hK K hP b6 BB5
        refine Tc.plan_one 8 rfl (fun K hK => ?_)
        go_wp2_with fail
        refine (MS.out _ T6.out).mono ?_
        rintro e w7 ⟨⟨v, rfl, y7⟩, b7⟩
        obtain ⟨va, vc, rfl⟩ := y7.slice
        have Y7 := Lib.hid y7
        have BB7 := Lib.hid (BB6.out.trans (b7.mono BB6.out.size))
        have T7 := Lib.hid (T6.out.below b7)
        clear y7
        go_wp2_with fail
        refine hK _ _ (keep_below (b7.mono BB6.out.size)) ?_
        clear hK K b7 BB6 T6 MS
        have VC := Lib.hid (verify_any key c.r c.g _ (msgC c) w7 (by rw [ML.out]; decide) Y7.out T7.out)
        obtain ⟨vb, hvb⟩ : ∃ y, verB key (msgC c) c.r c.g = y := ⟨_, rfl⟩
        rw [hvb] at VC VF2
        clear hvb
        refine Tc.plan_one 12 rfl (fun K hK => ?_)
        go_wp2_with fail
        refine VC.out.mono ?_
        rintro e w8 ⟨rfl, b8⟩
        have BB8 := Lib.hid (BB7.out.trans (b8.mono BB7.out.size))
        go_wp2_with fail
        refine hK _ _ (keep_below (b8.mono BB7.out.size)) ?_
        clear hK K b8 BB7 T7 Y7 VC
        refine Tc.plan_panics 13 rfl (fun K hK hP => ?_)
        cases vb
        · go_wp2_with fail
          refine (must_false _ _).mono ?_
          rintro e w9 ⟨rfl, rfl⟩
          exact hP _ _ _ ⟨rfl, 222, rfl, ⟨_, VF2.out⟩, by decide, B4.out.trans (BB8.out.mono B4.out.size)⟩
        · go_wp2_with fail
          refine (must_true _ _).mono ?_
          rintro e w9 ⟨rfl, rfl⟩
          go_wp2_with fail
          refine hK _ _ (keep_below (Below.refl _ _)) ?_
          clear hK K hP
          refine Tc.plan_end (l := []) rfl (fun K hK => ?_)
          go_wp2_with fail
          unfold Tc.withP
          dsimp only
          refine hMM _ _ ?_
          go_meet
          exact ⟨VF2.out, BB8.out⟩
  case rest =>
    rename World => w5
    obtain ⟨hR, hb5⟩ := hcut
    have B5 := Lib.hid (B4.out.trans (hb5.mono B4.out.size))
    have X5 := Lib.hid (X4.out.below hb5)
    have Y5 := Lib.hid (Y4.out.below hb5)
    have Z5 := Lib.hid (Z4.out.below hb5)
    rw [RF.out] at hR
    have HR := Lib.hid hR
    clear hR hb5 B4 X4 Y4 Z4 A4 M4 T4 VF RF
    have x0 : w5.cell? ⟨w.heap.size, 0, none⟩ = some (Value.int .i64 c.k) := X5.out.cell (i := 0) (by decide)
    by_cases hk4 : c.k = 4
    · have e0 : (c.k == 4) = true := by rw [beq_iff_eq]; exact hk4
      have F : Hid (R = (0, ⟨l.d, l.v, l.l, cn, true⟩)) := Lib.hid (by rw [HR.out, if_pos hk4, HCN.out])
      clear hk4 HR HK
      obtain ⟨kk, hkk⟩ : ∃ y, c.k = y := ⟨_, rfl⟩
      rw [hkk] at x0 e0
      clear hkk
      have x4 : w5.cell? ⟨w.heap.size, 4, none⟩ = some (Value.int .i64 cn) := by rw [← HCN.out]; exact X5.out.cell (i := 4) (by decide)
      have y3 : w5.cell? ⟨w2.heap.size, 3, none⟩ = some (Value.int .i64 (l.at 3)) := li_cell Y5.out (i := 3) (by decide)
      have f3 := Y5.out.frozen 3
      have o6 := (OnlyB.refl w2.heap.size w5).setCell (p := ⟨w2.heap.size, 3, none⟩) (.inl rfl) (.int .i64 cn)
      have Y6 := Y5.out.set 3 (.int .i64 cn)
      obtain ⟨w6, hw6⟩ : ∃ y, w5.setCell ⟨w2.heap.size, 3, none⟩ (.int .i64 cn) = y := ⟨_, rfl⟩
      rw [hw6] at o6 Y6
      have y4 : w6.cell? ⟨w2.heap.size, 4, none⟩ = some (.bool l.g) := Y6.cell (i := 4) (by decide)
      have f4 := Y6.frozen 4
      have o7 := o6.setCell (p := ⟨w2.heap.size, 4, none⟩) (.inl rfl) (.bool true)
      have Y7 : RowV _ _ _ 5 (liC ⟨l.d, l.v, l.l, cn, true⟩) := (Y6.set 4 (.bool true)).congr (fun i hi => by match i, hi with | 0, _ => rfl | 1, _ => rfl | 2, _ => rfl | 3, _ => rfl | 4, _ => rfl)
      obtain ⟨w7, hw7⟩ : ∃ y, w6.setCell ⟨w2.heap.size, 4, none⟩ (.bool true) = y := ⟨_, rfl⟩
      rw [hw7] at o7 Y7
      have Y8 := Lib.hid Y7
      have Z7 := Lib.hid (o7.row (show w1.heap.size ≠ w2.heap.size by have := L2.out; omega) Z5.out)
      have B7 := Lib.hid (B5.out.trans (o7.below (by have := L1.out; have := L2.out; omega) B5.out.size))
      clear Y6 Y7 o6 o7 X5 Y5 Z5 B5
      go_upto_region 7 with fail
      clear x0 x4 y3 y4 f3 f4 e0
      go_wp2_with (first | ((with_reducible (show wpList _ _ _ (Oper.mk (some 51) _ _ _ _ _ :: _) _ _)); refine Hid.out ?_))
      refine Lib.hid ?_
      refine wpList_load_rowV rfl 71 (.tmp 3) rfl w2.heap.size rfl 5 _ _ (Y8.out) _ Tryz.underlying71 rfl (by kernel_rfl) ?_
      go_wp2_with (first | ((with_reducible (show wpList _ _ _ (Oper.mk none _ _ _ _ _ :: _) _ _)); refine Hid.out ?_))
      refine Lib.hid ?_
      refine wpList_store_rowV rfl 71 (.tmp 2) (.tmp 51) rfl w1.heap.size rfl 5 _ _ _ rfl (Z7.out) (by kernel_rfl) (fun j _ => liC_one _ j) ?_
      intro w9 Z9 O9
      go_wp2_with fail
      refine bodyPost_ret (v := liA (⟨l.d, l.v, l.l, cn, true⟩ : Li)) (by exact results_rowV (fn := Tryz.f71) (p := 2) (ty := 71) rfl _ _ w1.heap.size 5 71 _ _ rfl Z9.out Tryz.underlying71 rfl (by kernel_rfl)) rfl (VerPost.yes F.out ?_)
      exact B7.out.trans (O9.out.below (Nat.le_of_lt L1.out) B7.out.size)
    · have e0 : (c.k == 4) = false := by rw [beq_eq_false_iff_ne]; exact hk4
      have F : Hid (R = (0, ⟨c.d, c.v, c.l, cn, false⟩)) := Lib.hid (by rw [HR.out, if_neg hk4, HCN.out])
      clear hk4 HR HK
      obtain ⟨kk, hkk⟩ : ∃ y, c.k = y := ⟨_, rfl⟩
      rw [hkk] at x0 e0
      clear hkk
      have x1 : w5.cell? ⟨w.heap.size, 1, none⟩ = some (Value.int .i64 c.d) := X5.out.cell (i := 1) (by decide)
      have x2 : w5.cell? ⟨w.heap.size, 2, none⟩ = some (Value.int .i64 c.v) := X5.out.cell (i := 2) (by decide)
      have x3 : w5.cell? ⟨w.heap.size, 3, none⟩ = some (Value.int .i64 c.l) := X5.out.cell (i := 3) (by decide)
      have x4 : w5.cell? ⟨w.heap.size, 4, none⟩ = some (Value.int .i64 cn) := by rw [← HCN.out]; exact X5.out.cell (i := 4) (by decide)
      go_upto_region 8 with fail
      clear x0 e0
      go_wp2_with (first | ((with_reducible (show wpList _ _ _ (Oper.mk (some 64) _ _ _ _ _ :: _) _ _)); refine Hid.out ?_))
      refine Lib.hid ?_
      refine wpList_build rfl 71 _ rfl #[(0, .int .i64 c.d), (1, .int .i64 c.v), (2, .int .i64 c.l), (3, .int .i64 cn)] (by simp only [List.map_toArray, List.map_cons, List.map_nil]; rfl) _ (build_li c.d c.v c.l cn _) ?_
      clear x1 x2 x3 x4
      go_wp2_with (first | ((with_reducible (show wpList _ _ _ (Oper.mk none _ _ _ _ _ :: _) _ _)); refine Hid.out ?_))
      refine Lib.hid ?_
      refine wpList_store_rowV rfl 71 (.tmp 2) (.tmp 64) rfl w1.heap.size rfl 5 _ _ _ rfl (Z5.out) (by kernel_rfl) (fun j _ => liC_one _ j) ?_
      intro w9 Z9 O9
      go_wp2_with fail
      refine bodyPost_ret (v := liA (⟨c.d, c.v, c.l, cn, false⟩ : Li)) (by exact results_rowV (fn := Tryz.f71) (p := 2) (ty := 71) rfl _ _ w1.heap.size 5 71 _ _ rfl Z9.out Tryz.underlying71 rfl (by kernel_rfl)) rfl (VerPost.yes F.out ?_)
      exact B5.out.trans (O9.out.below (Nat.le_of_lt L1.out) B5.out.size)
end Go.Proofs.YtpekhdahamloaaaGreatDoor
