/- Package people: Check. -/
import Derived.Test.YtpekhdahamloaaaGreatDoorPk46
import Derived.Test.YtpekhdahamloaaaGreatDoorPk42
set_option linter.unusedVariables false
set_option linter.unusedSimpArgs false
namespace Go.Proofs.YtpekhdahamloaaaGreatDoor
open Go.RowKit Cod
theorem wpList_pass {P : Program} {ops : Array Oper} {Q : Exit → Act → World → Prop} {a : Act} {w : World} {rest : List Oper} {o : Oper} (hw : Region.wanted o (yielded ops a.tmps) = false) (h : wpList P ops Q rest (a.put o.dst undef) w) : wpList P ops Q (o :: rest) a w := by
  unfold wpList
  rw [if_neg (by rw [hw]; decide)]
  exact h
/-- block b is a map that holds the numbers of the people -/
def MapB (w : World) (b : Nat) (l : List Pe) : Prop := ∃ m, IM.At w b m ∧ ∀ z, IM.get m z = if hasB l z then some (.bool true) else none
theorem MapB.below {w w' : World} {b : Nat} {l : List Pe} (h : MapB w b l) (hb : Below w.heap.size w w') : MapB w' b l := by
  obtain ⟨m, h1, h2⟩ := h
  exact ⟨m, h1.below hb, h2⟩
theorem MapB.lt {w : World} {b : Nat} {l : List Pe} (h : MapB w b l) : b < w.heap.size := by obtain ⟨m, h1, _⟩ := h; exact h1.lt
theorem MapB.made (w : World) : MapB (w.alloc (.map #[] 0)) w.heap.size [] := ⟨[], IM.At.made w, fun z => rfl⟩
theorem hasB_snoc (l : List Pe) (p : Pe) (z : Int) : hasB (l ++ [p]) z = (hasB l z || decide (p.i = z)) := by unfold hasB; rw [List.any_append]; simp
theorem map_put {l : List Pe} {m : List (Int × Value)} (h : ∀ z, IM.get m z = if hasB l z then some (.bool true) else none) (p : Pe) (z : Int) : IM.get (IM.put m p.i (.bool true)) z = if hasB (l ++ [p]) z then some (.bool true) else none := by
  rw [hasB_snoc]
  by_cases hz : z = p.i
  · subst hz; rw [IM.get_put_same, decide_eq_true rfl, Bool.or_true, if_pos rfl]
  · rw [IM.get_put_other hz, h, decide_eq_false (fun e => hz e.symm), Bool.or_false]
theorem zero_bool (W : World) : (zeroValue 4).run Tryz.prog W = .ok (.bool false) W := by kernel_rfl
theorem get_has {l : List Pe} {m : List (Int × Value)} (h : ∀ z, IM.get m z = if hasB l z then some (.bool true) else none) (z : Int) : (IM.get m z).getD (.bool false) = .bool (hasB l z) := by
  rw [h]; cases hasB l z <;> rfl
theorem pe_cell {w : World} {B : Nat} {T : TypeId} {p : Pe} {s : Sv} (h : RowV w B T 5 (peC p s)) {i : Nat} (hi : i < 5) : w.cell? ⟨B, i, none⟩ = some (peC p s i) := h.cell hi
def pe00 : Sv := ⟨none, 0, 0⟩
theorem okPe_head {ps : List Pe} {i : Nat} (h : hdPe ps i (ps.getD i pe0) = false) : okPe ps i = false := by unfold okPe; rw [h]; rfl
theorem okPe_cnt {ps : List Pe} {i : Nat} (h : cntB (ps.getD i pe0) = false) : okPe ps i = false := by unfold okPe; rw [h]; simp
theorem okPe_grd {ps : List Pe} {i : Nat} (h : allB (grdB ps (ps.getD i pe0)) (ps.getD i pe0).gs.length = false) : okPe ps i = false := by unfold okPe; rw [h]; simp
theorem okPe_all {ps : List Pe} {i : Nat} (h1 : hdPe ps i (ps.getD i pe0) = true) (h2 : cntB (ps.getD i pe0) = true) (h3 : allB (grdB ps (ps.getD i pe0)) (ps.getD i pe0).gs.length = true) : okPe ps i = true := by unfold okPe; rw [h1, h2, h3]; rfl
set_option maxRecDepth 100000 in
set_option maxHeartbeats 16000000 in
theorem pcheck37_any (ps : List Pe) (us : Nat → Sv) (v : Value) (w : World) (h : PesS w v ps us) (hn : ps.length ≤ 1000) :
    Calls Tryz.prog 66 #[v] w fun e w' => e = .returned (.int .i64 (if chkPe ps then 0 else 371)) ∧ Below w.heap.size w w' := by
  have hmm := fun W => run_makeMap_plain (w := W) (P := Tryz.prog) 168
  obtain ⟨la, lc, rfl⟩ := h.1.slice
  have FT : Hid ((∀ i, i < ps.length → okPe ps i = true) → (if chkPe ps then (0 : Int) else 371) = 0) := Lib.hid (fun h => by unfold chkPe; rw [allB_true h, if_pos rfl])
  have FF : Hid (∀ i, i < ps.length → okPe ps i = false → (if chkPe ps then (0 : Int) else 371) = 371) := Lib.hid (fun i hi h => by unfold chkPe; rw [allB_false hi h, if_neg Bool.false_ne_true])
  obtain ⟨R, hR⟩ : ∃ y, (if chkPe ps then (0 : Int) else 371) = y := ⟨_, rfl⟩
  rw [hR] at FT FF ⊢
  obtain ⟨n, hln⟩ : ∃ y, ps.length = y := ⟨_, rfl⟩
  have HN := Lib.hid hln
  have H0 : Hid (PesS w (.slice la n lc) ps us) := Lib.hid (by rw [← hln]; exact h)
  have qn : (n : Int) ≤ 1000 := by omega
  rw [hln] at FT FF ⊢
  clear h hn hR hln
  go_enter Tryz.func66, Tryz.ntmps66
  have B0 := Lib.hid (Below.refl w.heap.size w)
  go_upto_region 2 with fail
  obtain ⟨w1, hw1⟩ : ∃ y, w.alloc (.map #[] 0) = y := ⟨_, rfl⟩
  have b1 : Below w.heap.size w w1 := by rw [← hw1]; exact (Below.refl _ _).alloc (Nat.le_refl _) _
  have M1 : Hid (MapB w1 w.heap.size []) := Lib.hid (by rw [← hw1]; exact MapB.made w)
  have z1 : w.heap.size + 1 = w1.heap.size := by rw [← hw1]; exact (Array.size_push _).symm
  rw [hw1]
  (try rw [z1])
  have B1 := Lib.hid (B0.out.trans (b1.mono B0.out.size))
  clear b1 hw1 z1 B0
  clear hmm
  go_wp2_with fail
  go_loopg [14] n (fun g s14 wx => ∃ k : Nat, k + g = n ∧ s14 = .int .i64 (k : Int) ∧ Hid (MapB wx w.heap.size (ps.take k)) ∧ Hid (Below w.heap.size w wx))
  case atStart => exact ⟨0, by omega, rfl, M1, B1⟩
  case round =>
    clear M1 B1
    obtain ⟨k, hk, rfl, hM, hB⟩ := hrel
    obtain ⟨w2, rfl⟩ : ∃ y, y = wr := ⟨_, rfl⟩
    have q0 : (0 : Int) ≤ (k : Int) := Int.natCast_nonneg k
    by_cases hlt : k < n
    · have d0 : decide ((k : Int) < (n : Int)) = true := by rw [decide_eq_true_iff]; omega
      have d1 : decide (k < n) = true := by rw [decide_eq_true_iff]; omega
      obtain ⟨b, off, rfl, hcap, hb, hc⟩ := SlAt.at_elem (s := 5) (n := n) (a := la) (k := lc) (c := fun i => peC (ps.getD i pe0) (us i)) (by have h := (H0.out.below hB.out).1; rw [HN.out] at h; exact h) hlt
      have HLT := Lib.hid hlt
      have HCK := Lib.hid (fun j hj => hc k hlt j hj)
      have TK := Lib.hid (take_succ_getD pe0 ps (show k < ps.length by rw [HN.out]; exact hlt))
      obtain ⟨p, hp⟩ : ∃ y, ps.getD k pe0 = y := ⟨_, rfl⟩
      obtain ⟨s, hs⟩ : ∃ y, us k = y := ⟨_, rfl⟩
      rw [hp, hs] at HCK
      rw [hp] at TK
      have p1 : (k : Int) + 1 ≤ 1000 := by omega
      clear hc hcap hb hp hs hlt
      go_upto_region 4 with fail
      go_wp2_with (first | ((with_reducible (show wpList _ _ _ (Oper.mk (some 17) _ _ _ _ _ :: _) _ _)); refine Hid.out ?_))
      refine Lib.hid ?_
      refine wpList_load_elem rfl 68 (.tmp 16) rfl b (off + k * 5) rfl 5 off k (by rw [Nat.mul_comm]) (peC p s) HCK.out _ Tryz.underlying68 rfl (by kernel_rfl) ?_
      have B2 := hB
      have M2 := hM
      clear hB hM HCK d0 d1
      have Zr := Lib.hid (RowV.new w2 68 5 (peC pe0 pe00))
      go_upto_region 5 with ((with_reducible (show wpList _ _ _ (Oper.mk none _ _ _ _ _ :: _) _ _)); refine wpList_store_rowV (o := ⟨none, .store 68 (.tmp 5) (.tmp 17), _, _, _, _⟩) rfl 68 (.tmp 5) (.tmp 17) rfl w2.heap.size rfl 5 68 _ (peC p s) rfl Zr.out (by kernel_rfl) (fun j _ => peC_one p s j) ?_; intro w3 X3 o3)
      have b3 : Below w2.heap.size w2 w3 := ((Below.refl _ _).alloc (Nat.le_refl _) _).trans (o3.out.below (Nat.le_refl _) (by rw [World.size_alloc]; omega))
      have B3 := Lib.hid (B2.out.trans (b3.mono B2.out.size))
      have M3 := Lib.hid (M2.out.below b3)
      clear b3 o3 Zr B2 M2
      obtain ⟨m, hm1, hm2⟩ := M3.out
      have x0 : w3.cell? ⟨w2.heap.size, 0, none⟩ = some (.int .i64 p.i) := pe_cell X3.out (i := 0) (by decide)
      have MP := Lib.hid hm2
      go_wp2_with (first | ((with_reducible (show wpList _ _ _ (Oper.mk none _ _ _ _ _ :: _) _ _)); refine Hid.out ?_))
      refine Lib.hid ?_
      refine IM.wpList_update rfl 168 3 4 (.tmp 18) (.tmp 20) _ rfl p.i (.bool true) rfl rfl rfl hm1 Tryz.underlying168 Tryz.underlying3 ?_
      intro w4 A4 O4
      have M4 : Hid (MapB w4 w.heap.size (ps.take (k + 1))) := Lib.hid ⟨_, A4.out, fun z => by rw [TK.out]; exact map_put MP.out p z⟩
      have B4 := Lib.hid (B3.out.trans (O4.out.below (Nat.le_refl _) B3.out.size))
      clear A4 O4 hm1 MP M3 B3 X3 x0 TK
      go_wp2_with fail
      go_roundg (n - (k + 1))
      case measure => have := HLT.out; omega
      case rel =>
        go_light
        exact ⟨k + 1, by have := HLT.out; omega, by go_num, M4, B4⟩
    · have d0 : decide ((k : Int) < (n : Int)) = false := by rw [decide_eq_false_iff_not]; omega
      have d1 : decide (k < n) = false := by rw [decide_eq_false_iff_not]; omega
      have M2 : Hid (MapB w2 w.heap.size ps) := Lib.hid (by have h := hM.out; rwa [List.take_of_length_le (by rw [HN.out]; omega)] at h)
      have B2 := hB
      clear hM hB hlt hk q0
      go_upto_region 7 with fail
      clear d0 d1
      go_wp2_with fail
      go_loopg [24] n (fun g s24 wx => ∃ k : Nat, k + g = n ∧ s24 = .int .i64 (k : Int) ∧ Hid (∀ i, i < k → okPe ps i = true) ∧ Hid (MapB wx w.heap.size ps) ∧ Hid (Below w.heap.size w wx))
      case atStart => exact ⟨0, by omega, rfl, Lib.hid (fun i hi => by omega), M2, B2⟩
      case round =>
        clear M2 B2
        obtain ⟨k, hk, rfl, hA, hM, hB⟩ := hrel
        obtain ⟨w3, rfl⟩ : ∃ y, y = wr := ⟨_, rfl⟩
        have q0 : (0 : Int) ≤ (k : Int) := Int.natCast_nonneg k
        by_cases hlt : k < n
        · have d0 : decide ((k : Int) < (n : Int)) = true := by rw [decide_eq_true_iff]; omega
          have d1 : decide (k < n) = true := by rw [decide_eq_true_iff]; omega
          obtain ⟨b, off, rfl, hcap, hb, hc⟩ := SlAt.at_elem (s := 5) (n := n) (a := la) (k := lc) (c := fun i => peC (ps.getD i pe0) (us i)) (by have h := H0.out.1; rw [HN.out] at h; exact h) hlt
          have HLT := Lib.hid hlt
          have HCK : Hid (∀ j, j < 5 → w3.cell? ⟨b, off + 5 * k + j, none⟩ = some (peC (ps.getD k pe0) (us k) j)) := Lib.hid (fun j hj => (hB.out.cell (p := ⟨b, off + 5 * k + j, none⟩) hb).trans (hc k HLT.out j hj))
          have HPV := Lib.hid (fun (i : Nat) (hi : i < n) => hc i hi 0 (by decide))
          have HBW := Lib.hid hb
          have GI := Lib.hid (H0.out.2 k (by rw [HN.out]; exact hlt))
          have OH : Hid (hdPe ps k (ps.getD k pe0) = false → R = 371) := Lib.hid (fun h => FF.out k HLT.out (okPe_head h))
          have OC : Hid (cntB (ps.getD k pe0) = false → R = 371) := Lib.hid (fun h => FF.out k HLT.out (okPe_cnt h))
          have OG : Hid (∀ j, j < (ps.getD k pe0).gs.length → grdB ps (ps.getD k pe0) j = false → R = 371) := Lib.hid (fun j hj h => FF.out k HLT.out (okPe_grd (allB_false hj h)))
          have OA : Hid (hdPe ps k (ps.getD k pe0) = true → cntB (ps.getD k pe0) = true → (∀ j, j < (ps.getD k pe0).gs.length → grdB ps (ps.getD k pe0) j = true) → ∀ i, i < k + 1 → okPe ps i = true) := Lib.hid (fun h1 h2 h3 i hi => by
            by_cases e : i = k
            · subst e; exact okPe_all h1 h2 (allB_true h3)
            · exact hA.out i (by omega))
          obtain ⟨p, hp⟩ : ∃ y, ps.getD k pe0 = y := ⟨_, rfl⟩
          obtain ⟨s, hs⟩ : ∃ y, us k = y := ⟨_, rfl⟩
          rw [hp, hs] at HCK GI
          rw [hp] at OH OC OG OA
          have p1 : (k : Int) + 1 ≤ 1000 := by omega
          clear hc hcap hb hp hs hlt hA
          go_upto_region 9 with fail
          go_wp2_with (first | ((with_reducible (show wpList _ _ _ (Oper.mk (some 28) _ _ _ _ _ :: _) _ _)); refine Hid.out ?_))
          refine Lib.hid ?_
          refine wpList_load_elem rfl 68 (.tmp 27) rfl b (off + k * 5) rfl 5 off k (by rw [Nat.mul_comm]) (peC p s) HCK.out _ Tryz.underlying68 rfl (by kernel_rfl) ?_
          have B3 := hB
          have M3 := hM
          clear hB hM HCK d0 d1
          have Zr := Lib.hid (RowV.new w3 68 5 (peC pe0 pe00))
          go_upto_region 10 with ((with_reducible (show wpList _ _ _ (Oper.mk none _ _ _ _ _ :: _) _ _)); refine wpList_store_rowV (o := ⟨none, .store 68 (.tmp 7) (.tmp 28), _, _, _, _⟩) rfl 68 (.tmp 7) (.tmp 28) rfl w3.heap.size rfl 5 68 _ (peC p s) rfl Zr.out (by kernel_rfl) (fun j _ => peC_one p s j) ?_; intro w4 X4 o4)
          have b4 : Below w3.heap.size w3 w4 := ((Below.refl _ _).alloc (Nat.le_refl _) _).trans (o4.out.below (Nat.le_refl _) (by rw [World.size_alloc]; omega))
          have B4 := Lib.hid (B3.out.trans (b4.mono B3.out.size))
          have M4 := Lib.hid (M3.out.below b4)
          clear b4 o4 Zr B3 M3
          have x0 : w4.cell? ⟨w3.heap.size, 0, none⟩ = some (.int .i64 p.i) := pe_cell X4.out (i := 0) (by decide)
          have x1 : w4.cell? ⟨w3.heap.size, 1, none⟩ = some (.int .i64 p.r) := pe_cell X4.out (i := 1) (by decide)
          have x4 : w4.cell? ⟨w3.heap.size, 4, none⟩ = some (.int .i64 p.c) := pe_cell X4.out (i := 4) (by decide)
          have CK : Hid (∀ W, Calls Tryz.prog 22 #[.int .i64 p.r] W fun e w' => e = .returned (.int .i64 (if elemB p.r then 0 else 40)) ∧ Below W.heap.size W w') := Lib.hid (fun W => check_any p.r W)
          have HD : Hid (hdPe ps k p = (!decide (p.i < 0) && (!decide (64 ≤ p.i) && ((decide (k = 0) || !decide (p.i ≤ (ps.getD (k - 1) pe0).i)) && (elemB p.r && (!decide (p.c < 0) && !decide (1048576 < p.c))))))) := Lib.hid rfl
          have XP : Hid (∀ j, k = j + 1 → w4.cell? ⟨b, off + 5 * j, none⟩ = some (.int .i64 (ps.getD j pe0).i)) := Lib.hid (fun j hj => (B4.out.cell (p := ⟨b, off + 5 * j, none⟩) HBW.out).trans (HPV.out j (by have := HLT.out; omega)))
          obtain ⟨hd, hhd⟩ : ∃ y, hdPe ps k p = y := ⟨_, rfl⟩
          rw [hhd] at HD OH OA
          clear hhd
          obtain ⟨pi, hpi⟩ : ∃ y, p.i = y := ⟨_, rfl⟩
          obtain ⟨pr, hpr⟩ : ∃ y, p.r = y := ⟨_, rfl⟩
          obtain ⟨pc, hpc⟩ : ∃ y, p.c = y := ⟨_, rfl⟩
          have HPI := Lib.hid hpi
          rw [hpi] at x0 HD
          rw [hpr] at x1 CK HD
          rw [hpc] at x4 HD
          clear hpi hpr hpc
          obtain ⟨ev, hev⟩ : ∃ y, elemB pr = y := ⟨_, rfl⟩
          rw [hev] at CK HD
          clear hev
          dsimp only [Act.put]
          go_cut [24, 67] from 24 to 119 (fun s24 s67 wx => s24 = .int .i64 (k : Int) ∧ s67 = .bool (!hd) ∧ Hid (Below w.heap.size w wx) ∧ Hid (MapB wx w.heap.size ps) ∧ Hid (RowV wx w3.heap.size 68 5 (peC p s)))
          case first =>
            have LX := Lib.hid X4.out.lt
            have LB : Hid (b < w4.heap.size) := Lib.hid (by have h1 := HBW.out; have h2 := B4.out.size; omega)
            have X0 := Lib.hid x0
            have X1 := Lib.hid x1
            have X4c := Lib.hid x4
            clear x0 x1 x4
            by_cases k0 : k = 0
            · subst k0
              rw [show decide ((0 : Nat) = 0) = true from rfl, Bool.true_or, Bool.true_and] at HD
              clear XP HPV
              cases n0 : decide (pi < 0)
              rotate_left
              · skip
                obtain rfl : hd = false := by rw [HD.out]; simp [n0]
                clear HD OH OA OC OG
                refine Tc.wp_region_plan (keep w4.heap.size) 39 [] (.fl 0 (.fl 1 (.fl 2 (.fl 3 (.fl 4 (.fl 5 (.fl 6 (.fl 7 (.fl 8 (.fl 9 (.fl 10 (.fl 11 (.fl 12 (.fl 13 (.fl 14 (.fl 15 (.fl 16 (.fl 17 (.fl 18 (.fl 19 (.fl 20 (.fl 21 (.fl 22 (.fl 23 (.fl 24 (.fl 25 (.one 26 (.fl 27 (.fl 28 (.fl 29 (.fl 30 (.fl 31 (.fl 32 (.fl 33 (.fl 34 (.fl 35 (.fl 36 (.fl 37 (.fl 38 .done))))))))))))))))))))))))))))))))))))))) (by kernel_rfl) (by kernel_rfl) ?_
                intro w5 b5 e5
                have BB5 : Hid (Below w4.heap.size w4 w5) := Lib.hid b5
                clear b5 e5
                refine Tc.plan_floats [0, 1, 2, 3, 4, 5, 6, 7, 8, 9, 10, 11, 12, 13, 14, 15, 16, 17, 18, 19, 20, 21, 22, 23, 24, 25] [_, _, _, _, _, _, _, _, _, _, _, _, _, _, _, _, _, _, _, _, _, _, _, _, _, _] rfl ?_
                dsimp only [List.getElem_toArray, List.getElem_cons_succ, List.getElem_cons_zero]
                repeat (first | go_big_quiet_skip | (go_big_quiet_want; go_big_quiet_op; first | go_big_quiet_on | (refine ⟨_, fun _ _ => rfl, ?_⟩; go_big_quiet_on)))
                refine wpQuiet_load_cell rfl 3 (.tmp 29) rfl w3.heap.size 0 rfl _ Tryz.underlying3 rfl (.int .i64 pi) (fun W hW => cell_keep (n := w4.heap.size) ((BB5.out.cell (p := ⟨w3.heap.size, 0, none⟩) LX.out).trans X0.out) (LX.out) hW) ?_
                simp only [Act.put, List.setIfInBounds_toArray, List.set_cons_succ, List.set_cons_zero]
                repeat (first | go_big_quiet_skip | (go_big_quiet_want; go_big_quiet_op; first | go_big_quiet_on | (refine ⟨_, fun _ _ => rfl, ?_⟩; go_big_quiet_on)))
                refine wpQuiet_nil ?_
                refine Tc.plan_one 26 rfl (fun K hK => ?_)
                refine wpList_pass rfl ?_
                refine hK _ _ (keep_below (Below.refl _ _)) ?_
                clear hK K
                (try dsimp only [Act.put])
                refine Tc.plan_floats [27, 28, 29, 30, 31, 32, 33, 34, 35, 36, 37, 38] [_, _, _, _, _, _, _, _, _, _, _, _] rfl ?_
                dsimp only [List.getElem_toArray, List.getElem_cons_succ, List.getElem_cons_zero]
                (try simp only [List.setIfInBounds_toArray, List.set_cons_succ, List.set_cons_zero])
                repeat (first | go_big_quiet_skip | (go_big_quiet_want; go_big_quiet_op; first | go_big_quiet_on | (refine ⟨_, fun _ _ => rfl, ?_⟩; go_big_quiet_on)))
                refine wpQuiet_nil ?_
                refine Tc.plan_done (l := []) rfl (fun K hK => ?_)
                go_wp2_with fail
                go_meet
                exact ⟨rfl, rfl, Lib.hid (B4.out.trans (BB5.out.mono B4.out.size)), Lib.hid (M4.out.below BB5.out), Lib.hid (X4.out.below BB5.out)⟩
              cases n1 : decide (64 ≤ pi)
              rotate_left
              · skip
                obtain rfl : hd = false := by rw [HD.out]; simp [n0, n1]
                clear HD OH OA OC OG
                refine Tc.wp_region_plan (keep w4.heap.size) 39 [] (.fl 0 (.fl 1 (.fl 2 (.fl 3 (.fl 4 (.fl 5 (.fl 6 (.fl 7 (.fl 8 (.fl 9 (.fl 10 (.fl 11 (.fl 12 (.fl 13 (.fl 14 (.fl 15 (.fl 16 (.fl 17 (.fl 18 (.fl 19 (.fl 20 (.fl 21 (.fl 22 (.fl 23 (.fl 24 (.fl 25 (.one 26 (.fl 27 (.fl 28 (.fl 29 (.fl 30 (.fl 31 (.fl 32 (.fl 33 (.fl 34 (.fl 35 (.fl 36 (.fl 37 (.fl 38 .done))))))))))))))))))))))))))))))))))))))) (by kernel_rfl) (by kernel_rfl) ?_
                intro w5 b5 e5
                have BB5 : Hid (Below w4.heap.size w4 w5) := Lib.hid b5
                clear b5 e5
                refine Tc.plan_floats [0, 1, 2, 3, 4, 5, 6, 7, 8, 9, 10, 11, 12, 13, 14, 15, 16, 17, 18, 19, 20, 21, 22, 23, 24, 25] [_, _, _, _, _, _, _, _, _, _, _, _, _, _, _, _, _, _, _, _, _, _, _, _, _, _] rfl ?_
                dsimp only [List.getElem_toArray, List.getElem_cons_succ, List.getElem_cons_zero]
                repeat (first | go_big_quiet_skip | (go_big_quiet_want; go_big_quiet_op; first | go_big_quiet_on | (refine ⟨_, fun _ _ => rfl, ?_⟩; go_big_quiet_on)))
                refine wpQuiet_load_cell rfl 3 (.tmp 29) rfl w3.heap.size 0 rfl _ Tryz.underlying3 rfl (.int .i64 pi) (fun W hW => cell_keep (n := w4.heap.size) ((BB5.out.cell (p := ⟨w3.heap.size, 0, none⟩) LX.out).trans X0.out) (LX.out) hW) ?_
                simp only [Act.put, List.setIfInBounds_toArray, List.set_cons_succ, List.set_cons_zero]
                repeat (first | go_big_quiet_skip | (go_big_quiet_want; go_big_quiet_op; first | go_big_quiet_on | (refine ⟨_, fun _ _ => rfl, ?_⟩; go_big_quiet_on)))
                refine wpQuiet_unguard rfl ?_
                repeat (first | go_big_quiet_skip | (go_big_quiet_want; go_big_quiet_op; first | go_big_quiet_on | (refine ⟨_, fun _ _ => rfl, ?_⟩; go_big_quiet_on)))
                refine wpQuiet_load_cell rfl 3 (.tmp 33) rfl w3.heap.size 0 rfl _ Tryz.underlying3 rfl (.int .i64 pi) (fun W hW => cell_keep (n := w4.heap.size) ((BB5.out.cell (p := ⟨w3.heap.size, 0, none⟩) LX.out).trans X0.out) (LX.out) hW) ?_
                simp only [Act.put, List.setIfInBounds_toArray, List.set_cons_succ, List.set_cons_zero]
                repeat (first | go_big_quiet_skip | (go_big_quiet_want; go_big_quiet_op; first | go_big_quiet_on | (refine ⟨_, fun _ _ => rfl, ?_⟩; go_big_quiet_on)))
                refine wpQuiet_nil ?_
                refine Tc.plan_one 26 rfl (fun K hK => ?_)
                refine wpList_pass rfl ?_
                refine hK _ _ (keep_below (Below.refl _ _)) ?_
                clear hK K
                (try dsimp only [Act.put])
                refine Tc.plan_floats [27, 28, 29, 30, 31, 32, 33, 34, 35, 36, 37, 38] [_, _, _, _, _, _, _, _, _, _, _, _] rfl ?_
                dsimp only [List.getElem_toArray, List.getElem_cons_succ, List.getElem_cons_zero]
                (try simp only [List.setIfInBounds_toArray, List.set_cons_succ, List.set_cons_zero])
                repeat (first | go_big_quiet_skip | (go_big_quiet_want; go_big_quiet_op; first | go_big_quiet_on | (refine ⟨_, fun _ _ => rfl, ?_⟩; go_big_quiet_on)))
                refine wpQuiet_nil ?_
                refine Tc.plan_done (l := []) rfl (fun K hK => ?_)
                go_wp2_with fail
                go_meet
                exact ⟨rfl, rfl, Lib.hid (B4.out.trans (BB5.out.mono B4.out.size)), Lib.hid (M4.out.below BB5.out), Lib.hid (X4.out.below BB5.out)⟩
              cases ev
              · skip
                obtain rfl : hd = false := by rw [HD.out]; simp [n0, n1]
                clear HD OH OA OC OG
                refine Tc.wp_region_plan (keep w4.heap.size) 39 [] (.fl 0 (.fl 1 (.fl 2 (.fl 3 (.fl 4 (.fl 5 (.fl 6 (.fl 7 (.fl 8 (.fl 9 (.fl 10 (.fl 11 (.fl 12 (.fl 13 (.fl 14 (.fl 15 (.fl 16 (.fl 17 (.fl 18 (.fl 19 (.fl 20 (.fl 21 (.fl 22 (.fl 23 (.fl 24 (.fl 25 (.one 26 (.fl 27 (.fl 28 (.fl 29 (.fl 30 (.fl 31 (.fl 32 (.fl 33 (.fl 34 (.fl 35 (.fl 36 (.fl 37 (.fl 38 .done))))))))))))))))))))))))))))))))))))))) (by kernel_rfl) (by kernel_rfl) ?_
                intro w5 b5 e5
                have BB5 : Hid (Below w4.heap.size w4 w5) := Lib.hid b5
                clear b5 e5
                refine Tc.plan_floats [0, 1, 2, 3, 4, 5, 6, 7, 8, 9, 10, 11, 12, 13, 14, 15, 16, 17, 18, 19, 20, 21, 22, 23, 24, 25] [_, _, _, _, _, _, _, _, _, _, _, _, _, _, _, _, _, _, _, _, _, _, _, _, _, _] rfl ?_
                dsimp only [List.getElem_toArray, List.getElem_cons_succ, List.getElem_cons_zero]
                repeat (first | go_big_quiet_skip | (go_big_quiet_want; go_big_quiet_op; first | go_big_quiet_on | (refine ⟨_, fun _ _ => rfl, ?_⟩; go_big_quiet_on)))
                refine wpQuiet_load_cell rfl 3 (.tmp 29) rfl w3.heap.size 0 rfl _ Tryz.underlying3 rfl (.int .i64 pi) (fun W hW => cell_keep (n := w4.heap.size) ((BB5.out.cell (p := ⟨w3.heap.size, 0, none⟩) LX.out).trans X0.out) (LX.out) hW) ?_
                simp only [Act.put, List.setIfInBounds_toArray, List.set_cons_succ, List.set_cons_zero]
                repeat (first | go_big_quiet_skip | (go_big_quiet_want; go_big_quiet_op; first | go_big_quiet_on | (refine ⟨_, fun _ _ => rfl, ?_⟩; go_big_quiet_on)))
                refine wpQuiet_unguard rfl ?_
                repeat (first | go_big_quiet_skip | (go_big_quiet_want; go_big_quiet_op; first | go_big_quiet_on | (refine ⟨_, fun _ _ => rfl, ?_⟩; go_big_quiet_on)))
                refine wpQuiet_load_cell rfl 3 (.tmp 33) rfl w3.heap.size 0 rfl _ Tryz.underlying3 rfl (.int .i64 pi) (fun W hW => cell_keep (n := w4.heap.size) ((BB5.out.cell (p := ⟨w3.heap.size, 0, none⟩) LX.out).trans X0.out) (LX.out) hW) ?_
                simp only [Act.put, List.setIfInBounds_toArray, List.set_cons_succ, List.set_cons_zero]
                repeat (first | go_big_quiet_skip | (go_big_quiet_want; go_big_quiet_op; first | go_big_quiet_on | (refine ⟨_, fun _ _ => rfl, ?_⟩; go_big_quiet_on)))
                refine wpQuiet_unguard rfl ?_
                repeat (first | go_big_quiet_skip | (go_big_quiet_want; go_big_quiet_op; first | go_big_quiet_on | (refine ⟨_, fun _ _ => rfl, ?_⟩; go_big_quiet_on)))
                refine wpQuiet_load_cell rfl 3 (.tmp 53) rfl w3.heap.size 1 rfl _ Tryz.underlying3 rfl (.int .i64 pr) (fun W hW => cell_keep (n := w4.heap.size) ((BB5.out.cell (p := ⟨w3.heap.size, 1, none⟩) LX.out).trans X1.out) (LX.out) hW) ?_
                simp only [Act.put, List.setIfInBounds_toArray, List.set_cons_succ, List.set_cons_zero]
                repeat (first | go_big_quiet_skip | (go_big_quiet_want; go_big_quiet_op; first | go_big_quiet_on | (refine ⟨_, fun _ _ => rfl, ?_⟩; go_big_quiet_on)))
                refine wpQuiet_nil ?_
                refine Tc.plan_one 26 rfl (fun K hK => ?_)
                go_wp2_with fail
                refine (CK.out _).mono ?_
                rintro e w6 ⟨rfl, b6⟩
                have bb := b6.mono BB5.out.size
                have BB6 := Lib.hid (BB5.out.trans bb)
                go_wp2_with fail
                refine hK _ _ (keep_below bb) ?_
                clear hK K bb b6 BB5
                refine Tc.plan_floats [27, 28, 29, 30, 31, 32, 33, 34, 35, 36, 37, 38] [_, _, _, _, _, _, _, _, _, _, _, _] rfl ?_
                dsimp only [List.getElem_toArray, List.getElem_cons_succ, List.getElem_cons_zero]
                repeat (first | go_big_quiet_skip | (go_big_quiet_want; go_big_quiet_op; first | go_big_quiet_on | (refine ⟨_, fun _ _ => rfl, ?_⟩; go_big_quiet_on)))
                refine wpQuiet_nil ?_
                refine Tc.plan_done (l := []) rfl (fun K hK => ?_)
                go_wp2_with fail
                go_meet
                exact ⟨rfl, rfl, Lib.hid (B4.out.trans (BB6.out.mono B4.out.size)), Lib.hid (M4.out.below BB6.out), Lib.hid (X4.out.below BB6.out)⟩
              cases n4 : decide (pc < 0)
              rotate_left
              · skip
                obtain rfl : hd = false := by rw [HD.out]; simp [n0, n1, n4]
                clear HD OH OA OC OG
                refine Tc.wp_region_plan (keep w4.heap.size) 39 [] (.fl 0 (.fl 1 (.fl 2 (.fl 3 (.fl 4 (.fl 5 (.fl 6 (.fl 7 (.fl 8 (.fl 9 (.fl 10 (.fl 11 (.fl 12 (.fl 13 (.fl 14 (.fl 15 (.fl 16 (.fl 17 (.fl 18 (.fl 19 (.fl 20 (.fl 21 (.fl 22 (.fl 23 (.fl 24 (.fl 25 (.one 26 (.fl 27 (.fl 28 (.fl 29 (.fl 30 (.fl 31 (.fl 32 (.fl 33 (.fl 34 (.fl 35 (.fl 36 (.fl 37 (.fl 38 .done))))))))))))))))))))))))))))))))))))))) (by kernel_rfl) (by kernel_rfl) ?_
                intro w5 b5 e5
                have BB5 : Hid (Below w4.heap.size w4 w5) := Lib.hid b5
                clear b5 e5
                refine Tc.plan_floats [0, 1, 2, 3, 4, 5, 6, 7, 8, 9, 10, 11, 12, 13, 14, 15, 16, 17, 18, 19, 20, 21, 22, 23, 24, 25] [_, _, _, _, _, _, _, _, _, _, _, _, _, _, _, _, _, _, _, _, _, _, _, _, _, _] rfl ?_
                dsimp only [List.getElem_toArray, List.getElem_cons_succ, List.getElem_cons_zero]
                repeat (first | go_big_quiet_skip | (go_big_quiet_want; go_big_quiet_op; first | go_big_quiet_on | (refine ⟨_, fun _ _ => rfl, ?_⟩; go_big_quiet_on)))
                refine wpQuiet_load_cell rfl 3 (.tmp 29) rfl w3.heap.size 0 rfl _ Tryz.underlying3 rfl (.int .i64 pi) (fun W hW => cell_keep (n := w4.heap.size) ((BB5.out.cell (p := ⟨w3.heap.size, 0, none⟩) LX.out).trans X0.out) (LX.out) hW) ?_
                simp only [Act.put, List.setIfInBounds_toArray, List.set_cons_succ, List.set_cons_zero]
                repeat (first | go_big_quiet_skip | (go_big_quiet_want; go_big_quiet_op; first | go_big_quiet_on | (refine ⟨_, fun _ _ => rfl, ?_⟩; go_big_quiet_on)))
                refine wpQuiet_unguard rfl ?_
                repeat (first | go_big_quiet_skip | (go_big_quiet_want; go_big_quiet_op; first | go_big_quiet_on | (refine ⟨_, fun _ _ => rfl, ?_⟩; go_big_quiet_on)))
                refine wpQuiet_load_cell rfl 3 (.tmp 33) rfl w3.heap.size 0 rfl _ Tryz.underlying3 rfl (.int .i64 pi) (fun W hW => cell_keep (n := w4.heap.size) ((BB5.out.cell (p := ⟨w3.heap.size, 0, none⟩) LX.out).trans X0.out) (LX.out) hW) ?_
                simp only [Act.put, List.setIfInBounds_toArray, List.set_cons_succ, List.set_cons_zero]
                repeat (first | go_big_quiet_skip | (go_big_quiet_want; go_big_quiet_op; first | go_big_quiet_on | (refine ⟨_, fun _ _ => rfl, ?_⟩; go_big_quiet_on)))
                refine wpQuiet_unguard rfl ?_
                repeat (first | go_big_quiet_skip | (go_big_quiet_want; go_big_quiet_op; first | go_big_quiet_on | (refine ⟨_, fun _ _ => rfl, ?_⟩; go_big_quiet_on)))
                refine wpQuiet_load_cell rfl 3 (.tmp 53) rfl w3.heap.size 1 rfl _ Tryz.underlying3 rfl (.int .i64 pr) (fun W hW => cell_keep (n := w4.heap.size) ((BB5.out.cell (p := ⟨w3.heap.size, 1, none⟩) LX.out).trans X1.out) (LX.out) hW) ?_
                simp only [Act.put, List.setIfInBounds_toArray, List.set_cons_succ, List.set_cons_zero]
                repeat (first | go_big_quiet_skip | (go_big_quiet_want; go_big_quiet_op; first | go_big_quiet_on | (refine ⟨_, fun _ _ => rfl, ?_⟩; go_big_quiet_on)))
                refine wpQuiet_nil ?_
                refine Tc.plan_one 26 rfl (fun K hK => ?_)
                go_wp2_with fail
                refine (CK.out _).mono ?_
                rintro e w6 ⟨rfl, b6⟩
                have bb := b6.mono BB5.out.size
                have BB6 := Lib.hid (BB5.out.trans bb)
                go_wp2_with fail
                refine hK _ _ (keep_below bb) ?_
                clear hK K bb b6 BB5
                refine Tc.plan_floats [27, 28, 29, 30, 31, 32, 33, 34, 35, 36, 37, 38] [_, _, _, _, _, _, _, _, _, _, _, _] rfl ?_
                dsimp only [List.getElem_toArray, List.getElem_cons_succ, List.getElem_cons_zero]
                repeat (first | go_big_quiet_skip | (go_big_quiet_want; go_big_quiet_op; first | go_big_quiet_on | (refine ⟨_, fun _ _ => rfl, ?_⟩; go_big_quiet_on)))
                refine wpQuiet_unguard rfl ?_
                repeat (first | go_big_quiet_skip | (go_big_quiet_want; go_big_quiet_op; first | go_big_quiet_on | (refine ⟨_, fun _ _ => rfl, ?_⟩; go_big_quiet_on)))
                refine wpQuiet_load_cell rfl 3 (.tmp 59) rfl w3.heap.size 4 rfl _ Tryz.underlying3 rfl (.int .i64 pc) (fun W hW => cell_keep (n := w4.heap.size) ((BB6.out.cell (p := ⟨w3.heap.size, 4, none⟩) LX.out).trans X4c.out) (LX.out) hW) ?_
                simp only [Act.put, List.setIfInBounds_toArray, List.set_cons_succ, List.set_cons_zero]
                repeat (first | go_big_quiet_skip | (go_big_quiet_want; go_big_quiet_op; first | go_big_quiet_on | (refine ⟨_, fun _ _ => rfl, ?_⟩; go_big_quiet_on)))
                refine wpQuiet_nil ?_
                refine Tc.plan_done (l := []) rfl (fun K hK => ?_)
                go_wp2_with fail
                go_meet
                exact ⟨rfl, rfl, Lib.hid (B4.out.trans (BB6.out.mono B4.out.size)), Lib.hid (M4.out.below BB6.out), Lib.hid (X4.out.below BB6.out)⟩
              cases n5 : decide (1048576 < pc)
              rotate_left
              · skip
                obtain rfl : hd = false := by rw [HD.out]; simp [n0, n1, n4, n5]
                clear HD OH OA OC OG
                refine Tc.wp_region_plan (keep w4.heap.size) 39 [] (.fl 0 (.fl 1 (.fl 2 (.fl 3 (.fl 4 (.fl 5 (.fl 6 (.fl 7 (.fl 8 (.fl 9 (.fl 10 (.fl 11 (.fl 12 (.fl 13 (.fl 14 (.fl 15 (.fl 16 (.fl 17 (.fl 18 (.fl 19 (.fl 20 (.fl 21 (.fl 22 (.fl 23 (.fl 24 (.fl 25 (.one 26 (.fl 27 (.fl 28 (.fl 29 (.fl 30 (.fl 31 (.fl 32 (.fl 33 (.fl 34 (.fl 35 (.fl 36 (.fl 37 (.fl 38 .done))))))))))))))))))))))))))))))))))))))) (by kernel_rfl) (by kernel_rfl) ?_
                intro w5 b5 e5
                have BB5 : Hid (Below w4.heap.size w4 w5) := Lib.hid b5
                clear b5 e5
                refine Tc.plan_floats [0, 1, 2, 3, 4, 5, 6, 7, 8, 9, 10, 11, 12, 13, 14, 15, 16, 17, 18, 19, 20, 21, 22, 23, 24, 25] [_, _, _, _, _, _, _, _, _, _, _, _, _, _, _, _, _, _, _, _, _, _, _, _, _, _] rfl ?_
                dsimp only [List.getElem_toArray, List.getElem_cons_succ, List.getElem_cons_zero]
                repeat (first | go_big_quiet_skip | (go_big_quiet_want; go_big_quiet_op; first | go_big_quiet_on | (refine ⟨_, fun _ _ => rfl, ?_⟩; go_big_quiet_on)))
                refine wpQuiet_load_cell rfl 3 (.tmp 29) rfl w3.heap.size 0 rfl _ Tryz.underlying3 rfl (.int .i64 pi) (fun W hW => cell_keep (n := w4.heap.size) ((BB5.out.cell (p := ⟨w3.heap.size, 0, none⟩) LX.out).trans X0.out) (LX.out) hW) ?_
                simp only [Act.put, List.setIfInBounds_toArray, List.set_cons_succ, List.set_cons_zero]
                repeat (first | go_big_quiet_skip | (go_big_quiet_want; go_big_quiet_op; first | go_big_quiet_on | (refine ⟨_, fun _ _ => rfl, ?_⟩; go_big_quiet_on)))
                refine wpQuiet_unguard rfl ?_
                repeat (first | go_big_quiet_skip | (go_big_quiet_want; go_big_quiet_op; first | go_big_quiet_on | (refine ⟨_, fun _ _ => rfl, ?_⟩; go_big_quiet_on)))
                refine wpQuiet_load_cell rfl 3 (.tmp 33) rfl w3.heap.size 0 rfl _ Tryz.underlying3 rfl (.int .i64 pi) (fun W hW => cell_keep (n := w4.heap.size) ((BB5.out.cell (p := ⟨w3.heap.size, 0, none⟩) LX.out).trans X0.out) (LX.out) hW) ?_
                simp only [Act.put, List.setIfInBounds_toArray, List.set_cons_succ, List.set_cons_zero]
                repeat (first | go_big_quiet_skip | (go_big_quiet_want; go_big_quiet_op; first | go_big_quiet_on | (refine ⟨_, fun _ _ => rfl, ?_⟩; go_big_quiet_on)))
                refine wpQuiet_unguard rfl ?_
                repeat (first | go_big_quiet_skip | (go_big_quiet_want; go_big_quiet_op; first | go_big_quiet_on | (refine ⟨_, fun _ _ => rfl, ?_⟩; go_big_quiet_on)))
                refine wpQuiet_load_cell rfl 3 (.tmp 53) rfl w3.heap.size 1 rfl _ Tryz.underlying3 rfl (.int .i64 pr) (fun W hW => cell_keep (n := w4.heap.size) ((BB5.out.cell (p := ⟨w3.heap.size, 1, none⟩) LX.out).trans X1.out) (LX.out) hW) ?_
                simp only [Act.put, List.setIfInBounds_toArray, List.set_cons_succ, List.set_cons_zero]
                repeat (first | go_big_quiet_skip | (go_big_quiet_want; go_big_quiet_op; first | go_big_quiet_on | (refine ⟨_, fun _ _ => rfl, ?_⟩; go_big_quiet_on)))
                refine wpQuiet_nil ?_
                refine Tc.plan_one 26 rfl (fun K hK => ?_)
                go_wp2_with fail
                refine (CK.out _).mono ?_
                rintro e w6 ⟨rfl, b6⟩
                have bb := b6.mono BB5.out.size
                have BB6 := Lib.hid (BB5.out.trans bb)
                go_wp2_with fail
                refine hK _ _ (keep_below bb) ?_
                clear hK K bb b6 BB5
                refine Tc.plan_floats [27, 28, 29, 30, 31, 32, 33, 34, 35, 36, 37, 38] [_, _, _, _, _, _, _, _, _, _, _, _] rfl ?_
                dsimp only [List.getElem_toArray, List.getElem_cons_succ, List.getElem_cons_zero]
                repeat (first | go_big_quiet_skip | (go_big_quiet_want; go_big_quiet_op; first | go_big_quiet_on | (refine ⟨_, fun _ _ => rfl, ?_⟩; go_big_quiet_on)))
                refine wpQuiet_unguard rfl ?_
                repeat (first | go_big_quiet_skip | (go_big_quiet_want; go_big_quiet_op; first | go_big_quiet_on | (refine ⟨_, fun _ _ => rfl, ?_⟩; go_big_quiet_on)))
                refine wpQuiet_load_cell rfl 3 (.tmp 59) rfl w3.heap.size 4 rfl _ Tryz.underlying3 rfl (.int .i64 pc) (fun W hW => cell_keep (n := w4.heap.size) ((BB6.out.cell (p := ⟨w3.heap.size, 4, none⟩) LX.out).trans X4c.out) (LX.out) hW) ?_
                simp only [Act.put, List.setIfInBounds_toArray, List.set_cons_succ, List.set_cons_zero]
                repeat (first | go_big_quiet_skip | (go_big_quiet_want; go_big_quiet_op; first | go_big_quiet_on | (refine ⟨_, fun _ _ => rfl, ?_⟩; go_big_quiet_on)))
                refine wpQuiet_unguard rfl ?_
                repeat (first | go_big_quiet_skip | (go_big_quiet_want; go_big_quiet_op; first | go_big_quiet_on | (refine ⟨_, fun _ _ => rfl, ?_⟩; go_big_quiet_on)))
                refine wpQuiet_load_cell rfl 3 (.tmp 64) rfl w3.heap.size 4 rfl _ Tryz.underlying3 rfl (.int .i64 pc) (fun W hW => cell_keep (n := w4.heap.size) ((BB6.out.cell (p := ⟨w3.heap.size, 4, none⟩) LX.out).trans X4c.out) (LX.out) hW) ?_
                simp only [Act.put, List.setIfInBounds_toArray, List.set_cons_succ, List.set_cons_zero]
                repeat (first | go_big_quiet_skip | (go_big_quiet_want; go_big_quiet_op; first | go_big_quiet_on | (refine ⟨_, fun _ _ => rfl, ?_⟩; go_big_quiet_on)))
                refine wpQuiet_nil ?_
                refine Tc.plan_done (l := []) rfl (fun K hK => ?_)
                go_wp2_with fail
                go_meet
                exact ⟨rfl, rfl, Lib.hid (B4.out.trans (BB6.out.mono B4.out.size)), Lib.hid (M4.out.below BB6.out), Lib.hid (X4.out.below BB6.out)⟩
              obtain rfl : hd = true := by rw [HD.out]; simp [n0, n1, n4, n5]
              clear HD OH OA OC OG
              refine Tc.wp_region_plan (keep w4.heap.size) 39 [] (.fl 0 (.fl 1 (.fl 2 (.fl 3 (.fl 4 (.fl 5 (.fl 6 (.fl 7 (.fl 8 (.fl 9 (.fl 10 (.fl 11 (.fl 12 (.fl 13 (.fl 14 (.fl 15 (.fl 16 (.fl 17 (.fl 18 (.fl 19 (.fl 20 (.fl 21 (.fl 22 (.fl 23 (.fl 24 (.fl 25 (.one 26 (.fl 27 (.fl 28 (.fl 29 (.fl 30 (.fl 31 (.fl 32 (.fl 33 (.fl 34 (.fl 35 (.fl 36 (.fl 37 (.fl 38 .done))))))))))))))))))))))))))))))))))))))) (by kernel_rfl) (by kernel_rfl) ?_
              intro w5 b5 e5
              have BB5 : Hid (Below w4.heap.size w4 w5) := Lib.hid b5
              clear b5 e5
              refine Tc.plan_floats [0, 1, 2, 3, 4, 5, 6, 7, 8, 9, 10, 11, 12, 13, 14, 15, 16, 17, 18, 19, 20, 21, 22, 23, 24, 25] [_, _, _, _, _, _, _, _, _, _, _, _, _, _, _, _, _, _, _, _, _, _, _, _, _, _] rfl ?_
              dsimp only [List.getElem_toArray, List.getElem_cons_succ, List.getElem_cons_zero]
              repeat (first | go_big_quiet_skip | (go_big_quiet_want; go_big_quiet_op; first | go_big_quiet_on | (refine ⟨_, fun _ _ => rfl, ?_⟩; go_big_quiet_on)))
              refine wpQuiet_load_cell rfl 3 (.tmp 29) rfl w3.heap.size 0 rfl _ Tryz.underlying3 rfl (.int .i64 pi) (fun W hW => cell_keep (n := w4.heap.size) ((BB5.out.cell (p := ⟨w3.heap.size, 0, none⟩) LX.out).trans X0.out) (LX.out) hW) ?_
              simp only [Act.put, List.setIfInBounds_toArray, List.set_cons_succ, List.set_cons_zero]
              repeat (first | go_big_quiet_skip | (go_big_quiet_want; go_big_quiet_op; first | go_big_quiet_on | (refine ⟨_, fun _ _ => rfl, ?_⟩; go_big_quiet_on)))
              refine wpQuiet_unguard rfl ?_
              repeat (first | go_big_quiet_skip | (go_big_quiet_want; go_big_quiet_op; first | go_big_quiet_on | (refine ⟨_, fun _ _ => rfl, ?_⟩; go_big_quiet_on)))
              refine wpQuiet_load_cell rfl 3 (.tmp 33) rfl w3.heap.size 0 rfl _ Tryz.underlying3 rfl (.int .i64 pi) (fun W hW => cell_keep (n := w4.heap.size) ((BB5.out.cell (p := ⟨w3.heap.size, 0, none⟩) LX.out).trans X0.out) (LX.out) hW) ?_
              simp only [Act.put, List.setIfInBounds_toArray, List.set_cons_succ, List.set_cons_zero]
              repeat (first | go_big_quiet_skip | (go_big_quiet_want; go_big_quiet_op; first | go_big_quiet_on | (refine ⟨_, fun _ _ => rfl, ?_⟩; go_big_quiet_on)))
              refine wpQuiet_unguard rfl ?_
              repeat (first | go_big_quiet_skip | (go_big_quiet_want; go_big_quiet_op; first | go_big_quiet_on | (refine ⟨_, fun _ _ => rfl, ?_⟩; go_big_quiet_on)))
              refine wpQuiet_load_cell rfl 3 (.tmp 53) rfl w3.heap.size 1 rfl _ Tryz.underlying3 rfl (.int .i64 pr) (fun W hW => cell_keep (n := w4.heap.size) ((BB5.out.cell (p := ⟨w3.heap.size, 1, none⟩) LX.out).trans X1.out) (LX.out) hW) ?_
              simp only [Act.put, List.setIfInBounds_toArray, List.set_cons_succ, List.set_cons_zero]
              repeat (first | go_big_quiet_skip | (go_big_quiet_want; go_big_quiet_op; first | go_big_quiet_on | (refine ⟨_, fun _ _ => rfl, ?_⟩; go_big_quiet_on)))
              refine wpQuiet_nil ?_
              refine Tc.plan_one 26 rfl (fun K hK => ?_)
              go_wp2_with fail
              refine (CK.out _).mono ?_
              rintro e w6 ⟨rfl, b6⟩
              have bb := b6.mono BB5.out.size
              have BB6 := Lib.hid (BB5.out.trans bb)
              go_wp2_with fail
              refine hK _ _ (keep_below bb) ?_
              clear hK K bb b6 BB5
              refine Tc.plan_floats [27, 28, 29, 30, 31, 32, 33, 34, 35, 36, 37, 38] [_, _, _, _, _, _, _, _, _, _, _, _] rfl ?_
              dsimp only [List.getElem_toArray, List.getElem_cons_succ, List.getElem_cons_zero]
              repeat (first | go_big_quiet_skip | (go_big_quiet_want; go_big_quiet_op; first | go_big_quiet_on | (refine ⟨_, fun _ _ => rfl, ?_⟩; go_big_quiet_on)))
              refine wpQuiet_unguard rfl ?_
              repeat (first | go_big_quiet_skip | (go_big_quiet_want; go_big_quiet_op; first | go_big_quiet_on | (refine ⟨_, fun _ _ => rfl, ?_⟩; go_big_quiet_on)))
              refine wpQuiet_load_cell rfl 3 (.tmp 59) rfl w3.heap.size 4 rfl _ Tryz.underlying3 rfl (.int .i64 pc) (fun W hW => cell_keep (n := w4.heap.size) ((BB6.out.cell (p := ⟨w3.heap.size, 4, none⟩) LX.out).trans X4c.out) (LX.out) hW) ?_
              simp only [Act.put, List.setIfInBounds_toArray, List.set_cons_succ, List.set_cons_zero]
              repeat (first | go_big_quiet_skip | (go_big_quiet_want; go_big_quiet_op; first | go_big_quiet_on | (refine ⟨_, fun _ _ => rfl, ?_⟩; go_big_quiet_on)))
              refine wpQuiet_unguard rfl ?_
              repeat (first | go_big_quiet_skip | (go_big_quiet_want; go_big_quiet_op; first | go_big_quiet_on | (refine ⟨_, fun _ _ => rfl, ?_⟩; go_big_quiet_on)))
              refine wpQuiet_load_cell rfl 3 (.tmp 64) rfl w3.heap.size 4 rfl _ Tryz.underlying3 rfl (.int .i64 pc) (fun W hW => cell_keep (n := w4.heap.size) ((BB6.out.cell (p := ⟨w3.heap.size, 4, none⟩) LX.out).trans X4c.out) (LX.out) hW) ?_
              simp only [Act.put, List.setIfInBounds_toArray, List.set_cons_succ, List.set_cons_zero]
              repeat (first | go_big_quiet_skip | (go_big_quiet_want; go_big_quiet_op; first | go_big_quiet_on | (refine ⟨_, fun _ _ => rfl, ?_⟩; go_big_quiet_on)))
              refine wpQuiet_nil ?_
              refine Tc.plan_done (l := []) rfl (fun K hK => ?_)
              go_wp2_with fail
              go_meet
              exact ⟨rfl, rfl, Lib.hid (B4.out.trans (BB6.out.mono B4.out.size)), Lib.hid (M4.out.below BB6.out), Lib.hid (X4.out.below BB6.out)⟩
            · obtain ⟨j, rfl⟩ : ∃ j, k = j + 1 := ⟨k - 1, by omega⟩
              have xp := XP.out j rfl
              rw [show off + 5 * j = off + j * 5 by omega] at xp
              rw [show decide (j + 1 = 0) = false from rfl, Bool.false_or, Nat.add_sub_cancel] at HD
              obtain ⟨pv, hpv⟩ : ∃ y, (ps.getD j pe0).i = y := ⟨_, rfl⟩
              rw [hpv] at xp HD
              have j0 : (0 : Int) ≤ (j : Int) := Int.natCast_nonneg j
              have j1 : (j : Int) < (n : Int) := by have := HLT.out; omega
              have j2 : IntKind.i64.wrap (j : Int) = (j : Int) := IntWalk.i64_in _ (by omega)
              have d3 : decide ((0 : Int) < (j : Int) + 1) = true := by rw [decide_eq_true_iff]; omega
              have XQ := Lib.hid xp
              clear k0 XP HPV hpv xp
              cases n0 : decide (pi < 0)
              rotate_left
              · skip
                obtain rfl : hd = false := by rw [HD.out]; simp [n0]
                clear HD OH OA OC OG
                refine Tc.wp_region_plan (keep w4.heap.size) 39 [] (.fl 0 (.fl 1 (.fl 2 (.fl 3 (.fl 4 (.fl 5 (.fl 6 (.fl 7 (.fl 8 (.fl 9 (.fl 10 (.fl 11 (.fl 12 (.fl 13 (.fl 14 (.fl 15 (.fl 16 (.fl 17 (.fl 18 (.fl 19 (.fl 20 (.fl 21 (.fl 22 (.fl 23 (.fl 24 (.fl 25 (.one 26 (.fl 27 (.fl 28 (.fl 29 (.fl 30 (.fl 31 (.fl 32 (.fl 33 (.fl 34 (.fl 35 (.fl 36 (.fl 37 (.fl 38 .done))))))))))))))))))))))))))))))))))))))) (by kernel_rfl) (by kernel_rfl) ?_
                intro w5 b5 e5
                have BB5 : Hid (Below w4.heap.size w4 w5) := Lib.hid b5
                clear b5 e5
                refine Tc.plan_floats [0, 1, 2, 3, 4, 5, 6, 7, 8, 9, 10, 11, 12, 13, 14, 15, 16, 17, 18, 19, 20, 21, 22, 23, 24, 25] [_, _, _, _, _, _, _, _, _, _, _, _, _, _, _, _, _, _, _, _, _, _, _, _, _, _] rfl ?_
                dsimp only [List.getElem_toArray, List.getElem_cons_succ, List.getElem_cons_zero]
                repeat (first | go_big_quiet_skip | (go_big_quiet_want; go_big_quiet_op; first | go_big_quiet_on | (refine ⟨_, fun _ _ => rfl, ?_⟩; go_big_quiet_on)))
                refine wpQuiet_load_cell rfl 3 (.tmp 29) rfl w3.heap.size 0 rfl _ Tryz.underlying3 rfl (.int .i64 pi) (fun W hW => cell_keep (n := w4.heap.size) ((BB5.out.cell (p := ⟨w3.heap.size, 0, none⟩) LX.out).trans X0.out) (LX.out) hW) ?_
                simp only [Act.put, List.setIfInBounds_toArray, List.set_cons_succ, List.set_cons_zero]
                repeat (first | go_big_quiet_skip | (go_big_quiet_want; go_big_quiet_op; first | go_big_quiet_on | (refine ⟨_, fun _ _ => rfl, ?_⟩; go_big_quiet_on)))
                refine wpQuiet_nil ?_
                refine Tc.plan_one 26 rfl (fun K hK => ?_)
                refine wpList_pass rfl ?_
                refine hK _ _ (keep_below (Below.refl _ _)) ?_
                clear hK K
                (try dsimp only [Act.put])
                refine Tc.plan_floats [27, 28, 29, 30, 31, 32, 33, 34, 35, 36, 37, 38] [_, _, _, _, _, _, _, _, _, _, _, _] rfl ?_
                dsimp only [List.getElem_toArray, List.getElem_cons_succ, List.getElem_cons_zero]
                (try simp only [List.setIfInBounds_toArray, List.set_cons_succ, List.set_cons_zero])
                repeat (first | go_big_quiet_skip | (go_big_quiet_want; go_big_quiet_op; first | go_big_quiet_on | (refine ⟨_, fun _ _ => rfl, ?_⟩; go_big_quiet_on)))
                refine wpQuiet_nil ?_
                refine Tc.plan_done (l := []) rfl (fun K hK => ?_)
                go_wp2_with fail
                go_meet
                exact ⟨rfl, rfl, Lib.hid (B4.out.trans (BB5.out.mono B4.out.size)), Lib.hid (M4.out.below BB5.out), Lib.hid (X4.out.below BB5.out)⟩
              cases n1 : decide (64 ≤ pi)
              rotate_left
              · skip
                obtain rfl : hd = false := by rw [HD.out]; simp [n0, n1]
                clear HD OH OA OC OG
                refine Tc.wp_region_plan (keep w4.heap.size) 39 [] (.fl 0 (.fl 1 (.fl 2 (.fl 3 (.fl 4 (.fl 5 (.fl 6 (.fl 7 (.fl 8 (.fl 9 (.fl 10 (.fl 11 (.fl 12 (.fl 13 (.fl 14 (.fl 15 (.fl 16 (.fl 17 (.fl 18 (.fl 19 (.fl 20 (.fl 21 (.fl 22 (.fl 23 (.fl 24 (.fl 25 (.one 26 (.fl 27 (.fl 28 (.fl 29 (.fl 30 (.fl 31 (.fl 32 (.fl 33 (.fl 34 (.fl 35 (.fl 36 (.fl 37 (.fl 38 .done))))))))))))))))))))))))))))))))))))))) (by kernel_rfl) (by kernel_rfl) ?_
                intro w5 b5 e5
                have BB5 : Hid (Below w4.heap.size w4 w5) := Lib.hid b5
                clear b5 e5
                refine Tc.plan_floats [0, 1, 2, 3, 4, 5, 6, 7, 8, 9, 10, 11, 12, 13, 14, 15, 16, 17, 18, 19, 20, 21, 22, 23, 24, 25] [_, _, _, _, _, _, _, _, _, _, _, _, _, _, _, _, _, _, _, _, _, _, _, _, _, _] rfl ?_
                dsimp only [List.getElem_toArray, List.getElem_cons_succ, List.getElem_cons_zero]
                repeat (first | go_big_quiet_skip | (go_big_quiet_want; go_big_quiet_op; first | go_big_quiet_on | (refine ⟨_, fun _ _ => rfl, ?_⟩; go_big_quiet_on)))
                refine wpQuiet_load_cell rfl 3 (.tmp 29) rfl w3.heap.size 0 rfl _ Tryz.underlying3 rfl (.int .i64 pi) (fun W hW => cell_keep (n := w4.heap.size) ((BB5.out.cell (p := ⟨w3.heap.size, 0, none⟩) LX.out).trans X0.out) (LX.out) hW) ?_
                simp only [Act.put, List.setIfInBounds_toArray, List.set_cons_succ, List.set_cons_zero]
                repeat (first | go_big_quiet_skip | (go_big_quiet_want; go_big_quiet_op; first | go_big_quiet_on | (refine ⟨_, fun _ _ => rfl, ?_⟩; go_big_quiet_on)))
                refine wpQuiet_unguard rfl ?_
                repeat (first | go_big_quiet_skip | (go_big_quiet_want; go_big_quiet_op; first | go_big_quiet_on | (refine ⟨_, fun _ _ => rfl, ?_⟩; go_big_quiet_on)))
                refine wpQuiet_load_cell rfl 3 (.tmp 33) rfl w3.heap.size 0 rfl _ Tryz.underlying3 rfl (.int .i64 pi) (fun W hW => cell_keep (n := w4.heap.size) ((BB5.out.cell (p := ⟨w3.heap.size, 0, none⟩) LX.out).trans X0.out) (LX.out) hW) ?_
                simp only [Act.put, List.setIfInBounds_toArray, List.set_cons_succ, List.set_cons_zero]
                repeat (first | go_big_quiet_skip | (go_big_quiet_want; go_big_quiet_op; first | go_big_quiet_on | (refine ⟨_, fun _ _ => rfl, ?_⟩; go_big_quiet_on)))
                refine wpQuiet_nil ?_
                refine Tc.plan_one 26 rfl (fun K hK => ?_)
                refine wpList_pass rfl ?_
                refine hK _ _ (keep_below (Below.refl _ _)) ?_
                clear hK K
                (try dsimp only [Act.put])
                refine Tc.plan_floats [27, 28, 29, 30, 31, 32, 33, 34, 35, 36, 37, 38] [_, _, _, _, _, _, _, _, _, _, _, _] rfl ?_
                dsimp only [List.getElem_toArray, List.getElem_cons_succ, List.getElem_cons_zero]
                (try simp only [List.setIfInBounds_toArray, List.set_cons_succ, List.set_cons_zero])
                repeat (first | go_big_quiet_skip | (go_big_quiet_want; go_big_quiet_op; first | go_big_quiet_on | (refine ⟨_, fun _ _ => rfl, ?_⟩; go_big_quiet_on)))
                refine wpQuiet_nil ?_
                refine Tc.plan_done (l := []) rfl (fun K hK => ?_)
                go_wp2_with fail
                go_meet
                exact ⟨rfl, rfl, Lib.hid (B4.out.trans (BB5.out.mono B4.out.size)), Lib.hid (M4.out.below BB5.out), Lib.hid (X4.out.below BB5.out)⟩
              cases n3 : decide (pi ≤ pv)
              rotate_left
              · skip
                obtain rfl : hd = false := by rw [HD.out]; simp [n0, n1, n3]
                clear HD OH OA OC OG
                refine Tc.wp_region_plan (keep w4.heap.size) 39 [] (.fl 0 (.fl 1 (.fl 2 (.fl 3 (.fl 4 (.fl 5 (.fl 6 (.fl 7 (.fl 8 (.fl 9 (.fl 10 (.fl 11 (.fl 12 (.fl 13 (.fl 14 (.fl 15 (.fl 16 (.fl 17 (.fl 18 (.fl 19 (.fl 20 (.fl 21 (.fl 22 (.fl 23 (.fl 24 (.fl 25 (.one 26 (.fl 27 (.fl 28 (.fl 29 (.fl 30 (.fl 31 (.fl 32 (.fl 33 (.fl 34 (.fl 35 (.fl 36 (.fl 37 (.fl 38 .done))))))))))))))))))))))))))))))))))))))) (by kernel_rfl) (by kernel_rfl) ?_
                intro w5 b5 e5
                have BB5 : Hid (Below w4.heap.size w4 w5) := Lib.hid b5
                clear b5 e5
                refine Tc.plan_floats [0, 1, 2, 3, 4, 5, 6, 7, 8, 9, 10, 11, 12, 13, 14, 15, 16, 17, 18, 19, 20, 21, 22, 23, 24, 25] [_, _, _, _, _, _, _, _, _, _, _, _, _, _, _, _, _, _, _, _, _, _, _, _, _, _] rfl ?_
                dsimp only [List.getElem_toArray, List.getElem_cons_succ, List.getElem_cons_zero]
                repeat (first | go_big_quiet_skip | (go_big_quiet_want; go_big_quiet_op; first | go_big_quiet_on | (refine ⟨_, fun _ _ => rfl, ?_⟩; go_big_quiet_on)))
                refine wpQuiet_load_cell rfl 3 (.tmp 29) rfl w3.heap.size 0 rfl _ Tryz.underlying3 rfl (.int .i64 pi) (fun W hW => cell_keep (n := w4.heap.size) ((BB5.out.cell (p := ⟨w3.heap.size, 0, none⟩) LX.out).trans X0.out) (LX.out) hW) ?_
                simp only [Act.put, List.setIfInBounds_toArray, List.set_cons_succ, List.set_cons_zero]
                repeat (first | go_big_quiet_skip | (go_big_quiet_want; go_big_quiet_op; first | go_big_quiet_on | (refine ⟨_, fun _ _ => rfl, ?_⟩; go_big_quiet_on)))
                refine wpQuiet_unguard rfl ?_
                repeat (first | go_big_quiet_skip | (go_big_quiet_want; go_big_quiet_op; first | go_big_quiet_on | (refine ⟨_, fun _ _ => rfl, ?_⟩; go_big_quiet_on)))
                refine wpQuiet_load_cell rfl 3 (.tmp 33) rfl w3.heap.size 0 rfl _ Tryz.underlying3 rfl (.int .i64 pi) (fun W hW => cell_keep (n := w4.heap.size) ((BB5.out.cell (p := ⟨w3.heap.size, 0, none⟩) LX.out).trans X0.out) (LX.out) hW) ?_
                simp only [Act.put, List.setIfInBounds_toArray, List.set_cons_succ, List.set_cons_zero]
                repeat (first | go_big_quiet_skip | (go_big_quiet_want; go_big_quiet_op; first | go_big_quiet_on | (refine ⟨_, fun _ _ => rfl, ?_⟩; go_big_quiet_on)))
                refine wpQuiet_unguard rfl ?_
                repeat (first | go_big_quiet_skip | (go_big_quiet_want; go_big_quiet_op; first | go_big_quiet_on | (refine ⟨_, fun _ _ => rfl, ?_⟩; go_big_quiet_on)))
                refine wpQuiet_load_cell rfl 3 (.tmp 41) rfl w3.heap.size 0 rfl _ Tryz.underlying3 rfl (.int .i64 pi) (fun W hW => cell_keep (n := w4.heap.size) ((BB5.out.cell (p := ⟨w3.heap.size, 0, none⟩) LX.out).trans X0.out) (LX.out) hW) ?_
                simp only [Act.put, List.setIfInBounds_toArray, List.set_cons_succ, List.set_cons_zero]
                repeat (first | go_big_quiet_skip | (go_big_quiet_want; go_big_quiet_op; first | go_big_quiet_on | (refine ⟨_, fun _ _ => rfl, ?_⟩; go_big_quiet_on)))
                refine wpQuiet_unguard rfl ?_
                repeat (first | go_big_quiet_skip | (go_big_quiet_want; go_big_quiet_op; first | go_big_quiet_on | (refine ⟨_, fun _ _ => rfl, ?_⟩; go_big_quiet_on)))
                refine wpQuiet_load_cell rfl 3 (.tmp 47) rfl b (off + j * 5) rfl _ Tryz.underlying3 rfl (.int .i64 pv) (fun W hW => cell_keep (n := w4.heap.size) ((BB5.out.cell (p := ⟨b, (off + j * 5), none⟩) LB.out).trans XQ.out) (LB.out) hW) ?_
                simp only [Act.put, List.setIfInBounds_toArray, List.set_cons_succ, List.set_cons_zero]
                repeat (first | go_big_quiet_skip | (go_big_quiet_want; go_big_quiet_op; first | go_big_quiet_on | (refine ⟨_, fun _ _ => rfl, ?_⟩; go_big_quiet_on)))
                refine wpQuiet_nil ?_
                refine Tc.plan_one 26 rfl (fun K hK => ?_)
                refine wpList_pass rfl ?_
                refine hK _ _ (keep_below (Below.refl _ _)) ?_
                clear hK K
                (try dsimp only [Act.put])
                refine Tc.plan_floats [27, 28, 29, 30, 31, 32, 33, 34, 35, 36, 37, 38] [_, _, _, _, _, _, _, _, _, _, _, _] rfl ?_
                dsimp only [List.getElem_toArray, List.getElem_cons_succ, List.getElem_cons_zero]
                (try simp only [List.setIfInBounds_toArray, List.set_cons_succ, List.set_cons_zero])
                repeat (first | go_big_quiet_skip | (go_big_quiet_want; go_big_quiet_op; first | go_big_quiet_on | (refine ⟨_, fun _ _ => rfl, ?_⟩; go_big_quiet_on)))
                refine wpQuiet_nil ?_
                refine Tc.plan_done (l := []) rfl (fun K hK => ?_)
                go_wp2_with fail
                go_meet
                exact ⟨rfl, rfl, Lib.hid (B4.out.trans (BB5.out.mono B4.out.size)), Lib.hid (M4.out.below BB5.out), Lib.hid (X4.out.below BB5.out)⟩
              cases ev
              · skip
                obtain rfl : hd = false := by rw [HD.out]; simp [n0, n1, n3]
                clear HD OH OA OC OG
                refine Tc.wp_region_plan (keep w4.heap.size) 39 [] (.fl 0 (.fl 1 (.fl 2 (.fl 3 (.fl 4 (.fl 5 (.fl 6 (.fl 7 (.fl 8 (.fl 9 (.fl 10 (.fl 11 (.fl 12 (.fl 13 (.fl 14 (.fl 15 (.fl 16 (.fl 17 (.fl 18 (.fl 19 (.fl 20 (.fl 21 (.fl 22 (.fl 23 (.fl 24 (.fl 25 (.one 26 (.fl 27 (.fl 28 (.fl 29 (.fl 30 (.fl 31 (.fl 32 (.fl 33 (.fl 34 (.fl 35 (.fl 36 (.fl 37 (.fl 38 .done))))))))))))))))))))))))))))))))))))))) (by kernel_rfl) (by kernel_rfl) ?_
                intro w5 b5 e5
                have BB5 : Hid (Below w4.heap.size w4 w5) := Lib.hid b5
                clear b5 e5
                refine Tc.plan_floats [0, 1, 2, 3, 4, 5, 6, 7, 8, 9, 10, 11, 12, 13, 14, 15, 16, 17, 18, 19, 20, 21, 22, 23, 24, 25] [_, _, _, _, _, _, _, _, _, _, _, _, _, _, _, _, _, _, _, _, _, _, _, _, _, _] rfl ?_
                dsimp only [List.getElem_toArray, List.getElem_cons_succ, List.getElem_cons_zero]
                repeat (first | go_big_quiet_skip | (go_big_quiet_want; go_big_quiet_op; first | go_big_quiet_on | (refine ⟨_, fun _ _ => rfl, ?_⟩; go_big_quiet_on)))
                refine wpQuiet_load_cell rfl 3 (.tmp 29) rfl w3.heap.size 0 rfl _ Tryz.underlying3 rfl (.int .i64 pi) (fun W hW => cell_keep (n := w4.heap.size) ((BB5.out.cell (p := ⟨w3.heap.size, 0, none⟩) LX.out).trans X0.out) (LX.out) hW) ?_
                simp only [Act.put, List.setIfInBounds_toArray, List.set_cons_succ, List.set_cons_zero]
                repeat (first | go_big_quiet_skip | (go_big_quiet_want; go_big_quiet_op; first | go_big_quiet_on | (refine ⟨_, fun _ _ => rfl, ?_⟩; go_big_quiet_on)))
                refine wpQuiet_unguard rfl ?_
                repeat (first | go_big_quiet_skip | (go_big_quiet_want; go_big_quiet_op; first | go_big_quiet_on | (refine ⟨_, fun _ _ => rfl, ?_⟩; go_big_quiet_on)))
                refine wpQuiet_load_cell rfl 3 (.tmp 33) rfl w3.heap.size 0 rfl _ Tryz.underlying3 rfl (.int .i64 pi) (fun W hW => cell_keep (n := w4.heap.size) ((BB5.out.cell (p := ⟨w3.heap.size, 0, none⟩) LX.out).trans X0.out) (LX.out) hW) ?_
                simp only [Act.put, List.setIfInBounds_toArray, List.set_cons_succ, List.set_cons_zero]
                repeat (first | go_big_quiet_skip | (go_big_quiet_want; go_big_quiet_op; first | go_big_quiet_on | (refine ⟨_, fun _ _ => rfl, ?_⟩; go_big_quiet_on)))
                refine wpQuiet_unguard rfl ?_
                repeat (first | go_big_quiet_skip | (go_big_quiet_want; go_big_quiet_op; first | go_big_quiet_on | (refine ⟨_, fun _ _ => rfl, ?_⟩; go_big_quiet_on)))
                refine wpQuiet_load_cell rfl 3 (.tmp 41) rfl w3.heap.size 0 rfl _ Tryz.underlying3 rfl (.int .i64 pi) (fun W hW => cell_keep (n := w4.heap.size) ((BB5.out.cell (p := ⟨w3.heap.size, 0, none⟩) LX.out).trans X0.out) (LX.out) hW) ?_
                simp only [Act.put, List.setIfInBounds_toArray, List.set_cons_succ, List.set_cons_zero]
                repeat (first | go_big_quiet_skip | (go_big_quiet_want; go_big_quiet_op; first | go_big_quiet_on | (refine ⟨_, fun _ _ => rfl, ?_⟩; go_big_quiet_on)))
                refine wpQuiet_unguard rfl ?_
                repeat (first | go_big_quiet_skip | (go_big_quiet_want; go_big_quiet_op; first | go_big_quiet_on | (refine ⟨_, fun _ _ => rfl, ?_⟩; go_big_quiet_on)))
                refine wpQuiet_load_cell rfl 3 (.tmp 47) rfl b (off + j * 5) rfl _ Tryz.underlying3 rfl (.int .i64 pv) (fun W hW => cell_keep (n := w4.heap.size) ((BB5.out.cell (p := ⟨b, (off + j * 5), none⟩) LB.out).trans XQ.out) (LB.out) hW) ?_
                simp only [Act.put, List.setIfInBounds_toArray, List.set_cons_succ, List.set_cons_zero]
                repeat (first | go_big_quiet_skip | (go_big_quiet_want; go_big_quiet_op; first | go_big_quiet_on | (refine ⟨_, fun _ _ => rfl, ?_⟩; go_big_quiet_on)))
                refine wpQuiet_unguard rfl ?_
                repeat (first | go_big_quiet_skip | (go_big_quiet_want; go_big_quiet_op; first | go_big_quiet_on | (refine ⟨_, fun _ _ => rfl, ?_⟩; go_big_quiet_on)))
                refine wpQuiet_load_cell rfl 3 (.tmp 53) rfl w3.heap.size 1 rfl _ Tryz.underlying3 rfl (.int .i64 pr) (fun W hW => cell_keep (n := w4.heap.size) ((BB5.out.cell (p := ⟨w3.heap.size, 1, none⟩) LX.out).trans X1.out) (LX.out) hW) ?_
                simp only [Act.put, List.setIfInBounds_toArray, List.set_cons_succ, List.set_cons_zero]
                repeat (first | go_big_quiet_skip | (go_big_quiet_want; go_big_quiet_op; first | go_big_quiet_on | (refine ⟨_, fun _ _ => rfl, ?_⟩; go_big_quiet_on)))
                refine wpQuiet_nil ?_
                refine Tc.plan_one 26 rfl (fun K hK => ?_)
                go_wp2_with fail
                refine (CK.out _).mono ?_
                rintro e w6 ⟨rfl, b6⟩
                have bb := b6.mono BB5.out.size
                have BB6 := Lib.hid (BB5.out.trans bb)
                go_wp2_with fail
                refine hK _ _ (keep_below bb) ?_
                clear hK K bb b6 BB5
                refine Tc.plan_floats [27, 28, 29, 30, 31, 32, 33, 34, 35, 36, 37, 38] [_, _, _, _, _, _, _, _, _, _, _, _] rfl ?_
                dsimp only [List.getElem_toArray, List.getElem_cons_succ, List.getElem_cons_zero]
                repeat (first | go_big_quiet_skip | (go_big_quiet_want; go_big_quiet_op; first | go_big_quiet_on | (refine ⟨_, fun _ _ => rfl, ?_⟩; go_big_quiet_on)))
                refine wpQuiet_nil ?_
                refine Tc.plan_done (l := []) rfl (fun K hK => ?_)
                go_wp2_with fail
                go_meet
                exact ⟨rfl, rfl, Lib.hid (B4.out.trans (BB6.out.mono B4.out.size)), Lib.hid (M4.out.below BB6.out), Lib.hid (X4.out.below BB6.out)⟩
              cases n4 : decide (pc < 0)
              rotate_left
              · skip
                obtain rfl : hd = false := by rw [HD.out]; simp [n0, n1, n4, n3]
                clear HD OH OA OC OG
                refine Tc.wp_region_plan (keep w4.heap.size) 39 [] (.fl 0 (.fl 1 (.fl 2 (.fl 3 (.fl 4 (.fl 5 (.fl 6 (.fl 7 (.fl 8 (.fl 9 (.fl 10 (.fl 11 (.fl 12 (.fl 13 (.fl 14 (.fl 15 (.fl 16 (.fl 17 (.fl 18 (.fl 19 (.fl 20 (.fl 21 (.fl 22 (.fl 23 (.fl 24 (.fl 25 (.one 26 (.fl 27 (.fl 28 (.fl 29 (.fl 30 (.fl 31 (.fl 32 (.fl 33 (.fl 34 (.fl 35 (.fl 36 (.fl 37 (.fl 38 .done))))))))))))))))))))))))))))))))))))))) (by kernel_rfl) (by kernel_rfl) ?_
                intro w5 b5 e5
                have BB5 : Hid (Below w4.heap.size w4 w5) := Lib.hid b5
                clear b5 e5
                refine Tc.plan_floats [0, 1, 2, 3, 4, 5, 6, 7, 8, 9, 10, 11, 12, 13, 14, 15, 16, 17, 18, 19, 20, 21, 22, 23, 24, 25] [_, _, _, _, _, _, _, _, _, _, _, _, _, _, _, _, _, _, _, _, _, _, _, _, _, _] rfl ?_
                dsimp only [List.getElem_toArray, List.getElem_cons_succ, List.getElem_cons_zero]
                repeat (first | go_big_quiet_skip | (go_big_quiet_want; go_big_quiet_op; first | go_big_quiet_on | (refine ⟨_, fun _ _ => rfl, ?_⟩; go_big_quiet_on)))
                refine wpQuiet_load_cell rfl 3 (.tmp 29) rfl w3.heap.size 0 rfl _ Tryz.underlying3 rfl (.int .i64 pi) (fun W hW => cell_keep (n := w4.heap.size) ((BB5.out.cell (p := ⟨w3.heap.size, 0, none⟩) LX.out).trans X0.out) (LX.out) hW) ?_
                simp only [Act.put, List.setIfInBounds_toArray, List.set_cons_succ, List.set_cons_zero]
                repeat (first | go_big_quiet_skip | (go_big_quiet_want; go_big_quiet_op; first | go_big_quiet_on | (refine ⟨_, fun _ _ => rfl, ?_⟩; go_big_quiet_on)))
                refine wpQuiet_unguard rfl ?_
                repeat (first | go_big_quiet_skip | (go_big_quiet_want; go_big_quiet_op; first | go_big_quiet_on | (refine ⟨_, fun _ _ => rfl, ?_⟩; go_big_quiet_on)))
                refine wpQuiet_load_cell rfl 3 (.tmp 33) rfl w3.heap.size 0 rfl _ Tryz.underlying3 rfl (.int .i64 pi) (fun W hW => cell_keep (n := w4.heap.size) ((BB5.out.cell (p := ⟨w3.heap.size, 0, none⟩) LX.out).trans X0.out) (LX.out) hW) ?_
                simp only [Act.put, List.setIfInBounds_toArray, List.set_cons_succ, List.set_cons_zero]
                repeat (first | go_big_quiet_skip | (go_big_quiet_want; go_big_quiet_op; first | go_big_quiet_on | (refine ⟨_, fun _ _ => rfl, ?_⟩; go_big_quiet_on)))
                refine wpQuiet_unguard rfl ?_
                repeat (first | go_big_quiet_skip | (go_big_quiet_want; go_big_quiet_op; first | go_big_quiet_on | (refine ⟨_, fun _ _ => rfl, ?_⟩; go_big_quiet_on)))
                refine wpQuiet_load_cell rfl 3 (.tmp 41) rfl w3.heap.size 0 rfl _ Tryz.underlying3 rfl (.int .i64 pi) (fun W hW => cell_keep (n := w4.heap.size) ((BB5.out.cell (p := ⟨w3.heap.size, 0, none⟩) LX.out).trans X0.out) (LX.out) hW) ?_
                simp only [Act.put, List.setIfInBounds_toArray, List.set_cons_succ, List.set_cons_zero]
                repeat (first | go_big_quiet_skip | (go_big_quiet_want; go_big_quiet_op; first | go_big_quiet_on | (refine ⟨_, fun _ _ => rfl, ?_⟩; go_big_quiet_on)))
                refine wpQuiet_unguard rfl ?_
                repeat (first | go_big_quiet_skip | (go_big_quiet_want; go_big_quiet_op; first | go_big_quiet_on | (refine ⟨_, fun _ _ => rfl, ?_⟩; go_big_quiet_on)))
                refine wpQuiet_load_cell rfl 3 (.tmp 47) rfl b (off + j * 5) rfl _ Tryz.underlying3 rfl (.int .i64 pv) (fun W hW => cell_keep (n := w4.heap.size) ((BB5.out.cell (p := ⟨b, (off + j * 5), none⟩) LB.out).trans XQ.out) (LB.out) hW) ?_
                simp only [Act.put, List.setIfInBounds_toArray, List.set_cons_succ, List.set_cons_zero]
                repeat (first | go_big_quiet_skip | (go_big_quiet_want; go_big_quiet_op; first | go_big_quiet_on | (refine ⟨_, fun _ _ => rfl, ?_⟩; go_big_quiet_on)))
                refine wpQuiet_unguard rfl ?_
                repeat (first | go_big_quiet_skip | (go_big_quiet_want; go_big_quiet_op; first | go_big_quiet_on | (refine ⟨_, fun _ _ => rfl, ?_⟩; go_big_quiet_on)))
                refine wpQuiet_load_cell rfl 3 (.tmp 53) rfl w3.heap.size 1 rfl _ Tryz.underlying3 rfl (.int .i64 pr) (fun W hW => cell_keep (n := w4.heap.size) ((BB5.out.cell (p := ⟨w3.heap.size, 1, none⟩) LX.out).trans X1.out) (LX.out) hW) ?_
                simp only [Act.put, List.setIfInBounds_toArray, List.set_cons_succ, List.set_cons_zero]
                repeat (first | go_big_quiet_skip | (go_big_quiet_want; go_big_quiet_op; first | go_big_quiet_on | (refine ⟨_, fun _ _ => rfl, ?_⟩; go_big_quiet_on)))
                refine wpQuiet_nil ?_
                refine Tc.plan_one 26 rfl (fun K hK => ?_)
                go_wp2_with fail
                refine (CK.out _).mono ?_
                rintro e w6 ⟨rfl, b6⟩
                have bb := b6.mono BB5.out.size
                have BB6 := Lib.hid (BB5.out.trans bb)
                go_wp2_with fail
                refine hK _ _ (keep_below bb) ?_
                clear hK K bb b6 BB5
                refine Tc.plan_floats [27, 28, 29, 30, 31, 32, 33, 34, 35, 36, 37, 38] [_, _, _, _, _, _, _, _, _, _, _, _] rfl ?_
                dsimp only [List.getElem_toArray, List.getElem_cons_succ, List.getElem_cons_zero]
                repeat (first | go_big_quiet_skip | (go_big_quiet_want; go_big_quiet_op; first | go_big_quiet_on | (refine ⟨_, fun _ _ => rfl, ?_⟩; go_big_quiet_on)))
                refine wpQuiet_unguard rfl ?_
                repeat (first | go_big_quiet_skip | (go_big_quiet_want; go_big_quiet_op; first | go_big_quiet_on | (refine ⟨_, fun _ _ => rfl, ?_⟩; go_big_quiet_on)))
                refine wpQuiet_load_cell rfl 3 (.tmp 59) rfl w3.heap.size 4 rfl _ Tryz.underlying3 rfl (.int .i64 pc) (fun W hW => cell_keep (n := w4.heap.size) ((BB6.out.cell (p := ⟨w3.heap.size, 4, none⟩) LX.out).trans X4c.out) (LX.out) hW) ?_
                simp only [Act.put, List.setIfInBounds_toArray, List.set_cons_succ, List.set_cons_zero]
                repeat (first | go_big_quiet_skip | (go_big_quiet_want; go_big_quiet_op; first | go_big_quiet_on | (refine ⟨_, fun _ _ => rfl, ?_⟩; go_big_quiet_on)))
                refine wpQuiet_nil ?_
                refine Tc.plan_done (l := []) rfl (fun K hK => ?_)
                go_wp2_with fail
                go_meet
                exact ⟨rfl, rfl, Lib.hid (B4.out.trans (BB6.out.mono B4.out.size)), Lib.hid (M4.out.below BB6.out), Lib.hid (X4.out.below BB6.out)⟩
              cases n5 : decide (1048576 < pc)
              rotate_left
              · skip
                obtain rfl : hd = false := by rw [HD.out]; simp [n0, n1, n4, n5, n3]
                clear HD OH OA OC OG
                refine Tc.wp_region_plan (keep w4.heap.size) 39 [] (.fl 0 (.fl 1 (.fl 2 (.fl 3 (.fl 4 (.fl 5 (.fl 6 (.fl 7 (.fl 8 (.fl 9 (.fl 10 (.fl 11 (.fl 12 (.fl 13 (.fl 14 (.fl 15 (.fl 16 (.fl 17 (.fl 18 (.fl 19 (.fl 20 (.fl 21 (.fl 22 (.fl 23 (.fl 24 (.fl 25 (.one 26 (.fl 27 (.fl 28 (.fl 29 (.fl 30 (.fl 31 (.fl 32 (.fl 33 (.fl 34 (.fl 35 (.fl 36 (.fl 37 (.fl 38 .done))))))))))))))))))))))))))))))))))))))) (by kernel_rfl) (by kernel_rfl) ?_
                intro w5 b5 e5
                have BB5 : Hid (Below w4.heap.size w4 w5) := Lib.hid b5
                clear b5 e5
                refine Tc.plan_floats [0, 1, 2, 3, 4, 5, 6, 7, 8, 9, 10, 11, 12, 13, 14, 15, 16, 17, 18, 19, 20, 21, 22, 23, 24, 25] [_, _, _, _, _, _, _, _, _, _, _, _, _, _, _, _, _, _, _, _, _, _, _, _, _, _] rfl ?_
                dsimp only [List.getElem_toArray, List.getElem_cons_succ, List.getElem_cons_zero]
                repeat (first | go_big_quiet_skip | (go_big_quiet_want; go_big_quiet_op; first | go_big_quiet_on | (refine ⟨_, fun _ _ => rfl, ?_⟩; go_big_quiet_on)))
                refine wpQuiet_load_cell rfl 3 (.tmp 29) rfl w3.heap.size 0 rfl _ Tryz.underlying3 rfl (.int .i64 pi) (fun W hW => cell_keep (n := w4.heap.size) ((BB5.out.cell (p := ⟨w3.heap.size, 0, none⟩) LX.out).trans X0.out) (LX.out) hW) ?_
                simp only [Act.put, List.setIfInBounds_toArray, List.set_cons_succ, List.set_cons_zero]
                repeat (first | go_big_quiet_skip | (go_big_quiet_want; go_big_quiet_op; first | go_big_quiet_on | (refine ⟨_, fun _ _ => rfl, ?_⟩; go_big_quiet_on)))
                refine wpQuiet_unguard rfl ?_
                repeat (first | go_big_quiet_skip | (go_big_quiet_want; go_big_quiet_op; first | go_big_quiet_on | (refine ⟨_, fun _ _ => rfl, ?_⟩; go_big_quiet_on)))
                refine wpQuiet_load_cell rfl 3 (.tmp 33) rfl w3.heap.size 0 rfl _ Tryz.underlying3 rfl (.int .i64 pi) (fun W hW => cell_keep (n := w4.heap.size) ((BB5.out.cell (p := ⟨w3.heap.size, 0, none⟩) LX.out).trans X0.out) (LX.out) hW) ?_
                simp only [Act.put, List.setIfInBounds_toArray, List.set_cons_succ, List.set_cons_zero]
                repeat (first | go_big_quiet_skip | (go_big_quiet_want; go_big_quiet_op; first | go_big_quiet_on | (refine ⟨_, fun _ _ => rfl, ?_⟩; go_big_quiet_on)))
                refine wpQuiet_unguard rfl ?_
                repeat (first | go_big_quiet_skip | (go_big_quiet_want; go_big_quiet_op; first | go_big_quiet_on | (refine ⟨_, fun _ _ => rfl, ?_⟩; go_big_quiet_on)))
                refine wpQuiet_load_cell rfl 3 (.tmp 41) rfl w3.heap.size 0 rfl _ Tryz.underlying3 rfl (.int .i64 pi) (fun W hW => cell_keep (n := w4.heap.size) ((BB5.out.cell (p := ⟨w3.heap.size, 0, none⟩) LX.out).trans X0.out) (LX.out) hW) ?_
                simp only [Act.put, List.setIfInBounds_toArray, List.set_cons_succ, List.set_cons_zero]
                repeat (first | go_big_quiet_skip | (go_big_quiet_want; go_big_quiet_op; first | go_big_quiet_on | (refine ⟨_, fun _ _ => rfl, ?_⟩; go_big_quiet_on)))
                refine wpQuiet_unguard rfl ?_
                repeat (first | go_big_quiet_skip | (go_big_quiet_want; go_big_quiet_op; first | go_big_quiet_on | (refine ⟨_, fun _ _ => rfl, ?_⟩; go_big_quiet_on)))
                refine wpQuiet_load_cell rfl 3 (.tmp 47) rfl b (off + j * 5) rfl _ Tryz.underlying3 rfl (.int .i64 pv) (fun W hW => cell_keep (n := w4.heap.size) ((BB5.out.cell (p := ⟨b, (off + j * 5), none⟩) LB.out).trans XQ.out) (LB.out) hW) ?_
                simp only [Act.put, List.setIfInBounds_toArray, List.set_cons_succ, List.set_cons_zero]
                repeat (first | go_big_quiet_skip | (go_big_quiet_want; go_big_quiet_op; first | go_big_quiet_on | (refine ⟨_, fun _ _ => rfl, ?_⟩; go_big_quiet_on)))
                refine wpQuiet_unguard rfl ?_
                repeat (first | go_big_quiet_skip | (go_big_quiet_want; go_big_quiet_op; first | go_big_quiet_on | (refine ⟨_, fun _ _ => rfl, ?_⟩; go_big_quiet_on)))
                refine wpQuiet_load_cell rfl 3 (.tmp 53) rfl w3.heap.size 1 rfl _ Tryz.underlying3 rfl (.int .i64 pr) (fun W hW => cell_keep (n := w4.heap.size) ((BB5.out.cell (p := ⟨w3.heap.size, 1, none⟩) LX.out).trans X1.out) (LX.out) hW) ?_
                simp only [Act.put, List.setIfInBounds_toArray, List.set_cons_succ, List.set_cons_zero]
                repeat (first | go_big_quiet_skip | (go_big_quiet_want; go_big_quiet_op; first | go_big_quiet_on | (refine ⟨_, fun _ _ => rfl, ?_⟩; go_big_quiet_on)))
                refine wpQuiet_nil ?_
                refine Tc.plan_one 26 rfl (fun K hK => ?_)
                go_wp2_with fail
                refine (CK.out _).mono ?_
                rintro e w6 ⟨rfl, b6⟩
                have bb := b6.mono BB5.out.size
                have BB6 := Lib.hid (BB5.out.trans bb)
                go_wp2_with fail
                refine hK _ _ (keep_below bb) ?_
                clear hK K bb b6 BB5
                refine Tc.plan_floats [27, 28, 29, 30, 31, 32, 33, 34, 35, 36, 37, 38] [_, _, _, _, _, _, _, _, _, _, _, _] rfl ?_
                dsimp only [List.getElem_toArray, List.getElem_cons_succ, List.getElem_cons_zero]
                repeat (first | go_big_quiet_skip | (go_big_quiet_want; go_big_quiet_op; first | go_big_quiet_on | (refine ⟨_, fun _ _ => rfl, ?_⟩; go_big_quiet_on)))
                refine wpQuiet_unguard rfl ?_
                repeat (first | go_big_quiet_skip | (go_big_quiet_want; go_big_quiet_op; first | go_big_quiet_on | (refine ⟨_, fun _ _ => rfl, ?_⟩; go_big_quiet_on)))
                refine wpQuiet_load_cell rfl 3 (.tmp 59) rfl w3.heap.size 4 rfl _ Tryz.underlying3 rfl (.int .i64 pc) (fun W hW => cell_keep (n := w4.heap.size) ((BB6.out.cell (p := ⟨w3.heap.size, 4, none⟩) LX.out).trans X4c.out) (LX.out) hW) ?_
                simp only [Act.put, List.setIfInBounds_toArray, List.set_cons_succ, List.set_cons_zero]
                repeat (first | go_big_quiet_skip | (go_big_quiet_want; go_big_quiet_op; first | go_big_quiet_on | (refine ⟨_, fun _ _ => rfl, ?_⟩; go_big_quiet_on)))
                refine wpQuiet_unguard rfl ?_
                repeat (first | go_big_quiet_skip | (go_big_quiet_want; go_big_quiet_op; first | go_big_quiet_on | (refine ⟨_, fun _ _ => rfl, ?_⟩; go_big_quiet_on)))
                refine wpQuiet_load_cell rfl 3 (.tmp 64) rfl w3.heap.size 4 rfl _ Tryz.underlying3 rfl (.int .i64 pc) (fun W hW => cell_keep (n := w4.heap.size) ((BB6.out.cell (p := ⟨w3.heap.size, 4, none⟩) LX.out).trans X4c.out) (LX.out) hW) ?_
                simp only [Act.put, List.setIfInBounds_toArray, List.set_cons_succ, List.set_cons_zero]
                repeat (first | go_big_quiet_skip | (go_big_quiet_want; go_big_quiet_op; first | go_big_quiet_on | (refine ⟨_, fun _ _ => rfl, ?_⟩; go_big_quiet_on)))
                refine wpQuiet_nil ?_
                refine Tc.plan_done (l := []) rfl (fun K hK => ?_)
                go_wp2_with fail
                go_meet
                exact ⟨rfl, rfl, Lib.hid (B4.out.trans (BB6.out.mono B4.out.size)), Lib.hid (M4.out.below BB6.out), Lib.hid (X4.out.below BB6.out)⟩
              obtain rfl : hd = true := by rw [HD.out]; simp [n0, n1, n4, n5, n3]
              clear HD OH OA OC OG
              refine Tc.wp_region_plan (keep w4.heap.size) 39 [] (.fl 0 (.fl 1 (.fl 2 (.fl 3 (.fl 4 (.fl 5 (.fl 6 (.fl 7 (.fl 8 (.fl 9 (.fl 10 (.fl 11 (.fl 12 (.fl 13 (.fl 14 (.fl 15 (.fl 16 (.fl 17 (.fl 18 (.fl 19 (.fl 20 (.fl 21 (.fl 22 (.fl 23 (.fl 24 (.fl 25 (.one 26 (.fl 27 (.fl 28 (.fl 29 (.fl 30 (.fl 31 (.fl 32 (.fl 33 (.fl 34 (.fl 35 (.fl 36 (.fl 37 (.fl 38 .done))))))))))))))))))))))))))))))))))))))) (by kernel_rfl) (by kernel_rfl) ?_
              intro w5 b5 e5
              have BB5 : Hid (Below w4.heap.size w4 w5) := Lib.hid b5
              clear b5 e5
              refine Tc.plan_floats [0, 1, 2, 3, 4, 5, 6, 7, 8, 9, 10, 11, 12, 13, 14, 15, 16, 17, 18, 19, 20, 21, 22, 23, 24, 25] [_, _, _, _, _, _, _, _, _, _, _, _, _, _, _, _, _, _, _, _, _, _, _, _, _, _] rfl ?_
              dsimp only [List.getElem_toArray, List.getElem_cons_succ, List.getElem_cons_zero]
              repeat (first | go_big_quiet_skip | (go_big_quiet_want; go_big_quiet_op; first | go_big_quiet_on | (refine ⟨_, fun _ _ => rfl, ?_⟩; go_big_quiet_on)))
              refine wpQuiet_load_cell rfl 3 (.tmp 29) rfl w3.heap.size 0 rfl _ Tryz.underlying3 rfl (.int .i64 pi) (fun W hW => cell_keep (n := w4.heap.size) ((BB5.out.cell (p := ⟨w3.heap.size, 0, none⟩) LX.out).trans X0.out) (LX.out) hW) ?_
              simp only [Act.put, List.setIfInBounds_toArray, List.set_cons_succ, List.set_cons_zero]
              repeat (first | go_big_quiet_skip | (go_big_quiet_want; go_big_quiet_op; first | go_big_quiet_on | (refine ⟨_, fun _ _ => rfl, ?_⟩; go_big_quiet_on)))
              refine wpQuiet_unguard rfl ?_
              repeat (first | go_big_quiet_skip | (go_big_quiet_want; go_big_quiet_op; first | go_big_quiet_on | (refine ⟨_, fun _ _ => rfl, ?_⟩; go_big_quiet_on)))
              refine wpQuiet_load_cell rfl 3 (.tmp 33) rfl w3.heap.size 0 rfl _ Tryz.underlying3 rfl (.int .i64 pi) (fun W hW => cell_keep (n := w4.heap.size) ((BB5.out.cell (p := ⟨w3.heap.size, 0, none⟩) LX.out).trans X0.out) (LX.out) hW) ?_
              simp only [Act.put, List.setIfInBounds_toArray, List.set_cons_succ, List.set_cons_zero]
              repeat (first | go_big_quiet_skip | (go_big_quiet_want; go_big_quiet_op; first | go_big_quiet_on | (refine ⟨_, fun _ _ => rfl, ?_⟩; go_big_quiet_on)))
              refine wpQuiet_unguard rfl ?_
              repeat (first | go_big_quiet_skip | (go_big_quiet_want; go_big_quiet_op; first | go_big_quiet_on | (refine ⟨_, fun _ _ => rfl, ?_⟩; go_big_quiet_on)))
              refine wpQuiet_load_cell rfl 3 (.tmp 41) rfl w3.heap.size 0 rfl _ Tryz.underlying3 rfl (.int .i64 pi) (fun W hW => cell_keep (n := w4.heap.size) ((BB5.out.cell (p := ⟨w3.heap.size, 0, none⟩) LX.out).trans X0.out) (LX.out) hW) ?_
              simp only [Act.put, List.setIfInBounds_toArray, List.set_cons_succ, List.set_cons_zero]
              repeat (first | go_big_quiet_skip | (go_big_quiet_want; go_big_quiet_op; first | go_big_quiet_on | (refine ⟨_, fun _ _ => rfl, ?_⟩; go_big_quiet_on)))
              refine wpQuiet_unguard rfl ?_
              repeat (first | go_big_quiet_skip | (go_big_quiet_want; go_big_quiet_op; first | go_big_quiet_on | (refine ⟨_, fun _ _ => rfl, ?_⟩; go_big_quiet_on)))
              refine wpQuiet_load_cell rfl 3 (.tmp 47) rfl b (off + j * 5) rfl _ Tryz.underlying3 rfl (.int .i64 pv) (fun W hW => cell_keep (n := w4.heap.size) ((BB5.out.cell (p := ⟨b, (off + j * 5), none⟩) LB.out).trans XQ.out) (LB.out) hW) ?_
              simp only [Act.put, List.setIfInBounds_toArray, List.set_cons_succ, List.set_cons_zero]
              repeat (first | go_big_quiet_skip | (go_big_quiet_want; go_big_quiet_op; first | go_big_quiet_on | (refine ⟨_, fun _ _ => rfl, ?_⟩; go_big_quiet_on)))
              refine wpQuiet_unguard rfl ?_
              repeat (first | go_big_quiet_skip | (go_big_quiet_want; go_big_quiet_op; first | go_big_quiet_on | (refine ⟨_, fun _ _ => rfl, ?_⟩; go_big_quiet_on)))
              refine wpQuiet_load_cell rfl 3 (.tmp 53) rfl w3.heap.size 1 rfl _ Tryz.underlying3 rfl (.int .i64 pr) (fun W hW => cell_keep (n := w4.heap.size) ((BB5.out.cell (p := ⟨w3.heap.size, 1, none⟩) LX.out).trans X1.out) (LX.out) hW) ?_
              simp only [Act.put, List.setIfInBounds_toArray, List.set_cons_succ, List.set_cons_zero]
              repeat (first | go_big_quiet_skip | (go_big_quiet_want; go_big_quiet_op; first | go_big_quiet_on | (refine ⟨_, fun _ _ => rfl, ?_⟩; go_big_quiet_on)))
              refine wpQuiet_nil ?_
              refine Tc.plan_one 26 rfl (fun K hK => ?_)
              go_wp2_with fail
              refine (CK.out _).mono ?_
              rintro e w6 ⟨rfl, b6⟩
              have bb := b6.mono BB5.out.size
              have BB6 := Lib.hid (BB5.out.trans bb)
              go_wp2_with fail
              refine hK _ _ (keep_below bb) ?_
              clear hK K bb b6 BB5
              refine Tc.plan_floats [27, 28, 29, 30, 31, 32, 33, 34, 35, 36, 37, 38] [_, _, _, _, _, _, _, _, _, _, _, _] rfl ?_
              dsimp only [List.getElem_toArray, List.getElem_cons_succ, List.getElem_cons_zero]
              repeat (first | go_big_quiet_skip | (go_big_quiet_want; go_big_quiet_op; first | go_big_quiet_on | (refine ⟨_, fun _ _ => rfl, ?_⟩; go_big_quiet_on)))
              refine wpQuiet_unguard rfl ?_
              repeat (first | go_big_quiet_skip | (go_big_quiet_want; go_big_quiet_op; first | go_big_quiet_on | (refine ⟨_, fun _ _ => rfl, ?_⟩; go_big_quiet_on)))
              refine wpQuiet_load_cell rfl 3 (.tmp 59) rfl w3.heap.size 4 rfl _ Tryz.underlying3 rfl (.int .i64 pc) (fun W hW => cell_keep (n := w4.heap.size) ((BB6.out.cell (p := ⟨w3.heap.size, 4, none⟩) LX.out).trans X4c.out) (LX.out) hW) ?_
              simp only [Act.put, List.setIfInBounds_toArray, List.set_cons_succ, List.set_cons_zero]
              repeat (first | go_big_quiet_skip | (go_big_quiet_want; go_big_quiet_op; first | go_big_quiet_on | (refine ⟨_, fun _ _ => rfl, ?_⟩; go_big_quiet_on)))
              refine wpQuiet_unguard rfl ?_
              repeat (first | go_big_quiet_skip | (go_big_quiet_want; go_big_quiet_op; first | go_big_quiet_on | (refine ⟨_, fun _ _ => rfl, ?_⟩; go_big_quiet_on)))
              refine wpQuiet_load_cell rfl 3 (.tmp 64) rfl w3.heap.size 4 rfl _ Tryz.underlying3 rfl (.int .i64 pc) (fun W hW => cell_keep (n := w4.heap.size) ((BB6.out.cell (p := ⟨w3.heap.size, 4, none⟩) LX.out).trans X4c.out) (LX.out) hW) ?_
              simp only [Act.put, List.setIfInBounds_toArray, List.set_cons_succ, List.set_cons_zero]
              repeat (first | go_big_quiet_skip | (go_big_quiet_want; go_big_quiet_op; first | go_big_quiet_on | (refine ⟨_, fun _ _ => rfl, ?_⟩; go_big_quiet_on)))
              refine wpQuiet_nil ?_
              refine Tc.plan_done (l := []) rfl (fun K hK => ?_)
              go_wp2_with fail
              go_meet
              exact ⟨rfl, rfl, Lib.hid (B4.out.trans (BB6.out.mono B4.out.size)), Lib.hid (M4.out.below BB6.out), Lib.hid (X4.out.below BB6.out)⟩
          case rest =>
            rename World => w5
            obtain ⟨rfl, rfl, B5, M5, X5⟩ := hcut
            clear CK HD HPV XP B4 M4 X4 x0 x1 x4
            cases hd
            · skip
              obtain rfl : R = 371 := OH.out rfl
              clear OH OC OG OA GI
              go_wp2_with fail
              go_ret
              exact ⟨rfl, B5.out⟩
            have OA1 := Lib.hid (OA.out rfl)
            clear OA OH
            obtain ⟨sa, sn, sc⟩ := s
            obtain ⟨hsn, hI⟩ := GI.out
            obtain ⟨m, hm⟩ : ∃ y, p.gs.length = y := ⟨_, rfl⟩
            obtain rfl : sn = m := hsn.trans hm
            have mlen := hI.len_le
            rw [hm] at mlen
            have HI : Hid (IntsS w (.slice sa sn sc) p.gs) := Lib.hid hI
            have HM := Lib.hid hm
            have x2 : w5.cell? ⟨w3.heap.size, 2, none⟩ = some (.slice sa sn sc) := pe_cell X5.out (i := 2) (by decide)
            have x3 : w5.cell? ⟨w3.heap.size, 3, none⟩ = some (.int .i64 p.n) := pe_cell X5.out (i := 3) (by decide)
            have CB : Hid (cntB p = (!decide (16 < (sn : Int)) && (!decide (p.n < min (sn : Int) 1) && !decide ((sn : Int) < p.n)))) := Lib.hid (by unfold cntB; rw [hm])
            obtain ⟨pn, hpn⟩ : ∃ y, p.n = y := ⟨_, rfl⟩
            rw [hpn] at x3 CB
            rw [hm] at OA1 OG
            have sn0 : (0 : Int) ≤ (sn : Int) := Int.natCast_nonneg sn
            clear hI hm hsn hpn GI
            skip
            cases n0 : decide (16 < (sn : Int))
            rotate_left
            · have n0' : decide (16 < sn) = true := by have := of_decide_eq_true n0; rw [decide_eq_true_iff]; omega
              obtain rfl : R = 371 := OC.out (by rw [CB.out]; simp [n0])
              clear OC OG OA1 CB
              go_wp2_with fail
              go_ret
              exact ⟨rfl, B5.out⟩
            have n0' : decide (16 < sn) = false := by have := of_decide_eq_false n0; rw [decide_eq_false_iff_not]; omega
            cases n1 : decide (pn < min (sn : Int) 1)
            rotate_left
            · skip
              obtain rfl : R = 371 := OC.out (by rw [CB.out]; simp [n0, n1])
              clear OC OG OA1 CB
              go_wp2_with fail
              go_ret
              exact ⟨rfl, B5.out⟩
            cases n2 : decide ((sn : Int) < pn)
            rotate_left
            · skip
              obtain rfl : R = 371 := OC.out (by rw [CB.out]; simp [n0, n1, n2])
              clear OC OG OA1 CB
              go_wp2_with fail
              go_ret
              exact ⟨rfl, B5.out⟩
            have OA2 := Lib.hid (OA1.out (by rw [CB.out]; simp [n0, n1, n2]))
            clear OA1 OC CB
            go_upto_region 15 with fail
            go_wp2_with fail
            clear n0 n0' n1 n2 x2 x3
            go_loopg [89] sn (fun gh s89 wx => ∃ j : Nat, j + gh = sn ∧ s89 = .int .i64 (j : Int) ∧ Hid (∀ i, i < j → grdB ps p i = true) ∧ Hid (MapB wx w.heap.size ps) ∧ Hid (RowV wx w3.heap.size 68 5 (peC p ⟨sa, sn, sc⟩)) ∧ Hid (Below w.heap.size w wx))
            case atStart => exact ⟨0, by omega, rfl, Lib.hid (fun i hi => by omega), M5, X5, B5⟩
            case round =>
              clear M5 X5 B5
              obtain ⟨j, hj, rfl, hG, hM, hX, hB⟩ := hrel
              obtain ⟨w6, rfl⟩ : ∃ y, y = wr := ⟨_, rfl⟩
              have q1 : (0 : Int) ≤ (j : Int) := Int.natCast_nonneg j
              by_cases hlt : j < sn
              · have d0 : decide ((j : Int) < (sn : Int)) = true := by rw [decide_eq_true_iff]; omega
                have d1 : decide (j < sn) = true := by rw [decide_eq_true_iff]; omega
                obtain ⟨gb, go, rfl, hcap, hgb, hgc⟩ := SlAt.at_elem (s := 1) (n := sn) (a := sa) (k := sc) (c := fun i _ => .int .i64 (p.gs.getD i 0)) (by have h := HI.out; unfold IntsS at h; rw [HM.out] at h; exact h) hlt
                have HJ := Lib.hid hlt
                have x0 : w6.cell? ⟨w3.heap.size, 0, none⟩ = some (.int .i64 p.i) := pe_cell hX.out (i := 0) (by decide)
                have x2 : w6.cell? ⟨w3.heap.size, 2, none⟩ = some (.slice (some ⟨gb, go, none⟩) sn sc) := pe_cell hX.out (i := 2) (by decide)
                have y0 : w6.cell? ⟨gb, go + j, none⟩ = some (.int .i64 (p.gs.getD j 0)) := (hB.out.cell (p := ⟨gb, go + j, none⟩) hgb).trans (by have := hgc j hlt 0 (by decide); rwa [Nat.one_mul, Nat.add_zero] at this)
                have YP : Hid (∀ t, j = t + 1 → w6.cell? ⟨gb, go + t, none⟩ = some (.int .i64 (p.gs.getD t 0))) := Lib.hid (fun t ht => (hB.out.cell (p := ⟨gb, go + t, none⟩) hgb).trans (by have := hgc t (by omega) 0 (by decide); rwa [Nat.one_mul, Nat.add_zero] at this))
                rw [HPI.out] at x0
                have GJ : Hid (grdB ps p j = (!decide (p.gs.getD j 0 = pi) && (hasB ps (p.gs.getD j 0) && (decide (j = 0) || !decide (p.gs.getD j 0 ≤ p.gs.getD (j - 1) 0))))) := Lib.hid (by unfold grdB; rw [HPI.out])
                have OGJ := Lib.hid (OG.out j hlt)
                obtain ⟨z, hz⟩ : ∃ y, p.gs.getD j 0 = y := ⟨_, rfl⟩
                rw [hz] at y0 GJ
                obtain ⟨gj, hgj⟩ : ∃ y, grdB ps p j = y := ⟨_, rfl⟩
                rw [hgj] at GJ OGJ
                have HGJ := Lib.hid hgj
                clear hz hgj hgc hcap hgb hlt
                by_cases hz : z = pi
                · have e1 : (z == pi) = true := by rw [beq_iff_eq]; exact hz
                  obtain rfl : R = 371 := OGJ.out (by rw [GJ.out, hz]; simp)
                  clear OG OGJ GJ OA2 YP hz
                  go_wp2_with fail
                  go_ret
                  exact ⟨rfl, hB.out⟩
                have e1 : (z == pi) = false := by rw [beq_eq_false_iff_ne]; exact hz
                rw [decide_eq_false hz, Bool.not_false, Bool.true_and] at GJ
                obtain ⟨m, hm1, hm2⟩ := hM.out
                have GH := Lib.hid (get_has hm2 z)
                clear hm2 hz
                go_wp2_with (first | ((with_reducible (show wpList _ _ _ (Oper.mk (some 101) _ _ _ _ _ :: _) _ _)); refine Hid.out ?_))
                refine Lib.hid ?_
                refine wpList_unguard rfl ?_
                refine IM.wpList_lookup rfl 168 3 4 (.tmp 99) (.tmp 100) false rfl z rfl rfl hm1 Tryz.underlying168 Tryz.underlying3 zero_bool ?_
                rw [if_neg Bool.false_ne_true, GH.out]
                clear GH hm1
                cases hb : hasB ps z
                · rw [hb] at GJ
                  obtain rfl : R = 371 := OGJ.out GJ.out
                  clear OG OGJ GJ OA2 YP hb
                  go_wp2_with fail
                  go_ret
                  exact ⟨rfl, hB.out⟩
                rw [hb, Bool.true_and] at GJ
                clear hb
                by_cases j0 : j = 0
                · subst j0
                  have GN : Hid (∀ i, i < 0 + 1 → grdB ps p i = true) := Lib.hid (fun i hi => by obtain rfl : i = 0 := (by omega); rw [HGJ.out, GJ.out]; rfl)
                  clear GJ YP OGJ
                  go_wp2_with fail
                  go_roundg (sn - (0 + 1))
                  case measure => have := HJ.out; omega
                  case rel =>
                    go_light
                    exact ⟨0 + 1, by have := HJ.out; omega, by go_num, GN, hM, hX, hB⟩
                obtain ⟨t, rfl⟩ : ∃ t, j = t + 1 := ⟨j - 1, by omega⟩
                have y1 := YP.out t rfl
                rw [show decide (t + 1 = 0) = false from rfl, Bool.false_or, Nat.add_sub_cancel] at GJ
                clear YP j0
                obtain ⟨u, hu⟩ : ∃ y, p.gs.getD t 0 = y := ⟨_, rfl⟩
                rw [hu] at y1 GJ
                clear hu
                have t0 : (0 : Int) ≤ (t : Int) := Int.natCast_nonneg t
                have t1 : (t : Int) < (sn : Int) := by have := HJ.out; omega
                have t2 : IntKind.i64.wrap (t : Int) = (t : Int) := IntWalk.i64_in _ (by omega)
                have t3 : decide ((0 : Int) < (t : Int) + 1) = true := by rw [decide_eq_true_iff]; omega
                cases hc : decide (z ≤ u)
                rotate_left
                · rw [hc] at GJ
                  obtain rfl : R = 371 := OGJ.out GJ.out
                  clear OG OGJ GJ OA2
                  go_wp2_with fail
                  go_ret
                  exact ⟨rfl, hB.out⟩
                rw [hc] at GJ
                have GN : Hid (∀ i, i < t + 1 + 1 → grdB ps p i = true) := Lib.hid (fun i hi => by
                  by_cases e : i = t + 1
                  · subst e; rw [HGJ.out, GJ.out]; rfl
                  · exact hG.out i (by omega))
                clear GJ OGJ
                go_wp2_with fail
                go_roundg (sn - ((t + 1) + 1))
                case measure => have := HJ.out; omega
                case rel =>
                  go_light
                  exact ⟨(t + 1) + 1, by have := HJ.out; omega, by go_num, GN, hM, hX, hB⟩
              · have d0 : decide ((j : Int) < (sn : Int)) = false := by rw [decide_eq_false_iff_not]; omega
                have d1 : decide (j < sn) = false := by rw [decide_eq_false_iff_not]; omega
                have AN : Hid (∀ i, i < k + 1 → okPe ps i = true) := Lib.hid (OA2.out (fun i hi => hG.out i (by omega)))
                clear OA2 OG hG hlt hX
                go_wp2_with fail
                go_roundg (n - (k + 1))
                case measure => have := HLT.out; omega
                case rel =>
                  go_light
                  exact ⟨k + 1, by have := HLT.out; omega, by go_num, AN, hM, hB⟩
        · have d0 : decide ((k : Int) < (n : Int)) = false := by rw [decide_eq_false_iff_not]; omega
          have d1 : decide (k < n) = false := by rw [decide_eq_false_iff_not]; omega
          obtain rfl : R = 0 := FT.out (fun i hi => hA.out i (by omega))
          have B2 := hB
          clear hM hB hA hlt hk q0
          go_wp2_with fail
          go_ret
          exact ⟨rfl, B2.out⟩
end Go.Proofs.YtpekhdahamloaaaGreatDoor
