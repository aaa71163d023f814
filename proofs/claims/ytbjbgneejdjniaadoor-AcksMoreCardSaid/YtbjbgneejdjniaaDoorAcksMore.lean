/- AcksMore returns true for every input. No condition beyond the card's own: the two tables of package digest are tied to the program's text. -/
import Derived.Test.YtbjbgneejdjniaaDoorPk49
import Derived.Test.YtbjbgneejdjniaaDoorPk45
import Derived.Test.YtbjbgneejdjniaaDoorCards
namespace Go.Proofs.YtbjbgneejdjniaaDoor.acksMore
open Go.ChangeShapes Go.WideShapes Go.ChangeAt Go.RowKit
open Go.ChangeMaps (open_string shut_string)
set_option linter.unusedVariables false
set_option linter.unusedSimpArgs false

set_option maxRecDepth 100000 in
set_option maxHeartbeats 8000000 in
theorem walk {w : World} (mv : Value) (ms : List Mb) (gm : ∀ m ∈ ms, m.wf) (hm : MbS w mv ms) (f : Int) (wf : (Lit.int .i64 f).wf = true) (s : Int) (ws : (Lit.int .i64 s).wf = true) (lv : Value) (l : List Ak) (gl : ∀ a ∈ l, a.wf) (hl : AkS w lv l) (a : Ak) (ha : a.wf) (m : Mb) (hmb : m.wf) (hT : Tab w) :
    Calls Tryd.prog 5 #[mv, .int .i64 f, .int .i64 s, lv, .agg (rowF 38 (akC a)), .agg (rowF 3 (mbC m))] w fun e w' => e = .returned (.bool true) ∧ Below w.heap.size w w' := by
  have SN := Lib.hid (fun W (h : Tab W) => sane33_any W h)
  have T0 := Lib.hid hT
  have TT := Lib.hid hT
  have HM := Lib.hid hm
  have HL := Lib.hid hl
  obtain ⟨ma, mc, rfl⟩ := hm.slice
  obtain ⟨la, lc, rfl⟩ := hl.slice
  obtain ⟨mn, hmn⟩ : ∃ y, ms.length = y := ⟨_, rfl⟩
  obtain ⟨ln, hln⟩ : ∃ y, l.length = y := ⟨_, rfl⟩
  have FEW := Lib.hid (fun W => few_any ma la none mn ln 0 mc lc 0 W)
  have HMN := Lib.hid hmn
  have HLN := Lib.hid hln
  have GM := Lib.hid gm
  have GL := Lib.hid gl
  have HA := Lib.hid ha
  rw [hmn] at HM
  rw [hln] at HL
  rw [hmn, hln]
  by_cases hfew : mn ≤ 6 ∧ ln ≤ 12
  · obtain ⟨h6, h12⟩ := hfew
    rw [show (decide (mn ≤ 6) && decide (ln ≤ 12) && decide ((0 : Nat) ≤ 60)) = true by simp [h6, h12]] at FEW
    have H6 := Lib.hid h6
    have H12 := Lib.hid h12
    have LE := (fun (ms' : List Mb) (l' : List Ak) (mv' lv' : Value) W (h1 : MbS W mv' ms') (h2 : AkS W lv' l') (h3 : ∀ a ∈ l', a.wf) (h4 : l'.length ≤ 1000) (h5 : ms'.length ≤ 1000) (h6 : Tab W) => aleast_any ms' l' f s mv' lv' W h1 h2 h3 h4 h5 h6)
    have gl2 : ∀ x ∈ l ++ [a], x.wf := fun x hx => by rcases List.mem_append.1 hx with h | h; exact gl x h; rw [List.mem_singleton.1 h]; exact ha
    have gl3 : ∀ x ∈ (l ++ [a]).reverse ++ [a], x.wf := fun x hx => by rcases List.mem_append.1 hx with h | h; exact gl2 x (List.mem_reverse.1 h); rw [List.mem_singleton.1 h]; exact ha
    have r0 := fun mv' lv' W h1 h2 h6 => LE ms l mv' lv' W h1 h2 gl (by omega) (by omega) h6
    have r1 := fun mv' lv' W h1 h2 h6 => LE ms (l ++ [a]) mv' lv' W h1 h2 gl2 (by simp; omega) (by omega) h6
    have r2 := fun mv' lv' W h1 h2 h6 => LE (ms ++ [m]) l mv' lv' W h1 h2 gl (by omega) (by simp; omega) h6
    have r3 := fun mv' lv' W h1 h2 h6 => LE (ms ++ [m]) (l ++ [a]) mv' lv' W h1 h2 gl2 (by simp; omega) (by simp; omega) h6
    have r4 := fun mv' lv' W h1 h2 h6 => LE (ms ++ [m]).reverse ((l ++ [a]).reverse ++ [a]) mv' lv' W h1 h2 gl3 (by simp; omega) (by simp; omega) h6
    rw [show leastM (ms ++ [m]).reverse f s ((l ++ [a]).reverse ++ [a]) = leastM (ms ++ [m]) f s (l ++ [a]) from leastM_same (fun x => by simp only [List.mem_append, List.mem_reverse, List.mem_singleton]; exact ⟨fun h => h.elim id .inr, fun h => .inl h⟩) (fun x => by simp only [List.mem_reverse])] at r4
    have q1 : leastM ms f s l ≤ leastM ms f s (l ++ [a]) := by
      by_cases h0 : ms = []
      · subst h0; exact Int.le_refl _
      · exact leastM_mono (fun x hx => List.mem_append_left _ hx) (fun x hx => hx) h0
    have q2 : 0 < mn → leastM (ms ++ [m]) f s l ≤ leastM ms f s l := fun h => leastM_mono (fun x hx => hx) (fun x hx => List.mem_append_left _ hx) (fun e => by subst e; simp at hmn; omega)
    have q3 := leastM_ge f s l ms
    have q4 := leastM_max f s l ms
    obtain ⟨n0, hn0⟩ : ∃ y, leastM ms f s l = y := ⟨_, rfl⟩
    obtain ⟨n1, hn1⟩ : ∃ y, leastM ms f s (l ++ [a]) = y := ⟨_, rfl⟩
    obtain ⟨n2, hn2⟩ : ∃ y, leastM (ms ++ [m]) f s l = y := ⟨_, rfl⟩
    obtain ⟨n3, hn3⟩ : ∃ y, leastM (ms ++ [m]) f s (l ++ [a]) = y := ⟨_, rfl⟩
    rw [hn0] at r0 q1 q2 q3 q4
    rw [hn1] at r1 q1
    rw [hn2] at r2 q2
    rw [hn3] at r3 r4
    have E0 := Lib.hid r0; have E1 := Lib.hid r1; have E2 := Lib.hid r2; have E3 := Lib.hid r3; have E4 := Lib.hid r4
    have d1 : decide (n1 < n0) = false := by rw [decide_eq_false_iff_not]; omega
    have d3 : decide (n0 < 0) = false := by rw [decide_eq_false_iff_not]; omega
    have d4 : decide (65536 < n0) = false := by rw [decide_eq_false_iff_not]; omega
    have D2 : Hid (0 < mn → n2 ≤ n0) := q2
    obtain ⟨q, hq⟩ : ∃ y, (l ++ [a]).length = y := ⟨_, rfl⟩
    obtain ⟨r, hr⟩ : ∃ y, (ms ++ [m]).length = y := ⟨_, rfl⟩
    have HQ := Lib.hid hq
    have HR := Lib.hid hr
    have Q13 : Hid (1 ≤ q ∧ q ≤ 13) := Lib.hid (by rw [← hq]; simp; omega)
    have R7 : Hid (1 ≤ r ∧ r ≤ 7) := Lib.hid (by rw [← hr]; simp; omega)
    clear r0 r1 r2 r3 r4 LE gl2 gl3 hn0 hn1 hn2 hn3 q1 q2 q3 q4 hq hr
    clear hm hl hmn hln gm gl ha hmb wf ws hT h6 h12
    go_enter Tryd.func5, Tryd.ntmps5
    have B0 := Lib.hid (Below.refl w.heap.size w)
    go_upto_region 1 with fail
    obtain ⟨w1, hw1⟩ : ∃ y, w.alloc (.cells (rowF 38 (akC a)) 27) = y := ⟨_, rfl⟩
    have b1 : Below w.heap.size w w1 := by rw [← hw1]; exact (Below.refl _ _).alloc (Nat.le_refl _) _
    have A1 : Hid (RowV w1 w.heap.size 27 38 (akC a)) := Lib.hid (by rw [← hw1]; exact RowV.new w _ 38 (akC a))
    have z1 : w.heap.size + 1 = w1.heap.size := by rw [← hw1]; exact (Array.size_push _).symm
    rw [hw1]
    (try rw [z1])
    have B1 := Lib.hid (B0.out.trans (b1.mono B0.out.size))
    have T1 := Lib.hid (T0.out.below b1)
    clear b1 hw1 z1 B0 T0
    go_wp2_with fail
    obtain ⟨w2, hw2⟩ : ∃ y, w1.alloc (.cells (rowF 3 (mbC m)) 47) = y := ⟨_, rfl⟩
    have b2 : Below w1.heap.size w1 w2 := by rw [← hw2]; exact (Below.refl _ _).alloc (Nat.le_refl _) _
    have M2 : Hid (RowV w2 w1.heap.size 47 3 (mbC m)) := Lib.hid (by rw [← hw2]; exact RowV.new w1 _ 3 (mbC m))
    have z2 : w1.heap.size + 1 = w2.heap.size := by rw [← hw2]; exact (Array.size_push _).symm
    rw [hw2]
    (try rw [z2])
    have B2 := Lib.hid (B1.out.trans (b2.mono B1.out.size))
    have T2 := Lib.hid (T1.out.below b2)
    have A2 := Lib.hid (A1.out.below b2)
    clear b2 hw2 z2 B1 T1 A1
    go_wp2_with fail
    refine (SN.out _ T2.out).mono ?_
    rintro e w3 ⟨rfl, b3⟩
    have B3 := Lib.hid (B2.out.trans (b3.mono B2.out.size))
    have T3 := Lib.hid (T2.out.below b3)
    have A3 := Lib.hid (A2.out.below b3)
    have M3 := Lib.hid (M2.out.below b3)
    clear b3 B2 T2 A2 M2
    go_wp2_with fail
    refine (FEW.out _).mono ?_
    rintro e w4 ⟨rfl, b4⟩
    have B4 := Lib.hid (B3.out.trans (b4.mono B3.out.size))
    have T4 := Lib.hid (T3.out.below b4)
    have A4 := Lib.hid (A3.out.below b4)
    have M4 := Lib.hid (M3.out.below b4)
    clear b4 B3 T3 A3 M3
    go_wp2_with fail
    refine (E0.out _ _ _ (HM.out.below B4.out) (HL.out.below B4.out) T4.out).mono ?_
    rintro e w5 ⟨rfl, b5⟩
    have B5 := Lib.hid (B4.out.trans (b5.mono B4.out.size))
    have T5 := Lib.hid (T4.out.below b5)
    have A5 := Lib.hid (A4.out.below b5)
    have M5 := Lib.hid (M4.out.below b5)
    clear b5 B4 T4 A4 M4
    go_upto_region 6 with fail
    go_cut [14] (fun s14 wx => ∃ u, s14 = u ∧ Hid (OwnT 27 38 akC wx w5.heap.size u (l ++ [a])) ∧ Hid (Below w5.heap.size w5 wx))
    case first =>
      refine Tc.wp_region_plan (keep w5.heap.size) 6 [] (.fl 1 (.fl 3 (.two 0 4 (.two 2 4 (.one 4 (.one 5 .done)) (.one 2 (.one 5 .done))) (.one 0 (.one 2 (.one 5 .done)))))) (by kernel_rfl) (by kernel_rfl) ?_
      intro w6 b6 e6
      have BB6 : Hid (Below w5.heap.size w5 w6) := Lib.hid b6
      clear b6 e6
      refine Tc.plan_floats [1, 3] [_, _] rfl ?_
      dsimp only [List.getElem_toArray, List.getElem_cons_succ, List.getElem_cons_zero]
      repeat (go_big_quiet_want; go_big_quiet_op; first | go_big_quiet_on | (refine ⟨_, fun _ _ => rfl, ?_⟩; go_big_quiet_on))
      refine wpQuiet_load_part rfl 27 (.tmp 10) rfl w.heap.size 0 rfl 38 38 _ (akC a) (akC a) (fun W hW => row_keep (n := w5.heap.size) ((A5.out).below BB6.out) (A5.out.lt) hW) (by decide) (fun j _ => by rw [Nat.zero_add]) _ Tryd.underlying27 rfl (by kernel_rfl) ?_
      simp only [Act.put, List.setIfInBounds_toArray, List.set_cons_succ, List.set_cons_zero]
      repeat (go_big_quiet_want; go_big_quiet_op; first | go_big_quiet_on | (refine ⟨_, fun _ _ => rfl, ?_⟩; go_big_quiet_on))
      refine wpQuiet_nil ?_
      refine Tc.plan_two 0 4 rfl rfl (fun K hK => ?_) (fun K hK => ?_)
      · go_wp2_with fail
        have al := (Below.refl _ w6).alloc (Nat.le_refl _) (.cells #[] 27)
        have R := Lib.hid (show OwnT 27 38 akC (w6.alloc (.cells #[] 27)) w5.heap.size (.slice (some ⟨w6.heap.size, 0, none⟩) 0 0) [] from OwnT.none0 BB6.out.size (MapKept.heap_alloc w6 _).1)
        have RL : Hid (w6.heap.size < (w6.alloc (.cells #[] 27)).heap.size) := Lib.hid (by rw [World.size_alloc]; omega)
        refine hK _ _ (keep_below (al.mono BB6.out.size)) ?_
        obtain ⟨w7, hw⟩ : ∃ y, w6.alloc (.cells #[] 27) = y := ⟨_, rfl⟩
        rw [hw] at al R RL ⊢
        have BB7 := Lib.hid (BB6.out.trans (al.mono BB6.out.size))
        have Z6 := RL
        have P7 := R
        clear hK K al hw R RL BB6
        refine Tc.plan_two 2 4 rfl rfl (fun K hK => ?_) (fun K hK => ?_)
        · refine wpList_app_S rfl (.tmp 31) (.tmp 32) info_ack Tryd.underlying38 rfl (by decide) (by decide) akC_one ak0 rfl w5.heap.size _ ([]) rfl P7.out _ (l) rfl (HL.out.below (B5.out.trans (BB7.out.mono B5.out.size))) (by have := (show l.length ≤ 12 by have := HLN.out; have := H12.out; omega); simp only [List.length_nil]; omega) BB7.out.size ?_
          intro v8 w8 P8 s8
          have bb := below_app s8.out BB7.out.size P7.out.ge
          have BB8 := Lib.hid (BB7.out.trans bb)
          obtain ⟨va8, vc8, rfl⟩ := P8.out.slice
          go_wp2_with fail
          refine hK _ _ (keep_below bb) ?_
          clear hK K bb s8 BB7 P7
          refine Tc.plan_one 4 rfl (fun K hK => ?_)
          have hsz : (rowF 38 (akC a)).size = 38 := rowF_size _ _
          go_wp2_with fail
          rw [fold_ack]
          clear hsz
          have al := (Below.refl _ w8).alloc (Nat.le_refl _) (.cells (rowF 38 (akC a)) 27)
          have R := Lib.hid (OwnT.one (c := akC) (a := a) (by decide) (RowV.new w8 27 38 (akC a)))
          have RL : Hid (w8.heap.size < (w8.alloc (.cells (rowF 38 (akC a)) 27)).heap.size) := Lib.hid (by rw [World.size_alloc]; omega)
          refine hK _ _ (keep_below (al.mono BB8.out.size)) ?_
          obtain ⟨w9, hw⟩ : ∃ y, w8.alloc (.cells (rowF 38 (akC a)) 27) = y := ⟨_, rfl⟩
          rw [hw] at al R RL ⊢
          have BB9 := Lib.hid (BB8.out.trans (al.mono BB8.out.size))
          have Z8 := RL
          have P9 := Lib.hid (P8.out.below al)
          have Q9 := R
          clear hK K al hw R RL BB8 P8
          refine Tc.plan_one 5 rfl (fun K hK => ?_)
          refine wpList_app_S rfl (.tmp 33) (.tmp 35) info_ack Tryd.underlying38 rfl (by decide) (by decide) akC_one ak0 rfl w5.heap.size _ ([] ++ l) rfl P9.out _ ([a]) rfl (Q9.out.at' ak0 (by decide) (by decide) (by simp)) (by have := (show l.length ≤ 12 by have := HLN.out; have := H12.out; omega); simp only [List.nil_append, List.length_singleton]; omega) BB9.out.size ?_
          intro v10 w10 P10 s10
          have bb := below_app s10.out BB9.out.size P9.out.ge
          have BB10 := Lib.hid (BB9.out.trans bb)
          obtain ⟨va10, vc10, rfl⟩ := P10.out.slice
          go_wp2_with fail
          refine hK _ _ (keep_below bb) ?_
          clear hK K bb s10 BB9 P9 Q9
          refine Tc.plan_done (l := [_]) rfl (fun K hK => ?_)
          go_wp2_with fail
          go_meet
          exact ⟨_, rfl, Lib.hid (by have h := P10.out; rw [show (([] : List Ak) ++ l ++ [a]).length = l.length + 1 by simp] at h; exact h), BB10⟩
        · have hsz : (rowF 38 (akC a)).size = 38 := rowF_size _ _
          go_wp2_with fail
          rw [fold_ack]
          clear hsz
          have al := (Below.refl _ w7).alloc (Nat.le_refl _) (.cells (rowF 38 (akC a)) 27)
          have R := Lib.hid (OwnT.one (c := akC) (a := a) (by decide) (RowV.new w7 27 38 (akC a)))
          have RL : Hid (w7.heap.size < (w7.alloc (.cells (rowF 38 (akC a)) 27)).heap.size) := Lib.hid (by rw [World.size_alloc]; omega)
          refine hK _ _ (keep_below (al.mono BB7.out.size)) ?_
          obtain ⟨w8, hw⟩ : ∃ y, w7.alloc (.cells (rowF 38 (akC a)) 27) = y := ⟨_, rfl⟩
          rw [hw] at al R RL ⊢
          have BB8 := Lib.hid (BB7.out.trans (al.mono BB7.out.size))
          have Z7 := RL
          have P8 := Lib.hid (P7.out.below al)
          have Q8 := R
          clear hK K al hw R RL BB7 P7
          refine Tc.plan_one 2 rfl (fun K hK => ?_)
          refine wpList_app_S rfl (.tmp 31) (.tmp 32) info_ack Tryd.underlying38 rfl (by decide) (by decide) akC_one ak0 rfl w5.heap.size _ ([]) rfl P8.out _ (l) rfl (HL.out.below (B5.out.trans (BB8.out.mono B5.out.size))) (by have := (show l.length ≤ 12 by have := HLN.out; have := H12.out; omega); simp only [List.length_nil]; omega) BB8.out.size ?_
          intro v9 w9 P9 s9
          have bb := below_app s9.out BB8.out.size P8.out.ge
          have BB9 := Lib.hid (BB8.out.trans bb)
          have Q9 := Lib.hid (Q8.out.app s9.out (by refine .inr (fun e => ?_); have h0 : w7.heap.size = w6.heap.size := Option.some.inj e; have := Z6.out; omega))
          obtain ⟨va9, vc9, rfl⟩ := P9.out.slice
          go_wp2_with fail
          refine hK _ _ (keep_below bb) ?_
          clear hK K bb s9 BB8 P8 Q8
          refine Tc.plan_one 5 rfl (fun K hK => ?_)
          refine wpList_app_S rfl (.tmp 33) (.tmp 35) info_ack Tryd.underlying38 rfl (by decide) (by decide) akC_one ak0 rfl w5.heap.size _ ([] ++ l) rfl P9.out _ ([a]) rfl (Q9.out.at' ak0 (by decide) (by decide) (by simp)) (by have := (show l.length ≤ 12 by have := HLN.out; have := H12.out; omega); simp only [List.nil_append, List.length_singleton]; omega) BB9.out.size ?_
          intro v10 w10 P10 s10
          have bb := below_app s10.out BB9.out.size P9.out.ge
          have BB10 := Lib.hid (BB9.out.trans bb)
          obtain ⟨va10, vc10, rfl⟩ := P10.out.slice
          go_wp2_with fail
          refine hK _ _ (keep_below bb) ?_
          clear hK K bb s10 BB9 P9 Q9
          refine Tc.plan_done (l := [_]) rfl (fun K hK => ?_)
          go_wp2_with fail
          go_meet
          exact ⟨_, rfl, Lib.hid (by have h := P10.out; rw [show (([] : List Ak) ++ l ++ [a]).length = l.length + 1 by simp] at h; exact h), BB10⟩
      · have hsz : (rowF 38 (akC a)).size = 38 := rowF_size _ _
        go_wp2_with fail
        rw [fold_ack]
        clear hsz
        have al := (Below.refl _ w6).alloc (Nat.le_refl _) (.cells (rowF 38 (akC a)) 27)
        have R := Lib.hid (OwnT.one (c := akC) (a := a) (by decide) (RowV.new w6 27 38 (akC a)))
        have RL : Hid (w6.heap.size < (w6.alloc (.cells (rowF 38 (akC a)) 27)).heap.size) := Lib.hid (by rw [World.size_alloc]; omega)
        refine hK _ _ (keep_below (al.mono BB6.out.size)) ?_
        obtain ⟨w7, hw⟩ : ∃ y, w6.alloc (.cells (rowF 38 (akC a)) 27) = y := ⟨_, rfl⟩
        rw [hw] at al R RL ⊢
        have BB7 := Lib.hid (BB6.out.trans (al.mono BB6.out.size))
        have Z6 := RL
        have Q7 := R
        clear hK K al hw R RL BB6
        refine Tc.plan_one 0 rfl (fun K hK => ?_)
        go_wp2_with fail
        have al := (Below.refl _ w7).alloc (Nat.le_refl _) (.cells #[] 27)
        have R := Lib.hid (show OwnT 27 38 akC (w7.alloc (.cells #[] 27)) w5.heap.size (.slice (some ⟨w7.heap.size, 0, none⟩) 0 0) [] from OwnT.none0 BB7.out.size (MapKept.heap_alloc w7 _).1)
        have RL : Hid (w7.heap.size < (w7.alloc (.cells #[] 27)).heap.size) := Lib.hid (by rw [World.size_alloc]; omega)
        refine hK _ _ (keep_below (al.mono BB7.out.size)) ?_
        obtain ⟨w8, hw⟩ : ∃ y, w7.alloc (.cells #[] 27) = y := ⟨_, rfl⟩
        rw [hw] at al R RL ⊢
        have BB8 := Lib.hid (BB7.out.trans (al.mono BB7.out.size))
        have Z7 := RL
        have Q8 := Lib.hid (Q7.out.below al)
        have P8 := R
        clear hK K al hw R RL BB7 Q7
        refine Tc.plan_one 2 rfl (fun K hK => ?_)
        refine wpList_app_S rfl (.tmp 31) (.tmp 32) info_ack Tryd.underlying38 rfl (by decide) (by decide) akC_one ak0 rfl w5.heap.size _ ([]) rfl P8.out _ (l) rfl (HL.out.below (B5.out.trans (BB8.out.mono B5.out.size))) (by have := (show l.length ≤ 12 by have := HLN.out; have := H12.out; omega); simp only [List.length_nil]; omega) BB8.out.size ?_
        intro v9 w9 P9 s9
        have bb := below_app s9.out BB8.out.size P8.out.ge
        have BB9 := Lib.hid (BB8.out.trans bb)
        have Q9 := Lib.hid (Q8.out.app s9.out (by refine .inr (fun e => ?_); have h0 : w6.heap.size = w7.heap.size := Option.some.inj e; have := Z6.out; omega))
        obtain ⟨va9, vc9, rfl⟩ := P9.out.slice
        go_wp2_with fail
        refine hK _ _ (keep_below bb) ?_
        clear hK K bb s9 BB8 Q8 P8
        refine Tc.plan_one 5 rfl (fun K hK => ?_)
        refine wpList_app_S rfl (.tmp 33) (.tmp 35) info_ack Tryd.underlying38 rfl (by decide) (by decide) akC_one ak0 rfl w5.heap.size _ ([] ++ l) rfl P9.out _ ([a]) rfl (Q9.out.at' ak0 (by decide) (by decide) (by simp)) (by have := (show l.length ≤ 12 by have := HLN.out; have := H12.out; omega); simp only [List.nil_append, List.length_singleton]; omega) BB9.out.size ?_
        intro v10 w10 P10 s10
        have bb := below_app s10.out BB9.out.size P9.out.ge
        have BB10 := Lib.hid (BB9.out.trans bb)
        obtain ⟨va10, vc10, rfl⟩ := P10.out.slice
        go_wp2_with fail
        refine hK _ _ (keep_below bb) ?_
        clear hK K bb s10 BB9 Q9 P9
        refine Tc.plan_done (l := [_]) rfl (fun K hK => ?_)
        go_wp2_with fail
        go_meet
        exact ⟨_, rfl, Lib.hid (by have h := P10.out; rw [show (([] : List Ak) ++ l ++ [a]).length = l.length + 1 by simp] at h; exact h), BB10⟩
    case rest =>
      obtain ⟨u, rfl, O6, Bb⟩ := hcut
      have B6 := Lib.hid (B5.out.trans (Bb.out.mono B5.out.size))
      have A6 := Lib.hid (A5.out.below Bb.out)
      have M6 := Lib.hid (M5.out.below Bb.out)
      have T6 := Lib.hid (T5.out.below Bb.out)
      have O6 := Lib.hid (O6.out.mono B5.out.size)
      clear Bb B5 A5 M5 T5
      obtain ⟨ua, uc, rfl⟩ := O6.out.slice
      rw [HQ.out] at O6 ⊢
      obtain ⟨w6, rfl⟩ : ∃ y, y = wc := ⟨_, rfl⟩
      go_upto_region 7 with fail
      go_cut [15] (fun s15 wx => ∃ u, s15 = u ∧ Hid (OwnT 47 3 mbC wx w6.heap.size u (ms ++ [m])) ∧ Hid (Below w6.heap.size w6 wx))
      case first =>
        clear O6 A6
        refine Tc.wp_region_plan (keep w6.heap.size) 6 [] (.fl 1 (.fl 3 (.two 0 4 (.two 2 4 (.one 4 (.one 5 .done)) (.one 2 (.one 5 .done))) (.one 0 (.one 2 (.one 5 .done)))))) (by kernel_rfl) (by kernel_rfl) ?_
        intro w7 b7 e7
        have BB7 : Hid (Below w6.heap.size w6 w7) := Lib.hid b7
        clear b7 e7
        refine Tc.plan_floats [1, 3] [_, _] rfl ?_
        dsimp only [List.getElem_toArray, List.getElem_cons_succ, List.getElem_cons_zero]
        repeat (go_big_quiet_want; go_big_quiet_op; first | go_big_quiet_on | (refine ⟨_, fun _ _ => rfl, ?_⟩; go_big_quiet_on))
        refine wpQuiet_load_part rfl 47 (.tmp 11) rfl w1.heap.size 0 rfl 3 3 _ (mbC m) (mbC m) (fun W hW => row_keep (n := w6.heap.size) ((M6.out).below BB7.out) (M6.out.lt) hW) (by decide) (fun j _ => by rw [Nat.zero_add]) _ Tryd.underlying47 rfl (by kernel_rfl) ?_
        simp only [Act.put, List.setIfInBounds_toArray, List.set_cons_succ, List.set_cons_zero]
        repeat (go_big_quiet_want; go_big_quiet_op; first | go_big_quiet_on | (refine ⟨_, fun _ _ => rfl, ?_⟩; go_big_quiet_on))
        refine wpQuiet_nil ?_
        refine Tc.plan_two 0 4 rfl rfl (fun K hK => ?_) (fun K hK => ?_)
        · go_wp2_with fail
          have al := (Below.refl _ w7).alloc (Nat.le_refl _) (.cells #[] 47)
          have R := Lib.hid (show OwnT 47 3 mbC (w7.alloc (.cells #[] 47)) w6.heap.size (.slice (some ⟨w7.heap.size, 0, none⟩) 0 0) [] from OwnT.none0 BB7.out.size (MapKept.heap_alloc w7 _).1)
          have RL : Hid (w7.heap.size < (w7.alloc (.cells #[] 47)).heap.size) := Lib.hid (by rw [World.size_alloc]; omega)
          refine hK _ _ (keep_below (al.mono BB7.out.size)) ?_
          obtain ⟨w8, hw⟩ : ∃ y, w7.alloc (.cells #[] 47) = y := ⟨_, rfl⟩
          rw [hw] at al R RL ⊢
          have BB8 := Lib.hid (BB7.out.trans (al.mono BB7.out.size))
          have Z7 := RL
          have P8 := R
          clear hK K al hw R RL BB7
          refine Tc.plan_two 2 4 rfl rfl (fun K hK => ?_) (fun K hK => ?_)
          · refine wpList_app_S rfl (.tmp 37) (.tmp 38) info_mem Tryd.underlying37 rfl (by decide) (by decide) mbC_one mb0 rfl w6.heap.size _ ([]) rfl P8.out _ (ms) rfl (HM.out.below (B6.out.trans (BB8.out.mono B6.out.size))) (by have := (show ms.length ≤ 6 by have := HMN.out; have := H6.out; omega); simp only [List.length_nil]; omega) BB8.out.size ?_
            intro v9 w9 P9 s9
            have bb := below_app s9.out BB8.out.size P8.out.ge
            have BB9 := Lib.hid (BB8.out.trans bb)
            obtain ⟨va9, vc9, rfl⟩ := P9.out.slice
            go_wp2_with fail
            refine hK _ _ (keep_below bb) ?_
            clear hK K bb s9 BB8 P8
            refine Tc.plan_one 4 rfl (fun K hK => ?_)
            have hsz : (rowF 3 (mbC m)).size = 3 := rowF_size _ _
            go_wp2_with fail
            rw [fold_mem]
            clear hsz
            have al := (Below.refl _ w9).alloc (Nat.le_refl _) (.cells (rowF 3 (mbC m)) 47)
            have R := Lib.hid (OwnT.one (c := mbC) (a := m) (by decide) (RowV.new w9 47 3 (mbC m)))
            have RL : Hid (w9.heap.size < (w9.alloc (.cells (rowF 3 (mbC m)) 47)).heap.size) := Lib.hid (by rw [World.size_alloc]; omega)
            refine hK _ _ (keep_below (al.mono BB9.out.size)) ?_
            obtain ⟨w10, hw⟩ : ∃ y, w9.alloc (.cells (rowF 3 (mbC m)) 47) = y := ⟨_, rfl⟩
            rw [hw] at al R RL ⊢
            have BB10 := Lib.hid (BB9.out.trans (al.mono BB9.out.size))
            have Z9 := RL
            have P10 := Lib.hid (P9.out.below al)
            have Q10 := R
            clear hK K al hw R RL BB9 P9
            refine Tc.plan_one 5 rfl (fun K hK => ?_)
            refine wpList_app_S rfl (.tmp 39) (.tmp 41) info_mem Tryd.underlying37 rfl (by decide) (by decide) mbC_one mb0 rfl w6.heap.size _ ([] ++ ms) rfl P10.out _ ([m]) rfl (Q10.out.at' mb0 (by decide) (by decide) (by simp)) (by have := (show ms.length ≤ 6 by have := HMN.out; have := H6.out; omega); simp only [List.nil_append, List.length_singleton]; omega) BB10.out.size ?_
            intro v11 w11 P11 s11
            have bb := below_app s11.out BB10.out.size P10.out.ge
            have BB11 := Lib.hid (BB10.out.trans bb)
            obtain ⟨va11, vc11, rfl⟩ := P11.out.slice
            go_wp2_with fail
            refine hK _ _ (keep_below bb) ?_
            clear hK K bb s11 BB10 P10 Q10
            refine Tc.plan_done (l := [_]) rfl (fun K hK => ?_)
            go_wp2_with fail
            go_meet
            exact ⟨_, rfl, Lib.hid (by have h := P11.out; rw [show (([] : List Mb) ++ ms ++ [m]).length = ms.length + 1 by simp] at h; exact h), BB11⟩
          · have hsz : (rowF 3 (mbC m)).size = 3 := rowF_size _ _
            go_wp2_with fail
            rw [fold_mem]
            clear hsz
            have al := (Below.refl _ w8).alloc (Nat.le_refl _) (.cells (rowF 3 (mbC m)) 47)
            have R := Lib.hid (OwnT.one (c := mbC) (a := m) (by decide) (RowV.new w8 47 3 (mbC m)))
            have RL : Hid (w8.heap.size < (w8.alloc (.cells (rowF 3 (mbC m)) 47)).heap.size) := Lib.hid (by rw [World.size_alloc]; omega)
            refine hK _ _ (keep_below (al.mono BB8.out.size)) ?_
            obtain ⟨w9, hw⟩ : ∃ y, w8.alloc (.cells (rowF 3 (mbC m)) 47) = y := ⟨_, rfl⟩
            rw [hw] at al R RL ⊢
            have BB9 := Lib.hid (BB8.out.trans (al.mono BB8.out.size))
            have Z8 := RL
            have P9 := Lib.hid (P8.out.below al)
            have Q9 := R
            clear hK K al hw R RL BB8 P8
            refine Tc.plan_one 2 rfl (fun K hK => ?_)
            refine wpList_app_S rfl (.tmp 37) (.tmp 38) info_mem Tryd.underlying37 rfl (by decide) (by decide) mbC_one mb0 rfl w6.heap.size _ ([]) rfl P9.out _ (ms) rfl (HM.out.below (B6.out.trans (BB9.out.mono B6.out.size))) (by have := (show ms.length ≤ 6 by have := HMN.out; have := H6.out; omega); simp only [List.length_nil]; omega) BB9.out.size ?_
            intro v10 w10 P10 s10
            have bb := below_app s10.out BB9.out.size P9.out.ge
            have BB10 := Lib.hid (BB9.out.trans bb)
            have Q10 := Lib.hid (Q9.out.app s10.out (by refine .inr (fun e => ?_); have h0 : w8.heap.size = w7.heap.size := Option.some.inj e; have := Z7.out; omega))
            obtain ⟨va10, vc10, rfl⟩ := P10.out.slice
            go_wp2_with fail
            refine hK _ _ (keep_below bb) ?_
            clear hK K bb s10 BB9 P9 Q9
            refine Tc.plan_one 5 rfl (fun K hK => ?_)
            refine wpList_app_S rfl (.tmp 39) (.tmp 41) info_mem Tryd.underlying37 rfl (by decide) (by decide) mbC_one mb0 rfl w6.heap.size _ ([] ++ ms) rfl P10.out _ ([m]) rfl (Q10.out.at' mb0 (by decide) (by decide) (by simp)) (by have := (show ms.length ≤ 6 by have := HMN.out; have := H6.out; omega); simp only [List.nil_append, List.length_singleton]; omega) BB10.out.size ?_
            intro v11 w11 P11 s11
            have bb := below_app s11.out BB10.out.size P10.out.ge
            have BB11 := Lib.hid (BB10.out.trans bb)
            obtain ⟨va11, vc11, rfl⟩ := P11.out.slice
            go_wp2_with fail
            refine hK _ _ (keep_below bb) ?_
            clear hK K bb s11 BB10 P10 Q10
            refine Tc.plan_done (l := [_]) rfl (fun K hK => ?_)
            go_wp2_with fail
            go_meet
            exact ⟨_, rfl, Lib.hid (by have h := P11.out; rw [show (([] : List Mb) ++ ms ++ [m]).length = ms.length + 1 by simp] at h; exact h), BB11⟩
        · have hsz : (rowF 3 (mbC m)).size = 3 := rowF_size _ _
          go_wp2_with fail
          rw [fold_mem]
          clear hsz
          have al := (Below.refl _ w7).alloc (Nat.le_refl _) (.cells (rowF 3 (mbC m)) 47)
          have R := Lib.hid (OwnT.one (c := mbC) (a := m) (by decide) (RowV.new w7 47 3 (mbC m)))
          have RL : Hid (w7.heap.size < (w7.alloc (.cells (rowF 3 (mbC m)) 47)).heap.size) := Lib.hid (by rw [World.size_alloc]; omega)
          refine hK _ _ (keep_below (al.mono BB7.out.size)) ?_
          obtain ⟨w8, hw⟩ : ∃ y, w7.alloc (.cells (rowF 3 (mbC m)) 47) = y := ⟨_, rfl⟩
          rw [hw] at al R RL ⊢
          have BB8 := Lib.hid (BB7.out.trans (al.mono BB7.out.size))
          have Z7 := RL
          have Q8 := R
          clear hK K al hw R RL BB7
          refine Tc.plan_one 0 rfl (fun K hK => ?_)
          go_wp2_with fail
          have al := (Below.refl _ w8).alloc (Nat.le_refl _) (.cells #[] 47)
          have R := Lib.hid (show OwnT 47 3 mbC (w8.alloc (.cells #[] 47)) w6.heap.size (.slice (some ⟨w8.heap.size, 0, none⟩) 0 0) [] from OwnT.none0 BB8.out.size (MapKept.heap_alloc w8 _).1)
          have RL : Hid (w8.heap.size < (w8.alloc (.cells #[] 47)).heap.size) := Lib.hid (by rw [World.size_alloc]; omega)
          refine hK _ _ (keep_below (al.mono BB8.out.size)) ?_
          obtain ⟨w9, hw⟩ : ∃ y, w8.alloc (.cells #[] 47) = y := ⟨_, rfl⟩
          rw [hw] at al R RL ⊢
          have BB9 := Lib.hid (BB8.out.trans (al.mono BB8.out.size))
          have Z8 := RL
          have Q9 := Lib.hid (Q8.out.below al)
          have P9 := R
          clear hK K al hw R RL BB8 Q8
          refine Tc.plan_one 2 rfl (fun K hK => ?_)
          refine wpList_app_S rfl (.tmp 37) (.tmp 38) info_mem Tryd.underlying37 rfl (by decide) (by decide) mbC_one mb0 rfl w6.heap.size _ ([]) rfl P9.out _ (ms) rfl (HM.out.below (B6.out.trans (BB9.out.mono B6.out.size))) (by have := (show ms.length ≤ 6 by have := HMN.out; have := H6.out; omega); simp only [List.length_nil]; omega) BB9.out.size ?_
          intro v10 w10 P10 s10
          have bb := below_app s10.out BB9.out.size P9.out.ge
          have BB10 := Lib.hid (BB9.out.trans bb)
          have Q10 := Lib.hid (Q9.out.app s10.out (by refine .inr (fun e => ?_); have h0 : w7.heap.size = w8.heap.size := Option.some.inj e; have := Z7.out; omega))
          obtain ⟨va10, vc10, rfl⟩ := P10.out.slice
          go_wp2_with fail
          refine hK _ _ (keep_below bb) ?_
          clear hK K bb s10 BB9 Q9 P9
          refine Tc.plan_one 5 rfl (fun K hK => ?_)
          refine wpList_app_S rfl (.tmp 39) (.tmp 41) info_mem Tryd.underlying37 rfl (by decide) (by decide) mbC_one mb0 rfl w6.heap.size _ ([] ++ ms) rfl P10.out _ ([m]) rfl (Q10.out.at' mb0 (by decide) (by decide) (by simp)) (by have := (show ms.length ≤ 6 by have := HMN.out; have := H6.out; omega); simp only [List.nil_append, List.length_singleton]; omega) BB10.out.size ?_
          intro v11 w11 P11 s11
          have bb := below_app s11.out BB10.out.size P10.out.ge
          have BB11 := Lib.hid (BB10.out.trans bb)
          obtain ⟨va11, vc11, rfl⟩ := P11.out.slice
          go_wp2_with fail
          refine hK _ _ (keep_below bb) ?_
          clear hK K bb s11 BB10 Q10 P10
          refine Tc.plan_done (l := [_]) rfl (fun K hK => ?_)
          go_wp2_with fail
          go_meet
          exact ⟨_, rfl, Lib.hid (by have h := P11.out; rw [show (([] : List Mb) ++ ms ++ [m]).length = ms.length + 1 by simp] at h; exact h), BB11⟩
      case rest =>
        obtain ⟨u, rfl, P7, Bb⟩ := hcut
        obtain ⟨w7, rfl⟩ : ∃ y, y = wc := ⟨_, rfl⟩
        have B7 := Lib.hid (B6.out.trans (Bb.out.mono B6.out.size))
        have A7 := Lib.hid (A6.out.below Bb.out)
        have T7 := Lib.hid (T6.out.below Bb.out)
        have O7 := Lib.hid (O6.out.below Bb.out)
        have P7 := Lib.hid (P7.out.mono B6.out.size)
        clear Bb B6 A6 M6 T6 O6
        obtain ⟨pa, pc, rfl⟩ := P7.out.slice
        rw [HR.out] at P7 ⊢
        go_upto_region 8 with fail
        have BB7 := Lib.hid (Below.refl w7.heap.size w7)
        go_cut [71] (fun s71 wx => s71 = .bool false ∧ Hid (Below w7.heap.size w7 wx))
        case first =>
          clear A7
          have OA := Lib.hid (O7.out.acks (by rw [HQ.out]; have := Q13.out; omega))
          have PM := Lib.hid (P7.out.mems (by rw [HR.out]; have := R7.out; omega))
          clear O7 P7
          by_cases h0 : 0 < mn
          · have e1 : decide ((0 : Int) < (mn : Int)) = true := by rw [decide_eq_true_iff]; omega
            have e2 : decide (0 < mn) = true := by rw [decide_eq_true_iff]; omega
            have e3 : decide (n0 < n2) = false := by rw [decide_eq_false_iff_not]; have := D2.out h0; omega
            clear h0
            go_wp2_with fail
            refine (E1.out _ _ _ (HM.out.below B7.out) OA.out T7.out).mono ?_
            rintro e w8 ⟨rfl, b8⟩
            have BB8 := Lib.hid b8
            clear b8
            go_wp2_with fail
            refine (E2.out _ _ _ (PM.out.below BB8.out) (HL.out.below (B7.out.trans (BB8.out.mono B7.out.size))) (T7.out.below BB8.out)).mono ?_
            rintro e w9 ⟨rfl, b9⟩
            have BB9 := Lib.hid (BB8.out.trans (b9.mono BB8.out.size))
            clear b9
            go_wp2_with fail
            go_meet
            exact ⟨rfl, BB9⟩
          · obtain rfl : mn = 0 := by omega
            have e1 : decide ((0 : Int) < ((0 : Nat) : Int)) = false := by decide
            go_wp2_with fail
            refine (E1.out _ _ _ (HM.out.below B7.out) OA.out T7.out).mono ?_
            rintro e w8 ⟨rfl, b8⟩
            have BB8 := Lib.hid b8
            clear b8
            go_wp2_with fail
            go_meet
            exact ⟨rfl, BB8⟩
        case rest =>
          obtain ⟨rfl, Bb⟩ := hcut
          obtain ⟨w8, rfl⟩ : ∃ y, y = wc := ⟨_, rfl⟩
          have B8 := Lib.hid (B7.out.trans (Bb.out.mono B7.out.size))
          have A8 := Lib.hid (A7.out.below Bb.out)
          have T8 := Lib.hid (T7.out.below Bb.out)
          have O8 := Lib.hid (O7.out.below Bb.out)
          have P8 := Lib.hid (P7.out.below Bb.out)
          clear Bb B7 A7 T7 O7 P7 BB7
          clear E0 E1 E2 d1 d3 d4 D2 HM HL H6 H12 FEW SN GM GL HMN HLN
          have OL := Lib.hid (fun k hk => (O8.out.lt k hk).2)
          have PL := Lib.hid (fun k hk => (P8.out.lt k hk).2)
          have S8 := Lib.hid B8.out.size
          go_wp2_with fail
          have hx0 : (1 : Int) ≤ (q : Int) := by have := Q13.out; omega
          have hx1 : (q : Int) ≤ 13 := by have := Q13.out; omega
          go_loopg [16, 74] q (fun g sv sk wx => ∃ (k : Nat) (v : Value), k + g = q ∧ sv = v ∧ sk = .int .i64 (k : Int) ∧ Hid (OwnT 27 38 akC wx w8.heap.size v ((l ++ [a]).reverse.take k)) ∧ Hid (Below w8.heap.size w8 wx))
          case atStart => exact ⟨0, _, by omega, rfl, rfl, Lib.hid (OwnT.nil _ _), Lib.hid (Below.refl _ _)⟩
          case round =>
            obtain ⟨k, v, hk, rfl, rfl, V10, BB10⟩ := hrel
            obtain ⟨w10, rfl⟩ : ∃ y, y = wr := ⟨_, rfl⟩
            have q0 : (0 : Int) ≤ (k : Int) := Int.natCast_nonneg k
            by_cases hlt : k < q
            · have d0 : decide ((k : Int) < (q : Int)) = true := by rw [decide_eq_true_iff]; omega
              have d1 : decide (k < q) = true := by rw [decide_eq_true_iff]; omega
              have KL := Lib.hid hlt
              obtain ⟨j, hj⟩ : ∃ j : Nat, q - 1 - k = j := ⟨_, rfl⟩
              have HJ := Lib.hid hj
              have z0 : IntKind.i64.wrap ((q : Int) - 1) = (q : Int) - 1 := IntWalk.i64_in _ (by omega)
              have z1 : IntKind.i64.wrap ((q : Int) - 1 - (k : Int)) = (j : Int) := by rw [IntWalk.i64_in _ (by omega)]; omega
              have z2 : (q : Int) - 1 - (k : Int) = (j : Int) := by omega
              have z4 : (0 : Int) ≤ (j : Int) := Int.natCast_nonneg j
              have z5 : (j : Int) < (q : Int) := by omega
              have RT := Lib.hid (rev_take ak0 (l ++ [a]) HQ.out hlt)
              rw [hj] at RT
              obtain ⟨b, off, rfl, hcap, hb, hc⟩ := SlAt.at_elem (s := 38) (n := q) (a := ua) (k := uc) (c := fun i => akC ((l ++ [a]).getD i ak0)) (by have h := (O8.out.below BB10.out).at' ak0 (by decide) (by decide) (by rw [HQ.out]; have := Q13.out; omega); rw [HQ.out] at h; exact h) (show j < q by omega)
              obtain ⟨x, hx⟩ : ∃ y, (l ++ [a]).getD j ak0 = y := ⟨_, rfl⟩
              have HCK := Lib.hid (fun i hi => hc j (by have := HJ.out; have := KL.out; omega) i hi)
              rw [hx] at HCK RT
              obtain ⟨va, vc, rfl⟩ := V10.out.slice
              have LK : Hid (((l ++ [a]).reverse.take k).length = k) := Lib.hid (by rw [List.length_take, List.length_reverse, HQ.out]; omega)
              rw [LK.out] at V10 ⊢
              clear hc hb hcap hx hj hlt
              go_wp2_with (first | ((with_reducible (show wpList _ _ _ (Oper.mk (some 85) _ _ _ _ _ :: _) _ _)); refine Hid.out ?_))
              refine Lib.hid ?_
              refine wpList_load_elem rfl 27 (.tmp 84) rfl b (off + j * 38) rfl 38 off j (by rw [Nat.mul_comm]) (akC x) HCK.out _ Tryd.underlying27 rfl (by kernel_rfl) ?_
              have hsz : (rowF 38 (akC x)).size = 38 := rowF_size _ _
              go_wp2_with (first | ((with_reducible (show wpList _ _ _ (Oper.mk (some 87) _ _ _ _ _ :: _) _ _)); refine Hid.out ?_))
              refine Lib.hid ?_
              rw [fold_ack]
              clear hsz HCK
              have al := (Below.refl _ w10).alloc (Nat.le_refl _) (.cells (rowF 38 (akC x)) 27)
              have R := RowV.new w10 27 38 (akC x)
              have LT : Hid (w10.heap.size < (w10.alloc (.cells (rowF 38 (akC x)) 27)).heap.size) := Lib.hid (by rw [World.size_alloc]; omega)
              obtain ⟨w11, hw⟩ : ∃ y, w10.alloc (.cells (rowF 38 (akC x)) 27) = y := ⟨_, rfl⟩
              rw [hw] at al R LT ⊢
              have V11 := Lib.hid (V10.out.below al)
              have BB11 := Lib.hid (BB10.out.trans (al.mono BB10.out.size))
              have R11 := Lib.hid (OwnT.one (c := akC) (a := x) (by decide) R)
              clear al R hw V10 BB10
              refine wpList_app_S rfl (.tmp 77) (.tmp 86) info_ack Tryd.underlying38 rfl (by decide) (by decide) akC_one ak0 rfl w8.heap.size _ ((l ++ [a]).reverse.take k) rfl V11.out _ [x] rfl (R11.out.at' ak0 (by decide) (by decide) (by simp)) (by rw [LK.out, List.length_singleton]; have := KL.out; have := Q13.out; omega) BB11.out.size ?_
              intro v12 w12 V12 s12
              have BB12 := Lib.hid (BB11.out.trans (below_app s12.out BB11.out.size V11.out.ge))
              rw [← RT.out] at V12
              obtain ⟨va2, vc2, rfl⟩ := V12.out.slice
              have LK2 : Hid (((l ++ [a]).reverse.take (k + 1)).length = k + 1) := Lib.hid (by rw [List.length_take, List.length_reverse, HQ.out]; have := KL.out; omega)
              rw [LK2.out] at V12 ⊢
              clear s12 V11 BB11 R11 LT
              go_wp2_with fail
              go_roundg (gk - 1)
              case measure => have := KL.out; omega
              case rel =>
                go_light
                exact ⟨k + 1, _, by have := KL.out; omega, rfl, by go_num, V12, BB12⟩
            · obtain rfl : q = k := by omega
              have d0 : decide ((q : Int) < (q : Int)) = false := by rw [decide_eq_false_iff_not]; omega
              have d1 : decide (q < q) = false := by rw [decide_eq_false_iff_not]; omega
              rw [rev_all (l ++ [a]) HQ.out] at V10
              have B10 := Lib.hid (B8.out.trans (BB10.out.mono B8.out.size))
              have A10 := Lib.hid (A8.out.below BB10.out)
              have T10 := Lib.hid (T8.out.below BB10.out)
              have O10 := Lib.hid (O8.out.below BB10.out)
              have P10 := Lib.hid (P8.out.below BB10.out)
              have S10 : Hid (w8.heap.size ≤ w10.heap.size) := Lib.hid (by have := BB10.out.size; omega)
              clear BB10 B8 hx0 hx1 hlt A8 T8 O8 P8
              obtain ⟨ta, tc, rfl⟩ := V10.out.slice
              rw [show (l ++ [a]).reverse.length = q by rw [List.length_reverse, HQ.out]] at V10 ⊢
              have VL := Lib.hid (fun k hk => (V10.out.lt k hk).2)
              go_wp2_with fail
              have hx0 : (1 : Int) ≤ (r : Int) := by have := R7.out; omega
              have hx1 : (r : Int) ≤ 7 := by have := R7.out; omega
              go_loopg [18, 91] r (fun g sv sk wx => ∃ (k : Nat) (v : Value), k + g = r ∧ sv = v ∧ sk = .int .i64 (k : Int) ∧ Hid (OwnT 47 3 mbC wx w10.heap.size v ((ms ++ [m]).reverse.take k)) ∧ Hid (Below w10.heap.size w10 wx))
              case atStart => exact ⟨0, _, by omega, rfl, rfl, Lib.hid (OwnT.nil _ _), Lib.hid (Below.refl _ _)⟩
              case round =>
                obtain ⟨k, v, hk, rfl, rfl, U12, BB12⟩ := hrel
                obtain ⟨w12, rfl⟩ : ∃ y, y = wr := ⟨_, rfl⟩
                have q0 : (0 : Int) ≤ (k : Int) := Int.natCast_nonneg k
                by_cases hlt : k < r
                · have d0 : decide ((k : Int) < (r : Int)) = true := by rw [decide_eq_true_iff]; omega
                  have d1 : decide (k < r) = true := by rw [decide_eq_true_iff]; omega
                  have KL := Lib.hid hlt
                  obtain ⟨j, hj⟩ : ∃ j : Nat, r - 1 - k = j := ⟨_, rfl⟩
                  have HJ := Lib.hid hj
                  have z0 : IntKind.i64.wrap ((r : Int) - 1) = (r : Int) - 1 := IntWalk.i64_in _ (by omega)
                  have z1 : IntKind.i64.wrap ((r : Int) - 1 - (k : Int)) = (j : Int) := by rw [IntWalk.i64_in _ (by omega)]; omega
                  have z2 : (r : Int) - 1 - (k : Int) = (j : Int) := by omega
                  have z4 : (0 : Int) ≤ (j : Int) := Int.natCast_nonneg j
                  have z5 : (j : Int) < (r : Int) := by omega
                  have RT := Lib.hid (rev_take mb0 (ms ++ [m]) HR.out hlt)
                  rw [hj] at RT
                  obtain ⟨b, off, rfl, hcap, hb, hc⟩ := SlAt.at_elem (s := 3) (n := r) (a := pa) (k := pc) (c := fun i => mbC ((ms ++ [m]).getD i mb0)) (by have h := (P10.out.below BB12.out).at' mb0 (by decide) (by decide) (by rw [HR.out]; have := R7.out; omega); rw [HR.out] at h; exact h) (show j < r by omega)
                  obtain ⟨x, hx⟩ : ∃ y, (ms ++ [m]).getD j mb0 = y := ⟨_, rfl⟩
                  have HCK := Lib.hid (fun i hi => hc j (by have := HJ.out; have := KL.out; omega) i hi)
                  rw [hx] at HCK RT
                  obtain ⟨va, vc, rfl⟩ := U12.out.slice
                  have LK : Hid (((ms ++ [m]).reverse.take k).length = k) := Lib.hid (by rw [List.length_take, List.length_reverse, HR.out]; omega)
                  rw [LK.out] at U12 ⊢
                  clear hc hb hcap hx hj hlt
                  go_wp2_with (first | ((with_reducible (show wpList _ _ _ (Oper.mk (some 102) _ _ _ _ _ :: _) _ _)); refine Hid.out ?_))
                  refine Lib.hid ?_
                  refine wpList_load_elem rfl 47 (.tmp 101) rfl b (off + j * 3) rfl 3 off j (by rw [Nat.mul_comm]) (mbC x) HCK.out _ Tryd.underlying47 rfl (by kernel_rfl) ?_
                  have hsz : (rowF 3 (mbC x)).size = 3 := rowF_size _ _
                  go_wp2_with (first | ((with_reducible (show wpList _ _ _ (Oper.mk (some 104) _ _ _ _ _ :: _) _ _)); refine Hid.out ?_))
                  refine Lib.hid ?_
                  rw [fold_mem]
                  clear hsz HCK
                  have al := (Below.refl _ w12).alloc (Nat.le_refl _) (.cells (rowF 3 (mbC x)) 47)
                  have R := RowV.new w12 47 3 (mbC x)
                  have LT : Hid (w12.heap.size < (w12.alloc (.cells (rowF 3 (mbC x)) 47)).heap.size) := Lib.hid (by rw [World.size_alloc]; omega)
                  obtain ⟨w13, hw⟩ : ∃ y, w12.alloc (.cells (rowF 3 (mbC x)) 47) = y := ⟨_, rfl⟩
                  rw [hw] at al R LT ⊢
                  have U13 := Lib.hid (U12.out.below al)
                  have BB13 := Lib.hid (BB12.out.trans (al.mono BB12.out.size))
                  have R13 := Lib.hid (OwnT.one (c := mbC) (a := x) (by decide) R)
                  clear al R hw U12 BB12
                  refine wpList_app_S rfl (.tmp 94) (.tmp 103) info_mem Tryd.underlying37 rfl (by decide) (by decide) mbC_one mb0 rfl w10.heap.size _ ((ms ++ [m]).reverse.take k) rfl U13.out _ [x] rfl (R13.out.at' mb0 (by decide) (by decide) (by simp)) (by rw [LK.out, List.length_singleton]; have := KL.out; have := R7.out; omega) BB13.out.size ?_
                  intro v12 w14 U14 s14
                  have BB14 := Lib.hid (BB13.out.trans (below_app s14.out BB13.out.size U13.out.ge))
                  rw [← RT.out] at U14
                  obtain ⟨va2, vc2, rfl⟩ := U14.out.slice
                  have LK2 : Hid (((ms ++ [m]).reverse.take (k + 1)).length = k + 1) := Lib.hid (by rw [List.length_take, List.length_reverse, HR.out]; have := KL.out; omega)
                  rw [LK2.out] at U14 ⊢
                  clear s14 U13 BB13 R13 LT
                  go_wp2_with fail
                  go_roundg (gk - 1)
                  case measure => have := KL.out; omega
                  case rel =>
                    go_light
                    exact ⟨k + 1, _, by have := KL.out; omega, rfl, by go_num, U14, BB14⟩
                · obtain rfl : r = k := by omega
                  have d0 : decide ((r : Int) < (r : Int)) = false := by rw [decide_eq_false_iff_not]; omega
                  have d1 : decide (r < r) = false := by rw [decide_eq_false_iff_not]; omega
                  rw [rev_all (ms ++ [m]) HR.out] at U12
                  have B12 := Lib.hid (B10.out.trans (BB12.out.mono B10.out.size))
                  have A12 := Lib.hid (A10.out.below BB12.out)
                  have T12 := Lib.hid (T10.out.below BB12.out)
                  have O12 := Lib.hid (O10.out.below BB12.out)
                  have P12 := Lib.hid (P10.out.below BB12.out)
                  have V12 := Lib.hid (V10.out.below BB12.out)
                  have S12 : Hid (w8.heap.size ≤ w12.heap.size) := Lib.hid (by have := BB12.out.size; have := S10.out; omega)
                  clear BB12 B10 hx0 hx1 hlt A10 T10 O10 P10 V10
                  obtain ⟨oa, oc, rfl⟩ := U12.out.slice
                  rw [show (ms ++ [m]).reverse.length = r by rw [List.length_reverse, HR.out]] at U12 ⊢
                  go_wp2_with (first | ((with_reducible (show wpList _ _ _ (Oper.mk (some 110) _ _ _ _ _ :: _) _ _)); refine Hid.out ?_))
                  refine Lib.hid ?_
                  refine wpList_load_rowV rfl 27 (.tmp 10) rfl w.heap.size rfl 38 _ _ (A12.out) _ Tryd.underlying27 rfl (by kernel_rfl) ?_
                  have hsz : (rowF 38 (akC a)).size = 38 := rowF_size _ _
                  go_wp2_with (first | ((with_reducible (show wpList _ _ _ (Oper.mk (some 112) _ _ _ _ _ :: _) _ _)); refine Hid.out ?_))
                  refine Lib.hid ?_
                  rw [fold_ack]
                  clear hsz
                  have al := (Below.refl _ w12).alloc (Nat.le_refl _) (.cells (rowF 38 (akC a)) 27)
                  have R := RowV.new w12 27 38 (akC a)
                  have LT : Hid (w12.heap.size < (w12.alloc (.cells (rowF 38 (akC a)) 27)).heap.size) := Lib.hid (by rw [World.size_alloc]; omega)
                  obtain ⟨w13, hw⟩ : ∃ y, w12.alloc (.cells (rowF 38 (akC a)) 27) = y := ⟨_, rfl⟩
                  rw [hw] at al R LT ⊢
                  have V13 := Lib.hid (V12.out.below al)
                  have U13 := Lib.hid (U12.out.below al)
                  have O13 := Lib.hid (O12.out.below al)
                  have P13 := Lib.hid (P12.out.below al)
                  have S13 := Lib.hid (Nat.le_trans S12.out al.size)
                  have B13 := Lib.hid (B12.out.trans (al.mono B12.out.size))
                  have R13 := Lib.hid (OwnT.one (c := akC) (a := a) (by decide) R)
                  clear al R hw V12 U12 O12 P12 B12 A12 T12
                  have VG := Lib.hid V13.out.ge
                  refine wpList_app_S rfl (.tmp 109) (.tmp 111) info_ack Tryd.underlying38 rfl (by decide) (by decide) akC_one ak0 rfl w8.heap.size _ (l ++ [a]).reverse rfl V13.out _ [a] rfl (R13.out.at' ak0 (by decide) (by decide) (by simp)) (by rw [List.length_reverse, HQ.out, List.length_singleton]; have := Q13.out; omega) S13.out ?_
                  intro v14 w14 V14 s14
                  have B14 := Lib.hid (B13.out.trans (below_app s14.out B13.out.size (fun k hk => Nat.le_trans S8.out (VG.out k hk))))
                  have U14 := Lib.hid (U13.out.appR VL.out U13.out.ge s14.out)
                  have O14 := Lib.hid (O13.out.appL OL.out VG.out s14.out)
                  have P14 := Lib.hid (P13.out.appL PL.out VG.out s14.out)
                  obtain ⟨ta2, tc2, rfl⟩ := V14.out.slice
                  have LV : Hid (((l ++ [a]).reverse ++ [a]).length = q + 1) := Lib.hid (by rw [List.length_append, List.length_reverse, HQ.out, List.length_singleton])
                  rw [LV.out] at V14 ⊢
                  have T14 := Lib.hid (TT.out.below B14.out)
                  clear s14 V13 U13 O13 P13 B13 R13 LT VG
                  go_wp2_with fail
                  refine (E4.out _ _ _ (U14.out.mems (by rw [List.length_reverse, HR.out]; have := R7.out; omega)) (V14.out.acks (by rw [LV.out]; have := Q13.out; omega)) T14.out).mono ?_
                  rintro e w15 ⟨rfl, b15⟩
                  have B15 := Lib.hid (B14.out.trans (b15.mono B14.out.size))
                  have O15 := Lib.hid (O14.out.below b15)
                  have P15 := Lib.hid (P14.out.below b15)
                  have T15 := Lib.hid (T14.out.below b15)
                  clear b15 B14 O14 P14 T14 V14 U14
                  go_wp2_with fail
                  refine (E3.out _ _ _ (P15.out.mems (by rw [HR.out]; have := R7.out; omega)) (O15.out.acks (by rw [HQ.out]; have := Q13.out; omega)) T15.out).mono ?_
                  rintro e w16 ⟨rfl, b16⟩
                  have B16 := Lib.hid (B15.out.trans (b16.mono B15.out.size))
                  clear b16 B15 O15 P15 T15
                  have t0 : (n3 == n3) = true := by simp
                  go_wp2_with fail
                  go_ret
                  exact ⟨rfl, B16.out⟩
  · have e1 : (decide (mn ≤ 6) && decide (ln ≤ 12) && decide ((0 : Nat) ≤ 60)) = false := by
      rw [Bool.eq_false_iff]; intro h; simp only [Bool.and_eq_true, decide_eq_true_eq] at h; exact hfew h.1
    rw [e1] at FEW
    clear e1 hfew hm hl hmn hln gm gl ha hmb wf ws hT
    go_enter Tryd.func5, Tryd.ntmps5
    have B0 := Lib.hid (Below.refl w.heap.size w)
    go_upto_region 1 with fail
    obtain ⟨w1, hw1⟩ : ∃ y, w.alloc (.cells (rowF 38 (akC a)) 27) = y := ⟨_, rfl⟩
    have b1 : Below w.heap.size w w1 := by rw [← hw1]; exact (Below.refl _ _).alloc (Nat.le_refl _) _
    have A1 : Hid (RowV w1 w.heap.size 27 38 (akC a)) := Lib.hid (by rw [← hw1]; exact RowV.new w _ 38 (akC a))
    have z1 : w.heap.size + 1 = w1.heap.size := by rw [← hw1]; exact (Array.size_push _).symm
    rw [hw1]
    (try rw [z1])
    have B1 := Lib.hid (B0.out.trans (b1.mono B0.out.size))
    have T1 := Lib.hid (T0.out.below b1)
    clear b1 hw1 z1 B0 T0
    go_wp2_with fail
    obtain ⟨w2, hw2⟩ : ∃ y, w1.alloc (.cells (rowF 3 (mbC m)) 47) = y := ⟨_, rfl⟩
    have b2 : Below w1.heap.size w1 w2 := by rw [← hw2]; exact (Below.refl _ _).alloc (Nat.le_refl _) _
    have M2 : Hid (RowV w2 w1.heap.size 47 3 (mbC m)) := Lib.hid (by rw [← hw2]; exact RowV.new w1 _ 3 (mbC m))
    have z2 : w1.heap.size + 1 = w2.heap.size := by rw [← hw2]; exact (Array.size_push _).symm
    rw [hw2]
    (try rw [z2])
    have B2 := Lib.hid (B1.out.trans (b2.mono B1.out.size))
    have T2 := Lib.hid (T1.out.below b2)
    have A2 := Lib.hid (A1.out.below b2)
    clear b2 hw2 z2 B1 T1 A1
    go_wp2_with fail
    refine (SN.out _ T2.out).mono ?_
    rintro e w3 ⟨rfl, b3⟩
    have B3 := Lib.hid (B2.out.trans (b3.mono B2.out.size))
    have T3 := Lib.hid (T2.out.below b3)
    have A3 := Lib.hid (A2.out.below b3)
    have M3 := Lib.hid (M2.out.below b3)
    clear b3 B2 T2 A2 M2
    go_wp2_with fail
    refine (FEW.out _).mono ?_
    rintro e w4 ⟨rfl, b4⟩
    have B4 := Lib.hid (B3.out.trans (b4.mono B3.out.size))
    have T4 := Lib.hid (T3.out.below b4)
    have A4 := Lib.hid (A3.out.below b4)
    have M4 := Lib.hid (M3.out.below b4)
    clear b4 B3 T3 A3 M3
    go_wp2_with fail
    go_ret
    exact ⟨rfl, B4.out⟩

set_option maxRecDepth 100000 in
set_option maxHeartbeats 1000000 in
theorem lifted (os : Os) (started : os.Started) (H : Type) (enc : TypeId × Value → H) :
    ReturnsInHanded {} Tryd.checked os 5 .any (fun w args => (Rows.acksMoreSpec.pre enc Tryd.prog Tryd.f5 [] false w args ∧ laidMetH Tryd.prog laidL w) ∧ sizedMet enc Tryd.prog Tryd.f5 (OpenSpec.ofChange Rows.acksMoreSpec) false w args)
      (Rows.acksMoreSpec.post enc Tryd.prog Tryd.f5 false true false false) := by
  refine returnsInHanded_of_change_and (C := Tryd.checked) (X := fun w _ => laidMetH Tryd.prog laidL w) (fun _ _ _ hh h => h.of_heap hh) own started (by kernel_rfl) Tryd.func5
    (ChangeSpec.witness_shaped (enc := enc) (C := Tryd.checked) (os := os) (X := fun w _ => laidMetH Tryd.prog laidL w) false (World.doorLaid Tryd.prog 19 os) #[.slice none 0 0, .int .i64 0, .int .i64 0, .slice none 0 0, .agg #[.int .i64 0, .int .i64 0, .int .i64 0, .int .i64 0, .int .u8 0, .int .u8 0, .int .u8 0, .int .u8 0, .int .u8 0, .int .u8 0, .int .u8 0, .int .u8 0, .int .u8 0, .int .u8 0, .int .u8 0, .int .u8 0, .int .u8 0, .int .u8 0, .int .u8 0, .int .u8 0, .int .u8 0, .int .u8 0, .int .u8 0, .int .u8 0, .int .u8 0, .int .u8 0, .int .u8 0, .int .u8 0, .int .u8 0, .int .u8 0, .int .u8 0, .int .u8 0, .int .u8 0, .int .u8 0, .int .u8 0, .int .u8 0, .int .i64 0, .int .i64 0], .agg #[.int .i64 0, .int .i64 0, .int .i64 0]] 8 rfl (World.shaped_of_RefB (by kernel_rfl) (by kernel_rfl)) (by kernel_rfl) (by kernel_rfl) (by kernel_rfl) (door_met os _)) ?_
  intro W base args ds gs before hval0 hW _ hsz hL _
  have hval : ∀ (j : Nat) t v, Tryd.f5.params[j]? = some t → args[j]? = some v → Value.okWide Tryd.prog W .any base t v := hval0
  have hW' := hW
  obtain ⟨p, q, hA0, hV, rfl, hfz, hnd⟩ := hW
  have hA : DataW.TrodAll enc Tryd.prog W 0 (fun _ => true) true Tryd.f5.params.toList args.toList ds p := hA0
  rw [Tryd.params5] at hA hval
  obtain ⟨v0, vs0, d0, ds0, p0, q0, hargs, rfl, rfl, h0, r0⟩ := trodAll_cons hA
  obtain ⟨v1, vs1, d1, ds1, p1, q1, rfl, rfl, rfl, h1, r1⟩ := trodAll_cons r0
  obtain ⟨v2, vs2, d2, ds2, p2, q2, rfl, rfl, rfl, h2, r2⟩ := trodAll_cons r1
  obtain ⟨v3, vs3, d3, ds3, p3, q3, rfl, rfl, rfl, h3, r3⟩ := trodAll_cons r2
  obtain ⟨v4, vs4, d4, ds4, p4, q4, rfl, rfl, rfl, h4, r4⟩ := trodAll_cons r3
  obtain ⟨v5, vs5, d5, ds5, p5, q5, rfl, rfl, rfl, h5, r5⟩ := trodAll_cons r4
  obtain ⟨rfl, rfl, rfl⟩ := trodAll_nil r5
  obtain rfl : args = #[v0, v1, v2, v3, v4, v5] := by cases args; simp_all
  obtain ⟨rfl, rfl⟩ := trodVars_none hV
  have k0 := h0
  have lt0 : ∀ x ∈ p0, x.block < W.heap.size := by obtain ⟨m, hm⟩ := k0; exact DataW.trod_lt m _ _ _ hm
  obtain ⟨l0, g0, s0⟩ := slice_open (c := mbC) (good := Mb.wf) mb0 Tryd.underlying37 (show Tryd.prog.cellsOf 47 = 3 by kernel_rfl) (by decide) (fun n cs x h => trod_mem h) (hval 0 37 v0 rfl rfl) h0 (fun elems spare e => by
    have := sized_slice hsz (j := 0) (t := 37) (e := 47) (elems := elems) (spare := spare) (by kernel_rfl) (by rw [← e]; rfl) Tryd.underlying37
    rw [show Tryd.checked.prog.bytesOf 47 = 24 by kernel_rfl] at this; omega)
  obtain ⟨a1, rfl, rfl, rfl, w1⟩ := open_int Tryd.underlying3 (hval 1 3 v1 rfl rfl) h1
  obtain ⟨a2, rfl, rfl, rfl, w2⟩ := open_int Tryd.underlying3 (hval 2 3 v2 rfl rfl) h2
  have k3 := h3
  have lt3 : ∀ x ∈ p3, x.block < W.heap.size := by obtain ⟨m, hm⟩ := k3; exact DataW.trod_lt m _ _ _ hm
  obtain ⟨l3, g3, s3⟩ := slice_open (c := akC) (good := Ak.wf) ak0 Tryd.underlying38 (show Tryd.prog.cellsOf 27 = 38 by kernel_rfl) (by decide) (fun n cs x h => trod_ack h) (hval 3 38 v3 rfl rfl) h3 (fun elems spare e => by
    have := sized_slice hsz (j := 3) (t := 38) (e := 27) (elems := elems) (spare := spare) (by kernel_rfl) (by rw [← e]; rfl) Tryd.underlying38
    rw [show Tryd.checked.prog.bytesOf 27 = 80 by kernel_rfl] at this; omega)
  have k4 := h4
  have lt4 : ∀ x ∈ p4, x.block < W.heap.size := by obtain ⟨m, hm⟩ := k4; exact DataW.trod_lt m _ _ _ hm
  obtain ⟨a4, wa4, rfl⟩ := ack_open (hval 4 27 v4 rfl rfl) h4
  have k5 := h5
  have lt5 : ∀ x ∈ p5, x.block < W.heap.size := by obtain ⟨m, hm⟩ := k5; exact DataW.trod_lt m _ _ _ hm
  obtain ⟨a5, wa5, rfl⟩ := mem_open (hval 5 47 v5 rfl rfl) h5
  have hT := tab_of_laid hL
  clear hA0 hval0 hsz hL
  simp only [List.append_nil] at hW'
  refine (walk v0 l0 g0 s0 a1 w1 a2 w2 v3 l3 g3 s3 a4 wa4 a5 wa5 hT).mono fun e W' ⟨he, hg⟩ => ?_
  subst he
  exact ⟨_, rfl, _, _, _, [], _, [], hW', trodAll_mk1 (shut_bool Tryd.underlying4 _), (trodAll_cons_mk (Below.trod laidOut (by kernel_rfl) (of_decide_eq_true (by kernel_rfl)) k0 hg lt0) (trodAll_cons_mk (shut_int Tryd.underlying3 w1) (trodAll_cons_mk (shut_int Tryd.underlying3 w2) (trodAll_cons_mk (Below.trod laidOut (by kernel_rfl) (of_decide_eq_true (by kernel_rfl)) k3 hg lt3) (trodAll_cons_mk (Below.trod laidOut (by kernel_rfl) (of_decide_eq_true (by kernel_rfl)) k4 hg lt4) (trodAll_cons_mk (Below.trod laidOut (by kernel_rfl) (of_decide_eq_true (by kernel_rfl)) k5 hg lt5) trodAll_mk0)))))), rfl, hg.frame _, fun h => by cases h⟩

theorem over : Rows.acksMoreRow.holds Tryd.pinned (OpenSpec.ofChange Rows.acksMoreSpec) :=
  OpenClaim.holds_of_wide 5 Tryd.f5 rfl rfl rfl rfl rfl rfl rfl ⟨rfl, rfl, rfl, rfl, rfl⟩ rfl rfl rfl rfl rfl (by kernel_rfl) Tryd.func5 (by kernel_rfl)
    (of_decide_eq_true (by kernel_rfl)) (by unfold Func.isWrapper; first | (rw [if_pos (by decide +kernel)]; kernel_rfl) | (rw [if_neg (by decide +kernel)]; exact ⟨rfl, rfl⟩))
    (fun os started H enc _ => lifted os started H enc)

end Go.Proofs.YtbjbgneejdjniaaDoor.acksMore
namespace Go.Proofs.YtbjbgneejdjniaaDoor
set_option maxRecDepth 100000 in
theorem acksMore_holds : Rows.AcksMoreCardSaid :=
  Claim7.holds_tied_plain_at .later [] [.data, .data] true _ true
    acksMore.over (fun _ h => by cases h) (by kernel_rfl) (fun _ h => by cases h) acksMore_row_tie rfl ⟨rfl, rfl⟩ (by kernel_rfl) rfl
    (fun f fn hf hfn => by
      obtain rfl : f = 5 := Option.some.inj ((show Tryd.prog.funcNamed "chartroom/chartroomlaw33.AcksMore" = some 5 by kernel_rfl).symm.trans hf) |>.symm
      obtain rfl : fn = Tryd.f5 := (Option.some.inj (Tryd.func5.symm.trans hfn)).symm
      exact ⟨by kernel_rfl, fun j t ht => by
        rw [Tryd.params5] at ht
        have hm : t ∈ [37, 3, 3, 38, 27, 47] := by simpa using Array.mem_of_getElem? ht
        have hall : ([37, 3, 3, 38, 27, 47].all fun u => !Tryd.prog.wantsStandIn u) = true := by kernel_rfl
        exact (show Tryd.prog.wantsStandIn t = false by simpa using List.all_eq_true.1 hall t hm)⟩)
    (by kernel_rfl)
#print axioms acksMore_holds
end Go.Proofs.YtbjbgneejdjniaaDoor
