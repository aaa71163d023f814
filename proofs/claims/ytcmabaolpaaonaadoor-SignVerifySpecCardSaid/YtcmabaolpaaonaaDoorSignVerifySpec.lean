/- SignVerifySpec returns true for every input. No condition beyond the card's own: the two tables of package digest are tied to the program's text. -/
import Derived.Test.YtcmabaolpaaonaaDoorSigOpen
import Derived.Test.YtcmabaolpaaonaaDoorLaid
import Derived.Test.YtcmabaolpaaonaaDoorCards
namespace Go.Proofs.YtcmabaolpaaonaaDoor.signVerifySpec
open Go.ChangeShapes Go.WideShapes Go.ChangeAt Go.RowKit
open Go.ChangeMaps (open_string shut_string)
set_option linter.unusedVariables false
set_option linter.unusedSimpArgs false

set_option maxRecDepth 100000 in
set_option maxHeartbeats 4000000 in
theorem walk {w : World} (p : Int) (wp : (Lit.int .i64 p).wf = true) (v : Value) (l : List UInt8) (hv : BytesAt w v l) (hs : ∃ a cap, v = .slice a l.length cap) (r s : Int) (hT : Tab w) :
    Calls Tryd.prog 4 #[.int .i64 p, v, .agg #[.int .i64 r, .int .i64 s]] w fun e w' => e = .returned (.bool true) ∧ Below w.heap.size w w' := by
  obtain ⟨a, cap, rfl⟩ := hs
  obtain ⟨n, hn⟩ : ∃ n, l.length = n := ⟨_, rfl⟩
  have Hv := Lib.hid hv
  have HT := Lib.hid hT
  have C1 := Lib.hid (fun W hT => sane5_any W hT)
  have c2 : ∀ W, n ≤ 300 → BytesAt W (.slice a n cap) l → Tab W → Calls Tryd.prog 16 #[.int .i64 p, .slice a n cap, .agg #[.int .i64 r, .int .i64 s]] W fun e w' => e = .returned (.bool (verB p l r s)) ∧ Below W.heap.size W w' := fun W h hv hT => verify_any p r s _ l W (by omega) hv hT
  have c3 : ∀ W, n ≤ 300 → BytesAt W (.slice a n cap) l → Calls Tryd.prog 17 #[.int .i64 p, .slice a n cap, .agg #[.int .i64 r, .int .i64 s]] W fun e w' => e = .returned (.bool (verB p l r s)) ∧ Below W.heap.size W w' := fun W h hv => rverify_any p r s _ l W (by omega) hv
  obtain ⟨ans, hans⟩ : ∃ b, verB p l r s = b := ⟨_, rfl⟩
  rw [hans] at c2 c3
  rw [hn] at Hv ⊢
  clear hans hn wp hv hT
  have A0 := Lib.hid ((Below.refl _ w).alloc (Nat.le_refl _) (.cells (rowF 2 (sigF r s)) 30))
  have R0 := Lib.hid (RowV.new w 30 2 (sigF r s))
  by_cases h1 : n ≤ 300
  · have C2 := Lib.hid (fun W => c2 W h1); have C3 := Lib.hid (fun W => c3 W h1)
    have d1 : decide (300 < (n : Int)) = false := by rw [decide_eq_false_iff_not]; omega
    have d2 : decide (300 < n) = false := by rw [decide_eq_false_iff_not]; omega
    have d3 : ¬ 300 < n := by omega
    clear c2 c3 h1
    go_enter Tryd.func4, Tryd.ntmps4
    go_upto_region 1 with fail
    obtain ⟨w1, hw1⟩ : ∃ y, w.alloc (.cells (rowF 2 (sigF r s)) 30) = y := ⟨_, rfl⟩
    have hw2 : w.alloc (.cells #[.int .i64 r, .int .i64 s] 30) = w1 := hw1
    rw [hw1] at R0 A0
    rw [hw2]
    clear hw1 hw2
    have B1 := A0
    have V1 := Lib.hid (Hv.out.below A0.out)
    have T1 := Lib.hid (HT.out.below A0.out)
    have R1 := R0
    clear A0 R0
    go_wp2_with fail
    refine (C1.out _ T1.out).mono ?_
    rintro e w2 ⟨rfl, b2⟩
    have B2 := Lib.hid (B1.out.trans (b2.mono B1.out.size))
    have V2 := Lib.hid (V1.out.below b2)
    have T2 := Lib.hid (T1.out.below b2)
    have R2 := Lib.hid (R1.out.below b2)
    clear b2 B1 V1 T1 R1
    go_upto_region 5 with fail
    have x0 : w2.cell? ⟨w.heap.size, 0, none⟩ = some (.int .i64 r) := R2.out.cell (i := 0) (by decide)
    have x1 : w2.cell? ⟨w.heap.size, 1, none⟩ = some (.int .i64 s) := R2.out.cell (i := 1) (by decide)
    have qx0 := fun d os => cell_regrown x0 d os
    have qx1 := fun d os => cell_regrown x1 d os
    clear x0 x1
    have D0 := Lib.hid (fun (W : World) (b : Below w2.heap.size w2 W) => C2.out W (V2.out.below b) (T2.out.below b))
    have D1 := Lib.hid (fun (W : World) (b : Below w2.heap.size w2 W) => C3.out W (V2.out.below b))
    refine wp_below_tail 8 (by kernel_rfl) (by kernel_rfl) ?_
    simp only [List.take_succ_cons, List.take_zero, List.drop_succ_cons, List.drop_zero]
    repeat (quiet_step (first | with_reducible exact qbelow D0.out _ _ | with_reducible exact qbelow D1.out _ _))
    refine wpQuiet_nil ?_
    intro w3 hw3
    have b3 := regrown_below hw3
    have B3 := Lib.hid (B2.out.trans (b3.mono B2.out.size))
    have V3 := Lib.hid (V2.out.below b3)
    have T3 := Lib.hid (T2.out.below b3)
    have R3 := Lib.hid (R2.out.below b3)
    clear b3 hw3 qx0 qx1 D0 D1 B2 V2 T2 R2
    go_wp2_with fail
    go_ret
    exact ⟨rfl, B3.out⟩
  · have d1 : decide (300 < (n : Int)) = true := by rw [decide_eq_true_iff]; omega
    have d2 : decide (300 < n) = true := by rw [decide_eq_true_iff]; omega
    have d3 : 300 < n := by omega
    clear c2 c3 h1
    go_enter Tryd.func4, Tryd.ntmps4
    go_upto_region 1 with fail
    obtain ⟨w1, hw1⟩ : ∃ y, w.alloc (.cells (rowF 2 (sigF r s)) 30) = y := ⟨_, rfl⟩
    have hw2 : w.alloc (.cells #[.int .i64 r, .int .i64 s] 30) = w1 := hw1
    rw [hw1] at R0 A0
    rw [hw2]
    clear hw1 hw2
    have B1 := A0
    have T1 := Lib.hid (HT.out.below A0.out)
    clear A0 R0
    go_wp2_with fail
    refine (C1.out _ T1.out).mono ?_
    rintro e w2 ⟨rfl, b2⟩
    have B2 := Lib.hid (B1.out.trans (b2.mono B1.out.size))
    clear b2 B1
    go_wp2_with fail
    go_ret
    exact ⟨rfl, B2.out⟩

set_option maxRecDepth 100000 in
set_option maxHeartbeats 1000000 in
theorem lifted (os : Os) (started : os.Started) (H : Type) (enc : TypeId × Value → H) :
    ReturnsInHanded {} Tryd.checked os 4 .any (fun w args => (Rows.signVerifySpecSpec.pre enc Tryd.prog Tryd.f4 [] false w args ∧ laidMetH Tryd.prog laidL w) ∧ sizedMet enc Tryd.prog Tryd.f4 (OpenSpec.ofChange Rows.signVerifySpecSpec) false w args)
      (Rows.signVerifySpecSpec.post enc Tryd.prog Tryd.f4 false true false false) := by
  refine returnsInHanded_of_change_and (C := Tryd.checked) (X := fun w _ => laidMetH Tryd.prog laidL w) (fun _ _ _ hh h => h.of_heap hh) own started (by kernel_rfl) Tryd.func4
    (ChangeSpec.witness_shaped (enc := enc) (C := Tryd.checked) (os := os) (X := fun w _ => laidMetH Tryd.prog laidL w) false (World.doorLaid Tryd.prog 19 os) #[.int .i64 0, .slice none 0 0, .agg #[.int .i64 0, .int .i64 0]] 8 rfl (World.shaped_of_RefB (by kernel_rfl) (by kernel_rfl)) (by kernel_rfl) (by kernel_rfl) (by kernel_rfl) (door_met os _)) ?_
  intro W base args ds gs before hval0 hW _ hsz hL _
  have hval : ∀ (j : Nat) t v, Tryd.f4.params[j]? = some t → args[j]? = some v → Value.okWide Tryd.prog W .any base t v := hval0
  have hW' := hW
  obtain ⟨p, q, hA0, hV, rfl, hfz, hnd⟩ := hW
  have hA : DataW.TrodAll enc Tryd.prog W 0 (fun _ => true) true Tryd.f4.params.toList args.toList ds p := hA0
  rw [Tryd.params4] at hA hval
  obtain ⟨v0, vs0, d0, ds0, p0, q0, hargs, rfl, rfl, h0, r0⟩ := trodAll_cons hA
  obtain ⟨v1, vs1, d1, ds1, p1, q1, rfl, rfl, rfl, h1, r1⟩ := trodAll_cons r0
  obtain ⟨v2, vs2, d2, ds2, p2, q2, rfl, rfl, rfl, h2, r2⟩ := trodAll_cons r1
  obtain ⟨rfl, rfl, rfl⟩ := trodAll_nil r2
  obtain rfl : args = #[v0, v1, v2] := by cases args; simp_all
  obtain ⟨rfl, rfl⟩ := trodVars_none hV
  obtain ⟨a0, rfl, rfl, rfl, w0⟩ := open_int Tryd.underlying3 (hval 0 3 v0 rfl rfl) h0
  have k1 := h1
  have lt1 : ∀ x ∈ p1, x.block < W.heap.size := by obtain ⟨m, hm⟩ := k1; exact DataW.trod_lt m _ _ _ hm
  obtain ⟨l1, b1, s1⟩ := bytes_open (hval 1 22 v1 rfl rfl) h1 (fun elems spare e => by
    have := sized_slice hsz (j := 1) (t := 22) (e := 5) (elems := elems) (spare := spare) (by kernel_rfl) (by rw [← e]; rfl) Tryd.underlying22
    rw [show Tryd.checked.prog.bytesOf 5 = 1 by kernel_rfl] at this; omega)
  have k2 := h2
  have lt2 : ∀ x ∈ p2, x.block < W.heap.size := by obtain ⟨m, hm⟩ := k2; exact DataW.trod_lt m _ _ _ hm
  obtain ⟨a2, b2, rfl⟩ := sig_open (hval 2 30 v2 rfl rfl) h2
  have hT := tab_of_laid hL
  clear hA0 hval0 hsz hL
  simp only [List.append_nil] at hW'
  refine (walk a0 w0 v1 l1 b1 s1 a2 b2 hT).mono fun e W' ⟨he, hg⟩ => ?_
  subst he
  exact ⟨_, rfl, _, _, _, [], _, [], hW', trodAll_mk1 (shut_bool Tryd.underlying4 _), (trodAll_cons_mk (shut_int Tryd.underlying3 w0) (trodAll_cons_mk (Below.trod laidOut (by kernel_rfl) (of_decide_eq_true (by kernel_rfl)) k1 hg lt1) (trodAll_cons_mk (Below.trod laidOut (by kernel_rfl) (of_decide_eq_true (by kernel_rfl)) k2 hg lt2) trodAll_mk0))), rfl, hg.frame _, fun h => by cases h⟩

theorem over : Rows.signVerifySpecRow.holds Tryd.pinned (OpenSpec.ofChange Rows.signVerifySpecSpec) :=
  OpenClaim.holds_of_wide 4 Tryd.f4 rfl rfl rfl rfl rfl rfl rfl ⟨rfl, rfl, rfl, rfl, rfl⟩ rfl rfl rfl rfl rfl (by kernel_rfl) Tryd.func4 (by kernel_rfl)
    (of_decide_eq_true (by kernel_rfl)) (by unfold Func.isWrapper; first | (rw [if_pos (by decide +kernel)]; kernel_rfl) | (rw [if_neg (by decide +kernel)]; exact ⟨rfl, rfl⟩))
    (fun os started H enc _ => lifted os started H enc)

end Go.Proofs.YtcmabaolpaaonaaDoor.signVerifySpec
namespace Go.Proofs.YtcmabaolpaaonaaDoor
set_option maxRecDepth 100000 in
theorem signVerifySpec_holds : Rows.SignVerifySpecCardSaid :=
  Claim7.holds_tied_plain_at .later [] [.data, .data] true _ false
    signVerifySpec.over (fun _ h => by cases h) (by kernel_rfl) (fun _ h => by cases h) signVerifySpec_row_tie rfl ⟨rfl, rfl⟩ (by kernel_rfl) rfl
    (fun f fn hf hfn => by
      obtain rfl : f = 4 := Option.some.inj ((show Tryd.prog.funcNamed "chartroom/chartroomlaw05.SignVerifySpec" = some 4 by kernel_rfl).symm.trans hf) |>.symm
      obtain rfl : fn = Tryd.f4 := (Option.some.inj (Tryd.func4.symm.trans hfn)).symm
      exact ⟨by kernel_rfl, fun j t ht => by
        rw [Tryd.params4] at ht
        have hm : t ∈ [3, 22, 30] := by simpa using Array.mem_of_getElem? ht
        have hall : ([3, 22, 30].all fun u => !Tryd.prog.wantsStandIn u) = true := by kernel_rfl
        exact (show Tryd.prog.wantsStandIn t = false by simpa using List.all_eq_true.1 hall t hm)⟩)
    (by kernel_rfl)
#print axioms signVerifySpec_holds
end Go.Proofs.YtcmabaolpaaonaaDoor
