/- PeopleCertifySpec returns true for every input. No condition beyond the card's own: the two tables of package digest are tied to the program's text. -/
import Derived.Test.YtmmppibbglacdaaGreatDoorPk43
import Derived.Test.YtmmppibbglacdaaGreatDoorPk51
import Derived.Test.YtmmppibbglacdaaGreatDoorPk50
import Derived.Test.YtmmppibbglacdaaGreatDoorPk36
import Derived.Test.YtmmppibbglacdaaGreatDoorCards
namespace Go.Proofs.YtmmppibbglacdaaGreatDoor.peopleCertifySpec
open Go.ChangeShapes Go.WideShapes Go.ChangeAt Go.RowKit
open Go.ChangeMaps (open_string shut_string)
set_option linter.unusedVariables false
set_option linter.unusedSimpArgs false

def two (x y : Int) (j : Nat) : Value := match j with | 0 => .int .i64 x | _ => .int .i64 y
set_option maxRecDepth 100000 in
set_option maxHeartbeats 16000000 in
theorem walk {w : World} (c : Ct) (wc : c.wf) (x : Int) (wx : (Lit.int .i64 x).wf = true) (hT : Tab w) :
    Calls Tryz.prog 4 #[.agg (rowF 8 (ctC c)), .int .i64 x] w fun e w' => e = .returned (.bool true) ∧ Below w.heap.size w w' := by
  have T0 := Lib.hid hT
  have C1 := Lib.hid (fun W hT => sane37_any W hT)
  have C2 : Hid (∀ W, Calls Tryz.prog 12 #[.int .i64 x] W fun e w' => e = .returned (.int .i64 ((keyM x : Nat) : Int)) ∧ W = w') := Lib.hid (fun W => key_any x W wx)
  have wf : (ctN c.k c.d c.v c.l c.n c.b).wf := ctn_wf wc.k wc.d wc.v wc.l wc.n wc.b
  have C3 := Lib.hid (fun z W h => pcertify_any c.k c.d c.v c.l c.n c.b z wf W h)
  have C4 := Lib.hid (fun z W => qcertify_any c.k c.d c.v c.l c.n c.b z wf W)
  obtain ⟨V, hV⟩ : ∃ V : Int → Ct, (fun z => crtV (ctN c.k c.d c.v c.l c.n c.b) z) = V := ⟨_, rfl⟩
  obtain ⟨E, hE⟩ : ∃ E : Int → Int, (fun z => crtE (ctN c.k c.d c.v c.l c.n c.b) z) = E := ⟨_, rfl⟩
  have v0 : ∀ z, crtV (ctN c.k c.d c.v c.l c.n c.b) z = V z := fun z => congrFun hV z
  have e0 : ∀ z, crtE (ctN c.k c.d c.v c.l c.n c.b) z = E z := fun z => congrFun hE z
  simp only [v0, e0] at C3 C4
  obtain ⟨u, hu⟩ : ∃ u : Int, ((keyM x : Nat) : Int) = u := ⟨_, rfl⟩
  rw [hu] at C2
  clear hV hE v0 e0 hu wf wc wx hT
  go_enter Tryz.func4, Tryz.ntmps4
  have B0 := Lib.hid (Below.refl w.heap.size w)
  go_upto_region 1 with fail
  obtain ⟨w1, hw1⟩ : ∃ y, w.alloc (.cells (rowF 8 (ctC c)) 33) = y := ⟨_, rfl⟩
  have b1 : Below w.heap.size w w1 := by rw [← hw1]; exact (Below.refl _ _).alloc (Nat.le_refl _) _
  have P1 : Hid (RowV w1 w.heap.size 33 8 (ctC c)) := Lib.hid (by rw [← hw1]; exact RowV.new w _ 8 (ctC c))
  have z1 : w.heap.size + 1 = w1.heap.size := by rw [← hw1]; exact (Array.size_push _).symm
  rw [hw1]
  (try rw [z1])
  have B1 := Lib.hid (B0.out.trans (b1.mono B0.out.size))
  have T1 := Lib.hid (T0.out.below b1)
  clear b1 hw1 z1 B0 T0
  go_wp2_with fail
  refine (C1.out _ T1.out).mono ?_
  rintro e w2 ⟨rfl, b2⟩
  have B2 := Lib.hid (B1.out.trans (b2.mono B1.out.size))
  have T2 := Lib.hid (T1.out.below b2)
  have P2 := Lib.hid (P1.out.below b2)
  clear b2 B1 T1 P1
  go_wp2_with fail
  refine (C2.out _).mono ?_
  rintro e wp ⟨rfl, rfl⟩
  clear C1 C2
  go_wp2_with fail
  obtain ⟨w3, hw3⟩ : ∃ y, w2.alloc (.cells #[.int .i64 x, .int .i64 u] 3) = y := ⟨_, rfl⟩
  have b3 : Below w2.heap.size w2 w3 := by rw [← hw3]; exact (Below.refl _ _).alloc (Nat.le_refl _) _
  have Y3 : Hid (RowV w3 w2.heap.size 3 2 (two x u)) := Lib.hid (by rw [← hw3]; exact RowV.new w2 _ 2 (two x u))
  have z3 : w2.heap.size + 1 = w3.heap.size := by rw [← hw3]; exact (Array.size_push _).symm
  rw [hw3]
  (try rw [z3])
  have B3 := Lib.hid (B2.out.trans (b3.mono B2.out.size))
  have T3 := Lib.hid (T2.out.below b3)
  have P3 := Lib.hid (P2.out.below b3)
  clear b3 hw3 z3 B2 T2 P2
  go_wp2_with fail
  go_loopg [18] 2 (fun g s18 wx => ∃ k : Nat, k + g = 2 ∧ s18 = .int .i64 (k : Int) ∧ Hid (Tab wx) ∧ Hid (RowV wx w.heap.size 33 8 (ctC c)) ∧ Hid (RowV wx w2.heap.size 3 2 (two x u)) ∧ Hid (Below w.heap.size w wx))
  case atStart => exact ⟨0, by omega, rfl, T3, P3, Y3, B3⟩
  case round =>
    clear T3 P3 Y3 B3
    obtain ⟨k, hk, rfl, T4, P4, Y4, B4⟩ := hrel
    obtain ⟨w4, rfl⟩ : ∃ y, y = wr := ⟨_, rfl⟩
    by_cases hlt : k < 2
    · have d0 : decide ((k : Int) < (2 : Int)) = true := by rw [decide_eq_true_iff]; omega
      have d1 : decide (k < 2) = true := by rw [decide_eq_true_iff]; omega
      have HLT := Lib.hid hlt
      obtain ⟨z, hz⟩ : ∃ z, two x u k = .int .i64 z := by unfold two; split <;> exact ⟨_, rfl⟩
      have y0 : w4.cell? ⟨w2.heap.size, k, none⟩ = some (.int .i64 z) := by rw [← hz]; exact Y4.out.cell hlt
      have y1 : w4.cell? ⟨w2.heap.size, 0 + k, none⟩ = some (.int .i64 z) := by rw [Nat.zero_add]; exact y0
      have x0 : w4.cell? ⟨w.heap.size, 0, none⟩ = some (.int .i64 c.k) := P4.out.cell (i := 0) (by decide)
      have x1 : w4.cell? ⟨w.heap.size, 1, none⟩ = some (.int .i64 c.d) := P4.out.cell (i := 1) (by decide)
      have x2 : w4.cell? ⟨w.heap.size, 2, none⟩ = some (.int .i64 c.v) := P4.out.cell (i := 2) (by decide)
      have x3 : w4.cell? ⟨w.heap.size, 3, none⟩ = some (.int .i64 c.l) := P4.out.cell (i := 3) (by decide)
      have x4 : w4.cell? ⟨w.heap.size, 4, none⟩ = some (.int .i64 c.n) := P4.out.cell (i := 4) (by decide)
      have x5 : w4.cell? ⟨w.heap.size, 5, none⟩ = some (.int .i64 c.b) := P4.out.cell (i := 5) (by decide)
      have q0 : (0 : Int) ≤ (k : Int) := Int.natCast_nonneg k
      have q1 : (k : Int) < 2 := by omega
      clear hz hlt
      go_wp2_with fail
      refine (C3.out z _ T4.out).mono ?_
      rintro e w5 ⟨rfl, b5⟩
      have B5 := Lib.hid (B4.out.trans (b5.mono B4.out.size))
      have T5 := Lib.hid (T4.out.below b5)
      have P5 := Lib.hid (P4.out.below b5)
      have Y5 := Lib.hid (Y4.out.below b5)
      clear b5 B4 T4 P4 Y4
      clear x0 x1 x2 x3 x4 x5 y0 y1
      have Zr := Lib.hid (RowV.new w5 33 8 (ctC ct0))
      go_upto_region 7 with ((with_reducible (show wpList _ _ _ (Oper.mk none _ _ _ _ _ :: _) _ _)); refine wpList_store_rowV (o := ⟨none, .store 33 (.tmp 7) (.tmp 37), _, _, _, _⟩) rfl 33 (.tmp 7) (.tmp 37) rfl w5.heap.size rfl 8 33 _ (ctC (V z)) rfl Zr.out (by kernel_rfl) (fun j _ => ctC_one _ j) ?_; intro w6 X6 o6)
      have b6 : Below w5.heap.size w5 w6 := ((Below.refl _ _).alloc (Nat.le_refl _) _).trans (o6.out.below (Nat.le_refl _) (by rw [World.size_alloc]; omega))
      have B6 := Lib.hid (B5.out.trans (b6.mono B5.out.size))
      have T6 := Lib.hid (T5.out.below b6)
      have P6 := Lib.hid (P5.out.below b6)
      have Y6 := Lib.hid (Y5.out.below b6)
      clear b6 o6 Zr B5 T5 P5 Y5
      have x0 : w6.cell? ⟨w.heap.size, 0, none⟩ = some (.int .i64 c.k) := P6.out.cell (i := 0) (by decide)
      have x1 : w6.cell? ⟨w.heap.size, 1, none⟩ = some (.int .i64 c.d) := P6.out.cell (i := 1) (by decide)
      have x2 : w6.cell? ⟨w.heap.size, 2, none⟩ = some (.int .i64 c.v) := P6.out.cell (i := 2) (by decide)
      have x3 : w6.cell? ⟨w.heap.size, 3, none⟩ = some (.int .i64 c.l) := P6.out.cell (i := 3) (by decide)
      have x4 : w6.cell? ⟨w.heap.size, 4, none⟩ = some (.int .i64 c.n) := P6.out.cell (i := 4) (by decide)
      have x5 : w6.cell? ⟨w.heap.size, 5, none⟩ = some (.int .i64 c.b) := P6.out.cell (i := 5) (by decide)
      go_wp2_with fail
      refine (C4.out z _).mono ?_
      rintro e w7 ⟨rfl, b7⟩
      have B7 := Lib.hid (B6.out.trans (b7.mono B6.out.size))
      have T7 := Lib.hid (T6.out.below b7)
      have P7 := Lib.hid (P6.out.below b7)
      have Y7 := Lib.hid (Y6.out.below b7)
      have X7 := Lib.hid (X6.out.below b7)
      clear b7 B6 T6 P6 Y6 X6
      clear x0 x1 x2 x3 x4 x5
      have Zr := Lib.hid (RowV.new w7 33 8 (ctC ct0))
      go_upto_region 8 with ((with_reducible (show wpList _ _ _ (Oper.mk none _ _ _ _ _ :: _) _ _)); refine wpList_store_rowV (o := ⟨none, .store 33 (.tmp 9) (.tmp 54), _, _, _, _⟩) rfl 33 (.tmp 9) (.tmp 54) rfl w7.heap.size rfl 8 33 _ (ctC (V z)) rfl Zr.out (by kernel_rfl) (fun j _ => ctC_one _ j) ?_; intro w8 Z8 o8)
      have b8 : Below w7.heap.size w7 w8 := ((Below.refl _ _).alloc (Nat.le_refl _) _).trans (o8.out.below (Nat.le_refl _) (by rw [World.size_alloc]; omega))
      have B8 := Lib.hid (B7.out.trans (b8.mono B7.out.size))
      have T8 := Lib.hid (T7.out.below b8)
      have P8 := Lib.hid (P7.out.below b8)
      have Y8 := Lib.hid (Y7.out.below b8)
      have X8 := Lib.hid (X7.out.below b8)
      clear b8 o8 Zr B7 T7 P7 Y7 X7
      go_wp2_with (first | ((with_reducible (show wpList _ _ _ (Oper.mk (some 56) _ _ _ _ _ :: _) _ _)); refine Hid.out ?_))
      refine Lib.hid ?_
      refine wpList_load_rowV rfl 33 (.tmp 7) rfl w5.heap.size rfl 8 _ _ (X8.out) _ Tryz.underlying33 rfl (by kernel_rfl) ?_
      go_wp2_with (first | ((with_reducible (show wpList _ _ _ (Oper.mk (some 57) _ _ _ _ _ :: _) _ _)); refine Hid.out ?_))
      refine Lib.hid ?_
      refine wpList_load_rowV rfl 33 (.tmp 9) rfl w7.heap.size rfl 8 _ _ (Z8.out) _ Tryz.underlying33 rfl (by kernel_rfl) ?_
      have n1 : ∀ W, (binOp .neq 33 (.agg (rowF 8 (ctC (V z)))) (.agg (rowF 8 (ctC (V z))))).run Tryz.prog W = .ok (.bool false) W := fun W => by rw [neq_ce, ceB_self]; rfl
      have g1 : ∀ a b W, (eqGuard .neq 33 a b (.agg (rowF 8 (ctC (V z)))) (.agg (rowF 8 (ctC (V z))))).run Tryz.prog W = .ok () W := fun a b W => guard_ce _ _ _ _ _ _
      go_wp2_with fail
      go_roundg (2 - (k + 1))
      case measure => have := HLT.out; omega
      case rel =>
        go_light
        exact ⟨k + 1, by have := HLT.out; omega, by go_num, T8, P8, Y8, B8⟩
    · have d0 : decide ((k : Int) < (2 : Int)) = false := by rw [decide_eq_false_iff_not]; omega
      have d1 : decide (k < 2) = false := by rw [decide_eq_false_iff_not]; omega
      clear P4 Y4 T4
      go_wp2_with fail
      go_ret
      exact ⟨rfl, B4.out⟩

set_option maxRecDepth 100000 in
set_option maxHeartbeats 1000000 in
theorem lifted (os : Os) (started : os.Started) (H : Type) (enc : TypeId × Value → H) :
    ReturnsInHanded {} Tryz.checked os 4 .any (fun w args => (Rows.peopleCertifySpecSpec.pre enc Tryz.prog Tryz.f4 [] false w args ∧ laidMetH Tryz.prog laidL w) ∧ sizedMet enc Tryz.prog Tryz.f4 (OpenSpec.ofChange Rows.peopleCertifySpecSpec) false w args)
      (Rows.peopleCertifySpecSpec.post enc Tryz.prog Tryz.f4 false true false false) := by
  refine returnsInHanded_of_change_and (C := Tryz.checked) (X := fun w _ => laidMetH Tryz.prog laidL w) (fun _ _ _ hh h => h.of_heap hh) own started (by kernel_rfl) Tryz.func4
    (ChangeSpec.witness_shaped (enc := enc) (C := Tryz.checked) (os := os) (X := fun w _ => laidMetH Tryz.prog laidL w) false (World.doorLaid Tryz.prog 19 os) #[.agg #[.int .i64 0, .int .i64 0, .int .i64 0, .int .i64 0, .int .i64 0, .int .i64 0, .int .i64 0, .int .i64 0], .int .i64 0] 8 rfl (World.shaped_of_RefB (by kernel_rfl) (by kernel_rfl)) (by kernel_rfl) (by kernel_rfl) (by kernel_rfl) (door_met os _)) ?_
  intro W base args ds gs before hval0 hW _ hsz hL _
  have hval : ∀ (j : Nat) t v, Tryz.f4.params[j]? = some t → args[j]? = some v → Value.okWide Tryz.prog W .any base t v := hval0
  have hW' := hW
  obtain ⟨p, q, hA0, hV, rfl, hfz, hnd⟩ := hW
  have hA : DataW.TrodAll enc Tryz.prog W 0 (fun _ => true) true Tryz.f4.params.toList args.toList ds p := hA0
  rw [Tryz.params4] at hA hval
  obtain ⟨v0, vs0, d0, ds0, p0, q0, hargs, rfl, rfl, h0, r0⟩ := trodAll_cons hA
  obtain ⟨v1, vs1, d1, ds1, p1, q1, rfl, rfl, rfl, h1, r1⟩ := trodAll_cons r0
  obtain ⟨rfl, rfl, rfl⟩ := trodAll_nil r1
  obtain rfl : args = #[v0, v1] := by cases args; simp_all
  obtain ⟨rfl, rfl⟩ := trodVars_none hV
  have k0 := h0
  have lt0 : ∀ x ∈ p0, x.block < W.heap.size := by obtain ⟨m, hm⟩ := k0; exact DataW.trod_lt m _ _ _ hm
  obtain ⟨a0, wa0, rfl⟩ := ct_open (hval 0 33 v0 rfl rfl) h0
  obtain ⟨a1, rfl, rfl, rfl, w1⟩ := open_int Tryz.underlying3 (hval 1 3 v1 rfl rfl) h1
  have hT := tab_of_laid hL
  clear hA0 hval0 hsz hL
  simp only [List.append_nil] at hW'
  refine (walk a0 wa0 a1 w1 hT).mono fun e W' ⟨he, hg⟩ => ?_
  subst he
  exact ⟨_, rfl, _, _, _, [], _, [], hW', trodAll_mk1 (shut_bool Tryz.underlying4 _), (trodAll_cons_mk (Below.trod laidOut (by kernel_rfl) (of_decide_eq_true (by kernel_rfl)) k0 hg lt0) (trodAll_cons_mk (shut_int Tryz.underlying3 w1) trodAll_mk0)), rfl, hg.frame _, fun h => by cases h⟩

theorem over : Rows.peopleCertifySpecRow.holds Tryz.pinned (OpenSpec.ofChange Rows.peopleCertifySpecSpec) :=
  OpenClaim.holds_of_wide 4 Tryz.f4 rfl rfl rfl rfl rfl rfl rfl ⟨rfl, rfl, rfl, rfl, rfl⟩ rfl rfl rfl rfl rfl (by kernel_rfl) Tryz.func4 (by kernel_rfl)
    (of_decide_eq_true (by kernel_rfl)) (by unfold Func.isWrapper; first | (rw [if_pos (by decide +kernel)]; kernel_rfl) | (rw [if_neg (by decide +kernel)]; exact ⟨rfl, rfl⟩))
    (fun os started H enc _ => lifted os started H enc)

end Go.Proofs.YtmmppibbglacdaaGreatDoor.peopleCertifySpec
namespace Go.Proofs.YtmmppibbglacdaaGreatDoor
set_option maxRecDepth 100000 in
theorem peopleCertifySpec_holds : Rows.PeopleCertifySpecCardSaid :=
  Claim7.holds_tied_plain_at .later [] [.data, .data] true _ true
    peopleCertifySpec.over (fun _ h => by cases h) (by kernel_rfl) (fun _ h => by cases h) peopleCertifySpec_row_tie rfl ⟨rfl, rfl⟩ (by kernel_rfl) rfl
    (fun f fn hf hfn => by
      obtain rfl : f = 4 := Option.some.inj ((show Tryz.prog.funcNamed "chartroom/chartroomlaw37.PeopleCertifySpec" = some 4 by kernel_rfl).symm.trans hf) |>.symm
      obtain rfl : fn = Tryz.f4 := (Option.some.inj (Tryz.func4.symm.trans hfn)).symm
      exact ⟨by kernel_rfl, fun j t ht => by
        rw [Tryz.params4] at ht
        have hm : t ∈ [33, 3] := by simpa using Array.mem_of_getElem? ht
        have hall : ([33, 3].all fun u => !Tryz.prog.wantsStandIn u) = true := by kernel_rfl
        exact (show Tryz.prog.wantsStandIn t = false by simpa using List.all_eq_true.1 hall t hm)⟩)
    (by kernel_rfl)
#print axioms peopleCertifySpec_holds
end Go.Proofs.YtmmppibbglacdaaGreatDoor
