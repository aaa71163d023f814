/- SignOnly returns true for every input. No condition beyond the card's own: the two tables of package digest are tied to the program's text. -/
import Derived.Test.YtcmabaolpaaonaaDoorSigOpen
import Derived.Test.YtcmabaolpaaonaaDoorLaid
import Derived.Test.YtcmabaolpaaonaaDoorCards
namespace Go.Proofs.YtcmabaolpaaonaaDoor.signOnly
open Go.ChangeShapes Go.WideShapes Go.ChangeAt Go.RowKit
open Go.ChangeMaps (open_string shut_string)
set_option linter.unusedVariables false
set_option linter.unusedSimpArgs false

set_option maxRecDepth 100000 in
set_option maxHeartbeats 4000000 in
theorem walk {w : World} (p : Int) (wp : (Lit.int .i64 p).wf = true) (v : Value) (l : List UInt8) (hv : BytesAt w v l) (hs : ∃ a cap, v = .slice a l.length cap) (o : Int) (wo : (Lit.int .i64 o).wf = true) (hT : Tab w) :
    Calls Tryd.prog 7 #[.int .i64 p, v, .int .i64 o] w fun e w' => e = .returned (.bool true) ∧ Below w.heap.size w w' := by
  obtain ⟨a, cap, rfl⟩ := hs
  obtain ⟨n, hn⟩ : ∃ n, l.length = n := ⟨_, rfl⟩
  have V := Lib.hid hv
  have T := Lib.hid hT
  have C1 := Lib.hid (fun W hT => sane5_any W hT)
  have kb := keyM_bd p
  have c2 : ∀ W, Calls Tryd.prog 11 #[.int .i64 p] W fun e w' => e = .returned (.int .i64 ((keyM p : Nat) : Int)) ∧ W = w' := fun W => key_any p W wp
  obtain ⟨x, hx⟩ : ∃ x, keyM p = x := ⟨_, rfl⟩
  rw [hx] at c2 kb
  have c3 : ∀ W, Calls Tryd.prog 12 #[.int .i64 (x : Int)] W fun e w' => e = .returned (.tuple #[.int .i64 ((pubM x : Nat) : Int), .int .i64 0]) ∧ Below W.heap.size W w' := fun W => public_key x kb.1 kb.2 W
  have c4 : ∀ W, n ≤ 300 → BytesAt W (.slice a n cap) l → Tab W → Calls Tryd.prog 14 #[.int .i64 (x : Int), .slice a n cap] W fun e w' => e = .returned (.tuple #[.agg #[.int .i64 ((sigR x l : Nat) : Int), .int .i64 ((sigS x l : Nat) : Int)], .int .i64 0]) ∧ Below W.heap.size W w' := fun W h hv hT => sign_key x kb.1 kb.2 _ l W (by omega) hv hT
  have c5 : ∀ z W, n ≤ 300 → BytesAt W (.slice a n cap) l → Tab W → Calls Tryd.prog 16 #[.int .i64 ((pubM x : Nat) : Int), .slice a n cap, .agg #[.int .i64 ((sigR x l : Nat) : Int), .int .i64 z]] W fun e w' => e = .returned (.bool (decide (z = ((sigS x l : Nat) : Int)))) ∧ Below W.heap.size W w' := fun z W h hv hT => by
    have h := verify_any ((pubM x : Nat) : Int) ((sigR x l : Nat) : Int) z _ l W (by omega) hv hT
    rwa [ver_only] at h
  have c6 := fun W => of_same (of_any o W)
  have sl := sigS_lt x l
  obtain ⟨P, hP⟩ : ∃ r, pubM x = r := ⟨_, rfl⟩
  obtain ⟨R, hR⟩ : ∃ r, sigR x l = r := ⟨_, rfl⟩
  obtain ⟨S, hS⟩ : ∃ r, sigS x l = r := ⟨_, rfl⟩
  obtain ⟨q, hq⟩ : ∃ r : Int, ((ofQ o : Nat) : Int) = r := ⟨_, rfl⟩
  rw [hP] at c3 c5
  rw [hR] at c4 c5
  rw [hS] at c4 c5 sl
  rw [hq] at c6
  rw [hn] at V ⊢
  have s1 : IntKind.i64.wrap ((S : Int) + 2305843009213688669) = (S : Int) + 2305843009213688669 := i64_add sl
  have s2 : IntKind.i64.wrap ((S : Int) - 2305843009213688669) = (S : Int) - 2305843009213688669 := i64_sub sl
  have C2 := Lib.hid c2; have C3 := Lib.hid c3; have C6 := Lib.hid c6
  clear hn wp wo hv hT hx hP hR hS hq kb sl c2 c3 c6
  by_cases h1 : n ≤ 300
  · have C4 := Lib.hid (fun W => c4 W h1); have C5 := Lib.hid (fun z W => c5 z W h1)
    have d1 : decide (300 < (n : Int)) = false := by rw [decide_eq_false_iff_not]; omega
    have d2 : decide (300 < n) = false := by rw [decide_eq_false_iff_not]; omega
    have d3 : ¬ 300 < n := by omega
    clear c4 c5 h1
    go_enter Tryd.func7, Tryd.ntmps7
    have B0 := Lib.hid (Below.refl w.heap.size w)
    go_wp2_with fail
    refine (C1.out _ T.out).mono ?_
    rintro e w1 ⟨rfl, b1⟩
    have B1 := Lib.hid (B0.out.trans (b1.mono B0.out.size))
    clear b1 B0
    go_wp2_with fail
    refine (C2.out _).mono ?_
    rintro e wp ⟨rfl, rfl⟩
    go_wp2_with fail
    refine (C3.out _).mono ?_
    rintro e w2 ⟨rfl, b2⟩
    have B2 := Lib.hid (B1.out.trans (b2.mono B1.out.size))
    clear b2 B1
    go_wp2_with fail
    refine (C4.out _ (V.out.below B2.out) (T.out.below B2.out)).mono ?_
    rintro e w3 ⟨rfl, b3⟩
    have B3 := Lib.hid (B2.out.trans (b3.mono B2.out.size))
    clear b3 B2
    go_upto_region 8 with fail
    obtain ⟨w4, hw4⟩ : ∃ y, w3.alloc (.cells #[.int .i64 (R : Int), .int .i64 (S : Int)] 30) = y := ⟨_, rfl⟩
    have b4 : Below w3.heap.size w3 w4 := by rw [← hw4]; exact (Below.refl _ _).alloc (Nat.le_refl _) _
    have Q4 : Hid (RowV w4 w3.heap.size 30 2 (sigF R S)) := Lib.hid (by rw [← hw4]; exact RowV.new w3 _ 2 (sigF R S))
    have z4 : w3.heap.size + 1 = w4.heap.size := by rw [← hw4]; exact (Array.size_push _).symm
    rw [hw4]
    (try rw [z4])
    have B4 := Lib.hid (B3.out.trans (b4.mono B3.out.size))
    clear b4 hw4 z4 B3
    go_upto_region 10 with fail
    have y1 : w4.cell? ⟨w3.heap.size, 1, none⟩ = some (.int .i64 (S : Int)) := Q4.out.cell (i := 1) (by decide)
    have hQc : Hid (∀ W, Below w4.heap.size w4 W → W.cell? ⟨w3.heap.size, 1, none⟩ = some (.int .i64 (S : Int))) := Lib.hid (fun W b => (Q4.out.below b).cell (i := 1) (by decide))
    go_cut [47, 48, 49] (fun s47 s48 s49 wx => ∃ b : Nat, s47 = .slice (some ⟨b, 0, none⟩) 4 4 ∧ s48 = .int .i64 4 ∧ s49 = .int .i64 0 ∧ RowV wx b 3 4 (fun i => .int .i64 ([o, q, (S : Int) + 2305843009213688669, (S : Int) - 2305843009213688669].getD i 0)) ∧ Below w4.heap.size w4 wx)
    case first =>
      refine wp_region_plan_all 12 (flAll [0, 1, 3, 4, 5, 6, 7, 8, 11] (.one 2 (.one 9 (.one 10 .done)))) (by kernel_rfl) rfl (by kernel_rfl) ?_
      intro w5 b5 e5
      clear e5
      have b5' := Lib.hid b5
      have y2 := (hQc.out _ b5)
      have z0 := fun d os => cell_regrown y2 d os
      clear b5 y1 y2
      refine plan_floats [0, 1, 3, 4, 5, 6, 7, 8, 11] [_, _, _, _, _, _, _, _, _] rfl ?_
      dsimp only [List.getElem_toArray, List.getElem_cons_succ, List.getElem_cons_zero]
      repeat (go_big_quiet_step (fail))
      refine wpQuiet_nil ?_
      refine plan_one 2 rfl (fun K hK => ?_)
      go_wp2_with fail
      refine (C6.out _).mono ?_
      rintro e w6 ⟨rfl, b6⟩
      go_wp2_with fail
      refine hK _ _ b6 ?_
      have c6 := Lib.hid (b5'.out.trans (b6.mono b5'.out.size))
      clear b6 hK K z0
      refine plan_one 9 rfl (fun K hK => ?_)
      go_wp2_with fail
      have al := (Below.refl _ w6).alloc (Nat.le_refl _) (.cells #[.int .i64 o, .int .i64 q, .int .i64 ((S : Int) + 2305843009213688669), .int .i64 ((S : Int) - 2305843009213688669)] 3)
      refine hK _ _ al ?_
      have L6 := Lib.hid (RowV.new w6 3 4 (fun i => .int .i64 ([o, q, (S : Int) + 2305843009213688669, (S : Int) - 2305843009213688669].getD i 0)))
      have c7 := Lib.hid (c6.out.trans (al.mono c6.out.size))
      clear al hK K
      refine plan_one 10 rfl (fun K hK => ?_)
      go_wp2_with fail
      refine hK _ _ (Below.refl _ _) ?_
      clear hK K
      refine plan_done (l := []) rfl (fun K hK => ?_)
      go_wp2_with fail
      go_meet
      exact ⟨_, rfl, rfl, rfl, L6.out, c7.out⟩
    case rest =>
      obtain ⟨b, rfl, rfl, rfl, Lb, Bb⟩ := hcut
      have L5 := Lib.hid Lb
      have B5 := Lib.hid (B4.out.trans (Bb.mono B4.out.size))
      have Q5 := Lib.hid (Q4.out.below Bb)
      clear Lb Bb B4 Q4 y1 hQc
      obtain ⟨zs, hzs⟩ : ∃ zs, [o, q, (S : Int) + 2305843009213688669, (S : Int) - 2305843009213688669] = zs := ⟨_, rfl⟩
      rw [hzs] at L5
      clear hzs s1 s2
      go_wp2_with fail
      go_loopg [49] 4 (fun g s49 wx => ∃ k : Nat, k + g = 4 ∧ s49 = .int .i64 (k : Int) ∧ Hid (Below w.heap.size w wx) ∧ Hid (RowV wx b 3 4 (fun i => .int .i64 (zs.getD i 0))) ∧ Hid (RowV wx w3.heap.size 30 2 (sigF R S)))
      case atStart => exact ⟨0, by omega, rfl, B5, L5, Q5⟩
      case round =>
        clear B5 L5 Q5
        obtain ⟨k, hk, rfl, B10, L10, Q10⟩ := hrel
        obtain ⟨w10, rfl⟩ : ∃ y, y = wr := ⟨_, rfl⟩
        by_cases hk2 : k < 4
        · obtain ⟨z, hz⟩ : ∃ z, zs.getD k 0 = z := ⟨_, rfl⟩
          have c0 : w10.cell? ⟨b, k, none⟩ = some (.int .i64 z) := by rw [← hz]; exact L10.out.cell hk2
          have d0 : decide ((k : Int) < 4) = true := by rw [decide_eq_true_iff]; omega
          have z1 : (0 : Int) ≤ (k : Int) := Int.natCast_nonneg k
          have z2 : (k : Int) < 4 := by omega
          have p0 : 0 ≤ (k : Int) ∧ (k : Int) < 4 := by omega
          have z3 : ((k : Int)).toNat = k := Int.toNat_natCast k
          clear hz hk2
          go_cut [49] (fun s49 wx => s49 = .int .i64 ((k : Int) + 1) ∧ Below w10.heap.size w10 wx)
          case first =>
            go_wp2_with fail
            have y0 : w10.cell? ⟨w3.heap.size, 0, none⟩ = some (.int .i64 (R : Int)) := Q10.out.cell (i := 0) (by decide)
            have y1 : w10.cell? ⟨w3.heap.size, 1, none⟩ = some (.int .i64 (S : Int)) := Q10.out.cell (i := 1) (by decide)
            clear c0
            have BW := Lib.hid B10.out
            have C5' := Lib.hid (fun W (b : Below w10.heap.size w10 W) => C5.out z W (V.out.below (BW.out.trans (b.mono BW.out.size))) (T.out.below (BW.out.trans (b.mono BW.out.size))))
            clear B10
            by_cases hzS : z = (S : Int)
            · subst hzS
              have e5 : decide ((S : Int) = (S : Int)) = true := by simp
              rw [e5] at C5'
              clear e5
              have B10 := Lib.hid (Below.refl w10.heap.size w10)
              have qy0 := fun d os => cell_regrown y0 d os
              have qy1 := fun d os => cell_regrown y1 d os
              clear y0 y1
              have D0 := Lib.hid (C5'.out)
              refine wp_below_tail 11 (by kernel_rfl) (by kernel_rfl) ?_
              simp only [List.take_succ_cons, List.take_zero, List.drop_succ_cons, List.drop_zero]
              repeat (quiet_step (first | with_reducible exact qbelow D0.out _ _))
              refine wpQuiet_nil ?_
              intro w11 hw11
              have b11 := regrown_below hw11
              have B11 := Lib.hid (B10.out.trans (b11.mono B10.out.size))
              clear b11 hw11 qy0 qy1 D0 B10
              go_wp2_with fail
              go_meet
              exact ⟨rfl, B11.out⟩
            · have e5 : decide (z = (S : Int)) = false := by simpa using hzS
              have e6 : (z == (S : Int)) = false := by simpa using hzS
              rw [e5] at C5'
              clear e5 hzS
              have B10 := Lib.hid (Below.refl w10.heap.size w10)
              have qy0 := fun d os => cell_regrown y0 d os
              have qy1 := fun d os => cell_regrown y1 d os
              clear y0 y1
              have D0 := Lib.hid (C5'.out)
              refine wp_below_tail 11 (by kernel_rfl) (by kernel_rfl) ?_
              simp only [List.take_succ_cons, List.take_zero, List.drop_succ_cons, List.drop_zero]
              repeat (quiet_step (first | with_reducible exact qbelow D0.out _ _))
              refine wpQuiet_nil ?_
              intro w11 hw11
              have b11 := regrown_below hw11
              have B11 := Lib.hid (B10.out.trans (b11.mono B10.out.size))
              clear b11 hw11 qy0 qy1 D0 B10
              go_wp2_with fail
              go_meet
              exact ⟨rfl, B11.out⟩
          case rest =>
            obtain ⟨rfl, Bb⟩ := hcut
            have B11 := Lib.hid (B10.out.trans (Bb.mono B10.out.size))
            have L11 := Lib.hid (L10.out.below Bb)
            have Q11 := Lib.hid (Q10.out.below Bb)
            clear Bb B10 L10 Q10 c0
            go_wp2_with fail
            go_roundg (gk - 1)
            case measure => omega
            case rel =>
              go_light
              exact ⟨k + 1, by omega, by go_num, B11, L11, Q11⟩
        · obtain rfl : k = 4 := by omega
          have d0 : decide (((4 : Nat) : Int) < 4) = false := by decide
          go_wp2_with fail
          go_ret
          exact ⟨rfl, B10.out⟩
  · have d1 : decide (300 < (n : Int)) = true := by rw [decide_eq_true_iff]; omega
    have d2 : decide (300 < n) = true := by rw [decide_eq_true_iff]; omega
    have d3 : 300 < n := by omega
    clear c4 c5 h1
    go_enter Tryd.func7, Tryd.ntmps7
    have B0 := Lib.hid (Below.refl w.heap.size w)
    go_wp2_with fail
    refine (C1.out _ T.out).mono ?_
    rintro e w1 ⟨rfl, b1⟩
    have B1 := Lib.hid (B0.out.trans (b1.mono B0.out.size))
    clear b1 B0
    go_wp2_with fail
    go_ret
    exact ⟨rfl, B1.out⟩

set_option maxRecDepth 100000 in
set_option maxHeartbeats 1000000 in
theorem lifted (os : Os) (started : os.Started) (H : Type) (enc : TypeId × Value → H) :
    ReturnsInHanded {} Tryd.checked os 7 .any (fun w args => (Rows.signOnlySpec.pre enc Tryd.prog Tryd.f7 [] false w args ∧ laidMetH Tryd.prog laidL w) ∧ sizedMet enc Tryd.prog Tryd.f7 (OpenSpec.ofChange Rows.signOnlySpec) false w args)
      (Rows.signOnlySpec.post enc Tryd.prog Tryd.f7 false true false false) := by
  refine returnsInHanded_of_change_and (C := Tryd.checked) (X := fun w _ => laidMetH Tryd.prog laidL w) (fun _ _ _ hh h => h.of_heap hh) own started (by kernel_rfl) Tryd.func7
    (ChangeSpec.witness_shaped (enc := enc) (C := Tryd.checked) (os := os) (X := fun w _ => laidMetH Tryd.prog laidL w) false (World.doorLaid Tryd.prog 19 os) #[.int .i64 0, .slice none 0 0, .int .i64 0] 8 rfl (World.shaped_of_RefB (by kernel_rfl) (by kernel_rfl)) (by kernel_rfl) (by kernel_rfl) (by kernel_rfl) (door_met os _)) ?_
  intro W base args ds gs before hval0 hW _ hsz hL _
  have hval : ∀ (j : Nat) t v, Tryd.f7.params[j]? = some t → args[j]? = some v → Value.okWide Tryd.prog W .any base t v := hval0
  have hW' := hW
  obtain ⟨p, q, hA0, hV, rfl, hfz, hnd⟩ := hW
  have hA : DataW.TrodAll enc Tryd.prog W 0 (fun _ => true) true Tryd.f7.params.toList args.toList ds p := hA0
  rw [Tryd.params7] at hA hval
  obtain ⟨v0, vs0, d0, ds0, p0, q0, hargs, rfl, rfl, h0, r0⟩ := trodAll_cons hA
  obtain ⟨v1, vs1, d1, ds1, p1, q1, rfl, rfl, rfl, h1, r1⟩ := trodAll_cons r0
  obtain ⟨v2, vs2, d2, ds2, p2, q2, rfl, rfl, rfl, h2, r2⟩ := trodAll_cons r1
  obtain ⟨rfl, rfl, rfl⟩ := trodAll_nil r2
  obtain rfl : args = #[v0, v1, v2] := by cases args; simp_all
  obtain ⟨rfl, rfl⟩ := trodVars_none hV
  obtain ⟨a0, rfl, rfl, rfl, w0⟩ := open_int Tryd.underlying3 (hval 0 3 v0 rfl rfl) h0
  have k1 := h1
  have lt1 : ∀ x ∈ p1, x.block < W.heap.size := by obtain ⟨m, hm⟩ := k1; exact DataW.trod_lt m _ _ _ hm
  obtain ⟨l1, b1, s1⟩ := bytes_open (hval 1 22 v1 rfl rfl) h1 (fun elems spare e => by
    have := sized_slice hsz (j := 1) (t := 22) (e := 5) (elems := elems) (spare := spare) (by kernel_rfl) (by rw [← e]; rfl) Tryd.underlying22
    rw [show Tryd.checked.prog.bytesOf 5 = 1 by kernel_rfl] at this; omega)
  obtain ⟨a2, rfl, rfl, rfl, w2⟩ := open_int Tryd.underlying3 (hval 2 3 v2 rfl rfl) h2
  have hT := tab_of_laid hL
  clear hA0 hval0 hsz hL
  simp only [List.append_nil] at hW'
  refine (walk a0 w0 v1 l1 b1 s1 a2 w2 hT).mono fun e W' ⟨he, hg⟩ => ?_
  subst he
  exact ⟨_, rfl, _, _, _, [], _, [], hW', trodAll_mk1 (shut_bool Tryd.underlying4 _), (trodAll_cons_mk (shut_int Tryd.underlying3 w0) (trodAll_cons_mk (Below.trod laidOut (by kernel_rfl) (of_decide_eq_true (by kernel_rfl)) k1 hg lt1) (trodAll_cons_mk (shut_int Tryd.underlying3 w2) trodAll_mk0))), rfl, hg.frame _, fun h => by cases h⟩

theorem over : Rows.signOnlyRow.holds Tryd.pinned (OpenSpec.ofChange Rows.signOnlySpec) :=
  OpenClaim.holds_of_wide 7 Tryd.f7 rfl rfl rfl rfl rfl rfl rfl ⟨rfl, rfl, rfl, rfl, rfl⟩ rfl rfl rfl rfl rfl (by kernel_rfl) Tryd.func7 (by kernel_rfl)
    (of_decide_eq_true (by kernel_rfl)) (by unfold Func.isWrapper; first | (rw [if_pos (by decide +kernel)]; kernel_rfl) | (rw [if_neg (by decide +kernel)]; exact ⟨rfl, rfl⟩))
    (fun os started H enc _ => lifted os started H enc)

end Go.Proofs.YtcmabaolpaaonaaDoor.signOnly
namespace Go.Proofs.YtcmabaolpaaonaaDoor
set_option maxRecDepth 100000 in
theorem signOnly_holds : Rows.SignOnlyCardSaid :=
  Claim7.holds_tied_plain_at .later [] [.data, .data] true _ false
    signOnly.over (fun _ h => by cases h) (by kernel_rfl) (fun _ h => by cases h) signOnly_row_tie rfl ⟨rfl, rfl⟩ (by kernel_rfl) rfl
    (fun f fn hf hfn => by
      obtain rfl : f = 7 := Option.some.inj ((show Tryd.prog.funcNamed "chartroom/chartroomlaw05.SignOnly" = some 7 by kernel_rfl).symm.trans hf) |>.symm
      obtain rfl : fn = Tryd.f7 := (Option.some.inj (Tryd.func7.symm.trans hfn)).symm
      exact ⟨by kernel_rfl, fun j t ht => by
        rw [Tryd.params7] at ht
        have hm : t ∈ [3, 22, 3] := by simpa using Array.mem_of_getElem? ht
        have hall : ([3, 22, 3].all fun u => !Tryd.prog.wantsStandIn u) = true := by kernel_rfl
        exact (show Tryd.prog.wantsStandIn t = false by simpa using List.all_eq_true.1 hall t hm)⟩)
    (by kernel_rfl)
#print axioms signOnly_holds
end Go.Proofs.YtcmabaolpaaonaaDoor
