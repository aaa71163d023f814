/- FieldInverse: every scalar but 0 has exactly one inverse: the statement returns true for every input. No condition. -/
import Derived.Test.YtajcpbchpcnmaaaFldHelp
import Derived.Test.YtajcpbchpcnmaaaRow
namespace Go.Proofs.Ytajcpbchpcnmaaa.fieldInverse
open Go.ChangeShapes Go.WideShapes Go.ChangeAt Go.RowKit
set_option linter.unusedVariables false

theorem inv_unique {a b c : Nat} (hb : b < 2305843009213688669) (hc : c < 2305843009213688669) (h1 : mulQ a b = 1) (h2 : mulQ a c = 1) : b = c := by
  have e : mulQ (mulQ b a) c = mulQ b (mulQ a c) := mulQ_assoc b a c
  rw [mulQ_comm b a, h1, h2, mulQ_one hb, mulQ_comm, mulQ_one hc] at e
  exact e.symm
theorem mul_nonzero {a b : Nat} (ha0 : 0 < a) (ha : a < 2305843009213688669) (hb0 : 0 < b) (hb : b < 2305843009213688669) : mulQ a b ≠ 0 := by
  intro h
  rcases Num.dvd_or Num.prQ (Nat.dvd_of_mod_eq_zero h) with h1 | h1
  · exact Num.not_dvd_small ha0 ha h1
  · exact Num.not_dvd_small hb0 hb h1

set_option maxRecDepth 100000 in
set_option maxHeartbeats 2000000 in
theorem walk (a0 : Int) (w0 : (Lit.int .i64 a0).wf = true) (a1 : Int) (w1 : (Lit.int .i64 a1).wf = true) (w : World) :
    Calls Try.prog 12 #[.int .i64 a0, .int .i64 a1] w fun e w' => e = .returned (.bool true) ∧ Below w.heap.size w w' := by
  clear w0 w1
  have o1 := fun w => of_any a0 w
  have o2 := fun w => of_any a1 w
  have ha := ofQ_lt a0
  have hb := ofQ_lt a1
  obtain ⟨a, ea⟩ : ∃ x, ofQ a0 = x := ⟨_, rfl⟩
  obtain ⟨b, eb⟩ : ∃ x, ofQ a1 = x := ⟨_, rfl⟩
  rw [ea] at o1 ha
  rw [eb] at o2 hb
  clear ea eb
  have O1 := Lib.hid o1
  have O2 := Lib.hid o2
  clear o1 o2
  by_cases ha0 : a = 0
  · subst ha0
    clear ha hb
    go_enter Try.func12, Try.ntmps12
    go_wp2_with fail
    refine (sane3_any _).mono ?_
    rintro e v1 ⟨rfl, b1⟩
    go_wp2_with fail
    refine (O1.out _).mono ?_
    rintro e w' ⟨rfl, rfl⟩
    go_wp2_with fail
    refine (O2.out _).mono ?_
    rintro e w' ⟨rfl, rfl⟩
    go_wp2_with fail
    go_ret
    exact ⟨rfl, b1⟩
  · have ga : ((a : Int) == 0) = false := by rw [beq_eq_false_iff_ne]; omega
    by_cases hb0 : b = 0
    · subst hb0
      clear ha hb ha0
      go_enter Try.func12, Try.ntmps12
      go_wp2_with fail
      refine (sane3_any _).mono ?_
      rintro e v1 ⟨rfl, b1⟩
      go_wp2_with fail
      refine (O1.out _).mono ?_
      rintro e w' ⟨rfl, rfl⟩
      go_wp2_with fail
      refine (O2.out _).mono ?_
      rintro e w' ⟨rfl, rfl⟩
      go_wp2_with fail
      go_ret
      exact ⟨rfl, b1⟩
    · have gb : ((b : Int) == 0) = false := by rw [beq_eq_false_iff_ne]; omega
      have ap : 0 < a := Nat.pos_of_ne_zero ha0
      have bp : 0 < b := Nat.pos_of_ne_zero hb0
      have c1 := fun w => finv_any (a : Int) w
      have e1 : finv (a : Int) = ((powQ a 2305843009213688667 : Nat) : Int) := by unfold finv; rw [scalB_of ha, ga]; rfl
      have e2 : finvE (a : Int) = 0 := by unfold finvE; rw [scalB_of ha, ga]; rfl
      rw [e1, e2] at c1
      have hac := inv_scalar ap ha
      have hc := powQ_lt a 2305843009213688667
      obtain ⟨c, ec⟩ : ∃ x, powQ a 2305843009213688667 = x := ⟨_, rfl⟩
      rw [ec] at c1 hac hc
      clear e1 e2 ec
      have cp : 0 < c := by
        rcases Nat.eq_zero_or_pos c with h | h
        · rw [h] at hac; cases hac
        · exact h
      have gc : ((c : Int) == 0) = false := by rw [beq_eq_false_iff_ne]; omega
      have c2 := fun w => finv_any (c : Int) w
      have e1 : finv (c : Int) = ((powQ c 2305843009213688667 : Nat) : Int) := by unfold finv; rw [scalB_of hc, gc]; rfl
      have e2 : finvE (c : Int) = 0 := by unfold finvE; rw [scalB_of hc, gc]; rfl
      rw [e1, e2] at c2
      have hca := inv_scalar cp hc
      have hd := powQ_lt c 2305843009213688667
      obtain ⟨d, ed⟩ : ∃ x, powQ c 2305843009213688667 = x := ⟨_, rfl⟩
      rw [ed] at c2 hca hd
      have hda : d = a := inv_unique hd ha hca ((mulQ_comm c a).trans hac)
      subst hda
      clear e1 e2 ed
      have c3 : ∀ w, Calls Try.prog 45 #[.int .i64 d, .int .i64 c] w fun e w' => e = .returned (.int .i64 1) ∧ Below w.heap.size w w' := fun w => hmul ha hc hac w
      have g1 : decide ((0 : Int) < (c : Int)) = true := by rw [decide_eq_true_iff]; omega
      have g2 : decide ((c : Int) < 2305843009213688669) = true := by rw [decide_eq_true_iff]; omega
      have hn := mul_nonzero ap ha bp hb
      have g1n : decide (0 < c) = true := by rw [decide_eq_true_iff]; exact cp
      by_cases hbc : b = c
      · subst hbc
        have c4 : ∀ w, Calls Try.prog 45 #[.int .i64 d, .int .i64 b] w fun e w' => e = .returned (.int .i64 1) ∧ Below w.heap.size w w' := fun w => hmul ha hc hac w
        have C1 := Lib.hid c1
        have C2 := Lib.hid c2
        have C3 := Lib.hid c3
        have C4 := Lib.hid c4
        clear c1 c2 c3 c4
        clear ha hb ha0 hb0 ap bp hac hc hca hd hn
        go_enter Try.func12, Try.ntmps12
        go_wp2_with fail
        refine (sane3_any _).mono ?_
        rintro e v1 ⟨rfl, b1⟩
        go_wp2_with fail
        refine (O1.out _).mono ?_
        rintro e w' ⟨rfl, rfl⟩
        go_wp2_with fail
        refine (O2.out _).mono ?_
        rintro e w' ⟨rfl, rfl⟩
        go_wp2_with fail
        refine (C1.out _).mono ?_
        rintro e v2 ⟨rfl, b2⟩
        have B2 := b1.trans (b2.mono b1.size)
        clear b2 b1
        go_wp2_with fail
        refine (C2.out _).mono ?_
        rintro e v3 ⟨rfl, b3⟩
        have B3 := B2.trans (b3.mono B2.size)
        clear b3 B2
        go_wp2_with fail
        refine (C3.out _).mono ?_
        rintro e v4 ⟨rfl, b4⟩
        have B4 := B3.trans (b4.mono B3.size)
        clear b4 B3
        go_wp2_with fail
        refine (is_yes _ _).mono ?_
        rintro e w' ⟨rfl, rfl⟩
        go_wp2_with fail
        refine (C4.out _).mono ?_
        rintro e v5 ⟨rfl, b5⟩
        have B5 := B4.trans (b5.mono B4.size)
        clear b5 B4
        go_wp2_with fail
        refine (C4.out _).mono ?_
        rintro e v6 ⟨rfl, b6⟩
        have B6 := B5.trans (b6.mono B5.size)
        clear b6 B5
        go_wp2_with fail
        go_ret
        exact ⟨rfl, B6⟩
      · have h1 : mulQ d b ≠ 1 := fun h => hbc (inv_unique hb hc h hac)
        have c4 := fun w => hmul ha hb (c := mulQ d b) rfl w
        obtain ⟨m, hm⟩ : ∃ x, mulQ d b = x := ⟨_, rfl⟩
        rw [hm] at c4 h1 hn
        have g3 : ((m : Int) == 1) = false := by rw [beq_eq_false_iff_ne]; omega
        have g4 : ((b : Int) == (c : Int)) = false := by rw [beq_eq_false_iff_ne]; omega
        have g6 : (b == c) = false := by rw [beq_eq_false_iff_ne]; exact hbc
        have g5 : ((m : Int) != 0) = true := by rw [bne_iff_ne]; omega
        clear h1 hm hbc
        have C1 := Lib.hid c1
        have C2 := Lib.hid c2
        have C3 := Lib.hid c3
        have C4 := Lib.hid c4
        clear c1 c2 c3 c4
        clear ha hb ha0 hb0 ap bp hac hc hca hd hn
        go_enter Try.func12, Try.ntmps12
        go_wp2_with fail
        refine (sane3_any _).mono ?_
        rintro e v1 ⟨rfl, b1⟩
        go_wp2_with fail
        refine (O1.out _).mono ?_
        rintro e w' ⟨rfl, rfl⟩
        go_wp2_with fail
        refine (O2.out _).mono ?_
        rintro e w' ⟨rfl, rfl⟩
        go_wp2_with fail
        refine (C1.out _).mono ?_
        rintro e v2 ⟨rfl, b2⟩
        have B2 := b1.trans (b2.mono b1.size)
        clear b2 b1
        go_wp2_with fail
        refine (C2.out _).mono ?_
        rintro e v3 ⟨rfl, b3⟩
        have B3 := B2.trans (b3.mono B2.size)
        clear b3 B2
        go_wp2_with fail
        refine (C3.out _).mono ?_
        rintro e v4 ⟨rfl, b4⟩
        have B4 := B3.trans (b4.mono B3.size)
        clear b4 B3
        go_wp2_with fail
        refine (is_yes _ _).mono ?_
        rintro e w' ⟨rfl, rfl⟩
        go_wp2_with fail
        refine (C4.out _).mono ?_
        rintro e v5 ⟨rfl, b5⟩
        have B5 := B4.trans (b5.mono B4.size)
        clear b5 B4
        go_wp2_with fail
        refine (C4.out _).mono ?_
        rintro e v6 ⟨rfl, b6⟩
        have B6 := B5.trans (b6.mono B5.size)
        clear b6 B5
        go_wp2_with fail
        go_ret
        exact ⟨rfl, B6⟩

set_option maxRecDepth 100000 in
theorem lifted (os : Os) (started : os.Started) (H : Type) (enc : TypeId × Value → H) :
    ReturnsInHanded {} Try.checked os 12 .any (Rows.fieldInverseSpec.pre6 enc Try.prog Try.f12 Rows.fieldInverseRow.domain false) (Rows.fieldInverseSpec.post enc Try.prog Try.f12 false true false false) := by
  refine returnsInHanded_of_change (C := Try.checked) own started (by kernel_rfl) Try.func12
    (ChangeSpec.witness6 (enc := enc) (C := Try.checked) false ⟨#[], #[.int .i64 0, .int .i64 0], []⟩ 8 (by kernel_rfl) (by kernel_rfl) (by kernel_rfl) (by kernel_rfl)) ?_
  intro W base args ds gs before hval0 hW hcnd hsz
  have hval : ∀ (j : Nat) t v, Try.f12.params[j]? = some t → args[j]? = some v → Value.okWide Try.prog W .any base t v := hval0
  have hW' := hW
  obtain ⟨p, q, hA0, hV, rfl, hfz, hnd⟩ := hW
  have hA : DataW.TrodAll enc Try.prog W 0 (fun _ => true) true Try.f12.params.toList args.toList ds p := hA0
  rw [Try.params12] at hA hval
  obtain ⟨v0, vs0, d0, ds0, p0, q0, hargs, rfl, rfl, h0, r0⟩ := trodAll_cons hA
  obtain ⟨v1, vs1, d1, ds1, p1, q1, rfl, rfl, rfl, h1, r1⟩ := trodAll_cons r0
  obtain ⟨rfl, rfl, rfl⟩ := trodAll_nil r1
  obtain rfl : args = #[v0, v1] := by cases args; simp_all
  obtain ⟨rfl, rfl⟩ := trodVars_none hV
  obtain ⟨a0, rfl, rfl, rfl, w0⟩ := open_int Try.underlying3 (hval 0 3 v0 rfl rfl) h0
  obtain ⟨a1, rfl, rfl, rfl, w1⟩ := open_int Try.underlying3 (hval 1 3 v1 rfl rfl) h1
  clear hA0 hval0
  simp only [List.append_nil] at hW'
  refine (walk a0 w0 a1 w1 W).mono fun e W' ⟨he, hg⟩ => ?_
  subst he
  exact ⟨_, rfl, post_below (pa := []) (pv := []) hW' (fun _ _ _ => (trodAll_cons_mk (shut_bool Try.underlying4 _) trodAll_mk0)) (fun sp _ => (trodAll_cons_mk (shut_int Try.underlying3 w0) (trodAll_cons_mk (shut_int Try.underlying3 w1) trodAll_mk0))) (fun _ _ => rfl) rfl hg (ok_one (by kernel_rfl) rfl (okWide_bool_mk Try.underlying4 _))⟩

theorem over : Rows.fieldInverseRow.holds Try.pinned (OpenSpec.ofChange Rows.fieldInverseSpec) :=
  OpenClaim.holds_of_wide 12 Try.f12 rfl rfl rfl rfl rfl rfl rfl ⟨rfl, rfl, rfl, rfl, rfl⟩ rfl rfl rfl rfl rfl (by kernel_rfl) Try.func12 (by kernel_rfl)
    (of_decide_eq_true (by kernel_rfl)) (by unfold Func.isWrapper; first | (rw [if_pos (by decide +kernel)]; kernel_rfl) | (rw [if_neg (by decide +kernel)]; exact ⟨rfl, rfl⟩))
    (fun os started H enc _ => lifted os started H enc)

end Go.Proofs.Ytajcpbchpcnmaaa.fieldInverse
namespace Go.Proofs.Ytajcpbchpcnmaaa
theorem fieldInverse_holds : Rows.FieldInverseSaid := fieldInverse.over
#print axioms fieldInverse_holds
end Go.Proofs.Ytajcpbchpcnmaaa
