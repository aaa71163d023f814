/- GroupPowers: powers add and multiply their exponents modulo Q: the statement returns true for every input. No condition. -/
import Derived.Test.YtajcpbchpcnmaaaGrpEl
import Derived.Test.YtajcpbchpcnmaaaFldApi
import Derived.Test.YtajcpbchpcnmaaaRow
namespace Go.Proofs.Ytajcpbchpcnmaaa.groupPowers
open Go.ChangeShapes Go.WideShapes Go.ChangeAt Go.RowKit
set_option linter.unusedVariables false

set_option maxRecDepth 100000 in
set_option maxHeartbeats 1000000 in
theorem walk0 (m : Nat) (j k : Int) (hm : m < 18446744073709551616) (w : World) :
    Calls Try.prog 6 #[.int .u64 m, .int .i64 j, .int .i64 k] w fun e w' => e = .returned (.bool true) ∧ Below w.heap.size w w' := by
  obtain ⟨a, ea⟩ : ∃ x, sqP m = x := ⟨_, rfl⟩
  have sj := fun w => risscalar_any j w
  have sk := fun w => risscalar_any k w
  by_cases ha : a = 0
  · subst ha
    have cm := fun w => element_zero m hm ea w
    have CM := Lib.hid cm
    clear cm
    clear ea hm sj sk
    go_enter Try.func6, Try.ntmps6
    go_wp2_with fail
    refine (sane4_any _).mono ?_
    rintro e v1 ⟨rfl, b1⟩
    go_wp2_with fail
    refine (CM.out _).mono ?_
    rintro e w' ⟨rfl, rfl⟩
    go_wp2_with fail
    go_ret
    exact ⟨rfl, b1⟩
  · have cm := fun w => element_pos m hm ea ha w
    have CM := Lib.hid cm
    clear cm
    cases hj : scalB j with
    | false =>
      rw [hj] at sj
      have SJ := Lib.hid sj
      clear sj
      clear ea hm sk hj ha
      go_enter Try.func6, Try.ntmps6
      go_wp2_with fail
      refine (sane4_any _).mono ?_
      rintro e v1 ⟨rfl, b1⟩
      go_wp2_with fail
      refine (CM.out _).mono ?_
      rintro e w' ⟨rfl, rfl⟩
      go_wp2_with fail
      refine (SJ.out _).mono ?_
      rintro e w' ⟨rfl, rfl⟩
      go_wp2_with fail
      go_ret
      exact ⟨rfl, b1⟩
    | true =>
      rw [hj] at sj
      have SJ := Lib.hid sj
      clear sj
      cases hk : scalB k with
      | false =>
        rw [hk] at sk
        have SK := Lib.hid sk
        clear sk
        clear ea hm hk hj ha
        go_enter Try.func6, Try.ntmps6
        go_wp2_with fail
        refine (sane4_any _).mono ?_
        rintro e v1 ⟨rfl, b1⟩
        go_wp2_with fail
        refine (CM.out _).mono ?_
        rintro e w' ⟨rfl, rfl⟩
        go_wp2_with fail
        refine (SJ.out _).mono ?_
        rintro e w' ⟨rfl, rfl⟩
        go_wp2_with fail
        refine (SK.out _).mono ?_
        rintro e w' ⟨rfl, rfl⟩
        go_wp2_with fail
        go_ret
        exact ⟨rfl, b1⟩
      | true =>
        rw [hk] at sk
        have SK := Lib.hid sk
        clear sk
        have Ea : El a := ea ▸ sqP_El (ea.symm ▸ ha)
        obtain ⟨j, rfl, hj'⟩ := scalB_nat hj
        obtain ⟨k, rfl, hk'⟩ := scalB_nat hk
        obtain ⟨x, ex⟩ : ∃ x, powP a j = x := ⟨_, rfl⟩
        obtain ⟨y, ey⟩ : ∃ x, powP a k = x := ⟨_, rfl⟩
        obtain ⟨su, es⟩ : ∃ x, addQ j k = x := ⟨_, rfl⟩
        obtain ⟨pr, ep⟩ : ∃ x, mulQ j k = x := ⟨_, rfl⟩
        obtain ⟨s, e1⟩ : ∃ x, powP a su = x := ⟨_, rfl⟩
        obtain ⟨p, e2⟩ : ∃ x, powP a pr = x := ⟨_, rfl⟩
        obtain ⟨v, e3⟩ : ∃ x, powP a 2305843009213688668 = x := ⟨_, rfl⟩
        have Ex : El x := ex ▸ powP_pos Ea _
        have Ey : El y := ey ▸ powP_pos Ea _
        have hsu : su < 2305843009213688669 := es ▸ addQ_lt _ _
        have hpr : pr < 2305843009213688669 := ep ▸ mulQ_lt _ _
        have h1 : mulP x y = s := by rw [← ex, ← ey, powP_add, ← e1, ← es, ← Ea.pow_mod]; rfl
        have h2 : powP x k = p := by rw [← ex, powP_powP, ← e2, ← ep, ← Ea.pow_mod]; rfl
        have c1 := fun w => gexp_el Ea hj' ex w
        have c2 := fun w => gexp_el Ea hk' ey w
        have c3 := fun w => fadd_yes j k hj' hk' w
        have c4 := fun w => fmul_yes j k hj' hk' w
        rw [es] at c3
        rw [ep] at c4
        have c5 := fun w => gmul_el Ex Ey h1 w
        have c6 := fun w => gexp_el Ea hsu e1 w
        have c7 := fun w => gexp_el Ea hpr e2 w
        have c8 := fun w => gexp_el Ex hk' h2 w
        have c9 : ∀ w, Calls Try.prog 20 #[.int .i64 a, .int .i64 0] w fun e w' => e = .returned (.tuple #[.int .i64 1, .int .i64 0]) ∧ Below w.heap.size w w' := fun w => gexp_el Ea (k := 0) (by decide) (powP_zero a) w
        have c10 : ∀ w, Calls Try.prog 20 #[.int .i64 a, .int .i64 1] w fun e w' => e = .returned (.tuple #[.int .i64 a, .int .i64 0]) ∧ Below w.heap.size w w' := fun w => gexp_el Ea (k := 1) (by decide) (powP_one Ea.2.1) w
        have c11 : ∀ w, Calls Try.prog 20 #[.int .i64 a, .int .i64 2305843009213688668] w fun e w' => e = .returned (.tuple #[.int .i64 v, .int .i64 0]) ∧ Below w.heap.size w w' := fun w => gexp_el Ea (k := 2305843009213688668) (by decide) e3 w
        have c12 := fun w => ginv_el Ea e3 w
        have C1 := Lib.hid c1
        have C2 := Lib.hid c2
        have C3 := Lib.hid c3
        have C4 := Lib.hid c4
        have C5 := Lib.hid c5
        have C6 := Lib.hid c6
        have C7 := Lib.hid c7
        have C8 := Lib.hid c8
        have C9 := Lib.hid c9
        have C10 := Lib.hid c10
        have C11 := Lib.hid c11
        have C12 := Lib.hid c12
        clear c1 c2 c3 c4 c5 c6 c7 c8 c9 c10 c11 c12
        clear ea ha hm hj hk hj' hk' ex ey es ep e1 e2 e3 Ex Ey hsu hpr h1 h2 Ea
        go_enter Try.func6, Try.ntmps6
        go_wp2_with fail
        refine (sane4_any _).mono ?_
        rintro e v1 ⟨rfl, b1⟩
        go_wp2_with fail
        refine (CM.out _).mono ?_
        rintro e w' ⟨rfl, rfl⟩
        go_wp2_with fail
        refine (SJ.out _).mono ?_
        rintro e w' ⟨rfl, rfl⟩
        go_wp2_with fail
        refine (SK.out _).mono ?_
        rintro e w' ⟨rfl, rfl⟩
        go_wp2_with fail
        refine (C1.out _).mono ?_
        rintro e v2 ⟨rfl, b2⟩
        have B2 := b1.trans (b2.mono b1.size)
        clear b2 b1
        go_wp2_with fail
        refine (C2.out _).mono ?_
        rintro e v3 ⟨rfl, b3⟩
        have B3 := B2.trans (b3.mono B2.size)
        clear b3 B2
        go_wp2_with fail
        refine (C3.out _).mono ?_
        rintro e v4 ⟨rfl, b4⟩
        have B4 := B3.trans (b4.mono B3.size)
        clear b4 B3
        go_wp2_with fail
        refine (C4.out _).mono ?_
        rintro e v5 ⟨rfl, b5⟩
        have B5 := B4.trans (b5.mono B4.size)
        clear b5 B4
        go_wp2_with fail
        refine (C5.out _).mono ?_
        rintro e v6 ⟨rfl, b6⟩
        have B6 := B5.trans (b6.mono B5.size)
        clear b6 B5
        go_wp2_with fail
        refine (C6.out _).mono ?_
        rintro e v7 ⟨rfl, b7⟩
        have B7 := B6.trans (b7.mono B6.size)
        clear b7 B6
        go_wp2_with fail
        refine (C7.out _).mono ?_
        rintro e v8 ⟨rfl, b8⟩
        have B8 := B7.trans (b8.mono B7.size)
        clear b8 B7
        go_wp2_with fail
        refine (C8.out _).mono ?_
        rintro e v9 ⟨rfl, b9⟩
        have B9 := B8.trans (b9.mono B8.size)
        clear b9 B8
        go_wp2_with fail
        refine (C9.out _).mono ?_
        rintro e v10 ⟨rfl, b10⟩
        have B10 := B9.trans (b10.mono B9.size)
        clear b10 B9
        go_wp2_with fail
        refine (C10.out _).mono ?_
        rintro e v11 ⟨rfl, b11⟩
        have B11 := B10.trans (b11.mono B10.size)
        clear b11 B10
        go_wp2_with fail
        refine (C11.out _).mono ?_
        rintro e v12 ⟨rfl, b12⟩
        have B12 := B11.trans (b12.mono B11.size)
        clear b12 B11
        go_wp2_with fail
        refine (C12.out _).mono ?_
        rintro e v13 ⟨rfl, b13⟩
        have B13 := B12.trans (b13.mono B12.size)
        clear b13 B12
        go_wp2_with fail
        go_ret
        exact ⟨rfl, B13⟩

theorem walk (a0 : Int) (w0 : (Lit.int .u64 a0).wf = true) (a1 : Int) (w1 : (Lit.int .i64 a1).wf = true) (a2 : Int) (w2 : (Lit.int .i64 a2).wf = true) (w : World) :
    Calls Try.prog 6 #[.int .u64 a0, .int .i64 a1, .int .i64 a2] w fun e w' => e = .returned (.bool true) ∧ Below w.heap.size w w' := by
  obtain ⟨m, rfl, hm⟩ := u64_nat w0
  exact walk0 m a1 a2 hm w

set_option maxRecDepth 100000 in
theorem lifted (os : Os) (started : os.Started) (H : Type) (enc : TypeId × Value → H) :
    ReturnsInHanded {} Try.checked os 6 .any (Rows.groupPowersSpec.pre6 enc Try.prog Try.f6 Rows.groupPowersRow.domain false) (Rows.groupPowersSpec.post enc Try.prog Try.f6 false true false false) := by
  refine returnsInHanded_of_change (C := Try.checked) own started (by kernel_rfl) Try.func6
    (ChangeSpec.witness6 (enc := enc) (C := Try.checked) false ⟨#[], #[.int .u64 0, .int .i64 0, .int .i64 0], []⟩ 8 (by kernel_rfl) (by kernel_rfl) (by kernel_rfl) (by kernel_rfl)) ?_
  intro W base args ds gs before hval0 hW hcnd hsz
  have hval : ∀ (j : Nat) t v, Try.f6.params[j]? = some t → args[j]? = some v → Value.okWide Try.prog W .any base t v := hval0
  have hW' := hW
  obtain ⟨p, q, hA0, hV, rfl, hfz, hnd⟩ := hW
  have hA : DataW.TrodAll enc Try.prog W 0 (fun _ => true) true Try.f6.params.toList args.toList ds p := hA0
  rw [Try.params6] at hA hval
  obtain ⟨v0, vs0, d0, ds0, p0, q0, hargs, rfl, rfl, h0, r0⟩ := trodAll_cons hA
  obtain ⟨v1, vs1, d1, ds1, p1, q1, rfl, rfl, rfl, h1, r1⟩ := trodAll_cons r0
  obtain ⟨v2, vs2, d2, ds2, p2, q2, rfl, rfl, rfl, h2, r2⟩ := trodAll_cons r1
  obtain ⟨rfl, rfl, rfl⟩ := trodAll_nil r2
  obtain rfl : args = #[v0, v1, v2] := by cases args; simp_all
  obtain ⟨rfl, rfl⟩ := trodVars_none hV
  obtain ⟨a0, rfl, rfl, rfl, w0⟩ := open_int Try.underlying29 (hval 0 29 v0 rfl rfl) h0
  obtain ⟨a1, rfl, rfl, rfl, w1⟩ := open_int Try.underlying3 (hval 1 3 v1 rfl rfl) h1
  obtain ⟨a2, rfl, rfl, rfl, w2⟩ := open_int Try.underlying3 (hval 2 3 v2 rfl rfl) h2
  clear hA0 hval0
  simp only [List.append_nil] at hW'
  refine (walk a0 w0 a1 w1 a2 w2 W).mono fun e W' ⟨he, hg⟩ => ?_
  subst he
  exact ⟨_, rfl, post_below (pa := []) (pv := []) hW' (fun _ _ _ => (trodAll_cons_mk (shut_bool Try.underlying4 _) trodAll_mk0)) (fun sp _ => (trodAll_cons_mk (shut_int Try.underlying29 w0) (trodAll_cons_mk (shut_int Try.underlying3 w1) (trodAll_cons_mk (shut_int Try.underlying3 w2) trodAll_mk0)))) (fun _ _ => rfl) rfl hg (ok_one (by kernel_rfl) rfl (okWide_bool_mk Try.underlying4 _))⟩

theorem over : Rows.groupPowersRow.holds Try.pinned (OpenSpec.ofChange Rows.groupPowersSpec) :=
  OpenClaim.holds_of_wide 6 Try.f6 rfl rfl rfl rfl rfl rfl rfl ⟨rfl, rfl, rfl, rfl, rfl⟩ rfl rfl rfl rfl rfl (by kernel_rfl) Try.func6 (by kernel_rfl)
    (of_decide_eq_true (by kernel_rfl)) (by unfold Func.isWrapper; first | (rw [if_pos (by decide +kernel)]; kernel_rfl) | (rw [if_neg (by decide +kernel)]; exact ⟨rfl, rfl⟩))
    (fun os started H enc _ => lifted os started H enc)

end Go.Proofs.Ytajcpbchpcnmaaa.groupPowers
namespace Go.Proofs.Ytajcpbchpcnmaaa
theorem groupPowers_holds : Rows.GroupPowersSaid := groupPowers.over
#print axioms groupPowers_holds
end Go.Proofs.Ytajcpbchpcnmaaa
