/- GroupSpec: Check, Mul, Inv, Exp and Base of package group agree with the reference: the statement returns true for every input. No condition. -/
import Derived.Test.YtajcpbchpcnmaaaSane4
import Derived.Test.YtajcpbchpcnmaaaRow
namespace Go.Proofs.Ytajcpbchpcnmaaa.groupSpec
open Go.ChangeShapes Go.WideShapes Go.ChangeAt Go.RowKit
set_option linter.unusedVariables false

set_option maxRecDepth 100000 in
set_option maxHeartbeats 1000000 in
theorem walk (a0 : Int) (w0 : (Lit.int .i64 a0).wf = true) (a1 : Int) (w1 : (Lit.int .i64 a1).wf = true) (a2 : Int) (w2 : (Lit.int .i64 a2).wf = true) (w : World) :
    Calls Try.prog 3 #[.int .i64 a0, .int .i64 a1, .int .i64 a2] w fun e w' => e = .returned (.bool true) ∧ Below w.heap.size w w' := by
  clear w0 w1 w2
  have m1 := fun w => gmul_any a0 a1 w
  have m2 := fun w => rmul_any a0 a1 w
  have i1 := fun w => ginv_any a0 w
  have i2 := fun w => rinv_any a0 w
  have x1 := fun w => gexp_any a0 a2 w
  have x2 := fun w => rexp_any a0 a2 w
  have p1 := fun w => gbase_any a2 w
  have p2 := fun w => rbase_any a2 w
  have k1 := fun w => check_any a0 w
  have k2 := fun w => rcheck_any a0 w
  obtain ⟨u1, e1⟩ : ∃ x, gmulV a0 a1 = x := ⟨_, rfl⟩
  obtain ⟨u2, e2⟩ : ∃ x, gmulE a0 a1 = x := ⟨_, rfl⟩
  obtain ⟨u3, e3⟩ : ∃ x, gexpV a0 2305843009213688668 = x := ⟨_, rfl⟩
  obtain ⟨u4, e4⟩ : ∃ x, gexpE a0 2305843009213688668 = x := ⟨_, rfl⟩
  obtain ⟨u5, e5⟩ : ∃ x, gexpV a0 a2 = x := ⟨_, rfl⟩
  obtain ⟨u6, e6⟩ : ∃ x, gexpE a0 a2 = x := ⟨_, rfl⟩
  obtain ⟨u7, e7⟩ : ∃ x, gexpV 4 a2 = x := ⟨_, rfl⟩
  obtain ⟨u8, e8⟩ : ∃ x, gexpE 4 a2 = x := ⟨_, rfl⟩
  obtain ⟨u9, e9⟩ : ∃ x, chk a0 = x := ⟨_, rfl⟩
  rw [e1, e2] at m1 m2
  rw [e3, e4] at i1 i2
  rw [e5, e6] at x1 x2
  rw [e7, e8] at p1 p2
  rw [e9] at k1 k2
  have M1 := Lib.hid m1; have M2 := Lib.hid m2; have I1 := Lib.hid i1; have I2 := Lib.hid i2; have X1 := Lib.hid x1
  have X2 := Lib.hid x2; have P1 := Lib.hid p1; have P2 := Lib.hid p2; have K1 := Lib.hid k1; have K2 := Lib.hid k2
  clear m1 m2 i1 i2 x1 x2 p1 p2 k1 k2 e1 e2 e3 e4 e5 e6 e7 e8 e9
  go_enter Try.func3, Try.ntmps3
  go_wp2_with fail
  refine (sane4_any _).mono ?_
  rintro e w1 ⟨rfl, b0⟩
  go_wp2_with fail
  refine (M1.out _).mono ?_
  rintro e w2 ⟨rfl, b1⟩
  have B1 := b0.trans (b1.mono b0.size)
  clear b1 b0
  go_wp2_with fail
  refine (M2.out _).mono ?_
  rintro e w' ⟨rfl, rfl⟩
  go_wp2_with fail
  refine (I1.out _).mono ?_
  rintro e w3 ⟨rfl, b2⟩
  have B2 := B1.trans (b2.mono B1.size)
  clear b2 B1
  go_wp2_with fail
  refine (I2.out _).mono ?_
  rintro e w' ⟨rfl, rfl⟩
  go_wp2_with fail
  refine (X1.out _).mono ?_
  rintro e w4 ⟨rfl, b3⟩
  have B3 := B2.trans (b3.mono B2.size)
  clear b3 B2
  go_wp2_with fail
  refine (X2.out _).mono ?_
  rintro e w' ⟨rfl, rfl⟩
  go_wp2_with fail
  refine (P1.out _).mono ?_
  rintro e w5 ⟨rfl, b4⟩
  have B4 := B3.trans (b4.mono B3.size)
  clear b4 B3
  go_wp2_with fail
  refine (P2.out _).mono ?_
  rintro e w' ⟨rfl, rfl⟩
  go_wp2_with fail
  refine (K1.out _).mono ?_
  rintro e w6 ⟨rfl, b5⟩
  have B5 := B4.trans (b5.mono B4.size)
  clear b5 B4
  go_wp2_with fail
  refine (K2.out _).mono ?_
  rintro e w' ⟨rfl, rfl⟩
  go_wp2_with fail
  go_ret
  exact ⟨rfl, B5⟩

set_option maxRecDepth 100000 in
theorem lifted (os : Os) (started : os.Started) (H : Type) (enc : TypeId × Value → H) :
    ReturnsInHanded {} Try.checked os 3 .any (Rows.groupSpecSpec.pre6 enc Try.prog Try.f3 Rows.groupSpecRow.domain false) (Rows.groupSpecSpec.post enc Try.prog Try.f3 false true false false) := by
  refine returnsInHanded_of_change (C := Try.checked) own started (by kernel_rfl) Try.func3
    (ChangeSpec.witness6 (enc := enc) (C := Try.checked) false ⟨#[], #[.int .i64 0, .int .i64 0, .int .i64 0], []⟩ 8 (by kernel_rfl) (by kernel_rfl) (by kernel_rfl) (by kernel_rfl)) ?_
  intro W base args ds gs before hval0 hW hcnd hsz
  have hval : ∀ (j : Nat) t v, Try.f3.params[j]? = some t → args[j]? = some v → Value.okWide Try.prog W .any base t v := hval0
  have hW' := hW
  obtain ⟨p, q, hA0, hV, rfl, hfz, hnd⟩ := hW
  have hA : DataW.TrodAll enc Try.prog W 0 (fun _ => true) true Try.f3.params.toList args.toList ds p := hA0
  rw [Try.params3] at hA hval
  obtain ⟨v0, vs0, d0, ds0, p0, q0, hargs, rfl, rfl, h0, r0⟩ := trodAll_cons hA
  obtain ⟨v1, vs1, d1, ds1, p1, q1, rfl, rfl, rfl, h1, r1⟩ := trodAll_cons r0
  obtain ⟨v2, vs2, d2, ds2, p2, q2, rfl, rfl, rfl, h2, r2⟩ := trodAll_cons r1
  obtain ⟨rfl, rfl, rfl⟩ := trodAll_nil r2
  obtain rfl : args = #[v0, v1, v2] := by cases args; simp_all
  obtain ⟨rfl, rfl⟩ := trodVars_none hV
  obtain ⟨a0, rfl, rfl, rfl, w0⟩ := open_int Try.underlying3 (hval 0 3 v0 rfl rfl) h0
  obtain ⟨a1, rfl, rfl, rfl, w1⟩ := open_int Try.underlying3 (hval 1 3 v1 rfl rfl) h1
  obtain ⟨a2, rfl, rfl, rfl, w2⟩ := open_int Try.underlying3 (hval 2 3 v2 rfl rfl) h2
  clear hA0 hval0
  simp only [List.append_nil] at hW'
  refine (walk a0 w0 a1 w1 a2 w2 W).mono fun e W' ⟨he, hg⟩ => ?_
  subst he
  exact ⟨_, rfl, post_below (pa := []) (pv := []) hW' (fun _ _ _ => (trodAll_cons_mk (shut_bool Try.underlying4 _) trodAll_mk0)) (fun sp _ => (trodAll_cons_mk (shut_int Try.underlying3 w0) (trodAll_cons_mk (shut_int Try.underlying3 w1) (trodAll_cons_mk (shut_int Try.underlying3 w2) trodAll_mk0)))) (fun _ _ => rfl) rfl hg (ok_one (by kernel_rfl) rfl (okWide_bool_mk Try.underlying4 _))⟩

theorem over : Rows.groupSpecRow.holds Try.pinned (OpenSpec.ofChange Rows.groupSpecSpec) :=
  OpenClaim.holds_of_wide 3 Try.f3 rfl rfl rfl rfl rfl rfl rfl ⟨rfl, rfl, rfl, rfl, rfl⟩ rfl rfl rfl rfl rfl (by kernel_rfl) Try.func3 (by kernel_rfl)
    (of_decide_eq_true (by kernel_rfl)) (by unfold Func.isWrapper; first | (rw [if_pos (by decide +kernel)]; kernel_rfl) | (rw [if_neg (by decide +kernel)]; exact ⟨rfl, rfl⟩))
    (fun os started H enc _ => lifted os started H enc)

end Go.Proofs.Ytajcpbchpcnmaaa.groupSpec
namespace Go.Proofs.Ytajcpbchpcnmaaa
theorem groupSpec_holds : Rows.GroupSpecSaid := groupSpec.over
#print axioms groupSpec_holds
end Go.Proofs.Ytajcpbchpcnmaaa
