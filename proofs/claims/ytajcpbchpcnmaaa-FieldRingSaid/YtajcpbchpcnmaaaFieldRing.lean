/- FieldRing: sums and products of package field are those of a commutative ring: the statement returns true for every input. No condition. -/
import Derived.Test.YtajcpbchpcnmaaaFldHelp
import Derived.Test.YtajcpbchpcnmaaaRow
namespace Go.Proofs.Ytajcpbchpcnmaaa.fieldRing
open Go.ChangeShapes Go.WideShapes Go.ChangeAt Go.RowKit
set_option linter.unusedVariables false

set_option maxRecDepth 100000 in
set_option maxHeartbeats 2000000 in
theorem walk (a0 : Int) (w0 : (Lit.int .i64 a0).wf = true) (a1 : Int) (w1 : (Lit.int .i64 a1).wf = true) (a2 : Int) (w2 : (Lit.int .i64 a2).wf = true) (w : World) :
    Calls Try.prog 11 #[.int .i64 a0, .int .i64 a1, .int .i64 a2] w fun e w' => e = .returned (.bool true) ∧ Below w.heap.size w w' := by
  clear w0 w1 w2
  have o1 := fun w => of_any a0 w
  have o2 := fun w => of_any a1 w
  have o3 := fun w => of_any a2 w
  have ha := ofQ_lt a0
  have hb := ofQ_lt a1
  have hc := ofQ_lt a2
  obtain ⟨a, ea⟩ : ∃ x, ofQ a0 = x := ⟨_, rfl⟩
  obtain ⟨b, eb⟩ : ∃ x, ofQ a1 = x := ⟨_, rfl⟩
  obtain ⟨c, ec⟩ : ∃ x, ofQ a2 = x := ⟨_, rfl⟩
  rw [ea] at o1 ha
  rw [eb] at o2 hb
  rw [ec] at o3 hc
  obtain ⟨ab, e1⟩ : ∃ x, addQ a b = x := ⟨_, rfl⟩
  obtain ⟨bc, e2⟩ : ∃ x, addQ b c = x := ⟨_, rfl⟩
  obtain ⟨abc, e3⟩ : ∃ x, addQ ab c = x := ⟨_, rfl⟩
  obtain ⟨p, e4⟩ : ∃ x, mulQ a b = x := ⟨_, rfl⟩
  obtain ⟨q, e5⟩ : ∃ x, mulQ b c = x := ⟨_, rfl⟩
  obtain ⟨pc, e6⟩ : ∃ x, mulQ p c = x := ⟨_, rfl⟩
  obtain ⟨r, e7⟩ : ∃ x, mulQ a bc = x := ⟨_, rfl⟩
  obtain ⟨s, e8⟩ : ∃ x, mulQ a c = x := ⟨_, rfl⟩
  have l1 : ab < 2305843009213688669 := e1 ▸ addQ_lt _ _
  have l2 : bc < 2305843009213688669 := e2 ▸ addQ_lt _ _
  have l4 : p < 2305843009213688669 := e4 ▸ mulQ_lt _ _
  have l5 : q < 2305843009213688669 := e5 ▸ mulQ_lt _ _
  have l8 : s < 2305843009213688669 := e8 ▸ mulQ_lt _ _
  have h0 : (0 : Nat) < 2305843009213688669 := by decide
  have h1 : (1 : Nat) < 2305843009213688669 := by decide
  have c1 := fun w => hadd ha hb e1 w
  have c2 := fun w => fsub_yes ab b l1 hb w
  rw [show subQ ab b = a from e1 ▸ sub_add ha hb] at c2
  have c3 := fun w => hadd hb ha ((addQ_comm b a).trans e1) w
  have c4 := fun w => hadd l1 hc e3 w
  have c5 := fun w => hadd hb hc e2 w
  have c6 := fun w => hadd ha l2 (show addQ a bc = abc by rw [← e2, ← addQ_assoc, e1, e3]) w
  have c7 := fun w => hmul ha hb e4 w
  have c8 := fun w => hmul hb ha ((mulQ_comm b a).trans e4) w
  have c9 := fun w => hmul l4 hc e6 w
  have c10 := fun w => hmul hb hc e5 w
  have c11 := fun w => hmul ha l5 (show mulQ a q = pc by rw [← e5, ← mulQ_assoc, e4, e6]) w
  have c12 := fun w => hmul ha l2 e7 w
  have c13 := fun w => hmul ha hc e8 w
  have c14 := fun w => hadd l4 l8 (show addQ p s = r by rw [← e4, ← e8, ← mulQ_addQ, e2, e7]) w
  have c15 : ∀ w, Calls Try.prog 44 #[.int .i64 a, .int .i64 0] w fun e w' => e = .returned (.int .i64 (a : Int)) ∧ Below w.heap.size w w' := fun w => hadd ha h0 (addQ_zero ha) w
  have c16 : ∀ w, Calls Try.prog 45 #[.int .i64 a, .int .i64 1] w fun e w' => e = .returned (.int .i64 (a : Int)) ∧ Below w.heap.size w w' := fun w => hmul ha h1 (mulQ_one ha) w
  have c17 : ∀ w, Calls Try.prog 45 #[.int .i64 a, .int .i64 0] w fun e w' => e = .returned (.int .i64 0) ∧ Below w.heap.size w w' := fun w => hmul ha h0 (mulQ_zero a) w
  have O1 := Lib.hid o1
  have O2 := Lib.hid o2
  have O3 := Lib.hid o3
  have C1 := Lib.hid c1
  have C2 := Lib.hid c2
  have C3 := Lib.hid c3
  have C4 := Lib.hid c4
  have C5 := Lib.hid c5
  have C6 := Lib.hid c6
  have C7 := Lib.hid c7
  have C8 := Lib.hid c8
  have C9 := Lib.hid c9
  have C10 := Lib.hid c10
  have C11 := Lib.hid c11
  have C12 := Lib.hid c12
  have C13 := Lib.hid c13
  have C14 := Lib.hid c14
  have C15 := Lib.hid c15
  have C16 := Lib.hid c16
  have C17 := Lib.hid c17
  clear o1 o2 o3 c1 c2 c3 c4 c5 c6 c7 c8 c9 c10 c11 c12 c13 c14 c15 c16 c17
  clear ea eb ec ha hb hc e1 e2 e3 e4 e5 e6 e7 e8 l1 l2 l4 l5 l8 h0 h1
  go_enter Try.func11, Try.ntmps11
  go_wp2_with fail
  refine (sane3_any _).mono ?_
  rintro e v1 ⟨rfl, b1⟩
  go_wp2_with fail
  refine (O1.out _).mono ?_
  rintro e w' ⟨rfl, rfl⟩
  go_wp2_with fail
  refine (O2.out _).mono ?_
  rintro e w' ⟨rfl, rfl⟩
  go_wp2_with fail
  refine (O3.out _).mono ?_
  rintro e w' ⟨rfl, rfl⟩
  go_wp2_with fail
  refine (C1.out _).mono ?_
  rintro e v2 ⟨rfl, b2⟩
  have B2 := b1.trans (b2.mono b1.size)
  clear b2 b1
  go_wp2_with fail
  refine (C2.out _).mono ?_
  rintro e v3 ⟨rfl, b3⟩
  have B3 := B2.trans (b3.mono B2.size)
  clear b3 B2
  go_wp2_with fail
  refine (C1.out _).mono ?_
  rintro e v4 ⟨rfl, b4⟩
  have B4 := B3.trans (b4.mono B3.size)
  clear b4 B3
  go_wp2_with fail
  refine (C3.out _).mono ?_
  rintro e v5 ⟨rfl, b5⟩
  have B5 := B4.trans (b5.mono B4.size)
  clear b5 B4
  go_wp2_with fail
  refine (C1.out _).mono ?_
  rintro e v6 ⟨rfl, b6⟩
  have B6 := B5.trans (b6.mono B5.size)
  clear b6 B5
  go_wp2_with fail
  refine (C4.out _).mono ?_
  rintro e v7 ⟨rfl, b7⟩
  have B7 := B6.trans (b7.mono B6.size)
  clear b7 B6
  go_wp2_with fail
  refine (C5.out _).mono ?_
  rintro e v8 ⟨rfl, b8⟩
  have B8 := B7.trans (b8.mono B7.size)
  clear b8 B7
  go_wp2_with fail
  refine (C6.out _).mono ?_
  rintro e v9 ⟨rfl, b9⟩
  have B9 := B8.trans (b9.mono B8.size)
  clear b9 B8
  go_wp2_with fail
  refine (C7.out _).mono ?_
  rintro e v10 ⟨rfl, b10⟩
  have B10 := B9.trans (b10.mono B9.size)
  clear b10 B9
  go_wp2_with fail
  refine (C8.out _).mono ?_
  rintro e v11 ⟨rfl, b11⟩
  have B11 := B10.trans (b11.mono B10.size)
  clear b11 B10
  go_wp2_with fail
  refine (C7.out _).mono ?_
  rintro e v12 ⟨rfl, b12⟩
  have B12 := B11.trans (b12.mono B11.size)
  clear b12 B11
  go_wp2_with fail
  refine (C9.out _).mono ?_
  rintro e v13 ⟨rfl, b13⟩
  have B13 := B12.trans (b13.mono B12.size)
  clear b13 B12
  go_wp2_with fail
  refine (C10.out _).mono ?_
  rintro e v14 ⟨rfl, b14⟩
  have B14 := B13.trans (b14.mono B13.size)
  clear b14 B13
  go_wp2_with fail
  refine (C11.out _).mono ?_
  rintro e v15 ⟨rfl, b15⟩
  have B15 := B14.trans (b15.mono B14.size)
  clear b15 B14
  go_wp2_with fail
  refine (C5.out _).mono ?_
  rintro e v16 ⟨rfl, b16⟩
  have B16 := B15.trans (b16.mono B15.size)
  clear b16 B15
  go_wp2_with fail
  refine (C12.out _).mono ?_
  rintro e v17 ⟨rfl, b17⟩
  have B17 := B16.trans (b17.mono B16.size)
  clear b17 B16
  go_wp2_with fail
  refine (C7.out _).mono ?_
  rintro e v18 ⟨rfl, b18⟩
  have B18 := B17.trans (b18.mono B17.size)
  clear b18 B17
  go_wp2_with fail
  refine (C13.out _).mono ?_
  rintro e v19 ⟨rfl, b19⟩
  have B19 := B18.trans (b19.mono B18.size)
  clear b19 B18
  go_wp2_with fail
  refine (C14.out _).mono ?_
  rintro e v20 ⟨rfl, b20⟩
  have B20 := B19.trans (b20.mono B19.size)
  clear b20 B19
  go_wp2_with fail
  refine (is_yes _ _).mono ?_
  rintro e w' ⟨rfl, rfl⟩
  go_wp2_with fail
  refine (C15.out _).mono ?_
  rintro e v21 ⟨rfl, b21⟩
  have B21 := B20.trans (b21.mono B20.size)
  clear b21 B20
  go_wp2_with fail
  refine (C16.out _).mono ?_
  rintro e v22 ⟨rfl, b22⟩
  have B22 := B21.trans (b22.mono B21.size)
  clear b22 B21
  go_wp2_with fail
  refine (C17.out _).mono ?_
  rintro e v23 ⟨rfl, b23⟩
  have B23 := B22.trans (b23.mono B22.size)
  clear b23 B22
  go_wp2_with fail
  go_ret
  exact ⟨rfl, B23⟩

set_option maxRecDepth 100000 in
theorem lifted (os : Os) (started : os.Started) (H : Type) (enc : TypeId × Value → H) :
    ReturnsInHanded {} Try.checked os 11 .any (Rows.fieldRingSpec.pre6 enc Try.prog Try.f11 Rows.fieldRingRow.domain false) (Rows.fieldRingSpec.post enc Try.prog Try.f11 false true false false) := by
  refine returnsInHanded_of_change (C := Try.checked) own started (by kernel_rfl) Try.func11
    (ChangeSpec.witness6 (enc := enc) (C := Try.checked) false ⟨#[], #[.int .i64 0, .int .i64 0, .int .i64 0], []⟩ 8 (by kernel_rfl) (by kernel_rfl) (by kernel_rfl) (by kernel_rfl)) ?_
  intro W base args ds gs before hval0 hW hcnd hsz
  have hval : ∀ (j : Nat) t v, Try.f11.params[j]? = some t → args[j]? = some v → Value.okWide Try.prog W .any base t v := hval0
  have hW' := hW
  obtain ⟨p, q, hA0, hV, rfl, hfz, hnd⟩ := hW
  have hA : DataW.TrodAll enc Try.prog W 0 (fun _ => true) true Try.f11.params.toList args.toList ds p := hA0
  rw [Try.params11] at hA hval
  obtain ⟨v0, vs0, d0, ds0, p0, q0, hargs, rfl, rfl, h0, r0⟩ := trodAll_cons hA
  obtain ⟨v1, vs1, d1, ds1, p1, q1, rfl, rfl, rfl, h1, r1⟩ := trodAll_cons r0
  obtain ⟨v2, vs2, d2, ds2, p2, q2, rfl, rfl, rfl, h2, r2⟩ := trodAll_cons r1
  obtain ⟨rfl, rfl, rfl⟩ := trodAll_nil r2
  obtain rfl : args = #[v0, v1, v2] := by cases args; simp_all
  obtain ⟨rfl, rfl⟩ := trodVars_none hV
  obtain ⟨a0, rfl, rfl, rfl, w0⟩ := open_int Try.underlying3 (hval 0 3 v0 rfl rfl) h0
  obtain ⟨a1, rfl, rfl, rfl, w1⟩ := open_int Try.underlying3 (hval 1 3 v1 rfl rfl) h1
  obtain ⟨a2, rfl, rfl, rfl, w2⟩ := open_int Try.underlying3 (hval 2 3 v2 rfl rfl) h2
  clear hA0 hval0
  simp only [List.append_nil] at hW'
  refine (walk a0 w0 a1 w1 a2 w2 W).mono fun e W' ⟨he, hg⟩ => ?_
  subst he
  exact ⟨_, rfl, post_below (pa := []) (pv := []) hW' (fun _ _ _ => (trodAll_cons_mk (shut_bool Try.underlying4 _) trodAll_mk0)) (fun sp _ => (trodAll_cons_mk (shut_int Try.underlying3 w0) (trodAll_cons_mk (shut_int Try.underlying3 w1) (trodAll_cons_mk (shut_int Try.underlying3 w2) trodAll_mk0)))) (fun _ _ => rfl) rfl hg (ok_one (by kernel_rfl) rfl (okWide_bool_mk Try.underlying4 _))⟩

theorem over : Rows.fieldRingRow.holds Try.pinned (OpenSpec.ofChange Rows.fieldRingSpec) :=
  OpenClaim.holds_of_wide 11 Try.f11 rfl rfl rfl rfl rfl rfl rfl ⟨rfl, rfl, rfl, rfl, rfl⟩ rfl rfl rfl rfl rfl (by kernel_rfl) Try.func11 (by kernel_rfl)
    (of_decide_eq_true (by kernel_rfl)) (by unfold Func.isWrapper; first | (rw [if_pos (by decide +kernel)]; kernel_rfl) | (rw [if_neg (by decide +kernel)]; exact ⟨rfl, rfl⟩))
    (fun os started H enc _ => lifted os started H enc)

end Go.Proofs.Ytajcpbchpcnmaaa.fieldRing
namespace Go.Proofs.Ytajcpbchpcnmaaa
theorem fieldRing_holds : Rows.FieldRingSaid := fieldRing.over
#print axioms fieldRing_holds
end Go.Proofs.Ytajcpbchpcnmaaa
