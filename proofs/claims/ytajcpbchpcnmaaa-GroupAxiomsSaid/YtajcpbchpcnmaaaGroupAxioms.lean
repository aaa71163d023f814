/- GroupAxioms: the elements of package group form a commutative group: the statement returns true for every input. No condition. -/
import Derived.Test.YtajcpbchpcnmaaaGrpEl
import Derived.Test.YtajcpbchpcnmaaaRow
namespace Go.Proofs.Ytajcpbchpcnmaaa.groupAxioms
open Go.ChangeShapes Go.WideShapes Go.ChangeAt Go.RowKit
set_option linter.unusedVariables false

set_option maxRecDepth 100000 in
set_option maxHeartbeats 1000000 in
theorem walk0 (m n o : Nat) (hm : m < 18446744073709551616) (hn : n < 18446744073709551616) (ho : o < 18446744073709551616) (w : World) :
    Calls Try.prog 4 #[.int .u64 m, .int .u64 n, .int .u64 o] w fun e w' => e = .returned (.bool true) ∧ Below w.heap.size w w' := by
  obtain ⟨a, ea⟩ : ∃ x, sqP m = x := ⟨_, rfl⟩
  obtain ⟨b, eb⟩ : ∃ x, sqP n = x := ⟨_, rfl⟩
  obtain ⟨c, ec⟩ : ∃ x, sqP o = x := ⟨_, rfl⟩
  by_cases ha : a = 0
  · by_cases hb : b = 0
    · by_cases hc : c = 0
      · subst ha
        subst hb
        subst hc
        have cm := fun w => element_zero m hm ea w
        have cn := fun w => element_zero n hn eb w
        have co := fun w => element_zero o ho ec w
        have CM := Lib.hid cm
        have CN := Lib.hid cn
        have CO := Lib.hid co
        clear cm cn co
        clear ea
        clear eb
        clear ec
        clear hm hn ho
        go_enter Try.func4, Try.ntmps4
        go_wp2_with fail
        refine (sane4_any _).mono ?_
        rintro e v1 ⟨rfl, b1⟩
        go_wp2_with fail
        refine (CM.out _).mono ?_
        rintro e w' ⟨rfl, rfl⟩
        go_wp2_with fail
        refine (CN.out _).mono ?_
        rintro e w' ⟨rfl, rfl⟩
        go_wp2_with fail
        refine (CO.out _).mono ?_
        rintro e w' ⟨rfl, rfl⟩
        go_wp2_with fail
        go_ret
        exact ⟨rfl, b1⟩
      · subst ha
        subst hb
        have cm := fun w => element_zero m hm ea w
        have cn := fun w => element_zero n hn eb w
        have co := fun w => element_pos o ho ec hc w
        have CM := Lib.hid cm
        have CN := Lib.hid cn
        have CO := Lib.hid co
        clear cm cn co
        clear ea
        clear eb
        clear ec hc
        clear hm hn ho
        go_enter Try.func4, Try.ntmps4
        go_wp2_with fail
        refine (sane4_any _).mono ?_
        rintro e v1 ⟨rfl, b1⟩
        go_wp2_with fail
        refine (CM.out _).mono ?_
        rintro e w' ⟨rfl, rfl⟩
        go_wp2_with fail
        refine (CN.out _).mono ?_
        rintro e w' ⟨rfl, rfl⟩
        go_wp2_with fail
        refine (CO.out _).mono ?_
        rintro e w' ⟨rfl, rfl⟩
        go_wp2_with fail
        go_ret
        exact ⟨rfl, b1⟩
    · by_cases hc : c = 0
      · subst ha
        subst hc
        have cm := fun w => element_zero m hm ea w
        have cn := fun w => element_pos n hn eb hb w
        have co := fun w => element_zero o ho ec w
        have CM := Lib.hid cm
        have CN := Lib.hid cn
        have CO := Lib.hid co
        clear cm cn co
        clear ea
        clear eb hb
        clear ec
        clear hm hn ho
        go_enter Try.func4, Try.ntmps4
        go_wp2_with fail
        refine (sane4_any _).mono ?_
        rintro e v1 ⟨rfl, b1⟩
        go_wp2_with fail
        refine (CM.out _).mono ?_
        rintro e w' ⟨rfl, rfl⟩
        go_wp2_with fail
        refine (CN.out _).mono ?_
        rintro e w' ⟨rfl, rfl⟩
        go_wp2_with fail
        refine (CO.out _).mono ?_
        rintro e w' ⟨rfl, rfl⟩
        go_wp2_with fail
        go_ret
        exact ⟨rfl, b1⟩
      · subst ha
        have cm := fun w => element_zero m hm ea w
        have cn := fun w => element_pos n hn eb hb w
        have co := fun w => element_pos o ho ec hc w
        have CM := Lib.hid cm
        have CN := Lib.hid cn
        have CO := Lib.hid co
        clear cm cn co
        clear ea
        clear eb hb
        clear ec hc
        clear hm hn ho
        go_enter Try.func4, Try.ntmps4
        go_wp2_with fail
        refine (sane4_any _).mono ?_
        rintro e v1 ⟨rfl, b1⟩
        go_wp2_with fail
        refine (CM.out _).mono ?_
        rintro e w' ⟨rfl, rfl⟩
        go_wp2_with fail
        refine (CN.out _).mono ?_
        rintro e w' ⟨rfl, rfl⟩
        go_wp2_with fail
        refine (CO.out _).mono ?_
        rintro e w' ⟨rfl, rfl⟩
        go_wp2_with fail
        go_ret
        exact ⟨rfl, b1⟩
  · by_cases hb : b = 0
    · by_cases hc : c = 0
      · subst hb
        subst hc
        have cm := fun w => element_pos m hm ea ha w
        have cn := fun w => element_zero n hn eb w
        have co := fun w => element_zero o ho ec w
        have CM := Lib.hid cm
        have CN := Lib.hid cn
        have CO := Lib.hid co
        clear cm cn co
        clear ea ha
        clear eb
        clear ec
        clear hm hn ho
        go_enter Try.func4, Try.ntmps4
        go_wp2_with fail
        refine (sane4_any _).mono ?_
        rintro e v1 ⟨rfl, b1⟩
        go_wp2_with fail
        refine (CM.out _).mono ?_
        rintro e w' ⟨rfl, rfl⟩
        go_wp2_with fail
        refine (CN.out _).mono ?_
        rintro e w' ⟨rfl, rfl⟩
        go_wp2_with fail
        refine (CO.out _).mono ?_
        rintro e w' ⟨rfl, rfl⟩
        go_wp2_with fail
        go_ret
        exact ⟨rfl, b1⟩
      · subst hb
        have cm := fun w => element_pos m hm ea ha w
        have cn := fun w => element_zero n hn eb w
        have co := fun w => element_pos o ho ec hc w
        have CM := Lib.hid cm
        have CN := Lib.hid cn
        have CO := Lib.hid co
        clear cm cn co
        clear ea ha
        clear eb
        clear ec hc
        clear hm hn ho
        go_enter Try.func4, Try.ntmps4
        go_wp2_with fail
        refine (sane4_any _).mono ?_
        rintro e v1 ⟨rfl, b1⟩
        go_wp2_with fail
        refine (CM.out _).mono ?_
        rintro e w' ⟨rfl, rfl⟩
        go_wp2_with fail
        refine (CN.out _).mono ?_
        rintro e w' ⟨rfl, rfl⟩
        go_wp2_with fail
        refine (CO.out _).mono ?_
        rintro e w' ⟨rfl, rfl⟩
        go_wp2_with fail
        go_ret
        exact ⟨rfl, b1⟩
    · by_cases hc : c = 0
      · subst hc
        have cm := fun w => element_pos m hm ea ha w
        have cn := fun w => element_pos n hn eb hb w
        have co := fun w => element_zero o ho ec w
        have CM := Lib.hid cm
        have CN := Lib.hid cn
        have CO := Lib.hid co
        clear cm cn co
        clear ea ha
        clear eb hb
        clear ec
        clear hm hn ho
        go_enter Try.func4, Try.ntmps4
        go_wp2_with fail
        refine (sane4_any _).mono ?_
        rintro e v1 ⟨rfl, b1⟩
        go_wp2_with fail
        refine (CM.out _).mono ?_
        rintro e w' ⟨rfl, rfl⟩
        go_wp2_with fail
        refine (CN.out _).mono ?_
        rintro e w' ⟨rfl, rfl⟩
        go_wp2_with fail
        refine (CO.out _).mono ?_
        rintro e w' ⟨rfl, rfl⟩
        go_wp2_with fail
        go_ret
        exact ⟨rfl, b1⟩
      · have cm := fun w => element_pos m hm ea ha w
        have cn := fun w => element_pos n hn eb hb w
        have co := fun w => element_pos o ho ec hc w
        have Ea : El a := ea ▸ sqP_El (ea.symm ▸ ha)
        have Eb : El b := eb ▸ sqP_El (eb.symm ▸ hb)
        have Ec : El c := ec ▸ sqP_El (ec.symm ▸ hc)
        obtain ⟨ab, eab⟩ : ∃ x, mulP a b = x := ⟨_, rfl⟩
        obtain ⟨bc, ebc⟩ : ∃ x, mulP b c = x := ⟨_, rfl⟩
        obtain ⟨l, el⟩ : ∃ x, mulP ab c = x := ⟨_, rfl⟩
        obtain ⟨i, ei⟩ : ∃ x, powP a 2305843009213688668 = x := ⟨_, rfl⟩
        have Eab : El ab := eab ▸ Ea.mul Eb
        have Ebc : El bc := ebc ▸ Eb.mul Ec
        have Ei : El i := ei ▸ powP_pos Ea _
        have c1 := fun w => gmul_el Ea Eb eab w
        have c2 := fun w => gmul_el Eb Ea ((mulP_comm b a).trans eab) w
        have c3 := fun w => gmul_el Eb Ec ebc w
        have c4 := fun w => gmul_el Eab Ec el w
        have c5 := fun w => gmul_el Ea Ebc (show mulP a bc = l by rw [← ebc, ← mulP_assoc, eab, el]) w
        have c6 : ∀ w, Calls Try.prog 16 #[.int .i64 a, .int .i64 1] w fun e w' => e = .returned (.tuple #[.int .i64 (a : Int), .int .i64 0]) ∧ Below w.heap.size w w' := fun w => gmul_el Ea El.one (mulP_one Ea.2.1) w
        have c7 := fun w => ginv_el Ea ei w
        have c8 : ∀ w, Calls Try.prog 16 #[.int .i64 a, .int .i64 i] w fun e w' => e = .returned (.tuple #[.int .i64 1, .int .i64 0]) ∧ Below w.heap.size w w' := fun w => gmul_el Ea Ei (show mulP a i = 1 by rw [← ei]; exact Ea.inv) w
        have c9 := fun w => check_El Eab w
        have c10 := fun w => check_El Ei w
        have g1 : decide ((1 : Int) ≤ (ab : Int)) = true := by rw [decide_eq_true_iff]; have := Eab.1; omega
        have g2 : decide ((ab : Int) < 4611686018427377339) = true := by rw [decide_eq_true_iff]; have := Eab.2.1; omega
        have CM := Lib.hid cm
        have CN := Lib.hid cn
        have CO := Lib.hid co
        have C1 := Lib.hid c1
        have C2 := Lib.hid c2
        have C3 := Lib.hid c3
        have C4 := Lib.hid c4
        have C5 := Lib.hid c5
        have C6 := Lib.hid c6
        have C7 := Lib.hid c7
        have C8 := Lib.hid c8
        have C9 := Lib.hid c9
        have C10 := Lib.hid c10
        clear cm cn co c1 c2 c3 c4 c5 c6 c7 c8 c9 c10
        clear ea eb ec ha hb hc hm hn ho Ea Eb Ec eab ebc el ei Eab Ebc Ei
        go_enter Try.func4, Try.ntmps4
        go_wp2_with fail
        refine (sane4_any _).mono ?_
        rintro e v1 ⟨rfl, b1⟩
        go_wp2_with fail
        refine (CM.out _).mono ?_
        rintro e w' ⟨rfl, rfl⟩
        go_wp2_with fail
        refine (CN.out _).mono ?_
        rintro e w' ⟨rfl, rfl⟩
        go_wp2_with fail
        refine (CO.out _).mono ?_
        rintro e w' ⟨rfl, rfl⟩
        go_wp2_with fail
        refine (C1.out _).mono ?_
        rintro e v2 ⟨rfl, b2⟩
        have B2 := b1.trans (b2.mono b1.size)
        clear b2 b1
        go_wp2_with fail
        refine (C2.out _).mono ?_
        rintro e v3 ⟨rfl, b3⟩
        have B3 := B2.trans (b3.mono B2.size)
        clear b3 B2
        go_wp2_with fail
        refine (C3.out _).mono ?_
        rintro e v4 ⟨rfl, b4⟩
        have B4 := B3.trans (b4.mono B3.size)
        clear b4 B3
        go_wp2_with fail
        refine (C4.out _).mono ?_
        rintro e v5 ⟨rfl, b5⟩
        have B5 := B4.trans (b5.mono B4.size)
        clear b5 B4
        go_wp2_with fail
        refine (C5.out _).mono ?_
        rintro e v6 ⟨rfl, b6⟩
        have B6 := B5.trans (b6.mono B5.size)
        clear b6 B5
        go_wp2_with fail
        refine (C6.out _).mono ?_
        rintro e v7 ⟨rfl, b7⟩
        have B7 := B6.trans (b7.mono B6.size)
        clear b7 B6
        go_wp2_with fail
        refine (C7.out _).mono ?_
        rintro e v8 ⟨rfl, b8⟩
        have B8 := B7.trans (b8.mono B7.size)
        clear b8 B7
        go_wp2_with fail
        refine (C8.out _).mono ?_
        rintro e v9 ⟨rfl, b9⟩
        have B9 := B8.trans (b9.mono B8.size)
        clear b9 B8
        go_wp2_with fail
        refine (C9.out _).mono ?_
        rintro e v10 ⟨rfl, b10⟩
        have B10 := B9.trans (b10.mono B9.size)
        clear b10 B9
        go_wp2_with fail
        refine (C10.out _).mono ?_
        rintro e v11 ⟨rfl, b11⟩
        have B11 := B10.trans (b11.mono B10.size)
        clear b11 B10
        go_wp2_with fail
        go_ret
        exact ⟨rfl, B11⟩

theorem walk (a0 : Int) (w0 : (Lit.int .u64 a0).wf = true) (a1 : Int) (w1 : (Lit.int .u64 a1).wf = true) (a2 : Int) (w2 : (Lit.int .u64 a2).wf = true) (w : World) :
    Calls Try.prog 4 #[.int .u64 a0, .int .u64 a1, .int .u64 a2] w fun e w' => e = .returned (.bool true) ∧ Below w.heap.size w w' := by
  obtain ⟨m, rfl, hm⟩ := u64_nat w0
  obtain ⟨n, rfl, hn⟩ := u64_nat w1
  obtain ⟨o, rfl, ho⟩ := u64_nat w2
  exact walk0 m n o hm hn ho w

set_option maxRecDepth 100000 in
theorem lifted (os : Os) (started : os.Started) (H : Type) (enc : TypeId × Value → H) :
    ReturnsInHanded {} Try.checked os 4 .any (Rows.groupAxiomsSpec.pre6 enc Try.prog Try.f4 Rows.groupAxiomsRow.domain false) (Rows.groupAxiomsSpec.post enc Try.prog Try.f4 false true false false) := by
  refine returnsInHanded_of_change (C := Try.checked) own started (by kernel_rfl) Try.func4
    (ChangeSpec.witness6 (enc := enc) (C := Try.checked) false ⟨#[], #[.int .u64 0, .int .u64 0, .int .u64 0], []⟩ 8 (by kernel_rfl) (by kernel_rfl) (by kernel_rfl) (by kernel_rfl)) ?_
  intro W base args ds gs before hval0 hW hcnd hsz
  have hval : ∀ (j : Nat) t v, Try.f4.params[j]? = some t → args[j]? = some v → Value.okWide Try.prog W .any base t v := hval0
  have hW' := hW
  obtain ⟨p, q, hA0, hV, rfl, hfz, hnd⟩ := hW
  have hA : DataW.TrodAll enc Try.prog W 0 (fun _ => true) true Try.f4.params.toList args.toList ds p := hA0
  rw [Try.params4] at hA hval
  obtain ⟨v0, vs0, d0, ds0, p0, q0, hargs, rfl, rfl, h0, r0⟩ := trodAll_cons hA
  obtain ⟨v1, vs1, d1, ds1, p1, q1, rfl, rfl, rfl, h1, r1⟩ := trodAll_cons r0
  obtain ⟨v2, vs2, d2, ds2, p2, q2, rfl, rfl, rfl, h2, r2⟩ := trodAll_cons r1
  obtain ⟨rfl, rfl, rfl⟩ := trodAll_nil r2
  obtain rfl : args = #[v0, v1, v2] := by cases args; simp_all
  obtain ⟨rfl, rfl⟩ := trodVars_none hV
  obtain ⟨a0, rfl, rfl, rfl, w0⟩ := open_int Try.underlying29 (hval 0 29 v0 rfl rfl) h0
  obtain ⟨a1, rfl, rfl, rfl, w1⟩ := open_int Try.underlying29 (hval 1 29 v1 rfl rfl) h1
  obtain ⟨a2, rfl, rfl, rfl, w2⟩ := open_int Try.underlying29 (hval 2 29 v2 rfl rfl) h2
  clear hA0 hval0
  simp only [List.append_nil] at hW'
  refine (walk a0 w0 a1 w1 a2 w2 W).mono fun e W' ⟨he, hg⟩ => ?_
  subst he
  exact ⟨_, rfl, post_below (pa := []) (pv := []) hW' (fun _ _ _ => (trodAll_cons_mk (shut_bool Try.underlying4 _) trodAll_mk0)) (fun sp _ => (trodAll_cons_mk (shut_int Try.underlying29 w0) (trodAll_cons_mk (shut_int Try.underlying29 w1) (trodAll_cons_mk (shut_int Try.underlying29 w2) trodAll_mk0)))) (fun _ _ => rfl) rfl hg (ok_one (by kernel_rfl) rfl (okWide_bool_mk Try.underlying4 _))⟩

theorem over : Rows.groupAxiomsRow.holds Try.pinned (OpenSpec.ofChange Rows.groupAxiomsSpec) :=
  OpenClaim.holds_of_wide 4 Try.f4 rfl rfl rfl rfl rfl rfl rfl ⟨rfl, rfl, rfl, rfl, rfl⟩ rfl rfl rfl rfl rfl (by kernel_rfl) Try.func4 (by kernel_rfl)
    (of_decide_eq_true (by kernel_rfl)) (by unfold Func.isWrapper; first | (rw [if_pos (by decide +kernel)]; kernel_rfl) | (rw [if_neg (by decide +kernel)]; exact ⟨rfl, rfl⟩))
    (fun os started H enc _ => lifted os started H enc)

end Go.Proofs.Ytajcpbchpcnmaaa.groupAxioms
namespace Go.Proofs.Ytajcpbchpcnmaaa
theorem groupAxioms_holds : Rows.GroupAxiomsSaid := groupAxioms.over
#print axioms groupAxioms_holds
end Go.Proofs.Ytajcpbchpcnmaaa
