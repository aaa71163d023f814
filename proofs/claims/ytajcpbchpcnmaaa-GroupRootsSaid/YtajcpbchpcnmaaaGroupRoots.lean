/- GroupRoots: a power by a scalar other than 0 is undone by its inverse: the statement returns true for every input. No condition. -/
import Derived.Test.YtajcpbchpcnmaaaGrpEl
import Derived.Test.YtajcpbchpcnmaaaFldApi
import Derived.Test.YtajcpbchpcnmaaaRow
namespace Go.Proofs.Ytajcpbchpcnmaaa.groupRoots
open Go.ChangeShapes Go.WideShapes Go.ChangeAt Go.RowKit
set_option linter.unusedVariables false

set_option maxRecDepth 100000 in
set_option maxHeartbeats 1000000 in
theorem walk0 (m n : Nat) (k : Int) (hm : m < 18446744073709551616) (hn : n < 18446744073709551616) (w : World) :
    Calls Try.prog 7 #[.int .u64 m, .int .u64 n, .int .i64 k] w fun e w' => e = .returned (.bool true) ∧ Below w.heap.size w w' := by
  obtain ⟨a, ea⟩ : ∃ x, sqP m = x := ⟨_, rfl⟩
  obtain ⟨b, eb⟩ : ∃ x, sqP n = x := ⟨_, rfl⟩
  have sk := fun w => risscalar_any k w
  by_cases ha : a = 0
  · by_cases hb : b = 0
    · subst ha
      have cm := fun w => element_zero m hm ea w
      subst hb
      have cn := fun w => element_zero n hn eb w
      have CM := Lib.hid cm
      have CN := Lib.hid cn
      clear cm cn
      clear ea eb hm hn sk
      go_enter Try.func7, Try.ntmps7
      go_wp2_with fail
      refine (sane4_any _).mono ?_
      rintro e v1 ⟨rfl, b1⟩
      go_wp2_with fail
      refine (CM.out _).mono ?_
      rintro e w' ⟨rfl, rfl⟩
      go_wp2_with fail
      refine (CN.out _).mono ?_
      rintro e w' ⟨rfl, rfl⟩
      go_wp2_with fail
      go_ret
      exact ⟨rfl, b1⟩
    · subst ha
      have cm := fun w => element_zero m hm ea w
      have cn := fun w => element_pos n hn eb hb w
      have CM := Lib.hid cm
      have CN := Lib.hid cn
      clear cm cn
      clear ea eb hm hn sk hb
      go_enter Try.func7, Try.ntmps7
      go_wp2_with fail
      refine (sane4_any _).mono ?_
      rintro e v1 ⟨rfl, b1⟩
      go_wp2_with fail
      refine (CM.out _).mono ?_
      rintro e w' ⟨rfl, rfl⟩
      go_wp2_with fail
      refine (CN.out _).mono ?_
      rintro e w' ⟨rfl, rfl⟩
      go_wp2_with fail
      go_ret
      exact ⟨rfl, b1⟩
  · by_cases hb : b = 0
    · have cm := fun w => element_pos m hm ea ha w
      subst hb
      have cn := fun w => element_zero n hn eb w
      have CM := Lib.hid cm
      have CN := Lib.hid cn
      clear cm cn
      clear ea eb hm hn sk ha
      go_enter Try.func7, Try.ntmps7
      go_wp2_with fail
      refine (sane4_any _).mono ?_
      rintro e v1 ⟨rfl, b1⟩
      go_wp2_with fail
      refine (CM.out _).mono ?_
      rintro e w' ⟨rfl, rfl⟩
      go_wp2_with fail
      refine (CN.out _).mono ?_
      rintro e w' ⟨rfl, rfl⟩
      go_wp2_with fail
      go_ret
      exact ⟨rfl, b1⟩
    · have cm := fun w => element_pos m hm ea ha w
      have cn := fun w => element_pos n hn eb hb w
      have CM := Lib.hid cm
      have CN := Lib.hid cn
      clear cm cn
      cases hk : scalB k with
      | false =>
        rw [hk] at sk
        have SK := Lib.hid sk
        clear sk
        clear ea eb hm hn ha hb hk
        go_enter Try.func7, Try.ntmps7
        go_wp2_with fail
        refine (sane4_any _).mono ?_
        rintro e v1 ⟨rfl, b1⟩
        go_wp2_with fail
        refine (CM.out _).mono ?_
        rintro e w' ⟨rfl, rfl⟩
        go_wp2_with fail
        refine (CN.out _).mono ?_
        rintro e w' ⟨rfl, rfl⟩
        go_wp2_with fail
        refine (SK.out _).mono ?_
        rintro e w' ⟨rfl, rfl⟩
        go_wp2_with fail
        go_ret
        exact ⟨rfl, b1⟩
      | true =>
        rw [hk] at sk
        have SK := Lib.hid sk
        clear sk
        obtain ⟨k, rfl, hk'⟩ := scalB_nat hk
        by_cases h0 : k = 0
        · subst h0
          clear ea eb hm hn ha hb hk hk'
          go_enter Try.func7, Try.ntmps7
          go_wp2_with fail
          refine (sane4_any _).mono ?_
          rintro e v1 ⟨rfl, b1⟩
          go_wp2_with fail
          refine (CM.out _).mono ?_
          rintro e w' ⟨rfl, rfl⟩
          go_wp2_with fail
          refine (CN.out _).mono ?_
          rintro e w' ⟨rfl, rfl⟩
          go_wp2_with fail
          refine (SK.out _).mono ?_
          rintro e w' ⟨rfl, rfl⟩
          go_wp2_with fail
          go_ret
          exact ⟨rfl, b1⟩
        · by_cases hab : a = b
          · have Ea : El a := ea ▸ sqP_El (ea.symm ▸ ha)
            have Eb : El b := eb ▸ sqP_El (eb.symm ▸ hb)
            have hz : ((k : Int) == 0) = false := by rw [beq_eq_false_iff_ne]; omega
            have c1 := fun w => finv_any (k : Int) w
            have e1 : finv (k : Int) = ((powQ k 2305843009213688667 : Nat) : Int) := by unfold finv; rw [hk, hz]; rfl
            have e2 : finvE (k : Int) = 0 := by unfold finvE; rw [hk, hz]; rfl
            rw [e1, e2] at c1
            have hi := inv_scalar (Nat.pos_of_ne_zero h0) hk'
            have hil := powQ_lt k 2305843009213688667
            obtain ⟨i, ei⟩ : ∃ x, powQ k 2305843009213688667 = x := ⟨_, rfl⟩
            rw [ei] at hi hil c1
            obtain ⟨c, ec⟩ : ∃ x, powP a k = x := ⟨_, rfl⟩
            obtain ⟨p, ep⟩ : ∃ x, powP b k = x := ⟨_, rfl⟩
            have Ec : El c := ec ▸ powP_pos Ea _
            have h1 : powP c i = a := by rw [← ec]; exact Ea.root hi
            have h2 : powP p i = b := by rw [← ep]; exact Eb.root hi
            have c2 := fun w => gexp_el Ea hk' ec w
            have c3 := fun w => gexp_el Ec hil h1 w
            have c4 := fun w => gexp_el Eb hk' ep w
            have hcp : c = p := by rw [← ec, ← ep, hab]
            have g1 : ((c : Int) == (p : Int)) = true := by rw [beq_iff_eq]; omega
            have g2 : ((a : Int) == (b : Int)) = true := by rw [beq_iff_eq]; omega
            have g3 : (c == p) = true := by rw [beq_iff_eq]; exact hcp
            have g4 : (a == b) = true := by rw [beq_iff_eq]; exact hab
            have C1 := Lib.hid c1
            have C2 := Lib.hid c2
            have C3 := Lib.hid c3
            have C4 := Lib.hid c4
            clear c1 c2 c3 c4
            clear ea eb ha hb hm hn hk hk' h0 e1 e2 hi hil ei ec ep Ec h1 h2 Ea Eb hcp hab
            go_enter Try.func7, Try.ntmps7
            go_wp2_with fail
            refine (sane4_any _).mono ?_
            rintro e v1 ⟨rfl, b1⟩
            go_wp2_with fail
            refine (CM.out _).mono ?_
            rintro e w' ⟨rfl, rfl⟩
            go_wp2_with fail
            refine (CN.out _).mono ?_
            rintro e w' ⟨rfl, rfl⟩
            go_wp2_with fail
            refine (SK.out _).mono ?_
            rintro e w' ⟨rfl, rfl⟩
            go_wp2_with fail
            refine (C1.out _).mono ?_
            rintro e v2 ⟨rfl, b2⟩
            have B2 := b1.trans (b2.mono b1.size)
            clear b2 b1
            go_wp2_with fail
            refine (C2.out _).mono ?_
            rintro e v3 ⟨rfl, b3⟩
            have B3 := B2.trans (b3.mono B2.size)
            clear b3 B2
            go_wp2_with fail
            refine (C3.out _).mono ?_
            rintro e v4 ⟨rfl, b4⟩
            have B4 := B3.trans (b4.mono B3.size)
            clear b4 B3
            go_wp2_with fail
            refine (C4.out _).mono ?_
            rintro e v5 ⟨rfl, b5⟩
            have B5 := B4.trans (b5.mono B4.size)
            clear b5 B4
            go_wp2_with fail
            go_ret
            exact ⟨rfl, B5⟩
          · have Ea : El a := ea ▸ sqP_El (ea.symm ▸ ha)
            have Eb : El b := eb ▸ sqP_El (eb.symm ▸ hb)
            have hz : ((k : Int) == 0) = false := by rw [beq_eq_false_iff_ne]; omega
            have c1 := fun w => finv_any (k : Int) w
            have e1 : finv (k : Int) = ((powQ k 2305843009213688667 : Nat) : Int) := by unfold finv; rw [hk, hz]; rfl
            have e2 : finvE (k : Int) = 0 := by unfold finvE; rw [hk, hz]; rfl
            rw [e1, e2] at c1
            have hi := inv_scalar (Nat.pos_of_ne_zero h0) hk'
            have hil := powQ_lt k 2305843009213688667
            obtain ⟨i, ei⟩ : ∃ x, powQ k 2305843009213688667 = x := ⟨_, rfl⟩
            rw [ei] at hi hil c1
            obtain ⟨c, ec⟩ : ∃ x, powP a k = x := ⟨_, rfl⟩
            obtain ⟨p, ep⟩ : ∃ x, powP b k = x := ⟨_, rfl⟩
            have Ec : El c := ec ▸ powP_pos Ea _
            have h1 : powP c i = a := by rw [← ec]; exact Ea.root hi
            have h2 : powP p i = b := by rw [← ep]; exact Eb.root hi
            have c2 := fun w => gexp_el Ea hk' ec w
            have c3 := fun w => gexp_el Ec hil h1 w
            have c4 := fun w => gexp_el Eb hk' ep w
            have hcp : c ≠ p := fun h => hab (by rw [← h1, ← h2, h])
            have g1 : ((c : Int) == (p : Int)) = false := by rw [beq_eq_false_iff_ne]; omega
            have g2 : ((a : Int) == (b : Int)) = false := by rw [beq_eq_false_iff_ne]; omega
            have g3 : (c == p) = false := by rw [beq_eq_false_iff_ne]; exact hcp
            have g4 : (a == b) = false := by rw [beq_eq_false_iff_ne]; exact hab
            have C1 := Lib.hid c1
            have C2 := Lib.hid c2
            have C3 := Lib.hid c3
            have C4 := Lib.hid c4
            clear c1 c2 c3 c4
            clear ea eb ha hb hm hn hk hk' h0 e1 e2 hi hil ei ec ep Ec h1 h2 Ea Eb hcp hab
            go_enter Try.func7, Try.ntmps7
            go_wp2_with fail
            refine (sane4_any _).mono ?_
            rintro e v1 ⟨rfl, b1⟩
            go_wp2_with fail
            refine (CM.out _).mono ?_
            rintro e w' ⟨rfl, rfl⟩
            go_wp2_with fail
            refine (CN.out _).mono ?_
            rintro e w' ⟨rfl, rfl⟩
            go_wp2_with fail
            refine (SK.out _).mono ?_
            rintro e w' ⟨rfl, rfl⟩
            go_wp2_with fail
            refine (C1.out _).mono ?_
            rintro e v2 ⟨rfl, b2⟩
            have B2 := b1.trans (b2.mono b1.size)
            clear b2 b1
            go_wp2_with fail
            refine (C2.out _).mono ?_
            rintro e v3 ⟨rfl, b3⟩
            have B3 := B2.trans (b3.mono B2.size)
            clear b3 B2
            go_wp2_with fail
            refine (C3.out _).mono ?_
            rintro e v4 ⟨rfl, b4⟩
            have B4 := B3.trans (b4.mono B3.size)
            clear b4 B3
            go_wp2_with fail
            refine (C4.out _).mono ?_
            rintro e v5 ⟨rfl, b5⟩
            have B5 := B4.trans (b5.mono B4.size)
            clear b5 B4
            go_wp2_with fail
            go_ret
            exact ⟨rfl, B5⟩

theorem walk (a0 : Int) (w0 : (Lit.int .u64 a0).wf = true) (a1 : Int) (w1 : (Lit.int .u64 a1).wf = true) (a2 : Int) (w2 : (Lit.int .i64 a2).wf = true) (w : World) :
    Calls Try.prog 7 #[.int .u64 a0, .int .u64 a1, .int .i64 a2] w fun e w' => e = .returned (.bool true) ∧ Below w.heap.size w w' := by
  obtain ⟨m, rfl, hm⟩ := u64_nat w0
  obtain ⟨n, rfl, hn⟩ := u64_nat w1
  exact walk0 m n a2 hm hn w

set_option maxRecDepth 100000 in
theorem lifted (os : Os) (started : os.Started) (H : Type) (enc : TypeId × Value → H) :
    ReturnsInHanded {} Try.checked os 7 .any (Rows.groupRootsSpec.pre6 enc Try.prog Try.f7 Rows.groupRootsRow.domain false) (Rows.groupRootsSpec.post enc Try.prog Try.f7 false true false false) := by
  refine returnsInHanded_of_change (C := Try.checked) own started (by kernel_rfl) Try.func7
    (ChangeSpec.witness6 (enc := enc) (C := Try.checked) false ⟨#[], #[.int .u64 0, .int .u64 0, .int .i64 0], []⟩ 8 (by kernel_rfl) (by kernel_rfl) (by kernel_rfl) (by kernel_rfl)) ?_
  intro W base args ds gs before hval0 hW hcnd hsz
  have hval : ∀ (j : Nat) t v, Try.f7.params[j]? = some t → args[j]? = some v → Value.okWide Try.prog W .any base t v := hval0
  have hW' := hW
  obtain ⟨p, q, hA0, hV, rfl, hfz, hnd⟩ := hW
  have hA : DataW.TrodAll enc Try.prog W 0 (fun _ => true) true Try.f7.params.toList args.toList ds p := hA0
  rw [Try.params7] at hA hval
  obtain ⟨v0, vs0, d0, ds0, p0, q0, hargs, rfl, rfl, h0, r0⟩ := trodAll_cons hA
  obtain ⟨v1, vs1, d1, ds1, p1, q1, rfl, rfl, rfl, h1, r1⟩ := trodAll_cons r0
  obtain ⟨v2, vs2, d2, ds2, p2, q2, rfl, rfl, rfl, h2, r2⟩ := trodAll_cons r1
  obtain ⟨rfl, rfl, rfl⟩ := trodAll_nil r2
  obtain rfl : args = #[v0, v1, v2] := by cases args; simp_all
  obtain ⟨rfl, rfl⟩ := trodVars_none hV
  obtain ⟨a0, rfl, rfl, rfl, w0⟩ := open_int Try.underlying29 (hval 0 29 v0 rfl rfl) h0
  obtain ⟨a1, rfl, rfl, rfl, w1⟩ := open_int Try.underlying29 (hval 1 29 v1 rfl rfl) h1
  obtain ⟨a2, rfl, rfl, rfl, w2⟩ := open_int Try.underlying3 (hval 2 3 v2 rfl rfl) h2
  clear hA0 hval0
  simp only [List.append_nil] at hW'
  refine (walk a0 w0 a1 w1 a2 w2 W).mono fun e W' ⟨he, hg⟩ => ?_
  subst he
  exact ⟨_, rfl, post_below (pa := []) (pv := []) hW' (fun _ _ _ => (trodAll_cons_mk (shut_bool Try.underlying4 _) trodAll_mk0)) (fun sp _ => (trodAll_cons_mk (shut_int Try.underlying29 w0) (trodAll_cons_mk (shut_int Try.underlying29 w1) (trodAll_cons_mk (shut_int Try.underlying3 w2) trodAll_mk0)))) (fun _ _ => rfl) rfl hg (ok_one (by kernel_rfl) rfl (okWide_bool_mk Try.underlying4 _))⟩

theorem over : Rows.groupRootsRow.holds Try.pinned (OpenSpec.ofChange Rows.groupRootsSpec) :=
  OpenClaim.holds_of_wide 7 Try.f7 rfl rfl rfl rfl rfl rfl rfl ⟨rfl, rfl, rfl, rfl, rfl⟩ rfl rfl rfl rfl rfl (by kernel_rfl) Try.func7 (by kernel_rfl)
    (of_decide_eq_true (by kernel_rfl)) (by unfold Func.isWrapper; first | (rw [if_pos (by decide +kernel)]; kernel_rfl) | (rw [if_neg (by decide +kernel)]; exact ⟨rfl, rfl⟩))
    (fun os started H enc _ => lifted os started H enc)

end Go.Proofs.Ytajcpbchpcnmaaa.groupRoots
namespace Go.Proofs.Ytajcpbchpcnmaaa
theorem groupRoots_holds : Rows.GroupRootsSaid := groupRoots.over
#print axioms groupRoots_holds
end Go.Proofs.Ytajcpbchpcnmaaa
