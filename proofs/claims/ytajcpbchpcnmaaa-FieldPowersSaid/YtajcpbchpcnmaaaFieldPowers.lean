/- FieldPowers: powers of scalars add and multiply their exponents: the statement returns true for every input. No condition. -/
import Derived.Test.YtajcpbchpcnmaaaFldHelp
import Derived.Test.YtajcpbchpcnmaaaRow
namespace Go.Proofs.Ytajcpbchpcnmaaa.fieldPowers
open Go.ChangeShapes Go.WideShapes Go.ChangeAt Go.RowKit
set_option linter.unusedVariables false

set_option maxRecDepth 100000 in
set_option maxHeartbeats 2000000 in
theorem walk0 (a0 : Int) (m n : Nat) (hm : m < 65536) (hn : n < 65536) (w : World) :
    Calls Try.prog 13 #[.int .i64 a0, .int .u16 m, .int .u16 n] w fun e w' => e = .returned (.bool true) ∧ Below w.heap.size w w' := by
  have o1 := fun w => of_any a0 w
  have ha := ofQ_lt a0
  obtain ⟨a, ea⟩ : ∃ x, ofQ a0 = x := ⟨_, rfl⟩
  rw [ea] at o1 ha
  clear ea
  have hmn : m * n < 4294967296 := by
    have : m * n ≤ 65535 * 65535 := Nat.mul_le_mul (by omega) (by omega)
    omega
  obtain ⟨mn, emn⟩ : ∃ x, m * n = x := ⟨_, rfl⟩
  have rmn : (m : Int) * (n : Int) = (mn : Int) := by rw [← emn]; push_cast; rfl
  rw [emn] at hmn
  have fp : ∀ (x k : Nat), x < 2305843009213688669 → k ≤ 4611686018427387904 → ∀ w, Calls Try.prog 39 #[.int .i64 x, .int .i64 k] w fun e w' => e = .returned (.tuple #[.int .i64 ((powQ x k : Nat) : Int), .int .i64 0]) ∧ Below w.heap.size w w' := fun x k hx hk w => by
    have h := fpow_any (x : Int) (k : Int) (by omega) w
    have e1 : fpow (x : Int) (k : Int) = ((powQ x k : Nat) : Int) := by unfold fpow; rw [scalB_of hx, decide_eq_true (show (0 : Int) ≤ (k : Int) by omega)]; rfl
    have e2 : fpowE (x : Int) (k : Int) = 0 := by unfold fpowE; rw [scalB_of hx, decide_eq_true (show (0 : Int) ≤ (k : Int) by omega)]; rfl
    rwa [e1, e2] at h
  have c1 := fun w => fp a m ha (by omega) w
  have c2 := fun w => fp a n ha (by omega) w
  have c3 : ∀ w, Calls Try.prog 39 #[.int .i64 a, .int .i64 ((m : Int) + (n : Int))] w fun e w' => e = .returned (.tuple #[.int .i64 ((powQ a (m + n) : Nat) : Int), .int .i64 0]) ∧ Below w.heap.size w w' := fun w => fp a (m + n) ha (by omega) w
  have c5 := fun w => fp a mn ha (by omega) w
  have c6 : ∀ w, Calls Try.prog 39 #[.int .i64 a, .int .i64 2305843009213688668] w fun e w' => e = .returned (.tuple #[.int .i64 ((powQ a 2305843009213688668 : Nat) : Int), .int .i64 0]) ∧ Below w.heap.size w w' := fun w => fp a 2305843009213688668 ha (by decide) w
  have l1 := powQ_lt a m
  have l2 := powQ_lt a n
  obtain ⟨p, e1⟩ : ∃ x, powQ a m = x := ⟨_, rfl⟩
  obtain ⟨q, e2⟩ : ∃ x, powQ a n = x := ⟨_, rfl⟩
  obtain ⟨r, e3⟩ : ∃ x, powQ a (m + n) = x := ⟨_, rfl⟩
  obtain ⟨t, e5⟩ : ∃ x, powQ a mn = x := ⟨_, rfl⟩
  have hs : powQ p n = t := by rw [← e1, powQ_powQ, emn, e5]
  rw [e1] at c1 l1
  rw [e2] at c2 l2
  rw [e3] at c3
  rw [e5] at c5
  have c4 := fun w => fp p n l1 (by omega) w
  rw [hs] at c4
  have c7 := fun w => hmul l1 l2 (show mulQ p q = r by rw [← e1, ← e2, powQ_add, e3]) w
  have hu : (powQ a 2305843009213688668 = 1) ↔ a ≠ 0 := by
    constructor
    · intro h h0
      rw [h0] at h
      rw [zero_powQ (by decide)] at h; cases h
    · intro h; exact fermatQ (Nat.pos_of_ne_zero h) ha
  obtain ⟨u, e6⟩ : ∃ x, powQ a 2305843009213688668 = x := ⟨_, rfl⟩
  rw [e6] at c6 hu
  have g1 : (m : Int) + (n : Int) ≤ 9223372036854775807 := by omega
  have g2 : (mn : Int) ≤ 9223372036854775807 := by omega
  have g3 : (m : Int) ≤ 65535 := by omega
  have g4 : (n : Int) ≤ 65535 := by omega
  clear fp
  have O1 := Lib.hid o1
  have C1 := Lib.hid c1
  have C2 := Lib.hid c2
  have C3 := Lib.hid c3
  have C4 := Lib.hid c4
  have C5 := Lib.hid c5
  have C6 := Lib.hid c6
  have C7 := Lib.hid c7
  clear o1 c1 c2 c3 c4 c5 c6 c7
  by_cases h0 : a = 0
  · have hu1 : u ≠ 1 := fun h => hu.1 h h0
    have gu : ((u : Int) == 1) = false := by rw [beq_eq_false_iff_ne]; omega
    have gz : ((a : Int) != 0) = false := by rw [bne_eq_false_iff_eq]; omega
    have gz2 : (a : Int) = 0 := by omega
    subst h0
    clear hu1
    clear hu hm hn ha hmn emn l1 l2 e1 e2 e3 e5 e6 hs
    go_enter Try.func13, Try.ntmps13
    go_wp2_with fail
    refine (sane3_any _).mono ?_
    rintro e v1 ⟨rfl, b1⟩
    go_wp2_with fail
    refine (O1.out _).mono ?_
    rintro e w' ⟨rfl, rfl⟩
    go_wp2_with fail
    refine (C1.out _).mono ?_
    rintro e v2 ⟨rfl, b2⟩
    have B2 := b1.trans (b2.mono b1.size)
    clear b2 b1
    go_wp2_with fail
    refine (C2.out _).mono ?_
    rintro e v3 ⟨rfl, b3⟩
    have B3 := B2.trans (b3.mono B2.size)
    clear b3 B2
    go_wp2_with fail
    refine (C3.out _).mono ?_
    rintro e v4 ⟨rfl, b4⟩
    have B4 := B3.trans (b4.mono B3.size)
    clear b4 B3
    go_wp2_with fail
    refine (C4.out _).mono ?_
    rintro e v5 ⟨rfl, b5⟩
    have B5 := B4.trans (b5.mono B4.size)
    clear b5 B4
    go_wp2_with fail
    refine (C5.out _).mono ?_
    rintro e v6 ⟨rfl, b6⟩
    have B6 := B5.trans (b6.mono B5.size)
    clear b6 B5
    go_wp2_with fail
    refine (C6.out _).mono ?_
    rintro e v7 ⟨rfl, b7⟩
    have B7 := B6.trans (b7.mono B6.size)
    clear b7 B6
    go_wp2_with fail
    refine (C7.out _).mono ?_
    rintro e v8 ⟨rfl, b8⟩
    have B8 := B7.trans (b8.mono B7.size)
    clear b8 B7
    go_wp2_with fail
    go_ret
    exact ⟨rfl, B8⟩
  · have hu1 : u = 1 := hu.2 h0
    have gz : ((a : Int) != 0) = true := by rw [bne_iff_ne]; omega
    subst hu1
    clear h0
    clear hu hm hn ha hmn emn l1 l2 e1 e2 e3 e5 e6 hs
    go_enter Try.func13, Try.ntmps13
    go_wp2_with fail
    refine (sane3_any _).mono ?_
    rintro e v1 ⟨rfl, b1⟩
    go_wp2_with fail
    refine (O1.out _).mono ?_
    rintro e w' ⟨rfl, rfl⟩
    go_wp2_with fail
    refine (C1.out _).mono ?_
    rintro e v2 ⟨rfl, b2⟩
    have B2 := b1.trans (b2.mono b1.size)
    clear b2 b1
    go_wp2_with fail
    refine (C2.out _).mono ?_
    rintro e v3 ⟨rfl, b3⟩
    have B3 := B2.trans (b3.mono B2.size)
    clear b3 B2
    go_wp2_with fail
    refine (C3.out _).mono ?_
    rintro e v4 ⟨rfl, b4⟩
    have B4 := B3.trans (b4.mono B3.size)
    clear b4 B3
    go_wp2_with fail
    refine (C4.out _).mono ?_
    rintro e v5 ⟨rfl, b5⟩
    have B5 := B4.trans (b5.mono B4.size)
    clear b5 B4
    go_wp2_with fail
    refine (C5.out _).mono ?_
    rintro e v6 ⟨rfl, b6⟩
    have B6 := B5.trans (b6.mono B5.size)
    clear b6 B5
    go_wp2_with fail
    refine (C6.out _).mono ?_
    rintro e v7 ⟨rfl, b7⟩
    have B7 := B6.trans (b7.mono B6.size)
    clear b7 B6
    go_wp2_with fail
    refine (C7.out _).mono ?_
    rintro e v8 ⟨rfl, b8⟩
    have B8 := B7.trans (b8.mono B7.size)
    clear b8 B7
    go_wp2_with fail
    go_ret
    exact ⟨rfl, B8⟩

theorem walk (a0 : Int) (w0 : (Lit.int .i64 a0).wf = true) (a1 : Int) (w1 : (Lit.int .u16 a1).wf = true) (a2 : Int) (w2 : (Lit.int .u16 a2).wf = true) (w : World) :
    Calls Try.prog 13 #[.int .i64 a0, .int .u16 a1, .int .u16 a2] w fun e w' => e = .returned (.bool true) ∧ Below w.heap.size w w' := by
  obtain ⟨m, rfl, hm⟩ := u16_nat w1
  obtain ⟨n, rfl, hn⟩ := u16_nat w2
  exact walk0 a0 m n hm hn w

set_option maxRecDepth 100000 in
theorem lifted (os : Os) (started : os.Started) (H : Type) (enc : TypeId × Value → H) :
    ReturnsInHanded {} Try.checked os 13 .any (Rows.fieldPowersSpec.pre6 enc Try.prog Try.f13 Rows.fieldPowersRow.domain false) (Rows.fieldPowersSpec.post enc Try.prog Try.f13 false true false false) := by
  refine returnsInHanded_of_change (C := Try.checked) own started (by kernel_rfl) Try.func13
    (ChangeSpec.witness6 (enc := enc) (C := Try.checked) false ⟨#[], #[.int .i64 0, .int .u16 0, .int .u16 0], []⟩ 8 (by kernel_rfl) (by kernel_rfl) (by kernel_rfl) (by kernel_rfl)) ?_
  intro W base args ds gs before hval0 hW hcnd hsz
  have hval : ∀ (j : Nat) t v, Try.f13.params[j]? = some t → args[j]? = some v → Value.okWide Try.prog W .any base t v := hval0
  have hW' := hW
  obtain ⟨p, q, hA0, hV, rfl, hfz, hnd⟩ := hW
  have hA : DataW.TrodAll enc Try.prog W 0 (fun _ => true) true Try.f13.params.toList args.toList ds p := hA0
  rw [Try.params13] at hA hval
  obtain ⟨v0, vs0, d0, ds0, p0, q0, hargs, rfl, rfl, h0, r0⟩ := trodAll_cons hA
  obtain ⟨v1, vs1, d1, ds1, p1, q1, rfl, rfl, rfl, h1, r1⟩ := trodAll_cons r0
  obtain ⟨v2, vs2, d2, ds2, p2, q2, rfl, rfl, rfl, h2, r2⟩ := trodAll_cons r1
  obtain ⟨rfl, rfl, rfl⟩ := trodAll_nil r2
  obtain rfl : args = #[v0, v1, v2] := by cases args; simp_all
  obtain ⟨rfl, rfl⟩ := trodVars_none hV
  obtain ⟨a0, rfl, rfl, rfl, w0⟩ := open_int Try.underlying3 (hval 0 3 v0 rfl rfl) h0
  obtain ⟨a1, rfl, rfl, rfl, w1⟩ := open_int Try.underlying44 (hval 1 44 v1 rfl rfl) h1
  obtain ⟨a2, rfl, rfl, rfl, w2⟩ := open_int Try.underlying44 (hval 2 44 v2 rfl rfl) h2
  clear hA0 hval0
  simp only [List.append_nil] at hW'
  refine (walk a0 w0 a1 w1 a2 w2 W).mono fun e W' ⟨he, hg⟩ => ?_
  subst he
  exact ⟨_, rfl, post_below (pa := []) (pv := []) hW' (fun _ _ _ => (trodAll_cons_mk (shut_bool Try.underlying4 _) trodAll_mk0)) (fun sp _ => (trodAll_cons_mk (shut_int Try.underlying3 w0) (trodAll_cons_mk (shut_int Try.underlying44 w1) (trodAll_cons_mk (shut_int Try.underlying44 w2) trodAll_mk0)))) (fun _ _ => rfl) rfl hg (ok_one (by kernel_rfl) rfl (okWide_bool_mk Try.underlying4 _))⟩

theorem over : Rows.fieldPowersRow.holds Try.pinned (OpenSpec.ofChange Rows.fieldPowersSpec) :=
  OpenClaim.holds_of_wide 13 Try.f13 rfl rfl rfl rfl rfl rfl rfl ⟨rfl, rfl, rfl, rfl, rfl⟩ rfl rfl rfl rfl rfl (by kernel_rfl) Try.func13 (by kernel_rfl)
    (of_decide_eq_true (by kernel_rfl)) (by unfold Func.isWrapper; first | (rw [if_pos (by decide +kernel)]; kernel_rfl) | (rw [if_neg (by decide +kernel)]; exact ⟨rfl, rfl⟩))
    (fun os started H enc _ => lifted os started H enc)

end Go.Proofs.Ytajcpbchpcnmaaa.fieldPowers
namespace Go.Proofs.Ytajcpbchpcnmaaa
theorem fieldPowers_holds : Rows.FieldPowersSaid := fieldPowers.over
#print axioms fieldPowers_holds
end Go.Proofs.Ytajcpbchpcnmaaa
