/- GroupHalves: of a number and its negative modulo P exactly one is an element: the statement returns true for every input. No condition. -/
import Derived.Test.YtajcpbchpcnmaaaGrpEl
import Derived.Test.YtajcpbchpcnmaaaRow
namespace Go.Proofs.Ytajcpbchpcnmaaa.groupHalves
open Go.ChangeShapes Go.WideShapes Go.ChangeAt Go.RowKit
set_option linter.unusedVariables false

set_option maxRecDepth 100000 in
set_option maxHeartbeats 1000000 in
theorem walk0 (n : Nat) (hn : n < 18446744073709551616) (w : World) :
    Calls Try.prog 5 #[.int .u64 n] w fun e w' => e = .returned (.bool true) ∧ Below w.heap.size w w' := by
  have hr : n % 4611686018427377339 < 4611686018427377339 := Nat.mod_lt _ (by decide)
  have re : (n : Int) % 4611686018427377339 = ((n % 4611686018427377339 : Nat) : Int) := by omega
  have hsq : sqP n = mulP (n % 4611686018427377339) (n % 4611686018427377339) := rfl
  obtain ⟨r, er⟩ : ∃ r, n % 4611686018427377339 = r := ⟨_, rfl⟩
  rw [er] at hr re hsq
  have hri : (r : Int) ≤ 9223372036854775807 := by omega
  by_cases h0 : r = 0
  · subst h0
    have c1 : ∀ w, Calls Try.prog 24 #[.int .i64 0] w fun e w' => e = .returned (.int .i64 40) ∧ Below w.heap.size w w' := fun w => check_no 0 (el_no 0 (by decide)) w
    have C1 := Lib.hid c1
    clear c1
    clear hr hsq er hn
    go_enter Try.func5, Try.ntmps5
    go_wp2_with fail
    refine (sane4_any _).mono ?_
    rintro e v1 ⟨rfl, b1⟩
    go_wp2_with fail
    refine (C1.out _).mono ?_
    rintro e v2 ⟨rfl, b2⟩
    have B2 := b1.trans (b2.mono b1.size)
    clear b2 b1
    go_wp2_with fail
    go_ret
    exact ⟨rfl, B2⟩
  · by_cases hE : El r
    · have hz : ((r : Int) == 0) = false := by rw [beq_eq_false_iff_ne]; omega
      have hl : ((4611686018427377339 - r : Nat) : Int) = 4611686018427377339 - (r : Int) := by omega
      have hno : ¬ El (4611686018427377339 - r) := (halves (by omega) hr).1 hE
      have c1 := fun w => check_El hE w
      have c2 := fun w => check_notEl hno w
      rw [hl] at c2
      have hs : El (mulP r r) := El.square (by omega) hr
      obtain ⟨s, es⟩ : ∃ s, mulP r r = s := ⟨_, rfl⟩
      rw [es] at hsq hs
      have c3 := fun w => element_pos n hn hsq (by have := hs.1; omega) w
      have c4 := fun w => check_El hs w
      have C1 := Lib.hid c1
      have C2 := Lib.hid c2
      have C3 := Lib.hid c3
      have C4 := Lib.hid c4
      clear c1 c2 c3 c4
      clear hsq hs es hno hE h0 hl hr er hn
      go_enter Try.func5, Try.ntmps5
      go_wp2_with fail
      refine (sane4_any _).mono ?_
      rintro e v1 ⟨rfl, b1⟩
      go_wp2_with fail
      refine (C3.out _).mono ?_
      rintro e w' ⟨rfl, rfl⟩
      go_wp2_with fail
      refine (C4.out _).mono ?_
      rintro e v2 ⟨rfl, b2⟩
      have B2 := b1.trans (b2.mono b1.size)
      clear b2 b1
      go_wp2_with fail
      refine (C1.out _).mono ?_
      rintro e v3 ⟨rfl, b3⟩
      have B3 := B2.trans (b3.mono B2.size)
      clear b3 B2
      go_wp2_with fail
      refine (C2.out _).mono ?_
      rintro e v4 ⟨rfl, b4⟩
      have B4 := B3.trans (b4.mono B3.size)
      clear b4 B3
      go_wp2_with fail
      go_ret
      exact ⟨rfl, B4⟩
    · have hz : ((r : Int) == 0) = false := by rw [beq_eq_false_iff_ne]; omega
      have hl : ((4611686018427377339 - r : Nat) : Int) = 4611686018427377339 - (r : Int) := by omega
      have hno : El (4611686018427377339 - r) := Classical.byContradiction fun h => hE ((halves (by omega) hr).2 h)
      have c1 := fun w => check_notEl hE w
      have c2 := fun w => check_El hno w
      rw [hl] at c2
      have hs : El (mulP r r) := El.square (by omega) hr
      obtain ⟨s, es⟩ : ∃ s, mulP r r = s := ⟨_, rfl⟩
      rw [es] at hsq hs
      have c3 := fun w => element_pos n hn hsq (by have := hs.1; omega) w
      have c4 := fun w => check_El hs w
      have C1 := Lib.hid c1
      have C2 := Lib.hid c2
      have C3 := Lib.hid c3
      have C4 := Lib.hid c4
      clear c1 c2 c3 c4
      clear hsq hs es hno hE h0 hl hr er hn
      go_enter Try.func5, Try.ntmps5
      go_wp2_with fail
      refine (sane4_any _).mono ?_
      rintro e v1 ⟨rfl, b1⟩
      go_wp2_with fail
      refine (C3.out _).mono ?_
      rintro e w' ⟨rfl, rfl⟩
      go_wp2_with fail
      refine (C4.out _).mono ?_
      rintro e v2 ⟨rfl, b2⟩
      have B2 := b1.trans (b2.mono b1.size)
      clear b2 b1
      go_wp2_with fail
      refine (C1.out _).mono ?_
      rintro e v3 ⟨rfl, b3⟩
      have B3 := B2.trans (b3.mono B2.size)
      clear b3 B2
      go_wp2_with fail
      refine (C2.out _).mono ?_
      rintro e v4 ⟨rfl, b4⟩
      have B4 := B3.trans (b4.mono B3.size)
      clear b4 B3
      go_wp2_with fail
      go_ret
      exact ⟨rfl, B4⟩

theorem walk (a0 : Int) (w0 : (Lit.int .u64 a0).wf = true) (w : World) :
    Calls Try.prog 5 #[.int .u64 a0] w fun e w' => e = .returned (.bool true) ∧ Below w.heap.size w w' := by
  obtain ⟨n, rfl, hn⟩ := u64_nat w0
  exact walk0 n hn w

set_option maxRecDepth 100000 in
theorem lifted (os : Os) (started : os.Started) (H : Type) (enc : TypeId × Value → H) :
    ReturnsInHanded {} Try.checked os 5 .any (Rows.groupHalvesSpec.pre6 enc Try.prog Try.f5 Rows.groupHalvesRow.domain false) (Rows.groupHalvesSpec.post enc Try.prog Try.f5 false true false false) := by
  refine returnsInHanded_of_change (C := Try.checked) own started (by kernel_rfl) Try.func5
    (ChangeSpec.witness6 (enc := enc) (C := Try.checked) false ⟨#[], #[.int .u64 0], []⟩ 8 (by kernel_rfl) (by kernel_rfl) (by kernel_rfl) (by kernel_rfl)) ?_
  intro W base args ds gs before hval0 hW hcnd hsz
  have hval : ∀ (j : Nat) t v, Try.f5.params[j]? = some t → args[j]? = some v → Value.okWide Try.prog W .any base t v := hval0
  have hW' := hW
  obtain ⟨p, q, hA0, hV, rfl, hfz, hnd⟩ := hW
  have hA : DataW.TrodAll enc Try.prog W 0 (fun _ => true) true Try.f5.params.toList args.toList ds p := hA0
  rw [Try.params5] at hA hval
  obtain ⟨v0, vs0, d0, ds0, p0, q0, hargs, rfl, rfl, h0, r0⟩ := trodAll_cons hA
  obtain ⟨rfl, rfl, rfl⟩ := trodAll_nil r0
  obtain rfl : args = #[v0] := by cases args; simp_all
  obtain ⟨rfl, rfl⟩ := trodVars_none hV
  obtain ⟨a0, rfl, rfl, rfl, w0⟩ := open_int Try.underlying29 (hval 0 29 v0 rfl rfl) h0
  clear hA0 hval0
  simp only [List.append_nil] at hW'
  refine (walk a0 w0 W).mono fun e W' ⟨he, hg⟩ => ?_
  subst he
  exact ⟨_, rfl, post_below (pa := []) (pv := []) hW' (fun _ _ _ => (trodAll_cons_mk (shut_bool Try.underlying4 _) trodAll_mk0)) (fun sp _ => (trodAll_cons_mk (shut_int Try.underlying29 w0) trodAll_mk0)) (fun _ _ => rfl) rfl hg (ok_one (by kernel_rfl) rfl (okWide_bool_mk Try.underlying4 _))⟩

theorem over : Rows.groupHalvesRow.holds Try.pinned (OpenSpec.ofChange Rows.groupHalvesSpec) :=
  OpenClaim.holds_of_wide 5 Try.f5 rfl rfl rfl rfl rfl rfl rfl ⟨rfl, rfl, rfl, rfl, rfl⟩ rfl rfl rfl rfl rfl (by kernel_rfl) Try.func5 (by kernel_rfl)
    (of_decide_eq_true (by kernel_rfl)) (by unfold Func.isWrapper; first | (rw [if_pos (by decide +kernel)]; kernel_rfl) | (rw [if_neg (by decide +kernel)]; exact ⟨rfl, rfl⟩))
    (fun os started H enc _ => lifted os started H enc)

end Go.Proofs.Ytajcpbchpcnmaaa.groupHalves
namespace Go.Proofs.Ytajcpbchpcnmaaa
theorem groupHalves_holds : Rows.GroupHalvesSaid := groupHalves.over
#print axioms groupHalves_holds
end Go.Proofs.Ytajcpbchpcnmaaa
