/- FieldEvalSpec: Eval of package field agrees with the reference: the statement returns true for every input. No condition. -/
import Derived.Test.YtajcpbchpcnmaaaFldHelp
import Derived.Test.YtajcpbchpcnmaaaRowInts
import Derived.Test.YtajcpbchpcnmaaaRow
namespace Go.Proofs.Ytajcpbchpcnmaaa.fieldEvalSpec
open Go.ChangeShapes Go.WideShapes Go.ChangeAt Go.RowKit
set_option linter.unusedVariables false

set_option maxRecDepth 100000 in
set_option maxHeartbeats 2000000 in
theorem walk0 (a0 : Option Addr) (len0 cap0 : Nat) (z0 : List Int) (w : World) (hi0 : IntsAt w (.slice a0 len0 cap0) z0) (hl0 : z0.length = len0) (hb0 : (len0 : Int) ≤ 9223372036854775807) (x : Int) :
    Calls Try.prog 10 #[.slice a0 len0 cap0, .int .i64 x] w fun e w' => e = .returned (.bool true) ∧ Below w.heap.size w w' := by
  have HI := Lib.hid hi0
  by_cases h200 : 200 < len0
  · have g1 : decide ((200 : Int) < (len0 : Int)) = true := by rw [decide_eq_true_iff]; omega
    have g2 : decide (200 < len0) = true := by rw [decide_eq_true_iff]; exact h200
    clear hi0 hl0 hb0 h200
    go_enter Try.func10, Try.ntmps10
    go_wp2_with fail
    refine (sane3_any _).mono ?_
    rintro e v1 ⟨rfl, b1⟩
    go_wp2_with fail
    go_ret
    exact ⟨rfl, b1⟩
  · have g1 : decide ((200 : Int) < (len0 : Int)) = false := by rw [decide_eq_false_iff_not]; omega
    have g2 : decide (200 < len0) = false := by rw [decide_eq_false_iff_not]; exact h200
    obtain ⟨u1, e1⟩ : ∃ y, fevalV z0 x = y := ⟨_, rfl⟩
    obtain ⟨u2, e2⟩ : ∃ y, fevalE z0 x = y := ⟨_, rfl⟩
    have c1 : ∀ w', Below w.heap.size w w' → Calls Try.prog 41 #[.slice a0 len0 cap0, .int .i64 x] w' fun e w2 => e = .returned (.tuple #[.int .i64 u1, .int .i64 u2]) ∧ Below w'.heap.size w' w2 := fun w' hb => by
      have := feval_any (.slice a0 len0 cap0) z0 x w' (HI.out.below hb); rwa [e1, e2] at this
    have d1 : ∀ w', Below w.heap.size w w' → Calls Try.prog 42 #[.slice a0 len0 cap0, .int .i64 x] w' fun e w2 => e = .returned (.tuple #[.int .i64 u1, .int .i64 u2]) ∧ w' = w2 := fun w' hb => by
      have := reval_any (.slice a0 len0 cap0) z0 x w' (HI.out.below hb); rwa [e1, e2] at this
    have C1 := Lib.hid c1
    have D1 := Lib.hid d1
    clear c1 d1
    clear hi0 hl0 hb0 h200 e1 e2
    go_enter Try.func10, Try.ntmps10
    go_wp2_with fail
    refine (sane3_any _).mono ?_
    rintro e v1 ⟨rfl, b1⟩
    go_wp2_with fail
    refine (C1.out _ b1).mono ?_
    rintro e v2 ⟨rfl, b2⟩
    have B2 := b1.trans (b2.mono b1.size)
    clear b2 b1
    go_wp2_with fail
    refine (D1.out _ B2).mono ?_
    rintro e w' ⟨rfl, rfl⟩
    go_wp2_with fail
    go_ret
    exact ⟨rfl, B2⟩

theorem walk (a0 : Option Addr) (len0 cap0 : Nat) (z0 : List Int) {w : World} (hi0 : IntsAt w (.slice a0 len0 cap0) z0) (hl0 : z0.length = len0) (hb0 : (len0 : Int) ≤ 9223372036854775807) (hw0 : ∀ z ∈ z0, (Lit.int .i64 z).wf = true) (a1 : Int) (w1 : (Lit.int .i64 a1).wf = true) (w' : World) (hww : w' = w := by rfl) :
    Calls Try.prog 10 #[.slice a0 len0 cap0, .int .i64 a1] w' fun e w2 => e = .returned (.bool true) ∧ Below w'.heap.size w' w2 := by
  subst hww; exact walk0 a0 len0 cap0 z0 w' hi0 hl0 hb0 a1

set_option maxRecDepth 100000 in
theorem lifted (os : Os) (started : os.Started) (H : Type) (enc : TypeId × Value → H) :
    ReturnsInHanded {} Try.checked os 10 .any (Rows.fieldEvalSpecSpec.pre6 enc Try.prog Try.f10 Rows.fieldEvalSpecRow.domain false) (Rows.fieldEvalSpecSpec.post enc Try.prog Try.f10 false true false false) := by
  refine returnsInHanded_of_change (C := Try.checked) own started (by kernel_rfl) Try.func10
    (ChangeSpec.witness6 (enc := enc) (C := Try.checked) false ⟨#[], #[.slice none 0 0, .int .i64 0], []⟩ 8 (by kernel_rfl) (by kernel_rfl) (by kernel_rfl) (by kernel_rfl)) ?_
  intro W base args ds gs before hval0 hW hcnd hsz
  have hval : ∀ (j : Nat) t v, Try.f10.params[j]? = some t → args[j]? = some v → Value.okWide Try.prog W .any base t v := hval0
  have hW' := hW
  obtain ⟨p, q, hA0, hV, rfl, hfz, hnd⟩ := hW
  have hA : DataW.TrodAll enc Try.prog W 0 (fun _ => true) true Try.f10.params.toList args.toList ds p := hA0
  rw [Try.params10] at hA hval
  obtain ⟨v0, vs0, d0, ds0, p0, q0, hargs, rfl, rfl, h0, r0⟩ := trodAll_cons hA
  obtain ⟨v1, vs1, d1, ds1, p1, q1, rfl, rfl, rfl, h1, r1⟩ := trodAll_cons r0
  obtain ⟨rfl, rfl, rfl⟩ := trodAll_nil r1
  obtain rfl : args = #[v0, v1] := by cases args; simp_all
  obtain ⟨rfl, rfl⟩ := trodVars_none hV
  have k0 := h0
  have lt0 : ∀ x ∈ p0, x.block < W.heap.size := by obtain ⟨m, hm⟩ := k0; exact DataW.trod_lt m _ _ _ hm
  obtain ⟨a0, len0, cap0, z0, rfl, hi0, hl0, hb0, hw0⟩ := ints_open (hval 0 38 v0 rfl rfl) h0
  obtain ⟨a1, rfl, rfl, rfl, w1⟩ := open_int Try.underlying3 (hval 1 3 v1 rfl rfl) h1
  clear hA0 hval0
  simp only [List.append_nil] at hW'
  refine (walk a0 len0 cap0 z0 hi0 hl0 hb0 hw0 a1 w1 W).mono fun e W' ⟨he, hg⟩ => ?_
  subst he
  exact ⟨_, rfl, _, _, _, [], _, [], hW', trodAll_mk1 (shut_bool Try.underlying4 _), (trodAll_cons_mk (Below.trod laidOut (by kernel_rfl) (of_decide_eq_true (by kernel_rfl)) k0 hg lt0) (trodAll_cons_mk (shut_int Try.underlying3 w1) trodAll_mk0)), rfl, hg.frame _, fun h => by cases h⟩

theorem over : Rows.fieldEvalSpecRow.holds Try.pinned (OpenSpec.ofChange Rows.fieldEvalSpecSpec) :=
  OpenClaim.holds_of_wide 10 Try.f10 rfl rfl rfl rfl rfl rfl rfl ⟨rfl, rfl, rfl, rfl, rfl⟩ rfl rfl rfl rfl rfl (by kernel_rfl) Try.func10 (by kernel_rfl)
    (of_decide_eq_true (by kernel_rfl)) (by unfold Func.isWrapper; first | (rw [if_pos (by decide +kernel)]; kernel_rfl) | (rw [if_neg (by decide +kernel)]; exact ⟨rfl, rfl⟩))
    (fun os started H enc _ => lifted os started H enc)

end Go.Proofs.Ytajcpbchpcnmaaa.fieldEvalSpec
namespace Go.Proofs.Ytajcpbchpcnmaaa
theorem fieldEvalSpec_holds : Rows.FieldEvalSpecSaid := fieldEvalSpec.over
#print axioms fieldEvalSpec_holds
end Go.Proofs.Ytajcpbchpcnmaaa
