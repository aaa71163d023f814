/- FieldPolynomials returns true for every input. No condition. -/
import Derived.Test.YtajcpbchpcnmaaaPolyW
import Derived.Test.YtajcpbchpcnmaaaRowInts
import Derived.Test.YtajcpbchpcnmaaaRow
namespace Go.Proofs.Ytajcpbchpcnmaaa.fieldPolynomials
open Go.ChangeShapes Go.WideShapes Go.ChangeAt Go.RowKit
set_option linter.unusedVariables false
set_option linter.unusedSimpArgs false

set_option maxRecDepth 100000 in
set_option maxHeartbeats 2000000 in
theorem walkBig (sa : Option Addr) (sl sc : Nat) (ta : Option Addr) (tl tc : Nat) (w : World) (h : 40 < sl ∨ 40 < tl) (at0 root : Int) :
    Calls Try.prog 14 #[.slice sa sl sc, .slice ta tl tc, .int .i64 at0, .int .i64 root] w fun e w' => e = .returned (.bool true) ∧ Below w.heap.size w w' := by
  by_cases h1 : 40 < sl
  · have g1 : decide ((40 : Int) < (sl : Int)) = true := by rw [decide_eq_true_iff]; omega
    have g2 : decide (40 < sl) = true := by rw [decide_eq_true_iff]; exact h1
    clear h h1
    go_enter Try.func14, Try.ntmps14
    go_wp2_with fail
    refine (sane3_any _).mono ?_
    rintro e v1 ⟨rfl, b1⟩
    go_wp2_with fail
    go_ret
    exact ⟨rfl, b1⟩
  · have h2 : 40 < tl := by omega
    have g1 : decide ((40 : Int) < (sl : Int)) = false := by rw [decide_eq_false_iff_not]; omega
    have g2 : decide (40 < sl) = false := by rw [decide_eq_false_iff_not]; exact h1
    have g3 : decide ((40 : Int) < (tl : Int)) = true := by rw [decide_eq_true_iff]; omega
    have g4 : decide (40 < tl) = true := by rw [decide_eq_true_iff]; exact h2
    clear h h1 h2
    go_enter Try.func14, Try.ntmps14
    go_wp2_with fail
    refine (sane3_any _).mono ?_
    rintro e v1 ⟨rfl, b1⟩
    go_wp2_with fail
    go_ret
    exact ⟨rfl, b1⟩
theorem walk (a0 : Option Addr) (len0 cap0 : Nat) (z0 : List Int) {w : World} (hi0 : IntsAt w (.slice a0 len0 cap0) z0) (hl0 : z0.length = len0) (hb0 : (len0 : Int) ≤ 9223372036854775807) (hw0 : ∀ z ∈ z0, (Lit.int .i64 z).wf = true)
    (a1 : Option Addr) (len1 cap1 : Nat) (z1 : List Int) (hi1 : IntsAt w (.slice a1 len1 cap1) z1) (hl1 : z1.length = len1) (hb1 : (len1 : Int) ≤ 9223372036854775807) (hw1 : ∀ z ∈ z1, (Lit.int .i64 z).wf = true)
    (a2 : Int) (w2 : (Lit.int .i64 a2).wf = true) (a3 : Int) (w3 : (Lit.int .i64 a3).wf = true) (w' : World) (hww : w' = w := by rfl) :
    Calls Try.prog 14 #[.slice a0 len0 cap0, .slice a1 len1 cap1, .int .i64 a2, .int .i64 a3] w' fun e w2 => e = .returned (.bool true) ∧ Below w'.heap.size w' w2 := by
  subst hww
  by_cases h : 40 < len0 ∨ 40 < len1
  · exact walkBig a0 len0 cap0 a1 len1 cap1 w' h a2 a3
  · exact walk0 a0 len0 cap0 a1 len1 cap1 z0 z1 w' hi0 hi1 hl0 hl1 (by omega) (by omega) a2 a3

set_option maxRecDepth 100000 in
theorem lifted (os : Os) (started : os.Started) (H : Type) (enc : TypeId × Value → H) :
    ReturnsInHanded {} Try.checked os 14 .any (Rows.fieldPolynomialsSpec.pre6 enc Try.prog Try.f14 Rows.fieldPolynomialsRow.domain false) (Rows.fieldPolynomialsSpec.post enc Try.prog Try.f14 false true false false) := by
  refine returnsInHanded_of_change (C := Try.checked) own started (by kernel_rfl) Try.func14
    (ChangeSpec.witness6 (enc := enc) (C := Try.checked) false ⟨#[], #[.slice none 0 0, .slice none 0 0, .int .i64 0, .int .i64 0], []⟩ 8 (by kernel_rfl) (by kernel_rfl) (by kernel_rfl) (by kernel_rfl)) ?_
  intro W base args ds gs before hval0 hW hcnd hsz
  have hval : ∀ (j : Nat) t v, Try.f14.params[j]? = some t → args[j]? = some v → Value.okWide Try.prog W .any base t v := hval0
  have hW' := hW
  obtain ⟨p, q, hA0, hV, rfl, hfz, hnd⟩ := hW
  have hA : DataW.TrodAll enc Try.prog W 0 (fun _ => true) true Try.f14.params.toList args.toList ds p := hA0
  rw [Try.params14] at hA hval
  obtain ⟨v0, vs0, d0, ds0, p0, q0, hargs, rfl, rfl, h0, r0⟩ := trodAll_cons hA
  obtain ⟨v1, vs1, d1, ds1, p1, q1, rfl, rfl, rfl, h1, r1⟩ := trodAll_cons r0
  obtain ⟨v2, vs2, d2, ds2, p2, q2, rfl, rfl, rfl, h2, r2⟩ := trodAll_cons r1
  obtain ⟨v3, vs3, d3, ds3, p3, q3, rfl, rfl, rfl, h3, r3⟩ := trodAll_cons r2
  obtain ⟨rfl, rfl, rfl⟩ := trodAll_nil r3
  obtain rfl : args = #[v0, v1, v2, v3] := by cases args; simp_all
  obtain ⟨rfl, rfl⟩ := trodVars_none hV
  have k0 := h0
  have lt0 : ∀ x ∈ p0, x.block < W.heap.size := by obtain ⟨m, hm⟩ := k0; exact DataW.trod_lt m _ _ _ hm
  obtain ⟨a0, len0, cap0, z0, rfl, hi0, hl0, hb0, hw0⟩ := ints_open (hval 0 38 v0 rfl rfl) h0
  have k1 := h1
  have lt1 : ∀ x ∈ p1, x.block < W.heap.size := by obtain ⟨m, hm⟩ := k1; exact DataW.trod_lt m _ _ _ hm
  obtain ⟨a1, len1, cap1, z1, rfl, hi1, hl1, hb1, hw1⟩ := ints_open (hval 1 38 v1 rfl rfl) h1
  obtain ⟨a2, rfl, rfl, rfl, w2⟩ := open_int Try.underlying3 (hval 2 3 v2 rfl rfl) h2
  obtain ⟨a3, rfl, rfl, rfl, w3⟩ := open_int Try.underlying3 (hval 3 3 v3 rfl rfl) h3
  clear hA0 hval0
  simp only [List.append_nil] at hW'
  refine (walk a0 len0 cap0 z0 hi0 hl0 hb0 hw0 a1 len1 cap1 z1 hi1 hl1 hb1 hw1 a2 w2 a3 w3 W).mono fun e W' ⟨he, hg⟩ => ?_
  subst he
  exact ⟨_, rfl, _, _, _, [], _, [], hW', trodAll_mk1 (shut_bool Try.underlying4 _), (trodAll_cons_mk (Below.trod laidOut (by kernel_rfl) (of_decide_eq_true (by kernel_rfl)) k0 hg lt0) (trodAll_cons_mk (Below.trod laidOut (by kernel_rfl) (of_decide_eq_true (by kernel_rfl)) k1 hg lt1) (trodAll_cons_mk (shut_int Try.underlying3 w2) (trodAll_cons_mk (shut_int Try.underlying3 w3) trodAll_mk0)))), rfl, hg.frame _, fun h => by cases h⟩

theorem over : Rows.fieldPolynomialsRow.holds Try.pinned (OpenSpec.ofChange Rows.fieldPolynomialsSpec) :=
  OpenClaim.holds_of_wide 14 Try.f14 rfl rfl rfl rfl rfl rfl rfl ⟨rfl, rfl, rfl, rfl, rfl⟩ rfl rfl rfl rfl rfl (by kernel_rfl) Try.func14 (by kernel_rfl)
    (of_decide_eq_true (by kernel_rfl)) (by unfold Func.isWrapper; first | (rw [if_pos (by decide +kernel)]; kernel_rfl) | (rw [if_neg (by decide +kernel)]; exact ⟨rfl, rfl⟩))
    (fun os started H enc _ => lifted os started H enc)

end Go.Proofs.Ytajcpbchpcnmaaa.fieldPolynomials
namespace Go.Proofs.Ytajcpbchpcnmaaa
theorem fieldPolynomials_holds : Rows.FieldPolynomialsSaid := fieldPolynomials.over
#print axioms fieldPolynomials_holds
end Go.Proofs.Ytajcpbchpcnmaaa
