/- The contracts of package group at elements, by numbers; chartroomlaw04.element. -/
import Derived.Test.YtdcpejfnhegdaaaDoorSane4
import Derived.Test.YtdcpejfnhegdaaaDoorGrpLaw
set_option linter.unusedVariables false
set_option linter.unusedSimpArgs false
namespace Go.Proofs.YtdcpejfnhegdaaaDoor
open Go.RowKit Go.Shelf

theorem elemB_El {n : Nat} (h : El n) : elemB (n : Int) = true := elemB_of h.1 h.2.1 h.2.2
theorem elemB_notEl {n : Nat} (h : ¬ El n) : elemB (n : Int) = false := by
  cases hb : elemB (n : Int) with
  | false => rfl
  | true =>
    obtain ⟨m, hm, h1, h2, h3⟩ := elemB_nat hb
    have : m = n := by omega
    subst this
    exact absurd ⟨h1, h2, h3⟩ h

theorem gmul_el {a b : Nat} (ha : El a) (hb : El b) {c : Nat} (hc : mulP a b = c) (w : World) :
    Calls Tryd.prog 36 #[.int .i64 a, .int .i64 b] w fun e w' => e = .returned (.tuple #[.int .i64 (c : Int), .int .i64 0]) ∧ Below w.heap.size w w' := by
  subst hc; exact gmul_yes a b ha.1 ha.2.1 ha.2.2 hb.1 hb.2.1 hb.2.2 w
theorem gexp_el {a k : Nat} (ha : El a) (hk : k < 2305843009213688669) {c : Nat} (hc : powP a k = c) (w : World) :
    Calls Tryd.prog 32 #[.int .i64 a, .int .i64 k] w fun e w' => e = .returned (.tuple #[.int .i64 (c : Int), .int .i64 0]) ∧ Below w.heap.size w w' := by
  subst hc; exact gexp_yes a k ha.1 ha.2.1 ha.2.2 hk w
theorem ginv_el {a : Nat} (ha : El a) {c : Nat} (hc : powP a 2305843009213688668 = c) (w : World) :
    Calls Tryd.prog 35 #[.int .i64 a] w fun e w' => e = .returned (.tuple #[.int .i64 (c : Int), .int .i64 0]) ∧ Below w.heap.size w w' := by
  have h := ginv_any a w
  have e1 : gexpV a 2305843009213688668 = (c : Int) := by
    unfold gexpV
    rw [elemB_El ha, show scalB 2305843009213688668 = true from by decide]
    show ((powP a 2305843009213688668 : Nat) : Int) = _
    rw [hc]
  have e2 : gexpE a 2305843009213688668 = 0 := by rw [gexpE_inv, chk_yes (elemB_El ha)]
  rwa [e1, e2] at h
theorem check_El {a : Nat} (ha : El a) (w : World) :
    Calls Tryd.prog 17 #[.int .i64 a] w fun e w' => e = .returned (.int .i64 0) ∧ Below w.heap.size w w' := check_yes a ha.1 ha.2.1 ha.2.2 w
theorem check_notEl {a : Nat} (ha : ¬ El a) (w : World) :
    Calls Tryd.prog 17 #[.int .i64 a] w fun e w' => e = .returned (.int .i64 40) ∧ Below w.heap.size w w' := check_no a (elemB_notEl ha) w

theorem sqP_El {n : Nat} (h : sqP n ≠ 0) : El (sqP n) := by
  have hx : 0 < n % 4611686018427377339 := by
    rcases Nat.eq_zero_or_pos (n % 4611686018427377339) with h0 | h0
    · exfalso; apply h; unfold sqP; rw [h0]; rfl
    · exact h0
  exact El.square hx (Nat.mod_lt _ (by decide))


end Go.Proofs.YtdcpejfnhegdaaaDoor
