/- The reference of package sign: Sign, Verify. The reference of package sign: Verify. The laws of package sign: what is signed is accepted; the contracts that the laws call. -/
import Derived.Test.YtbjbgneejdjniaaDoorPk33
import Derived.Laws.StructEq
set_option linter.unusedVariables false
set_option linter.unusedSimpArgs false
namespace Go.Proofs.YtbjbgneejdjniaaDoor
open Go.RowKit

theorem nums_msg (x : Int) (m : List UInt8) : scalarM sNonce.data.toList (num8 x ++ m) = nonceM x m := by unfold nonceM hashM; rw [nums8_one]

end Go.Proofs.YtbjbgneejdjniaaDoor

namespace Go.Proofs.YtbjbgneejdjniaaDoor
open Go.RowKit
theorem chk_t {a : Int} (h : elemB a = true) : chk a = 0 := by unfold chk; rw [h]; rfl
theorem chk_f {a : Int} (h : elemB a = false) : chk a = 40 := by unfold chk; rw [h]; rfl
end Go.Proofs.YtbjbgneejdjniaaDoor

namespace Go.Proofs.YtbjbgneejdjniaaDoor
open Go.RowKit

theorem el_lt {a : Nat} (h : El a) : a < 4611686018427377339 := h.2.1
theorem pow4_El (k : Nat) : El (powP 4 k) := powP_pos El4 k
theorem pow4_add (a b : Nat) : powP 4 (addQ a b) = mulP (powP 4 a) (powP 4 b) := by
  unfold addQ; rw [El.pow_mod El4, powP_add]
theorem pow_mulQ {a : Nat} (ha : El a) (j k : Nat) : powP a (mulQ j k) = powP (powP a k) j := by
  unfold mulQ; rw [El.pow_mod ha, powP_powP, Nat.mul_comm]
theorem sig_eq (x : Nat) (m : List UInt8) : powP 4 (sigS x m) = mulP (sigR x m) (powP (pubM x) (chal (pubM x) (sigR x m) m)) := by
  unfold sigS
  rw [pow4_add, pow_mulQ El4]
  rfl
theorem ver_sign (x : Nat) (m : List UInt8) : verB (pubM x) m (sigR x m) (sigS x m) = true := by
  have e1 : El (pubM x) := pow4_El x
  have e2 : El (sigR x m) := pow4_El _
  have sb : sigS x m < 2305843009213688669 := addQ_lt _ _
  unfold verB
  rw [elemB_El e1, elemB_El e2, scalB_of sb, gexp4 sb, gexpV_el e1 (chal_bd _ _ _).2, gmulV_el e2 (powP_pos e1 _), sig_eq]
  simp

/-- the power of 4 tells scalars apart -/
theorem pow4_ne_one : powP 4 1 ≠ 1 := by decide
theorem pow_gcd_one {d q : Nat} (h1 : powP 4 d = 1) (h2 : powP 4 q = 1) (g : Nat.gcd d q = 1) : False := by
  have f1 : 4 ^ d % 4611686018427377339 = 1 % 4611686018427377339 := h1
  have f2 : 4 ^ q % 4611686018427377339 = 1 % 4611686018427377339 := h2
  have f3 := Num.pow_gcd d q f1 f2
  rw [g] at f3
  exact absurd f3 (by decide)
theorem pow4_lt {a b : Nat} (hab : a < b) (hb : b < 2305843009213688669) : powP 4 a ≠ powP 4 b := by
  intro h
  obtain ⟨d, rfl⟩ : ∃ d, b = a + d := ⟨b - a, by omega⟩
  rw [← powP_add] at h
  have e1 := pow4_El a
  have e2 := pow4_El d
  have h1 : powP 4 d = 1 := by
    have h2 : mulP (powP (powP 4 a) 2305843009213688668) (powP 4 a) = mulP (powP (powP 4 a) 2305843009213688668) (mulP (powP 4 a) (powP 4 d)) := by rw [← h]
    rw [← mulP_assoc, mulP_comm (powP (powP 4 a) 2305843009213688668), El.inv e1, mulP_comm 1, mulP_one e2.2.1] at h2
    exact h2.symm
  have g : Nat.gcd d 2305843009213688669 = 1 := by
    rw [Nat.gcd_comm]
    exact Num.coprime_of_not_dvd Num.prQ (Num.not_dvd_small (by omega) (by omega))
  exact pow_gcd_one h1 El4.2.2 g
theorem pow4_inj {a b : Nat} (ha : a < 2305843009213688669) (hb : b < 2305843009213688669) (h : powP 4 a = powP 4 b) : a = b := by
  rcases Nat.lt_trichotomy a b with h1 | h1 | h1
  · exact absurd h (pow4_lt h1 hb)
  · exact h1
  · exact absurd h.symm (pow4_lt h1 ha)
theorem ver_only (x : Nat) (m : List UInt8) (n : Int) : verB (pubM x) m (sigR x m) n = decide (n = (sigS x m : Int)) := by
  have e1 : El (pubM x) := pow4_El x
  have e2 : El (sigR x m) := pow4_El _
  have sb : sigS x m < 2305843009213688669 := addQ_lt _ _
  unfold verB
  rw [elemB_El e1, elemB_El e2, gexpV_el e1 (chal_bd _ _ _).2, gmulV_el e2 (powP_pos e1 _), ← sig_eq]
  cases h : scalB n with
  | false =>
    have := scalB_no h
    simp
    omega
  | true =>
    obtain ⟨k, rfl, hk⟩ := scalB_nat h
    rw [gexp4 hk, Bool.true_and, Bool.true_and, Bool.true_and, decide_eq_decide]
    constructor
    · intro h2
      have h3 : powP 4 k = powP 4 (sigS x m) := by omega
      rw [pow4_inj hk sb h3]
    · intro h2
      obtain rfl : k = sigS x m := by omega
      rfl

/-- what Sign answers -/
def sgR (x : Int) (m : List UInt8) : Int := if privB x then ((sigR x.toNat m : Nat) : Int) else 0
def sgS (x : Int) (m : List UInt8) : Int := if privB x then ((sigS x.toNat m : Nat) : Int) else 0
theorem sign_any (x : Int) (v : Value) (m : List UInt8) (w : World) (hm : m.length ≤ 1000) (hv : BytesAt w v m) (hT : Tab w) :
    Calls Tryd.prog 44 #[.int .i64 x, v] w fun e w' => e = .returned (.tuple #[.agg #[.int .i64 (sgR x m), .int .i64 (sgS x m)], .int .i64 (pubE x)]) ∧ Below w.heap.size w w' := by
  unfold sgR sgS pubE
  cases h : privB x with
  | false => exact sign_no x v w h (by obtain ⟨a, c, e⟩ := hv.slice; exact ⟨a, _, c, e⟩)
  | true =>
    obtain ⟨n, rfl, h1, h2⟩ := priv_nat h
    exact sign_yes n h1 h2 v m w hm hv hT
/-- at a private key -/
theorem priv_of {x : Nat} (h1 : 1 ≤ x) (h2 : x < 2305843009213688669) : privB (x : Int) = true := by unfold privB; simp only [Bool.and_eq_true, decide_eq_true_eq]; omega
theorem sign_key (x : Nat) (h1 : 1 ≤ x) (h2 : x < 2305843009213688669) (v : Value) (m : List UInt8) (w : World) (hm : m.length ≤ 1000) (hv : BytesAt w v m) (hT : Tab w) :
    Calls Tryd.prog 44 #[.int .i64 (x : Int), v] w fun e w' => e = .returned (.tuple #[.agg #[.int .i64 ((sigR x m : Nat) : Int), .int .i64 ((sigS x m : Nat) : Int)], .int .i64 0]) ∧ Below w.heap.size w w' := sign_yes x h1 h2 v m w hm hv hT
theorem public_key (x : Nat) (h1 : 1 ≤ x) (h2 : x < 2305843009213688669) (w : World) :
    Calls Tryd.prog 20 #[.int .i64 (x : Int)] w fun e w' => e = .returned (.tuple #[.int .i64 ((pubM x : Nat) : Int), .int .i64 0]) ∧ Below w.heap.size w w' := by
  have h := spublic_any (x : Int) w
  rwa [show pubV (x : Int) = ((pubM x : Nat) : Int) by unfold pubV pubM; rw [priv_of h1 h2, if_pos rfl, gexp4 h2], show pubE (x : Int) = 0 by unfold pubE; rw [priv_of h1 h2]; rfl] at h
theorem bytes_nil (w : World) : BytesAt w (.slice none 0 0) [] := .inl ⟨⟨none, 0, rfl, fun _ => rfl⟩, rfl⟩

theorem eql_sig (a b c d : Int) (W : World) : (binOp .eql 25 (.agg #[.int .i64 a, .int .i64 b]) (.agg #[.int .i64 c, .int .i64 d])).run Tryd.prog W = .ok (.bool (a == c && b == d)) W := by
  simp [go_sem]
  (repeat' split) <;> simp_all
theorem neq_sig (a b c d : Int) (W : World) : (binOp .neq 25 (.agg #[.int .i64 a, .int .i64 b]) (.agg #[.int .i64 c, .int .i64 d])).run Tryd.prog W = .ok (.bool !(a == c && b == d)) W := by
  simp [go_sem]
  (repeat' split) <;> simp_all

end Go.Proofs.YtbjbgneejdjniaaDoor
