/- Package pake: what its functions compute. -/
import Derived.Test.YtdcpejfnhegdaaaDoorMask
import Derived.Test.YtdcpejfnhegdaaaDoorFloat2
import Derived.Test.YtdcpejfnhegdaaaDoorGrpMore
set_option linter.unusedVariables false
set_option linter.unusedSimpArgs false
namespace Go.Proofs.YtdcpejfnhegdaaaDoor
open Go.RowKit

def sideB (r c x : Int) : Bool := decide (1 ≤ r ∧ r ≤ 2 ∧ 0 ≤ c ∧ c < 1000000 ∧ 1 ≤ x ∧ x < 2305843009213688669)
def chkS (r c x : Int) : Int := if sideB r c x then 0 else 100
theorem sideB_nat {r c x : Int} (h : sideB r c x = true) : ∃ R C X : Nat, r = (R : Int) ∧ c = (C : Int) ∧ x = (X : Int) ∧ (R = 1 ∨ R = 2) ∧ C < 1000000 ∧ 1 ≤ X ∧ X < 2305843009213688669 := by
  unfold sideB at h
  simp only [decide_eq_true_eq] at h
  exact ⟨r.toNat, c.toNat, x.toNat, by omega, by omega, by omega, by omega, by omega, by omega, by omega⟩
theorem sideB_of {R C X : Nat} (hr : R = 1 ∨ R = 2) (hc : C < 1000000) (h1 : 1 ≤ X) (h2 : X < 2305843009213688669) : sideB (R : Int) (C : Int) (X : Int) = true := by
  unfold sideB; exact decide_eq_true ⟨by omega, by omega, by omega, by omega, by omega, by omega⟩
/-- the point of a side, the element that is shared, the key -/
def pointS (r c x : Nat) : Nat := mulP (powP 4 x) (maskedM r c)
def elemS (r c x p : Nat) : Nat := powP (mulP p (powP (maskedM (3 - r : Nat) c) 2305843009213688668)) x
def hostS (r c x p : Nat) : Nat := if r = 2 then p else pointS r c x
def guestS (r c x p : Nat) : Nat := if r = 2 then pointS r c x else p
def keyL (h g z : Nat) : List UInt8 := Sha.tagged sPake.data.toList (Sha.be8 h ++ Sha.be8 g ++ Sha.be8 z)
def keyS (r c x p : Nat) : List UInt8 := keyL (hostS r c x p) (guestS r c x p) (elemS r c x p)
def roleByte (r : Int) : UInt8 := UInt8.ofNat (r % 256).toNat
theorem vB_role (r : Int) : Value.int .u8 (IntKind.u8.wrap r) = vB (roleByte r) := by
  unfold vB roleByte
  congr 1
  rw [IntKind.wrap_u8]
  simp
  omega
def proofL (k : List UInt8) (r : Int) : List UInt8 := Sha.tagged sProof.data.toList (k ++ [roleByte r])
theorem pointS_El (r c x : Nat) : El (pointS r c x) := El.mul (powP_pos El4 x) (maskedM_El r c)
theorem elemS_El {p : Nat} (h : El p) (r c x : Nat) : El (elemS r c x p) := powP_pos (El.mul h (powP_pos (maskedM_El _ _) _)) _
theorem El.lt63 {a : Nat} (h : El a) : a < 9223372036854775808 := by have := h.2.1; omega
theorem keyL_len (h g z : Nat) : (keyL h g z).length = 32 := tagged_len _ _
theorem proofL_len (k : List UInt8) (r : Int) : (proofL k r).length = 32 := tagged_len _ _
theorem be8_3 (h g z : Nat) : (Sha.be8 h ++ Sha.be8 g ++ Sha.be8 z).length = 24 := by simp [be8_len]
/-- thirty-two zeros -/
def zero32 : List UInt8 := List.replicate 32 0
theorem zero32_len : zero32.length = 32 := rfl
set_option maxRecDepth 100000 in
set_option maxHeartbeats 2000000 in
theorem rcheckS_any (r c x : Int) (w : World) :
    Calls Tryd.prog 23 #[.agg #[.int .i64 r, .int .i64 c, .int .i64 x]] w fun e w' => e = .returned (.int .i64 (chkS r c x)) ∧ Below w.heap.size w w' := by
  have A0 := Lib.hid ((Below.refl _ w).alloc (Nat.le_refl _) (.cells #[.int .i64 r, .int .i64 c, .int .i64 x] 33))
  have key : chkS r c x = if decide (r < 1) || decide (2 < r) || decide (c < 0) || decide (999999 < c) || decide (x < 1) || decide (2305843009213688669 ≤ x) then 100 else 0 := by
    unfold chkS sideB
    by_cases h : (1 ≤ r ∧ r ≤ 2 ∧ 0 ≤ c ∧ c < 1000000 ∧ 1 ≤ x ∧ x < 2305843009213688669)
    · rw [if_pos (by simpa using h), if_neg (by simp; omega)]
    · rw [if_neg (by simpa using h), if_pos (by simp; omega)]
  obtain ⟨v, hv⟩ : ∃ v, chkS r c x = v := ⟨_, rfl⟩
  rw [hv] at key ⊢
  clear hv
  cases t0 : decide (r < 1) with
  | true =>
    obtain rfl : v = 100 := by rw [key]; simp only [t0]; rfl
    clear key
    go_enter Tryd.func23, Tryd.ntmps23
    go_wp2_with fail
    go_ret
    exact ⟨rfl, A0.out⟩
  | false =>
    cases t1 : decide (2 < r) with
    | true =>
      obtain rfl : v = 100 := by rw [key]; simp only [t0, t1]; rfl
      clear key
      go_enter Tryd.func23, Tryd.ntmps23
      go_wp2_with fail
      go_ret
      exact ⟨rfl, A0.out⟩
    | false =>
      cases t2 : decide (c < 0) with
      | true =>
        obtain rfl : v = 100 := by rw [key]; simp only [t0, t1, t2]; rfl
        clear key
        go_enter Tryd.func23, Tryd.ntmps23
        go_wp2_with fail
        go_ret
        exact ⟨rfl, A0.out⟩
      | false =>
        cases t3 : decide (999999 < c) with
        | true =>
          obtain rfl : v = 100 := by rw [key]; simp only [t0, t1, t2, t3]; rfl
          clear key
          go_enter Tryd.func23, Tryd.ntmps23
          go_wp2_with fail
          go_ret
          exact ⟨rfl, A0.out⟩
        | false =>
          cases t4 : decide (x < 1) with
          | true =>
            obtain rfl : v = 100 := by rw [key]; simp only [t0, t1, t2, t3, t4]; rfl
            clear key
            go_enter Tryd.func23, Tryd.ntmps23
            go_wp2_with fail
            go_ret
            exact ⟨rfl, A0.out⟩
          | false =>
            cases t5 : decide ((2305843009213688669 : Int) ≤ x) with
            | true =>
              obtain rfl : v = 100 := by rw [key]; simp only [t0, t1, t2, t3, t4, t5]; rfl
              clear key
              go_enter Tryd.func23, Tryd.ntmps23
              go_wp2_with fail
              go_ret
              exact ⟨rfl, A0.out⟩
            | false =>
              obtain rfl : v = 0 := by rw [key]; simp only [t0, t1, t2, t3, t4, t5]; rfl
              clear key
              go_enter Tryd.func23, Tryd.ntmps23
              go_wp2_with fail
              go_ret
              exact ⟨rfl, A0.out⟩
end Go.Proofs.YtdcpejfnhegdaaaDoor
