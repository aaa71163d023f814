/- The laws of package pake: side. The laws of package pake: the examples. A side that came in, opened; Point in one contract. Shared, Proof, Accept at valid sides and elements. What the laws of package pake on masks and codes want beside. What PakeCodes wants: power, and the keys of two codes. -/
import Derived.Test.YtpekhdahamloaaaGreatDoorPk39
import Derived.Test.YtpekhdahamloaaaGreatDoorPk33
import Derived.Test.YtpekhdahamloaaaGreatDoorPk30
import Derived.Lib.SmallJoins
import Derived.Test.YtpekhdahamloaaaGreatDoorPk23
set_option linter.unusedVariables false
set_option linter.unusedSimpArgs false
/-! The laws of package pake: side. -/
namespace Go.Proofs.YtpekhdahamloaaaGreatDoor
open Go.RowKit
def codeN (z : Int) : Nat := (z % 18446744073709551616).toNat % 1000000
def secN (z : Int) : Nat := 1 + (z % 18446744073709551616).toNat % 2305843009213688668
theorem codeN_lt (z : Int) : codeN z < 1000000 := Nat.mod_lt _ (by decide)
theorem secN_bd (z : Int) : 1 ≤ secN z ∧ secN z < 2305843009213688669 := by unfold secN; omega
/-- both sides of an exchange come to one element -/
theorem bare_elem {c x y r : Nat} (hr : r = 1 ∨ r = 2) : elemS r c x (pointS (3 - r) c y) = powP 4 (y * x) := by
  have e1 : El (powP 4 y) := powP_pos El4 y
  have hM : El (maskedM ((3 - r : Nat) : Int) c) := maskedM_El _ c
  have h : mulP (pointS (3 - r) c y) (powP (maskedM ((3 - r : Nat) : Int) c) 2305843009213688668) = powP 4 y := by
    unfold pointS
    rw [mulP_assoc, El.inv hM, mulP_one e1.2.1]
  have e : elemS r c x (pointS (3 - r) c y) = powP (mulP (pointS (3 - r) c y) (powP (maskedM ((3 - r : Nat) : Int) c) 2305843009213688668)) x := rfl
  rw [e, h, powP_powP]
theorem pake_agree (c x y : Nat) : keyS 1 c x (pointS 2 c y) = keyS 2 c y (pointS 1 c x) := by
  have h1 : elemS 1 c x (pointS 2 c y) = powP 4 (y * x) := bare_elem (r := 1) (.inl rfl)
  have h2 : elemS 2 c y (pointS 1 c x) = powP 4 (x * y) := bare_elem (r := 2) (.inr rfl)
  rw [key_1, key_2, h1, h2, Nat.mul_comm]
theorem sharedL_yes {r c x p : Nat} (hr : r = 1 ∨ r = 2) (hc : c < 1000000) (h1 : 1 ≤ x) (h2 : x < 2305843009213688669) (hp : El p) : sharedL (r : Int) (c : Int) (x : Int) (p : Int) = keyS r c x p := by
  unfold sharedL; rw [sideB_of hr hc h1 h2, elemB_El hp]; rfl
theorem sharedE_yes {r c x p : Nat} (hr : r = 1 ∨ r = 2) (hc : c < 1000000) (h1 : 1 ≤ x) (h2 : x < 2305843009213688669) (hp : El p) : sharedE (r : Int) (c : Int) (x : Int) (p : Int) = 0 := by
  unfold sharedE; rw [sideB_of hr hc h1 h2, elemB_El hp]; rfl
end Go.Proofs.YtpekhdahamloaaaGreatDoor

/-! The laws of package pake: the examples. -/
namespace Go.Proofs.YtpekhdahamloaaaGreatDoor
open Go.RowKit
end Go.Proofs.YtpekhdahamloaaaGreatDoor

/-! A side that came in, opened; Point in one contract. -/
namespace Go.Proofs.YtpekhdahamloaaaGreatDoor
open Go.ChangeShapes Go.WideShapes Go.ChangeAt Go.RowKit
/-- what Point answers -/
def pointV (r c x : Int) : Int := if sideB r c x then ((pointS r.toNat c.toNat x.toNat : Nat) : Int) else 0
theorem point_any10 (r c x : Int) (w : World) (hT : Tab w) :
    Calls Tryz.prog 33 #[.agg #[.int .i64 r, .int .i64 c, .int .i64 x]] w fun e w' => e = .returned (.tuple #[.int .i64 (pointV r c x), .int .i64 (chkS r c x)]) ∧ Below w.heap.size w w' := by
  unfold pointV chkS
  cases h : sideB r c x with
  | false => exact point_no r c x h w
  | true =>
    obtain ⟨R, C, X, rfl, rfl, rfl, hr, hc, hx1, hx2⟩ := sideB_nat h
    exact point_yes R C X hr hc hx1 hx2 w hT
end Go.Proofs.YtpekhdahamloaaaGreatDoor

/-! Shared, Proof, Accept at valid sides and elements. -/
namespace Go.Proofs.YtpekhdahamloaaaGreatDoor
open Go.RowKit
section
variable {r c x p : Nat} (hr : r = 1 ∨ r = 2) (hc : c < 1000000) (h1 : 1 ≤ x) (h2 : x < 2305843009213688669) (hp : El p)
include hr hc h1 h2 hp
end
end Go.Proofs.YtpekhdahamloaaaGreatDoor

/-! What the laws of package pake on masks and codes want beside. -/
namespace Go.Proofs.YtpekhdahamloaaaGreatDoor
open Go.RowKit
theorem lit_zero : Value.agg #[.int .u8 0, .int .u8 0, .int .u8 0, .int .u8 0, .int .u8 0, .int .u8 0, .int .u8 0, .int .u8 0, .int .u8 0, .int .u8 0, .int .u8 0, .int .u8 0, .int .u8 0, .int .u8 0, .int .u8 0, .int .u8 0, .int .u8 0, .int .u8 0, .int .u8 0, .int .u8 0, .int .u8 0, .int .u8 0, .int .u8 0, .int .u8 0, .int .u8 0, .int .u8 0, .int .u8 0, .int .u8 0, .int .u8 0, .int .u8 0, .int .u8 0, .int .u8 0] = digV zero32 := by rw [← zero_dig]; rfl
end Go.Proofs.YtpekhdahamloaaaGreatDoor

/-! What PakeCodes wants: power, and the keys of two codes. -/
namespace Go.Proofs.YtpekhdahamloaaaGreatDoor
open Go.RowKit
end Go.Proofs.YtpekhdahamloaaaGreatDoor
