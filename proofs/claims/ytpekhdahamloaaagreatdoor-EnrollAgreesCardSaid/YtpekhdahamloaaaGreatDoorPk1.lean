/- Words of 32 bits and bytes in the walk: each behind a name, with the rules by which the walk reckons. -/
import Derived.Test.YtpekhdahamloaaaGreatDoorRows
import Derived.WalkKit
import Derived.WalkSpells
import Derived.WalkLawsBesides
import Derived.Lib.Hide
import Derived.Laws.Bits64b
import Derived.Test.YtpekhdahamloaaaGreatDoorPk0
set_option linter.unusedVariables false
set_option linter.unusedSimpArgs false
namespace Go.Proofs.YtpekhdahamloaaaGreatDoor
open Go.RowKit

/-- a word, as the walk holds it -/
def U (x : BitVec 32) : Int := (x.toNat : Int)
/-- a byte -/
def B8 (x : UInt8) : Int := (x.toNat : Int)

theorem ofInt_U (x : BitVec 32) : BitVec.ofInt 32 (U x) = x := by
  unfold U; rw [BitVec.ofInt_natCast]; simp
theorem wrap_U (n : Nat) : IntKind.u32.wrap (n : Int) = U (BitVec.ofNat 32 n) := by
  unfold U; rw [IntKind.wrap_u32, BitVec.toNat_ofNat]; omega
theorem U_wrap (x : BitVec 32) : IntKind.u32.wrap (x.toNat : Int) = U x := by rw [wrap_U]; simp
theorem U_lt (x : BitVec 32) : 0 ≤ U x ∧ U x < 4294967296 := by unfold U; have := x.isLt; omega
theorem U_xor (x y : BitVec 32) : bits .xor .u32 (U x) (U y) = U (x ^^^ y) := by
  show IntKind.u32.wrap ((BitVec.ofInt 32 (U x) ^^^ BitVec.ofInt 32 (U y)).toNat : Int) = _
  rw [ofInt_U, ofInt_U, U_wrap]
theorem U_and (x y : BitVec 32) : bits .and .u32 (U x) (U y) = U (x &&& y) := by
  show IntKind.u32.wrap ((BitVec.ofInt 32 (U x) &&& BitVec.ofInt 32 (U y)).toNat : Int) = _
  rw [ofInt_U, ofInt_U, U_wrap]
theorem U_or (x y : BitVec 32) : bits .or .u32 (U x) (U y) = U (x ||| y) := by
  show IntKind.u32.wrap ((BitVec.ofInt 32 (U x) ||| BitVec.ofInt 32 (U y)).toNat : Int) = _
  rw [ofInt_U, ofInt_U, U_wrap]
theorem U_add (x y : BitVec 32) : IntKind.u32.wrap (U x + U y) = U (x + y) := by
  unfold U; rw [IntKind.wrap_u32, BitVec.toNat_add]; omega
theorem cast_pow2 (n k : Nat) : (n : Int) * 2 ^ k = ((n * 2 ^ k : Nat) : Int) := by rw [Int.natCast_mul, Int.natCast_pow]; rfl
theorem U_shl (x : BitVec 32) (k : Nat) : IntKind.u32.wrap (U x * 2 ^ k) = U (x <<< k) := by
  unfold U
  rw [IntKind.wrap_u32, BitVec.toNat_shiftLeft, Nat.shiftLeft_eq, cast_pow2]
  exact (Int.natCast_emod _ _).symm
theorem U_shr (x : BitVec 32) (k : Nat) : U x / 2 ^ k = U (x >>> k) := by
  unfold U
  rw [BitVec.toNat_ushiftRight, Nat.shiftRight_eq_div_pow, Int.natCast_ediv, Int.natCast_pow]
  rfl
theorem U_not (x : BitVec 32) : bits .xor .u32 (if IntKind.u32.signed = true then -1 else IntKind.u32.max) (U x) = U (~~~x) := by
  have h := U_xor (BitVec.allOnes 32) x
  rw [BitVec.allOnes_xor] at h
  exact h
end Go.Proofs.YtpekhdahamloaaaGreatDoor
