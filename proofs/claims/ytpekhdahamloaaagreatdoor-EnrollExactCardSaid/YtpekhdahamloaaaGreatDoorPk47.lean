/- The laws of package pake: side. The laws of package pake: the examples. A side that came in, opened; Point in one contract. Shared, Proof, Accept at valid sides and elements. What the laws of package pake on masks and codes want beside. What PakeCodes wants: power, and the keys of two codes. -/
import Derived.Test.YtpekhdahamloaaaGreatDoorPk46
import Derived.Test.YtpekhdahamloaaaGreatDoorPk43
import Derived.Test.YtpekhdahamloaaaGreatDoorPk40
import Derived.Lib.SmallJoins
import Derived.Test.YtpekhdahamloaaaGreatDoorPk28
set_option linter.unusedVariables false
set_option linter.unusedSimpArgs false
/-! The laws of package pake: side. -/
namespace Go.Proofs.YtpekhdahamloaaaGreatDoor
open Go.RowKit
def roleN (z : Int) : Nat := 1 + (z % 2).toNat
def codeN (z : Int) : Nat := (z % 18446744073709551616).toNat % 1000000
def secN (z : Int) : Nat := 1 + (z % 18446744073709551616).toNat % 2305843009213688668
theorem roleN_or (z : Int) : roleN z = 1 ∨ roleN z = 2 := by unfold roleN; omega
theorem codeN_lt (z : Int) : codeN z < 1000000 := Nat.mod_lt _ (by decide)
theorem secN_bd (z : Int) : 1 ≤ secN z ∧ secN z < 2305843009213688669 := by unfold secN; omega
theorem i64_and1z (n : Int) : bits .and .i64 n 1 = n % 2 := by
  have h1 : (BitVec.ofInt 64 1).toNat = 2 ^ 1 - 1 := by decide
  have key : (BitVec.ofInt 64 n &&& BitVec.ofInt 64 1).toNat = (n % ((2 ^ 64 : Nat) : Int)).toNat % 2 ^ 1 := by
    rw [BitVec.toNat_and, BitVec.toNat_ofInt, h1, Nat.and_two_pow_sub_one_eq_mod]
  show IntKind.i64.wrap ((BitVec.ofInt 64 n &&& BitVec.ofInt 64 1).toNat : Nat) = n % 2
  rw [key, IntKind.wrap_i64]
  omega

/-- both sides of an exchange come to one element -/
theorem bare_elem {c x y r : Nat} (hr : r = 1 ∨ r = 2) : elemS r c x (pointS (3 - r) c y) = powP 4 (y * x) := by
  have e1 : El (powP 4 y) := powP_pos El4 y
  have hM : El (maskedM ((3 - r : Nat) : Int) c) := maskedM_El _ c
  have h : mulP (pointS (3 - r) c y) (powP (maskedM ((3 - r : Nat) : Int) c) 2305843009213688668) = powP 4 y := by
    unfold pointS
    rw [mulP_assoc, El.inv hM, mulP_one e1.2.1]
  have e : elemS r c x (pointS (3 - r) c y) = powP (mulP (pointS (3 - r) c y) (powP (maskedM ((3 - r : Nat) : Int) c) 2305843009213688668)) x := rfl
  rw [e, h, powP_powP]
theorem pake_agree (c x y : Nat) : keyS 1 c x (pointS 2 c y) = keyS 2 c y (pointS 1 c x) := by
  have h1 : elemS 1 c x (pointS 2 c y) = powP 4 (y * x) := bare_elem (r := 1) (.inl rfl)
  have h2 : elemS 2 c y (pointS 1 c x) = powP 4 (x * y) := bare_elem (r := 2) (.inr rfl)
  rw [key_1, key_2, h1, h2, Nat.mul_comm]
theorem pow_is {a k v : Nat} (hk : k < 2 ^ 64) (h : Num.powMod 4611686018427377339 64 a k = v) : powP a k = v := by
  unfold powP; rw [← Num.powMod_eq _ 64 a k hk, h]
theorem two_no : elemB 2 = false := by
  cases h : elemB 2 with
  | false => rfl
  | true =>
    obtain ⟨n, hn, _, _, h3⟩ := elemB_nat h
    have hn2 : n = 2 := by omega
    have h4 : Num.powMod 4611686018427377339 64 2 2305843009213688669 = 4611686018427377338 := by decide +kernel
    have h5 : powP n 2305843009213688669 = 4611686018427377338 := pow_is (by decide) (by rw [hn2]; exact h4)
    omega
theorem zero_no : elemB 0 = false := rfl
theorem sharedL_yes {r c x p : Nat} (hr : r = 1 ∨ r = 2) (hc : c < 1000000) (h1 : 1 ≤ x) (h2 : x < 2305843009213688669) (hp : El p) : sharedL (r : Int) (c : Int) (x : Int) (p : Int) = keyS r c x p := by
  unfold sharedL; rw [sideB_of hr hc h1 h2, elemB_El hp]; rfl
theorem sharedE_yes {r c x p : Nat} (hr : r = 1 ∨ r = 2) (hc : c < 1000000) (h1 : 1 ≤ x) (h2 : x < 2305843009213688669) (hp : El p) : sharedE (r : Int) (c : Int) (x : Int) (p : Int) = 0 := by
  unfold sharedE; rw [sideB_of hr hc h1 h2, elemB_El hp]; rfl
theorem sharedE_nop {r c x p : Int} (h : elemB p = false) : sharedE r c x p = 100 := by unfold sharedE; rw [h, Bool.and_false]; rfl
theorem sharedL_nop {r c x p : Int} (h : elemB p = false) : sharedL r c x p = zero32 := by unfold sharedL; rw [h, Bool.and_false]; rfl
end Go.Proofs.YtpekhdahamloaaaGreatDoor

/-! The laws of package pake: the examples. -/
namespace Go.Proofs.YtpekhdahamloaaaGreatDoor
open Go.RowKit
end Go.Proofs.YtpekhdahamloaaaGreatDoor

/-! A side that came in, opened; Point in one contract. -/
namespace Go.Proofs.YtpekhdahamloaaaGreatDoor
open Go.ChangeShapes Go.WideShapes Go.ChangeAt Go.RowKit
set_option maxRecDepth 100000 in
theorem side_open {H : Type} {enc : TypeId × Value → H} {W : World} {v : Value} {d : DataW H} {p : List MemPlace} {base : Nat}
    (hok : Value.okWide Tryz.prog W .any base 23 v) (hj : DataW.Trod enc Tryz.prog W 0 (fun _ => true) true 23 v d p) :
    ∃ a b c : Int, (Lit.int .i64 a).wf = true ∧ (Lit.int .i64 b).wf = true ∧ (Lit.int .i64 c).wf = true ∧ v = .agg #[.int .i64 a, .int .i64 b, .int .i64 c] := by
  obtain ⟨v0, v1, v2, y0, y1, y2, n, rfl, _, _, h0, h1, h2⟩ := Joins.open_agg3 Tryz.underlying23 (by kernel_rfl) (by kernel_rfl) hok hj
  obtain ⟨a, e0, _, w0⟩ := DataW.trod_int Tryz.underlying3 h0
  obtain ⟨b, e1, _, w1⟩ := DataW.trod_int Tryz.underlying3 h1
  obtain ⟨c, e2, _, w2⟩ := DataW.trod_int Tryz.underlying3 h2
  simp only [List.cons.injEq, and_true] at e0 e1 e2
  subst e0 e1 e2
  exact ⟨a, b, c, w0, w1, w2, rfl⟩
/-- what Point answers -/
def pointV (r c x : Int) : Int := if sideB r c x then ((pointS r.toNat c.toNat x.toNat : Nat) : Int) else 0
theorem point_any10 (r c x : Int) (w : World) (hT : Tab w) :
    Calls Tryz.prog 33 #[.agg #[.int .i64 r, .int .i64 c, .int .i64 x]] w fun e w' => e = .returned (.tuple #[.int .i64 (pointV r c x), .int .i64 (chkS r c x)]) ∧ Below w.heap.size w w' := by
  unfold pointV chkS
  cases h : sideB r c x with
  | false => exact point_no r c x h w
  | true =>
    obtain ⟨R, C, X, rfl, rfl, rfl, hr, hc, hx1, hx2⟩ := sideB_nat h
    exact point_yes R C X hr hc hx1 hx2 w hT
theorem rpoint_any10 (r c x : Int) (w : World) :
    Calls Tryz.prog 34 #[.agg #[.int .i64 r, .int .i64 c, .int .i64 x]] w fun e w' => e = .returned (.tuple #[.int .i64 (pointV r c x), .int .i64 (chkS r c x)]) ∧ Below w.heap.size w w' := by
  unfold pointV chkS
  cases h : sideB r c x with
  | false => exact rpoint_no r c x h w
  | true =>
    obtain ⟨R, C, X, rfl, rfl, rfl, hr, hc, hx1, hx2⟩ := sideB_nat h
    exact rpoint_yes R C X hr hc hx1 hx2 w
end Go.Proofs.YtpekhdahamloaaaGreatDoor

/-! Shared, Proof, Accept at valid sides and elements. -/
namespace Go.Proofs.YtpekhdahamloaaaGreatDoor
open Go.RowKit
section
variable {r c x p : Nat} (hr : r = 1 ∨ r = 2) (hc : c < 1000000) (h1 : 1 ≤ x) (h2 : x < 2305843009213688669) (hp : El p)
include hr hc h1 h2 hp
theorem shared_ok {K : List UInt8} (hK : keyS r c x p = K) (W : World) (hT : Tab W) :
    Calls Tryz.prog 24 #[.agg #[.int .i64 r, .int .i64 c, .int .i64 x], .int .i64 p] W fun e w' => e = .returned (.tuple #[digV K, .int .i64 0]) ∧ Below W.heap.size W w' := by
  have := shared_any (r : Int) (c : Int) (x : Int) (p : Int) W hT
  rwa [sharedL_yes hr hc h1 h2 hp, sharedE_yes hr hc h1 h2 hp, hK] at this
theorem proved_ok {K : List UInt8} (hK : keyS r c x p = K) {P : List UInt8} (hP : proofL K r = P) (W : World) (hT : Tab W) :
    Calls Tryz.prog 35 #[.agg #[.int .i64 r, .int .i64 c, .int .i64 x], .int .i64 p] W fun e w' => e = .returned (.tuple #[digV P, .int .i64 0]) ∧ Below W.heap.size W w' := by
  have := proved_any (r : Int) (c : Int) (x : Int) (p : Int) W hT
  unfold provedL at this
  rwa [sharedL_yes hr hc h1 h2 hp, sharedE_yes hr hc h1 h2 hp, if_pos rfl, hK, hP] at this
end
end Go.Proofs.YtpekhdahamloaaaGreatDoor

/-! What the laws of package pake on masks and codes want beside. -/
namespace Go.Proofs.YtpekhdahamloaaaGreatDoor
open Go.RowKit
theorem bare_point (r c x : Nat) : mulP (pointS r c x) (powP (maskedM (r : Int) c) 2305843009213688668) = powP 4 x := by
  unfold pointS
  rw [mulP_assoc, El.inv (maskedM_El (r : Int) c), mulP_one (powP_lt _ _)]
theorem powP_mulQ {a : Nat} (ha : El a) (j k : Nat) : powP a (mulQ j k) = powP a (j * k) := by
  unfold mulQ; rw [El.pow_mod ha]
theorem moved_point (r c x y : Nat) (hx : x < 2305843009213688669) (hy : y < 2305843009213688669) : mulP (pointS r c x) (powP 4 (subQ y x)) = pointS r c y := by
  have h : powP 4 y = mulP (powP 4 (subQ y x)) (powP 4 x) := by
    have h1 := powP_addQ El4 (subQ y x) x
    rwa [sub_addQ hy hx] at h1
  unfold pointS
  rw [h, mulP_comm (mulP (powP 4 x) _), ← mulP_assoc]
theorem lit_zero : Value.agg #[.int .u8 0, .int .u8 0, .int .u8 0, .int .u8 0, .int .u8 0, .int .u8 0, .int .u8 0, .int .u8 0, .int .u8 0, .int .u8 0, .int .u8 0, .int .u8 0, .int .u8 0, .int .u8 0, .int .u8 0, .int .u8 0, .int .u8 0, .int .u8 0, .int .u8 0, .int .u8 0, .int .u8 0, .int .u8 0, .int .u8 0, .int .u8 0, .int .u8 0, .int .u8 0, .int .u8 0, .int .u8 0, .int .u8 0, .int .u8 0, .int .u8 0, .int .u8 0] = digV zero32 := by rw [← zero_dig]; rfl
theorem neq_zero (t : TypeId) (ht : Tryz.prog.underlying t = some (.array 32 5)) (W : World) : (binOp .neq t (digV zero32) (.agg #[.int .u8 0, .int .u8 0, .int .u8 0, .int .u8 0, .int .u8 0, .int .u8 0, .int .u8 0, .int .u8 0, .int .u8 0, .int .u8 0, .int .u8 0, .int .u8 0, .int .u8 0, .int .u8 0, .int .u8 0, .int .u8 0, .int .u8 0, .int .u8 0, .int .u8 0, .int .u8 0, .int .u8 0, .int .u8 0, .int .u8 0, .int .u8 0, .int .u8 0, .int .u8 0, .int .u8 0, .int .u8 0, .int .u8 0, .int .u8 0, .int .u8 0, .int .u8 0])).run Tryz.prog W = .ok (.bool false) W := by
  rw [lit_zero, neq_dig W t ht zero32_len zero32_len, beq_self_eq_true]; rfl
theorem guard_zero (t : TypeId) (hm : Tryz.prog.eqGuardType Tryz.prog.depth t = false) (a b : Operand) (W : World) : (eqGuard .neq t a b (digV zero32) (.agg #[.int .u8 0, .int .u8 0, .int .u8 0, .int .u8 0, .int .u8 0, .int .u8 0, .int .u8 0, .int .u8 0, .int .u8 0, .int .u8 0, .int .u8 0, .int .u8 0, .int .u8 0, .int .u8 0, .int .u8 0, .int .u8 0, .int .u8 0, .int .u8 0, .int .u8 0, .int .u8 0, .int .u8 0, .int .u8 0, .int .u8 0, .int .u8 0, .int .u8 0, .int .u8 0, .int .u8 0, .int .u8 0, .int .u8 0, .int .u8 0, .int .u8 0, .int .u8 0])).run Tryz.prog W = .ok () W := by
  rw [lit_zero]; exact guard_dig W _ _ a b _ _ hm
end Go.Proofs.YtpekhdahamloaaaGreatDoor

/-! What PakeCodes wants: power, and the keys of two codes. -/
namespace Go.Proofs.YtpekhdahamloaaaGreatDoor
open Go.RowKit
theorem powP_sub {a : Nat} (h : El a) {u v : Nat} (hu : u < 2305843009213688669) (hv : v < 2305843009213688669) : mulP (powP a v) (powP (powP a u) 2305843009213688668) = powP a (subQ v u) := by
  have h1 : powP a v = mulP (powP a (subQ v u)) (powP a u) := by rw [← powP_addQ h, sub_addQ hv hu]
  rw [h1, mulP_assoc, El.inv (powP_pos h u), mulP_one (powP_lt _ _)]
theorem elem_codes (r C D x y : Nat) (hr : r = 1 ∨ r = 2) : elemS r C x (pointS (3 - r) D y) = mulP (powP 4 (y * x)) (powP (maskM ((3 - r : Nat) : Int)) (mulQ (subQ (passM D) (passM C)) x)) := by
  have hM := maskM_El ((3 - r : Nat) : Int)
  have e : elemS r C x (pointS (3 - r) D y) = powP (mulP (pointS (3 - r) D y) (powP (maskedM ((3 - r : Nat) : Int) C) 2305843009213688668)) x := rfl
  have e1 : mulP (pointS (3 - r) D y) (powP (maskedM ((3 - r : Nat) : Int) C) 2305843009213688668) = mulP (powP 4 y) (powP (maskM ((3 - r : Nat) : Int)) (subQ (passM D) (passM C))) := by
    unfold pointS maskedM
    rw [mulP_assoc, powP_sub hM (passM_bd C).2 (passM_bd D).2]
  rw [e, e1, powP_mulP, powP_powP, powP_powP, powP_mulQ hM]
theorem codes_same (C D x y : Nat) : (powP (maskM 2) (mulQ (subQ (passM D) (passM C)) x) = powP (maskM 1) (mulQ (subQ (passM C) (passM D)) y)) ↔ elemS 1 C x (pointS 2 D y) = elemS 2 D y (pointS 1 C x) := by
  have e1 : elemS 1 C x (pointS 2 D y) = mulP (powP 4 (y * x)) (powP (maskM 2) (mulQ (subQ (passM D) (passM C)) x)) := elem_codes 1 C D x y (.inl rfl)
  have e2 : elemS 2 D y (pointS 1 C x) = mulP (powP 4 (x * y)) (powP (maskM 1) (mulQ (subQ (passM C) (passM D)) y)) := elem_codes 2 D C y x (.inr rfl)
  rw [e1, e2, Nat.mul_comm x y]
  constructor
  · intro h; rw [h]
  · intro h
    have ht : El (powP 4 (y * x)) := powP_pos El4 _
    obtain ⟨t, htt⟩ : ∃ t, powP 4 (y * x) = t := ⟨_, rfl⟩
    rw [htt] at h ht
    have h1 := congrArg (mulP (powP t 2305843009213688668)) h
    rw [← mulP_assoc, ← mulP_assoc, mulP_comm (powP t _) t, El.inv ht, mulP_comm 1, mulP_comm 1, mulP_one (powP_lt _ _), mulP_one (powP_lt _ _)] at h1
    exact h1
end Go.Proofs.YtpekhdahamloaaaGreatDoor
