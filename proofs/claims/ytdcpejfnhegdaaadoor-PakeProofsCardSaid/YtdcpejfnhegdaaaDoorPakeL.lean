/- The laws of package pake: side. The laws of package pake: the examples. A side that came in, opened; Point in one contract. Shared, Proof, Accept at valid sides and elements. What the laws of package pake on masks and codes want beside. What PakeCodes wants: power, and the keys of two codes. -/
import Derived.Test.YtdcpejfnhegdaaaDoorPakeC
import Derived.Test.YtdcpejfnhegdaaaDoorLaid
import Derived.Lib.SmallJoins
import Derived.Test.YtdcpejfnhegdaaaDoorFldApi
set_option linter.unusedVariables false
set_option linter.unusedSimpArgs false
/-! The laws of package pake: side. -/
namespace Go.Proofs.YtdcpejfnhegdaaaDoor
open Go.RowKit
def roleN (z : Int) : Nat := 1 + (z % 2).toNat
def codeN (z : Int) : Nat := (z % 18446744073709551616).toNat % 1000000
def secN (z : Int) : Nat := 1 + (z % 18446744073709551616).toNat % 2305843009213688668
theorem roleN_or (z : Int) : roleN z = 1 ∨ roleN z = 2 := by unfold roleN; omega
theorem codeN_lt (z : Int) : codeN z < 1000000 := Nat.mod_lt _ (by decide)
theorem secN_bd (z : Int) : 1 ≤ secN z ∧ secN z < 2305843009213688669 := by unfold secN; omega
theorem i64_and1z (n : Int) : bits .and .i64 n 1 = n % 2 := by
  have h1 : (BitVec.ofInt 64 1).toNat = 2 ^ 1 - 1 := by decide
  have key : (BitVec.ofInt 64 n &&& BitVec.ofInt 64 1).toNat = (n % ((2 ^ 64 : Nat) : Int)).toNat % 2 ^ 1 := by
    rw [BitVec.toNat_and, BitVec.toNat_ofInt, h1, Nat.and_two_pow_sub_one_eq_mod]
  show IntKind.i64.wrap ((BitVec.ofInt 64 n &&& BitVec.ofInt 64 1).toNat : Nat) = n % 2
  rw [key, IntKind.wrap_i64]
  omega
set_option maxRecDepth 100000 in
set_option maxHeartbeats 2000000 in
theorem side_any (z c x : Int) (w : World) :
    Calls Tryd.prog 30 #[.int .i64 z, .int .i64 c, .int .i64 x] w fun e w' => e = .returned (.agg #[.int .i64 ((roleN z : Nat) : Int), .int .i64 ((codeN c : Nat) : Int), .int .i64 ((secN x : Nat) : Int)]) ∧ Below w.heap.size w w' := by
  have e1 := i64_and1z z
  have e2 : IntKind.u64.wrap c = (((c % 18446744073709551616).toNat : Nat) : Int) := by rw [IntKind.wrap_u64]; omega
  have e3 : IntKind.u64.wrap x = (((x % 18446744073709551616).toNat : Nat) : Int) := by rw [IntKind.wrap_u64]; omega
  have g1 : ((roleN z : Nat) : Int) = 1 + z % 2 := by unfold roleN; omega
  have g2 : (((c % 18446744073709551616).toNat : Nat) : Int).tmod 1000000 = ((codeN c : Nat) : Int) := by
    rw [Int.tmod_eq_emod_of_nonneg (Int.natCast_nonneg _)]; rfl
  have g3 : (((x % 18446744073709551616).toNat : Nat) : Int).tmod 2305843009213688668 = ((secN x : Nat) : Int) - 1 := by
    rw [Int.tmod_eq_emod_of_nonneg (Int.natCast_nonneg _)]; unfold secN; omega
  have hc := codeN_lt c
  have hx := secN_bd x
  obtain ⟨zz, hzz⟩ : ∃ y, z % 2 = y := ⟨_, rfl⟩
  have z0 : 0 ≤ zz := by omega
  have z1 : zz ≤ 1 := by omega
  rw [hzz] at e1 g1
  rw [g1]
  obtain ⟨cu, hcu⟩ : ∃ y, (((c % 18446744073709551616).toNat : Nat) : Int) = y := ⟨_, rfl⟩
  obtain ⟨xu, hxu⟩ : ∃ y, (((x % 18446744073709551616).toNat : Nat) : Int) = y := ⟨_, rfl⟩
  rw [hcu] at e2 g2
  rw [hxu] at e3 g3
  obtain ⟨cn, hcn⟩ : ∃ y : Int, ((codeN c : Nat) : Int) = y := ⟨_, rfl⟩
  obtain ⟨xn, hxn⟩ : ∃ y : Int, ((secN x : Nat) : Int) = 1 + y := ⟨((secN x : Nat) : Int) - 1, by omega⟩
  rw [hcn] at g2 ⊢
  rw [hxn] at g3 ⊢
  have g3' : xu.tmod 2305843009213688668 = xn := by rw [g3]; omega
  have c0 : 0 ≤ cn := by omega
  have c1 : cn ≤ 1000000 := by omega
  have v1 : IntKind.i64.wrap xn = xn := IntWalk.i64_in _ (by omega)
  have v2 : IntKind.i64.wrap (1 + xn) = 1 + xn := IntWalk.i64_in _ (by omega)
  clear hzz hcu hxu hcn hxn g3 hc hx g1
  go_enter Tryd.func30, Tryd.ntmps30
  go_wp2_with fail
  refine bodyPost_ret (v := .agg #[.int .i64 (1 + zz), .int .i64 cn, .int .i64 (1 + xn)]) (by exact results_rowV (fn := Tryd.f30) (p := 6) (ty := 33) rfl _ _ w.heap.size 3 33 (sideF (1 + zz) cn (1 + xn)) _ rfl (RowV.new w _ 3 (sideF (1 + zz) cn (1 + xn))) Tryd.underlying33 rfl (by kernel_rfl)) rfl ⟨rfl, ?_⟩
  exact (Below.refl _ w).alloc (Nat.le_refl _) _

/-- both sides of an exchange come to one element -/
theorem bare_elem {c x y r : Nat} (hr : r = 1 ∨ r = 2) : elemS r c x (pointS (3 - r) c y) = powP 4 (y * x) := by
  have e1 : El (powP 4 y) := powP_pos El4 y
  have hM : El (maskedM ((3 - r : Nat) : Int) c) := maskedM_El _ c
  have h : mulP (pointS (3 - r) c y) (powP (maskedM ((3 - r : Nat) : Int) c) 2305843009213688668) = powP 4 y := by
    unfold pointS
    rw [mulP_assoc, El.inv hM, mulP_one e1.2.1]
  have e : elemS r c x (pointS (3 - r) c y) = powP (mulP (pointS (3 - r) c y) (powP (maskedM ((3 - r : Nat) : Int) c) 2305843009213688668)) x := rfl
  rw [e, h, powP_powP]
theorem pake_agree (c x y : Nat) : keyS 1 c x (pointS 2 c y) = keyS 2 c y (pointS 1 c x) := by
  have h1 : elemS 1 c x (pointS 2 c y) = powP 4 (y * x) := bare_elem (r := 1) (.inl rfl)
  have h2 : elemS 2 c y (pointS 1 c x) = powP 4 (x * y) := bare_elem (r := 2) (.inr rfl)
  rw [key_1, key_2, h1, h2, Nat.mul_comm]
theorem pow_is {a k v : Nat} (hk : k < 2 ^ 64) (h : Num.powMod 4611686018427377339 64 a k = v) : powP a k = v := by
  unfold powP; rw [← Num.powMod_eq _ 64 a k hk, h]
theorem two_no : elemB 2 = false := by
  cases h : elemB 2 with
  | false => rfl
  | true =>
    obtain ⟨n, hn, _, _, h3⟩ := elemB_nat h
    have hn2 : n = 2 := by omega
    have h4 : Num.powMod 4611686018427377339 64 2 2305843009213688669 = 4611686018427377338 := by decide +kernel
    have h5 : powP n 2305843009213688669 = 4611686018427377338 := pow_is (by decide) (by rw [hn2]; exact h4)
    omega
theorem zero_no : elemB 0 = false := rfl
theorem sharedL_yes {r c x p : Nat} (hr : r = 1 ∨ r = 2) (hc : c < 1000000) (h1 : 1 ≤ x) (h2 : x < 2305843009213688669) (hp : El p) : sharedL (r : Int) (c : Int) (x : Int) (p : Int) = keyS r c x p := by
  unfold sharedL; rw [sideB_of hr hc h1 h2, elemB_El hp]; rfl
theorem sharedE_yes {r c x p : Nat} (hr : r = 1 ∨ r = 2) (hc : c < 1000000) (h1 : 1 ≤ x) (h2 : x < 2305843009213688669) (hp : El p) : sharedE (r : Int) (c : Int) (x : Int) (p : Int) = 0 := by
  unfold sharedE; rw [sideB_of hr hc h1 h2, elemB_El hp]; rfl
theorem sharedE_nop {r c x p : Int} (h : elemB p = false) : sharedE r c x p = 100 := by unfold sharedE; rw [h, Bool.and_false]; rfl
theorem sharedL_nop {r c x p : Int} (h : elemB p = false) : sharedL r c x p = zero32 := by unfold sharedL; rw [h, Bool.and_false]; rfl
end Go.Proofs.YtdcpejfnhegdaaaDoor

/-! The laws of package pake: the examples. -/
namespace Go.Proofs.YtdcpejfnhegdaaaDoor
open Go.RowKit
set_option maxRecDepth 100000 in
set_option maxHeartbeats 8000000 in
theorem sane10_any (w : World) (hT : Tab w) :
    Calls Tryd.prog 19 #[] w fun e w' => e = .returned (.bool true) ∧ Below w.heap.size w w' := by
  have el1 := pointS_El 1 123456 8
  have el2 := pointS_El 2 123456 12
  have hag := pake_agree 123456 8 12
  have c1 : ∀ W, Calls Tryd.prog 30 #[.int .i64 0, .int .i64 123456, .int .i64 7] W fun e w' => e = .returned (.agg #[.int .i64 1, .int .i64 123456, .int .i64 8]) ∧ Below W.heap.size W w' := fun W => side_any 0 123456 7 W
  have c2 : ∀ W, Calls Tryd.prog 30 #[.int .i64 1, .int .i64 123456, .int .i64 11] W fun e w' => e = .returned (.agg #[.int .i64 2, .int .i64 123456, .int .i64 12]) ∧ Below W.heap.size W w' := fun W => side_any 1 123456 11 W
  have c3 : ∀ W, Tab W → Calls Tryd.prog 20 #[.agg #[.int .i64 1, .int .i64 123456, .int .i64 8]] W fun e w' => e = .returned (.tuple #[.int .i64 ((pointS 1 123456 8 : Nat) : Int), .int .i64 0]) ∧ Below W.heap.size W w' := fun W h => point_yes 1 123456 8 (.inl rfl) (by decide) (by decide) (by decide) W h
  have c4 : ∀ W, Tab W → Calls Tryd.prog 20 #[.agg #[.int .i64 2, .int .i64 123456, .int .i64 12]] W fun e w' => e = .returned (.tuple #[.int .i64 ((pointS 2 123456 12 : Nat) : Int), .int .i64 0]) ∧ Below W.heap.size W w' := fun W h => point_yes 2 123456 12 (.inr rfl) (by decide) (by decide) (by decide) W h
  have c5 : ∀ W, Tab W → Calls Tryd.prog 24 #[.agg #[.int .i64 1, .int .i64 123456, .int .i64 8], .int .i64 ((pointS 2 123456 12 : Nat) : Int)] W fun e w' => e = .returned (.tuple #[digV (keyS 1 123456 8 (pointS 2 123456 12)), .int .i64 0]) ∧ Below W.heap.size W w' := fun W h => by
    have := shared_any ((1 : Nat) : Int) ((123456 : Nat) : Int) ((8 : Nat) : Int) ((pointS 2 123456 12 : Nat) : Int) W h
    rwa [sharedL_yes (.inl rfl) (by decide) (by decide) (by decide) el2, sharedE_yes (.inl rfl) (by decide) (by decide) (by decide) el2] at this
  have c6 : ∀ W, Tab W → Calls Tryd.prog 24 #[.agg #[.int .i64 2, .int .i64 123456, .int .i64 12], .int .i64 ((pointS 1 123456 8 : Nat) : Int)] W fun e w' => e = .returned (.tuple #[digV (keyS 2 123456 12 (pointS 1 123456 8)), .int .i64 0]) ∧ Below W.heap.size W w' := fun W h => by
    have := shared_any ((2 : Nat) : Int) ((123456 : Nat) : Int) ((12 : Nat) : Int) ((pointS 1 123456 8 : Nat) : Int) W h
    rwa [sharedL_yes (.inr rfl) (by decide) (by decide) (by decide) el1, sharedE_yes (.inr rfl) (by decide) (by decide) (by decide) el1] at this
  have c7 : ∀ W, Tab W → Calls Tryd.prog 26 #[.agg #[.int .i64 2, .int .i64 123456, .int .i64 12], .int .i64 ((pointS 1 123456 8 : Nat) : Int)] W fun e w' => e = .returned (.tuple #[digV (proofL (keyS 2 123456 12 (pointS 1 123456 8)) 2), .int .i64 0]) ∧ Below W.heap.size W w' := fun W h => by
    have := proved_any ((2 : Nat) : Int) ((123456 : Nat) : Int) ((12 : Nat) : Int) ((pointS 1 123456 8 : Nat) : Int) W h
    unfold provedL at this
    rwa [sharedL_yes (.inr rfl) (by decide) (by decide) (by decide) el1, sharedE_yes (.inr rfl) (by decide) (by decide) (by decide) el1, if_pos rfl] at this
  have c8 : ∀ W, Tab W → Calls Tryd.prog 28 #[.agg #[.int .i64 1, .int .i64 123456, .int .i64 8], .int .i64 ((pointS 2 123456 12 : Nat) : Int), digV (proofL (keyS 1 123456 8 (pointS 2 123456 12)) 2)] W fun e w' => e = .returned (.tuple #[.bool true, .int .i64 0]) ∧ Below W.heap.size W w' := fun W h => by
    have := accept_any ((1 : Nat) : Int) ((123456 : Nat) : Int) ((8 : Nat) : Int) ((pointS 2 123456 12 : Nat) : Int) (proofL (keyS 1 123456 8 (pointS 2 123456 12)) 2) (proofL_len _ _) W h
    unfold acceptB at this
    rwa [sharedL_yes (.inl rfl) (by decide) (by decide) (by decide) el2, sharedE_yes (.inl rfl) (by decide) (by decide) (by decide) el2, if_pos rfl, show (3 - ((1 : Nat) : Int)) = 2 from rfl, beq_self_eq_true] at this
  have c9 : ∀ W, Tab W → Calls Tryd.prog 24 #[.agg #[.int .i64 1, .int .i64 123456, .int .i64 8], .int .i64 0] W fun e w' => e = .returned (.tuple #[digV zero32, .int .i64 100]) ∧ Below W.heap.size W w' := fun W h => by
    have := shared_any 1 123456 8 0 W h
    rwa [sharedL_nop zero_no, sharedE_nop zero_no] at this
  have c10 : ∀ W d, d.length = 32 → Tab W → Calls Tryd.prog 28 #[.agg #[.int .i64 1, .int .i64 123456, .int .i64 8], .int .i64 2, digV d] W fun e w' => e = .returned (.tuple #[.bool false, .int .i64 100]) ∧ Below W.heap.size W w' := fun W d hd h => by
    have := accept_any 1 123456 8 2 d hd W h
    unfold acceptB at this
    rwa [sharedE_nop two_no, if_neg (by decide)] at this
  have c11 := fun W => check_El el1 W
  have c12 : ∀ W, Calls Tryd.prog 22 #[.agg #[.int .i64 3, .int .i64 0, .int .i64 1]] W fun e w' => e = .returned (.int .i64 100) ∧ Below W.heap.size W w' := fun W => check10_any 3 0 1 W
  have c13 : ∀ W, Calls Tryd.prog 22 #[.agg #[.int .i64 1, .int .i64 1000000, .int .i64 1]] W fun e w' => e = .returned (.int .i64 100) ∧ Below W.heap.size W w' := fun W => check10_any 1 1000000 1 W
  rw [← hag] at c6 c7
  have kl : (keyS 1 123456 8 (pointS 2 123456 12)).length = 32 := keyL_len _ _ _
  have pl := proofL_len (keyS 1 123456 8 (pointS 2 123456 12)) 2
  obtain ⟨A, hA⟩ : ∃ a, pointS 1 123456 8 = a := ⟨_, rfl⟩
  obtain ⟨B, hB⟩ : ∃ a, pointS 2 123456 12 = a := ⟨_, rfl⟩
  rw [hA] at c3 c6 c7 c11
  rw [hB] at c4 c5 c6 c7 c8 kl pl
  obtain ⟨K, hK⟩ : ∃ a, keyS 1 123456 8 B = a := ⟨_, rfl⟩
  rw [hK] at c5 c6 c7 c8 kl pl
  obtain ⟨Pf, hPf⟩ : ∃ a, proofL K 2 = a := ⟨_, rfl⟩
  rw [hPf] at c7 c8 pl
  have c10' := fun W h => c10 W Pf pl h
  have heq : ∀ W, (binOp .eql 38 (digV K) (digV K)).run Tryd.prog W = .ok (.bool (K == K)) W := fun W => eql_dig W _ Tryd.underlying38 kl kl
  rw [beq_self_eq_true] at heq
  have hgu : ∀ a b W, (eqGuard .eql 38 a b (digV K) (digV K)).run Tryd.prog W = .ok () W := fun a b W => guard_dig W _ _ a b _ _ (by kernel_rfl)
  unfold digV at *
  obtain ⟨f, hf⟩ : ∃ f, (fun i => vB (K.getD i 0)) = f := ⟨_, rfl⟩
  obtain ⟨g, hg⟩ : ∃ f, (fun i => vB (Pf.getD i 0)) = f := ⟨_, rfl⟩
  have f1 : ∀ j, j < 32 → (f j).oneCell' = true := by intro j _; rw [← hf]; rfl
  have g1 : ∀ j, j < 32 → (g j).oneCell' = true := by intro j _; rw [← hg]; rfl
  have z1 : ∀ j, j < 32 → ((fun i => vB (zero32.getD i 0)) j).oneCell' = true := by intro j _; rfl
  obtain ⟨z, hz⟩ : ∃ f, (fun i => vB (zero32.getD i 0)) = f := ⟨_, rfl⟩
  rw [hf] at c5 c6 heq hgu
  rw [hg] at c7 c8 c10'
  rw [hz] at c9 z1
  have F1 := Lib.hid f1; have G1 := Lib.hid g1; have Z1 := Lib.hid z1
  have H1 := Lib.hid c1; have H2 := Lib.hid c2; have H3 := Lib.hid c3; have H4 := Lib.hid c4; have H5 := Lib.hid c5; have H6 := Lib.hid c6; have H7 := Lib.hid c7; have H8 := Lib.hid c8; have H9 := Lib.hid c9; have H10 := Lib.hid c10'; have H11 := Lib.hid c11; have H12 := Lib.hid c12; have H13 := Lib.hid c13
  have HEQ := Lib.hid heq; have HGU := Lib.hid hgu; have T := Lib.hid hT
  clear c1 c2 c3 c4 c5 c6 c7 c8 c9 c10 c10' c11 c12 c13 heq hgu hT f1 g1 z1 hf hg hz hPf hK hA hB el1 el2 hag kl pl
  go_enter Tryd.func19, Tryd.ntmps19
  have B0 := Lib.hid (Below.refl w.heap.size w)
  go_wp2_with fail
  refine (H1.out _).mono ?_
  rintro e w1 ⟨rfl, b1⟩
  have B1 := Lib.hid (B0.out.trans (b1.mono B0.out.size))
  clear b1 B0
  go_wp2_with fail
  refine (H2.out _).mono ?_
  rintro e w2 ⟨rfl, b2⟩
  have B2 := Lib.hid (B1.out.trans (b2.mono B1.out.size))
  clear b2 B1
  go_upto_region 2 with fail
  obtain ⟨w3, hw3⟩ : ∃ y, w2.alloc (.cells #[.int .i64 1, .int .i64 123456, .int .i64 8] 33) = y := ⟨_, rfl⟩
  have b3 : Below w2.heap.size w2 w3 := by rw [← hw3]; exact (Below.refl _ _).alloc (Nat.le_refl _) _
  have P3 : Hid (RowV w3 w2.heap.size 33 3 (sideF 1 123456 8)) := Lib.hid (by rw [← hw3]; exact RowV.new w2 _ 3 (sideF 1 123456 8))
  have z3 : w2.heap.size + 1 = w3.heap.size := by rw [← hw3]; exact (Array.size_push _).symm
  rw [hw3]
  (try rw [z3])
  have B3 := Lib.hid (B2.out.trans (b3.mono B2.out.size))
  clear b3 hw3 z3 B2
  obtain ⟨w4, hw4⟩ : ∃ y, w3.alloc (.cells #[.int .i64 2, .int .i64 123456, .int .i64 12] 33) = y := ⟨_, rfl⟩
  have b4 : Below w3.heap.size w3 w4 := by rw [← hw4]; exact (Below.refl _ _).alloc (Nat.le_refl _) _
  have Q4 : Hid (RowV w4 w3.heap.size 33 3 (sideF 2 123456 12)) := Lib.hid (by rw [← hw4]; exact RowV.new w3 _ 3 (sideF 2 123456 12))
  have z4 : w3.heap.size + 1 = w4.heap.size := by rw [← hw4]; exact (Array.size_push _).symm
  rw [hw4]
  (try rw [z4])
  have B4 := Lib.hid (B3.out.trans (b4.mono B3.out.size))
  have P4 := Lib.hid (P3.out.below b4)
  clear b4 hw4 z4 B3 P3
  have x0 : _ = some (Value.int .i64 1) := P4.out.cell (i := 0) (by decide)
  have x1 : _ = some (Value.int .i64 123456) := P4.out.cell (i := 1) (by decide)
  have x2 : _ = some (Value.int .i64 8) := P4.out.cell (i := 2) (by decide)
  go_wp2_with fail
  refine (H3.out _ (T.out.below B4.out)).mono ?_
  rintro e w5 ⟨rfl, b5⟩
  have B5 := Lib.hid (B4.out.trans (b5.mono B4.out.size))
  have P5 := Lib.hid (P4.out.below b5)
  have Q5 := Lib.hid (Q4.out.below b5)
  clear b5 B4 P4 Q4
  clear x0 x1 x2
  have x0 : _ = some (Value.int .i64 2) := Q5.out.cell (i := 0) (by decide)
  have x1 : _ = some (Value.int .i64 123456) := Q5.out.cell (i := 1) (by decide)
  have x2 : _ = some (Value.int .i64 12) := Q5.out.cell (i := 2) (by decide)
  go_wp2_with fail
  refine (H4.out _ (T.out.below B5.out)).mono ?_
  rintro e w6 ⟨rfl, b6⟩
  have B6 := Lib.hid (B5.out.trans (b6.mono B5.out.size))
  have P6 := Lib.hid (P5.out.below b6)
  have Q6 := Lib.hid (Q5.out.below b6)
  clear b6 B5 P5 Q5
  clear x0 x1 x2
  have x0 : _ = some (Value.int .i64 1) := P6.out.cell (i := 0) (by decide)
  have x1 : _ = some (Value.int .i64 123456) := P6.out.cell (i := 1) (by decide)
  have x2 : _ = some (Value.int .i64 8) := P6.out.cell (i := 2) (by decide)
  go_wp2_with fail
  refine (H5.out _ (T.out.below B6.out)).mono ?_
  rintro e w7 ⟨rfl, b7⟩
  have B7 := Lib.hid (B6.out.trans (b7.mono B6.out.size))
  have P7 := Lib.hid (P6.out.below b7)
  have Q7 := Lib.hid (Q6.out.below b7)
  clear b7 B6 P6 Q6
  clear x0 x1 x2
  have Zr := Lib.hid (RowV.new w7 38 32 (fun _ => vB 0))
  go_upto_region 5 with ((with_reducible (show wpList _ _ _ (Oper.mk none _ _ _ _ _ :: _) _ _)); refine wpList_store_rowV (o := ⟨none, .store 38 (.tmp 7) (.tmp 35), _, _, _, _⟩) rfl 38 (.tmp 7) (.tmp 35) rfl w7.heap.size rfl 32 38 _ f rfl Zr.out (by kernel_rfl) F1.out ?_; intro w8 K8 o8)
  have b8 : Below w7.heap.size w7 w8 := ((Below.refl _ _).alloc (Nat.le_refl _) _).trans (o8.out.below (Nat.le_refl _) (by rw [World.size_alloc]; omega))
  have B8 := Lib.hid (B7.out.trans (b8.mono B7.out.size))
  have P8 := Lib.hid (P7.out.below b8)
  have Q8 := Lib.hid (Q7.out.below b8)
  clear b8 o8 Zr B7 P7 Q7
  have x0 : _ = some (Value.int .i64 2) := Q8.out.cell (i := 0) (by decide)
  have x1 : _ = some (Value.int .i64 123456) := Q8.out.cell (i := 1) (by decide)
  have x2 : _ = some (Value.int .i64 12) := Q8.out.cell (i := 2) (by decide)
  go_wp2_with fail
  refine (H6.out _ (T.out.below B8.out)).mono ?_
  rintro e w9 ⟨rfl, b9⟩
  have B9 := Lib.hid (B8.out.trans (b9.mono B8.out.size))
  have P9 := Lib.hid (P8.out.below b9)
  have Q9 := Lib.hid (Q8.out.below b9)
  have K9 := Lib.hid (K8.out.below b9)
  clear b9 B8 P8 Q8 K8
  clear x0 x1 x2
  have Zr := Lib.hid (RowV.new w9 38 32 (fun _ => vB 0))
  go_upto_region 6 with ((with_reducible (show wpList _ _ _ (Oper.mk none _ _ _ _ _ :: _) _ _)); refine wpList_store_rowV (o := ⟨none, .store 38 (.tmp 9) (.tmp 41), _, _, _, _⟩) rfl 38 (.tmp 9) (.tmp 41) rfl w9.heap.size rfl 32 38 _ f rfl Zr.out (by kernel_rfl) F1.out ?_; intro w10 L10 o10)
  have b10 : Below w9.heap.size w9 w10 := ((Below.refl _ _).alloc (Nat.le_refl _) _).trans (o10.out.below (Nat.le_refl _) (by rw [World.size_alloc]; omega))
  have B10 := Lib.hid (B9.out.trans (b10.mono B9.out.size))
  have P10 := Lib.hid (P9.out.below b10)
  have Q10 := Lib.hid (Q9.out.below b10)
  have K10 := Lib.hid (K9.out.below b10)
  clear b10 o10 Zr B9 P9 Q9 K9
  have x0 : _ = some (Value.int .i64 2) := Q10.out.cell (i := 0) (by decide)
  have x1 : _ = some (Value.int .i64 123456) := Q10.out.cell (i := 1) (by decide)
  have x2 : _ = some (Value.int .i64 12) := Q10.out.cell (i := 2) (by decide)
  go_wp2_with fail
  refine (H7.out _ (T.out.below B10.out)).mono ?_
  rintro e w11 ⟨rfl, b11⟩
  have B11 := Lib.hid (B10.out.trans (b11.mono B10.out.size))
  have P11 := Lib.hid (P10.out.below b11)
  have Q11 := Lib.hid (Q10.out.below b11)
  have K11 := Lib.hid (K10.out.below b11)
  have L11 := Lib.hid (L10.out.below b11)
  clear b11 B10 P10 Q10 K10 L10
  clear x0 x1 x2
  have Zr := Lib.hid (RowV.new w11 29 32 (fun _ => vB 0))
  go_upto_region 7 with ((with_reducible (show wpList _ _ _ (Oper.mk none _ _ _ _ _ :: _) _ _)); refine wpList_store_rowV (o := ⟨none, .store 29 (.tmp 11) (.tmp 47), _, _, _, _⟩) rfl 29 (.tmp 11) (.tmp 47) rfl w11.heap.size rfl 32 29 _ g rfl Zr.out (by kernel_rfl) G1.out ?_; intro w12 D12 o12)
  have b12 : Below w11.heap.size w11 w12 := ((Below.refl _ _).alloc (Nat.le_refl _) _).trans (o12.out.below (Nat.le_refl _) (by rw [World.size_alloc]; omega))
  have B12 := Lib.hid (B11.out.trans (b12.mono B11.out.size))
  have P12 := Lib.hid (P11.out.below b12)
  have Q12 := Lib.hid (Q11.out.below b12)
  have K12 := Lib.hid (K11.out.below b12)
  have L12 := Lib.hid (L11.out.below b12)
  clear b12 o12 Zr B11 P11 Q11 K11 L11
  have x0 : _ = some (Value.int .i64 1) := P12.out.cell (i := 0) (by decide)
  have x1 : _ = some (Value.int .i64 123456) := P12.out.cell (i := 1) (by decide)
  have x2 : _ = some (Value.int .i64 8) := P12.out.cell (i := 2) (by decide)
  go_wp2_with (first | ((with_reducible (show wpList _ _ _ (Oper.mk (some 52) _ _ _ _ _ :: _) _ _)); refine wpList_load_rowV rfl 29 (.tmp 11) rfl w11.heap.size rfl 32 29 _ D12.out _ Tryd.underlying29 rfl (by kernel_rfl) ?_))
  refine (H8.out _ (T.out.below B12.out)).mono ?_
  rintro e w13 ⟨rfl, b13⟩
  have B13 := Lib.hid (B12.out.trans (b13.mono B12.out.size))
  have P13 := Lib.hid (P12.out.below b13)
  have Q13 := Lib.hid (Q12.out.below b13)
  have K13 := Lib.hid (K12.out.below b13)
  have L13 := Lib.hid (L12.out.below b13)
  have D13 := Lib.hid (D12.out.below b13)
  clear b13 B12 P12 Q12 K12 L12 D12
  clear x0 x1 x2
  have x0 : _ = some (Value.int .i64 1) := P13.out.cell (i := 0) (by decide)
  have x1 : _ = some (Value.int .i64 123456) := P13.out.cell (i := 1) (by decide)
  have x2 : _ = some (Value.int .i64 8) := P13.out.cell (i := 2) (by decide)
  go_wp2_with fail
  refine (H9.out _ (T.out.below B13.out)).mono ?_
  rintro e w14 ⟨rfl, b14⟩
  have B14 := Lib.hid (B13.out.trans (b14.mono B13.out.size))
  have P14 := Lib.hid (P13.out.below b14)
  have Q14 := Lib.hid (Q13.out.below b14)
  have K14 := Lib.hid (K13.out.below b14)
  have L14 := Lib.hid (L13.out.below b14)
  have D14 := Lib.hid (D13.out.below b14)
  clear b14 B13 P13 Q13 K13 L13 D13
  clear x0 x1 x2
  have Zr := Lib.hid (RowV.new w14 38 32 (fun _ => vB 0))
  go_upto_region 9 with ((with_reducible (show wpList _ _ _ (Oper.mk none _ _ _ _ _ :: _) _ _)); refine wpList_store_rowV (o := ⟨none, .store 38 (.tmp 15) (.tmp 59), _, _, _, _⟩) rfl 38 (.tmp 15) (.tmp 59) rfl w14.heap.size rfl 32 38 _ z rfl Zr.out (by kernel_rfl) Z1.out ?_; intro w15 Z15 o15)
  have b15 : Below w14.heap.size w14 w15 := ((Below.refl _ _).alloc (Nat.le_refl _) _).trans (o15.out.below (Nat.le_refl _) (by rw [World.size_alloc]; omega))
  have B15 := Lib.hid (B14.out.trans (b15.mono B14.out.size))
  have P15 := Lib.hid (P14.out.below b15)
  have Q15 := Lib.hid (Q14.out.below b15)
  have K15 := Lib.hid (K14.out.below b15)
  have L15 := Lib.hid (L14.out.below b15)
  have D15 := Lib.hid (D14.out.below b15)
  clear b15 o15 Zr B14 P14 Q14 K14 L14 D14
  have x0 : _ = some (Value.int .i64 1) := P15.out.cell (i := 0) (by decide)
  have x1 : _ = some (Value.int .i64 123456) := P15.out.cell (i := 1) (by decide)
  have x2 : _ = some (Value.int .i64 8) := P15.out.cell (i := 2) (by decide)
  go_wp2_with (first | ((with_reducible (show wpList _ _ _ (Oper.mk (some 63) _ _ _ _ _ :: _) _ _)); refine wpList_load_rowV rfl 29 (.tmp 11) rfl w11.heap.size rfl 32 29 _ D15.out _ Tryd.underlying29 rfl (by kernel_rfl) ?_))
  refine (H10.out _ (T.out.below B15.out)).mono ?_
  rintro e w16 ⟨rfl, b16⟩
  have B16 := Lib.hid (B15.out.trans (b16.mono B15.out.size))
  have P16 := Lib.hid (P15.out.below b16)
  have Q16 := Lib.hid (Q15.out.below b16)
  have K16 := Lib.hid (K15.out.below b16)
  have L16 := Lib.hid (L15.out.below b16)
  have D16 := Lib.hid (D15.out.below b16)
  have Z16 := Lib.hid (Z15.out.below b16)
  clear b16 B15 P15 Q15 K15 L15 D15 Z15
  clear x0 x1 x2
  go_wp2_with fail
  refine (H11.out _).mono ?_
  rintro e w17 ⟨rfl, b17⟩
  have B17 := Lib.hid (B16.out.trans (b17.mono B16.out.size))
  have P17 := Lib.hid (P16.out.below b17)
  have Q17 := Lib.hid (Q16.out.below b17)
  have K17 := Lib.hid (K16.out.below b17)
  have L17 := Lib.hid (L16.out.below b17)
  have D17 := Lib.hid (D16.out.below b17)
  have Z17 := Lib.hid (Z16.out.below b17)
  clear b17 B16 P16 Q16 K16 L16 D16 Z16
  have heq := HEQ.out
  have hgu := HGU.out
  go_wp2_with (first | ((with_reducible (show wpList _ _ _ (Oper.mk (some 87) _ _ _ _ _ :: _) _ _)); refine wpList_unguard rfl ?_; refine wpList_load_rowV rfl 38 (.tmp 7) rfl w7.heap.size rfl 32 38 _ K17.out _ Tryd.underlying38 rfl (by kernel_rfl) ?_) | ((with_reducible (show wpList _ _ _ (Oper.mk (some 88) _ _ _ _ _ :: _) _ _)); refine wpList_unguard rfl ?_; refine wpList_load_rowV rfl 38 (.tmp 9) rfl w9.heap.size rfl 32 38 _ L17.out _ Tryd.underlying38 rfl (by kernel_rfl) ?_))
  refine (H12.out _).mono ?_
  rintro e w18 ⟨rfl, b18⟩
  have B18 := Lib.hid (B17.out.trans (b18.mono B17.out.size))
  have P18 := Lib.hid (P17.out.below b18)
  have Q18 := Lib.hid (Q17.out.below b18)
  have K18 := Lib.hid (K17.out.below b18)
  have L18 := Lib.hid (L17.out.below b18)
  have D18 := Lib.hid (D17.out.below b18)
  have Z18 := Lib.hid (Z17.out.below b18)
  clear b18 B17 P17 Q17 K17 L17 D17 Z17
  go_wp2_with fail
  refine (H13.out _).mono ?_
  rintro e w19 ⟨rfl, b19⟩
  have B19 := Lib.hid (B18.out.trans (b19.mono B18.out.size))
  have P19 := Lib.hid (P18.out.below b19)
  have Q19 := Lib.hid (Q18.out.below b19)
  have K19 := Lib.hid (K18.out.below b19)
  have L19 := Lib.hid (L18.out.below b19)
  have D19 := Lib.hid (D18.out.below b19)
  have Z19 := Lib.hid (Z18.out.below b19)
  clear b19 B18 P18 Q18 K18 L18 D18 Z18
  go_wp2_with fail
  go_ret
  exact ⟨rfl, B19.out⟩
end Go.Proofs.YtdcpejfnhegdaaaDoor

/-! A side that came in, opened; Point in one contract. -/
namespace Go.Proofs.YtdcpejfnhegdaaaDoor
open Go.ChangeShapes Go.WideShapes Go.ChangeAt Go.RowKit
set_option maxRecDepth 100000 in
theorem side_open {H : Type} {enc : TypeId × Value → H} {W : World} {v : Value} {d : DataW H} {p : List MemPlace} {base : Nat}
    (hok : Value.okWide Tryd.prog W .any base 33 v) (hj : DataW.Trod enc Tryd.prog W 0 (fun _ => true) true 33 v d p) :
    ∃ a b c : Int, (Lit.int .i64 a).wf = true ∧ (Lit.int .i64 b).wf = true ∧ (Lit.int .i64 c).wf = true ∧ v = .agg #[.int .i64 a, .int .i64 b, .int .i64 c] := by
  obtain ⟨v0, v1, v2, y0, y1, y2, n, rfl, _, _, h0, h1, h2⟩ := Joins.open_agg3 Tryd.underlying33 (by kernel_rfl) (by kernel_rfl) hok hj
  obtain ⟨a, e0, _, w0⟩ := DataW.trod_int Tryd.underlying3 h0
  obtain ⟨b, e1, _, w1⟩ := DataW.trod_int Tryd.underlying3 h1
  obtain ⟨c, e2, _, w2⟩ := DataW.trod_int Tryd.underlying3 h2
  simp only [List.cons.injEq, and_true] at e0 e1 e2
  subst e0 e1 e2
  exact ⟨a, b, c, w0, w1, w2, rfl⟩
/-- what Point answers -/
def pointV (r c x : Int) : Int := if sideB r c x then ((pointS r.toNat c.toNat x.toNat : Nat) : Int) else 0
theorem point_any10 (r c x : Int) (w : World) (hT : Tab w) :
    Calls Tryd.prog 20 #[.agg #[.int .i64 r, .int .i64 c, .int .i64 x]] w fun e w' => e = .returned (.tuple #[.int .i64 (pointV r c x), .int .i64 (chkS r c x)]) ∧ Below w.heap.size w w' := by
  unfold pointV chkS
  cases h : sideB r c x with
  | false => exact point_no r c x h w
  | true =>
    obtain ⟨R, C, X, rfl, rfl, rfl, hr, hc, hx1, hx2⟩ := sideB_nat h
    exact point_yes R C X hr hc hx1 hx2 w hT
theorem rpoint_any10 (r c x : Int) (w : World) :
    Calls Tryd.prog 21 #[.agg #[.int .i64 r, .int .i64 c, .int .i64 x]] w fun e w' => e = .returned (.tuple #[.int .i64 (pointV r c x), .int .i64 (chkS r c x)]) ∧ Below w.heap.size w w' := by
  unfold pointV chkS
  cases h : sideB r c x with
  | false => exact rpoint_no r c x h w
  | true =>
    obtain ⟨R, C, X, rfl, rfl, rfl, hr, hc, hx1, hx2⟩ := sideB_nat h
    exact rpoint_yes R C X hr hc hx1 hx2 w
end Go.Proofs.YtdcpejfnhegdaaaDoor

/-! Shared, Proof, Accept at valid sides and elements. -/
namespace Go.Proofs.YtdcpejfnhegdaaaDoor
open Go.RowKit
section
variable {r c x p : Nat} (hr : r = 1 ∨ r = 2) (hc : c < 1000000) (h1 : 1 ≤ x) (h2 : x < 2305843009213688669) (hp : El p)
include hr hc h1 h2 hp
theorem shared_ok {K : List UInt8} (hK : keyS r c x p = K) (W : World) (hT : Tab W) :
    Calls Tryd.prog 24 #[.agg #[.int .i64 r, .int .i64 c, .int .i64 x], .int .i64 p] W fun e w' => e = .returned (.tuple #[digV K, .int .i64 0]) ∧ Below W.heap.size W w' := by
  have := shared_any (r : Int) (c : Int) (x : Int) (p : Int) W hT
  rwa [sharedL_yes hr hc h1 h2 hp, sharedE_yes hr hc h1 h2 hp, hK] at this
theorem proved_ok {K : List UInt8} (hK : keyS r c x p = K) {P : List UInt8} (hP : proofL K r = P) (W : World) (hT : Tab W) :
    Calls Tryd.prog 26 #[.agg #[.int .i64 r, .int .i64 c, .int .i64 x], .int .i64 p] W fun e w' => e = .returned (.tuple #[digV P, .int .i64 0]) ∧ Below W.heap.size W w' := by
  have := proved_any (r : Int) (c : Int) (x : Int) (p : Int) W hT
  unfold provedL at this
  rwa [sharedL_yes hr hc h1 h2 hp, sharedE_yes hr hc h1 h2 hp, if_pos rfl, hK, hP] at this
theorem accept_ok {K : List UInt8} (hK : keyS r c x p = K) {P : List UInt8} (hP : proofL K (3 - (r : Int)) = P) (d : List UInt8) (hd : d.length = 32) (W : World) (hT : Tab W) :
    Calls Tryd.prog 28 #[.agg #[.int .i64 r, .int .i64 c, .int .i64 x], .int .i64 p, digV d] W fun e w' => e = .returned (.tuple #[.bool (d == P), .int .i64 0]) ∧ Below W.heap.size W w' := by
  have := accept_any (r : Int) (c : Int) (x : Int) (p : Int) d hd W hT
  unfold acceptB at this
  rwa [sharedL_yes hr hc h1 h2 hp, sharedE_yes hr hc h1 h2 hp, if_pos rfl, hK, hP] at this
end
end Go.Proofs.YtdcpejfnhegdaaaDoor

/-! What the laws of package pake on masks and codes want beside. -/
namespace Go.Proofs.YtdcpejfnhegdaaaDoor
open Go.RowKit
theorem bare_point (r c x : Nat) : mulP (pointS r c x) (powP (maskedM (r : Int) c) 2305843009213688668) = powP 4 x := by
  unfold pointS
  rw [mulP_assoc, El.inv (maskedM_El (r : Int) c), mulP_one (powP_lt _ _)]
theorem sub_addQ {a b : Nat} (ha : a < 2305843009213688669) (hb : b < 2305843009213688669) : addQ (subQ a b) b = a := by
  unfold subQ addQ; split <;> omega
theorem powP_addQ {a : Nat} (h : El a) (j k : Nat) : powP a (addQ j k) = mulP (powP a j) (powP a k) := by
  unfold addQ; rw [El.pow_mod h, powP_add]
theorem powP_mulQ {a : Nat} (ha : El a) (j k : Nat) : powP a (mulQ j k) = powP a (j * k) := by
  unfold mulQ; rw [El.pow_mod ha]
theorem moved_point (r c x y : Nat) (hx : x < 2305843009213688669) (hy : y < 2305843009213688669) : mulP (pointS r c x) (powP 4 (subQ y x)) = pointS r c y := by
  have h : powP 4 y = mulP (powP 4 (subQ y x)) (powP 4 x) := by
    have h1 := powP_addQ El4 (subQ y x) x
    rwa [sub_addQ hy hx] at h1
  unfold pointS
  rw [h, mulP_comm (mulP (powP 4 x) _), ← mulP_assoc]
theorem lit_zero : Value.agg #[.int .u8 0, .int .u8 0, .int .u8 0, .int .u8 0, .int .u8 0, .int .u8 0, .int .u8 0, .int .u8 0, .int .u8 0, .int .u8 0, .int .u8 0, .int .u8 0, .int .u8 0, .int .u8 0, .int .u8 0, .int .u8 0, .int .u8 0, .int .u8 0, .int .u8 0, .int .u8 0, .int .u8 0, .int .u8 0, .int .u8 0, .int .u8 0, .int .u8 0, .int .u8 0, .int .u8 0, .int .u8 0, .int .u8 0, .int .u8 0, .int .u8 0, .int .u8 0] = digV zero32 := by rw [← zero_dig]; rfl
theorem neq_zero (t : TypeId) (ht : Tryd.prog.underlying t = some (.array 32 5)) (W : World) : (binOp .neq t (digV zero32) (.agg #[.int .u8 0, .int .u8 0, .int .u8 0, .int .u8 0, .int .u8 0, .int .u8 0, .int .u8 0, .int .u8 0, .int .u8 0, .int .u8 0, .int .u8 0, .int .u8 0, .int .u8 0, .int .u8 0, .int .u8 0, .int .u8 0, .int .u8 0, .int .u8 0, .int .u8 0, .int .u8 0, .int .u8 0, .int .u8 0, .int .u8 0, .int .u8 0, .int .u8 0, .int .u8 0, .int .u8 0, .int .u8 0, .int .u8 0, .int .u8 0, .int .u8 0, .int .u8 0])).run Tryd.prog W = .ok (.bool false) W := by
  rw [lit_zero, neq_dig W t ht zero32_len zero32_len, beq_self_eq_true]; rfl
theorem guard_zero (t : TypeId) (hm : Tryd.prog.eqGuardType Tryd.prog.depth t = false) (a b : Operand) (W : World) : (eqGuard .neq t a b (digV zero32) (.agg #[.int .u8 0, .int .u8 0, .int .u8 0, .int .u8 0, .int .u8 0, .int .u8 0, .int .u8 0, .int .u8 0, .int .u8 0, .int .u8 0, .int .u8 0, .int .u8 0, .int .u8 0, .int .u8 0, .int .u8 0, .int .u8 0, .int .u8 0, .int .u8 0, .int .u8 0, .int .u8 0, .int .u8 0, .int .u8 0, .int .u8 0, .int .u8 0, .int .u8 0, .int .u8 0, .int .u8 0, .int .u8 0, .int .u8 0, .int .u8 0, .int .u8 0, .int .u8 0])).run Tryd.prog W = .ok () W := by
  rw [lit_zero]; exact guard_dig W _ _ a b _ _ hm
end Go.Proofs.YtdcpejfnhegdaaaDoor

/-! What PakeCodes wants: power, and the keys of two codes. -/
namespace Go.Proofs.YtdcpejfnhegdaaaDoor
open Go.RowKit
theorem powP_sub {a : Nat} (h : El a) {u v : Nat} (hu : u < 2305843009213688669) (hv : v < 2305843009213688669) : mulP (powP a v) (powP (powP a u) 2305843009213688668) = powP a (subQ v u) := by
  have h1 : powP a v = mulP (powP a (subQ v u)) (powP a u) := by rw [← powP_addQ h, sub_addQ hv hu]
  rw [h1, mulP_assoc, El.inv (powP_pos h u), mulP_one (powP_lt _ _)]
theorem elem_codes (r C D x y : Nat) (hr : r = 1 ∨ r = 2) : elemS r C x (pointS (3 - r) D y) = mulP (powP 4 (y * x)) (powP (maskM ((3 - r : Nat) : Int)) (mulQ (subQ (passM D) (passM C)) x)) := by
  have hM := maskM_El ((3 - r : Nat) : Int)
  have e : elemS r C x (pointS (3 - r) D y) = powP (mulP (pointS (3 - r) D y) (powP (maskedM ((3 - r : Nat) : Int) C) 2305843009213688668)) x := rfl
  have e1 : mulP (pointS (3 - r) D y) (powP (maskedM ((3 - r : Nat) : Int) C) 2305843009213688668) = mulP (powP 4 y) (powP (maskM ((3 - r : Nat) : Int)) (subQ (passM D) (passM C))) := by
    unfold pointS maskedM
    rw [mulP_assoc, powP_sub hM (passM_bd C).2 (passM_bd D).2]
  rw [e, e1, powP_mulP, powP_powP, powP_powP, powP_mulQ hM]
theorem codes_same (C D x y : Nat) : (powP (maskM 2) (mulQ (subQ (passM D) (passM C)) x) = powP (maskM 1) (mulQ (subQ (passM C) (passM D)) y)) ↔ elemS 1 C x (pointS 2 D y) = elemS 2 D y (pointS 1 C x) := by
  have e1 : elemS 1 C x (pointS 2 D y) = mulP (powP 4 (y * x)) (powP (maskM 2) (mulQ (subQ (passM D) (passM C)) x)) := elem_codes 1 C D x y (.inl rfl)
  have e2 : elemS 2 D y (pointS 1 C x) = mulP (powP 4 (x * y)) (powP (maskM 1) (mulQ (subQ (passM C) (passM D)) y)) := elem_codes 2 D C y x (.inr rfl)
  rw [e1, e2, Nat.mul_comm x y]
  constructor
  · intro h; rw [h]
  · intro h
    have ht : El (powP 4 (y * x)) := powP_pos El4 _
    obtain ⟨t, htt⟩ : ∃ t, powP 4 (y * x) = t := ⟨_, rfl⟩
    rw [htt] at h ht
    have h1 := congrArg (mulP (powP t 2305843009213688668)) h
    rw [← mulP_assoc, ← mulP_assoc, mulP_comm (powP t _) t, El.inv ht, mulP_comm 1, mulP_comm 1, mulP_one (powP_lt _ _), mulP_one (powP_lt _ _)] at h1
    exact h1
set_option maxRecDepth 100000 in
set_option maxHeartbeats 2000000 in
theorem power_ok {a x y t : Nat} (ha : El a) (hx : x < 2305843009213688669) (hy : y < 2305843009213688669) (ht : t < 2305843009213688669) {m : Nat} (hm : powP a (mulQ (subQ x y) t) = m) (w : World) :
    Calls Tryd.prog 38 #[.int .i64 a, .int .i64 x, .int .i64 y, .int .i64 t] w fun e w' => e = .returned (.tuple #[.int .i64 (m : Int), .bool true]) ∧ Below w.heap.size w w' := by
  have c1 := fun W => fsub_yes x y hx hy W
  have c2 := fun W => fmul_yes (subQ x y) t (subQ_lt hx) ht W
  have c3 := fun W => gexp_el ha (mulQ_lt (subQ x y) t) hm W
  obtain ⟨s, hs⟩ : ∃ s, subQ x y = s := ⟨_, rfl⟩
  rw [hs] at c1 c2 c3
  obtain ⟨q, hq⟩ : ∃ q, mulQ s t = q := ⟨_, rfl⟩
  rw [hq] at c2 c3
  have H1 := Lib.hid c1; have H2 := Lib.hid c2; have H3 := Lib.hid c3
  clear c1 c2 c3 hs hq hm ha hx hy ht
  go_enter Tryd.func38, Tryd.ntmps38
  have B0 := Lib.hid (Below.refl w.heap.size w)
  go_wp2_with fail
  refine (H1.out _).mono ?_
  rintro e w1 ⟨rfl, b1⟩
  have B1 := Lib.hid (B0.out.trans (b1.mono B0.out.size))
  clear b1 B0
  go_wp2_with fail
  refine (H2.out _).mono ?_
  rintro e w2 ⟨rfl, b2⟩
  have B2 := Lib.hid (B1.out.trans (b2.mono B1.out.size))
  clear b2 B1
  go_wp2_with fail
  refine (H3.out _).mono ?_
  rintro e w3 ⟨rfl, b3⟩
  have B3 := Lib.hid (B2.out.trans (b3.mono B2.out.size))
  clear b3 B2
  go_wp2_with fail
  go_ret2
  exact ⟨rfl, B3.out⟩
end Go.Proofs.YtdcpejfnhegdaaaDoor
