/- The reference of package sign: Sign, Verify. The reference of package sign: Verify. The laws of package sign: what is signed is accepted; the contracts that the laws call. -/
import Derived.Test.YtpekhdahamloaaaGreatDoorPk31
import Derived.Laws.StructEq
set_option linter.unusedVariables false
set_option linter.unusedSimpArgs false
namespace Go.Proofs.YtpekhdahamloaaaGreatDoor
open Go.RowKit
set_option maxRecDepth 100000 in
set_option maxHeartbeats 4000000 in
theorem rsign_no (x : Int) (v : Value) (w : World) (hx : privB x = false) :
    Calls Tryz.prog 90 #[.int .i64 x, v] w fun e w' => e = .returned (.tuple #[.agg (rowF 2 (sigF 0 0)), .int .i64 50]) ∧ Below w.heap.size w w' := by
  have C1 := fun W => rpublic5_any x W
  have e1 : pubE x = 50 := by unfold pubE; rw [hx]; rfl
  rw [e1] at C1
  obtain ⟨p, hp⟩ : ∃ p, pubV x = p := ⟨_, rfl⟩
  rw [hp] at C1
  have H1 := Lib.hid C1
  clear C1 hx e1 hp
  have R0 := Lib.hid (RowV.new w 42 2 (sigF 0 0))
  go_enter Tryz.func90, Tryz.ntmps90
  go_wp2_with fail
  refine (H1.out _).mono ?_
  rintro e w1 ⟨rfl, rfl⟩
  go_wp2_with fail
  refine bodyPost_ret (v := .tuple #[.agg (rowF 2 (sigF 0 0)), .int .i64 50]) (by exact results_rowV2 (fn := Tryz.f90) (p := 4) (u := 5) (ty := 42) rfl _ _ w.heap.size 2 42 (sigF 0 0) _ rfl R0.out Tryz.underlying42 rfl (by kernel_rfl)) rfl ⟨rfl, ?_⟩
  exact (Below.refl _ w).alloc (Nat.le_refl _) _

theorem nums_msg (x : Int) (m : List UInt8) : scalarM sNonce.data.toList (num8 x ++ m) = nonceM x m := by unfold nonceM hashM; rw [nums8_one]

set_option maxRecDepth 100000 in
set_option maxHeartbeats 4000000 in
theorem rsign_yes (x : Nat) (hx1 : 1 ≤ x) (hx2 : x < 2305843009213688669) (v : Value) (m : List UInt8) (w : World) (hm : m.length ≤ 1000) (hv : BytesAt w v m) :
    Calls Tryz.prog 90 #[.int .i64 (x : Int), v] w fun e w' => e = .returned (.tuple #[.agg (rowF 2 (sigF (sigR x m) (sigS x m))), .int .i64 0]) ∧ Below w.heap.size w w' := by
  have hp : privB (x : Int) = true := by unfold privB; simp only [Bool.and_eq_true, decide_eq_true_eq]; omega
  have nb : 1 ≤ nonceM (x : Int) m ∧ nonceM (x : Int) m < 2305843009213688669 := hashM_bd sNonce.data.toList m [(x : Int)]
  have cb := chal_bd (pubM x) (sigR x m) m
  have C1 := fun W => rpublic5_any (x : Int) W
  have C2 := fun W => rbase_any ((nonceM (x : Int) m : Nat) : Int) W
  have C4 := fun W => rmul3_any ((chal (pubM x) (sigR x m) m : Nat) : Int) (x : Int) W
  have C5 := fun W => radd3_any ((nonceM (x : Int) m : Nat) : Int) ((mulQ (chal (pubM x) (sigR x m) m) x : Nat) : Int) W
  rw [show pubV (x : Int) = ((pubM x : Nat) : Int) by unfold pubV pubM; rw [hp, if_pos rfl, gexp4 hx2], show pubE (x : Int) = 0 by unfold pubE; rw [hp]; rfl] at C1
  rw [gexp4 nb.2, gexpE4 (scalB_of nb.2), show powP 4 (nonceM (x : Int) m) = sigR x m from rfl] at C2
  rw [show fmul ((chal (pubM x) (sigR x m) m : Nat) : Int) (x : Int) = ((mulQ (chal (pubM x) (sigR x m) m) x : Nat) : Int) by unfold fmul; rw [scalB_of cb.2, scalB_of hx2]; rfl, show f2E ((chal (pubM x) (sigR x m) m : Nat) : Int) (x : Int) = 0 by unfold f2E; rw [scalB_of cb.2, scalB_of hx2]; rfl] at C4
  rw [show fadd ((nonceM (x : Int) m : Nat) : Int) ((mulQ (chal (pubM x) (sigR x m) m) x : Nat) : Int) = ((sigS x m : Nat) : Int) by unfold fadd; rw [scalB_of nb.2, scalB_of (mulQ_lt _ _)]; rfl, show f2E ((nonceM (x : Int) m : Nat) : Int) ((mulQ (chal (pubM x) (sigR x m) m) x : Nat) : Int) = 0 by unfold f2E; rw [scalB_of nb.2, scalB_of (mulQ_lt _ _)]; rfl] at C5
  have C3 : ∀ u W, BytesAt W u m → Calls Tryz.prog 133 #[.int .i64 ((pubM x : Nat) : Int), .int .i64 ((sigR x m : Nat) : Int), u] W fun e w' => e = .returned (.int .i64 ((chal (pubM x) (sigR x m) m : Nat) : Int)) ∧ Below W.heap.size W w' := fun u W h => rchallenge_any _ _ u m W hm h
  have L1 := Lib.hid (show (num8 (x : Int)).length + m.length ≤ 140737488351232 from by rw [num8_len]; omega)
  have L2 := Lib.hid (show (num8 (x : Int) ++ m).length ≤ 1000000 from by rw [List.length_append, num8_len]; omega)
  obtain ⟨va, vc, rfl⟩ := hv.slice
  have Hv := Lib.hid hv
  have Hm := Lib.hid hm
  have H0 := Lib.hid (fun W => rbytes_any (x : Int) W)
  have H1 := Lib.hid C1
  have H2 := Lib.hid C2
  have H3 := Lib.hid C3
  have H4 := Lib.hid C4
  have H5 := Lib.hid C5
  have R0 := Lib.hid (RowV.new w 42 2 (sigF 0 0))
  have A0 := Lib.hid ((Below.refl _ w).alloc (Nat.le_refl _) (.cells (rowF 2 (sigF 0 0)) 42))
  have N0 := Lib.hid (nums_msg (x : Int) m)
  obtain ⟨k, hk⟩ : ∃ k, nonceM (x : Int) m = k := ⟨_, rfl⟩
  obtain ⟨c, hc⟩ : ∃ c, chal (pubM x) (sigR x m) m = c := ⟨_, rfl⟩
  obtain ⟨q, hq⟩ : ∃ q, mulQ c x = q := ⟨_, rfl⟩
  rw [hk] at H2 H5 N0
  rw [hc] at H3 H4 H5
  rw [hq] at H4 H5
  obtain ⟨R, hR⟩ : ∃ r, sigR x m = r := ⟨_, rfl⟩
  obtain ⟨S, hS⟩ : ∃ r, sigS x m = r := ⟨_, rfl⟩
  obtain ⟨pk, hpk⟩ : ∃ r, pubM x = r := ⟨_, rfl⟩
  rw [hR] at H2 H3 ⊢
  rw [hS] at H5 ⊢
  rw [hpk] at H1 H3
  clear C1 C2 C3 C4 C5 hv hm hp nb cb hx1 hx2 hk hc hq hR hS hpk
  go_enter Tryz.func90, Tryz.ntmps90
  go_wp2_with fail
  refine (H1.out _).mono ?_
  rintro e w0 ⟨rfl, rfl⟩
  obtain ⟨w1, hw1⟩ : ∃ y, w.alloc (.cells (rowF 2 (sigF 0 0)) 42) = y := ⟨_, rfl⟩
  have hw2 : w.alloc (.cells #[.int .i64 0, .int .i64 0] 42) = w1 := hw1
  rw [hw1] at R0 A0
  rw [hw2]
  clear hw1 hw2
  obtain ⟨bs, hbs⟩ : ∃ y, w.heap.size = y := ⟨_, rfl⟩
  have Hbs := Lib.hid hbs
  rw [hbs] at R0 ⊢
  clear hbs
  go_wp2_with fail
  refine (H0.out _).mono ?_
  rintro e w2 ⟨⟨u, rfl, o2⟩, b2⟩
  have O2 := Lib.hid o2
  have G0 := Lib.hid R0.out.lt
  have B2 := Lib.hid (A0.out.trans (b2.mono A0.out.size))
  have R2 := Lib.hid (R0.out.below b2)
  have G2 := Lib.hid b2.size
  obtain ⟨a1, c1, rfl⟩ := o2.slice
  clear o2 b2 R0
  go_wp2_with ((with_reducible (show wpList _ _ _ (Oper.mk (some 27) _ _ _ _ _ :: _) _ _)); refine wpList_append_bytes rfl (.tmp 25) (.tmp 26) rfl w1.heap.size (.slice a1 (num8 (x : Int)).length c1) (.slice va m.length vc) _ _ rfl rfl O2.out (Hv.out.below B2.out) L1.out G2.out ?_; intro v3 w3 O3 B3 _)
  have B3' := B2.out.trans (B3.out.mono A0.out.size)
  have R3 := Lib.hid (R2.out.belowK G0.out B3.out)
  refine (rscalar_any sNonce v3 (num8 (x : Int) ++ m) w3 (by decide) L2.out (O3.out.bytesAt (by have := L2.out; omega))).mono ?_
  rintro e w4 ⟨rfl, b4⟩
  rw [N0.out]
  have B4 := Lib.hid (B3'.trans (b4.mono B3'.size))
  have R4 := Lib.hid (R3.out.below b4)
  clear b4 B3' R3
  go_wp2_with fail
  refine (H2.out _).mono ?_
  rintro e w5 ⟨rfl, rfl⟩
  go_wp2_with fail
  refine (H3.out _ _ (Hv.out.below B4.out)).mono ?_
  rintro e w5 ⟨rfl, b5⟩
  have B5 := Lib.hid (B4.out.trans (b5.mono B4.out.size))
  have R5 := Lib.hid (R4.out.below b5)
  clear b5 B4 R4
  go_wp2_with fail
  refine (H4.out _).mono ?_
  rintro e w6 ⟨rfl, rfl⟩
  go_wp2_with fail
  refine (H5.out _).mono ?_
  rintro e w6 ⟨rfl, rfl⟩
  go_wp2_with ((with_reducible (show wpList _ _ _ (Oper.mk none _ _ _ _ _ :: _) _ _)); refine wpList_store_rowV (o := ⟨none, .store 42 (.tmp 4) (.tmp 51), _, _, _, _⟩) rfl 42 (.tmp 4) (.tmp 51) rfl bs rfl 2 42 _ (sigF ((R : Nat) : Int) ((S : Nat) : Int)) rfl R5.out (by kernel_rfl) (fun j _ => by unfold sigF; split <;> rfl) ?_; intro w9 R9 O9)
  refine bodyPost_ret (v := .tuple #[.agg (rowF 2 (sigF ((R : Nat) : Int) ((S : Nat) : Int))), .int .i64 0]) (by exact results_rowV2 (fn := Tryz.f90) (p := 4) (u := 5) (ty := 42) rfl _ _ bs 2 42 _ _ rfl R9.out Tryz.underlying42 rfl (by kernel_rfl)) rfl ⟨rfl, ?_⟩
  exact B5.out.trans (O9.out.below (by rw [Hbs.out]; exact Nat.le_refl _) B5.out.size)
end Go.Proofs.YtpekhdahamloaaaGreatDoor

namespace Go.Proofs.YtpekhdahamloaaaGreatDoor
open Go.RowKit
theorem chk_t {a : Int} (h : elemB a = true) : chk a = 0 := by unfold chk; rw [h]; rfl
theorem chk_f {a : Int} (h : elemB a = false) : chk a = 40 := by unfold chk; rw [h]; rfl
end Go.Proofs.YtpekhdahamloaaaGreatDoor

namespace Go.Proofs.YtpekhdahamloaaaGreatDoor
open Go.RowKit

theorem el_lt {a : Nat} (h : El a) : a < 4611686018427377339 := h.2.1
theorem pow4_El (k : Nat) : El (powP 4 k) := powP_pos El4 k
theorem pow4_add (a b : Nat) : powP 4 (addQ a b) = mulP (powP 4 a) (powP 4 b) := by
  unfold addQ; rw [El.pow_mod El4, powP_add]
theorem pow_mulQ {a : Nat} (ha : El a) (j k : Nat) : powP a (mulQ j k) = powP (powP a k) j := by
  unfold mulQ; rw [El.pow_mod ha, powP_powP, Nat.mul_comm]
theorem sig_eq (x : Nat) (m : List UInt8) : powP 4 (sigS x m) = mulP (sigR x m) (powP (pubM x) (chal (pubM x) (sigR x m) m)) := by
  unfold sigS
  rw [pow4_add, pow_mulQ El4]
  rfl
theorem ver_sign (x : Nat) (m : List UInt8) : verB (pubM x) m (sigR x m) (sigS x m) = true := by
  have e1 : El (pubM x) := pow4_El x
  have e2 : El (sigR x m) := pow4_El _
  have sb : sigS x m < 2305843009213688669 := addQ_lt _ _
  unfold verB
  rw [elemB_El e1, elemB_El e2, scalB_of sb, gexp4 sb, gexpV_el e1 (chal_bd _ _ _).2, gmulV_el e2 (powP_pos e1 _), sig_eq]
  simp

/-- the power of 4 tells scalars apart -/
theorem pow4_ne_one : powP 4 1 ≠ 1 := by decide
theorem pow_gcd_one {d q : Nat} (h1 : powP 4 d = 1) (h2 : powP 4 q = 1) (g : Nat.gcd d q = 1) : False := by
  have f1 : 4 ^ d % 4611686018427377339 = 1 % 4611686018427377339 := h1
  have f2 : 4 ^ q % 4611686018427377339 = 1 % 4611686018427377339 := h2
  have f3 := Num.pow_gcd d q f1 f2
  rw [g] at f3
  exact absurd f3 (by decide)
theorem pow4_lt {a b : Nat} (hab : a < b) (hb : b < 2305843009213688669) : powP 4 a ≠ powP 4 b := by
  intro h
  obtain ⟨d, rfl⟩ : ∃ d, b = a + d := ⟨b - a, by omega⟩
  rw [← powP_add] at h
  have e1 := pow4_El a
  have e2 := pow4_El d
  have h1 : powP 4 d = 1 := by
    have h2 : mulP (powP (powP 4 a) 2305843009213688668) (powP 4 a) = mulP (powP (powP 4 a) 2305843009213688668) (mulP (powP 4 a) (powP 4 d)) := by rw [← h]
    rw [← mulP_assoc, mulP_comm (powP (powP 4 a) 2305843009213688668), El.inv e1, mulP_comm 1, mulP_one e2.2.1] at h2
    exact h2.symm
  have g : Nat.gcd d 2305843009213688669 = 1 := by
    rw [Nat.gcd_comm]
    exact Num.coprime_of_not_dvd Num.prQ (Num.not_dvd_small (by omega) (by omega))
  exact pow_gcd_one h1 El4.2.2 g
theorem pow4_inj {a b : Nat} (ha : a < 2305843009213688669) (hb : b < 2305843009213688669) (h : powP 4 a = powP 4 b) : a = b := by
  rcases Nat.lt_trichotomy a b with h1 | h1 | h1
  · exact absurd h (pow4_lt h1 hb)
  · exact h1
  · exact absurd h.symm (pow4_lt h1 ha)
theorem ver_only (x : Nat) (m : List UInt8) (n : Int) : verB (pubM x) m (sigR x m) n = decide (n = (sigS x m : Int)) := by
  have e1 : El (pubM x) := pow4_El x
  have e2 : El (sigR x m) := pow4_El _
  have sb : sigS x m < 2305843009213688669 := addQ_lt _ _
  unfold verB
  rw [elemB_El e1, elemB_El e2, gexpV_el e1 (chal_bd _ _ _).2, gmulV_el e2 (powP_pos e1 _), ← sig_eq]
  cases h : scalB n with
  | false =>
    have := scalB_no h
    simp
    omega
  | true =>
    obtain ⟨k, rfl, hk⟩ := scalB_nat h
    rw [gexp4 hk, Bool.true_and, Bool.true_and, Bool.true_and, decide_eq_decide]
    constructor
    · intro h2
      have h3 : powP 4 k = powP 4 (sigS x m) := by omega
      rw [pow4_inj hk sb h3]
    · intro h2
      obtain rfl : k = sigS x m := by omega
      rfl

/-- what Sign answers -/
def sgR (x : Int) (m : List UInt8) : Int := if privB x then ((sigR x.toNat m : Nat) : Int) else 0
def sgS (x : Int) (m : List UInt8) : Int := if privB x then ((sigS x.toNat m : Nat) : Int) else 0
theorem sign_any (x : Int) (v : Value) (m : List UInt8) (w : World) (hm : m.length ≤ 1000) (hv : BytesAt w v m) (hT : Tab w) :
    Calls Tryz.prog 51 #[.int .i64 x, v] w fun e w' => e = .returned (.tuple #[.agg #[.int .i64 (sgR x m), .int .i64 (sgS x m)], .int .i64 (pubE x)]) ∧ Below w.heap.size w w' := by
  unfold sgR sgS pubE
  cases h : privB x with
  | false => exact sign_no x v w h (by obtain ⟨a, c, e⟩ := hv.slice; exact ⟨a, _, c, e⟩)
  | true =>
    obtain ⟨n, rfl, h1, h2⟩ := priv_nat h
    exact sign_yes n h1 h2 v m w hm hv hT
theorem rsign_any (x : Int) (v : Value) (m : List UInt8) (w : World) (hm : m.length ≤ 1000) (hv : BytesAt w v m) :
    Calls Tryz.prog 90 #[.int .i64 x, v] w fun e w' => e = .returned (.tuple #[.agg #[.int .i64 (sgR x m), .int .i64 (sgS x m)], .int .i64 (pubE x)]) ∧ Below w.heap.size w w' := by
  unfold sgR sgS pubE
  cases h : privB x with
  | false => exact rsign_no x v w h
  | true =>
    obtain ⟨n, rfl, h1, h2⟩ := priv_nat h
    exact rsign_yes n h1 h2 v m w hm hv
/-- at a private key -/
theorem priv_of {x : Nat} (h1 : 1 ≤ x) (h2 : x < 2305843009213688669) : privB (x : Int) = true := by unfold privB; simp only [Bool.and_eq_true, decide_eq_true_eq]; omega
theorem sign_key (x : Nat) (h1 : 1 ≤ x) (h2 : x < 2305843009213688669) (v : Value) (m : List UInt8) (w : World) (hm : m.length ≤ 1000) (hv : BytesAt w v m) (hT : Tab w) :
    Calls Tryz.prog 51 #[.int .i64 (x : Int), v] w fun e w' => e = .returned (.tuple #[.agg #[.int .i64 ((sigR x m : Nat) : Int), .int .i64 ((sigS x m : Nat) : Int)], .int .i64 0]) ∧ Below w.heap.size w w' := sign_yes x h1 h2 v m w hm hv hT
theorem public_key (x : Nat) (h1 : 1 ≤ x) (h2 : x < 2305843009213688669) (w : World) :
    Calls Tryz.prog 28 #[.int .i64 (x : Int)] w fun e w' => e = .returned (.tuple #[.int .i64 ((pubM x : Nat) : Int), .int .i64 0]) ∧ Below w.heap.size w w' := by
  have h := spublic_any (x : Int) w
  rwa [show pubV (x : Int) = ((pubM x : Nat) : Int) by unfold pubV pubM; rw [priv_of h1 h2, if_pos rfl, gexp4 h2], show pubE (x : Int) = 0 by unfold pubE; rw [priv_of h1 h2]; rfl] at h
theorem bytes_nil (w : World) : BytesAt w (.slice none 0 0) [] := .inl ⟨⟨none, 0, rfl, fun _ => rfl⟩, rfl⟩

theorem eql_sig (a b c d : Int) (W : World) : (binOp .eql 42 (.agg #[.int .i64 a, .int .i64 b]) (.agg #[.int .i64 c, .int .i64 d])).run Tryz.prog W = .ok (.bool (a == c && b == d)) W := by
  simp [go_sem]
  (repeat' split) <;> simp_all
theorem neq_sig (a b c d : Int) (W : World) : (binOp .neq 42 (.agg #[.int .i64 a, .int .i64 b]) (.agg #[.int .i64 c, .int .i64 d])).run Tryz.prog W = .ok (.bool !(a == c && b == d)) W := by
  simp [go_sem]
  (repeat' split) <;> simp_all

end Go.Proofs.YtpekhdahamloaaaGreatDoor
