/- The laws of package sign: what is signed is accepted; the contracts that the laws call. -/
import Derived.Test.YtcmabaolpaaonaaDoorSign6
import Derived.Laws.StructEq
set_option linter.unusedVariables false
set_option linter.unusedSimpArgs false
namespace Go.Proofs.YtcmabaolpaaonaaDoor
open Go.RowKit

theorem El4 : El 4 := El.square (x := 2) (by decide) (by decide)
theorem el_lt {a : Nat} (h : El a) : a < 4611686018427377339 := h.2.1
theorem pow4_El (k : Nat) : El (powP 4 k) := powP_pos El4 k
theorem gexpV_el {a k : Nat} (ha : El a) (hk : k < 2305843009213688669) : gexpV (a : Int) (k : Int) = ((powP a k : Nat) : Int) := by
  unfold gexpV; rw [elemB_El ha, scalB_of hk]; rfl
theorem gexpE_el {a k : Nat} (ha : El a) (hk : k < 2305843009213688669) : gexpE (a : Int) (k : Int) = 0 := by
  unfold gexpE; rw [elemB_El ha, scalB_of hk]; rfl
theorem gmulV_el {a b : Nat} (ha : El a) (hb : El b) : gmulV (a : Int) (b : Int) = ((mulP a b : Nat) : Int) := by
  unfold gmulV; rw [elemB_El ha, elemB_El hb]; rfl
theorem gmulE_el {a b : Nat} (ha : El a) (hb : El b) : gmulE (a : Int) (b : Int) = 0 := by
  unfold gmulE; rw [elemB_El ha, elemB_El hb]; rfl
theorem pow4_add (a b : Nat) : powP 4 (addQ a b) = mulP (powP 4 a) (powP 4 b) := by
  unfold addQ; rw [El.pow_mod El4, powP_add]
theorem pow_mulQ {a : Nat} (ha : El a) (j k : Nat) : powP a (mulQ j k) = powP (powP a k) j := by
  unfold mulQ; rw [El.pow_mod ha, powP_powP, Nat.mul_comm]
theorem sig_eq (x : Nat) (m : List UInt8) : powP 4 (sigS x m) = mulP (sigR x m) (powP (pubM x) (chal (pubM x) (sigR x m) m)) := by
  unfold sigS
  rw [pow4_add, pow_mulQ El4]
  rfl
theorem ver_sign (x : Nat) (m : List UInt8) : verB (pubM x) m (sigR x m) (sigS x m) = true := by
  have e1 : El (pubM x) := pow4_El x
  have e2 : El (sigR x m) := pow4_El _
  have sb : sigS x m < 2305843009213688669 := addQ_lt _ _
  unfold verB
  rw [elemB_El e1, elemB_El e2, scalB_of sb, gexp4 sb, gexpV_el e1 (chal_bd _ _ _).2, gmulV_el e2 (powP_pos e1 _), sig_eq]
  simp

/-- the power of 4 tells scalars apart -/
theorem pow4_ne_one : powP 4 1 ≠ 1 := by decide
theorem pow_gcd_one {d q : Nat} (h1 : powP 4 d = 1) (h2 : powP 4 q = 1) (g : Nat.gcd d q = 1) : False := by
  have f1 : 4 ^ d % 4611686018427377339 = 1 % 4611686018427377339 := h1
  have f2 : 4 ^ q % 4611686018427377339 = 1 % 4611686018427377339 := h2
  have f3 := Num.pow_gcd d q f1 f2
  rw [g] at f3
  exact absurd f3 (by decide)
theorem pow4_lt {a b : Nat} (hab : a < b) (hb : b < 2305843009213688669) : powP 4 a ≠ powP 4 b := by
  intro h
  obtain ⟨d, rfl⟩ : ∃ d, b = a + d := ⟨b - a, by omega⟩
  rw [← powP_add] at h
  have e1 := pow4_El a
  have e2 := pow4_El d
  have h1 : powP 4 d = 1 := by
    have h2 : mulP (powP (powP 4 a) 2305843009213688668) (powP 4 a) = mulP (powP (powP 4 a) 2305843009213688668) (mulP (powP 4 a) (powP 4 d)) := by rw [← h]
    rw [← mulP_assoc, mulP_comm (powP (powP 4 a) 2305843009213688668), El.inv e1, mulP_comm 1, mulP_one e2.2.1] at h2
    exact h2.symm
  have g : Nat.gcd d 2305843009213688669 = 1 := by
    rw [Nat.gcd_comm]
    exact Num.coprime_of_not_dvd Num.prQ (Num.not_dvd_small (by omega) (by omega))
  exact pow_gcd_one h1 El4.2.2 g
theorem pow4_inj {a b : Nat} (ha : a < 2305843009213688669) (hb : b < 2305843009213688669) (h : powP 4 a = powP 4 b) : a = b := by
  rcases Nat.lt_trichotomy a b with h1 | h1 | h1
  · exact absurd h (pow4_lt h1 hb)
  · exact h1
  · exact absurd h.symm (pow4_lt h1 ha)
theorem ver_only (x : Nat) (m : List UInt8) (n : Int) : verB (pubM x) m (sigR x m) n = decide (n = (sigS x m : Int)) := by
  have e1 : El (pubM x) := pow4_El x
  have e2 : El (sigR x m) := pow4_El _
  have sb : sigS x m < 2305843009213688669 := addQ_lt _ _
  unfold verB
  rw [elemB_El e1, elemB_El e2, gexpV_el e1 (chal_bd _ _ _).2, gmulV_el e2 (powP_pos e1 _), ← sig_eq]
  cases h : scalB n with
  | false =>
    have := scalB_no h
    simp
    omega
  | true =>
    obtain ⟨k, rfl, hk⟩ := scalB_nat h
    rw [gexp4 hk, Bool.true_and, Bool.true_and, Bool.true_and, decide_eq_decide]
    constructor
    · intro h2
      have h3 : powP 4 k = powP 4 (sigS x m) := by omega
      rw [pow4_inj hk sb h3]
    · intro h2
      obtain rfl : k = sigS x m := by omega
      rfl

/-- what Sign answers -/
def sgR (x : Int) (m : List UInt8) : Int := if privB x then ((sigR x.toNat m : Nat) : Int) else 0
def sgS (x : Int) (m : List UInt8) : Int := if privB x then ((sigS x.toNat m : Nat) : Int) else 0
theorem sign_any (x : Int) (v : Value) (m : List UInt8) (w : World) (hm : m.length ≤ 1000) (hv : BytesAt w v m) (hT : Tab w) :
    Calls Tryd.prog 14 #[.int .i64 x, v] w fun e w' => e = .returned (.tuple #[.agg #[.int .i64 (sgR x m), .int .i64 (sgS x m)], .int .i64 (pubE x)]) ∧ Below w.heap.size w w' := by
  unfold sgR sgS pubE
  cases h : privB x with
  | false => exact sign_no x v w h (by obtain ⟨a, c, e⟩ := hv.slice; exact ⟨a, _, c, e⟩)
  | true =>
    obtain ⟨n, rfl, h1, h2⟩ := priv_nat h
    exact sign_yes n h1 h2 v m w hm hv hT
theorem rsign_any (x : Int) (v : Value) (m : List UInt8) (w : World) (hm : m.length ≤ 1000) (hv : BytesAt w v m) :
    Calls Tryd.prog 15 #[.int .i64 x, v] w fun e w' => e = .returned (.tuple #[.agg #[.int .i64 (sgR x m), .int .i64 (sgS x m)], .int .i64 (pubE x)]) ∧ Below w.heap.size w w' := by
  unfold sgR sgS pubE
  cases h : privB x with
  | false => exact rsign_no x v w h
  | true =>
    obtain ⟨n, rfl, h1, h2⟩ := priv_nat h
    exact rsign_yes n h1 h2 v m w hm hv
/-- at a private key -/
theorem priv_of {x : Nat} (h1 : 1 ≤ x) (h2 : x < 2305843009213688669) : privB (x : Int) = true := by unfold privB; simp only [Bool.and_eq_true, decide_eq_true_eq]; omega
theorem sign_key (x : Nat) (h1 : 1 ≤ x) (h2 : x < 2305843009213688669) (v : Value) (m : List UInt8) (w : World) (hm : m.length ≤ 1000) (hv : BytesAt w v m) (hT : Tab w) :
    Calls Tryd.prog 14 #[.int .i64 (x : Int), v] w fun e w' => e = .returned (.tuple #[.agg #[.int .i64 ((sigR x m : Nat) : Int), .int .i64 ((sigS x m : Nat) : Int)], .int .i64 0]) ∧ Below w.heap.size w w' := sign_yes x h1 h2 v m w hm hv hT
theorem public_key (x : Nat) (h1 : 1 ≤ x) (h2 : x < 2305843009213688669) (w : World) :
    Calls Tryd.prog 12 #[.int .i64 (x : Int)] w fun e w' => e = .returned (.tuple #[.int .i64 ((pubM x : Nat) : Int), .int .i64 0]) ∧ Below w.heap.size w w' := by
  have h := spublic_any (x : Int) w
  rwa [show pubV (x : Int) = ((pubM x : Nat) : Int) by unfold pubV pubM; rw [priv_of h1 h2, if_pos rfl, gexp4 h2], show pubE (x : Int) = 0 by unfold pubE; rw [priv_of h1 h2]; rfl] at h
theorem bytes_nil (w : World) : BytesAt w (.slice none 0 0) [] := .inl ⟨⟨none, 0, rfl, fun _ => rfl⟩, rfl⟩

theorem eql_sig (a b c d : Int) (W : World) : (binOp .eql 30 (.agg #[.int .i64 a, .int .i64 b]) (.agg #[.int .i64 c, .int .i64 d])).run Tryd.prog W = .ok (.bool (a == c && b == d)) W := by
  simp [go_sem]
  (repeat' split) <;> simp_all
theorem neq_sig (a b c d : Int) (W : World) : (binOp .neq 30 (.agg #[.int .i64 a, .int .i64 b]) (.agg #[.int .i64 c, .int .i64 d])).run Tryd.prog W = .ok (.bool !(a == c && b == d)) W := by
  simp [go_sem]
  (repeat' split) <;> simp_all

set_option maxRecDepth 100000 in
set_option maxHeartbeats 4000000 in
theorem sane5_any (w : World) (hT : Tab w) :
    Calls Tryd.prog 10 #[] w fun e w' => e = .returned (.bool true) ∧ Below w.heap.size w w' := by
  have C1 : ∀ W, Calls Tryd.prog 12 #[.int .i64 1] W fun e w' => e = .returned (.tuple #[.int .i64 4, .int .i64 0]) ∧ Below W.heap.size W w' := fun W => public_key 1 (by decide) (by decide) W
  have C2 : ∀ W, Calls Tryd.prog 12 #[.int .i64 0] W fun e w' => e = .returned (.tuple #[.int .i64 0, .int .i64 50]) ∧ Below W.heap.size W w' := fun W => spublic_any 0 W
  have C3 : ∀ W, Calls Tryd.prog 12 #[.int .i64 2305843009213688669] W fun e w' => e = .returned (.tuple #[.int .i64 0, .int .i64 50]) ∧ Below W.heap.size W w' := fun W => spublic_any 2305843009213688669 W
  have C4 : ∀ W, Calls Tryd.prog 14 #[.int .i64 0, .slice none 0 0] W fun e w' => e = .returned (.tuple #[.agg #[.int .i64 0, .int .i64 0], .int .i64 50]) ∧ Below W.heap.size W w' := fun W => sign_no 0 _ W rfl ⟨_, _, _, rfl⟩
  have C5 : ∀ v W, BytesAt W v [7] → Tab W → Calls Tryd.prog 14 #[.int .i64 1, v] W fun e w' => e = .returned (.tuple #[.agg #[.int .i64 ((sigR 1 [7] : Nat) : Int), .int .i64 ((sigS 1 [7] : Nat) : Int)], .int .i64 0]) ∧ Below W.heap.size W w' := fun v W hv hT => sign_key 1 (by decide) (by decide) v _ W (by decide) hv hT
  have C6 : ∀ W, Tab W → Calls Tryd.prog 16 #[.int .i64 0, .slice none 0 0, .agg #[.int .i64 0, .int .i64 0]] W fun e w' => e = .returned (.bool false) ∧ Below W.heap.size W w' := fun W hT => verify_any 0 0 0 _ [] W (by decide) (bytes_nil W) hT
  have C7 : ∀ W, Tab W → Calls Tryd.prog 16 #[.int .i64 4, .slice none 0 0, .agg #[.int .i64 4, .int .i64 2305843009213688669]] W fun e w' => e = .returned (.bool false) ∧ Below W.heap.size W w' := fun W hT => by
    have h := verify_any 4 4 2305843009213688669 _ [] W (by decide) (bytes_nil W) hT
    rwa [show verB 4 [] 4 2305843009213688669 = false by unfold verB; rw [show scalB 2305843009213688669 = false by decide, Bool.and_false, Bool.false_and]] at h
  have C8 : ∀ v W, BytesAt W v [7] → Tab W → Calls Tryd.prog 16 #[.int .i64 4, v, .agg #[.int .i64 ((sigR 1 [7] : Nat) : Int), .int .i64 ((sigS 1 [7] : Nat) : Int)]] W fun e w' => e = .returned (.bool true) ∧ Below W.heap.size W w' := fun v W hv hT => by
    have h := verify_any ((pubM 1 : Nat) : Int) ((sigR 1 [7] : Nat) : Int) ((sigS 1 [7] : Nat) : Int) v [7] W (by decide) hv hT
    rw [ver_sign] at h
    exact h
  have hr : 1 ≤ sigR 1 [7] := (pow4_El _).1
  have H1 := Lib.hid C1; have H2 := Lib.hid C2; have H3 := Lib.hid C3; have H4 := Lib.hid C4
  obtain ⟨R, hR⟩ : ∃ r, sigR 1 [7] = r := ⟨_, rfl⟩
  obtain ⟨S, hS⟩ : ∃ r, sigS 1 [7] = r := ⟨_, rfl⟩
  rw [hR, hS] at C5 C8
  rw [hR] at hr
  have H5 := Lib.hid C5; have H6 := Lib.hid C6; have H7 := Lib.hid C7; have H8 := Lib.hid C8
  have T0 := Lib.hid hT
  have d1 : decide ((0 : Int) < (R : Int)) = true := by rw [decide_eq_true_iff]; omega
  have d2 : decide (0 < R) = true := by rw [decide_eq_true_iff]; omega
  have d3 : 0 < R := by omega
  clear C1 C2 C3 C4 C5 C6 C7 C8 hT hR hS hr
  go_enter Tryd.func10, Tryd.ntmps10
  have B0 := Lib.hid (Below.refl w.heap.size w)
  go_wp2_with fail
  refine (H1.out _).mono ?_
  rintro e w1 ⟨rfl, b1⟩
  have B1 := Lib.hid (B0.out.trans (b1.mono B0.out.size))
  have T1 := Lib.hid (T0.out.below b1)
  clear b1 B0 T0
  go_wp2_with fail
  refine (H2.out _).mono ?_
  rintro e w2 ⟨rfl, b2⟩
  have B2 := Lib.hid (B1.out.trans (b2.mono B1.out.size))
  have T2 := Lib.hid (T1.out.below b2)
  clear b2 B1 T1
  go_wp2_with fail
  refine (H3.out _).mono ?_
  rintro e w3 ⟨rfl, b3⟩
  have B3 := Lib.hid (B2.out.trans (b3.mono B2.out.size))
  have T3 := Lib.hid (T2.out.below b3)
  clear b3 B2 T2
  go_wp2_with fail
  refine (H4.out _).mono ?_
  rintro e w4 ⟨rfl, b4⟩
  have B4 := Lib.hid (B3.out.trans (b4.mono B3.out.size))
  have T4 := Lib.hid (T3.out.below b4)
  clear b4 B3 T3
  go_wp2_with fail
  obtain ⟨w5, hw5⟩ : ∃ y, w4.alloc (.cells #[.int .i64 0, .int .i64 0] 30) = y := ⟨_, rfl⟩
  have b5 : Below w4.heap.size w4 w5 := by rw [← hw5]; exact (Below.refl _ _).alloc (Nat.le_refl _) _
  have z5 : w4.heap.size + 1 = w5.heap.size := by rw [← hw5]; exact (Array.size_push _).symm
  rw [hw5]
  (try rw [z5])
  have B5 := Lib.hid (B4.out.trans (b5.mono B4.out.size))
  have T5 := Lib.hid (T4.out.below b5)
  clear b5 hw5 z5 B4 T4
  obtain ⟨w6, hw6⟩ : ∃ y, w5.alloc (.cells #[.int .u8 7] 5) = y := ⟨_, rfl⟩
  have b6 : Below w5.heap.size w5 w6 := by rw [← hw6]; exact (Below.refl _ _).alloc (Nat.le_refl _) _
  have Y6 : Hid (BytesAt w6 (.slice (some ⟨w5.heap.size, 0, none⟩) 1 1) [7]) := Lib.hid (by rw [← hw6]; exact one_byte w5 7)
  have z6 : w5.heap.size + 1 = w6.heap.size := by rw [← hw6]; exact (Array.size_push _).symm
  rw [hw6]
  (try rw [z6])
  have B6 := Lib.hid (B5.out.trans (b6.mono B5.out.size))
  have T6 := Lib.hid (T5.out.below b6)
  clear b6 hw6 z6 B5 T5
  go_wp2_with fail
  refine (H5.out _ _ Y6.out T6.out).mono ?_
  rintro e w7 ⟨rfl, b7⟩
  have B7 := Lib.hid (B6.out.trans (b7.mono B6.out.size))
  have T7 := Lib.hid (T6.out.below b7)
  have Y7 := Lib.hid (Y6.out.below b7)
  clear b7 B6 T6 Y6
  clear Y7
  go_wp2_with fail
  obtain ⟨w8, hw8⟩ : ∃ y, w7.alloc (.cells #[.int .i64 (R : Int), .int .i64 (S : Int)] 30) = y := ⟨_, rfl⟩
  have b8 : Below w7.heap.size w7 w8 := by rw [← hw8]; exact (Below.refl _ _).alloc (Nat.le_refl _) _
  have P8 : Hid (RowV w8 w7.heap.size 30 2 (sigF R S)) := Lib.hid (by rw [← hw8]; exact RowV.new w7 _ 2 (sigF R S))
  have z8 : w7.heap.size + 1 = w8.heap.size := by rw [← hw8]; exact (Array.size_push _).symm
  rw [hw8]
  (try rw [z8])
  have B8 := Lib.hid (B7.out.trans (b8.mono B7.out.size))
  have T8 := Lib.hid (T7.out.below b8)
  clear b8 hw8 z8 B7 T7
  obtain ⟨w9, hw9⟩ : ∃ y, w8.alloc (.cells #[.int .u8 7] 5) = y := ⟨_, rfl⟩
  have b9 : Below w8.heap.size w8 w9 := by rw [← hw9]; exact (Below.refl _ _).alloc (Nat.le_refl _) _
  have Y9 : Hid (BytesAt w9 (.slice (some ⟨w8.heap.size, 0, none⟩) 1 1) [7]) := Lib.hid (by rw [← hw9]; exact one_byte w8 7)
  have z9 : w8.heap.size + 1 = w9.heap.size := by rw [← hw9]; exact (Array.size_push _).symm
  rw [hw9]
  (try rw [z9])
  have B9 := Lib.hid (B8.out.trans (b9.mono B8.out.size))
  have T9 := Lib.hid (T8.out.below b9)
  have P9 := Lib.hid (P8.out.below b9)
  clear b9 hw9 z9 B8 T8 P8
  go_wp2_with fail
  refine (H5.out _ _ Y9.out T9.out).mono ?_
  rintro e w10 ⟨rfl, b10⟩
  have B10 := Lib.hid (B9.out.trans (b10.mono B9.out.size))
  have T10 := Lib.hid (T9.out.below b10)
  have P10 := Lib.hid (P9.out.below b10)
  have Y10 := Lib.hid (Y9.out.below b10)
  clear b10 B9 T9 P9 Y9
  clear Y10
  go_upto_region 7 with fail
  obtain ⟨w11, hw11⟩ : ∃ y, w10.alloc (.cells #[.int .i64 (R : Int), .int .i64 (S : Int)] 30) = y := ⟨_, rfl⟩
  have b11 : Below w10.heap.size w10 w11 := by rw [← hw11]; exact (Below.refl _ _).alloc (Nat.le_refl _) _
  have Q11 : Hid (RowV w11 w10.heap.size 30 2 (sigF R S)) := Lib.hid (by rw [← hw11]; exact RowV.new w10 _ 2 (sigF R S))
  have z11 : w10.heap.size + 1 = w11.heap.size := by rw [← hw11]; exact (Array.size_push _).symm
  rw [hw11]
  (try rw [z11])
  have B11 := Lib.hid (B10.out.trans (b11.mono B10.out.size))
  have T11 := Lib.hid (T10.out.below b11)
  have P11 := Lib.hid (P10.out.below b11)
  clear b11 hw11 z11 B10 T10 P10
  have x0 : w11.cell? ⟨w7.heap.size, 0, none⟩ = some (.int .i64 (R : Int)) := P11.out.cell (i := 0) (by decide)
  have x1 : w11.cell? ⟨w7.heap.size, 1, none⟩ = some (.int .i64 (S : Int)) := P11.out.cell (i := 1) (by decide)
  have y0 : w11.cell? ⟨w10.heap.size, 0, none⟩ = some (.int .i64 (R : Int)) := Q11.out.cell (i := 0) (by decide)
  have y1 : w11.cell? ⟨w10.heap.size, 1, none⟩ = some (.int .i64 (S : Int)) := Q11.out.cell (i := 1) (by decide)
  go_wp2_with fail
  refine (H6.out _ T11.out).mono ?_
  rintro e w12 ⟨rfl, b12⟩
  have B12 := Lib.hid (B11.out.trans (b12.mono B11.out.size))
  have T12 := Lib.hid (T11.out.below b12)
  have P12 := Lib.hid (P11.out.below b12)
  have Q12 := Lib.hid (Q11.out.below b12)
  clear b12 B11 T11 P11 Q11
  clear x0 x1 y0 y1
  go_wp2_with fail
  refine (H7.out _ T12.out).mono ?_
  rintro e w13 ⟨rfl, b13⟩
  have B13 := Lib.hid (B12.out.trans (b13.mono B12.out.size))
  have T13 := Lib.hid (T12.out.below b13)
  have P13 := Lib.hid (P12.out.below b13)
  have Q13 := Lib.hid (Q12.out.below b13)
  clear b13 B12 T12 P12 Q12
  have P14 := P13.out.alloc (.cells #[.int .u8 7] 5)
  have x0 : (w13.alloc (.cells #[.int .u8 7] 5)).cell? ⟨w7.heap.size, 0, none⟩ = some (.int .i64 (R : Int)) := P14.cell (i := 0) (by decide)
  have x1 : (w13.alloc (.cells #[.int .u8 7] 5)).cell? ⟨w7.heap.size, 1, none⟩ = some (.int .i64 (S : Int)) := P14.cell (i := 1) (by decide)
  clear P14
  go_wp2_with fail
  obtain ⟨w14, hw14⟩ : ∃ y, w13.alloc (.cells #[.int .u8 7] 5) = y := ⟨_, rfl⟩
  have b14 : Below w13.heap.size w13 w14 := by rw [← hw14]; exact (Below.refl _ _).alloc (Nat.le_refl _) _
  have Y14 : Hid (BytesAt w14 (.slice (some ⟨w13.heap.size, 0, none⟩) 1 1) [7]) := Lib.hid (by rw [← hw14]; exact one_byte w13 7)
  have z14 : w13.heap.size + 1 = w14.heap.size := by rw [← hw14]; exact (Array.size_push _).symm
  rw [hw14]
  (try rw [z14])
  have B14 := Lib.hid (B13.out.trans (b14.mono B13.out.size))
  have T14 := Lib.hid (T13.out.below b14)
  have P14 := Lib.hid (P13.out.below b14)
  have Q14 := Lib.hid (Q13.out.below b14)
  clear b14 hw14 z14 B13 T13 P13 Q13
  go_wp2_with fail
  refine (H8.out _ _ Y14.out T14.out).mono ?_
  rintro e w15 ⟨rfl, b15⟩
  have B15 := Lib.hid (B14.out.trans (b15.mono B14.out.size))
  have T15 := Lib.hid (T14.out.below b15)
  have P15 := Lib.hid (P14.out.below b15)
  have Q15 := Lib.hid (Q14.out.below b15)
  have Y15 := Lib.hid (Y14.out.below b15)
  clear b15 B14 T14 P14 Q14 Y14
  go_wp2_with fail
  go_ret
  exact ⟨rfl, B15.out⟩
end Go.Proofs.YtcmabaolpaaonaaDoor
