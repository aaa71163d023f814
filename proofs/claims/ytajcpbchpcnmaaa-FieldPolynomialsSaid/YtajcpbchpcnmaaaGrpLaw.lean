/- The group of squares modulo P, in plain numbers: elements, products, powers, inverses, roots, halves. No program in sight. -/
import Derived.Test.YtajcpbchpcnmaaaNum
set_option linter.unusedVariables false
set_option linter.unusedSimpArgs false
namespace Go.Proofs.Ytajcpbchpcnmaaa

def El (n : Nat) : Prop := 1 ≤ n ∧ n < 4611686018427377339 ∧ powP n 2305843009213688669 = 1

theorem mulP_comm (a b : Nat) : mulP a b = mulP b a := by unfold mulP; rw [Nat.mul_comm]
theorem mulP_assoc (a b c : Nat) : mulP (mulP a b) c = mulP a (mulP b c) := by
  unfold mulP; rw [Nat.mod_mul_mod, Nat.mul_mod_mod, Nat.mul_assoc]
theorem mulP_one {a : Nat} (h : a < 4611686018427377339) : mulP a 1 = a := by unfold mulP; rw [Nat.mul_one, Nat.mod_eq_of_lt h]
theorem powP_mulP (a b k : Nat) : powP (mulP a b) k = mulP (powP a k) (powP b k) := by
  unfold powP mulP; rw [← Nat.pow_mod, Nat.mul_pow, ← Nat.mul_mod]
theorem powP_add (a j k : Nat) : mulP (powP a j) (powP a k) = powP a (j + k) := powmul _ a j k
theorem powP_powP (a j k : Nat) : powP (powP a j) k = powP a (j * k) := by
  unfold powP; rw [← Nat.pow_mod, Nat.pow_mul]
theorem powP_zero (a : Nat) : powP a 0 = 1 := rfl
theorem powP_one {a : Nat} (h : a < 4611686018427377339) : powP a 1 = a := by unfold powP; rw [Nat.pow_one, Nat.mod_eq_of_lt h]
theorem zero_powP {k : Nat} (h : 0 < k) : powP 0 k = 0 := by unfold powP; rw [Nat.zero_pow h]
theorem one_powP (k : Nat) : powP 1 k = 1 := by unfold powP; rw [Nat.one_pow]
theorem mulP_pos_of {a b : Nat} (ha : El a) (hb : El b) : 1 ≤ mulP a b := by
  rcases Nat.eq_zero_or_pos (mulP a b) with h | h
  · have h1 : powP (mulP a b) 2305843009213688669 = 1 := by rw [powP_mulP, ha.2.2, hb.2.2]; rfl
    rw [h, zero_powP (by decide)] at h1
    cases h1
  · exact h
theorem El.mul {a b : Nat} (ha : El a) (hb : El b) : El (mulP a b) :=
  ⟨mulP_pos_of ha hb, mulP_lt _ _, by rw [powP_mulP, ha.2.2, hb.2.2]; rfl⟩
theorem El.one : El 1 := ⟨by decide, by decide, one_powP _⟩
theorem powP_pos {a : Nat} (ha : El a) (k : Nat) : El (powP a k) := by
  have h1 : powP (powP a k) 2305843009213688669 = 1 := by
    rw [powP_powP, Nat.mul_comm, ← powP_powP, ha.2.2, one_powP]
  refine ⟨?_, powP_lt _ _, h1⟩
  rcases Nat.eq_zero_or_pos (powP a k) with h | h
  · rw [h, zero_powP (by decide)] at h1
    cases h1
  · exact h
/-- the inverse -/
theorem El.inv {a : Nat} (ha : El a) : mulP a (powP a 2305843009213688668) = 1 := by
  have : mulP (powP a 1) (powP a 2305843009213688668) = powP a (1 + 2305843009213688668) := powP_add a 1 _
  rw [powP_one ha.2.1, show 1 + 2305843009213688668 = 2305843009213688669 from by decide] at this
  rw [this]; exact ha.2.2
/-- exponents count modulo Q -/
theorem El.pow_mod {a : Nat} (ha : El a) (k : Nat) : powP a (k % 2305843009213688669) = powP a k := by
  have h : k = 2305843009213688669 * (k / 2305843009213688669) + k % 2305843009213688669 := (Nat.div_add_mod _ _).symm
  have e : powP a k = mulP (powP a (2305843009213688669 * (k / 2305843009213688669))) (powP a (k % 2305843009213688669)) := by
    rw [powP_add, ← h]
  rw [e, ← powP_powP, ha.2.2, one_powP]
  unfold mulP
  rw [Nat.one_mul, Nat.mod_eq_of_lt (powP_lt _ _)]

/-- Fermat modulo P -/
theorem fermatP_of {x k : Nat} (h0 : 0 < x) (h1 : x < 4611686018427377339) (hk : k = 4611686018427377339 - 1) : powP x k = 1 := by
  have h := Num.fermat Num.prP (Num.not_dvd_small h0 h1)
  rw [← hk] at h
  exact h
theorem fermatQ_of {x k : Nat} (h0 : 0 < x) (h1 : x < 2305843009213688669) (hk : k = 2305843009213688669 - 1) : powQ x k = 1 := by
  have h := Num.fermat Num.prQ (Num.not_dvd_small h0 h1)
  rw [← hk] at h
  exact h
theorem fermatP {x : Nat} (h0 : 0 < x) (h1 : x < 4611686018427377339) : powP x 4611686018427377338 = 1 := fermatP_of h0 h1 (by decide)
theorem fermatQ {x : Nat} (h0 : 0 < x) (h1 : x < 2305843009213688669) : powQ x 2305843009213688668 = 1 := fermatQ_of h0 h1 (by decide)

/-- a square is an element, unless it is 0 -/
theorem El.square {x : Nat} (h0 : 0 < x) (h1 : x < 4611686018427377339) : El (mulP x x) := by
  have e : powP (mulP x x) 2305843009213688669 = 1 := by
    have : mulP x x = powP x 2 := by unfold mulP powP; rw [Nat.pow_two]
    rw [this, powP_powP, show 2 * 2305843009213688669 = 4611686018427377338 from by decide]
    exact fermatP h0 h1
  refine ⟨?_, mulP_lt _ _, e⟩
  rcases Nat.eq_zero_or_pos (mulP x x) with h | h
  · rw [h, zero_powP (by decide)] at e
    cases e
  · exact h

theorem neg_one_pow {k : Nat} (hk : k % 2 = 1) : powP 4611686018427377338 k = 4611686018427377338 := by
  have e : k = 2 * (k / 2) + 1 := by omega
  have h2 : powP 4611686018427377338 2 = 1 := by decide +kernel
  rw [e, ← powP_add, ← powP_powP, h2, one_powP]
  decide +kernel

/-- of a number and its negative exactly one is an element -/
theorem halves {a : Nat} (h0 : 0 < a) (h1 : a < 4611686018427377339) : El a ↔ ¬ El (4611686018427377339 - a) := by
  have key : powP a 2305843009213688669 = 1 ∨ powP a 2305843009213688669 = 4611686018427377338 := by
    have hf : mulP (powP a 2305843009213688669) (powP a 2305843009213688669) = 1 := by
      rw [powP_add, show 2305843009213688669 + 2305843009213688669 = 4611686018427377338 from by decide]; exact fermatP h0 h1
    have hlt := powP_lt a 2305843009213688669
    have hpos : 0 < powP a 2305843009213688669 := by
      rcases Nat.eq_zero_or_pos (powP a 2305843009213688669) with h | h
      · rw [h] at hf; cases hf
      · exact h
    generalize powP a 2305843009213688669 = y at *
    have hd : 4611686018427377339 ∣ (y - 1) * (y + 1) := by
      have e : (y - 1) * (y + 1) = y * y - 1 := by
        obtain ⟨z, rfl⟩ : ∃ z, y = z + 1 := ⟨y - 1, by omega⟩
        rw [Nat.add_sub_cancel, Nat.mul_add, Nat.mul_one, Nat.add_mul, Nat.mul_add, Nat.one_mul, Nat.mul_one]
        omega
      rw [e]
      exact Num.dvd_of_mod_eq (Nat.mul_pos hpos hpos) hf
    rcases Num.dvd_or Num.prP hd with h | h
    · left
      rcases Nat.eq_zero_or_pos (y - 1) with h2 | h2
      · omega
      · have := Nat.le_of_dvd h2 h; omega
    · right
      have := Nat.le_of_dvd (by omega) h
      omega
  have hneg : powP (4611686018427377339 - a) 2305843009213688669 + powP a 2305843009213688669 = 4611686018427377339 := by
    have e : mulP (4611686018427377339 - a) 1 = mulP a 4611686018427377338 := by
      unfold mulP
      have e2 : a * 4611686018427377338 = (4611686018427377339 - a) * 1 + 4611686018427377339 * (a - 1) := by omega
      rw [e2, Nat.add_mul_mod_self_left]
    have e3 : powP (4611686018427377339 - a) 2305843009213688669 = mulP (powP a 2305843009213688669) (powP 4611686018427377338 2305843009213688669) := by
      rw [← powP_mulP, ← e, mulP_one (by omega)]
    have e4 : powP 4611686018427377338 2305843009213688669 = 4611686018427377338 := neg_one_pow (by decide)
    rw [e3, e4]
    rcases key with k | k
    · rw [k]; decide +kernel
    · rw [k]; decide +kernel
  show (1 ≤ a ∧ _) ↔ ¬ (1 ≤ 4611686018427377339 - a ∧ _)
  rcases key with k | k
  · rw [k] at hneg ⊢
    constructor
    · rintro _ ⟨_, _, h⟩; rw [h] at hneg; omega
    · intro _; exact ⟨h0, h1, rfl⟩
  · rw [k] at hneg ⊢
    constructor
    · rintro ⟨_, _, h⟩; omega
    · intro h; exact absurd ⟨by omega, by omega, by omega⟩ h

theorem powQ_add (a j k : Nat) : mulQ (powQ a j) (powQ a k) = powQ a (j + k) := powmul _ a j k
/-- the inverse of a scalar -/
theorem inv_scalar {k : Nat} (h0 : 0 < k) (h1 : k < 2305843009213688669) : mulQ k (powQ k 2305843009213688667) = 1 := by
  have h : mulQ (powQ k 1) (powQ k 2305843009213688667) = powQ k (1 + 2305843009213688667) := powQ_add k 1 _
  have e : powQ k 1 = k := by unfold powQ; rw [Nat.pow_one, Nat.mod_eq_of_lt h1]
  rw [e, show 1 + 2305843009213688667 = 2305843009213688668 from by decide, fermatQ h0 h1] at h
  exact h
/-- a power is undone -/
theorem El.root {a k i : Nat} (ha : El a) (hi : mulQ k i = 1) : powP (powP a k) i = a := by
  have h : (k * i) % 2305843009213688669 = 1 := hi
  rw [powP_powP, ← ha.pow_mod, h, powP_one ha.2.1]

end Go.Proofs.Ytajcpbchpcnmaaa
