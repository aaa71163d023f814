/- Values of the codec, in plain Lean: their form, depth, encoding, and the reading of bytes. -/
import Derived.Test.YtpekhdahamloaaaGreatDoorRows
set_option linter.unusedVariables false
set_option linter.unusedSimpArgs false
namespace Go.Proofs.YtpekhdahamloaaaGreatDoor
namespace Cod

inductive Tv where
  | mk (k n : Int) (s : ByteArray) (l : List Tv)
def Tv.k : Tv → Int | .mk k _ _ _ => k
def Tv.n : Tv → Int | .mk _ n _ _ => n
def Tv.s : Tv → ByteArray | .mk _ _ s _ => s
def Tv.l : Tv → List Tv | .mk _ _ _ l => l
def tv0 : Tv := .mk 0 0 ByteArray.empty []

mutual
def formB : Tv → Bool
  | .mk k n s l => if k = 1 then s.data.toList.isEmpty && l.isEmpty else if k = 2 then decide (n = 0) && l.isEmpty else if k = 3 then decide (n = 0) && s.data.toList.isEmpty && formL l else false
def formL : List Tv → Bool
  | [] => true
  | t :: l => formB t && formL l
end
mutual
def depthN : Tv → Nat
  | .mk k _ _ l => if k = 3 then depthL l + 1 else 0
def depthL : List Tv → Nat
  | [] => 0
  | t :: l => max (depthN t) (depthL l)
end
/-- the digits of a number -/
def numE (u : Nat) : List UInt8 := if u < 128 then [UInt8.ofNat u] else UInt8.ofNat (u % 128 + 128) :: numE (u / 128)
termination_by u
decreasing_by omega
/-- the unsigned form of an integer -/
def zig (n : Int) : Nat := if 0 ≤ n then 2 * n.toNat else 2 * (-(n + 1)).toNat + 1
def unzig (u : Nat) : Int := if u % 2 = 1 then -((u / 2 : Nat) : Int) - 1 else ((u / 2 : Nat) : Int)
mutual
def encV : Tv → List UInt8
  | .mk k n s l => if k = 1 then 1 :: numE (zig n) else if k = 2 then 2 :: (numE s.size ++ s.data.toList) else 3 :: (numE l.length ++ encL l)
def encL : List Tv → List UInt8
  | [] => []
  | t :: l => encV t ++ encL l
end

/-- reading a numeral; i digits went ahead -/
def numF : Nat → List UInt8 → Option (Nat × List UInt8)
  | _, [] => none
  | i, c :: b =>
    if (i = 0 ∨ c ≠ 0) ∧ (i < 9 ∨ c.toNat ≤ 1) then
      if c.toNat < 128 then some (c.toNat, b) else (numF (i + 1) b).map fun x => (c.toNat % 128 + 128 * x.1, x.2)
    else none
/-- reading so many values -/
def repF (f : List UInt8 → Option (Tv × List UInt8)) : Nat → List UInt8 → Option (List Tv × List UInt8)
  | 0, b => some ([], b)
  | n + 1, b => match f b with
    | none => none
    | some (v, b') => (repF f n b').map fun x => (v :: x.1, x.2)
/-- reading a value, within which r further lists may nest -/
def valF : Nat → List UInt8 → Option (Tv × List UInt8)
  | _, [] => none
  | r, c :: b =>
    if c = 1 then (numF 0 b).map fun x => (.mk 1 (unzig x.1) ByteArray.empty [], x.2)
    else if c = 2 then match numF 0 b with
      | none => none
      | some (n, b') => if n ≤ b'.length then some (.mk 2 0 ⟨(b'.take n).toArray⟩ [], b'.drop n) else none
    else if c = 3 then match r with
      | 0 => none
      | r + 1 => match numF 0 b with
        | none => none
        | some (n, b') => if n ≤ b'.length then (repF (valF r) n b').map fun x => (.mk 3 0 ByteArray.empty x.1, x.2) else none
    else none
/-- what bytes decode to -/
def decF (b : List UInt8) : Option Tv := match valF 16 b with
  | some (v, []) => some v
  | _ => none

theorem zig_lt {n : Int} (h1 : -9223372036854775808 ≤ n) (h2 : n < 9223372036854775808) : zig n < 18446744073709551616 := by
  unfold zig; split <;> omega
theorem unzig_zig (n : Int) : unzig (zig n) = n := by
  unfold zig
  split
  · unfold unzig; rw [if_neg (by omega)]; omega
  · unfold unzig; rw [if_pos (by omega)]; omega
theorem numE_lo {u : Nat} (h : u < 128) : numE u = [UInt8.ofNat u] := by rw [numE, if_pos h]
theorem numE_hi {u : Nat} (h : ¬ u < 128) : numE u = UInt8.ofNat (u % 128 + 128) :: numE (u / 128) := by rw [numE, if_neg h]
theorem numE_len : ∀ (k u : Nat), u < 128 ^ k → 0 < k → (numE u).length ≤ k
  | 0, _, _, h => absurd h (by decide)
  | k + 1, u, h, _ => by
    by_cases h1 : u < 128
    · rw [numE_lo h1]; simp
    · rw [numE_hi h1, List.length_cons]
      have hk : 0 < k := by
        rcases Nat.eq_zero_or_pos k with h0 | h0
        · subst h0; omega
        · exact h0
      have := numE_len k (u / 128) (by rw [Nat.pow_succ] at h; exact Nat.div_lt_of_lt_mul (by omega)) hk
      omega
theorem numE_10 {u : Nat} (h : u < 18446744073709551616) : (numE u).length ≤ 10 := numE_len 10 u (Nat.lt_of_lt_of_le h (by decide)) (by decide)

/-- what was written is read back -/
theorem numF_numE : ∀ (k i n : Nat) (r : List UInt8), n < 128 ^ k → i ≤ 9 → n * 128 ^ i < 18446744073709551616 → (0 < i → n ≠ 0) → numF i (numE n ++ r) = some (n, r)
  | 0, i, n, r, h, _, _, h2 => by
    obtain rfl : n = 0 := by simp at h; exact h
    have h0 : i = 0 := by rcases Nat.eq_zero_or_pos i with h | h; exact h; exact absurd rfl (h2 h)
    subst h0
    rw [numE_lo (by decide)]
    rfl
  | k + 1, i, n, r, h, hi, hb, h0 => by
    by_cases h1 : n < 128
    · rw [numE_lo h1]
      have ht : (UInt8.ofNat n).toNat = n := by simp; omega
      show numF i (UInt8.ofNat n :: ([] ++ r)) = _
      unfold numF
      rw [ht, if_pos ?_, if_pos h1]; rfl
      refine ⟨?_, ?_⟩
      · rcases Nat.eq_zero_or_pos i with h | h
        · exact .inl h
        · exact .inr fun e => h0 h (by rw [← ht, e]; rfl)
      · rcases Nat.lt_or_ge i 9 with h9 | h9
        · exact .inl h9
        · obtain rfl : i = 9 := by omega
          exact .inr (by omega)
    · rw [numE_hi h1]
      have ht : (UInt8.ofNat (n % 128 + 128)).toNat = n % 128 + 128 := by simp; omega
      show numF i (UInt8.ofNat (n % 128 + 128) :: (numE (n / 128) ++ r)) = _
      have hi9 : i < 9 := by
        rcases Nat.lt_or_ge i 9 with h9 | h9
        · exact h9
        · obtain rfl : i = 9 := by omega
          omega
      have ih := numF_numE k (i + 1) (n / 128) r (by rw [Nat.pow_succ] at h; exact Nat.div_lt_of_lt_mul (by omega)) (by omega) (by
        have : n / 128 * 128 ^ (i + 1) ≤ n * 128 ^ i := by
          rw [Nat.pow_succ, Nat.mul_comm (128 ^ i), ← Nat.mul_assoc]
          exact Nat.mul_le_mul_right _ (Nat.div_mul_le_self n 128)
        omega) (fun _ => by omega)
      unfold numF
      rw [ht, if_pos ?_, if_neg (by omega), ih]
      · simp only [Option.map_some, Option.some.injEq, Prod.mk.injEq, and_true]; omega
      · refine ⟨.inr fun e => ?_, .inl hi9⟩
        have := congrArg UInt8.toNat e
        rw [ht] at this
        have h0 : (0 : UInt8).toNat = 0 := rfl
        omega
theorem numF_of {n : Nat} (h : n < 18446744073709551616) (r : List UInt8) : numF 0 (numE n ++ r) = some (n, r) :=
  numF_numE 10 0 n r (Nat.lt_of_lt_of_le h (by decide)) (by decide) (by simpa using h) (fun h => absurd h (by decide))

theorem encV_pos (v : Tv) : 0 < (encV v).length := by
  obtain ⟨k, n, s, l⟩ := v
  unfold encV
  split
  · simp
  · split <;> simp
theorem encL_len : ∀ l : List Tv, l.length ≤ (encL l).length
  | [] => Nat.le_refl _
  | t :: l => by
    have := encL_len l
    have := encV_pos t
    unfold encL
    rw [List.length_append, List.length_cons]; omega
theorem encL_cons (t : Tv) (l : List Tv) : encL (t :: l) = encV t ++ encL l := by rw [encL]
theorem depthL_cons (t : Tv) (l : List Tv) : depthL (t :: l) = max (depthN t) (depthL l) := by rw [depthL]
theorem formL_cons (t : Tv) (l : List Tv) : formL (t :: l) = (formB t && formL l) := by rw [formL]
theorem encL_append : ∀ a b : List Tv, encL (a ++ b) = encL a ++ encL b
  | [], b => by rw [List.nil_append]; simp [encL]
  | t :: a, b => by
    rw [List.cons_append, encL_cons, encL_cons, encL_append a b, List.append_assoc]
theorem depthL_append : ∀ a b : List Tv, depthL (a ++ b) = max (depthL a) (depthL b)
  | [], b => by simp [depthL]
  | t :: a, b => by
    rw [List.cons_append, depthL_cons, depthL_cons, depthL_append a b]; omega
theorem formL_append : ∀ a b : List Tv, formL (a ++ b) = (formL a && formL b)
  | [], b => by simp [formL]
  | t :: a, b => by
    rw [List.cons_append, formL_cons, formL_cons, formL_append a b, Bool.and_assoc]
theorem encL_one (t : Tv) : encL [t] = encV t := by simp [encL]
theorem depthL_one (t : Tv) : depthL [t] = depthN t := by simp [depthL]
theorem formL_one (t : Tv) : formL [t] = formB t := by simp [formL]

end Cod
end Go.Proofs.YtpekhdahamloaaaGreatDoor
