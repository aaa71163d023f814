/- Values of the codec, in plain Lean: their form, depth, encoding, and the reading of bytes. -/
import Derived.Test.YtmmppibbglacdaaDoorRows
set_option linter.unusedVariables false
set_option linter.unusedSimpArgs false
namespace Go.Proofs.YtmmppibbglacdaaDoor
namespace Cod

inductive Tv where
  | mk (k n : Int) (s : ByteArray) (l : List Tv)
def Tv.k : Tv → Int | .mk k _ _ _ => k
def Tv.n : Tv → Int | .mk _ n _ _ => n
def Tv.s : Tv → ByteArray | .mk _ _ s _ => s
def Tv.l : Tv → List Tv | .mk _ _ _ l => l
def tv0 : Tv := .mk 0 0 ByteArray.empty []

mutual
def formB : Tv → Bool
  | .mk k n s l => if k = 1 then s.data.toList.isEmpty && l.isEmpty else if k = 2 then decide (n = 0) && l.isEmpty else if k = 3 then decide (n = 0) && s.data.toList.isEmpty && formL l else false
def formL : List Tv → Bool
  | [] => true
  | t :: l => formB t && formL l
end
mutual
def depthN : Tv → Nat
  | .mk k _ _ l => if k = 3 then depthL l + 1 else 0
def depthL : List Tv → Nat
  | [] => 0
  | t :: l => max (depthN t) (depthL l)
end
/-- the digits of a number -/
def numE (u : Nat) : List UInt8 := if u < 128 then [UInt8.ofNat u] else UInt8.ofNat (u % 128 + 128) :: numE (u / 128)
termination_by u
decreasing_by omega
/-- the unsigned form of an integer -/
def zig (n : Int) : Nat := if 0 ≤ n then 2 * n.toNat else 2 * (-(n + 1)).toNat + 1
def unzig (u : Nat) : Int := if u % 2 = 1 then -((u / 2 : Nat) : Int) - 1 else ((u / 2 : Nat) : Int)
mutual
def encV : Tv → List UInt8
  | .mk k n s l => if k = 1 then 1 :: numE (zig n) else if k = 2 then 2 :: (numE s.size ++ s.data.toList) else 3 :: (numE l.length ++ encL l)
def encL : List Tv → List UInt8
  | [] => []
  | t :: l => encV t ++ encL l
end

/-- reading a numeral; i digits went ahead -/
def numF : Nat → List UInt8 → Option (Nat × List UInt8)
  | _, [] => none
  | i, c :: b =>
    if (i = 0 ∨ c ≠ 0) ∧ (i < 9 ∨ c.toNat ≤ 1) then
      if c.toNat < 128 then some (c.toNat, b) else (numF (i + 1) b).map fun x => (c.toNat % 128 + 128 * x.1, x.2)
    else none
/-- reading so many values -/
def repF (f : List UInt8 → Option (Tv × List UInt8)) : Nat → List UInt8 → Option (List Tv × List UInt8)
  | 0, b => some ([], b)
  | n + 1, b => match f b with
    | none => none
    | some (v, b') => (repF f n b').map fun x => (v :: x.1, x.2)
/-- reading a value, within which r further lists may nest -/
def valF : Nat → List UInt8 → Option (Tv × List UInt8)
  | _, [] => none
  | r, c :: b =>
    if c = 1 then (numF 0 b).map fun x => (.mk 1 (unzig x.1) ByteArray.empty [], x.2)
    else if c = 2 then match numF 0 b with
      | none => none
      | some (n, b') => if n ≤ b'.length then some (.mk 2 0 ⟨(b'.take n).toArray⟩ [], b'.drop n) else none
    else if c = 3 then match r with
      | 0 => none
      | r + 1 => match numF 0 b with
        | none => none
        | some (n, b') => if n ≤ b'.length then (repF (valF r) n b').map fun x => (.mk 3 0 ByteArray.empty x.1, x.2) else none
    else none
/-- what bytes decode to -/
def decF (b : List UInt8) : Option Tv := match valF 16 b with
  | some (v, []) => some v
  | _ => none

theorem zig_lt {n : Int} (h1 : -9223372036854775808 ≤ n) (h2 : n < 9223372036854775808) : zig n < 18446744073709551616 := by
  unfold zig; split <;> omega
theorem unzig_zig (n : Int) : unzig (zig n) = n := by
  unfold zig
  split
  · unfold unzig; rw [if_neg (by omega)]; omega
  · unfold unzig; rw [if_pos (by omega)]; omega
theorem zig_unzig (u : Nat) : zig (unzig u) = u := by
  unfold unzig
  split
  · unfold zig; rw [if_neg (by omega)]; omega
  · unfold zig; rw [if_pos (by omega)]; omega
theorem unzig_bd {u : Nat} (h : u < 18446744073709551616) : -9223372036854775808 ≤ unzig u ∧ unzig u < 9223372036854775808 := by
  unfold unzig; split <;> omega

theorem numE_lo {u : Nat} (h : u < 128) : numE u = [UInt8.ofNat u] := by rw [numE, if_pos h]
theorem numE_hi {u : Nat} (h : ¬ u < 128) : numE u = UInt8.ofNat (u % 128 + 128) :: numE (u / 128) := by rw [numE, if_neg h]
theorem numE_pos (u : Nat) : 0 < (numE u).length := by
  rw [numE]; split <;> simp
theorem numE_len : ∀ (k u : Nat), u < 128 ^ k → 0 < k → (numE u).length ≤ k
  | 0, _, _, h => absurd h (by decide)
  | k + 1, u, h, _ => by
    by_cases h1 : u < 128
    · rw [numE_lo h1]; simp
    · rw [numE_hi h1, List.length_cons]
      have hk : 0 < k := by
        rcases Nat.eq_zero_or_pos k with h0 | h0
        · subst h0; omega
        · exact h0
      have := numE_len k (u / 128) (by rw [Nat.pow_succ] at h; exact Nat.div_lt_of_lt_mul (by omega)) hk
      omega
theorem numE_10 {u : Nat} (h : u < 18446744073709551616) : (numE u).length ≤ 10 := numE_len 10 u (Nat.lt_of_lt_of_le h (by decide)) (by decide)

/-- what is read is what was written, digit for digit -/
theorem numF_enc : ∀ (b : List UInt8) (i n : Nat) (r : List UInt8), numF i b = some (n, r) → b = numE n ++ r ∧ (0 < i → n ≠ 0) ∧ (i ≤ 9 → n * 128 ^ i < 18446744073709551616)
  | [], _, _, _, h => by simp [numF] at h
  | c :: b, i, n, r, h => by
    unfold numF at h
    have hc := c.toNat_lt
    split at h
    · rename_i hg
      split at h
      · rename_i hlo
        simp only [Option.some.injEq, Prod.mk.injEq] at h
        obtain ⟨rfl, rfl⟩ := h
        refine ⟨by rw [numE_lo hlo]; simp, fun hi h0 => ?_, fun hi => ?_⟩
        · rcases hg.1 with h1 | h1
          · omega
          · exact h1 (UInt8.toNat_inj.1 (by simpa using h0))
        · rcases Nat.lt_or_ge i 9 with h9 | h9
          · have h2 : 128 ^ i ≤ 128 ^ 8 := Nat.pow_le_pow_right (by decide) (by omega)
            have h3 : c.toNat * 128 ^ i ≤ 127 * 128 ^ 8 := Nat.mul_le_mul (by omega) h2
            omega
          · obtain rfl : i = 9 := by omega
            have h3 : c.toNat * 128 ^ 9 ≤ 1 * 128 ^ 9 := Nat.mul_le_mul (by omega) (Nat.le_refl _)
            omega
      · rename_i hhi
        obtain ⟨⟨n', r'⟩, h1, h2⟩ := Option.map_eq_some_iff.1 h
        simp only [Prod.mk.injEq] at h2
        obtain ⟨rfl, rfl⟩ := h2
        obtain ⟨e1, e2, e3⟩ := numF_enc b (i + 1) n' r' h1
        have hn : n' ≠ 0 := e2 (by omega)
        refine ⟨?_, fun _ => by omega, fun hi => ?_⟩
        · rw [numE_hi (by omega), e1]
          rw [show (c.toNat % 128 + 128 * n') / 128 = n' by omega, show (c.toNat % 128 + 128 * n') % 128 + 128 = c.toNat by omega]
          simp
        · rcases Nat.lt_or_ge i 9 with h9 | h9
          · have h3 := e3 (by omega)
            have h4 : n' * 128 ^ (i + 1) = 128 * n' * 128 ^ i := by rw [Nat.pow_succ, Nat.mul_comm (128 ^ i), ← Nat.mul_assoc, Nat.mul_comm n' 128]
            have hp : 0 < 128 ^ i := Nat.pow_pos (by decide)
            have hm : (18446744073709551616 : Nat) = 2 * 128 ^ (8 - i) * (128 ^ (i + 1)) := by
              rw [Nat.mul_assoc, ← Nat.pow_add, show 8 - i + (i + 1) = 9 by omega]
            have h5 : n' + 1 ≤ 2 * 128 ^ (8 - i) := by
              have hp2 : 0 < 128 ^ (i + 1) := Nat.pow_pos (by decide)
              rw [hm] at h3
              exact Nat.lt_of_mul_lt_mul_right h3
            have h6 : (n' + 1) * 128 ^ (i + 1) ≤ 18446744073709551616 := by
              rw [hm]; exact Nat.mul_le_mul_right _ h5
            have h7 : (n' + 1) * 128 ^ (i + 1) = (128 * n' + 128) * 128 ^ i := by rw [Nat.pow_succ, Nat.add_mul, Nat.add_mul, ← h4, Nat.pow_succ]; omega
            have h8 : (c.toNat % 128 + 128 * n') * 128 ^ i < (128 * n' + 128) * 128 ^ i := Nat.mul_lt_mul_of_pos_right (by omega) hp
            omega
          · rcases hg.2 with h1 | h1 <;> omega
    · cases h
theorem numF_lt {b r : List UInt8} {n : Nat} (h : numF 0 b = some (n, r)) : n < 18446744073709551616 := by
  have := (numF_enc b 0 n r h).2.2 (by decide)
  simpa using this
theorem numF_len {b r : List UInt8} {n i : Nat} (h : numF i b = some (n, r)) : r.length < b.length := by
  have := (numF_enc b i n r h).1
  rw [this, List.length_append]; have := numE_pos n; omega
/-- what was written is read back -/
theorem numF_numE : ∀ (k i n : Nat) (r : List UInt8), n < 128 ^ k → i ≤ 9 → n * 128 ^ i < 18446744073709551616 → (0 < i → n ≠ 0) → numF i (numE n ++ r) = some (n, r)
  | 0, i, n, r, h, _, _, h2 => by
    obtain rfl : n = 0 := by simp at h; exact h
    have h0 : i = 0 := by rcases Nat.eq_zero_or_pos i with h | h; exact h; exact absurd rfl (h2 h)
    subst h0
    rw [numE_lo (by decide)]
    rfl
  | k + 1, i, n, r, h, hi, hb, h0 => by
    by_cases h1 : n < 128
    · rw [numE_lo h1]
      have ht : (UInt8.ofNat n).toNat = n := by simp; omega
      show numF i (UInt8.ofNat n :: ([] ++ r)) = _
      unfold numF
      rw [ht, if_pos ?_, if_pos h1]; rfl
      refine ⟨?_, ?_⟩
      · rcases Nat.eq_zero_or_pos i with h | h
        · exact .inl h
        · exact .inr fun e => h0 h (by rw [← ht, e]; rfl)
      · rcases Nat.lt_or_ge i 9 with h9 | h9
        · exact .inl h9
        · obtain rfl : i = 9 := by omega
          exact .inr (by omega)
    · rw [numE_hi h1]
      have ht : (UInt8.ofNat (n % 128 + 128)).toNat = n % 128 + 128 := by simp; omega
      show numF i (UInt8.ofNat (n % 128 + 128) :: (numE (n / 128) ++ r)) = _
      have hi9 : i < 9 := by
        rcases Nat.lt_or_ge i 9 with h9 | h9
        · exact h9
        · obtain rfl : i = 9 := by omega
          omega
      have ih := numF_numE k (i + 1) (n / 128) r (by rw [Nat.pow_succ] at h; exact Nat.div_lt_of_lt_mul (by omega)) (by omega) (by
        have : n / 128 * 128 ^ (i + 1) ≤ n * 128 ^ i := by
          rw [Nat.pow_succ, Nat.mul_comm (128 ^ i), ← Nat.mul_assoc]
          exact Nat.mul_le_mul_right _ (Nat.div_mul_le_self n 128)
        omega) (fun _ => by omega)
      unfold numF
      rw [ht, if_pos ?_, if_neg (by omega), ih]
      · simp only [Option.map_some, Option.some.injEq, Prod.mk.injEq, and_true]; omega
      · refine ⟨.inr fun e => ?_, .inl hi9⟩
        have := congrArg UInt8.toNat e
        rw [ht] at this
        have h0 : (0 : UInt8).toNat = 0 := rfl
        omega
theorem numF_of {n : Nat} (h : n < 18446744073709551616) (r : List UInt8) : numF 0 (numE n ++ r) = some (n, r) :=
  numF_numE 10 0 n r (Nat.lt_of_lt_of_le h (by decide)) (by decide) (by simpa using h) (fun h => absurd h (by decide))

theorem encV_pos (v : Tv) : 0 < (encV v).length := by
  obtain ⟨k, n, s, l⟩ := v
  unfold encV
  split
  · simp
  · split <;> simp
theorem encL_len : ∀ l : List Tv, l.length ≤ (encL l).length
  | [] => Nat.le_refl _
  | t :: l => by
    have := encL_len l
    have := encV_pos t
    unfold encL
    rw [List.length_append, List.length_cons]; omega
theorem encL_cons (t : Tv) (l : List Tv) : encL (t :: l) = encV t ++ encL l := by rw [encL]
theorem depthL_cons (t : Tv) (l : List Tv) : depthL (t :: l) = max (depthN t) (depthL l) := by rw [depthL]
theorem formL_cons (t : Tv) (l : List Tv) : formL (t :: l) = (formB t && formL l) := by rw [formL]
theorem encL_append : ∀ a b : List Tv, encL (a ++ b) = encL a ++ encL b
  | [], b => by rw [List.nil_append]; simp [encL]
  | t :: a, b => by
    rw [List.cons_append, encL_cons, encL_cons, encL_append a b, List.append_assoc]
theorem depthL_append : ∀ a b : List Tv, depthL (a ++ b) = max (depthL a) (depthL b)
  | [], b => by simp [depthL]
  | t :: a, b => by
    rw [List.cons_append, depthL_cons, depthL_cons, depthL_append a b]; omega
theorem formL_append : ∀ a b : List Tv, formL (a ++ b) = (formL a && formL b)
  | [], b => by simp [formL]
  | t :: a, b => by
    rw [List.cons_append, formL_cons, formL_cons, formL_append a b, Bool.and_assoc]
theorem encL_one (t : Tv) : encL [t] = encV t := by simp [encL]
theorem depthL_one (t : Tv) : depthL [t] = depthN t := by simp [depthL]
theorem formL_one (t : Tv) : formL [t] = formB t := by simp [formL]

theorem repF_enc {r : Nat} {f : List UInt8 → Option (Tv × List UInt8)} (hf : ∀ b v b', f b = some (v, b') → formB v = true ∧ depthN v ≤ r ∧ b = encV v ++ b') :
    ∀ (n : Nat) (b : List UInt8) (l : List Tv) (b' : List UInt8), repF f n b = some (l, b') → l.length = n ∧ formL l = true ∧ depthL l ≤ r ∧ b = encL l ++ b'
  | 0, b, l, b', h => by
    simp only [repF, Option.some.injEq, Prod.mk.injEq] at h
    obtain ⟨rfl, rfl⟩ := h
    exact ⟨rfl, by simp [formL], by simp [depthL], by simp [encL]⟩
  | n + 1, b, l, b', h => by
    unfold repF at h
    split at h
    · cases h
    · rename_i v b1 h1
      obtain ⟨⟨l', b2⟩, h2, h3⟩ := Option.map_eq_some_iff.1 h
      simp only [Prod.mk.injEq] at h3
      obtain ⟨rfl, rfl⟩ := h3
      obtain ⟨e1, e2, e3⟩ := hf _ _ _ h1
      obtain ⟨f1, f2, f3, f4⟩ := repF_enc hf n b1 l' b2 h2
      refine ⟨by rw [List.length_cons, f1], by unfold formL; rw [e1, f2]; rfl, by unfold depthL; omega, ?_⟩
      unfold encL
      rw [e3, f4, List.append_assoc]
/-- what is read has a form, is no deeper than allowed, and is written as it was read -/
theorem valF_enc : ∀ (r : Nat) (b : List UInt8) (v : Tv) (b' : List UInt8), valF r b = some (v, b') → formB v = true ∧ depthN v ≤ r ∧ b = encV v ++ b'
  | _, [], _, _, h => by simp [valF] at h
  | r, c :: b, v, b', h => by
    unfold valF at h
    split at h
    · rename_i hc
      subst hc
      obtain ⟨⟨n, b1⟩, h1, h2⟩ := Option.map_eq_some_iff.1 h
      simp only [Prod.mk.injEq] at h2
      obtain ⟨rfl, rfl⟩ := h2
      refine ⟨by simp [formB], by simp [depthN], ?_⟩
      unfold encV
      rw [if_pos rfl, zig_unzig, (numF_enc _ _ _ _ h1).1]; rfl
    · split at h
      · rename_i hc
        subst hc
        split at h
        · cases h
        · rename_i n b1 h1
          split at h
          · rename_i hn
            simp only [Option.some.injEq, Prod.mk.injEq] at h
            obtain ⟨rfl, rfl⟩ := h
            refine ⟨by simp [formB], by simp [depthN], ?_⟩
            unfold encV
            rw [if_neg (by decide), if_pos rfl, (numF_enc _ _ _ _ h1).1]
            have hs : (ByteArray.mk (b1.take n).toArray).size = n := by simp [ByteArray.size]; omega
            rw [hs]
            simp
          · cases h
      · split at h
        · rename_i hc
          subst hc
          split at h
          · cases h
          · split at h
            · cases h
            · rename_i r' _ n b1 h1
              split at h
              · obtain ⟨⟨l, b2⟩, h2, h3⟩ := Option.map_eq_some_iff.1 h
                simp only [Prod.mk.injEq] at h3
                obtain ⟨rfl, rfl⟩ := h3
                obtain ⟨f1, f2, f3, f4⟩ := repF_enc (valF_enc r') n b1 l b2 h2
                refine ⟨by simp [formB, f2], by simp [depthN]; omega, ?_⟩
                unfold encV
                rw [if_neg (by decide), if_neg (by decide), (numF_enc _ _ _ _ h1).1, f1, f4]
                simp
              · cases h
        · cases h
theorem decF_enc {b : List UInt8} {v : Tv} (h : decF b = some v) : formB v = true ∧ depthN v ≤ 16 ∧ encV v = b := by
  unfold decF at h
  split at h
  · rename_i v' h1
    simp only [Option.some.injEq] at h
    subst h
    obtain ⟨e1, e2, e3⟩ := valF_enc 16 b v' [] h1
    exact ⟨e1, e2, by rw [e3, List.append_nil]⟩
  · cases h
end Cod
end Go.Proofs.YtmmppibbglacdaaDoor
