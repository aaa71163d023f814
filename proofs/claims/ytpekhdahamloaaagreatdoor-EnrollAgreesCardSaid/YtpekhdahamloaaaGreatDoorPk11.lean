/- Number theory with no program in sight: P and Q are prime (Pocklington), Fermat's theorem, and what follows for powers modulo them. The group of squares modulo P, in plain numbers: elements, products, powers, inverses, roots, halves. No program in sight. -/
import Derived.KernelRfl
set_option linter.unusedVariables false
set_option linter.unusedSimpArgs false
namespace Go.Proofs.YtpekhdahamloaaaGreatDoor
namespace Num

def Pr (p : Nat) : Prop := 2 ≤ p ∧ ∀ d, d ∣ p → d = 1 ∨ d = p

theorem coprime_of_not_dvd {p a : Nat} (hp : Pr p) (h : ¬ p ∣ a) : Nat.gcd p a = 1 := by
  rcases hp.2 (Nat.gcd p a) (Nat.gcd_dvd_left p a) with h1 | h1
  · exact h1
  · exact absurd (h1 ▸ Nat.gcd_dvd_right p a) h

theorem dvd_or {p a b : Nat} (hp : Pr p) (h : p ∣ a * b) : p ∣ a ∨ p ∣ b := by
  by_cases ha : p ∣ a
  · exact Or.inl ha
  · exact Or.inr (Nat.Coprime.dvd_of_dvd_mul_left (coprime_of_not_dvd hp ha) h)

/-- product of a list -/
def prod : List Nat → Nat
  | [] => 1
  | x :: l => x * prod l

theorem prod_perm {l m : List Nat} (h : l.Perm m) : prod l = prod m := by
  induction h with
  | nil => rfl
  | cons x _ ih => simp [prod, ih]
  | swap x y l => simp [prod, Nat.mul_left_comm]
  | trans _ _ ih1 ih2 => rw [ih1, ih2]

theorem perm_of_sub {m l : List Nat} (hm : m.Nodup) (hs : ∀ x, x ∈ m → x ∈ l) (hlen : l.length ≤ m.length) : m.Perm l := by
  induction m generalizing l with
  | nil =>
    have : l = [] := List.eq_nil_of_length_eq_zero (by simpa using hlen)
    subst this; exact List.Perm.refl _
  | cons x m ih =>
    have hx : x ∈ l := hs x (by simp)
    have hp := List.perm_cons_erase hx
    have hnd := List.nodup_cons.1 hm
    refine List.Perm.trans (List.Perm.cons x (ih hnd.2 ?_ ?_)) hp.symm
    · intro y hy
      have hne : y ≠ x := fun e => hnd.1 (e ▸ hy)
      exact (List.mem_erase_of_ne hne).2 (hs y (by simp [hy]))
    · have := List.length_erase_of_mem hx
      simp at hlen; omega

theorem not_dvd_small {p x : Nat} (h0 : 0 < x) (h : x < p) : ¬ p ∣ x := fun hd => by
  have := Nat.le_of_dvd h0 hd; omega

theorem prod_not_dvd {p : Nat} (hp : Pr p) (l : List Nat) (h : ∀ x, x ∈ l → ¬ p ∣ x) : ¬ p ∣ prod l := by
  induction l with
  | nil => intro hd; have := Nat.le_of_dvd (by simp [prod]) hd; have := hp.1; simp [prod] at *; omega
  | cons x l ih =>
    intro hd
    rcases dvd_or hp hd with h1 | h1
    · exact h x (by simp) h1
    · exact ih (fun y hy => h y (by simp [hy])) h1

theorem prod_map_mod (p a : Nat) (l : List Nat) : prod (l.map (fun x => a * x % p)) % p = a ^ l.length * prod l % p := by
  induction l with
  | nil => simp [prod]
  | cons x l ih =>
    simp only [List.map_cons, prod, List.length_cons, Nat.pow_succ]
    rw [Nat.mul_mod, Nat.mod_mod, ih, ← Nat.mul_mod]
    congr 1
    simp only [Nat.mul_comm, Nat.mul_left_comm, Nat.mul_assoc]

theorem dvd_of_mod_eq {p x y : Nat} (_ : y ≤ x) (h : x % p = y % p) : p ∣ x - y :=
  Nat.dvd_of_mod_eq_zero (Nat.sub_mod_eq_zero_of_mod_eq h)

theorem cancel {p w a b : Nat} (hp : Pr p) (hw : ¬ p ∣ w) (h : a * w % p = b * w % p) : a % p = b % p := by
  rcases Nat.le_total b a with hle | hle
  · have hd := dvd_of_mod_eq (Nat.mul_le_mul_right w hle) h
    rw [← Nat.sub_mul] at hd
    rcases dvd_or hp hd with h1 | h1
    · obtain ⟨c, hc⟩ := h1
      have : a = b + p * c := by omega
      rw [this, Nat.add_mul_mod_self_left]
    · exact absurd h1 hw
  · have hd := dvd_of_mod_eq (Nat.mul_le_mul_right w hle) h.symm
    rw [← Nat.sub_mul] at hd
    rcases dvd_or hp hd with h1 | h1
    · obtain ⟨c, hc⟩ := h1
      have : b = a + p * c := by omega
      rw [this, Nat.add_mul_mod_self_left]
    · exact absurd h1 hw

theorem fermat {p a : Nat} (hp : Pr p) (ha : ¬ p ∣ a) : a ^ (p - 1) % p = 1 % p := by
  have h2 := hp.1
  let l := List.range' 1 (p - 1)
  have hl : ∀ x, x ∈ l ↔ 1 ≤ x ∧ x < p := by
    intro x; simp [l, List.mem_range'_1]; omega
  have hperm : (l.map (fun x => a * x % p)).Perm l := by
    refine perm_of_sub ?_ ?_ (by simp)
    · refine List.Pairwise.map _ (R := fun x y => x ∈ l ∧ y ∈ l ∧ x ≠ y) ?_ ?_
      · rintro x y ⟨hx, hy, hne⟩ he
        have hx := (hl x).1 hx
        have hy := (hl y).1 hy
        have := cancel (a := x) (b := y) hp ha (by rw [Nat.mul_comm x, Nat.mul_comm y]; exact he)
        rw [Nat.mod_eq_of_lt hx.2, Nat.mod_eq_of_lt hy.2] at this
        exact hne this
      · have hn : l.Nodup := List.nodup_range' (step := 1) 
        exact List.Pairwise.imp_of_mem (fun hx hy h => ⟨hx, hy, h⟩) hn
    · intro x hx
      obtain ⟨y, hy, rfl⟩ := List.mem_map.1 hx
      have hy := (hl y).1 hy
      refine (hl _).2 ⟨?_, Nat.mod_lt _ (by omega)⟩
      rcases Nat.eq_zero_or_pos (a * y % p) with h0 | h0
      · rcases dvd_or hp (Nat.dvd_of_mod_eq_zero h0) with h1 | h1
        · exact absurd h1 ha
        · exact absurd h1 (not_dvd_small hy.1 hy.2)
      · exact h0
  have hw : ¬ p ∣ prod l := prod_not_dvd hp l (fun x hx => not_dvd_small ((hl x).1 hx).1 ((hl x).1 hx).2)
  have h1 := prod_map_mod p a l
  rw [prod_perm hperm] at h1
  have hlen : l.length = p - 1 := by simp [l]
  rw [hlen] at h1
  refine cancel hp hw ?_
  rw [← h1, Nat.one_mul]

/-- if two powers are 1 so is that of the gcd -/
theorem pow_gcd {d b : Nat} (x y : Nat) : b ^ x % d = 1 % d → b ^ y % d = 1 % d → b ^ Nat.gcd x y % d = 1 % d := by
  induction x, y using Nat.gcd.induction with
  | H0 y => intro _ h; simpa using h
  | H1 x y hx ih =>
    intro h1 h2
    rw [Nat.gcd_rec]
    refine ih ?_ h1
    have e : b ^ y = (b ^ x) ^ (y / x) * b ^ (y % x) := by
      rw [← Nat.pow_mul, ← Nat.pow_add, Nat.div_add_mod]
    rw [e, Nat.mul_mod, Nat.pow_mod, h1, ← Nat.pow_mod, Nat.one_pow, ← Nat.mul_mod, Nat.one_mul] at h2
    exact h2

theorem prime_divisor (n : Nat) (h : 2 ≤ n) : ∃ d, Pr d ∧ d ∣ n := by
  induction n using Nat.strongRecOn with
  | ind n ih =>
    by_cases hp : Pr n
    · exact ⟨n, hp, Nat.dvd_refl n⟩
    · have : ∃ d, d ∣ n ∧ d ≠ 1 ∧ d ≠ n := by
        refine Classical.byContradiction fun hc => hp ⟨h, fun d hd => ?_⟩
        by_cases h1 : d = 1
        · exact Or.inl h1
        · by_cases h2 : d = n
          · exact Or.inr h2
          · exact absurd ⟨d, hd, h1, h2⟩ hc
      obtain ⟨d, hd, h1, h2⟩ := this
      have hle := Nat.le_of_dvd (by omega) hd
      have h0 : d ≠ 0 := fun e => by subst e; have := Nat.eq_zero_of_zero_dvd hd; omega
      obtain ⟨e, he, hed⟩ := ih d (by omega) (by omega)
      exact ⟨e, he, Nat.dvd_trans hed hd⟩

theorem small_divisor (n : Nat) (h : 2 ≤ n) (hp : ¬ Pr n) : ∃ d, Pr d ∧ d ∣ n ∧ d * d ≤ n := by
  have : ∃ d, d ∣ n ∧ d ≠ 1 ∧ d ≠ n := by
    refine Classical.byContradiction fun hc => hp ⟨h, fun d hd => ?_⟩
    by_cases h1 : d = 1
    · exact Or.inl h1
    · by_cases h2 : d = n
      · exact Or.inr h2
      · exact absurd ⟨d, hd, h1, h2⟩ hc
  obtain ⟨d, ⟨e, rfl⟩, h1, h2⟩ := this
  have hd0 : d ≠ 0 := fun e => by subst e; omega
  have he0 : e ≠ 0 := fun e => by subst e; omega
  have he1 : e ≠ 1 := fun e => by subst e; omega
  rcases Nat.le_total d e with hle | hle
  · obtain ⟨q, hq, hqd⟩ := prime_divisor d (by omega)
    have hqle := Nat.le_of_dvd (by omega) hqd
    refine ⟨q, hq, Nat.dvd_trans hqd (Nat.dvd_mul_right _ _), Nat.mul_le_mul hqle (by omega)⟩
  · obtain ⟨q, hq, hqd⟩ := prime_divisor e (by omega)
    have hqle := Nat.le_of_dvd (by omega) hqd
    refine ⟨q, hq, Nat.dvd_trans hqd (Nat.dvd_mul_left _ _), Nat.mul_le_mul (by omega) hqle⟩

/-- Pocklington -/
theorem pock {n q m a : Nat} (hn : 2 ≤ n) (hq : Pr q) (hm : n - 1 = q * m) (hs : n < (q + 1) * (q + 1)) (h1 : a ^ (n - 1) % n = 1) (hg : Nat.gcd (a ^ m % n + (n - 1)) n = 1) : Pr n := by
  refine Classical.byContradiction fun hp => ?_
  obtain ⟨d, hd, ⟨c, hc⟩, hdd⟩ := small_divisor n hn hp
  have hd2 := hd.1
  have hdn : d ∣ n := ⟨c, hc⟩
  have e1 : a ^ (n - 1) % d = 1 % d := by
    have : a ^ (n - 1) % n % d = a ^ (n - 1) % d := Nat.mod_mod_of_dvd _ hdn
    rw [← this, h1]
  have hda : ¬ d ∣ a := fun h => by
    have : d ∣ a ^ (n - 1) := (by obtain ⟨k, hk⟩ : ∃ k, n - 1 = k + 1 := ⟨n - 2, by omega⟩; rw [hk, Nat.pow_succ]; exact Nat.dvd_mul_left_of_dvd h _)
    rw [Nat.mod_eq_zero_of_dvd this, Nat.mod_eq_of_lt (by omega)] at e1
    omega
  have e2 := fermat hd hda
  by_cases hqd : q ∣ d - 1
  · have := Nat.le_of_dvd (by omega) hqd
    have : (q + 1) * (q + 1) ≤ d * d := Nat.mul_le_mul (by omega) (by omega)
    omega
  · have hco := coprime_of_not_dvd hq hqd
    have f1 : (a ^ m) ^ q % d = 1 % d := by rw [← Nat.pow_mul, Nat.mul_comm m q, ← hm]; exact e1
    have f2 : (a ^ m) ^ (d - 1) % d = 1 % d := by
      rw [← Nat.pow_mul, Nat.mul_comm m, Nat.pow_mul, Nat.pow_mod, e2, ← Nat.pow_mod, Nat.one_pow]
    have f3 := pow_gcd q (d - 1) f1 f2
    rw [hco, Nat.pow_one] at f3
    have : d ∣ a ^ m % n + (n - 1) := by
      refine Nat.dvd_of_mod_eq_zero ?_
      rw [Nat.add_mod, Nat.mod_mod_of_dvd _ hdn, f3, ← Nat.add_mod]
      have : 1 + (n - 1) = n := by omega
      rw [this]; exact Nat.mod_eq_zero_of_dvd hdn
    have := Nat.dvd_gcd this hdn
    rw [hg] at this
    have := Nat.le_of_dvd (by omega) this
    omega


/-- power modulo n, by squaring; fuel first -/
def powMod (n : Nat) : Nat → Nat → Nat → Nat
  | 0, _, _ => 1 % n
  | f + 1, a, k => if k = 0 then 1 % n else
      if k % 2 = 1 then a * powMod n f (a * a % n) (k / 2) % n else powMod n f (a * a % n) (k / 2)

theorem powMod_eq (n f : Nat) : ∀ a k, k < 2 ^ f → powMod n f a k = a ^ k % n := by
  induction f with
  | zero => intro a k hk; have : k = 0 := by omega
            subst this; simp [powMod]
  | succ f ih =>
    intro a k hk
    unfold powMod
    by_cases h0 : k = 0
    · subst h0; simp
    · rw [if_neg h0]
      have hk2 : k / 2 < 2 ^ f := by rw [Nat.pow_succ] at hk; omega
      rw [ih _ _ hk2]
      have e : (a * a % n) ^ (k / 2) % n = a ^ (2 * (k / 2)) % n := by
        rw [← Nat.pow_mod, Nat.pow_mul]; congr 2; rw [Nat.pow_two]
      by_cases h1 : k % 2 = 1
      · rw [if_pos h1, e, ← Nat.mul_mod_mod]
        rw [show a ^ k = a * a ^ (2 * (k / 2)) from by rw [← Nat.pow_succ']; congr 1; omega]
        simp
      · rw [if_neg h1, e]; congr 2; omega

/-- no divisor from s on, of the form s + 2 i, for f steps, or till the square is past n -/
def noOdd (n : Nat) : Nat → Nat → Bool
  | 0, _ => false
  | f + 1, s => if n < s * s then true else if n % s = 0 then false else noOdd n f (s + 2)

theorem noOdd_spec (n f : Nat) : ∀ s, noOdd n f s = true → ∀ d, s ≤ d → d % 2 = s % 2 → d * d ≤ n → ¬ d ∣ n := by
  induction f with
  | zero => intro s h; simp [noOdd] at h
  | succ f ih =>
    intro s h d hd hm hdd hdn
    unfold noOdd at h
    by_cases h1 : n < s * s
    · have := Nat.mul_le_mul hd hd; omega
    · rw [if_neg h1] at h
      by_cases h2 : n % s = 0
      · rw [if_pos h2] at h; cases h
      · rw [if_neg h2] at h
        by_cases e : d = s
        · subst e; exact h2 (Nat.mod_eq_zero_of_dvd hdn)
        · exact ih (s + 2) h d (by omega) (by omega) hdd hdn

theorem pr_of_noOdd {n f : Nat} (h2 : 2 ≤ n) (ho : n % 2 = 1) (h : noOdd n f 3 = true) : Pr n := by
  refine Classical.byContradiction fun hp => ?_
  obtain ⟨d, hd, hdn, hdd⟩ := small_divisor n h2 hp
  have h2d := hd.1
  by_cases he : d % 2 = 1
  · exact noOdd_spec n f 3 h d (by omega) (by omega) hdd hdn
  · have : 2 ∣ n := Nat.dvd_trans (Nat.dvd_of_mod_eq_zero (by omega)) hdn
    have := Nat.mod_eq_zero_of_dvd this
    omega


theorem pock' {n q m a : Nat} (hq : Pr q) (hn : 2 ≤ n) (hm : n - 1 = q * m) (hs : n < (q + 1) * (q + 1)) (hk : n - 1 < 2 ^ 64) (h1 : powMod n 64 a (n - 1) = 1) (hg : Nat.gcd (powMod n 64 a m + (n - 1)) n = 1) : Pr n := by
  have hm64 : m < 2 ^ 64 := by
    rcases Nat.eq_zero_or_pos m with h | h
    · subst h; simp
    · have := hq.1
      have : m ≤ q * m := Nat.le_mul_of_pos_left m (by omega)
      omega
  rw [powMod_eq n 64 _ _ hk] at h1
  rw [powMod_eq n 64 _ _ hm64] at hg
  exact pock hn hq hm hs h1 hg

theorem pr1 : Pr 7930907 := pr_of_noOdd (f := 1500) (by decide) (by decide) (by decide +kernel)
theorem pr2 : Pr 11864636873 := pock' (m := 1496) (a := 3) pr1 (by decide) (by decide +kernel) (by decide +kernel) (by decide +kernel) (by decide +kernel) (by decide +kernel)
theorem pr3 : Pr 1732236983459 := pock' (m := 146) (a := 2) pr2 (by decide) (by decide +kernel) (by decide +kernel) (by decide +kernel) (by decide +kernel) (by decide +kernel)
theorem pr4 : Pr 249442125618097 := pock' (m := 144) (a := 2) pr3 (by decide) (by decide +kernel) (by decide +kernel) (by decide +kernel) (by decide +kernel) (by decide +kernel)
theorem prQ : Pr 2305843009213688669 := pock' (m := 9244) (a := 2) pr4 (by decide) (by decide +kernel) (by decide +kernel) (by decide +kernel) (by decide +kernel) (by decide +kernel)
theorem prP : Pr 4611686018427377339 := pock' (m := 2) (a := 2) prQ (by decide) (by decide +kernel) (by decide +kernel) (by decide +kernel) (by decide +kernel) (by decide +kernel)

end Num



/-- products and powers modulo P and Q, behind names that the walk does not open -/
def mulP (a b : Nat) : Nat := a * b % 4611686018427377339
def powP (a k : Nat) : Nat := a ^ k % 4611686018427377339
def mulQ (a b : Nat) : Nat := a * b % 2305843009213688669
theorem mulP_lt (a b : Nat) : mulP a b < 4611686018427377339 := Nat.mod_lt _ (by decide)
theorem powP_lt (a b : Nat) : powP a b < 4611686018427377339 := Nat.mod_lt _ (by decide)
theorem mulQ_lt (a b : Nat) : mulQ a b < 2305843009213688669 := Nat.mod_lt _ (by decide)
/-! ### powers bit by bit -/
def upto {α : Type} (f : Nat → α) (k : Nat) : List α := (List.range k).map f
theorem upto_succ {α : Type} (f : Nat → α) (k : Nat) : upto f (k + 1) = upto f k ++ [f k] := by simp [upto, List.range_succ]
def bitAt (k L j : Nat) : Bool := decide (k / 2 ^ (L - 1 - j) % 2 = 1)

theorem powmul (m a j k : Nat) : (a ^ j % m) * (a ^ k % m) % m = a ^ (j + k) % m := by
  rw [← Nat.mul_mod, Nat.pow_add]
theorem powsucc (m a j : Nat) : (a ^ j % m) * a % m = a ^ (j + 1) % m := by
  rw [Nat.mod_mul_mod, Nat.pow_succ]

/-- one round of a power: by the product t -/
def step (t : Nat → Nat → Nat) (a c : Nat) (one : Bool) : Nat := if one then t (t c c) a else t c c
def run (t : Nat → Nat → Nat) (a : Nat) (l : List Bool) : Nat := l.foldl (step t a) 1
theorem run_snoc (t : Nat → Nat → Nat) (a : Nat) (l : List Bool) (x : Bool) : run t a (l ++ [x]) = step t a (run t a l) x := by simp [run]

theorem run_upto (m a k L : Nat) (hk : k < 2 ^ L) (hm : 1 < m) : ∀ j, j ≤ L → run (fun x y => x * y % m) a (upto (bitAt k L) j) = a ^ (k / 2 ^ (L - j)) % m
  | 0, _ => by
    rw [Nat.sub_zero, Nat.div_eq_of_lt hk]
    simp [run, upto, Nat.mod_eq_of_lt hm]
  | j + 1, h => by
    rw [upto_succ, run_snoc, run_upto m a k L hk hm j (by omega)]
    have e : k / 2 ^ (L - j) = k / 2 ^ (L - (j + 1)) / 2 := by
      rw [Nat.div_div_eq_div_mul, ← Nat.pow_succ]; congr 2; omega
    have e2 : L - 1 - j = L - (j + 1) := by omega
    unfold step bitAt
    rw [e, e2]
    generalize k / 2 ^ (L - (j + 1)) = q
    by_cases hb : q % 2 = 1
    · simp only [hb, decide_true, if_true, powmul, powsucc]
      congr 2; omega
    · simp only [hb, decide_false, Bool.false_eq_true, if_false, powmul]
      congr 2; omega
theorem run_all (m a k L : Nat) (hk : k < 2 ^ L) (hm : 1 < m) : run (fun x y => x * y % m) a (upto (bitAt k L) L) = a ^ k % m := by
  rw [run_upto m a k L hk hm L (Nat.le_refl _)]; simp

theorem runP (a k L : Nat) (hk : k < 2 ^ L) : run mulP a (upto (bitAt k L) L) = powP a k := run_all 4611686018427377339 a k L hk (by decide)
theorem run_lt (t : Nat → Nat → Nat) (m a : Nat) (hm : 1 < m) (ht : ∀ x y, t x y < m) (l : List Bool) : run t a l < m := by
  have key : ∀ (l : List Bool) (c : Nat), c < m → l.foldl (step t a) c < m := by
    intro l
    induction l with
    | nil => intro c hc; exact hc
    | cons x l ih =>
      intro c _
      refine ih _ ?_
      unfold step
      cases x
      · exact ht _ _
      · exact ht _ _
  exact key l 1 hm
theorem runP_lt (a : Nat) (l : List Bool) : run mulP a l < 4611686018427377339 := run_lt mulP _ a (by decide) mulP_lt l
end Go.Proofs.YtpekhdahamloaaaGreatDoor

namespace Go.Proofs.YtpekhdahamloaaaGreatDoor

def El (n : Nat) : Prop := 1 ≤ n ∧ n < 4611686018427377339 ∧ powP n 2305843009213688669 = 1

theorem mulP_assoc (a b c : Nat) : mulP (mulP a b) c = mulP a (mulP b c) := by
  unfold mulP; rw [Nat.mod_mul_mod, Nat.mul_mod_mod, Nat.mul_assoc]
theorem mulP_one {a : Nat} (h : a < 4611686018427377339) : mulP a 1 = a := by unfold mulP; rw [Nat.mul_one, Nat.mod_eq_of_lt h]
theorem powP_mulP (a b k : Nat) : powP (mulP a b) k = mulP (powP a k) (powP b k) := by
  unfold powP mulP; rw [← Nat.pow_mod, Nat.mul_pow, ← Nat.mul_mod]
theorem powP_add (a j k : Nat) : mulP (powP a j) (powP a k) = powP a (j + k) := powmul _ a j k
theorem powP_powP (a j k : Nat) : powP (powP a j) k = powP a (j * k) := by
  unfold powP; rw [← Nat.pow_mod, Nat.pow_mul]
theorem powP_one {a : Nat} (h : a < 4611686018427377339) : powP a 1 = a := by unfold powP; rw [Nat.pow_one, Nat.mod_eq_of_lt h]
theorem zero_powP {k : Nat} (h : 0 < k) : powP 0 k = 0 := by unfold powP; rw [Nat.zero_pow h]
theorem one_powP (k : Nat) : powP 1 k = 1 := by unfold powP; rw [Nat.one_pow]
theorem mulP_pos_of {a b : Nat} (ha : El a) (hb : El b) : 1 ≤ mulP a b := by
  rcases Nat.eq_zero_or_pos (mulP a b) with h | h
  · have h1 : powP (mulP a b) 2305843009213688669 = 1 := by rw [powP_mulP, ha.2.2, hb.2.2]; rfl
    rw [h, zero_powP (by decide)] at h1
    cases h1
  · exact h
theorem El.mul {a b : Nat} (ha : El a) (hb : El b) : El (mulP a b) :=
  ⟨mulP_pos_of ha hb, mulP_lt _ _, by rw [powP_mulP, ha.2.2, hb.2.2]; rfl⟩
theorem El.one : El 1 := ⟨by decide, by decide, one_powP _⟩
theorem powP_pos {a : Nat} (ha : El a) (k : Nat) : El (powP a k) := by
  have h1 : powP (powP a k) 2305843009213688669 = 1 := by
    rw [powP_powP, Nat.mul_comm, ← powP_powP, ha.2.2, one_powP]
  refine ⟨?_, powP_lt _ _, h1⟩
  rcases Nat.eq_zero_or_pos (powP a k) with h | h
  · rw [h, zero_powP (by decide)] at h1
    cases h1
  · exact h
/-- the inverse -/
theorem El.inv {a : Nat} (ha : El a) : mulP a (powP a 2305843009213688668) = 1 := by
  have : mulP (powP a 1) (powP a 2305843009213688668) = powP a (1 + 2305843009213688668) := powP_add a 1 _
  rw [powP_one ha.2.1, show 1 + 2305843009213688668 = 2305843009213688669 from by decide] at this
  rw [this]; exact ha.2.2
/-- exponents count modulo Q -/
theorem El.pow_mod {a : Nat} (ha : El a) (k : Nat) : powP a (k % 2305843009213688669) = powP a k := by
  have h : k = 2305843009213688669 * (k / 2305843009213688669) + k % 2305843009213688669 := (Nat.div_add_mod _ _).symm
  have e : powP a k = mulP (powP a (2305843009213688669 * (k / 2305843009213688669))) (powP a (k % 2305843009213688669)) := by
    rw [powP_add, ← h]
  rw [e, ← powP_powP, ha.2.2, one_powP]
  unfold mulP
  rw [Nat.one_mul, Nat.mod_eq_of_lt (powP_lt _ _)]

/-- Fermat modulo P -/
theorem fermatP_of {x k : Nat} (h0 : 0 < x) (h1 : x < 4611686018427377339) (hk : k = 4611686018427377339 - 1) : powP x k = 1 := by
  have h := Num.fermat Num.prP (Num.not_dvd_small h0 h1)
  rw [← hk] at h
  exact h
theorem fermatP {x : Nat} (h0 : 0 < x) (h1 : x < 4611686018427377339) : powP x 4611686018427377338 = 1 := fermatP_of h0 h1 (by decide)
/-- a square is an element, unless it is 0 -/
theorem El.square {x : Nat} (h0 : 0 < x) (h1 : x < 4611686018427377339) : El (mulP x x) := by
  have e : powP (mulP x x) 2305843009213688669 = 1 := by
    have : mulP x x = powP x 2 := by unfold mulP powP; rw [Nat.pow_two]
    rw [this, powP_powP, show 2 * 2305843009213688669 = 4611686018427377338 from by decide]
    exact fermatP h0 h1
  refine ⟨?_, mulP_lt _ _, e⟩
  rcases Nat.eq_zero_or_pos (mulP x x) with h | h
  · rw [h, zero_powP (by decide)] at e
    cases e
  · exact h

theorem neg_one_pow {k : Nat} (hk : k % 2 = 1) : powP 4611686018427377338 k = 4611686018427377338 := by
  have e : k = 2 * (k / 2) + 1 := by omega
  have h2 : powP 4611686018427377338 2 = 1 := by decide +kernel
  rw [e, ← powP_add, ← powP_powP, h2, one_powP]
  decide +kernel

/-- of a number and its negative exactly one is an element -/
theorem halves {a : Nat} (h0 : 0 < a) (h1 : a < 4611686018427377339) : El a ↔ ¬ El (4611686018427377339 - a) := by
  have key : powP a 2305843009213688669 = 1 ∨ powP a 2305843009213688669 = 4611686018427377338 := by
    have hf : mulP (powP a 2305843009213688669) (powP a 2305843009213688669) = 1 := by
      rw [powP_add, show 2305843009213688669 + 2305843009213688669 = 4611686018427377338 from by decide]; exact fermatP h0 h1
    have hlt := powP_lt a 2305843009213688669
    have hpos : 0 < powP a 2305843009213688669 := by
      rcases Nat.eq_zero_or_pos (powP a 2305843009213688669) with h | h
      · rw [h] at hf; cases hf
      · exact h
    generalize powP a 2305843009213688669 = y at *
    have hd : 4611686018427377339 ∣ (y - 1) * (y + 1) := by
      have e : (y - 1) * (y + 1) = y * y - 1 := by
        obtain ⟨z, rfl⟩ : ∃ z, y = z + 1 := ⟨y - 1, by omega⟩
        rw [Nat.add_sub_cancel, Nat.mul_add, Nat.mul_one, Nat.add_mul, Nat.mul_add, Nat.one_mul, Nat.mul_one]
        omega
      rw [e]
      exact Num.dvd_of_mod_eq (Nat.mul_pos hpos hpos) hf
    rcases Num.dvd_or Num.prP hd with h | h
    · left
      rcases Nat.eq_zero_or_pos (y - 1) with h2 | h2
      · omega
      · have := Nat.le_of_dvd h2 h; omega
    · right
      have := Nat.le_of_dvd (by omega) h
      omega
  have hneg : powP (4611686018427377339 - a) 2305843009213688669 + powP a 2305843009213688669 = 4611686018427377339 := by
    have e : mulP (4611686018427377339 - a) 1 = mulP a 4611686018427377338 := by
      unfold mulP
      have e2 : a * 4611686018427377338 = (4611686018427377339 - a) * 1 + 4611686018427377339 * (a - 1) := by omega
      rw [e2, Nat.add_mul_mod_self_left]
    have e3 : powP (4611686018427377339 - a) 2305843009213688669 = mulP (powP a 2305843009213688669) (powP 4611686018427377338 2305843009213688669) := by
      rw [← powP_mulP, ← e, mulP_one (by omega)]
    have e4 : powP 4611686018427377338 2305843009213688669 = 4611686018427377338 := neg_one_pow (by decide)
    rw [e3, e4]
    rcases key with k | k
    · rw [k]; decide +kernel
    · rw [k]; decide +kernel
  show (1 ≤ a ∧ _) ↔ ¬ (1 ≤ 4611686018427377339 - a ∧ _)
  rcases key with k | k
  · rw [k] at hneg ⊢
    constructor
    · rintro _ ⟨_, _, h⟩; rw [h] at hneg; omega
    · intro _; exact ⟨h0, h1, rfl⟩
  · rw [k] at hneg ⊢
    constructor
    · rintro ⟨_, _, h⟩; omega
    · intro h; exact absurd ⟨by omega, by omega, by omega⟩ h

end Go.Proofs.YtpekhdahamloaaaGreatDoor
