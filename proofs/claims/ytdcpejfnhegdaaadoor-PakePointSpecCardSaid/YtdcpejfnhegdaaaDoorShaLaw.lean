/- SHA-256 in plain Lean, continued: blocks read off a function; how the padded message parts into whole blocks and an end. -/
import Derived.Test.YtdcpejfnhegdaaaDoorSha
set_option linter.unusedVariables false
set_option linter.unusedSimpArgs false
namespace Go.Proofs.YtdcpejfnhegdaaaDoor
namespace Sha

/-- the words of 64 bytes -/
def wordsC (c : Nat → UInt8) (t : Nat) : Wd := word4 (c (4 * t)) (c (4 * t + 1)) (c (4 * t + 2)) (c (4 * t + 3))
theorem words_is (m : List UInt8) (o : Nat) : words m o = wordsC (fun j => m.getD (o + j) 0) := rfl

theorem sched_lo (b : Nat → Wd) {t : Nat} (h : t < 16) : sched b t = b t := by rw [sched, if_pos h]
theorem sched_hi (b : Nat → Wd) {t : Nat} (h : ¬ t < 16) : sched b t = sched b (t - 16) + s0 (sched b (t - 15)) + sched b (t - 7) + s1 (sched b (t - 2)) := by
  rw [sched, if_neg h]
theorem sched_congr {b b' : Nat → Wd} (h : ∀ t, t < 16 → b t = b' t) : ∀ t, sched b t = sched b' t := by
  intro t
  induction t using Nat.strongRecOn with
  | _ t ih =>
    by_cases ht : t < 16
    · rw [sched_lo b ht, sched_lo b' ht, h t ht]
    · rw [sched_hi b ht, sched_hi b' ht, ih (t - 16) (by omega), ih (t - 15) (by omega), ih (t - 7) (by omega), ih (t - 2) (by omega)]
theorem rnds_congr {w w' : Nat → Wd} (s : St) : ∀ n, (∀ t, t < n → w t = w' t) → rnds w s n = rnds w' s n
  | 0, _ => rfl
  | n + 1, h => by rw [rnds, rnds, rnds_congr s n (fun t ht => h t (by omega)), h n (by omega)]
theorem wordsC_congr {c c' : Nat → UInt8} (h : ∀ j, j < 64 → c j = c' j) {t : Nat} (ht : t < 16) : wordsC c t = wordsC c' t := by
  unfold wordsC; rw [h _ (by omega), h _ (by omega), h _ (by omega), h _ (by omega)]
theorem comp_congr (s : St) {c c' : Nat → UInt8} (h : ∀ j, j < 64 → c j = c' j) : comp s (wordsC c) = comp s (wordsC c') := by
  unfold comp; rw [rnds_congr s 64 (fun t _ => sched_congr (fun t ht => wordsC_congr h ht) t)]

/-- the state after n blocks of a function's bytes -/
def blocksF (m : Nat → UInt8) (s : St) : Nat → St
  | 0 => s
  | n + 1 => comp (blocksF m s n) (wordsC fun j => m (64 * n + j))
theorem blocks_is (m : List UInt8) (s : St) : ∀ n, blocks m s n = blocksF (fun j => m.getD j 0) s n
  | 0 => rfl
  | n + 1 => by rw [blocks, blocksF, blocks_is m s n, words_is]

/-- how long the end is: the rest, the mark, noughts, the length -/
def endLen (n : Nat) : Nat := if 55 < n % 64 then 128 else 64
theorem pad_length (m : List UInt8) : (pad m).length = m.length - m.length % 64 + endLen m.length := by
  unfold pad be8 zeros endLen
  simp only [List.length_append, List.length_cons, List.length_replicate, List.length_nil]
  split <;> omega
theorem pad_lo (m : List UInt8) {j : Nat} (h : j < m.length) : (pad m).getD j 0 = m.getD j 0 := by
  unfold pad; rw [List.getD_eq_getElem?_getD, List.getD_eq_getElem?_getD, List.getElem?_append_left h]
/-- byte i of the length, the lowest being 0 -/
def lenByte (n i : Nat) : UInt8 := UInt8.ofNat (n * 8 % 2^64 / 2 ^ (8 * i))
theorem be8_get (n : Nat) {i : Nat} (h : i < 8) : (be8 n)[i]? = some (UInt8.ofNat (n / 2 ^ (8 * (7 - i)))) := by
  match i, h with
  | 0, _ => rfl
  | 1, _ => rfl
  | 2, _ => rfl
  | 3, _ => rfl
  | 4, _ => rfl
  | 5, _ => rfl
  | 6, _ => rfl
  | 7, _ => simp [be8]
/-- the bytes of the end -/
def endByte (m : List UInt8) (j : Nat) : UInt8 :=
  if j < m.length % 64 then m.getD (m.length - m.length % 64 + j) 0
  else if j = m.length % 64 then 0x80
  else if endLen m.length ≤ j + 8 then lenByte m.length (endLen m.length - 1 - j) else 0
theorem pad_end (m : List UInt8) {j : Nat} (h : j < endLen m.length) : (pad m).getD (m.length - m.length % 64 + j) 0 = endByte m j := by
  unfold endByte
  by_cases h1 : j < m.length % 64
  · rw [if_pos h1, pad_lo m (by omega)]
  · rw [if_neg h1]
    have hz : (pad m).getD (m.length - m.length % 64 + j) 0 = (0x80 :: (List.replicate (zeros m.length) 0 ++ be8 (m.length * 8 % 2^64))).getD (j - m.length % 64) 0 := by
      unfold pad
      rw [List.getD_eq_getElem?_getD, List.getD_eq_getElem?_getD, List.getElem?_append_right (by omega)]
      congr 2; omega
    rw [hz]
    by_cases h2 : j = m.length % 64
    · rw [if_pos h2, h2, Nat.sub_self]; rfl
    · rw [if_neg h2]
      obtain ⟨d, hd⟩ : ∃ d, j - m.length % 64 = d + 1 := ⟨j - m.length % 64 - 1, by omega⟩
      rw [hd, List.getD_cons_succ, List.getD_eq_getElem?_getD]
      have hzz : m.length % 64 + 1 + zeros m.length + 8 = endLen m.length := by unfold zeros endLen; split <;> omega
      by_cases h3 : endLen m.length ≤ j + 8
      · rw [if_pos h3, List.getElem?_append_right (by rw [List.length_replicate]; omega), List.length_replicate, be8_get _ (by omega)]
        show UInt8.ofNat _ = lenByte _ _
        unfold lenByte; congr 4; omega
      · rw [if_neg h3, List.getElem?_append_left (by rw [List.length_replicate]; omega), List.getElem?_replicate, if_pos (by omega)]
        rfl
/-- the hash, block by block: the whole blocks of the message, then the end -/
theorem sum_is (m : List UInt8) : sum m = digestOf (blocksF (fun j => (pad m).getD j 0) init (m.length / 64 + endLen m.length / 64)) := by
  unfold sum
  rw [blocks_is, pad_length]
  congr 2
  unfold endLen; split <;> omega
theorem blocksF_congr {m m' : Nat → UInt8} (s : St) : ∀ n, (∀ j, j < 64 * n → m j = m' j) → blocksF m s n = blocksF m' s n
  | 0, _ => rfl
  | n + 1, h => by rw [blocksF, blocksF, blocksF_congr s n (fun j hj => h j (by omega)), comp_congr _ (fun j hj => h (64 * n + j) (by omega))]
end Sha
end Go.Proofs.YtdcpejfnhegdaaaDoor
