/- The rows of FieldPolynomials' loop, in plain lists. -/
import Derived.Test.YtajcpbchpcnmaaaPolyLaw
set_option linter.unusedVariables false
set_option linter.unusedSimpArgs false
namespace Go.Proofs.Ytajcpbchpcnmaaa

/-- the first k of a row of n, then noughts -/
def fillR (L : List Nat) (n k : Nat) : List Nat := L.take k ++ List.replicate (n - k) 0
theorem fillR_zero (L : List Nat) (n : Nat) : fillR L n 0 = List.replicate n 0 := by simp [fillR]
theorem fillR_full {L : List Nat} {n : Nat} (h : L.length = n) : fillR L n n = L := by simp [fillR, ← h]
theorem rep_succ {n k : Nat} (h : k < n) : List.replicate (n - k) 0 = 0 :: List.replicate (n - (k + 1)) 0 := by
  rw [show n - k = (n - (k + 1)) + 1 from by omega, List.replicate_succ]
theorem take_len {L : List Nat} {k x : Nat} (hx : L[k]? = some x) : (L.take k).length = k := by
  obtain ⟨hl, _⟩ := List.getElem?_eq_some_iff.1 hx
  rw [List.length_take]; omega
theorem take_snoc {L : List Nat} {k x : Nat} (hx : L[k]? = some x) : L.take (k + 1) = L.take k ++ [x] := by
  obtain ⟨hl, he⟩ := List.getElem?_eq_some_iff.1 hx
  rw [List.take_succ_eq_append_getElem hl, he]
theorem fillR_at {L : List Nat} {n k x : Nat} (hk : k < n) (hx : L[k]? = some x) : (fillR L n k)[k]? = some 0 := by
  unfold fillR
  rw [rep_succ hk, List.getElem?_append_right (by rw [take_len hx]; omega), take_len hx]
  simp
theorem fillR_set {L : List Nat} {n k x : Nat} (hk : k < n) (hx : L[k]? = some x) : (fillR L n k).set k x = fillR L n (k + 1) := by
  unfold fillR
  rw [rep_succ hk, take_snoc hx, List.set_append_right _ _ (by rw [take_len hx]; omega), take_len hx]
  simp
theorem fillR_skip {L : List Nat} {n k : Nat} (hk : k < n) (hx : L[k]? = some 0) : fillR L n k = fillR L n (k + 1) := by
  unfold fillR
  rw [rep_succ hk, take_snoc hx]
  simp
theorem fillR_got {L : List Nat} {n k x : Nat} (hx : L[k]? = some x) : (fillR L n (k + 1))[k]? = some x := by
  unfold fillR
  rw [take_snoc hx, List.append_assoc, List.getElem?_append_right (by rw [take_len hx]; omega), take_len hx]
  simp
theorem fillR_length {L : List Nat} {n k : Nat} (hk : k ≤ n) (hl : n ≤ L.length) : (fillR L n k).length = n := by
  unfold fillR
  rw [List.length_append, List.length_take, List.length_replicate]; omega

/-- the row of the product, k rounds done -/
def prodR (m : Nat) (L : List Nat) (n k : Nat) : List Nat := prodL m 0 (L.take k) ++ List.replicate (n - k) 0
theorem prodR_zero (m : Nat) (L : List Nat) (n : Nat) : prodR m L n 0 = List.replicate (n + 1) 0 := by
  show [0] ++ List.replicate (n - 0) 0 = _
  rw [List.replicate_succ]; rfl
theorem prodR_full {m : Nat} {L : List Nat} {n : Nat} (h : L.length = n) : prodR m L n n = prodL m 0 L := by
  simp [prodR, ← h]
theorem prodL_step (m c : Nat) (r : List Nat) : ∀ (l : List Nat) (prev : Nat), prev < 2305843009213688669 → (∀ d ∈ l, d < 2305843009213688669) →
    ∃ z, z < 2305843009213688669 ∧ (prodL m prev l ++ 0 :: r)[l.length]? = some z ∧ ((prodL m prev l ++ 0 :: r).set l.length (addQ z (mulQ m c))).set (l.length + 1) c = prodL m prev (l ++ [c]) ++ r
  | [], prev, hp, _ => ⟨prev, hp, rfl, rfl⟩
  | d :: l, prev, hp, h => by
    obtain ⟨z, hz, hg, hs⟩ := prodL_step m c r l d (h d (by simp)) (fun e he => h e (by simp [he]))
    refine ⟨z, hz, hg, ?_⟩
    show (addQ prev (mulQ m d)) :: ((prodL m d l ++ 0 :: r).set l.length (addQ z (mulQ m c))).set (l.length + 1) c = _
    rw [hs]; rfl
theorem prodR_step {m : Nat} {L : List Nat} {n k c : Nat} (hk : k < n) (hx : L[k]? = some c) (hL : ∀ d ∈ L, d < 2305843009213688669) :
    ∃ z, z < 2305843009213688669 ∧ (prodR m L n k)[k]? = some z ∧ ((prodR m L n k).set k (addQ z (mulQ m c))).set (k + 1) c = prodR m L n (k + 1) := by
  have h := prodL_step m c (List.replicate (n - (k + 1)) 0) (L.take k) 0 (by decide) (fun d hd => hL d (List.mem_of_mem_take hd))
  rw [take_len hx] at h
  unfold prodR
  rw [rep_succ hk, take_snoc hx]
  exact h
theorem prodR_length {m : Nat} {L : List Nat} {n k : Nat} (hk : k ≤ n) (hl : n ≤ L.length) : (prodR m L n k).length = n + 1 := by
  unfold prodR
  rw [List.length_append, prodL_length, List.length_take, List.length_replicate]; omega
end Go.Proofs.Ytajcpbchpcnmaaa
