/- Polynomials over the scalars in plain numbers: the value of a sum; of a product with x - r. -/
import Derived.Test.YtajcpbchpcnmaaaFldHelp
set_option linter.unusedVariables false
set_option linter.unusedSimpArgs false
namespace Go.Proofs.Ytajcpbchpcnmaaa

theorem addQ_mod (a b : Nat) : addQ a b % 2305843009213688669 = (a + b) % 2305843009213688669 := Nat.mod_mod _ _
theorem mulQ_mod (a b : Nat) : mulQ a b % 2305843009213688669 = a * b % 2305843009213688669 := Nat.mod_mod _ _
theorem addQ_congr {a b c d : Nat} (h : (a + b) % 2305843009213688669 = (c + d) % 2305843009213688669) : addQ a b = addQ c d := h

theorem evalQ_zip (x : Nat) : ∀ (p q : List Nat), p.length = q.length → evalQ x (List.zipWith addQ p q) = addQ (evalQ x p) (evalQ x q)
  | [], [], _ => rfl
  | a :: p, b :: q, h => by
    have ih := evalQ_zip x p q (by simpa using h)
    show addQ (mulQ (evalQ x (List.zipWith addQ p q)) x) (addQ a b) = addQ (addQ (mulQ (evalQ x p) x) a) (addQ (mulQ (evalQ x q) x) b)
    rw [ih, mulQ_comm, mulQ_addQ, mulQ_comm x, mulQ_comm x]
    generalize mulQ (evalQ x p) x = s
    generalize mulQ (evalQ x q) x = t
    rw [addQ_assoc, ← addQ_assoc t a b, addQ_comm t a, addQ_assoc a t b, ← addQ_assoc s a]

/-- the coefficients of (a polynomial) * (x + m), the lowest of them raised by what was left over -/
def prodL (m prev : Nat) : List Nat → List Nat
  | [] => [prev]
  | c :: l => addQ prev (mulQ m c) :: prodL m c l

theorem prodL_length (m : Nat) : ∀ (l : List Nat) (prev : Nat), (prodL m prev l).length = l.length + 1
  | [], _ => rfl
  | c :: l, _ => by show (prodL m c l).length + 1 = _; rw [prodL_length m l c]; rfl

theorem evalQ_prod (x m : Nat) : ∀ (l : List Nat) (prev : Nat), prev < 2305843009213688669 → (∀ c ∈ l, c < 2305843009213688669) → evalQ x (prodL m prev l) = addQ prev (mulQ (evalQ x l) (addQ x m))
  | [], prev, hp, _ => by
    show addQ (mulQ 0 x) prev = addQ prev (mulQ 0 (addQ x m))
    rw [mulQ_comm 0, mulQ_comm 0, mulQ_zero, mulQ_zero, addQ_comm]
  | c :: l, prev, hp, h => by
    have hc := h c (by simp)
    have ih := evalQ_prod x m l c hc (fun d hd => h d (by simp [hd]))
    show addQ (mulQ (evalQ x (prodL m c l)) x) (addQ prev (mulQ m c)) = addQ prev (mulQ (addQ (mulQ (evalQ x l) x) c) (addQ x m))
    rw [ih]
    generalize evalQ x l = e
    have e1 : mulQ (addQ c (mulQ e (addQ x m))) x = addQ (mulQ c x) (mulQ (mulQ e x) (addQ x m)) := by
      rw [mulQ_comm _ x, mulQ_addQ, mulQ_comm x c, mulQ_comm x, mulQ_assoc, mulQ_comm (addQ x m) x, ← mulQ_assoc]
    have e2 : mulQ (addQ (mulQ e x) c) (addQ x m) = addQ (mulQ (mulQ e x) (addQ x m)) (addQ (mulQ c x) (mulQ m c)) := by
      rw [mulQ_comm _ (addQ x m), mulQ_addQ, mulQ_comm (addQ x m) (mulQ e x), mulQ_comm (addQ x m) c, mulQ_addQ c x m, mulQ_comm c m]
    rw [e1, e2]
    generalize mulQ (mulQ e x) (addQ x m) = s
    generalize mulQ c x = t
    generalize mulQ m c = u
    have lc : ∀ a b c, addQ a (addQ b c) = addQ b (addQ a c) := fun a b c => by rw [← addQ_assoc, addQ_comm a b, addQ_assoc]
    rw [addQ_assoc, lc s prev u, lc t prev, lc t s]
end Go.Proofs.Ytajcpbchpcnmaaa
