/- Lists of acknowledgements in memory; a map of such lists. Package acks: Least. Acknowledgements: the plain laws of the examples, of decoding what is encoded. -/
import Derived.Test.YtpekhdahamloaaaGreatDoorPk26
import Derived.Test.YtpekhdahamloaaaGreatDoorPk45
import Derived.Test.YtpekhdahamloaaaGreatDoorPk27
set_option linter.unusedVariables false
set_option linter.unusedSimpArgs false
namespace Go.Proofs.YtpekhdahamloaaaGreatDoor
open Go.RowKit Cod
/-- the cells of structs of s cells each -/
def flatS {α : Type} (s : Nat) (c : α → Nat → Value) (l : List α) : List Value := l.flatMap fun a => (List.range s).map (c a)
section
variable {α : Type} {s : Nat} {c : α → Nat → Value}
theorem flatS_len (l : List α) : (flatS s c l).length = l.length * s := by
  induction l with
  | nil => simp [flatS]
  | cons a l ih =>
    have : flatS s c (a :: l) = (List.range s).map (c a) ++ flatS s c l := rfl
    rw [this, List.length_append, ih, List.length_map, List.length_range, List.length_cons, Nat.add_mul]; omega
theorem flatS_get (d : α) : ∀ (l : List α) (i j : Nat), i < l.length → j < s → (flatS s c l)[s * i + j]? = some (c (l.getD i d) j)
  | [], i, j, hi, _ => absurd hi (by simp)
  | a :: l, 0, j, hi, hj => by
    have : flatS s c (a :: l) = (List.range s).map (c a) ++ flatS s c l := rfl
    rw [this, Nat.mul_zero, Nat.zero_add, List.getElem?_append_left (by simpa using hj), List.getElem?_map, List.getElem?_range hj]; rfl
  | a :: l, i + 1, j, hi, hj => by
    have : flatS s c (a :: l) = (List.range s).map (c a) ++ flatS s c l := rfl
    have hlen : ((List.range s).map (c a)).length = s := by simp
    rw [this, List.getElem?_append_right (by rw [hlen, Nat.mul_add]; omega), hlen, show s * (i + 1) + j - s = s * i + j by rw [Nat.mul_add]; omega]
    exact flatS_get d l i j (by simpa using hi) hj
end
section
variable {w w' : World} {base r : Nat} {m : List (Int × Value)} {G : Int → List Ak}
end
end Go.Proofs.YtpekhdahamloaaaGreatDoor

namespace Go.Proofs.YtpekhdahamloaaaGreatDoor
open Go.RowKit Cod
theorem drop_succ_getD {α : Type} (d : α) : ∀ (l : List α) {k : Nat}, k < l.length → l.drop k = l.getD k d :: l.drop (k + 1)
  | [], k, h => absurd h (by simp)
  | a :: l, 0, _ => rfl
  | a :: l, k + 1, h => by
    show l.drop k = l.getD k d :: l.drop (k + 1)
    exact drop_succ_getD d l (by simpa using h)
end Go.Proofs.YtpekhdahamloaaaGreatDoor

namespace Go.Proofs.YtpekhdahamloaaaGreatDoor
open Go.RowKit Cod
/-! the examples -/
end Go.Proofs.YtpekhdahamloaaaGreatDoor
