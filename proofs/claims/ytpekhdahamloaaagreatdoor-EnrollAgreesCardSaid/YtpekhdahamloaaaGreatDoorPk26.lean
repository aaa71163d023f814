/- Package acks: Decode. Package acks: Decode, walked. -/
import Derived.Test.YtpekhdahamloaaaGreatDoorPk35
import Derived.Lib.LazyBuf
set_option linter.unusedVariables false
set_option linter.unusedSimpArgs false
namespace Go.Proofs.YtpekhdahamloaaaGreatDoor
open Go.RowKit Cod
end Go.Proofs.YtpekhdahamloaaaGreatDoor

namespace Go.Proofs.YtpekhdahamloaaaGreatDoor
open Go.RowKit Cod
theorem CodAt.parts {w : World} {f : Nat → Value} {t : Tv} (h : CodAt w (.agg (rowF 4 f)) t) : f 1 = .int .i64 t.n ∧ i64B t.n ∧ f 2 = .string t.s := by
  obtain ⟨k, n, s, l⟩ := t
  obtain ⟨a, cap, c, e, _, hn, _⟩ := h.open
  have e1 := Value.agg.inj e
  have e2 : ∀ j : Nat, (rowF 4 f)[j]? = (#[.int .i64 k, .int .i64 n, .string s, .slice a l.length cap] : Array Value)[j]? := fun j => by rw [e1]
  have h1 := e2 1
  have h2 := e2 2
  rw [rowF_get (by decide)] at h1 h2
  exact ⟨Option.some.inj h1, hn, Option.some.inj h2⟩
theorem stay_cell {S : Nat → Prop} {w W : World} {b off : Nat} (hS : S b) (hr : (Tc.Rl.stay S).r w W) : W.cell? ⟨b, off, none⟩ = w.cell? ⟨b, off, none⟩ := World.cell?_of_block (w := w) (w' := W) (a := ⟨b, off, none⟩) (hr b hS)
/-- the cells of a slice's elements -/
def SCl (s : Nat) (w : World) (b off n : Nat) (c : Nat → Nat → Value) : Prop := b < w.heap.size ∧ ∀ i, i < n → ∀ j, j < s → w.cell? ⟨b, off + s * i + j, none⟩ = some (c i j)
theorem SCl.below {s : Nat} {w w' : World} {b off n : Nat} {c : Nat → Nat → Value} (h : SCl s w b off n c) (hb : Below w.heap.size w w') : SCl s w' b off n c :=
  ⟨Nat.lt_of_lt_of_le h.1 hb.size, fun i hi j hj => (hb.cell (p := ⟨b, off + s * i + j, none⟩) h.1).trans (h.2 i hi j hj)⟩
end Go.Proofs.YtpekhdahamloaaaGreatDoor
