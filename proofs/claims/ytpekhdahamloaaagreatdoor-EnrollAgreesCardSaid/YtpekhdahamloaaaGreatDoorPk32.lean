/- Acknowledgements compared; the statements' helpers num, SameInts, Few. Own slices of structs, of any kind: they read as lists; appends to them. -/
import Derived.Test.YtpekhdahamloaaaGreatDoorPk28
import Derived.Test.YtpekhdahamloaaaGreatDoorPk31
set_option linter.unusedVariables false
set_option linter.unusedSimpArgs false
namespace Go.Proofs.YtpekhdahamloaaaGreatDoor
open Go.RowKit Cod
theorem eqF_cons {P : Program} {w : World} {d : Nat} {xs ys : Array Value} {nm : String} {ty : TypeId} {off : Nat} {e : Bool} {tg pk : String} {bo : Nat} {fs : List Field} {va vb : Value} {r : Bool} (hn : nm ≠ "_")
    (ha : (part ty xs off).run P w = .ok va w) (hb : (part ty ys off).run P w = .ok vb w) (hr : (Op.equalIn d ty va vb).run P w = .ok r w) :
    (Op.eqFields d xs ys (⟨nm, ty, off, e, tg, pk, bo⟩ :: fs)).run P w = if r then (Op.eqFields d xs ys fs).run P w else .ok false w := by
  simp only [Op.eqFields, Sem.run_ite, Sem.run_bind]
  rw [if_pos hn, ha, Result.andThen_ok, hb, Result.andThen_ok, hr, Result.andThen_ok]
  cases r <;> simp only [Bool.not_false, Bool.not_true, if_true, if_false, Sem.run_pure, Sem.run_ite, Bool.false_eq_true]
theorem eqF_nil {P : Program} {w : World} {d : Nat} {xs ys : Array Value} : (Op.eqFields d xs ys []).run P w = .ok true w := rfl
theorem drop_same {xs ys : List Int} {k : Nat} (h1 : k < xs.length) (h2 : k < ys.length) : decide (xs.drop k = ys.drop k) = (decide (xs.getD k 0 = ys.getD k 0) && decide (xs.drop (k + 1) = ys.drop (k + 1))) := by
  rw [drop_succ_getD 0 xs h1, drop_succ_getD 0 ys h2, ← Bool.decide_and, decide_eq_decide]
  exact List.cons_eq_cons
end Go.Proofs.YtpekhdahamloaaaGreatDoor

namespace Go.Proofs.YtpekhdahamloaaaGreatDoor
open Go.RowKit Cod
section
variable {α : Type}
def OwnT (T : TypeId) (s : Nat) (c : α → Nat → Value) (w : World) (base : Nat) (v : Value) (l : List α) : Prop := w.ownsRow base T s v l.length (flatS s c l)
variable {T : TypeId} {s : Nat} {c : α → Nat → Value} {w w' : World} {base : Nat} {v : Value} {l : List α}
theorem OwnT.nil (w : World) (base : Nat) : OwnT T s c w base (.slice none 0 0) [] := World.ownsRow_nil _ _ _ _
theorem OwnT.slice (h : OwnT T s c w base v l) : ∃ (a : Option Addr) (k : Nat), v = .slice a l.length k := by
  rcases h.2 with ⟨rfl, h3⟩ | ⟨g, cap, cur, rfl, _⟩
  · exact ⟨none, 0, by rw [h3]⟩
  · exact ⟨_, _, rfl⟩
theorem OwnT.below (h : OwnT T s c w base v l) (b : Below w.heap.size w w') : OwnT T s c w' base v l :=
  World.ownsRow.kept h (row := none) ⟨b.os, b.tape, b.output, b.size, fun k hk _ => b.block k hk⟩ (by cases v.ownBlock <;> simp)
theorem OwnT.mono {base' : Nat} (h : OwnT T s c w base v l) (hb : base' ≤ base) : OwnT T s c w base' v l := ownsRow_mono h hb
theorem OwnT.lt (h : OwnT T s c w base v l) : ∀ b, v.ownBlock = some b → base ≤ b ∧ b < w.heap.size := World.ownsRow.lt h
theorem OwnT.only {B : Nat} (h : OwnT T s c w base v l) (o : OnlyB B w w') (hne : ∀ b, v.ownBlock = some b → b ≠ B) : OwnT T s c w' base v l :=
  World.ownsRow.kept h (row := some B) ⟨o.os, o.tape, o.output, o.size, fun k hk hn => o.block k hk (fun e => hn (by rw [e]))⟩ (by
    cases hb : v.ownBlock with
    | none => exact .inl rfl
    | some b => exact .inr (fun e => hne b hb (Option.some.inj e)))
theorem OwnT.at' (d : α) (hs : 0 < s) (hs2 : s ≤ 1000) (h : OwnT T s c w base v l) (hn : l.length ≤ 1000000) : SlAt s w v l.length (fun i => c (l.getD i d)) := by
  rcases h.2 with ⟨rfl, h3⟩ | ⟨g, cap, cur, rfl, hb, hg, hle, hm, hz, ht⟩
  · exact .inl ⟨⟨none, 0, rfl, fun _ => rfl⟩, h3⟩
  · by_cases h0 : l.length = 0
    · exact .inl ⟨⟨_, cap, by rw [h0], fun h => by cases h⟩, h0⟩
    · unfold maxLen at hm
      have hm2 : s * l.length ≤ 1000 * 1000000 := Nat.mul_le_mul hs2 hn
      refine .inr ⟨g, 0, cap, rfl, hle, by omega, ⟨by omega, by omega⟩, (Array.getElem?_eq_some_iff.1 hg).1, fun i hi j hj => ?_⟩
      have h4 := World.ownsRow.cells h (g := g) rfl (s * i + j) _ (flatS_get d l i j hi hj)
      rw [Addr.add_mid, Nat.add_assoc] at *
      simpa using h4
/-- a new slice of one element -/
theorem OwnT.one {B : Nat} {a : α} (hs : 0 < s) (h : RowV w B T s (c a)) : OwnT T s c w B (.slice (some ⟨B, 0, none⟩) 1 1) [a] := by
  have e : flatS s c [a] = (List.range s).map (c a) := by simp [flatS]
  refine ⟨by rw [e]; simp, .inr ⟨B, 1, rowF s (c a), rfl, Nat.le_refl _, h, Nat.le_refl _, by decide, by rw [rowF_size]; simp, ?_⟩⟩
  rw [e]
  show ((List.range s).map (c a)).take (([a] : List α).length * s) = _
  rw [List.length_singleton, Nat.one_mul, List.take_of_length_le (by simp)]
end
def intC (z : Int) (_ : Nat) : Value := .int .i64 z
theorem OwnT.ints {w : World} {base : Nat} {v : Value} {l : List Int} (h : OwnT 3 1 intC w base v l) (hn : l.length ≤ 1000000) : IntsS w v l := h.at' 0 (by decide) (by decide) hn
end Go.Proofs.YtpekhdahamloaaaGreatDoor
