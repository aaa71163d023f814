/- Values of the codec in memory. Entries that are gone: the iterator over them, for every loop body. Package acks: Wrong. -/
import Derived.Test.YtpekhdahamloaaaGreatDoorPk10
import Derived.Test.YtpekhdahamloaaaGreatDoorPk6
import Derived.Test.YtpekhdahamloaaaGreatDoorPk16
import Derived.Deep.MidRow
import Derived.RangeFuncNested
import Derived.RangeFuncBound
import Derived.RangeFuncCalls
import Derived.RangeFuncLeaves
import Derived.RangeFuncBox
import Derived.Shelf.Abstract
import Derived.Shelf.RegionOpen
import Derived.WalkKit
import Derived.OwnWalkIn
import Derived.TacticsInMore
import Derived.LoopNIn
import Derived.LoopIn
import Derived.Maps.AppendAt
set_option linter.unusedVariables false
set_option linter.unusedSimpArgs false
namespace Go.Proofs.YtpekhdahamloaaaGreatDoor
open Go.RowKit Cod

/-- a slice of n elements of s cells each: element i's cell j is c i j -/
def SlAt (s : Nat) (w : World) (v : Value) (n : Nat) (c : Nat → Nat → Value) : Prop :=
  ((∃ (a : Option Addr) (k : Nat), v = .slice a 0 k ∧ (a = none → k = 0)) ∧ n = 0) ∨
  ∃ b off cap : Nat, v = .slice (some ⟨b, off, none⟩) n cap ∧ n ≤ cap ∧ 0 < n ∧ ((n : Int) ≤ 140737488351232 ∧ (cap : Int) ≤ 9223372036854775807) ∧ b < w.heap.size ∧ ∀ i, i < n → ∀ j, j < s → w.cell? ⟨b, off + s * i + j, none⟩ = some (c i j)
section
variable {s : Nat} {w w' : World} {v : Value} {n : Nat} {c c' : Nat → Nat → Value}
theorem SlAt.below (h : SlAt s w v n c) (hb : Below w.heap.size w w') : SlAt s w' v n c := by
  rcases h with h | ⟨b, off, cap, h1, h2, h3, h4, h5, h6⟩
  · exact .inl h
  · exact .inr ⟨b, off, cap, h1, h2, h3, h4, Nat.lt_of_lt_of_le h5 hb.size, fun i hi j hj => (hb.cell (p := ⟨b, off + s * i + j, none⟩) h5).trans (h6 i hi j hj)⟩
theorem SlAt.slice (h : SlAt s w v n c) : ∃ (a : Option Addr) (k : Nat), v = .slice a n k := by
  rcases h with ⟨⟨a, k, rfl, _⟩, rfl⟩ | ⟨b, off, cap, rfl, _⟩
  · exact ⟨a, k, rfl⟩
  · exact ⟨_, _, rfl⟩
theorem SlAt.len_le (h : SlAt s w v n c) : (n : Int) ≤ 140737488351232 := by
  rcases h with ⟨_, rfl⟩ | ⟨_, _, _, _, _, _, h4, _⟩
  · decide
  · exact h4.1
theorem SlAt.congr (h : SlAt s w v n c) (he : ∀ i, i < n → ∀ j, j < s → c i j = c' i j) : SlAt s w v n c' := by
  rcases h with h | ⟨b, off, cap, h1, h2, h3, h4, h5, h6⟩
  · exact .inl h
  · exact .inr ⟨b, off, cap, h1, h2, h3, h4, h5, fun i hi j hj => by rw [h6 i hi j hj, he i hi j hj]⟩
/-- the slice at an element -/
theorem SlAt.at_elem {a : Option Addr} {k : Nat} (h : SlAt s w (.slice a n k) n c) {i : Nat} (hi : i < n) : ∃ b off, a = some ⟨b, off, none⟩ ∧ n ≤ k ∧ b < w.heap.size ∧ ∀ i, i < n → ∀ j, j < s → w.cell? ⟨b, off + s * i + j, none⟩ = some (c i j) := by
  rcases h with ⟨_, rfl⟩ | ⟨b, off, cap, h1, h2, h3, h4, h5, h6⟩
  · exact absurd hi (by omega)
  · cases h1; exact ⟨b, off, rfl, h2, h5, h6⟩
end
/-- an element of several cells is read out of a slice -/
theorem wpList_load_elem {P : Program} {w : World} {ops : Array Oper} {rest : List Oper} {o : Oper} {a : Act} {Q : Exit → Act → World → Prop} (hgd : o.guard = none) (ty : TypeId) (x : Operand) (ho : o.op = .load ty x)
    (g off : Nat) (hx : a.eval x = .pointer (some ⟨g, off, none⟩)) (N base i : Nat) (hoff : off = base + N * i) (f : Nat → Value) (hc : ∀ j, j < N → w.cell? ⟨g, base + N * i + j, none⟩ = some (f j))
    (d : TypeDesc) (hu : P.underlying ty = some d) (hd : d.isRow = true) (hi : (P.info? ty).map (·.size) = some N)
    (h : wpList P ops Q rest (a.put o.dst (.agg (rowF N f))) w) : wpList P ops Q (o :: rest) a w := by
  refine wpList_load_mid hgd ty x ho g off hx ((List.range N).map f) d (fun j v hv => ?_) hu hd (by simpa using hi) h
  have hj : j < N := by have := (List.getElem?_eq_some_iff.1 hv).1; simpa using this
  have hv' : v = f j := by simpa [hj] using hv.symm
  rw [hoff, hc j hj, hv']

/-- the four cells of a value -/
def valC (k n : Int) (s : ByteArray) (sl : Value) : Nat → Value
  | 0 => .int .i64 k
  | 1 => .int .i64 n
  | 2 => .string s
  | _ => sl
def i64B (z : Int) : Prop := -9223372036854775808 ≤ z ∧ z < 9223372036854775808
/-- the value reads as this tree -/
inductive CodAt (w : World) : Value → Tv → Prop
  | mk (k n : Int) (s : ByteArray) (sl : Value) (l : List Tv) (c : Nat → Nat → Value) (hk : i64B k) (hn : i64B n) (hs : (s.size : Int) ≤ 140737488351232) (hl : SlAt 4 w sl l.length c)
      (h : ∀ i, i < l.length → CodAt w (.agg (rowF 4 (c i))) (l.getD i tv0)) : CodAt w (.agg #[.int .i64 k, .int .i64 n, .string s, sl]) (.mk k n s l)
theorem CodAt.later {w w' : World} {v : Value} {t : Tv} (h : CodAt w v t) (hb : Below w.heap.size w w') : CodAt w' v t := by
  induction h with
  | mk k n s sl l c hk hn hs hl _ ih => exact .mk k n s sl l c hk hn hs (hl.below hb) ih
/-- opened -/
theorem CodAt.open {w : World} {v : Value} {k n : Int} {s : ByteArray} {l : List Tv} (h : CodAt w v (.mk k n s l)) :
    ∃ (a : Option Addr) (cap : Nat) (c : Nat → Nat → Value), v = .agg #[.int .i64 k, .int .i64 n, .string s, .slice a l.length cap] ∧ i64B k ∧ i64B n ∧ (s.size : Int) ≤ 140737488351232 ∧ SlAt 4 w (.slice a l.length cap) l.length c ∧
      ∀ i, i < l.length → CodAt w (.agg (rowF 4 (c i))) (l.getD i tv0) := by
  cases h with
  | mk _ _ _ sl _ c hk hn hs hl hi =>
    obtain ⟨a, cap, rfl⟩ := hl.slice
    exact ⟨a, cap, c, rfl, hk, hn, hs, hl, hi⟩
theorem CodAt.cells {w : World} {f : Nat → Value} {t : Tv} (h : CodAt w (.agg (rowF 4 f)) t) : ∀ j, j < 4 → (f j).oneCell' = true := by
  obtain ⟨k, n, s, l⟩ := t
  obtain ⟨a, cap, c, e, _⟩ := h.open
  have e1 := Value.agg.inj e
  have e2 : ∀ j : Nat, (rowF 4 f)[j]? = (#[.int .i64 k, .int .i64 n, .string s, .slice a l.length cap] : Array Value)[j]? := fun j => by rw [e1]
  intro j hj
  have h2 := e2 j
  rw [rowF_get hj] at h2
  match j, hj, h2 with
  | 0, _, h2 => rw [Option.some.inj h2]; rfl
  | 1, _, h2 => rw [Option.some.inj h2]; rfl
  | 2, _, h2 => rw [Option.some.inj h2]; rfl
  | 3, _, h2 => rw [Option.some.inj h2]; rfl
def zeroC : Nat → Value := valC 0 0 ByteArray.empty (.slice none 0 0)
/-- a leaf: a number -/
theorem CodAt.num (w : World) {n : Int} (hn : i64B n) {sl : Value} (hs : sl = .slice none 0 0) : CodAt w (.agg #[.int .i64 1, .int .i64 n, .string ByteArray.empty, sl]) (.mk 1 n ByteArray.empty []) := by
  subst hs
  exact .mk 1 n ByteArray.empty _ [] (fun _ _ => .int .i64 0) ⟨by decide, by decide⟩ hn (by decide) (.inl ⟨⟨none, 0, rfl, fun _ => rfl⟩, rfl⟩) (fun i hi => absurd hi (by simp))
/-- a leaf: a text -/
theorem CodAt.text (w : World) {s : ByteArray} (hs : (s.size : Int) ≤ 140737488351232) : CodAt w (.agg #[.int .i64 2, .int .i64 0, .string s, .slice none 0 0]) (.mk 2 0 s []) :=
  .mk 2 0 s _ [] (fun _ _ => .int .i64 0) ⟨by decide, by decide⟩ ⟨by decide, by decide⟩ hs (.inl ⟨⟨none, 0, rfl, fun _ => rfl⟩, rfl⟩) (fun i hi => absurd hi (by simp))

/-! what a tree says of its list, from place k on -/
theorem take_succ_getD {α : Type} (d : α) (l : List α) {k : Nat} (h : k < l.length) : l.take (k + 1) = l.take k ++ [l.getD k d] := by
  rw [List.take_succ_eq_append_getElem h, List.getD_eq_getElem?_getD, List.getElem?_eq_getElem h]; rfl
theorem depthL_take (l : List Tv) {k : Nat} (h : k < l.length) : depthL (l.take (k + 1)) = max (depthL (l.take k)) (depthN (l.getD k tv0)) := by
  rw [take_succ_getD tv0 l h, depthL_append, depthL_one]
theorem formL_take (l : List Tv) {k : Nat} (h : k < l.length) : formL (l.take (k + 1)) = (formL (l.take k) && formB (l.getD k tv0)) := by
  rw [take_succ_getD tv0 l h, formL_append, formL_one]
theorem encL_take (l : List Tv) {k : Nat} (h : k < l.length) : encL (l.take (k + 1)) = encL (l.take k) ++ encV (l.getD k tv0) := by
  rw [take_succ_getD tv0 l h, encL_append, encL_one]
theorem formL_no {l : List Tv} {k : Nat} (h : k < l.length) (hf : formB (l.getD k tv0) = false) : formL l = false := by
  have h1 : l = l.take (k + 1) ++ l.drop (k + 1) := (List.take_append_drop _ _).symm
  rw [h1, formL_append, formL_take l h, hf, Bool.and_false, Bool.false_and]
end Go.Proofs.YtpekhdahamloaaaGreatDoor

namespace Go.Proofs.YtpekhdahamloaaaGreatDoor
open Go.RowKit
attribute [local go_sem] Oper.semAt_some
structure En where
  k : Int
  dg : List UInt8
  sp : Option Addr
  sn : Nat
  sc : Nat
  g : Bool
section
variable {F : Fence} {n : Nat} {P : Program} {w w' : World} {ops : Array Oper} {rest : List Oper} {o : Oper} {a : Act} {Q : Exit → Act → World → Prop}
end
end Go.Proofs.YtpekhdahamloaaaGreatDoor

namespace Go.Proofs.YtpekhdahamloaaaGreatDoor
open Go.RowKit
attribute [local go_sem] Oper.semAt_some
theorem ownsRow_mono {W : World} {base base' : Nat} {e : TypeId} {size : Nat} {v : Value} {k : Nat} {xs : List Value} (h : W.ownsRow base e size v k xs) (hb : base' ≤ base) : W.ownsRow base' e size v k xs :=
  ⟨h.1, by
    rcases h.2 with h2 | ⟨g, cap, cur, h1, h2, h3⟩
    · exact .inl h2
    · exact .inr ⟨g, cap, cur, h1, Nat.le_trans hb h2, h3⟩⟩
end Go.Proofs.YtpekhdahamloaaaGreatDoor
