/- slice literals of structs; what has not changed since a world. -/
import Derived.Test.YtpekhdahamloaaaGreatDoorPk42
import Derived.Great.BuildSlice
import Derived.Great.FillDense
set_option linter.unusedVariables false
set_option linter.unusedSimpArgs false
namespace Go.Proofs.YtpekhdahamloaaaGreatDoor
open Go.RowKit Cod
/-- nothing that was there at w0 has changed -/
def Since (w0 w : World) : Prop := Below w0.heap.size w0 w
theorem Since.refl (w : World) : Since w w := Below.refl _ _
theorem Since.below {w0 w w' : World} (h : Since w0 w) (b : Below w.heap.size w w') : Since w0 w' := Below.trans h (b.mono (Below.size h))
theorem Since.le {w0 w : World} (h : Since w0 w) : w0.heap.size ≤ w.heap.size := Below.size h
theorem Since.b {w0 w : World} (h : Since w0 w) : Below w0.heap.size w0 w := h
section
variable {α : Type} {T : TypeId} {s : Nat} {c : α → Nat → Value}
theorem fillT (hs : 0 < s) (d : α) (l : List α) (cells : Array Value) (hc : cells.size = l.length * s) :
    Instr.fill (fun i => some (i * s, s)) cells (((l.map fun b => Value.agg (rowF s (c b))).zipIdx 0).map fun x => (x.2, x.1)) = some (flatS s c l).toArray := by
  obtain ⟨r, hr, hsz, hk⟩ := Great.fill_dense hs (l.map fun b => Value.agg (rowF s (c b))) 0 cells
    (by intro v hv; obtain ⟨b, _, rfl⟩ := List.mem_map.1 hv; exact rowF_size _ _) (by rw [hc, List.length_map, Nat.zero_add]; exact Nat.le_refl _)
  rw [hr]; congr 1
  apply Array.ext_getElem?
  intro k
  rw [hk k, List.length_map, Nat.zero_add, Nat.zero_mul]
  by_cases h : k < l.length * s
  · rw [if_pos ⟨by omega, h⟩]
    have hi : k / s < l.length := (Nat.div_lt_iff_lt_mul hs).2 h
    have hm : k % s < s := Nat.mod_lt _ hs
    have hg := flatS_get d (s := s) (c := c) l (k / s) (k % s) hi hm
    rw [Nat.div_add_mod] at hg
    have e1 : (flatS s c l).toArray[k]? = (flatS s c l)[k]? := by simp
    rw [e1, hg, Nat.sub_zero, List.getElem?_map, List.getElem?_eq_getElem hi, Option.map_some, Option.bind_some]
    show (rowF s (c l[k / s]))[k % s]? = _
    rw [rowF_get hm, List.getD_eq_getElem?_getD, List.getElem?_eq_getElem hi]; rfl
  · rw [if_neg (by omega), Array.getElem?_eq_none (by omega), Array.getElem?_eq_none (by simp [flatS_len]; omega)]
theorem wpList_buildT {P : Program} {w : World} {ops : Array Oper} {rest : List Oper} {o : Oper} {a : Act} {Q : Exit → Act → World → Prop} (hg : o.guard = none) (t : TypeId) (n : Nat) (parts : Array (Nat × Operand))
    (ho : o.op = .buildSlice t n parts) (d : α) (l : List α) (hn : l.length = n) (h0 : 0 < n) (hn2 : n ≤ 1000) (hs0 : 0 < s) (hs2 : s ≤ 1000)
    (hp : (parts.toList.map fun (i, x) => (i, a.eval x)) = ((l.map fun b => Value.agg (rowF s (c b))).zipIdx 0).map fun x => (x.2, x.1))
    (hu : P.underlying t = some (.slice T)) (hs : (P.info? T).map (·.size) = some s) (hzz : ((P.info? T).bind (·.zero)).isSome = true)
    (h : ∀ w', Hid (OwnT T s c w' w.heap.size (.slice (some ⟨w.heap.size, 0, none⟩) n n) l) → Hid (Below w.heap.size w w') → Hid (w.heap.size < w'.heap.size) → wpList P ops Q rest (a.put o.dst (.slice (some ⟨w.heap.size, 0, none⟩) n n)) w') : wpList P ops Q (o :: rest) a w := by
  cases hie : P.info? T with
  | none => simp [hie] at hs
  | some ie =>
    simp only [hie, Option.map_some, Option.some.injEq, Option.bind_some] at hs hzz
    obtain ⟨zv, hz0⟩ := Option.isSome_iff_exists.1 hzz
    have hb : n * s ≤ 1000 * 1000 := Nat.mul_le_mul hn2 hs2
    have hpos : 0 < n * s := Nat.mul_pos h0 hs0
    refine wpList_buildSlice hg t T n parts ho (flatS s c l).toArray ie zv hu hie hz0 (by rw [hs]; omega) (by rw [hs]; omega) ?_ (h _ ?_ ((Below.refl _ w).alloc (Nat.le_refl _) _) ?_)
    · rw [hs, Array.toList_map, hp]
      exact fillT hs0 d l _ (by simp [hn])
    · refine ⟨by rw [flatS_len, hn], .inr ⟨w.heap.size, n, (flatS s c l).toArray, by rw [hn], Nat.le_refl _, (MapKept.heap_alloc w _).1, by rw [hn]; exact Nat.le_refl _, by unfold maxLen; omega, by simp [flatS_len, hn], ?_⟩⟩
      show (flatS s c l).take (l.length * s) = _
      rw [List.take_of_length_le (by rw [flatS_len]; exact Nat.le_refl _)]
    · show w.heap.size < (w.alloc _).heap.size
      rw [World.size_alloc]; omega
end
end Go.Proofs.YtpekhdahamloaaaGreatDoor
