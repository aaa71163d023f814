/- A row of ints in memory, whole: the block of a slice that the call itself has made. -/
import Derived.Test.YtajcpbchpcnmaaaRowInts
import Derived.Deep.OwnRows
import Derived.Laws.MakeOwn
set_option linter.unusedVariables false
set_option linter.unusedSimpArgs false
namespace Go.Proofs.Ytajcpbchpcnmaaa
open Go.RowKit

/-- the block's cells -/
def rowOf (l : List Nat) : Array Value := (l.map fun x : Nat => Value.int .i64 (x : Int)).toArray
theorem rowOf_size (l : List Nat) : (rowOf l).size = l.length := by simp [rowOf]
/-- block B holds just these ints -/
def RowAt (W : World) (B : Nat) (l : List Nat) : Prop := W.heap[B]? = some (.cells (rowOf l) 3 (0, 0))

theorem RowAt.lt {W : World} {B : Nat} {l : List Nat} (h : RowAt W B l) : B < W.heap.size := (Array.getElem?_eq_some_iff.1 h).1
theorem RowAt.cell {W : World} {B : Nat} {l : List Nat} (h : RowAt W B l) {i x : Nat} (hi : l[i]? = some x) : W.cell? ⟨B, i, none⟩ = some (.int .i64 (x : Int)) := by
  simp [World.cell?, show W.heap[B]? = _ from h, rowOf, hi]
theorem RowAt.frozen {W : World} {B : Nat} {l : List Nat} (h : RowAt W B l) (i : Nat) : W.frozen? ⟨B, i, none⟩ = false := by
  simp [World.frozen?, show W.heap[B]? = _ from h]
theorem RowAt.below {W W' : World} {B : Nat} {l : List Nat} (h : RowAt W B l) (hb : Below W.heap.size W W') : RowAt W' B l := (hb.block _ h.lt).trans h
theorem RowAt.other {W : World} {B : Nat} {l : List Nat} (h : RowAt W B l) {a : Addr} (hne : B ≠ a.block) (u : Value) : RowAt (W.setCell a u) B l := (Below.heap_setCell _ _ _ _ hne).trans h
theorem RowAt.set {W : World} {B : Nat} {l : List Nat} (h : RowAt W B l) (i x : Nat) : RowAt (W.setCell ⟨B, i, none⟩ (.int .i64 (x : Int))) B (l.set i x) := by
  obtain ⟨hlt, hk⟩ := Array.getElem?_eq_some_iff.1 h
  show (W.heap.modify B _)[B]? = _
  rw [Array.getElem?_eq_getElem (by rw [Array.size_modify]; exact hlt), Array.getElem_modify_self, hk]
  have e : (rowOf l).setIfInBounds i (.int .i64 (x : Int)) = rowOf (l.set i x) := by
    apply Array.ext'
    simp [rowOf, List.map_set]
  simp only [← e]
  rfl
theorem RowAt.intsAt {W : World} {B : Nat} {l : List Nat} (h : RowAt W B l) (hl : l.length ≤ 100) : IntsAt W (.slice (some ⟨B, 0, none⟩) l.length l.length) (l.map fun x : Nat => (x : Int)) := by
  refine .inr ⟨B, 0, l.length, by rw [List.length_map], by rw [List.length_map]; omega, h.lt, fun j hj => ?_⟩
  rw [List.length_map] at hj
  rw [Nat.zero_add, h.cell (List.getElem?_eq_getElem hj)]
  simp [hj]

theorem info_int : (Try.prog.info? 3).map (fun i => (i.zero, i.size, i.bytes)) = some (some (.int .i64 0), 1, 8) := by kernel_rfl
theorem madeRow (n : Nat) : madeCells #[.int .i64 0] n = rowOf (List.replicate n 0) := by
  apply Array.ext'
  simp only [madeCells, rowOf, Array.toList_map, Array.toList_range, List.map_replicate, List.size_toArray, List.length_cons, List.length_nil, Nat.zero_add, Nat.mod_one]
  rw [List.map_const']
  simp
theorem make_ints (n : Nat) (hn : n ≤ 100) (w : World) :
    (Instr.makeSlice 38 (.int .i64 (n : Int)) (.int .i64 (n : Int))).run Try.prog w = .ok (.slice (some ⟨w.heap.size, 0, none⟩) n n) (w.alloc (.cells (rowOf (List.replicate n 0)) 3)) := by
  obtain ⟨i, hi, hz0, hz1, hz2⟩ := info_parts info_int
  have h := run_make (P := Try.prog) w 38 3 i (.int .i64 0) Try.underlying38 hi hz0 .i64 .i64 n n (by omega) (Int.le_refl _) (by rw [hz2]; omega) (by omega)
  rw [hz1, Nat.mul_one, Int.toNat_natCast] at h
  rw [h, ← madeRow]
  rfl
end Go.Proofs.Ytajcpbchpcnmaaa
