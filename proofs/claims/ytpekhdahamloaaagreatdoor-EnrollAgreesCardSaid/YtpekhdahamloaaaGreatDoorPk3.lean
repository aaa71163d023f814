/- A block of memory known whole: its cells as a function of the place. Slices and arrays over it. Arrays in memory, read and written whole. Slices of bytes, cut. -/
import Derived.Test.YtpekhdahamloaaaGreatDoorRows
import Derived.WalkKit
import Derived.WalkSpells
import Derived.WalkLawsBesides
import Derived.Lib.Hide
import Derived.Deep.OwnRows
import Derived.Laws.MakeOwn
import Derived.Laws.CopyOwn
import Derived.Laws.Rows
import Derived.Laws.CopyRow
set_option linter.unusedVariables false
set_option linter.unusedSimpArgs false
namespace Go.Proofs.YtpekhdahamloaaaGreatDoor
open Go.RowKit

/-- n values -/
def rowF (n : Nat) (g : Nat → Value) : Array Value := ((List.range n).map g).toArray
theorem rowF_size (n : Nat) (g : Nat → Value) : (rowF n g).size = n := by simp [rowF]
theorem rowF_get {n : Nat} {g : Nat → Value} {i : Nat} (h : i < n) : (rowF n g)[i]? = some (g i) := by simp [rowF, h]
theorem rowF_congr {n : Nat} {g g' : Nat → Value} (h : ∀ i, i < n → g i = g' i) : rowF n g = rowF n g' := by
  unfold rowF; congr 1; exact List.map_congr_left fun i hi => h i (List.mem_range.1 hi)
theorem rowF_set (n : Nat) (g : Nat → Value) (k : Nat) (v : Value) : (rowF n g).setIfInBounds k v = rowF n (fun i => if i = k then v else g i) := by
  apply Array.ext_getElem?
  intro i
  rw [Array.getElem?_setIfInBounds, rowF_size]
  by_cases hi : i < n
  · rw [rowF_get hi, rowF_get hi]
    by_cases hk : k = i
    · subst hk; simp [hi]
    · simp [hk, Ne.symm hk]
  · rw [Array.getElem?_eq_none (by rw [rowF_size]; omega), Array.getElem?_eq_none (by rw [rowF_size]; omega)]
    split <;> simp_all

/-- block B holds just these n values; T: the block's type -/
def RowV (W : World) (B : Nat) (T : TypeId) (n : Nat) (g : Nat → Value) : Prop := W.heap[B]? = some (.cells (rowF n g) T (0, 0))
section
variable {W W' : World} {B n : Nat} {T : TypeId} {g g' : Nat → Value}
theorem RowV.lt (h : RowV W B T n g) : B < W.heap.size := (Array.getElem?_eq_some_iff.1 h).1
theorem RowV.cell (h : RowV W B T n g) {i : Nat} (hi : i < n) : W.cell? ⟨B, i, none⟩ = some (g i) := by
  simp [World.cell?, show W.heap[B]? = _ from h, rowF_get hi]
theorem RowV.frozen (h : RowV W B T n g) (i : Nat) : W.frozen? ⟨B, i, none⟩ = false := by
  simp [World.frozen?, show W.heap[B]? = _ from h]
theorem RowV.of_block (h : RowV W B T n g) (hb : W'.heap[B]? = W.heap[B]?) : RowV W' B T n g := hb.trans h
theorem RowV.below (h : RowV W B T n g) (hb : Below W.heap.size W W') : RowV W' B T n g := (hb.block _ h.lt).trans h
theorem RowV.belowK {K : Nat} (h : RowV W B T n g) (hk : B < K) (hb : Below K W W') : RowV W' B T n g := (hb.block _ hk).trans h
theorem RowV.congr (h : RowV W B T n g) (he : ∀ i, i < n → g i = g' i) : RowV W B T n g' := by
  unfold RowV at *; rw [← rowF_congr he]; exact h
theorem RowV.other (h : RowV W B T n g) {a : Addr} (hne : B ≠ a.block) (u : Value) : RowV (W.setCell a u) B T n g := (Below.heap_setCell _ _ _ _ hne).trans h
theorem RowV.set (h : RowV W B T n g) (k : Nat) (v : Value) : RowV (W.setCell ⟨B, k, none⟩ v) B T n (fun i => if i = k then v else g i) := by
  obtain ⟨hlt, hk⟩ := Array.getElem?_eq_some_iff.1 h
  show (W.heap.modify B _)[B]? = _
  rw [Array.getElem?_eq_getElem (by rw [Array.size_modify]; exact hlt), Array.getElem_modify_self, hk]
  simp only [Option.isSome_none, Bool.false_eq_true, if_false, rowF_set]
/-- a store of the value that the next state has -/
theorem RowV.put (h : RowV W B T n g) {k : Nat} {v : Value} (he : ∀ i, i < n → (if i = k then v else g i) = g' i) : RowV (W.setCell ⟨B, k, none⟩ v) B T n g' := (h.set k v).congr he
theorem RowV.drew (h : RowV W B T n g) : RowV W.drew B T n g := h
theorem RowV.new (W : World) (T : TypeId) (n : Nat) (g : Nat → Value) : RowV (W.alloc (.cells (rowF n g) T)) W.heap.size T n g := by
  show (W.heap.push _)[_]? = _; simp
theorem RowV.alloc (h : RowV W B T n g) (o : Obj) : RowV (W.alloc o) B T n g := h.below (Below.alloc (Below.refl _ _) (Nat.le_refl _) o)
end

/-- only block B of the old ones, and new ones, may have changed -/
structure OnlyB (B : Nat) (w w' : World) : Prop where
  os : w'.os = w.os
  tape : w'.tape = w.tape
  output : w'.output = w.output
  size : w.heap.size ≤ w'.heap.size
  block : ∀ k, k < w.heap.size → k ≠ B → w'.heap[k]? = w.heap[k]?
section
variable {B : Nat} {a b c w w' : World}
theorem OnlyB.refl (B : Nat) (w : World) : OnlyB B w w := ⟨rfl, rfl, rfl, Nat.le_refl _, fun _ _ _ => rfl⟩
theorem OnlyB.trans (h : OnlyB B a b) (k : OnlyB B b c) : OnlyB B a c :=
  ⟨k.os.trans h.os, k.tape.trans h.tape, k.output.trans h.output, Nat.le_trans h.size k.size, fun i hi hn => (k.block i (Nat.lt_of_lt_of_le hi h.size) hn).trans (h.block i hi hn)⟩
theorem OnlyB.of_below (h : Below w.heap.size w w') : OnlyB B w w' := ⟨h.os, h.tape, h.output, h.size, fun k hk _ => h.block k hk⟩
theorem OnlyB.drew (h : OnlyB B a w) : OnlyB B a w.drew := ⟨h.os, h.tape, h.output, h.size, h.block⟩
theorem OnlyB.alloc (h : OnlyB B a w) (o : Obj) : OnlyB B a (w.alloc o) := h.trans (.of_below (Below.alloc (Below.refl _ _) (Nat.le_refl _) o))
/-- a store into block B, or into a block that is new -/
theorem OnlyB.setCell (h : OnlyB B a w) {p : Addr} (hp : p.block = B ∨ a.heap.size ≤ p.block) (u : Value) : OnlyB B a (w.setCell p u) := by
  refine ⟨h.os, h.tape, h.output, by simpa [World.setCell] using h.size, fun k hk hn => ?_⟩
  rw [Below.heap_setCell _ _ _ _ (by rcases hp with hp | hp <;> omega)]
  exact h.block k hk hn
theorem OnlyB.below {K : Nat} (h : OnlyB B w w') (hB : K ≤ B) (hK : K ≤ w.heap.size) : Below K w w' := ⟨h.os, h.tape, h.output, h.size, fun k hk => h.block k (by omega) (by omega)⟩
theorem OnlyB.row {C n : Nat} {T : TypeId} {g : Nat → Value} (h : OnlyB B w w') (hne : C ≠ B) (r : RowV w C T n g) : RowV w' C T n g := (h.block C r.lt hne).trans r
theorem OnlyB.cell (h : OnlyB B w w') {p : Addr} (hp : p.block < w.heap.size) (hne : p.block ≠ B) : w'.cell? p = w.cell? p := World.cell?_of_block (w := w) (h.block p.block hp hne)
end

/-! a copy into a row -/
theorem setRow_rowV {W : World} {B n n' : Nat} {T : TypeId} {g : Nat → Value} (h : RowV W B T n g) (g' : Nat → Value) : RowV (W.setRow B (rowF n' g')) B T n' g' := setRow_heap W B _ _ T _ h
theorem setRow_only (W : World) (B : Nat) (cs : Array Value) : OnlyB B W (W.setRow B cs) :=
  ⟨rfl, rfl, rfl, by simp [World.setRow], fun k _ hn => setRow_other W B k cs hn⟩
theorem run_copy_rowV {P : Program} (w : World) (dT sT ty elem : TypeId) (g o dLen dCap : Nat) (a : Addr) (sLen sCap N n : Nat) (T : TypeId) (f src : Nat → Value)
    (hu : P.underlying dT = some (.slice elem)) (hs : (P.info? elem).map (·.size) = some 1) (hrow : RowV w g T N f) (hn : n = Nat.min sLen dLen)
    (hsrc : ∀ j, j < n → w.cell? (a.add j) = some (src j)) (hfit : o + n ≤ N) (h1 : ∀ j, j < n → (src j).oneCell' = true) :
    (Builtin.copy_ #[dT, sT] ty #[.slice (some ⟨g, o, none⟩) dLen dCap, .slice (some a) sLen sCap]).run P w =
      .ok (goInt n) (w.setRow g (rowF N fun j => if o ≤ j ∧ j < o + n then src (j - o) else f j)) := by
  have h := run_copy_row (P := P) w dT sT ty elem g o dLen dCap a sLen sCap (rowF N f) T ((List.range n).map src) hu hs hrow (by simpa using hn)
    (fun j v hj => by
      rw [List.getElem?_map] at hj
      obtain ⟨k, hk, rfl⟩ := Option.map_eq_some_iff.1 hj
      obtain ⟨hk1, hk2⟩ := List.getElem?_eq_some_iff.1 hk
      rw [List.length_range] at hk1
      rw [List.getElem_range] at hk2
      subst hk2
      exact hsrc j hk1)
    (by rw [rowF_size, List.length_map, List.length_range]; exact hfit)
    (fun v hv => by obtain ⟨j, hj, rfl⟩ := List.mem_map.1 hv; exact h1 j (List.mem_range.1 hj))
  rw [h]
  congr 1
  · simp
  · congr 1
    apply Array.ext_getElem?
    intro i
    simp only [List.getElem?_toArray, List.length_map, List.length_range]
    by_cases hi : i < N
    · rw [rowF_get hi]
      by_cases h2 : i < o
      · rw [if_neg (by omega), List.append_assoc, List.getElem?_append_left (by simp [rowF_size]; omega), List.getElem?_take_of_lt h2]
        simpa using rowF_get hi
      · by_cases h3 : i < o + n
        · rw [if_pos ⟨by omega, h3⟩, List.append_assoc, List.getElem?_append_right (by simp [rowF_size]; omega), List.getElem?_append_left (by simp [rowF_size]; omega)]
          simp only [List.length_take, Array.length_toList, rowF_size, Nat.min_eq_left (show o ≤ N by omega), List.getElem?_map, List.getElem?_range (show i - o < n by omega), Option.map_some]
        · rw [if_neg (by omega), List.getElem?_append_right (by simp [rowF_size]; omega), List.getElem?_drop]
          simp only [List.length_append, List.length_take, Array.length_toList, rowF_size, Nat.min_eq_left (show o ≤ N by omega), List.length_map, List.length_range]
          rw [show o + n + (i - (o + n)) = i by omega]
          simpa using rowF_get hi
    · rw [Array.getElem?_eq_none (by rw [rowF_size]; omega), List.getElem?_eq_none (by simp [rowF_size]; omega)]

/-- a copy into a row, met in the walk: the world behind it is a letter -/
theorem wpList_copy_rowV {P : Program} {w : World} {ops : Array Oper} {rest : List Oper} {o : Oper} {a : Act} {Q : Exit → Act → World → Prop} (hgd : o.guard = none) (d s : Operand) (dT sT : TypeId)
    (ho : o.op = .call { callee := .builtin .copy, args := #[d, s], argTypes := #[dT, sT] }) (elem : TypeId) (hu : P.underlying dT = some (.slice elem)) (hsz : (P.info? elem).map (·.size) = some 1)
    (g off dLen dCap : Nat) (ad : Addr) (sLen sCap : Nat) (hd : a.eval d = .slice (some ⟨g, off, none⟩) dLen dCap) (hs : a.eval s = .slice (some ad) sLen sCap)
    (N n : Nat) (T : TypeId) (f src : Nat → Value) (hrow : RowV w g T N f) (hn : n = Nat.min sLen dLen)
    (hsrc : ∀ j, j < n → w.cell? (ad.add j) = some (src j)) (hfit : off + n ≤ N) (h1 : ∀ j, j < n → (src j).oneCell' = true)
    (h : ∀ w', Hid (RowV w' g T N fun j => if off ≤ j ∧ j < off + n then src (j - off) else f j) → Hid (OnlyB g w w') → wpList P ops Q rest (a.put o.dst (goInt n)) w') :
    wpList P ops Q (o :: rest) a w := by
  refine wpList_plain hgd fun K hK => ?_
  have hrun := run_copy_rowV (P := P) w dT sT o.type elem g off dLen dCap ad sLen sCap N n T f src hu hsz hrow hn hsrc hfit h1
  unfold Oper.wp
  simp [execOp, ho, resolve, invoke, builtin, hd, hs, hrun, Result.andThen]
  exact hK _ _ (h _ (setRow_rowV hrow _) (setRow_only _ _ _))

/-- a byte, as memory holds it -/
abbrev vB (x : UInt8) : Value := .int .u8 (x.toNat : Int)
/-- the value is a slice over these bytes -/
def BytesAt (w : World) (v : Value) (l : List UInt8) : Prop :=
  ((∃ (a : Option Addr) (c : Nat), v = .slice a 0 c ∧ (a = none → c = 0)) ∧ l = []) ∨
  ∃ b off cap : Nat, v = .slice (some ⟨b, off, none⟩) l.length cap ∧ l.length ≤ cap ∧ 0 < l.length ∧ ((l.length : Int) ≤ 140737488351232 ∧ (cap : Int) ≤ 9223372036854775807) ∧ b < w.heap.size ∧ ∀ j, j < l.length → w.cell? ⟨b, off + j, none⟩ = some (vB (l.getD j 0))
theorem BytesAt.below {w w' : World} {v : Value} {l : List UInt8} (h : BytesAt w v l) (hb : Below w.heap.size w w') : BytesAt w' v l := by
  rcases h with h | ⟨b, off, cap, h1, h2, h3, h4, h5, h6⟩
  · exact .inl h
  · exact .inr ⟨b, off, cap, h1, h2, h3, h4, Nat.lt_of_lt_of_le h5 hb.size, fun j hj => (hb.cell (p := ⟨b, off + j, none⟩) h5).trans (h6 j hj)⟩
theorem BytesAt.len_le {w : World} {v : Value} {l : List UInt8} (h : BytesAt w v l) : (l.length : Int) ≤ 140737488351232 := by
  rcases h with ⟨_, rfl⟩ | ⟨_, _, _, _, _, _, h4, _⟩
  · decide
  · exact h4.1
theorem BytesAt.slice {w : World} {v : Value} {l : List UInt8} (h : BytesAt w v l) : ∃ (a : Option Addr) (c : Nat), v = .slice a l.length c := by
  rcases h with ⟨⟨a, c, rfl, _⟩, rfl⟩ | ⟨b, off, cap, rfl, _⟩
  · exact ⟨a, c, rfl⟩
  · exact ⟨_, _, rfl⟩
end Go.Proofs.YtpekhdahamloaaaGreatDoor

namespace Go.Proofs.YtpekhdahamloaaaGreatDoor
open Go.RowKit

section
variable {P : Program} {w : World} {ops : Array Oper} {rest : List Oper} {o : Oper} {a : Act} {Q : Exit → Act → World → Prop}
/-- the whole array is read -/
theorem wpList_load_rowV (hgd : o.guard = none) (ty : TypeId) (x : Operand) (ho : o.op = .load ty x) (g : Nat) (hx : a.eval x = .pointer (some ⟨g, 0, none⟩)) (N : Nat) (T : TypeId) (f : Nat → Value) (hrow : RowV w g T N f)
    (d : TypeDesc) (hu : P.underlying ty = some d) (hd : (match d with | .struct _ | .array _ _ => true | _ => false) = true) (hi : (P.info? ty).map (·.size) = some N)
    (h : wpList P ops Q rest (a.put o.dst (.agg (rowF N f))) w) : wpList P ops Q (o :: rest) a w :=
  wpList_load_row hgd ty x ho g hx T (rowF N f) (0, 0) d hrow hu hd (by rw [rowF_size]; exact hi) h

theorem run_storeVar_rowV (w : World) (g : Nat) (ty : TypeId) (N : Nat) (T : TypeId) (f f' : Nat → Value) (hrow : RowV w g T N f) (hi : (P.info? ty).map (·.size) = some N) (h1 : ∀ j, j < N → (f' j).oneCell' = true) :
    (storeVar ty ⟨g, 0, none⟩ (.agg (rowF N f'))).run P w = .ok () (w.setRow g (rowF N f')) := by
  have := run_storeCells_at P g 0 T ((List.range N).map f') 0 (rowF N f) w hrow (by simp [rowF_size]) (fun v hv => by
    obtain ⟨j, hj, rfl⟩ := List.mem_map.1 hv; exact h1 j (List.mem_range.1 hj))
  have e : ((rowF N f).toList.take (0 + 0) ++ (List.range N).map f' ++ (rowF N f).toList.drop (0 + 0 + ((List.range N).map f').length)).toArray = rowF N f' := by
    rw [List.take_zero, List.nil_append, List.drop_eq_nil_of_le (by simp [rowF_size]), List.append_nil]; rfl
  rw [e] at this
  cases hq : P.info? ty with
  | none => simp [hq] at hi
  | some i =>
    have hs : i.size = N := by simpa [hq] using hi
    simp [storeVar, sizeOf, typeInfo, hq, Value.cells, rowF_size, hs, show (rowF N f').toList = (List.range N).map f' from rfl, this]

/-- the whole array is written; the world behind it is a letter -/
theorem wpList_store_rowV (hgd : o.guard = none) (ty : TypeId) (x y : Operand) (ho : o.op = .store ty x y) (g : Nat) (hx : a.eval x = .pointer (some ⟨g, 0, none⟩)) (N : Nat) (T : TypeId) (f f' : Nat → Value) (hy : a.eval y = .agg (rowF N f'))
    (hrow : RowV w g T N f) (hi : (P.info? ty).map (·.size) = some N) (h1 : ∀ j, j < N → (f' j).oneCell' = true)
    (h : ∀ w', Hid (RowV w' g T N f') → Hid (OnlyB g w w') → wpList P ops Q rest (a.put o.dst undef) w') : wpList P ops Q (o :: rest) a w := by
  refine wpList_plain hgd fun K hK => ?_
  have hrun := run_storeVar_rowV (P := P) w g ty N T f f' hrow hi h1
  unfold Oper.wp execOp
  simp only [ho, hx, hy, Instr.storeAt, Instr.sureAddr, Sem.run_bind, Sem.run_pure, Result.andThen_ok, hrun]
  exact hK _ _ (h _ (setRow_rowV hrow _) (setRow_only _ _ _))
end

section
variable {P : Program} {w : World} {ops : Array Oper} {rest : List Oper} {o : Oper} {a : Act} {Q : Exit → Act → World → Prop}
/-- a copy into a row, of anything or of nothing -/
theorem wpList_copy_any (hgd : o.guard = none) (d s : Operand) (dT sT : TypeId)
    (ho : o.op = .call { callee := .builtin .copy, args := #[d, s], argTypes := #[dT, sT] }) (elem : TypeId) (hu : P.underlying dT = some (.slice elem)) (hsz : (P.info? elem).map (·.size) = some 1)
    (g off dLen dCap : Nat) (sp : Option Addr) (sLen sCap : Nat) (hd : a.eval d = .slice (some ⟨g, off, none⟩) dLen dCap) (hs : a.eval s = .slice sp sLen sCap)
    (N n : Nat) (T : TypeId) (f src : Nat → Value) (hrow : RowV w g T N f) (hn : n = Nat.min sLen dLen)
    (hsrc : 0 < n → ∃ ad, sp = some ad ∧ ∀ j, j < n → w.cell? (ad.add j) = some (src j)) (hfit : off + n ≤ N) (h1 : ∀ j, j < n → (src j).oneCell' = true)
    (h : ∀ w', Hid (RowV w' g T N fun j => if off ≤ j ∧ j < off + n then src (j - off) else f j) → Hid (OnlyB g w w') → wpList P ops Q rest (a.put o.dst (goInt n)) w') :
    wpList P ops Q (o :: rest) a w := by
  by_cases h0 : n = 0
  · subst h0
    refine wpList_copy_nothing hgd d s dT sT ho elem hu hsz (some ⟨g, off, none⟩) sp dLen dCap sLen sCap hd hs hn.symm ?_
    exact h w (hrow.congr fun j _ => by rw [if_neg (by omega)]) (OnlyB.refl _ _)
  · obtain ⟨ad, rfl, hc⟩ := hsrc (by omega)
    exact wpList_copy_rowV hgd d s dT sT ho elem hu hsz g off dLen dCap ad sLen sCap hd hs N n T f src hrow hn hc hfit h1 h
end

/-- an array that is a result -/
theorem results_rowV {P : Program} {fn : Func} {p : Tmp} {ty : TypeId} (h : fn.results = #[.cell p ty]) (tmps : Array Value) (w : World) (g N : Nat) (T : TypeId) (f : Nat → Value) (d : TypeDesc)
    (hp : tmps.getD p undef = .pointer (some ⟨g, 0, none⟩)) (hrow : RowV w g T N f)
    (hu : P.underlying ty = some d) (hd : (match d with | .struct _ | .array _ _ => true | _ => false) = true) (hi : (P.info? ty).map (·.size) = some N) :
    (results fn tmps).run P w = .ok (.agg (rowF N f)) w :=
  results_cell_row h tmps w g T (rowF N f) (0, 0) d hp hrow hu hd (by rw [rowF_size]; exact hi)

/-! slices of bytes, cut -/
theorem drop_getD (l : List UInt8) (k j : Nat) : (l.drop k).getD j 0 = l.getD (k + j) 0 := by
  simp [List.getD_eq_getElem?_getD, List.getElem?_drop]
theorem BytesAt.drop_same {w : World} {b o cap k : Nat} {l : List UInt8} (hc : cap = k) (hl : l.length ≤ k) : BytesAt w (.slice (some ⟨b, o, none⟩) (l.length - k) (cap - k)) (l.drop k) :=
  .inl ⟨⟨_, cap - k, by rw [Nat.sub_eq_zero_of_le hl], fun h => by cases h⟩, List.drop_eq_nil_of_le hl⟩
theorem BytesAt.drop_at {w : World} {b o cap k : Nat} {l : List UInt8} (hlen : l.length ≤ cap) (hcap : (l.length : Int) ≤ 140737488351232 ∧ (cap : Int) ≤ 9223372036854775807) (hb : b < w.heap.size) (hcell : ∀ j, j < l.length → w.cell? ⟨b, o + j, none⟩ = some (vB (l.getD j 0))) (hk : k ≤ l.length) :
    BytesAt w (.slice (some ⟨b, o + k, none⟩) (l.length - k) (cap - k)) (l.drop k) := by
  by_cases h0 : l.length - k = 0
  · exact .inl ⟨⟨_, cap - k, by rw [h0], fun h => by cases h⟩, List.drop_eq_nil_of_le (by omega)⟩
  · refine .inr ⟨b, o + k, cap - k, by rw [List.length_drop], by rw [List.length_drop]; omega, by rw [List.length_drop]; omega, ⟨by rw [List.length_drop]; omega, by omega⟩, hb, fun j hj => ?_⟩
    rw [List.length_drop] at hj
    rw [drop_getD, Nat.add_assoc, hcell _ (by omega)]
end Go.Proofs.YtpekhdahamloaaaGreatDoor
