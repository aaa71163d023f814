/- Arrays in memory, read and written whole. Slices of bytes, cut. -/
import Derived.Test.YtdcpejfnhegdaaaDoorMem
import Derived.Laws.Rows
import Derived.Laws.CopyRow
set_option linter.unusedVariables false
set_option linter.unusedSimpArgs false
namespace Go.Proofs.YtdcpejfnhegdaaaDoor
open Go.RowKit

section
variable {P : Program} {w : World} {ops : Array Oper} {rest : List Oper} {o : Oper} {a : Act} {Q : Exit → Act → World → Prop}
/-- the whole array is read -/
theorem wpList_load_rowV (hgd : o.guard = none) (ty : TypeId) (x : Operand) (ho : o.op = .load ty x) (g : Nat) (hx : a.eval x = .pointer (some ⟨g, 0, none⟩)) (N : Nat) (T : TypeId) (f : Nat → Value) (hrow : RowV w g T N f)
    (d : TypeDesc) (hu : P.underlying ty = some d) (hd : (match d with | .struct _ | .array _ _ => true | _ => false) = true) (hi : (P.info? ty).map (·.size) = some N)
    (h : wpList P ops Q rest (a.put o.dst (.agg (rowF N f))) w) : wpList P ops Q (o :: rest) a w :=
  wpList_load_row hgd ty x ho g hx T (rowF N f) (0, 0) d hrow hu hd (by rw [rowF_size]; exact hi) h

theorem run_storeVar_rowV (w : World) (g : Nat) (ty : TypeId) (N : Nat) (T : TypeId) (f f' : Nat → Value) (hrow : RowV w g T N f) (hi : (P.info? ty).map (·.size) = some N) (h1 : ∀ j, j < N → (f' j).oneCell' = true) :
    (storeVar ty ⟨g, 0, none⟩ (.agg (rowF N f'))).run P w = .ok () (w.setRow g (rowF N f')) := by
  have := run_storeCells_at P g 0 T ((List.range N).map f') 0 (rowF N f) w hrow (by simp [rowF_size]) (fun v hv => by
    obtain ⟨j, hj, rfl⟩ := List.mem_map.1 hv; exact h1 j (List.mem_range.1 hj))
  have e : ((rowF N f).toList.take (0 + 0) ++ (List.range N).map f' ++ (rowF N f).toList.drop (0 + 0 + ((List.range N).map f').length)).toArray = rowF N f' := by
    rw [List.take_zero, List.nil_append, List.drop_eq_nil_of_le (by simp [rowF_size]), List.append_nil]; rfl
  rw [e] at this
  cases hq : P.info? ty with
  | none => simp [hq] at hi
  | some i =>
    have hs : i.size = N := by simpa [hq] using hi
    simp [storeVar, sizeOf, typeInfo, hq, Value.cells, rowF_size, hs, show (rowF N f').toList = (List.range N).map f' from rfl, this]

/-- the whole array is written; the world behind it is a letter -/
theorem wpList_store_rowV (hgd : o.guard = none) (ty : TypeId) (x y : Operand) (ho : o.op = .store ty x y) (g : Nat) (hx : a.eval x = .pointer (some ⟨g, 0, none⟩)) (N : Nat) (T : TypeId) (f f' : Nat → Value) (hy : a.eval y = .agg (rowF N f'))
    (hrow : RowV w g T N f) (hi : (P.info? ty).map (·.size) = some N) (h1 : ∀ j, j < N → (f' j).oneCell' = true)
    (h : ∀ w', Hid (RowV w' g T N f') → Hid (OnlyB g w w') → wpList P ops Q rest (a.put o.dst undef) w') : wpList P ops Q (o :: rest) a w := by
  refine wpList_plain hgd fun K hK => ?_
  have hrun := run_storeVar_rowV (P := P) w g ty N T f f' hrow hi h1
  unfold Oper.wp execOp
  simp only [ho, hx, hy, Instr.storeAt, Instr.sureAddr, Sem.run_bind, Sem.run_pure, Result.andThen_ok, hrun]
  exact hK _ _ (h _ (setRow_rowV hrow _) (setRow_only _ _ _))
end

section
variable {P : Program} {w : World} {ops : Array Oper} {rest : List Oper} {o : Oper} {a : Act} {Q : Exit → Act → World → Prop}
/-- a copy into a row, of anything or of nothing -/
theorem wpList_copy_any (hgd : o.guard = none) (d s : Operand) (dT sT : TypeId)
    (ho : o.op = .call { callee := .builtin .copy, args := #[d, s], argTypes := #[dT, sT] }) (elem : TypeId) (hu : P.underlying dT = some (.slice elem)) (hsz : (P.info? elem).map (·.size) = some 1)
    (g off dLen dCap : Nat) (sp : Option Addr) (sLen sCap : Nat) (hd : a.eval d = .slice (some ⟨g, off, none⟩) dLen dCap) (hs : a.eval s = .slice sp sLen sCap)
    (N n : Nat) (T : TypeId) (f src : Nat → Value) (hrow : RowV w g T N f) (hn : n = Nat.min sLen dLen)
    (hsrc : 0 < n → ∃ ad, sp = some ad ∧ ∀ j, j < n → w.cell? (ad.add j) = some (src j)) (hfit : off + n ≤ N) (h1 : ∀ j, j < n → (src j).oneCell' = true)
    (h : ∀ w', Hid (RowV w' g T N fun j => if off ≤ j ∧ j < off + n then src (j - off) else f j) → Hid (OnlyB g w w') → wpList P ops Q rest (a.put o.dst (goInt n)) w') :
    wpList P ops Q (o :: rest) a w := by
  by_cases h0 : n = 0
  · subst h0
    refine wpList_copy_nothing hgd d s dT sT ho elem hu hsz (some ⟨g, off, none⟩) sp dLen dCap sLen sCap hd hs hn.symm ?_
    exact h w (hrow.congr fun j _ => by rw [if_neg (by omega)]) (OnlyB.refl _ _)
  · obtain ⟨ad, rfl, hc⟩ := hsrc (by omega)
    exact wpList_copy_rowV hgd d s dT sT ho elem hu hsz g off dLen dCap ad sLen sCap hd hs N n T f src hrow hn hc hfit h1 h
end

/-- an array that is a result -/
theorem results_rowV {P : Program} {fn : Func} {p : Tmp} {ty : TypeId} (h : fn.results = #[.cell p ty]) (tmps : Array Value) (w : World) (g N : Nat) (T : TypeId) (f : Nat → Value) (d : TypeDesc)
    (hp : tmps.getD p undef = .pointer (some ⟨g, 0, none⟩)) (hrow : RowV w g T N f)
    (hu : P.underlying ty = some d) (hd : (match d with | .struct _ | .array _ _ => true | _ => false) = true) (hi : (P.info? ty).map (·.size) = some N) :
    (results fn tmps).run P w = .ok (.agg (rowF N f)) w :=
  results_cell_row h tmps w g T (rowF N f) (0, 0) d hp hrow hu hd (by rw [rowF_size]; exact hi)

/-! slices of bytes, cut -/
theorem drop_getD (l : List UInt8) (k j : Nat) : (l.drop k).getD j 0 = l.getD (k + j) 0 := by
  simp [List.getD_eq_getElem?_getD, List.getElem?_drop]
theorem BytesAt.drop_same {w : World} {b o cap k : Nat} {l : List UInt8} (hc : cap = k) (hl : l.length ≤ k) : BytesAt w (.slice (some ⟨b, o, none⟩) (l.length - k) (cap - k)) (l.drop k) :=
  .inl ⟨⟨_, cap - k, by rw [Nat.sub_eq_zero_of_le hl], fun h => by cases h⟩, List.drop_eq_nil_of_le hl⟩
theorem BytesAt.drop_at {w : World} {b o cap k : Nat} {l : List UInt8} (hlen : l.length ≤ cap) (hcap : (l.length : Int) ≤ 140737488351232 ∧ (cap : Int) ≤ 9223372036854775807) (hb : b < w.heap.size) (hcell : ∀ j, j < l.length → w.cell? ⟨b, o + j, none⟩ = some (vB (l.getD j 0))) (hk : k ≤ l.length) :
    BytesAt w (.slice (some ⟨b, o + k, none⟩) (l.length - k) (cap - k)) (l.drop k) := by
  by_cases h0 : l.length - k = 0
  · exact .inl ⟨⟨_, cap - k, by rw [h0], fun h => by cases h⟩, List.drop_eq_nil_of_le (by omega)⟩
  · refine .inr ⟨b, o + k, cap - k, by rw [List.length_drop], by rw [List.length_drop]; omega, by rw [List.length_drop]; omega, ⟨by rw [List.length_drop]; omega, by omega⟩, hb, fun j hj => ?_⟩
    rw [List.length_drop] at hj
    rw [drop_getD, Nat.add_assoc, hcell _ (by omega)]
end Go.Proofs.YtdcpejfnhegdaaaDoor
