/- A slice of the call's own, appended to: what else stays. A struct or an array inside a block, read and written whole. Values that an operation yields in a region that draws. -/
import Derived.Test.YtpekhdahamloaaaGreatDoorPk21
import Derived.Test.YtpekhdahamloaaaGreatDoorPk18
import Derived.Lib.AppendStr
import Derived.Shelf.Abstract
import Derived.Deep.MidRow
set_option linter.unusedVariables false
set_option linter.unusedSimpArgs false
namespace Go.Proofs.YtpekhdahamloaaaGreatDoor
open Go.RowKit
/-! a slice of the call's own, appended to: only its own block, and new ones, change -/
def AppStep (w : World) (v : Value) (w' : World) (v' : Value) : Prop := w.grownBy w' v.ownBlock ∧ (v'.ownBlock = v.ownBlock ∨ ∀ k, v'.ownBlock = some k → w.heap.size ≤ k)
theorem AppStep.refl (w : World) (v : Value) : AppStep w v w v := ⟨⟨rfl, rfl, rfl, Nat.le_refl _, fun _ _ _ => rfl⟩, .inl rfl⟩
theorem AppStep.trans {a b c : World} {u v x : Value} (h : AppStep a u b v) (k : AppStep b v c x) : AppStep a u c x := by
  obtain ⟨h1, h2⟩ := h
  obtain ⟨k1, k2⟩ := k
  refine ⟨⟨k1.os.trans h1.os, k1.tape.trans h1.tape, k1.output.trans h1.output, Nat.le_trans h1.size k1.size, fun i hi hn => ?_⟩, ?_⟩
  · rw [k1.block i (Nat.lt_of_lt_of_le hi h1.size) ?_, h1.block i hi hn]
    intro e
    rcases h2 with h2 | h2
    · exact hn (e.trans h2)
    · have := h2 i e.symm; omega
  · rcases k2 with k2 | k2
    · rcases h2 with h2 | h2
      · exact .inl (k2.trans h2)
      · exact .inr fun i hi => h2 i (k2.symm.trans hi)
    · exact .inr fun i hi => Nat.le_trans h1.size (k2 i hi)
theorem AppStep.of_below {w w' : World} (v : Value) (h : Below w.heap.size w w') : AppStep w v w' v := ⟨⟨h.os, h.tape, h.output, h.size, fun k hk _ => h.block k hk⟩, .inl rfl⟩
theorem AppStep.below {w w' : World} {v v' : Value} {base : Nat} {l : List UInt8} (h : AppStep w v w' v') (ho : Owns w base v l) (hb : base ≤ w.heap.size) : Below base w w' :=
  (Below.refl base w).grown h.1 hb (fun k hk => (World.ownsRow.lt ho k hk).1)
theorem AppStep.block {w w' : World} {v v' : Value} (h : AppStep w v w' v') {k : Nat} (hk : k < w.heap.size) (hn : v.ownBlock ≠ some k) : w'.heap[k]? = w.heap[k]? := h.1.block k hk (fun e => hn e.symm)
theorem AppStep.row {w w' : World} {v v' : Value} (h : AppStep w v w' v') {B : Nat} {T : TypeId} {n : Nat} {g : Nat → Value} (r : RowV w B T n g) (hn : v.ownBlock ≠ some B) : RowV w' B T n g := (h.block r.lt hn).trans r
/-- the own block is not this one -/
theorem AppStep.ne {w w' : World} {v v' : Value} (h : AppStep w v w' v') {k : Nat} (hk : k < w.heap.size) (hn : v.ownBlock ≠ some k) : v'.ownBlock ≠ some k := by
  intro e
  rcases h.2 with h2 | h2
  · exact hn (h2.symm.trans e)
  · have := h2 k e; omega

section
variable {P : Program} (w : World)
/-- where the slice lies behind an append -/
theorem append_where (base : Nat) (t ty e : TypeId) (i : TypeInfo) (z : Value) (size bytes : Nat) (ht : P.underlying t = some (.slice e)) (hi : P.info? e = some i) (hz : i.zero = some z)
    (hsize : i.size = size) (hby : i.bytes = bytes) (hzs : z.cells.size = size) (hsz : 0 < size)
    (v : Value) (n : Nat) (xs : List Value) (hown : w.ownsRow base e size v n xs)
    (a : Addr) (m c : Nat) (news : List Value) (hl : news.length = m * size) (hnews : ∀ j u, news[j]? = some u → w.cell? (a.add j) = some u) (h1 : ∀ u ∈ news, u.oneCell' = true)
    (h63 : n + m ≤ maxLen) (hbytes : (n + m) * bytes ≤ 140737488355328) {v' : Value} {w' : World} (hr : (Builtin.append_ #[t, t] ty #[v, .slice (some a) m c]).run P w = .ok v' w') :
    v'.ownBlock = v.ownBlock ∨ ∀ k, v'.ownBlock = some k → w.heap.size ≤ k := by
  rcases hown.2 with ⟨rfl, rfl⟩ | ⟨g, cap, cur, rfl, hbg, hg, hnc, hcm, hcs, htake⟩
  · have hx : xs = [] := List.eq_nil_of_length_eq_zero (by simpa using hown.1)
    subst hx
    obtain ⟨v2, w2, hr2, h2, _, _⟩ := run_append_own (P := P) w w.heap.size t ty e i z size bytes ht hi hz hsize hby hzs hsz (.slice none 0 0) 0 [] (World.ownsRow_nil w w.heap.size e size) a m c news hl hnews h1 h63 hbytes (Nat.le_refl _)
    obtain ⟨rfl, rfl⟩ := Result.ok.inj (hr.symm.trans hr2)
    exact .inr fun k hk => (World.ownsRow.lt h2 k hk).1
  · by_cases hroom : n + m ≤ cap
    · have hr2 := run_append_room (P := P) w t ty e i ht hi g n cap cur hg a m c news (by rw [hsize]; exact hl) hnews h1 hroom (by rw [hsize, hl, hcs, ← Nat.add_mul]; exact Nat.mul_le_mul_right _ hroom)
      obtain ⟨rfl, rfl⟩ := Result.ok.inj (hr.symm.trans hr2)
      exact .inl rfl
    · have holds : ∀ j u, xs[j]? = some u → w.cell? ((⟨g, 0, none⟩ : Addr).add j) = some u := hown.cells (g := g) rfl
      have hr2 := run_append_grow (P := P) w t ty e i z ht hi hz ⟨g, 0, none⟩ n cap xs (by rw [hsize]; exact hown.1) holds a m c news (by rw [hsize]; exact hl) hnews (by omega) (by simp only [maxLen] at h63; omega) (growslice_fits (by omega) (by rw [hby]; exact hbytes))
      obtain ⟨rfl, rfl⟩ := Result.ok.inj (hr.symm.trans hr2)
      exact .inr fun k hk => by simp [Value.ownBlock] at hk; omega
theorem append_where_string (base : Nat) (t u ty e : TypeId) (i : TypeInfo) (ht : P.underlying t = some (.slice e)) (hu : P.underlying u = some .string) (hi : P.info? e = some i) (hz : i.zero = some (.int .u8 0))
    (hsize : i.size = 1) (hby : i.bytes = 1)
    (v : Value) (n : Nat) (xs : List Value) (hown : w.ownsRow base e 1 v n xs) (s : ByteArray)
    (h63 : n + s.size ≤ maxLen) (hbytes : n + s.size ≤ 140737488355328) {v' : Value} {w' : World} (hr : (Builtin.append_ #[t, u] ty #[v, .string s]).run P w = .ok v' w') :
    v'.ownBlock = v.ownBlock ∨ ∀ k, v'.ownBlock = some k → w.heap.size ≤ k := by
  rcases hown.2 with ⟨rfl, rfl⟩ | ⟨g, cap, cur, rfl, hbg, hg, hnc, hcm, hcs, htake⟩
  · have hx : xs = [] := List.eq_nil_of_length_eq_zero (by simpa using hown.1)
    subst hx
    obtain ⟨v2, w2, hr2, h2, _, _⟩ := Lib.run_append_own_string (P := P) w w.heap.size t u ty e i ht hu hi hz hsize hby (.slice none 0 0) 0 [] (World.ownsRow_nil w w.heap.size e 1) s h63 hbytes (Nat.le_refl _)
    obtain ⟨rfl, rfl⟩ := Result.ok.inj (hr.symm.trans hr2)
    exact .inr fun k hk => (World.ownsRow.lt h2 k hk).1
  · have hxl : xs.length = n := by simpa using hown.1
    by_cases hroom : n + s.size ≤ cap
    · have hr2 := Lib.run_append_room_string (P := P) w t u ty e i ht hu hi hsize g n cap cur hg s hroom (by rw [Nat.mul_one] at hcs; omega)
      obtain ⟨rfl, rfl⟩ := Result.ok.inj (hr.symm.trans hr2)
      exact .inl rfl
    · have holds : ∀ j u, xs[j]? = some u → w.cell? ((⟨g, 0, none⟩ : Addr).add j) = some u := hown.cells (g := g) rfl
      have hr2 := Lib.run_append_grow_string (P := P) w t u ty e i (.int .u8 0) ht hu hi hz ⟨g, 0, none⟩ n cap xs (by rw [hsize]; simpa using hxl) holds s (by omega) (by simp only [maxLen] at h63; omega) (by rw [hby]; exact growslice_fits (by omega) (by omega))
      obtain ⟨rfl, rfl⟩ := Result.ok.inj (hr.symm.trans hr2)
      exact .inr fun k hk => by simp [Value.ownBlock] at hk; omega
variable {w} {ops : Array Oper} {rest : List Oper} {o : Oper} {a : Act} {Q : Exit → Act → World → Prop}
/-- append(s, x...), whatever the elements -/
theorem wpList_app (hgd : o.guard = none) (s x : Operand) (t : TypeId)
    (ho : o.op = .call { callee := .builtin .append, args := #[s, x], argTypes := #[t, t] })
    (base : Nat) (e : TypeId) (i : TypeInfo) (z : Value) (size bytes : Nat) (ht : P.underlying t = some (.slice e)) (hi : P.info? e = some i) (hz : i.zero = some z)
    (hsize : i.size = size) (hby : i.bytes = bytes) (hzs : z.cells.size = size) (hsz : 0 < size)
    (v : Value) (n : Nat) (xs : List Value) (hs : a.eval s = v) (hown : w.ownsRow base e size v n xs)
    (ad : Addr) (m c : Nat) (news : List Value) (hx : a.eval x = .slice (some ad) m c) (hl : news.length = m * size) (hnews : ∀ j u, news[j]? = some u → w.cell? (ad.add j) = some u) (h1 : ∀ u ∈ news, u.oneCell' = true)
    (h63 : n + m ≤ maxLen) (hbytes : (n + m) * bytes ≤ 140737488355328) (hbase : base ≤ w.heap.size)
    (h : ∀ v' w', w'.ownsRow base e size v' (n + m) (xs ++ news) → AppStep w v w' v' → wpList P ops Q rest (a.put o.dst v') w') : wpList P ops Q (o :: rest) a w := by
  refine wpList_plain hgd fun K hK => ?_
  obtain ⟨v', w', hr, h2, h3, h4⟩ := run_append_own (P := P) w base t o.type e i z size bytes ht hi hz hsize hby hzs hsz v n xs hown ad m c news hl hnews h1 h63 hbytes hbase
  have h5 := append_where (P := P) w base t o.type e i z size bytes ht hi hz hsize hby hzs hsz v n xs hown ad m c news hl hnews h1 h63 hbytes hr
  unfold Oper.wp execOp
  simp only [ho, resolve, invoke, builtin, Sem.run_bind, Sem.run_pure, Result.andThen_ok, List.map_toArray, List.map_cons, List.map_nil, hs, hx, hr]
  exact hK _ _ (h v' w' h2 ⟨h3, h5⟩)
end
/-- append(s, x...), bytes -/
theorem wpList_app_bytes {w : World} {ops : Array Oper} {rest : List Oper} {o : Oper} {a : Act} {Q : Exit → Act → World → Prop} (hgd : o.guard = none) (s x : Operand)
    (ho : o.op = .call { callee := .builtin .append, args := #[s, x], argTypes := #[61, 61] })
    (base : Nat) (v vx : Value) (l lx : List UInt8) (hs : a.eval s = v) (hx : a.eval x = vx) (hown : Owns w base v l) (hbx : BytesAt w vx lx) (hlen : l.length + lx.length ≤ 140737488351232) (hbase : base ≤ w.heap.size)
    (h : ∀ v' w', Hid (Owns w' base v' (l ++ lx)) → Hid (AppStep w v w' v') → wpList Tryz.prog ops Q rest (a.put o.dst v') w') : wpList Tryz.prog ops Q (o :: rest) a w := by
  obtain ⟨i0, hi, hz0, hz1, hz2⟩ := info_parts info_byte
  have fin : ∀ v' w', w'.ownsRow base 5 1 v' (l.length + lx.length) (l.map vB ++ lx.map vB) → AppStep w v w' v' → wpList Tryz.prog ops Q rest (a.put o.dst v') w' := by
    intro v' w' h1 hg
    refine h v' w' ?_ hg
    unfold Hid Owns
    rw [List.length_append, List.map_append]
    exact h1
  rcases hbx with ⟨⟨ad, c, rfl, hc⟩, rfl⟩ | ⟨b, off, cap, rfl, hle, hpos, hcap, hb, hcell⟩
  · cases ad with
    | none =>
      obtain rfl := hc rfl
      refine wpList_append_own_none hgd s x 61 ho base 5 i0 1 Tryz.underlying61 hi v l.length (l.map vB) hs hown hx ?_
      exact fin v w (by have h := hown; unfold Owns at h; simpa using h) (AppStep.refl _ _)
    | some ad =>
      refine wpList_app hgd s x 61 ho base 5 i0 (.int .u8 0) 1 1 Tryz.underlying61 hi hz0 hz1 hz2 rfl (by decide) v l.length (l.map vB) hs hown ad 0 c [] hx rfl (fun j u hj => by cases hj) (fun u hu => by cases hu) (by unfold maxLen; omega) (by omega) hbase ?_
      intro v' w' h1 hg
      exact fin v' w' (by simpa using h1) hg
  · refine wpList_app hgd s x 61 ho base 5 i0 (.int .u8 0) 1 1 Tryz.underlying61 hi hz0 hz1 hz2 rfl (by decide) v l.length (l.map vB) hs hown ⟨b, off, none⟩ lx.length cap (lx.map vB) hx (by simp) (fun j u hj => ?_) (fun u hu => ?_) (by unfold maxLen; omega) (by omega) hbase ?_
    · obtain ⟨hlt, he⟩ := List.getElem?_eq_some_iff.1 hj
      rw [List.length_map] at hlt
      rw [Addr.add_mid, hcell j hlt, ← he]
      simp [List.getD_eq_getElem?_getD, List.getElem?_eq_getElem hlt]
    · obtain ⟨y, _, rfl⟩ := List.mem_map.1 hu; rfl
    · intro v' w' h1 hg
      exact fin v' w' h1 hg
theorem strCells_vB (s : ByteArray) : Lib.strCells s = s.data.toList.map vB := rfl
/-- append(s, text...) -/
theorem wpList_app_string {w : World} {ops : Array Oper} {rest : List Oper} {o : Oper} {a : Act} {Q : Exit → Act → World → Prop} (hgd : o.guard = none) (sl x : Operand)
    (ho : o.op = .call { callee := .builtin .append, args := #[sl, x], argTypes := #[61, 9] })
    (base : Nat) (v : Value) (s : ByteArray) (l : List UInt8) (hs : a.eval sl = v) (hx : a.eval x = .string s) (hown : Owns w base v l) (hlen : l.length + s.size ≤ 140737488351232) (hbase : base ≤ w.heap.size)
    (h : ∀ v' w', Hid (Owns w' base v' (l ++ s.data.toList)) → Hid (AppStep w v w' v') → wpList Tryz.prog ops Q rest (a.put o.dst v') w') : wpList Tryz.prog ops Q (o :: rest) a w := by
  obtain ⟨i0, hi, hz0, hz1, hz2⟩ := info_parts info_byte
  refine wpList_plain hgd fun K hK => ?_
  obtain ⟨v', w', hr, h2, h3, h4⟩ := Lib.run_append_own_string (P := Tryz.prog) w base 61 9 o.type 5 i0 Tryz.underlying61 Tryz.underlying9 hi hz0 hz1 hz2 v l.length (l.map vB) hown s (by unfold maxLen; omega) (by omega) hbase
  have h5 := append_where_string (P := Tryz.prog) w base 61 9 o.type 5 i0 Tryz.underlying61 Tryz.underlying9 hi hz0 hz1 hz2 v l.length (l.map vB) hown s (by unfold maxLen; omega) (by omega) hr
  unfold Oper.wp execOp
  simp only [ho, resolve, invoke, builtin, Sem.run_bind, Sem.run_pure, Result.andThen_ok, List.map_toArray, List.map_cons, List.map_nil, hs, hx, hr]
  refine hK _ _ (h v' w' ?_ ⟨h3, h5⟩)
  unfold Hid Owns
  rw [List.length_append, List.map_append, ← strCells_vB]
  have hl : s.data.toList.length = s.size := Array.length_toList
  rw [hl]
  exact h2
/-! loads in a quiet walk over a class of worlds -/
theorem wpQuiet_load_cell {P : Program} {C : World → Prop} {ops : Array Oper} {rest : List Oper} {o : Oper} {a : Act} {Q : Act → Prop} (hgd : o.guard = none) (ty : TypeId) (x : Operand) (ho : o.op = .load ty x) (g i : Nat) (hx : a.eval x = .pointer (some ⟨g, i, none⟩))
    (d : TypeDesc) (hu : P.underlying ty = some d) (hd : (match d with | .struct _ | .array _ _ => true | _ => false) = false) (v : Value) (hc : ∀ W, C W → W.cell? ⟨g, i, none⟩ = some v) (h : wpQuiet P ops C Q rest (a.put o.dst v)) : wpQuiet P ops C Q (o :: rest) a := by
  unfold wpQuiet
  rw [if_pos (by unfold Region.wanted; rw [hgd])]
  refine ⟨v, fun W hW => ?_, h⟩
  have hc' := hc W hW
  have hA := run_isAgg_plain (P := P) hu hd W
  have hrun : (loadVar ty ⟨g, i, none⟩).run P W = .ok v W := by
    simp [loadVar, hA, hc', Result.andThen]
  unfold Oper.quietAt execOp
  simp only [ho, hx, Instr.loadAt, Instr.sureAddr, Sem.run_bind, Sem.run_pure, Result.andThen_ok, hrun, Oper.quietUpon, and_self]
theorem wpQuiet_load_agg {P : Program} {C : World → Prop} {ops : Array Oper} {rest : List Oper} {o : Oper} {a : Act} {Q : Act → Prop} (hgd : o.guard = none) (ty : TypeId) (x : Operand) (ho : o.op = .load ty x) (g : Nat) (hx : a.eval x = .pointer (some ⟨g, 0, none⟩))
    (d : TypeDesc) (hu : P.underlying ty = some d) (hd : (match d with | .struct _ | .array _ _ => true | _ => false) = true) (N : Nat) (hi : (P.info? ty).map (·.size) = some N) (T : TypeId) (f : Nat → Value) (hc : ∀ W, C W → RowV W g T N f) (h : wpQuiet P ops C Q rest (a.put o.dst (.agg (rowF N f)))) : wpQuiet P ops C Q (o :: rest) a := by
  unfold wpQuiet
  rw [if_pos (by unfold Region.wanted; rw [hgd])]
  refine ⟨_, fun W hW => ?_, h⟩
  have hrun := run_loadVar_row (P := P) W g T ty (rowF N f) (0, 0) d (hc W hW) hu hd (by rw [rowF_size]; exact hi)
  unfold Oper.quietAt execOp
  simp only [ho, hx, Instr.loadAt, Instr.sureAddr, Sem.run_bind, Sem.run_pure, Result.andThen_ok, hrun, Oper.quietUpon, and_self]
/-! what stays -/
theorem stay_row {S : Nat → Prop} {w W : World} {B : Nat} {T : TypeId} {n : Nat} {g : Nat → Value} (h : RowV w B T n g) (hS : S B) (hr : (Tc.Rl.stay S).r w W) : RowV W B T n g := (hr B hS).trans h
theorem stay_below {S : Nat → Prop} {w w' : World} (hb : Below w.heap.size w w') (hS : ∀ k, S k → k < w.heap.size) : (Tc.Rl.stay S).r w w' := fun k hk => hb.block k (hS k hk)
theorem stay_app {S : Nat → Prop} {w w' : World} {v v' : Value} (h : AppStep w v w' v') (hS : ∀ k, S k → k < w.heap.size ∧ v.ownBlock ≠ some k) : (Tc.Rl.stay S).r w w' := fun k hk => h.block (hS k hk).1 (hS k hk).2
end Go.Proofs.YtpekhdahamloaaaGreatDoor

namespace Go.Proofs.YtpekhdahamloaaaGreatDoor
open Go.RowKit
section
variable {P : Program} {w : World} {ops : Array Oper} {rest : List Oper} {o : Oper} {a : Act} {Q : Exit → Act → World → Prop}
theorem rowV_range {g N off : Nat} {T : TypeId} {f : Nat → Value} (h : RowV w g T N f) {n : Nat} (hn : off + n ≤ N) : w.rangeAt g off ((List.range n).map fun j => f (off + j)) := by
  intro j v hj
  obtain ⟨hlt, he⟩ := List.getElem?_eq_some_iff.1 hj
  rw [List.length_map, List.length_range] at hlt
  rw [h.cell (by omega), ← he]
  simp
theorem rowV_there {g N off : Nat} {T : TypeId} {f : Nat → Value} (h : RowV w g T N f) {n : Nat} (hn : off + n ≤ N) : w.there g off n := fun j hj => ⟨by rw [h.cell (by omega)]; rfl, h.frozen _⟩
theorem setCells_rowV {g N : Nat} {T : TypeId} : ∀ (vs : List Value) (off : Nat) (w : World) (f : Nat → Value), RowV w g T N f → RowV (w.setCells g off vs) g T N (fun j => if off ≤ j ∧ j < off + vs.length then vs.getD (j - off) undef else f j)
  | [], off, w, f, h => h.congr fun i _ => by rw [if_neg (by rw [List.length_nil]; omega)]
  | v :: vs, off, w, f, h => by
    have h1 := setCells_rowV vs (off + 1) _ _ (h.set off v)
    refine RowV.congr (show RowV ((w.setCell ⟨g, off, none⟩ v).setCells g (off + 1) vs) g T N _ from h1) (fun i _ => ?_)
    show (if off + 1 ≤ i ∧ i < off + 1 + vs.length then vs.getD (i - (off + 1)) undef else if i = off then v else f i) = _
    rw [List.length_cons]
    by_cases h2 : i = off
    · subst h2
      rw [if_neg (by omega), if_pos rfl, if_pos (by omega), Nat.sub_self]; rfl
    · by_cases h3 : off + 1 ≤ i ∧ i < off + 1 + vs.length
      · rw [if_pos h3, if_pos (by omega), show i - off = (i - (off + 1)) + 1 by omega]; rfl
      · rw [if_neg h3, if_neg h2, if_neg (by omega)]
theorem setCells_only {g : Nat} : ∀ (vs : List Value) (off : Nat) (w : World), OnlyB g w (w.setCells g off vs)
  | [], off, w => OnlyB.refl _ _
  | v :: vs, off, w => ((OnlyB.refl g w).setCell (p := ⟨g, off, none⟩) (.inl rfl) v).trans (setCells_only vs (off + 1) _)
/-- a part of a block is read -/
theorem wpList_load_part (hgd : o.guard = none) (ty : TypeId) (x : Operand) (ho : o.op = .load ty x) (g off : Nat) (hx : a.eval x = .pointer (some ⟨g, off, none⟩)) (N n : Nat) (T : TypeId) (f f' : Nat → Value) (hrow : RowV w g T N f) (hn : off + n ≤ N)
    (hf : ∀ j, j < n → f (off + j) = f' j) (d : TypeDesc) (hu : P.underlying ty = some d) (hd : d.isRow = true) (hi : (P.info? ty).map (·.size) = some n)
    (h : wpList P ops Q rest (a.put o.dst (.agg (rowF n f'))) w) : wpList P ops Q (o :: rest) a w := by
  have e : ((List.range n).map fun j => f (off + j)) = (List.range n).map f' := List.map_congr_left fun j hj => hf j (List.mem_range.1 hj)
  refine wpList_load_mid hgd ty x ho g off hx ((List.range n).map f') d (by rw [← e]; exact rowV_range hrow hn) hu hd (by simpa using hi) h
/-- a part of a block is written -/
theorem wpList_store_part (hgd : o.guard = none) (ty : TypeId) (x y : Operand) (ho : o.op = .store ty x y) (g off : Nat) (hx : a.eval x = .pointer (some ⟨g, off, none⟩)) (N n : Nat) (T : TypeId) (f f' g' : Nat → Value) (hy : a.eval y = .agg (rowF n f'))
    (hrow : RowV w g T N f) (hn : off + n ≤ N) (hi : (P.info? ty).map (·.size) = some n) (h1 : ∀ j, j < n → (f' j).oneCell' = true) (hg : ∀ i, i < N → (if off ≤ i ∧ i < off + n then f' (i - off) else f i) = g' i)
    (h : ∀ w', Hid (RowV w' g T N g') → Hid (OnlyB g w w') → wpList P ops Q rest (a.put o.dst undef) w') : wpList P ops Q (o :: rest) a w := by
  have hl : (rowF n f').toList = (List.range n).map f' := rfl
  refine wpList_store_mid hgd ty x y ho g off (rowF n f') hx hy (by rw [rowF_size]; exact rowV_there hrow hn) (by rw [rowF_size]; exact hi) (by
    rw [Array.all_eq_true_iff_forall_mem]
    intro v hv
    have : v ∈ (List.range n).map f' := by rw [← hl]; exact Array.mem_toList_iff.2 hv
    obtain ⟨j, hj, rfl⟩ := List.mem_map.1 this
    exact h1 j (List.mem_range.1 hj)) ?_
  refine h _ ?_ (setCells_only _ _ _)
  refine RowV.congr (setCells_rowV _ _ _ _ hrow) (fun i hi => ?_)
  rw [← hg i hi, hl, List.length_map, List.length_range]
  by_cases h2 : off ≤ i ∧ i < off + n
  · rw [if_pos h2, if_pos h2, List.getD_eq_getElem?_getD, List.getElem?_map, List.getElem?_range (by omega)]; rfl
  · rw [if_neg h2, if_neg h2]
/-- an operation that yields a value -/
theorem wpList_val (hgd : o.guard = none) (v : Value) (hrun : (execOp a.eval o).run P w = .ok (.value v) w)
    (h : wpList P ops Q rest (a.put o.dst v) w) : wpList P ops Q (o :: rest) a w := by
  refine wpList_plain hgd fun K hK => ?_
  unfold Oper.wp
  rw [hrun]
  exact hK _ _ h
end
section
variable {P : Program} {C : World → Prop} {ops : Array Oper} {rest : List Oper} {o : Oper} {a : Act} {Q : Act → Prop}
/-- a value that an operation yields in every world of a class -/
theorem wpQuiet_val (hgd : o.guard = none) (v : Value)
    (hrun : ∀ W, C W → (execOp a.eval o).run P W = .ok (.value v) W) (h : wpQuiet P ops C Q rest (a.put o.dst v)) : wpQuiet P ops C Q (o :: rest) a := by
  unfold wpQuiet
  rw [if_pos (by unfold Region.wanted; rw [hgd])]
  refine ⟨v, fun W hW => ?_, h⟩
  unfold Oper.quietAt
  simp only [hrun W hW, Oper.quietUpon, and_self]
theorem wpQuiet_load_part (hgd : o.guard = none) (ty : TypeId) (x : Operand) (ho : o.op = .load ty x) (g off : Nat) (hx : a.eval x = .pointer (some ⟨g, off, none⟩)) (N n : Nat) (T : TypeId) (f f' : Nat → Value) (hrow : ∀ W, C W → RowV W g T N f) (hn : off + n ≤ N)
    (hf : ∀ j, j < n → f (off + j) = f' j) (d : TypeDesc) (hu : P.underlying ty = some d) (hd : d.isRow = true) (hi : (P.info? ty).map (·.size) = some n)
    (h : wpQuiet P ops C Q rest (a.put o.dst (.agg (rowF n f')))) : wpQuiet P ops C Q (o :: rest) a := by
  have e : ((List.range n).map fun j => f (off + j)) = (List.range n).map f' := List.map_congr_left fun j hj => hf j (List.mem_range.1 hj)
  refine wpQuiet_val hgd _ (fun W hW => ?_) h
  unfold execOp
  simp only [ho, hx, Instr.loadAt, Instr.sureAddr, Sem.run_bind, Sem.run_pure, Result.andThen_ok, run_loadVar_mid W g off ty ((List.range n).map f') d (by rw [← e]; exact rowV_range (hrow W hW) hn) hu hd (by simpa using hi)]
  rfl
end
end Go.Proofs.YtpekhdahamloaaaGreatDoor
