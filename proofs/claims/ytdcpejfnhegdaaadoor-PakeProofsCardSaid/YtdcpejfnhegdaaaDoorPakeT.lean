/- Helps for regions that draw, and append to new slices beside allocations. -/
import Derived.Test.YtdcpejfnhegdaaaDoorPakeL
import Derived.Test.YtdcpejfnhegdaaaDoorTree
import Derived.Great.BuildSlice
import Derived.Deep.MidRow
set_option linter.unusedVariables false
set_option linter.unusedSimpArgs false
namespace Go.Proofs.YtdcpejfnhegdaaaDoor
open Go.RowKit
/-- append([]byte{}, x...) -/
theorem wpList_append_fresh {w : World} {ops : Array Oper} {rest : List Oper} {o : Oper} {a : Act} {Q : Exit → Act → World → Prop} (hgd : o.guard = none) (s x : Operand)
    (ho : o.op = .call { callee := .builtin .append, args := #[s, x], argTypes := #[22, 22] })
    (g : Nat) (vx : Value) (lx : List UInt8) (hs : a.eval s = .slice (some ⟨g, 0, none⟩) 0 0) (hx : a.eval x = vx) (hbx : BytesAt w vx lx) (h1 : 0 < lx.length) (hlen : lx.length ≤ 140737488351232)
    (h : ∀ v' w', Hid (Owns w' w.heap.size v' lx) → Hid (Below w.heap.size w w') → wpList Tryd.prog ops Q rest (a.put o.dst v') w') : wpList Tryd.prog ops Q (o :: rest) a w := by
  obtain ⟨i0, hi, hz0, hz1, hz2⟩ := info_parts info_byte
  rcases hbx with ⟨_, rfl⟩ | ⟨b', off', cap', rfl, _, _, _, hb', hcell'⟩
  · simp at h1
  refine wpList_append_grows w hgd s x 22 ho 5 i0 (.int .u8 0) 1 1 Tryd.underlying22 hi hz0 hz1 hz2 rfl (by decide) (some ⟨g, 0, none⟩) 0 0 [] hs (fun h => by cases h) rfl
    (fun B hB j u hj => by cases hj) ⟨b', off', none⟩ lx.length cap' (lx.map vB) hx (by simp) (fun j u hj => ?_) (fun u hu => by obtain ⟨y, _, rfl⟩ := List.mem_map.1 hu; rfl) (by omega) (by unfold maxLen; omega) (by omega) ?_
  · obtain ⟨hlt, he⟩ := List.getElem?_eq_some_iff.1 hj
    rw [List.length_map] at hlt
    rw [Addr.add_mid, hcell' j hlt, ← he]
    simp [List.getD_eq_getElem?_getD, List.getElem?_eq_getElem hlt]
  intro v' w' h1 hg
  refine h v' w' ?_ ((Below.refl _ w).grown hg (Nat.le_refl _) (fun k hk => by cases hk))
  unfold Hid Owns
  simpa using h1
theorem quietN_load_cell {P : Program} {n0 : Nat} {w : World} {ops : Array Oper} {rest : List Oper} {o : Oper} {a : Act} {Q : Act → Prop} (hgd : o.guard = none) (ty : TypeId) (x : Operand) (ho : o.op = .load ty x) (g i : Nat) (hx : a.eval x = .pointer (some ⟨g, i, none⟩)) (N : Nat) (T : TypeId) (f : Nat → Value) (hrow : RowV w g T N f) (hg : g < n0) (hi : i < N)
    (d : TypeDesc) (hu : P.underlying ty = some d) (hd : (match d with | .struct _ | .array _ _ => true | _ => false) = false)
    (v : Value) (hv : f i = v) (h : wpQuiet P ops (Below n0 w) Q rest (a.put o.dst v)) : wpQuiet P ops (Below n0 w) Q (o :: rest) a := by
  subst hv
  unfold wpQuiet
  rw [if_pos (by unfold Region.wanted; rw [hgd])]
  refine ⟨f i, fun W hW => ?_, h⟩
  have hr : RowV W g T N f := hrow.belowK hg hW
  have hc := hr.cell hi
  have hA := run_isAgg_plain (P := P) hu hd W
  have hrun : (loadVar ty ⟨g, i, none⟩).run P W = .ok (f i) W := by
    simp [loadVar, hA, hc, Result.andThen]
  unfold Oper.quietAt execOp
  simp only [ho, hx, Instr.loadAt, Instr.sureAddr, Sem.run_bind, Sem.run_pure, Result.andThen_ok, hrun, Oper.quietUpon, and_self]
theorem quietN_slice_array {P : Program} {n0 : Nat} {w : World} {ops : Array Oper} {rest : List Oper} {o : Oper} {a : Act} {Q : Act → Prop} (hgd : o.guard = none) (ty : TypeId) (x : Operand) (ho : o.op = .slice ty x none none none) (g n : Nat) (hx : a.eval x = .pointer (some ⟨g, 0, none⟩))
    (e : TypeId) (hu : P.underlying ty = some (.array n e)) (hn : n ≠ 0) (i : TypeInfo) (hi : P.info? e = some i)
    (h : wpQuiet P ops (Below n0 w) Q rest (a.put o.dst (.slice (some ⟨g, 0, none⟩) n n))) : wpQuiet P ops (Below n0 w) Q (o :: rest) a := by
  unfold wpQuiet
  rw [if_pos (by unfold Region.wanted; rw [hgd])]
  refine ⟨.slice (some ⟨g, 0, none⟩) n n, fun W hW => ?_, h⟩
  have hrun : (Instr.sliceAt ty (.pointer (some ⟨g, 0, none⟩)) none none none).run P W = .ok (.slice (some ⟨g, 0, none⟩) n n) W := by
    simp [Instr.sliceAt, Instr.sureAddr, run_underlying hu, Instr.sliceBounds, run_sizeOf W hi, hn, Addr.add, Result.andThen]
  unfold Oper.quietAt execOp
  simp only [ho, hx, Option.map_none, Sem.run_bind, Sem.run_pure, Result.andThen_ok, hrun, Oper.quietUpon, and_self]
theorem RowV.grown {w w' : World} {B n : Nat} {T : TypeId} {f : Nat → Value} {row : Option Nat} (h : RowV w B T n f) (hg : w.grownBy w' row) (hne : row ≠ some B) : RowV w' B T n f :=
  (hg.block B h.lt (fun he => hne he.symm)).trans h
theorem Owns.ne_later {w : World} {base B : Nat} {v : Value} {l : List UInt8} (h : Owns w base v l) (hB : w.heap.size ≤ B) : v.ownBlock ≠ some B := fun he => by have := h.lt B he; omega
theorem Owns.ne_before {w : World} {base B : Nat} {v : Value} {l : List UInt8} (h : Owns w base v l) (hB : B < base) : v.ownBlock ≠ some B := fun he => by have := (World.ownsRow.lt h B he).1; omega
/-! Three digests in one literal, gone through. -/
def lay3 (E : Nat → List UInt8) (i : Nat) : Value := vB ((E (i / 32)).getD (i % 32) 0)
theorem fill3 (E : Nat → List UInt8) (cells : Array Value) (hc : cells.size = 96) :
    Instr.fill (fun i => some (i * 32, 32)) cells [(0, digV (E 0)), (1, digV (E 1)), (2, digV (E 2))] = some (rowF 96 (lay3 E)) := by
  obtain ⟨r, hr, hs, hk⟩ := Great.fill_dense (s := 32) (by decide) [digV (E 0), digV (E 1), digV (E 2)] 0 cells
    (by intro v hv; simp only [List.mem_cons, List.not_mem_nil, or_false] at hv; rcases hv with rfl | rfl | rfl <;> exact rowF_size _ _) (by rw [hc]; exact Nat.le_refl 96)
  have e : ([digV (E 0), digV (E 1), digV (E 2)].zipIdx 0).map (fun x => (x.2, x.1)) = [(0, digV (E 0)), (1, digV (E 1)), (2, digV (E 2))] := rfl
  rw [e] at hr
  rw [hr]; congr 1
  apply Array.ext_getElem?
  intro k
  rw [hk k]
  by_cases h : k < 96
  · rw [if_pos ⟨by omega, by simpa using h⟩, rowF_get h]
    have h32 : k % 32 < 32 := Nat.mod_lt _ (by decide)
    have : k / 32 = 0 ∨ k / 32 = 1 ∨ k / 32 = 2 := by omega
    unfold lay3
    rcases this with h0 | h0 | h0 <;> rw [h0] <;> exact rowF_get h32
  · rw [if_neg (by simp; omega), Array.getElem?_eq_none (by omega), Array.getElem?_eq_none (by rw [rowF_size]; omega)]
theorem wpList_build3 {P : Program} {w : World} {ops : Array Oper} {rest : List Oper} {o : Oper} {a : Act} {Q : Exit → Act → World → Prop} (hg : o.guard = none) (t e : TypeId) (x y z : Operand)
    (ho : o.op = .buildSlice t 3 #[(0, x), (1, y), (2, z)]) (E : Nat → List UInt8) (vx vy vz : Value) (hx : a.eval x = vx) (hy : a.eval y = vy) (hz : a.eval z = vz)
    (h0 : vx = digV (E 0)) (h1 : vy = digV (E 1)) (h2 : vz = digV (E 2))
    (hu : P.underlying t = some (.slice e)) (hs : (P.info? e).map (·.size) = some 32) (hzz : ((P.info? e).bind (·.zero)).isSome = true)
    (h : ∀ w', Hid (RowV w' w.heap.size e 96 (lay3 E)) → Hid (Below w.heap.size w w') → wpList P ops Q rest (a.put o.dst (.slice (some ⟨w.heap.size, 0, none⟩) 3 3)) w') : wpList P ops Q (o :: rest) a w := by
  cases hie : P.info? e with
  | none => simp [hie] at hs
  | some ie =>
    simp only [hie, Option.map_some, Option.some.injEq, Option.bind_some] at hs hzz
    obtain ⟨zv, hz0⟩ := Option.isSome_iff_exists.1 hzz
    refine wpList_buildSlice hg t e 3 _ ho (rowF 96 (lay3 E)) ie zv hu hie hz0 (by rw [hs]; decide) (by rw [hs]; decide) ?_ (h _ (RowV.new w e 96 (lay3 E)) ((Below.refl _ w).alloc (Nat.le_refl _) _))
    rw [hs]
    have := fill3 E ((Array.range (3 * 32)).map (zv.cells[· % zv.cells.size]!)) (by simp)
    rw [← h0, ← h1, ← h2, ← hx, ← hy, ← hz] at this
    rw [Array.toList_map]
    exact this
theorem wpList_load_part {P : Program} {w : World} {ops : Array Oper} {rest : List Oper} {o : Oper} {a : Act} {Q : Exit → Act → World → Prop} (hgd : o.guard = none) (ty : TypeId) (x : Operand) (ho : o.op = .load ty x)
    (g off : Nat) (hx : a.eval x = .pointer (some ⟨g, off, none⟩)) (k N : Nat) (hoff : off = 32 * k) (T : TypeId) (E : Nat → List UInt8) (hrow : RowV w g T N (lay3 E)) (hk : 32 * k + 32 ≤ N)
    (d : TypeDesc) (hu : P.underlying ty = some d) (hd : d.isRow = true) (hi : (P.info? ty).map (·.size) = some 32) (f : Nat → Value) (hf : Value.agg (rowF 32 f) = digV (E k))
    (h : wpList P ops Q rest (a.put o.dst (.agg (rowF 32 f))) w) : wpList P ops Q (o :: rest) a w := by
  rw [hf] at h
  refine wpList_load_mid hgd ty x ho g off hx ((List.range 32).map fun i => vB ((E k).getD i 0)) d (fun j v hv => ?_) hu hd (by simpa using hi) h
  have hj : j < 32 := by have := (List.getElem?_eq_some_iff.1 hv).1; simpa using this
  have hv' : v = vB ((E k).getD j 0) := by simpa [hj] using hv.symm
  subst hoff
  rw [hrow.cell (i := 32 * k + j) (by omega), hv']
  unfold lay3
  rw [show (32 * k + j) / 32 = k by omega, show (32 * k + j) % 32 = j by omega]
end Go.Proofs.YtdcpejfnhegdaaaDoor
