/- A map literal with integer keys that the call makes, and a look-up in it. -/
import Derived.WalkKit
import Derived.MapKept
import Derived.WideMake
set_option linter.unusedVariables false
set_option linter.unusedSimpArgs false
namespace Go.Proofs.YtdcpejfnhegdaaaDoor
open Go
open Go.RowKit (Below)
section
variable {P : Program} (w : World)
def setMap (w : World) (r : Nat) (es : Array MapEntry) (clock : Nat) : World := { w with heap := w.heap.setIfInBounds r (.map es clock) }
theorem setMap_at {w : World} {r : Nat} {o : Obj} (hb : w.heap[r]? = some o) (es : Array MapEntry) (clock : Nat) : (setMap w r es clock).heap[r]? = some (.map es clock) := (MapKept.heap_set hb).1
theorem setMap_below {w w0 : World} {base r : Nat} (h : Below base w0 w) (hr : base ≤ r) (es : Array MapEntry) (clock : Nat) : Below base w0 (setMap w r es clock) :=
  ⟨h.os, h.tape, h.output, by have := h.size; simpa [setMap] using this, fun k hk => by
    rw [← h.block k hk]; show (w.heap.setIfInBounds r _)[k]? = _
    rw [Array.getElem?_setIfInBounds_ne (by omega)]⟩

theorem run_insert_int (mty kt et : TypeId) (q : IntKind) (r clock : Nat) (k : Int) (es : Array MapEntry) (val : Value) (hm : P.underlying mty = some (.map kt et)) (hk : P.underlying kt = some (.int q)) (hb : w.heap[r]? = some (.map es clock))
    (hf : Instr.findNow (.int q) (.int q k) es.toList 0 = some none) :
    (Instr.mapUpdate mty (.map (some r)) (.int q k) val).run P w = .ok () (setMap w r (es.push { key := .int q k, val := val, born := clock }) (clock + 1)) := by
  have hc : (Instr.checkKey false 10000 kt (.int q k)).run P w = .ok () w := MapKept.run_checkKey (k := .int q k) hk (by simp [MapKept.IsKey]) false 9999
  simp [Instr.mapUpdate, run_underlying hm, MapKept.run_getObj_map hb, hc, MapKept.run_findKey hk hf, MapKept.run_setObj_map _ hb, Result.andThen, setMap]

theorem run_lookup_int (mty kt et : TypeId) (q : IntKind) (r clock : Nat) (k : Int) (es : Array MapEntry) (ok : Bool) (hm : P.underlying mty = some (.map kt et)) (hk : P.underlying kt = some (.int q)) (hb : w.heap[r]? = some (.map es clock))
    {v z : Value} {y : Bool} (hz : ∀ W, (zeroValue et).run P W = .ok z W)
    (hf : (Instr.findNow (.int q) (.int q k) es.toList 0 = some none ∧ v = z ∧ y = false) ∨ (∃ j, Instr.findNow (.int q) (.int q k) es.toList 0 = some (some (j, v))) ∧ y = true) :
    (Instr.lookup mty (.map (some r)) (.int q k) ok).run P w = .ok (if ok then .tuple #[v, .bool y] else v) w := by
  have hc : (Instr.checkKey es.isEmpty 10000 kt (.int q k)).run P w = .ok () w := MapKept.run_checkKey (k := .int q k) hk (by simp [MapKept.IsKey]) _ 9999
  rcases hf with ⟨h1, rfl, rfl⟩ | ⟨⟨j, h1⟩, rfl⟩
  · cases ok <;> simp [Instr.lookup, run_underlying hm, MapKept.run_getObj_map hb, hc, MapKept.run_findKey hk h1, hz, Result.andThen]
  · cases ok <;> simp [Instr.lookup, run_underlying hm, MapKept.run_getObj_map hb, hc, MapKept.run_findKey hk h1, Result.andThen]
end
end Go.Proofs.YtdcpejfnhegdaaaDoor
