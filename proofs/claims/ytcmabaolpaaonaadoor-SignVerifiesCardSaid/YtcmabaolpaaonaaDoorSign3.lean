/- Package sign: Sign. -/
import Derived.Test.YtcmabaolpaaonaaDoorVerify
import Derived.Laws.ResultCell
set_option linter.unusedVariables false
set_option linter.unusedSimpArgs false
namespace Go.Proofs.YtcmabaolpaaonaaDoor
open Go.RowKit
/-- an array or a struct, and a word, that are the results -/
theorem results_rowV2 {P : Program} {fn : Func} {p u : Tmp} {ty : TypeId} (h : fn.results = #[.cell p ty, .tmp u]) (tmps : Array Value) (w : World) (g N : Nat) (T : TypeId) (f : Nat → Value) (d : TypeDesc)
    (hp : tmps.getD p undef = .pointer (some ⟨g, 0, none⟩)) (hrow : RowV w g T N f)
    (hu : P.underlying ty = some d) (hd : (match d with | .struct _ | .array _ _ => true | _ => false) = true) (hi : (P.info? ty).map (·.size) = some N) :
    (results fn tmps).run P w = .ok (.tuple #[.agg (rowF N f), tmps.getD u undef]) w := by
  rw [results_cell_tmp h, hp]
  simp [asAddr, run_loadVar_row w g T ty (rowF N f) (0, 0) d hrow hu hd (by rw [rowF_size]; exact hi)]
def sigF (r s : Int) : Nat → Value := fun i => if i = 0 then .int .i64 r else .int .i64 s
def nonceM (x : Int) (m : List UInt8) : Nat := hashM sNonce.data.toList m [x]
def sPlan : Plan := flAll [0, 1, 2, 3, 7] (.one 4 (.one 5 (.one 6 (.one 8 (flAll [9, 10, 11, 12] .done)))))
set_option maxRecDepth 100000 in
set_option maxHeartbeats 4000000 in
theorem sign_no (x : Int) (v : Value) (w : World) (hx : privB x = false) (hv : ∃ a l c, v = .slice a l c) :
    Calls Tryd.prog 14 #[.int .i64 x, v] w fun e w' => e = .returned (.tuple #[.agg #[.int .i64 0, .int .i64 0], .int .i64 50]) ∧ Below w.heap.size w w' := by
  have C1 := fun W => valid_any x W
  rw [hx] at C1
  have H1 := Lib.hid C1
  clear C1 hx
  have R0 := Lib.hid (RowV.new w 30 2 (sigF 0 0))
  go_enter Tryd.func14, Tryd.ntmps14
  go_wp2_with fail
  refine (H1.out _).mono ?_
  rintro e w1 ⟨rfl, rfl⟩
  go_wp2_with fail
  refine bodyPost_ret (v := .tuple #[.agg #[.int .i64 0, .int .i64 0], .int .i64 50]) (by exact results_rowV2 (fn := Tryd.f14) (p := 4) (u := 5) (ty := 30) rfl _ _ w.heap.size 2 30 (sigF 0 0) _ rfl R0.out Tryd.underlying30 rfl (by kernel_rfl)) rfl ⟨rfl, ?_⟩
  exact (Below.refl _ w).alloc (Nat.le_refl _) _
end Go.Proofs.YtcmabaolpaaonaaDoor
