/- A side that came in, opened; Point in one contract. -/
import Derived.Test.YtdcpejfnhegdaaaDoorPakeL2
import Derived.Test.YtdcpejfnhegdaaaDoorLaid
import Derived.Lib.SmallJoins
set_option linter.unusedVariables false
set_option linter.unusedSimpArgs false
namespace Go.Proofs.YtdcpejfnhegdaaaDoor
open Go.ChangeShapes Go.WideShapes Go.ChangeAt Go.RowKit
set_option maxRecDepth 100000 in
theorem side_open {H : Type} {enc : TypeId × Value → H} {W : World} {v : Value} {d : DataW H} {p : List MemPlace} {base : Nat}
    (hok : Value.okWide Tryd.prog W .any base 33 v) (hj : DataW.Trod enc Tryd.prog W 0 (fun _ => true) true 33 v d p) :
    ∃ a b c : Int, (Lit.int .i64 a).wf = true ∧ (Lit.int .i64 b).wf = true ∧ (Lit.int .i64 c).wf = true ∧ v = .agg #[.int .i64 a, .int .i64 b, .int .i64 c] := by
  obtain ⟨v0, v1, v2, y0, y1, y2, n, rfl, _, _, h0, h1, h2⟩ := Joins.open_agg3 Tryd.underlying33 (by kernel_rfl) (by kernel_rfl) hok hj
  obtain ⟨a, e0, _, w0⟩ := DataW.trod_int Tryd.underlying3 h0
  obtain ⟨b, e1, _, w1⟩ := DataW.trod_int Tryd.underlying3 h1
  obtain ⟨c, e2, _, w2⟩ := DataW.trod_int Tryd.underlying3 h2
  simp only [List.cons.injEq, and_true] at e0 e1 e2
  subst e0 e1 e2
  exact ⟨a, b, c, w0, w1, w2, rfl⟩
/-- what Point answers -/
def pointV (r c x : Int) : Int := if sideB r c x then ((pointS r.toNat c.toNat x.toNat : Nat) : Int) else 0
theorem point_any10 (r c x : Int) (w : World) (hT : Tab w) :
    Calls Tryd.prog 20 #[.agg #[.int .i64 r, .int .i64 c, .int .i64 x]] w fun e w' => e = .returned (.tuple #[.int .i64 (pointV r c x), .int .i64 (chkS r c x)]) ∧ Below w.heap.size w w' := by
  unfold pointV chkS
  cases h : sideB r c x with
  | false => exact point_no r c x h w
  | true =>
    obtain ⟨R, C, X, rfl, rfl, rfl, hr, hc, hx1, hx2⟩ := sideB_nat h
    exact point_yes R C X hr hc hx1 hx2 w hT
theorem rpoint_any10 (r c x : Int) (w : World) :
    Calls Tryd.prog 21 #[.agg #[.int .i64 r, .int .i64 c, .int .i64 x]] w fun e w' => e = .returned (.tuple #[.int .i64 (pointV r c x), .int .i64 (chkS r c x)]) ∧ Below w.heap.size w w' := by
  unfold pointV chkS
  cases h : sideB r c x with
  | false => exact rpoint_no r c x h w
  | true =>
    obtain ⟨R, C, X, rfl, rfl, rfl, hr, hc, hx1, hx2⟩ := sideB_nat h
    exact rpoint_yes R C X hr hc hx1 hx2 w
end Go.Proofs.YtdcpejfnhegdaaaDoor
