/-
  No cell of these rows narrows 'for every input' (looked for: loops, veiled, ifaces, maps, wideKeys, modest, calm, conditions, laid).
  DERIVED. THE GIVEN ROWS OF THIS SEAT. 12 by the template 'for every input the law returns true; each argument reads behind the call as it read before'; 0 by the template 'total and deterministic' (their statements: YtajcpbchpcnmaaaTotals.lean).
  GIVEN WITH THE SEED: the statements are not yours to turn. If you find one false, say at which input.
  Laid BY PROGRAM, IN A SANDBOX (cutbox-rows.mjs): the forced cells as the released guide's own fill.sh prints them over the translation 9fab8efd5f4d2771… (all of the seat's roots in one cut). By AI agents, Wed Nov 11 2026. No macro, syntax, notation, axiom, sorry.
-/
import Derived.Test.YtajcpbchpcnmaaaChecked
import GoSem.Claim
import GoSem.ClaimJoined
import GoSem.ClaimMapViews
import Derived.JoinedTies
import Derived.KernelRfl
namespace Go.Proofs.Ytajcpbchpcnmaaa
/- THE CELL 'sum', in the pinned program and in every row, IS THE sha256 OF THE DUMP (.gsa) THAT YtajcpbchpcnmaaaProg.lean LOADS. Nothing in Lean hashes anything: it is a label: what it is worth is what the hold of that sum in a sandbox is worth. -/
noncomputable def Try.pinned : Pinned := { name := "ytajcpbchpcnmaaa", sum := "9fab8efd5f4d277115ff1e5301ec7d5c0b8b0851902a528b56f0dae465200a89", checked := Try.checked }
namespace Rows
def none {H : Type} : Left H := { results := [], args := [] }

/-- 'chartroomlaw04.GroupSpec': WHATEVER THE INPUT: true; the input reads as it did. -/
def groupSpecSpec : ChangeSpec := { name := "groupSpec", fn := fun _ => fun
  | [d1, d2, d3] => { results := [.lit (.bool true)], args := [d1, d2, d3] }
  | _ => none }
def groupSpecRow : OpenClaim := { program := "ytajcpbchpcnmaaa", sum := "9fab8efd5f4d277115ff1e5301ec7d5c0b8b0851902a528b56f0dae465200a89", func := "chartroom/chartroomlaw04.GroupSpec", spec := "groupSpec", unfollowed := true, recurses := true, named := ["math/bits.divideError", "math/bits.overflowError"], apart := false }
def GroupSpecSaid : Prop := groupSpecRow.holds Try.pinned (OpenSpec.ofChange groupSpecSpec)

/-- ITS FALSE NEIGHBOUR: 'it returns false'. Refute it at one input. -/
def groupSpecWrong : ChangeSpec := { name := "groupSpec", fn := fun _ => fun
  | [d1, d2, d3] => { results := [.lit (.bool false)], args := [d1, d2, d3] }
  | _ => none }
def GroupSpecWrongFalsely : Prop := groupSpecRow.holds Try.pinned (OpenSpec.ofChange groupSpecWrong)

/-- 'chartroomlaw04.GroupAxioms': WHATEVER THE INPUT: true; the input reads as it did. -/
def groupAxiomsSpec : ChangeSpec := { name := "groupAxioms", fn := fun _ => fun
  | [d1, d2, d3] => { results := [.lit (.bool true)], args := [d1, d2, d3] }
  | _ => none }
def groupAxiomsRow : OpenClaim := { program := "ytajcpbchpcnmaaa", sum := "9fab8efd5f4d277115ff1e5301ec7d5c0b8b0851902a528b56f0dae465200a89", func := "chartroom/chartroomlaw04.GroupAxioms", spec := "groupAxioms", unfollowed := true, recurses := true, named := ["math/bits.divideError", "math/bits.overflowError"], apart := false }
def GroupAxiomsSaid : Prop := groupAxiomsRow.holds Try.pinned (OpenSpec.ofChange groupAxiomsSpec)

/-- ITS FALSE NEIGHBOUR: 'it returns false'. Refute it at one input. -/
def groupAxiomsWrong : ChangeSpec := { name := "groupAxioms", fn := fun _ => fun
  | [d1, d2, d3] => { results := [.lit (.bool false)], args := [d1, d2, d3] }
  | _ => none }
def GroupAxiomsWrongFalsely : Prop := groupAxiomsRow.holds Try.pinned (OpenSpec.ofChange groupAxiomsWrong)

/-- 'chartroomlaw04.GroupHalves': WHATEVER THE INPUT: true; the input reads as it did. -/
def groupHalvesSpec : ChangeSpec := { name := "groupHalves", fn := fun _ => fun
  | [d] => { results := [.lit (.bool true)], args := [d] }
  | _ => none }
def groupHalvesRow : OpenClaim := { program := "ytajcpbchpcnmaaa", sum := "9fab8efd5f4d277115ff1e5301ec7d5c0b8b0851902a528b56f0dae465200a89", func := "chartroom/chartroomlaw04.GroupHalves", spec := "groupHalves", unfollowed := true, recurses := true, named := ["math/bits.divideError", "math/bits.overflowError"], apart := false }
def GroupHalvesSaid : Prop := groupHalvesRow.holds Try.pinned (OpenSpec.ofChange groupHalvesSpec)

/-- ITS FALSE NEIGHBOUR: 'it returns false'. Refute it at one input. -/
def groupHalvesWrong : ChangeSpec := { name := "groupHalves", fn := fun _ => fun
  | [d] => { results := [.lit (.bool false)], args := [d] }
  | _ => none }
def GroupHalvesWrongFalsely : Prop := groupHalvesRow.holds Try.pinned (OpenSpec.ofChange groupHalvesWrong)

/-- 'chartroomlaw04.GroupPowers': WHATEVER THE INPUT: true; the input reads as it did. -/
def groupPowersSpec : ChangeSpec := { name := "groupPowers", fn := fun _ => fun
  | [d1, d2, d3] => { results := [.lit (.bool true)], args := [d1, d2, d3] }
  | _ => none }
def groupPowersRow : OpenClaim := { program := "ytajcpbchpcnmaaa", sum := "9fab8efd5f4d277115ff1e5301ec7d5c0b8b0851902a528b56f0dae465200a89", func := "chartroom/chartroomlaw04.GroupPowers", spec := "groupPowers", unfollowed := true, recurses := true, named := ["math/bits.divideError", "math/bits.overflowError"], apart := false }
def GroupPowersSaid : Prop := groupPowersRow.holds Try.pinned (OpenSpec.ofChange groupPowersSpec)

/-- ITS FALSE NEIGHBOUR: 'it returns false'. Refute it at one input. -/
def groupPowersWrong : ChangeSpec := { name := "groupPowers", fn := fun _ => fun
  | [d1, d2, d3] => { results := [.lit (.bool false)], args := [d1, d2, d3] }
  | _ => none }
def GroupPowersWrongFalsely : Prop := groupPowersRow.holds Try.pinned (OpenSpec.ofChange groupPowersWrong)

/-- 'chartroomlaw04.GroupRoots': WHATEVER THE INPUT: true; the input reads as it did. -/
def groupRootsSpec : ChangeSpec := { name := "groupRoots", fn := fun _ => fun
  | [d1, d2, d3] => { results := [.lit (.bool true)], args := [d1, d2, d3] }
  | _ => none }
def groupRootsRow : OpenClaim := { program := "ytajcpbchpcnmaaa", sum := "9fab8efd5f4d277115ff1e5301ec7d5c0b8b0851902a528b56f0dae465200a89", func := "chartroom/chartroomlaw04.GroupRoots", spec := "groupRoots", unfollowed := true, recurses := true, named := ["math/bits.divideError", "math/bits.overflowError"], apart := false }
def GroupRootsSaid : Prop := groupRootsRow.holds Try.pinned (OpenSpec.ofChange groupRootsSpec)

/-- ITS FALSE NEIGHBOUR: 'it returns false'. Refute it at one input. -/
def groupRootsWrong : ChangeSpec := { name := "groupRoots", fn := fun _ => fun
  | [d1, d2, d3] => { results := [.lit (.bool false)], args := [d1, d2, d3] }
  | _ => none }
def GroupRootsWrongFalsely : Prop := groupRootsRow.holds Try.pinned (OpenSpec.ofChange groupRootsWrong)

/-- 'chartroomlaw03.FieldAddSpec': WHATEVER THE INPUT: true; the input reads as it did. -/
def fieldAddSpecSpec : ChangeSpec := { name := "fieldAddSpec", fn := fun _ => fun
  | [d1, d2] => { results := [.lit (.bool true)], args := [d1, d2] }
  | _ => none }
def fieldAddSpecRow : OpenClaim := { program := "ytajcpbchpcnmaaa", sum := "9fab8efd5f4d277115ff1e5301ec7d5c0b8b0851902a528b56f0dae465200a89", func := "chartroom/chartroomlaw03.FieldAddSpec", spec := "fieldAddSpec", unfollowed := true, recurses := true, named := ["math/bits.divideError", "math/bits.overflowError"], apart := false }
def FieldAddSpecSaid : Prop := fieldAddSpecRow.holds Try.pinned (OpenSpec.ofChange fieldAddSpecSpec)

/-- ITS FALSE NEIGHBOUR: 'it returns false'. Refute it at one input. -/
def fieldAddSpecWrong : ChangeSpec := { name := "fieldAddSpec", fn := fun _ => fun
  | [d1, d2] => { results := [.lit (.bool false)], args := [d1, d2] }
  | _ => none }
def FieldAddSpecWrongFalsely : Prop := fieldAddSpecRow.holds Try.pinned (OpenSpec.ofChange fieldAddSpecWrong)

/-- 'chartroomlaw03.FieldPowSpec': WHATEVER THE INPUT: true; the input reads as it did. -/
def fieldPowSpecSpec : ChangeSpec := { name := "fieldPowSpec", fn := fun _ => fun
  | [d1, d2] => { results := [.lit (.bool true)], args := [d1, d2] }
  | _ => none }
def fieldPowSpecRow : OpenClaim := { program := "ytajcpbchpcnmaaa", sum := "9fab8efd5f4d277115ff1e5301ec7d5c0b8b0851902a528b56f0dae465200a89", func := "chartroom/chartroomlaw03.FieldPowSpec", spec := "fieldPowSpec", unfollowed := true, recurses := true, named := ["math/bits.divideError", "math/bits.overflowError"], apart := false }
def FieldPowSpecSaid : Prop := fieldPowSpecRow.holds Try.pinned (OpenSpec.ofChange fieldPowSpecSpec)

/-- ITS FALSE NEIGHBOUR: 'it returns false'. Refute it at one input. -/
def fieldPowSpecWrong : ChangeSpec := { name := "fieldPowSpec", fn := fun _ => fun
  | [d1, d2] => { results := [.lit (.bool false)], args := [d1, d2] }
  | _ => none }
def FieldPowSpecWrongFalsely : Prop := fieldPowSpecRow.holds Try.pinned (OpenSpec.ofChange fieldPowSpecWrong)

/-- 'chartroomlaw03.FieldEvalSpec': WHATEVER THE INPUT: true; the input reads as it did. -/
def fieldEvalSpecSpec : ChangeSpec := { name := "fieldEvalSpec", fn := fun _ => fun
  | [d1, d2] => { results := [.lit (.bool true)], args := [d1, d2] }
  | _ => none }
def fieldEvalSpecRow : OpenClaim := { program := "ytajcpbchpcnmaaa", sum := "9fab8efd5f4d277115ff1e5301ec7d5c0b8b0851902a528b56f0dae465200a89", func := "chartroom/chartroomlaw03.FieldEvalSpec", spec := "fieldEvalSpec", unfollowed := true, recurses := true, named := ["math/bits.divideError", "math/bits.overflowError"], apart := false }
def FieldEvalSpecSaid : Prop := fieldEvalSpecRow.holds Try.pinned (OpenSpec.ofChange fieldEvalSpecSpec)

/-- ITS FALSE NEIGHBOUR: 'it returns false'. Refute it at one input. -/
def fieldEvalSpecWrong : ChangeSpec := { name := "fieldEvalSpec", fn := fun _ => fun
  | [d1, d2] => { results := [.lit (.bool false)], args := [d1, d2] }
  | _ => none }
def FieldEvalSpecWrongFalsely : Prop := fieldEvalSpecRow.holds Try.pinned (OpenSpec.ofChange fieldEvalSpecWrong)

/-- 'chartroomlaw03.FieldRing': WHATEVER THE INPUT: true; the input reads as it did. -/
def fieldRingSpec : ChangeSpec := { name := "fieldRing", fn := fun _ => fun
  | [d1, d2, d3] => { results := [.lit (.bool true)], args := [d1, d2, d3] }
  | _ => none }
def fieldRingRow : OpenClaim := { program := "ytajcpbchpcnmaaa", sum := "9fab8efd5f4d277115ff1e5301ec7d5c0b8b0851902a528b56f0dae465200a89", func := "chartroom/chartroomlaw03.FieldRing", spec := "fieldRing", unfollowed := true, recurses := true, named := ["math/bits.divideError", "math/bits.overflowError"], apart := false }
def FieldRingSaid : Prop := fieldRingRow.holds Try.pinned (OpenSpec.ofChange fieldRingSpec)

/-- ITS FALSE NEIGHBOUR: 'it returns false'. Refute it at one input. -/
def fieldRingWrong : ChangeSpec := { name := "fieldRing", fn := fun _ => fun
  | [d1, d2, d3] => { results := [.lit (.bool false)], args := [d1, d2, d3] }
  | _ => none }
def FieldRingWrongFalsely : Prop := fieldRingRow.holds Try.pinned (OpenSpec.ofChange fieldRingWrong)

/-- 'chartroomlaw03.FieldInverse': WHATEVER THE INPUT: true; the input reads as it did. -/
def fieldInverseSpec : ChangeSpec := { name := "fieldInverse", fn := fun _ => fun
  | [d1, d2] => { results := [.lit (.bool true)], args := [d1, d2] }
  | _ => none }
def fieldInverseRow : OpenClaim := { program := "ytajcpbchpcnmaaa", sum := "9fab8efd5f4d277115ff1e5301ec7d5c0b8b0851902a528b56f0dae465200a89", func := "chartroom/chartroomlaw03.FieldInverse", spec := "fieldInverse", unfollowed := true, recurses := true, named := ["math/bits.divideError", "math/bits.overflowError"], apart := false }
def FieldInverseSaid : Prop := fieldInverseRow.holds Try.pinned (OpenSpec.ofChange fieldInverseSpec)

/-- ITS FALSE NEIGHBOUR: 'it returns false'. Refute it at one input. -/
def fieldInverseWrong : ChangeSpec := { name := "fieldInverse", fn := fun _ => fun
  | [d1, d2] => { results := [.lit (.bool false)], args := [d1, d2] }
  | _ => none }
def FieldInverseWrongFalsely : Prop := fieldInverseRow.holds Try.pinned (OpenSpec.ofChange fieldInverseWrong)

/-- 'chartroomlaw03.FieldPowers': WHATEVER THE INPUT: true; the input reads as it did. -/
def fieldPowersSpec : ChangeSpec := { name := "fieldPowers", fn := fun _ => fun
  | [d1, d2, d3] => { results := [.lit (.bool true)], args := [d1, d2, d3] }
  | _ => none }
def fieldPowersRow : OpenClaim := { program := "ytajcpbchpcnmaaa", sum := "9fab8efd5f4d277115ff1e5301ec7d5c0b8b0851902a528b56f0dae465200a89", func := "chartroom/chartroomlaw03.FieldPowers", spec := "fieldPowers", unfollowed := true, recurses := true, named := ["math/bits.divideError", "math/bits.overflowError"], apart := false }
def FieldPowersSaid : Prop := fieldPowersRow.holds Try.pinned (OpenSpec.ofChange fieldPowersSpec)

/-- ITS FALSE NEIGHBOUR: 'it returns false'. Refute it at one input. -/
def fieldPowersWrong : ChangeSpec := { name := "fieldPowers", fn := fun _ => fun
  | [d1, d2, d3] => { results := [.lit (.bool false)], args := [d1, d2, d3] }
  | _ => none }
def FieldPowersWrongFalsely : Prop := fieldPowersRow.holds Try.pinned (OpenSpec.ofChange fieldPowersWrong)

/-- 'chartroomlaw03.FieldPolynomials': WHATEVER THE INPUT: true; the input reads as it did. -/
def fieldPolynomialsSpec : ChangeSpec := { name := "fieldPolynomials", fn := fun _ => fun
  | [d1, d2, d3, d4] => { results := [.lit (.bool true)], args := [d1, d2, d3, d4] }
  | _ => none }
def fieldPolynomialsRow : OpenClaim := { program := "ytajcpbchpcnmaaa", sum := "9fab8efd5f4d277115ff1e5301ec7d5c0b8b0851902a528b56f0dae465200a89", func := "chartroom/chartroomlaw03.FieldPolynomials", spec := "fieldPolynomials", unfollowed := true, recurses := true, named := ["math/bits.divideError", "math/bits.overflowError"], apart := false }
def FieldPolynomialsSaid : Prop := fieldPolynomialsRow.holds Try.pinned (OpenSpec.ofChange fieldPolynomialsSpec)

/-- ITS FALSE NEIGHBOUR: 'it returns false'. Refute it at one input. -/
def fieldPolynomialsWrong : ChangeSpec := { name := "fieldPolynomials", fn := fun _ => fun
  | [d1, d2, d3, d4] => { results := [.lit (.bool false)], args := [d1, d2, d3, d4] }
  | _ => none }
def FieldPolynomialsWrongFalsely : Prop := fieldPolynomialsRow.holds Try.pinned (OpenSpec.ofChange fieldPolynomialsWrong)

/- THE SECOND FORM. 'bulk': how many values and letters a reading holds, each counted each time it is reached (what is shared counts as often as it is met; a slice's spare places count too). A statement '..UptoSaid' is the law's where the arguments, and the package variables that the reading takes, are together of bulk at most 1048576: NARROWER than '..Said'. Prove '..Said' where nothing that the law and all that it calls make is longer than what came in: it says more and counts as full. Else prove '..UptoSaid'. A law counts once. -/
mutual
def uptoBulk {H : Type} : DataW H → Nat
  | .lit (.string bytes) => bytes.length + 1
  | .lit _ => 1
  | .nil => 1
  | .ptr d => uptoBulk d + 1
  | .slice elems spare => uptoBulkAll elems + uptoBulkAll spare + 1
  | .agg parts => uptoBulkAll parts + 1
  | .iface _ d => uptoBulk d + 1
  | .map entries => uptoBulkEntries entries + 1
  | .held _ => 1
def uptoBulkAll {H : Type} : List (DataW H) → Nat
  | [] => 0
  | d :: r => uptoBulk d + uptoBulkAll r
def uptoBulkEntries {H : Type} : List (Lit × DataW H) → Nat
  | [] => 0
  | x :: r => uptoBulkEntry x + uptoBulkEntries r
def uptoBulkEntry {H : Type} : Lit × DataW H → Nat
  | (.string bytes, d) => bytes.length + uptoBulk d + 1
  | (_, d) => uptoBulk d + 1
 end
def uptoSmall : (H : Type) → List (DataW H) → Bool := fun _ ds => decide (uptoBulkAll ds ≤ 1048576)
def OpenSpec.upto (s : _root_.Go.ChangeSpec) : _root_.Go.OpenSpec := { _root_.Go.OpenSpec.ofChange s with cond := some uptoSmall }

/-- 'chartroomlaw04.GroupSpec', WHERE WHAT IT READS IS OF BULK AT MOST 1048576: true; the input reads as it did. -/
def groupSpecUptoRow : OpenClaim := { program := "ytajcpbchpcnmaaa", sum := "9fab8efd5f4d277115ff1e5301ec7d5c0b8b0851902a528b56f0dae465200a89", func := "chartroom/chartroomlaw04.GroupSpec", spec := "groupSpec", unfollowed := true, recurses := true, named := ["math/bits.divideError", "math/bits.overflowError"], apart := false, narrowed := true }
def GroupSpecUptoSaid : Prop := groupSpecUptoRow.holds Try.pinned (OpenSpec.upto groupSpecSpec)

/-- 'chartroomlaw04.GroupAxioms', WHERE WHAT IT READS IS OF BULK AT MOST 1048576: true; the input reads as it did. -/
def groupAxiomsUptoRow : OpenClaim := { program := "ytajcpbchpcnmaaa", sum := "9fab8efd5f4d277115ff1e5301ec7d5c0b8b0851902a528b56f0dae465200a89", func := "chartroom/chartroomlaw04.GroupAxioms", spec := "groupAxioms", unfollowed := true, recurses := true, named := ["math/bits.divideError", "math/bits.overflowError"], apart := false, narrowed := true }
def GroupAxiomsUptoSaid : Prop := groupAxiomsUptoRow.holds Try.pinned (OpenSpec.upto groupAxiomsSpec)

/-- 'chartroomlaw04.GroupHalves', WHERE WHAT IT READS IS OF BULK AT MOST 1048576: true; the input reads as it did. -/
def groupHalvesUptoRow : OpenClaim := { program := "ytajcpbchpcnmaaa", sum := "9fab8efd5f4d277115ff1e5301ec7d5c0b8b0851902a528b56f0dae465200a89", func := "chartroom/chartroomlaw04.GroupHalves", spec := "groupHalves", unfollowed := true, recurses := true, named := ["math/bits.divideError", "math/bits.overflowError"], apart := false, narrowed := true }
def GroupHalvesUptoSaid : Prop := groupHalvesUptoRow.holds Try.pinned (OpenSpec.upto groupHalvesSpec)

/-- 'chartroomlaw04.GroupPowers', WHERE WHAT IT READS IS OF BULK AT MOST 1048576: true; the input reads as it did. -/
def groupPowersUptoRow : OpenClaim := { program := "ytajcpbchpcnmaaa", sum := "9fab8efd5f4d277115ff1e5301ec7d5c0b8b0851902a528b56f0dae465200a89", func := "chartroom/chartroomlaw04.GroupPowers", spec := "groupPowers", unfollowed := true, recurses := true, named := ["math/bits.divideError", "math/bits.overflowError"], apart := false, narrowed := true }
def GroupPowersUptoSaid : Prop := groupPowersUptoRow.holds Try.pinned (OpenSpec.upto groupPowersSpec)

/-- 'chartroomlaw04.GroupRoots', WHERE WHAT IT READS IS OF BULK AT MOST 1048576: true; the input reads as it did. -/
def groupRootsUptoRow : OpenClaim := { program := "ytajcpbchpcnmaaa", sum := "9fab8efd5f4d277115ff1e5301ec7d5c0b8b0851902a528b56f0dae465200a89", func := "chartroom/chartroomlaw04.GroupRoots", spec := "groupRoots", unfollowed := true, recurses := true, named := ["math/bits.divideError", "math/bits.overflowError"], apart := false, narrowed := true }
def GroupRootsUptoSaid : Prop := groupRootsUptoRow.holds Try.pinned (OpenSpec.upto groupRootsSpec)

/-- 'chartroomlaw03.FieldAddSpec', WHERE WHAT IT READS IS OF BULK AT MOST 1048576: true; the input reads as it did. -/
def fieldAddSpecUptoRow : OpenClaim := { program := "ytajcpbchpcnmaaa", sum := "9fab8efd5f4d277115ff1e5301ec7d5c0b8b0851902a528b56f0dae465200a89", func := "chartroom/chartroomlaw03.FieldAddSpec", spec := "fieldAddSpec", unfollowed := true, recurses := true, named := ["math/bits.divideError", "math/bits.overflowError"], apart := false, narrowed := true }
def FieldAddSpecUptoSaid : Prop := fieldAddSpecUptoRow.holds Try.pinned (OpenSpec.upto fieldAddSpecSpec)

/-- 'chartroomlaw03.FieldPowSpec', WHERE WHAT IT READS IS OF BULK AT MOST 1048576: true; the input reads as it did. -/
def fieldPowSpecUptoRow : OpenClaim := { program := "ytajcpbchpcnmaaa", sum := "9fab8efd5f4d277115ff1e5301ec7d5c0b8b0851902a528b56f0dae465200a89", func := "chartroom/chartroomlaw03.FieldPowSpec", spec := "fieldPowSpec", unfollowed := true, recurses := true, named := ["math/bits.divideError", "math/bits.overflowError"], apart := false, narrowed := true }
def FieldPowSpecUptoSaid : Prop := fieldPowSpecUptoRow.holds Try.pinned (OpenSpec.upto fieldPowSpecSpec)

/-- 'chartroomlaw03.FieldEvalSpec', WHERE WHAT IT READS IS OF BULK AT MOST 1048576: true; the input reads as it did. -/
def fieldEvalSpecUptoRow : OpenClaim := { program := "ytajcpbchpcnmaaa", sum := "9fab8efd5f4d277115ff1e5301ec7d5c0b8b0851902a528b56f0dae465200a89", func := "chartroom/chartroomlaw03.FieldEvalSpec", spec := "fieldEvalSpec", unfollowed := true, recurses := true, named := ["math/bits.divideError", "math/bits.overflowError"], apart := false, narrowed := true }
def FieldEvalSpecUptoSaid : Prop := fieldEvalSpecUptoRow.holds Try.pinned (OpenSpec.upto fieldEvalSpecSpec)

/-- 'chartroomlaw03.FieldRing', WHERE WHAT IT READS IS OF BULK AT MOST 1048576: true; the input reads as it did. -/
def fieldRingUptoRow : OpenClaim := { program := "ytajcpbchpcnmaaa", sum := "9fab8efd5f4d277115ff1e5301ec7d5c0b8b0851902a528b56f0dae465200a89", func := "chartroom/chartroomlaw03.FieldRing", spec := "fieldRing", unfollowed := true, recurses := true, named := ["math/bits.divideError", "math/bits.overflowError"], apart := false, narrowed := true }
def FieldRingUptoSaid : Prop := fieldRingUptoRow.holds Try.pinned (OpenSpec.upto fieldRingSpec)

/-- 'chartroomlaw03.FieldInverse', WHERE WHAT IT READS IS OF BULK AT MOST 1048576: true; the input reads as it did. -/
def fieldInverseUptoRow : OpenClaim := { program := "ytajcpbchpcnmaaa", sum := "9fab8efd5f4d277115ff1e5301ec7d5c0b8b0851902a528b56f0dae465200a89", func := "chartroom/chartroomlaw03.FieldInverse", spec := "fieldInverse", unfollowed := true, recurses := true, named := ["math/bits.divideError", "math/bits.overflowError"], apart := false, narrowed := true }
def FieldInverseUptoSaid : Prop := fieldInverseUptoRow.holds Try.pinned (OpenSpec.upto fieldInverseSpec)

/-- 'chartroomlaw03.FieldPowers', WHERE WHAT IT READS IS OF BULK AT MOST 1048576: true; the input reads as it did. -/
def fieldPowersUptoRow : OpenClaim := { program := "ytajcpbchpcnmaaa", sum := "9fab8efd5f4d277115ff1e5301ec7d5c0b8b0851902a528b56f0dae465200a89", func := "chartroom/chartroomlaw03.FieldPowers", spec := "fieldPowers", unfollowed := true, recurses := true, named := ["math/bits.divideError", "math/bits.overflowError"], apart := false, narrowed := true }
def FieldPowersUptoSaid : Prop := fieldPowersUptoRow.holds Try.pinned (OpenSpec.upto fieldPowersSpec)

/-- 'chartroomlaw03.FieldPolynomials', WHERE WHAT IT READS IS OF BULK AT MOST 1048576: true; the input reads as it did. -/
def fieldPolynomialsUptoRow : OpenClaim := { program := "ytajcpbchpcnmaaa", sum := "9fab8efd5f4d277115ff1e5301ec7d5c0b8b0851902a528b56f0dae465200a89", func := "chartroom/chartroomlaw03.FieldPolynomials", spec := "fieldPolynomials", unfollowed := true, recurses := true, named := ["math/bits.divideError", "math/bits.overflowError"], apart := false, narrowed := true }
def FieldPolynomialsUptoSaid : Prop := fieldPolynomialsUptoRow.holds Try.pinned (OpenSpec.upto fieldPolynomialsSpec)

end Rows
end Go.Proofs.Ytajcpbchpcnmaaa
