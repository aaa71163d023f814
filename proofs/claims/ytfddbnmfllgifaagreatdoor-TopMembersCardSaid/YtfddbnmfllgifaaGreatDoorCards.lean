/-
  DERIVED. GIVEN WITH THE SEED: THE CARDS: each row of YtfddbnmfllgifaaGreatDoorRows.lean that lists a variable, with what it lists TIED to the program's text (the seventh form; the later family's looks); each row that meets fmt, with fmt's text TOLD by the authors' own Lean function (tested against real Go, not proved from fmt's source: count such statements apart). THE CARD IS WHAT COUNTS. Prove the row's statement (the work); the ties are given (YtfddbnmfllgifaaGreatDoorTie.lean); close each card by the builder's one call (the guide's Derived/Test/ToyasCard.lean, 'card_holds'). Laid BY PROGRAM, IN A SANDBOX (cutbox-door.mjs). By AI agents, Wed Nov 11 2026. No macro, syntax, notation, axiom, sorry.
-/
import Derived.Test.YtfddbnmfllgifaaGreatDoorRows
import GoSem.ClaimSeven
namespace Go.Proofs.YtfddbnmfllgifaaGreatDoor
namespace Rows

/-- THE TIED CARD OF 'chartroomtop.TopMembers'. -/
def topMembersCard : Claim7 := { stood := { row := topMembersRow, standIns := [], harness := (true, "79385a195d4edbcde85a965cfed9115cee187d3a00cced63ea505bc395b6db37"), looks := true }, kinds := [], alts := [], laidByText := true, laidKinds := [.data, .data, .sentinel, .sentinel], laidTests := true, laidLooks := .later }
def TopMembersCardSaid : Prop := Claim7.holds Tryz.pinned (.plain (OpenSpec.ofChange topMembersSpec)) topMembersCard

/-- THE SECOND FORM's CARD OF 'chartroomtop.TopMembers'. -/
def topMembersUptoCard : Claim7 := { stood := { row := topMembersUptoRow, standIns := [], harness := (true, "79385a195d4edbcde85a965cfed9115cee187d3a00cced63ea505bc395b6db37"), looks := true }, kinds := [], alts := [], laidByText := true, laidKinds := [.data, .data, .sentinel, .sentinel], laidTests := true, laidLooks := .later }
def TopMembersUptoCardSaid : Prop := Claim7.holds Tryz.pinned (.plain (OpenSpec.upto topMembersSpec)) topMembersUptoCard
end Rows
end Go.Proofs.YtfddbnmfllgifaaGreatDoor
