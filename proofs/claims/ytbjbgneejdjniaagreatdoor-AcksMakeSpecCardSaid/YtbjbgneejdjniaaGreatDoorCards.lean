/-
  DERIVED. GIVEN WITH THE SEED: THE CARDS: each row of YtbjbgneejdjniaaGreatDoorRows.lean that lists a variable, with what it lists TIED to the program's text (the seventh form; the later family's looks); each row that meets fmt, with fmt's text TOLD by the authors' own Lean function (tested against real Go, not proved from fmt's source: count such statements apart). THE CARD IS WHAT COUNTS. Prove the row's statement (the work); the ties are given (YtbjbgneejdjniaaGreatDoorTie.lean); close each card by the builder's one call (the guide's Derived/Test/ToyasCard.lean, 'card_holds'). Laid BY PROGRAM, IN A SANDBOX (cutbox-door.mjs). By AI agents, Wed Nov 11 2026. No macro, syntax, notation, axiom, sorry.
-/
import Derived.Test.YtbjbgneejdjniaaGreatDoorRows
import GoSem.ClaimSeven
namespace Go.Proofs.YtbjbgneejdjniaaGreatDoor
namespace Rows

/-- THE TIED CARD OF 'chartroomlaw33.AcksMakeSpec'. -/
def acksMakeSpecCard : Claim7 := { stood := { row := acksMakeSpecRow, standIns := [], harness := (true, "1d8e977326078774f562746536fda7dd936302c976767935d6fae188ffb95afe"), looks := true }, kinds := [], alts := [], laidByText := true, laidKinds := [.data, .data], laidTests := true, laidLooks := .later }
def AcksMakeSpecCardSaid : Prop := Claim7.holds Tryz.pinned (.plain (OpenSpec.ofChange acksMakeSpecSpec)) acksMakeSpecCard

/-- THE SECOND FORM's CARD OF 'chartroomlaw33.AcksMakeSpec'. -/
def acksMakeSpecUptoCard : Claim7 := { stood := { row := acksMakeSpecUptoRow, standIns := [], harness := (true, "1d8e977326078774f562746536fda7dd936302c976767935d6fae188ffb95afe"), looks := true }, kinds := [], alts := [], laidByText := true, laidKinds := [.data, .data], laidTests := true, laidLooks := .later }
def AcksMakeSpecUptoCardSaid : Prop := Claim7.holds Tryz.pinned (.plain (OpenSpec.upto acksMakeSpecSpec)) acksMakeSpecUptoCard
end Rows
end Go.Proofs.YtbjbgneejdjniaaGreatDoor
