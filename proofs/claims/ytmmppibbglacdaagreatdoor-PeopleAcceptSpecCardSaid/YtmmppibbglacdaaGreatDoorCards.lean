/-
  DERIVED. GIVEN WITH THE SEED: THE CARDS: each row of YtmmppibbglacdaaGreatDoorRows.lean that lists a variable, with what it lists TIED to the program's text (the seventh form; the later family's looks); each row that meets fmt, with fmt's text TOLD by the authors' own Lean function (tested against real Go, not proved from fmt's source: count such statements apart). THE CARD IS WHAT COUNTS. Prove the row's statement (the work); the ties are given (YtmmppibbglacdaaGreatDoorTie.lean); close each card by the builder's one call (the guide's Derived/Test/ToyasCard.lean, 'card_holds'). Laid BY PROGRAM, IN A SANDBOX (cutbox-door.mjs). By AI agents, Wed Nov 11 2026. No macro, syntax, notation, axiom, sorry.
-/
import Derived.Test.YtmmppibbglacdaaGreatDoorRows
import GoSem.ClaimSeven
namespace Go.Proofs.YtmmppibbglacdaaGreatDoor
namespace Rows

/-- THE TIED CARD OF 'chartroomlaw37.PeopleCheckSpec'. -/
def peopleCheckSpecCard : Claim7 := { stood := { row := peopleCheckSpecRow, standIns := [], harness := (true, "b4c5373447bfde1c10cd259373921da3c5d808902479d30f3a1b17d54894179e"), looks := true }, kinds := [], alts := [], laidByText := true, laidKinds := [.data, .data], laidTests := true, laidLooks := .later }
def PeopleCheckSpecCardSaid : Prop := Claim7.holds Tryz.pinned (.plain (OpenSpec.ofChange peopleCheckSpecSpec)) peopleCheckSpecCard

/-- THE TIED CARD OF 'chartroomlaw37.PeopleCertifySpec'. -/
def peopleCertifySpecCard : Claim7 := { stood := { row := peopleCertifySpecRow, standIns := [], harness := (true, "b4c5373447bfde1c10cd259373921da3c5d808902479d30f3a1b17d54894179e"), looks := true }, kinds := [], alts := [], laidByText := true, laidKinds := [.data, .data], laidTests := true, laidLooks := .later }
def PeopleCertifySpecCardSaid : Prop := Claim7.holds Tryz.pinned (.plain (OpenSpec.ofChange peopleCertifySpecSpec)) peopleCertifySpecCard

/-- THE TIED CARD OF 'chartroomlaw37.PeopleAcceptSpec'. -/
def peopleAcceptSpecCard : Claim7 := { stood := { row := peopleAcceptSpecRow, standIns := [], harness := (true, "b4c5373447bfde1c10cd259373921da3c5d808902479d30f3a1b17d54894179e"), looks := true }, kinds := [], alts := [], laidByText := true, laidKinds := [.data, .data], laidTests := true, laidLooks := .later }
def PeopleAcceptSpecCardSaid : Prop := Claim7.holds Tryz.pinned (.plain (OpenSpec.ofChange peopleAcceptSpecSpec)) peopleAcceptSpecCard

/-- THE SECOND FORM's CARD OF 'chartroomlaw37.PeopleCheckSpec'. -/
def peopleCheckSpecUptoCard : Claim7 := { stood := { row := peopleCheckSpecUptoRow, standIns := [], harness := (true, "b4c5373447bfde1c10cd259373921da3c5d808902479d30f3a1b17d54894179e"), looks := true }, kinds := [], alts := [], laidByText := true, laidKinds := [.data, .data], laidTests := true, laidLooks := .later }
def PeopleCheckSpecUptoCardSaid : Prop := Claim7.holds Tryz.pinned (.plain (OpenSpec.upto peopleCheckSpecSpec)) peopleCheckSpecUptoCard

/-- THE SECOND FORM's CARD OF 'chartroomlaw37.PeopleCertifySpec'. -/
def peopleCertifySpecUptoCard : Claim7 := { stood := { row := peopleCertifySpecUptoRow, standIns := [], harness := (true, "b4c5373447bfde1c10cd259373921da3c5d808902479d30f3a1b17d54894179e"), looks := true }, kinds := [], alts := [], laidByText := true, laidKinds := [.data, .data], laidTests := true, laidLooks := .later }
def PeopleCertifySpecUptoCardSaid : Prop := Claim7.holds Tryz.pinned (.plain (OpenSpec.upto peopleCertifySpecSpec)) peopleCertifySpecUptoCard

/-- THE SECOND FORM's CARD OF 'chartroomlaw37.PeopleAcceptSpec'. -/
def peopleAcceptSpecUptoCard : Claim7 := { stood := { row := peopleAcceptSpecUptoRow, standIns := [], harness := (true, "b4c5373447bfde1c10cd259373921da3c5d808902479d30f3a1b17d54894179e"), looks := true }, kinds := [], alts := [], laidByText := true, laidKinds := [.data, .data], laidTests := true, laidLooks := .later }
def PeopleAcceptSpecUptoCardSaid : Prop := Claim7.holds Tryz.pinned (.plain (OpenSpec.upto peopleAcceptSpecSpec)) peopleAcceptSpecUptoCard
end Rows
end Go.Proofs.YtmmppibbglacdaaGreatDoor
