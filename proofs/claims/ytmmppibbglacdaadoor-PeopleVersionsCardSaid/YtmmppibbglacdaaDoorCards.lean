/-
  DERIVED. GIVEN WITH THE SEED: THE CARDS: each row of YtmmppibbglacdaaDoorRows.lean that lists a variable, with what it lists TIED to the program's text (the seventh form; the later family's looks); each row that meets fmt, with fmt's text TOLD by the authors' own Lean function (tested against real Go, not proved from fmt's source: count such statements apart). THE CARD IS WHAT COUNTS. Prove the row's statement (the work); the ties are given (YtmmppibbglacdaaDoorTie.lean); close each card by the builder's one call (the guide's Derived/Test/ToyasCard.lean, 'card_holds'). Laid BY PROGRAM, IN A SANDBOX (cutbox-door.mjs). By AI agents, Wed Nov 11 2026. No macro, syntax, notation, axiom, sorry.
-/
import Derived.Test.YtmmppibbglacdaaDoorRows
import GoSem.ClaimSeven
namespace Go.Proofs.YtmmppibbglacdaaDoor
namespace Rows

/-- THE TIED CARD OF 'chartroomlaw37.PeopleSigned'. -/
def peopleSignedCard : Claim7 := { stood := { row := peopleSignedRow, standIns := [], harness := (true, "048e6f423370f93c017671cb7c4636d501b50a38e9148d0620678a8a88b5f88c"), looks := true }, kinds := [], alts := [], laidByText := true, laidKinds := [.data, .data], laidTests := true, laidLooks := .later }
def PeopleSignedCardSaid : Prop := Claim7.holds Tryd.pinned (.plain (OpenSpec.ofChange peopleSignedSpec)) peopleSignedCard

/-- THE TIED CARD OF 'chartroomlaw37.PeopleVersions'. -/
def peopleVersionsCard : Claim7 := { stood := { row := peopleVersionsRow, standIns := [], harness := (true, "048e6f423370f93c017671cb7c4636d501b50a38e9148d0620678a8a88b5f88c"), looks := true }, kinds := [], alts := [], laidByText := true, laidKinds := [.data, .data], laidTests := true, laidLooks := .later }
def PeopleVersionsCardSaid : Prop := Claim7.holds Tryd.pinned (.plain (OpenSpec.ofChange peopleVersionsSpec)) peopleVersionsCard

/-- THE TIED CARD OF 'chartroomlaw37.PeopleApart'. -/
def peopleApartCard : Claim7 := { stood := { row := peopleApartRow, standIns := [], harness := (true, "048e6f423370f93c017671cb7c4636d501b50a38e9148d0620678a8a88b5f88c"), looks := true }, kinds := [], alts := [], laidByText := true, laidKinds := [.data, .data], laidTests := true, laidLooks := .later }
def PeopleApartCardSaid : Prop := Claim7.holds Tryd.pinned (.plain (OpenSpec.ofChange peopleApartSpec)) peopleApartCard

/-- THE TIED CARD OF 'chartroomlaw37.PeopleRevoked'. -/
def peopleRevokedCard : Claim7 := { stood := { row := peopleRevokedRow, standIns := [], harness := (true, "048e6f423370f93c017671cb7c4636d501b50a38e9148d0620678a8a88b5f88c"), looks := true }, kinds := [], alts := [], laidByText := true, laidKinds := [.data, .data], laidTests := true, laidLooks := .later }
def PeopleRevokedCardSaid : Prop := Claim7.holds Tryd.pinned (.plain (OpenSpec.ofChange peopleRevokedSpec)) peopleRevokedCard

/-- THE TIED CARD OF 'chartroomlaw37.PeopleStory'. -/
def peopleStoryCard : Claim7 := { stood := { row := peopleStoryRow, standIns := [], harness := (true, "048e6f423370f93c017671cb7c4636d501b50a38e9148d0620678a8a88b5f88c"), looks := true }, kinds := [], alts := [], laidByText := true, laidKinds := [.data, .data], laidTests := true, laidLooks := .later }
def PeopleStoryCardSaid : Prop := Claim7.holds Tryd.pinned (.plain (OpenSpec.ofChange peopleStorySpec)) peopleStoryCard

/-- THE SECOND FORM's CARD OF 'chartroomlaw37.PeopleSigned'. -/
def peopleSignedUptoCard : Claim7 := { stood := { row := peopleSignedUptoRow, standIns := [], harness := (true, "048e6f423370f93c017671cb7c4636d501b50a38e9148d0620678a8a88b5f88c"), looks := true }, kinds := [], alts := [], laidByText := true, laidKinds := [.data, .data], laidTests := true, laidLooks := .later }
def PeopleSignedUptoCardSaid : Prop := Claim7.holds Tryd.pinned (.plain (OpenSpec.upto peopleSignedSpec)) peopleSignedUptoCard

/-- THE SECOND FORM's CARD OF 'chartroomlaw37.PeopleVersions'. -/
def peopleVersionsUptoCard : Claim7 := { stood := { row := peopleVersionsUptoRow, standIns := [], harness := (true, "048e6f423370f93c017671cb7c4636d501b50a38e9148d0620678a8a88b5f88c"), looks := true }, kinds := [], alts := [], laidByText := true, laidKinds := [.data, .data], laidTests := true, laidLooks := .later }
def PeopleVersionsUptoCardSaid : Prop := Claim7.holds Tryd.pinned (.plain (OpenSpec.upto peopleVersionsSpec)) peopleVersionsUptoCard

/-- THE SECOND FORM's CARD OF 'chartroomlaw37.PeopleApart'. -/
def peopleApartUptoCard : Claim7 := { stood := { row := peopleApartUptoRow, standIns := [], harness := (true, "048e6f423370f93c017671cb7c4636d501b50a38e9148d0620678a8a88b5f88c"), looks := true }, kinds := [], alts := [], laidByText := true, laidKinds := [.data, .data], laidTests := true, laidLooks := .later }
def PeopleApartUptoCardSaid : Prop := Claim7.holds Tryd.pinned (.plain (OpenSpec.upto peopleApartSpec)) peopleApartUptoCard

/-- THE SECOND FORM's CARD OF 'chartroomlaw37.PeopleRevoked'. -/
def peopleRevokedUptoCard : Claim7 := { stood := { row := peopleRevokedUptoRow, standIns := [], harness := (true, "048e6f423370f93c017671cb7c4636d501b50a38e9148d0620678a8a88b5f88c"), looks := true }, kinds := [], alts := [], laidByText := true, laidKinds := [.data, .data], laidTests := true, laidLooks := .later }
def PeopleRevokedUptoCardSaid : Prop := Claim7.holds Tryd.pinned (.plain (OpenSpec.upto peopleRevokedSpec)) peopleRevokedUptoCard

/-- THE SECOND FORM's CARD OF 'chartroomlaw37.PeopleStory'. -/
def peopleStoryUptoCard : Claim7 := { stood := { row := peopleStoryUptoRow, standIns := [], harness := (true, "048e6f423370f93c017671cb7c4636d501b50a38e9148d0620678a8a88b5f88c"), looks := true }, kinds := [], alts := [], laidByText := true, laidKinds := [.data, .data], laidTests := true, laidLooks := .later }
def PeopleStoryUptoCardSaid : Prop := Claim7.holds Tryd.pinned (.plain (OpenSpec.upto peopleStorySpec)) peopleStoryUptoCard
end Rows
end Go.Proofs.YtmmppibbglacdaaDoor
