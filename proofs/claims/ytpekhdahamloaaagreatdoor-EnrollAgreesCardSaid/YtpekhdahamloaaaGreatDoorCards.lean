/-
  DERIVED. GIVEN WITH THE SEED: THE CARDS: each row of YtpekhdahamloaaaGreatDoorRows.lean that lists a variable, with what it lists TIED to the program's text (the seventh form; the later family's looks); each row that meets fmt, with fmt's text TOLD by the authors' own Lean function (tested against real Go, not proved from fmt's source: count such statements apart). THE CARD IS WHAT COUNTS. Prove the row's statement (the work); the ties are given (YtpekhdahamloaaaGreatDoorTie.lean); close each card by the builder's one call (the guide's Derived/Test/ToyasCard.lean, 'card_holds'). Laid BY PROGRAM, IN A SANDBOX (cutbox-door.mjs). By AI agents, Wed Nov 11 2026. No macro, syntax, notation, axiom, sorry.
-/
import Derived.Test.YtpekhdahamloaaaGreatDoorRows
import GoSem.ClaimSeven
namespace Go.Proofs.YtpekhdahamloaaaGreatDoor
namespace Rows

/-- THE TIED CARD OF 'chartroomlaw38.EnrollNewSpec'. -/
def enrollNewSpecCard : Claim7 := { stood := { row := enrollNewSpecRow, standIns := [], harness := (true, "985a05e3088af6d9978407ea0afe36f1d0dd7a163d26c8195c9b6cdd556eda9c"), looks := true }, kinds := [], alts := [], laidByText := true, laidKinds := [.handle, .data, .data], laidTests := true, laidLooks := .later }
def EnrollNewSpecCardSaid : Prop := Claim7.holds Tryz.pinned (.plain (OpenSpec.ofChange enrollNewSpecSpec)) enrollNewSpecCard

/-- THE TIED CARD OF 'chartroomlaw38.EnrollAskSpec'. -/
def enrollAskSpecCard : Claim7 := { stood := { row := enrollAskSpecRow, standIns := [], harness := (true, "985a05e3088af6d9978407ea0afe36f1d0dd7a163d26c8195c9b6cdd556eda9c"), looks := true }, kinds := [], alts := [], laidByText := true, laidKinds := [.handle, .data, .data], laidTests := true, laidLooks := .later }
def EnrollAskSpecCardSaid : Prop := Claim7.holds Tryz.pinned (.plain (OpenSpec.ofChange enrollAskSpecSpec)) enrollAskSpecCard

/-- THE TIED CARD OF 'chartroomlaw38.EnrollAnswerSpec'. -/
def enrollAnswerSpecCard : Claim7 := { stood := { row := enrollAnswerSpecRow, standIns := [], harness := (true, "985a05e3088af6d9978407ea0afe36f1d0dd7a163d26c8195c9b6cdd556eda9c"), looks := true }, kinds := [], alts := [], laidByText := true, laidKinds := [.handle, .data, .data], laidTests := true, laidLooks := .later }
def EnrollAnswerSpecCardSaid : Prop := Claim7.holds Tryz.pinned (.plain (OpenSpec.ofChange enrollAnswerSpecSpec)) enrollAnswerSpecCard

/-- THE TIED CARD OF 'chartroomlaw38.EnrollTries'. -/
def enrollTriesCard : Claim7 := { stood := { row := enrollTriesRow, standIns := [], harness := (true, "985a05e3088af6d9978407ea0afe36f1d0dd7a163d26c8195c9b6cdd556eda9c"), looks := true }, kinds := [], alts := [], laidByText := true, laidKinds := [.handle, .data, .data], laidTests := true, laidLooks := .later }
def EnrollTriesCardSaid : Prop := Claim7.holds Tryz.pinned (.plain (OpenSpec.ofChange enrollTriesSpec)) enrollTriesCard

/-- THE TIED CARD OF 'chartroomlaw38.EnrollExact'. -/
def enrollExactCard : Claim7 := { stood := { row := enrollExactRow, standIns := [], harness := (true, "985a05e3088af6d9978407ea0afe36f1d0dd7a163d26c8195c9b6cdd556eda9c"), looks := true }, kinds := [], alts := [], laidByText := true, laidKinds := [.handle, .data, .data], laidTests := true, laidLooks := .later }
def EnrollExactCardSaid : Prop := Claim7.holds Tryz.pinned (.plain (OpenSpec.ofChange enrollExactSpec)) enrollExactCard

/-- THE TIED CARD OF 'chartroomlaw38.EnrollOthers'. -/
def enrollOthersCard : Claim7 := { stood := { row := enrollOthersRow, standIns := [], harness := (true, "985a05e3088af6d9978407ea0afe36f1d0dd7a163d26c8195c9b6cdd556eda9c"), looks := true }, kinds := [], alts := [], laidByText := true, laidKinds := [.handle, .data, .data], laidTests := true, laidLooks := .later }
def EnrollOthersCardSaid : Prop := Claim7.holds Tryz.pinned (.plain (OpenSpec.ofChange enrollOthersSpec)) enrollOthersCard

/-- THE TIED CARD OF 'chartroomlaw38.EnrollAgrees'. -/
def enrollAgreesCard : Claim7 := { stood := { row := enrollAgreesRow, standIns := [], harness := (true, "985a05e3088af6d9978407ea0afe36f1d0dd7a163d26c8195c9b6cdd556eda9c"), looks := true }, kinds := [], alts := [], laidByText := true, laidKinds := [.handle, .data, .data], laidTests := true, laidLooks := .later }
def EnrollAgreesCardSaid : Prop := Claim7.holds Tryz.pinned (.plain (OpenSpec.ofChange enrollAgreesSpec)) enrollAgreesCard

/-- THE SECOND FORM's CARD OF 'chartroomlaw38.EnrollNewSpec'. -/
def enrollNewSpecUptoCard : Claim7 := { stood := { row := enrollNewSpecUptoRow, standIns := [], harness := (true, "985a05e3088af6d9978407ea0afe36f1d0dd7a163d26c8195c9b6cdd556eda9c"), looks := true }, kinds := [], alts := [], laidByText := true, laidKinds := [.handle, .data, .data], laidTests := true, laidLooks := .later }
def EnrollNewSpecUptoCardSaid : Prop := Claim7.holds Tryz.pinned (.plain (OpenSpec.upto enrollNewSpecSpec)) enrollNewSpecUptoCard

/-- THE SECOND FORM's CARD OF 'chartroomlaw38.EnrollAskSpec'. -/
def enrollAskSpecUptoCard : Claim7 := { stood := { row := enrollAskSpecUptoRow, standIns := [], harness := (true, "985a05e3088af6d9978407ea0afe36f1d0dd7a163d26c8195c9b6cdd556eda9c"), looks := true }, kinds := [], alts := [], laidByText := true, laidKinds := [.handle, .data, .data], laidTests := true, laidLooks := .later }
def EnrollAskSpecUptoCardSaid : Prop := Claim7.holds Tryz.pinned (.plain (OpenSpec.upto enrollAskSpecSpec)) enrollAskSpecUptoCard

/-- THE SECOND FORM's CARD OF 'chartroomlaw38.EnrollAnswerSpec'. -/
def enrollAnswerSpecUptoCard : Claim7 := { stood := { row := enrollAnswerSpecUptoRow, standIns := [], harness := (true, "985a05e3088af6d9978407ea0afe36f1d0dd7a163d26c8195c9b6cdd556eda9c"), looks := true }, kinds := [], alts := [], laidByText := true, laidKinds := [.handle, .data, .data], laidTests := true, laidLooks := .later }
def EnrollAnswerSpecUptoCardSaid : Prop := Claim7.holds Tryz.pinned (.plain (OpenSpec.upto enrollAnswerSpecSpec)) enrollAnswerSpecUptoCard

/-- THE SECOND FORM's CARD OF 'chartroomlaw38.EnrollTries'. -/
def enrollTriesUptoCard : Claim7 := { stood := { row := enrollTriesUptoRow, standIns := [], harness := (true, "985a05e3088af6d9978407ea0afe36f1d0dd7a163d26c8195c9b6cdd556eda9c"), looks := true }, kinds := [], alts := [], laidByText := true, laidKinds := [.handle, .data, .data], laidTests := true, laidLooks := .later }
def EnrollTriesUptoCardSaid : Prop := Claim7.holds Tryz.pinned (.plain (OpenSpec.upto enrollTriesSpec)) enrollTriesUptoCard

/-- THE SECOND FORM's CARD OF 'chartroomlaw38.EnrollExact'. -/
def enrollExactUptoCard : Claim7 := { stood := { row := enrollExactUptoRow, standIns := [], harness := (true, "985a05e3088af6d9978407ea0afe36f1d0dd7a163d26c8195c9b6cdd556eda9c"), looks := true }, kinds := [], alts := [], laidByText := true, laidKinds := [.handle, .data, .data], laidTests := true, laidLooks := .later }
def EnrollExactUptoCardSaid : Prop := Claim7.holds Tryz.pinned (.plain (OpenSpec.upto enrollExactSpec)) enrollExactUptoCard

/-- THE SECOND FORM's CARD OF 'chartroomlaw38.EnrollOthers'. -/
def enrollOthersUptoCard : Claim7 := { stood := { row := enrollOthersUptoRow, standIns := [], harness := (true, "985a05e3088af6d9978407ea0afe36f1d0dd7a163d26c8195c9b6cdd556eda9c"), looks := true }, kinds := [], alts := [], laidByText := true, laidKinds := [.handle, .data, .data], laidTests := true, laidLooks := .later }
def EnrollOthersUptoCardSaid : Prop := Claim7.holds Tryz.pinned (.plain (OpenSpec.upto enrollOthersSpec)) enrollOthersUptoCard

/-- THE SECOND FORM's CARD OF 'chartroomlaw38.EnrollAgrees'. -/
def enrollAgreesUptoCard : Claim7 := { stood := { row := enrollAgreesUptoRow, standIns := [], harness := (true, "985a05e3088af6d9978407ea0afe36f1d0dd7a163d26c8195c9b6cdd556eda9c"), looks := true }, kinds := [], alts := [], laidByText := true, laidKinds := [.handle, .data, .data], laidTests := true, laidLooks := .later }
def EnrollAgreesUptoCardSaid : Prop := Claim7.holds Tryz.pinned (.plain (OpenSpec.upto enrollAgreesSpec)) enrollAgreesUptoCard
end Rows
end Go.Proofs.YtpekhdahamloaaaGreatDoor
