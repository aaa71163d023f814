/-
  DERIVED. GIVEN WITH THE SEED: THE CARDS: each row of YtdcpejfnhegdaaaDoorRows.lean that lists a variable, with what it lists TIED to the program's text (the seventh form; the later family's looks); each row that meets fmt, with fmt's text TOLD by the authors' own Lean function (tested against real Go, not proved from fmt's source: count such statements apart). THE CARD IS WHAT COUNTS. Prove the row's statement (the work); the ties are given (YtdcpejfnhegdaaaDoorTie.lean); close each card by the builder's one call (the guide's Derived/Test/ToyasCard.lean, 'card_holds'). Laid BY PROGRAM, IN A SANDBOX (cutbox-door.mjs). By AI agents, Wed Nov 11 2026. No macro, syntax, notation, axiom, sorry.
-/
import Derived.Test.YtdcpejfnhegdaaaDoorRows
import GoSem.ClaimSeven
namespace Go.Proofs.YtdcpejfnhegdaaaDoor
namespace Rows

/-- THE TIED CARD OF 'chartroomlaw04.GroupHash'. -/
def groupHashCard : Claim7 := { stood := { row := groupHashRow, standIns := [], harness := (true, "c8d31590e115a83c20747e53bb35f722835e97e3afc5b752be7ad793c0d10f2a"), looks := false }, kinds := [], alts := [], laidByText := true, laidKinds := [.data, .data], laidTests := true, laidLooks := .later }
def GroupHashCardSaid : Prop := Claim7.holds Tryd.pinned (.plain (OpenSpec.ofChange groupHashSpec)) groupHashCard

/-- THE TIED CARD OF 'chartroomlaw04.GroupDetermined'. -/
def groupDeterminedCard : Claim7 := { stood := { row := groupDeterminedRow, standIns := [], harness := (true, "c8d31590e115a83c20747e53bb35f722835e97e3afc5b752be7ad793c0d10f2a"), looks := false }, kinds := [], alts := [], laidByText := true, laidKinds := [.data, .data], laidTests := true, laidLooks := .later }
def GroupDeterminedCardSaid : Prop := Claim7.holds Tryd.pinned (.plain (OpenSpec.ofChange groupDeterminedSpec)) groupDeterminedCard

/-- THE TIED CARD OF 'chartroomlaw10.PakePointSpec'. -/
def pakePointSpecCard : Claim7 := { stood := { row := pakePointSpecRow, standIns := [], harness := (true, "c8d31590e115a83c20747e53bb35f722835e97e3afc5b752be7ad793c0d10f2a"), looks := false }, kinds := [], alts := [], laidByText := true, laidKinds := [.data, .data], laidTests := true, laidLooks := .later }
def PakePointSpecCardSaid : Prop := Claim7.holds Tryd.pinned (.plain (OpenSpec.ofChange pakePointSpecSpec)) pakePointSpecCard

/-- THE TIED CARD OF 'chartroomlaw10.PakeSharedSpec'. -/
def pakeSharedSpecCard : Claim7 := { stood := { row := pakeSharedSpecRow, standIns := [], harness := (true, "c8d31590e115a83c20747e53bb35f722835e97e3afc5b752be7ad793c0d10f2a"), looks := false }, kinds := [], alts := [], laidByText := true, laidKinds := [.data, .data], laidTests := true, laidLooks := .later }
def PakeSharedSpecCardSaid : Prop := Claim7.holds Tryd.pinned (.plain (OpenSpec.ofChange pakeSharedSpecSpec)) pakeSharedSpecCard

/-- THE TIED CARD OF 'chartroomlaw10.PakeAgree'. -/
def pakeAgreeCard : Claim7 := { stood := { row := pakeAgreeRow, standIns := [], harness := (true, "c8d31590e115a83c20747e53bb35f722835e97e3afc5b752be7ad793c0d10f2a"), looks := false }, kinds := [], alts := [], laidByText := true, laidKinds := [.data, .data], laidTests := true, laidLooks := .later }
def PakeAgreeCardSaid : Prop := Claim7.holds Tryd.pinned (.plain (OpenSpec.ofChange pakeAgreeSpec)) pakeAgreeCard

/-- THE TIED CARD OF 'chartroomlaw10.PakeProofs'. -/
def pakeProofsCard : Claim7 := { stood := { row := pakeProofsRow, standIns := [], harness := (true, "c8d31590e115a83c20747e53bb35f722835e97e3afc5b752be7ad793c0d10f2a"), looks := false }, kinds := [], alts := [], laidByText := true, laidKinds := [.data, .data], laidTests := true, laidLooks := .later }
def PakeProofsCardSaid : Prop := Claim7.holds Tryd.pinned (.plain (OpenSpec.ofChange pakeProofsSpec)) pakeProofsCard

/-- THE TIED CARD OF 'chartroomlaw10.PakeRefused'. -/
def pakeRefusedCard : Claim7 := { stood := { row := pakeRefusedRow, standIns := [], harness := (true, "c8d31590e115a83c20747e53bb35f722835e97e3afc5b752be7ad793c0d10f2a"), looks := false }, kinds := [], alts := [], laidByText := true, laidKinds := [.data, .data], laidTests := true, laidLooks := .later }
def PakeRefusedCardSaid : Prop := Claim7.holds Tryd.pinned (.plain (OpenSpec.ofChange pakeRefusedSpec)) pakeRefusedCard

/-- THE TIED CARD OF 'chartroomlaw10.PakeMasks'. -/
def pakeMasksCard : Claim7 := { stood := { row := pakeMasksRow, standIns := [], harness := (true, "c8d31590e115a83c20747e53bb35f722835e97e3afc5b752be7ad793c0d10f2a"), looks := false }, kinds := [], alts := [], laidByText := true, laidKinds := [.data, .data], laidTests := true, laidLooks := .later }
def PakeMasksCardSaid : Prop := Claim7.holds Tryd.pinned (.plain (OpenSpec.ofChange pakeMasksSpec)) pakeMasksCard

/-- THE TIED CARD OF 'chartroomlaw10.PakeCodes'. -/
def pakeCodesCard : Claim7 := { stood := { row := pakeCodesRow, standIns := [], harness := (true, "c8d31590e115a83c20747e53bb35f722835e97e3afc5b752be7ad793c0d10f2a"), looks := false }, kinds := [], alts := [], laidByText := true, laidKinds := [.data, .data], laidTests := true, laidLooks := .later }
def PakeCodesCardSaid : Prop := Claim7.holds Tryd.pinned (.plain (OpenSpec.ofChange pakeCodesSpec)) pakeCodesCard

/-- THE SECOND FORM's CARD OF 'chartroomlaw04.GroupHash'. -/
def groupHashUptoCard : Claim7 := { stood := { row := groupHashUptoRow, standIns := [], harness := (true, "c8d31590e115a83c20747e53bb35f722835e97e3afc5b752be7ad793c0d10f2a"), looks := false }, kinds := [], alts := [], laidByText := true, laidKinds := [.data, .data], laidTests := true, laidLooks := .later }
def GroupHashUptoCardSaid : Prop := Claim7.holds Tryd.pinned (.plain (OpenSpec.upto groupHashSpec)) groupHashUptoCard

/-- THE SECOND FORM's CARD OF 'chartroomlaw04.GroupDetermined'. -/
def groupDeterminedUptoCard : Claim7 := { stood := { row := groupDeterminedUptoRow, standIns := [], harness := (true, "c8d31590e115a83c20747e53bb35f722835e97e3afc5b752be7ad793c0d10f2a"), looks := false }, kinds := [], alts := [], laidByText := true, laidKinds := [.data, .data], laidTests := true, laidLooks := .later }
def GroupDeterminedUptoCardSaid : Prop := Claim7.holds Tryd.pinned (.plain (OpenSpec.upto groupDeterminedSpec)) groupDeterminedUptoCard

/-- THE SECOND FORM's CARD OF 'chartroomlaw10.PakePointSpec'. -/
def pakePointSpecUptoCard : Claim7 := { stood := { row := pakePointSpecUptoRow, standIns := [], harness := (true, "c8d31590e115a83c20747e53bb35f722835e97e3afc5b752be7ad793c0d10f2a"), looks := false }, kinds := [], alts := [], laidByText := true, laidKinds := [.data, .data], laidTests := true, laidLooks := .later }
def PakePointSpecUptoCardSaid : Prop := Claim7.holds Tryd.pinned (.plain (OpenSpec.upto pakePointSpecSpec)) pakePointSpecUptoCard

/-- THE SECOND FORM's CARD OF 'chartroomlaw10.PakeSharedSpec'. -/
def pakeSharedSpecUptoCard : Claim7 := { stood := { row := pakeSharedSpecUptoRow, standIns := [], harness := (true, "c8d31590e115a83c20747e53bb35f722835e97e3afc5b752be7ad793c0d10f2a"), looks := false }, kinds := [], alts := [], laidByText := true, laidKinds := [.data, .data], laidTests := true, laidLooks := .later }
def PakeSharedSpecUptoCardSaid : Prop := Claim7.holds Tryd.pinned (.plain (OpenSpec.upto pakeSharedSpecSpec)) pakeSharedSpecUptoCard

/-- THE SECOND FORM's CARD OF 'chartroomlaw10.PakeAgree'. -/
def pakeAgreeUptoCard : Claim7 := { stood := { row := pakeAgreeUptoRow, standIns := [], harness := (true, "c8d31590e115a83c20747e53bb35f722835e97e3afc5b752be7ad793c0d10f2a"), looks := false }, kinds := [], alts := [], laidByText := true, laidKinds := [.data, .data], laidTests := true, laidLooks := .later }
def PakeAgreeUptoCardSaid : Prop := Claim7.holds Tryd.pinned (.plain (OpenSpec.upto pakeAgreeSpec)) pakeAgreeUptoCard

/-- THE SECOND FORM's CARD OF 'chartroomlaw10.PakeProofs'. -/
def pakeProofsUptoCard : Claim7 := { stood := { row := pakeProofsUptoRow, standIns := [], harness := (true, "c8d31590e115a83c20747e53bb35f722835e97e3afc5b752be7ad793c0d10f2a"), looks := false }, kinds := [], alts := [], laidByText := true, laidKinds := [.data, .data], laidTests := true, laidLooks := .later }
def PakeProofsUptoCardSaid : Prop := Claim7.holds Tryd.pinned (.plain (OpenSpec.upto pakeProofsSpec)) pakeProofsUptoCard

/-- THE SECOND FORM's CARD OF 'chartroomlaw10.PakeRefused'. -/
def pakeRefusedUptoCard : Claim7 := { stood := { row := pakeRefusedUptoRow, standIns := [], harness := (true, "c8d31590e115a83c20747e53bb35f722835e97e3afc5b752be7ad793c0d10f2a"), looks := false }, kinds := [], alts := [], laidByText := true, laidKinds := [.data, .data], laidTests := true, laidLooks := .later }
def PakeRefusedUptoCardSaid : Prop := Claim7.holds Tryd.pinned (.plain (OpenSpec.upto pakeRefusedSpec)) pakeRefusedUptoCard

/-- THE SECOND FORM's CARD OF 'chartroomlaw10.PakeMasks'. -/
def pakeMasksUptoCard : Claim7 := { stood := { row := pakeMasksUptoRow, standIns := [], harness := (true, "c8d31590e115a83c20747e53bb35f722835e97e3afc5b752be7ad793c0d10f2a"), looks := false }, kinds := [], alts := [], laidByText := true, laidKinds := [.data, .data], laidTests := true, laidLooks := .later }
def PakeMasksUptoCardSaid : Prop := Claim7.holds Tryd.pinned (.plain (OpenSpec.upto pakeMasksSpec)) pakeMasksUptoCard

/-- THE SECOND FORM's CARD OF 'chartroomlaw10.PakeCodes'. -/
def pakeCodesUptoCard : Claim7 := { stood := { row := pakeCodesUptoRow, standIns := [], harness := (true, "c8d31590e115a83c20747e53bb35f722835e97e3afc5b752be7ad793c0d10f2a"), looks := false }, kinds := [], alts := [], laidByText := true, laidKinds := [.data, .data], laidTests := true, laidLooks := .later }
def PakeCodesUptoCardSaid : Prop := Claim7.holds Tryd.pinned (.plain (OpenSpec.upto pakeCodesSpec)) pakeCodesUptoCard
end Rows
end Go.Proofs.YtdcpejfnhegdaaaDoor
