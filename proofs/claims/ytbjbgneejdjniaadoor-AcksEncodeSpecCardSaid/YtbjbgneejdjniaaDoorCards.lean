/-
  DERIVED. GIVEN WITH THE SEED: THE CARDS: each row of YtbjbgneejdjniaaDoorRows.lean that lists a variable, with what it lists TIED to the program's text (the seventh form; the later family's looks); each row that meets fmt, with fmt's text TOLD by the authors' own Lean function (tested against real Go, not proved from fmt's source: count such statements apart). THE CARD IS WHAT COUNTS. Prove the row's statement (the work); the ties are given (YtbjbgneejdjniaaDoorTie.lean); close each card by the builder's one call (the guide's Derived/Test/ToyasCard.lean, 'card_holds'). Laid BY PROGRAM, IN A SANDBOX (cutbox-door.mjs). By AI agents, Wed Nov 11 2026. No macro, syntax, notation, axiom, sorry.
-/
import Derived.Test.YtbjbgneejdjniaaDoorRows
import GoSem.ClaimSeven
namespace Go.Proofs.YtbjbgneejdjniaaDoor
namespace Rows

/-- THE TIED CARD OF 'chartroomlaw33.AcksEncodeSpec'. -/
def acksEncodeSpecCard : Claim7 := { stood := { row := acksEncodeSpecRow, standIns := [], harness := (true, "a0da19af548fc01d2ba10f022eee1b07bd49a250b478fe29e7cc8b56ecb7496b"), looks := true }, kinds := [], alts := [], laidByText := true, laidKinds := [.data, .data], laidTests := true, laidLooks := .later }
def AcksEncodeSpecCardSaid : Prop := Claim7.holds Tryd.pinned (.plain (OpenSpec.ofChange acksEncodeSpecSpec)) acksEncodeSpecCard

/-- THE TIED CARD OF 'chartroomlaw33.AcksProves'. -/
def acksProvesCard : Claim7 := { stood := { row := acksProvesRow, standIns := [], harness := (true, "a0da19af548fc01d2ba10f022eee1b07bd49a250b478fe29e7cc8b56ecb7496b"), looks := true }, kinds := [], alts := [], laidByText := true, laidKinds := [.data, .data], laidTests := true, laidLooks := .later }
def AcksProvesCardSaid : Prop := Claim7.holds Tryd.pinned (.plain (OpenSpec.ofChange acksProvesSpec)) acksProvesCard

/-- THE TIED CARD OF 'chartroomlaw33.AcksMore'. -/
def acksMoreCard : Claim7 := { stood := { row := acksMoreRow, standIns := [], harness := (true, "a0da19af548fc01d2ba10f022eee1b07bd49a250b478fe29e7cc8b56ecb7496b"), looks := true }, kinds := [], alts := [], laidByText := true, laidKinds := [.data, .data], laidTests := true, laidLooks := .later }
def AcksMoreCardSaid : Prop := Claim7.holds Tryd.pinned (.plain (OpenSpec.ofChange acksMoreSpec)) acksMoreCard

/-- THE TIED CARD OF 'chartroomlaw33.AcksAll'. -/
def acksAllCard : Claim7 := { stood := { row := acksAllRow, standIns := [], harness := (true, "a0da19af548fc01d2ba10f022eee1b07bd49a250b478fe29e7cc8b56ecb7496b"), looks := true }, kinds := [], alts := [], laidByText := true, laidKinds := [.data, .data], laidTests := true, laidLooks := .later }
def AcksAllCardSaid : Prop := Claim7.holds Tryd.pinned (.plain (OpenSpec.ofChange acksAllSpec)) acksAllCard

/-- THE TIED CARD OF 'chartroomlaw33.AcksBack'. -/
def acksBackCard : Claim7 := { stood := { row := acksBackRow, standIns := [], harness := (true, "a0da19af548fc01d2ba10f022eee1b07bd49a250b478fe29e7cc8b56ecb7496b"), looks := true }, kinds := [], alts := [], laidByText := true, laidKinds := [.data, .data], laidTests := true, laidLooks := .later }
def AcksBackCardSaid : Prop := Claim7.holds Tryd.pinned (.plain (OpenSpec.ofChange acksBackSpec)) acksBackCard

/-- THE SECOND FORM's CARD OF 'chartroomlaw33.AcksEncodeSpec'. -/
def acksEncodeSpecUptoCard : Claim7 := { stood := { row := acksEncodeSpecUptoRow, standIns := [], harness := (true, "a0da19af548fc01d2ba10f022eee1b07bd49a250b478fe29e7cc8b56ecb7496b"), looks := true }, kinds := [], alts := [], laidByText := true, laidKinds := [.data, .data], laidTests := true, laidLooks := .later }
def AcksEncodeSpecUptoCardSaid : Prop := Claim7.holds Tryd.pinned (.plain (OpenSpec.upto acksEncodeSpecSpec)) acksEncodeSpecUptoCard

/-- THE SECOND FORM's CARD OF 'chartroomlaw33.AcksProves'. -/
def acksProvesUptoCard : Claim7 := { stood := { row := acksProvesUptoRow, standIns := [], harness := (true, "a0da19af548fc01d2ba10f022eee1b07bd49a250b478fe29e7cc8b56ecb7496b"), looks := true }, kinds := [], alts := [], laidByText := true, laidKinds := [.data, .data], laidTests := true, laidLooks := .later }
def AcksProvesUptoCardSaid : Prop := Claim7.holds Tryd.pinned (.plain (OpenSpec.upto acksProvesSpec)) acksProvesUptoCard

/-- THE SECOND FORM's CARD OF 'chartroomlaw33.AcksMore'. -/
def acksMoreUptoCard : Claim7 := { stood := { row := acksMoreUptoRow, standIns := [], harness := (true, "a0da19af548fc01d2ba10f022eee1b07bd49a250b478fe29e7cc8b56ecb7496b"), looks := true }, kinds := [], alts := [], laidByText := true, laidKinds := [.data, .data], laidTests := true, laidLooks := .later }
def AcksMoreUptoCardSaid : Prop := Claim7.holds Tryd.pinned (.plain (OpenSpec.upto acksMoreSpec)) acksMoreUptoCard

/-- THE SECOND FORM's CARD OF 'chartroomlaw33.AcksAll'. -/
def acksAllUptoCard : Claim7 := { stood := { row := acksAllUptoRow, standIns := [], harness := (true, "a0da19af548fc01d2ba10f022eee1b07bd49a250b478fe29e7cc8b56ecb7496b"), looks := true }, kinds := [], alts := [], laidByText := true, laidKinds := [.data, .data], laidTests := true, laidLooks := .later }
def AcksAllUptoCardSaid : Prop := Claim7.holds Tryd.pinned (.plain (OpenSpec.upto acksAllSpec)) acksAllUptoCard

/-- THE SECOND FORM's CARD OF 'chartroomlaw33.AcksBack'. -/
def acksBackUptoCard : Claim7 := { stood := { row := acksBackUptoRow, standIns := [], harness := (true, "a0da19af548fc01d2ba10f022eee1b07bd49a250b478fe29e7cc8b56ecb7496b"), looks := true }, kinds := [], alts := [], laidByText := true, laidKinds := [.data, .data], laidTests := true, laidLooks := .later }
def AcksBackUptoCardSaid : Prop := Claim7.holds Tryd.pinned (.plain (OpenSpec.upto acksBackSpec)) acksBackUptoCard
end Rows
end Go.Proofs.YtbjbgneejdjniaaDoor
