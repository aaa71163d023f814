/-
  DERIVED. GIVEN WITH THE SEED: THE CARDS: each row of YtcmabaolpaaonaaDoorRows.lean that lists a variable, with what it lists TIED to the program's text (the seventh form; the later family's looks); each row that meets fmt, with fmt's text TOLD by the authors' own Lean function (tested against real Go, not proved from fmt's source: count such statements apart). THE CARD IS WHAT COUNTS. Prove the row's statement (the work); the ties are given (YtcmabaolpaaonaaDoorTie.lean); close each card by the builder's one call (the guide's Derived/Test/ToyasCard.lean, 'card_holds'). Laid BY PROGRAM, IN A SANDBOX (cutbox-door.mjs). By AI agents, Wed Nov 11 2026. No macro, syntax, notation, axiom, sorry.
-/
import Derived.Test.YtcmabaolpaaonaaDoorRows
import GoSem.ClaimSeven
namespace Go.Proofs.YtcmabaolpaaonaaDoor
namespace Rows

/-- THE TIED CARD OF 'chartroomlaw05.SignPublicSpec'. -/
def signPublicSpecCard : Claim7 := { stood := { row := signPublicSpecRow, standIns := [], harness := (true, "59e42a71f90370fe7ac82ab18ccd7ad82d9f9471f698db704f305b4322a87c1d"), looks := false }, kinds := [], alts := [], laidByText := true, laidKinds := [.data, .data], laidTests := true, laidLooks := .later }
def SignPublicSpecCardSaid : Prop := Claim7.holds Tryd.pinned (.plain (OpenSpec.ofChange signPublicSpecSpec)) signPublicSpecCard

/-- THE TIED CARD OF 'chartroomlaw05.SignVerifySpec'. -/
def signVerifySpecCard : Claim7 := { stood := { row := signVerifySpecRow, standIns := [], harness := (true, "59e42a71f90370fe7ac82ab18ccd7ad82d9f9471f698db704f305b4322a87c1d"), looks := false }, kinds := [], alts := [], laidByText := true, laidKinds := [.data, .data], laidTests := true, laidLooks := .later }
def SignVerifySpecCardSaid : Prop := Claim7.holds Tryd.pinned (.plain (OpenSpec.ofChange signVerifySpecSpec)) signVerifySpecCard

/-- THE TIED CARD OF 'chartroomlaw05.SignVerifies'. -/
def signVerifiesCard : Claim7 := { stood := { row := signVerifiesRow, standIns := [], harness := (true, "59e42a71f90370fe7ac82ab18ccd7ad82d9f9471f698db704f305b4322a87c1d"), looks := false }, kinds := [], alts := [], laidByText := true, laidKinds := [.data, .data], laidTests := true, laidLooks := .later }
def SignVerifiesCardSaid : Prop := Claim7.holds Tryd.pinned (.plain (OpenSpec.ofChange signVerifiesSpec)) signVerifiesCard

/-- THE TIED CARD OF 'chartroomlaw05.SignEquation'. -/
def signEquationCard : Claim7 := { stood := { row := signEquationRow, standIns := [], harness := (true, "59e42a71f90370fe7ac82ab18ccd7ad82d9f9471f698db704f305b4322a87c1d"), looks := false }, kinds := [], alts := [], laidByText := true, laidKinds := [.data, .data], laidTests := true, laidLooks := .later }
def SignEquationCardSaid : Prop := Claim7.holds Tryd.pinned (.plain (OpenSpec.ofChange signEquationSpec)) signEquationCard

/-- THE TIED CARD OF 'chartroomlaw05.SignOnly'. -/
def signOnlyCard : Claim7 := { stood := { row := signOnlyRow, standIns := [], harness := (true, "59e42a71f90370fe7ac82ab18ccd7ad82d9f9471f698db704f305b4322a87c1d"), looks := false }, kinds := [], alts := [], laidByText := true, laidKinds := [.data, .data], laidTests := true, laidLooks := .later }
def SignOnlyCardSaid : Prop := Claim7.holds Tryd.pinned (.plain (OpenSpec.ofChange signOnlySpec)) signOnlyCard

/-- THE TIED CARD OF 'chartroomlaw05.SignNonce'. -/
def signNonceCard : Claim7 := { stood := { row := signNonceRow, standIns := [], harness := (true, "59e42a71f90370fe7ac82ab18ccd7ad82d9f9471f698db704f305b4322a87c1d"), looks := false }, kinds := [], alts := [], laidByText := true, laidKinds := [.data, .data], laidTests := true, laidLooks := .later }
def SignNonceCardSaid : Prop := Claim7.holds Tryd.pinned (.plain (OpenSpec.ofChange signNonceSpec)) signNonceCard

/-- THE TIED CARD OF 'chartroomlaw05.SignDifference'. -/
def signDifferenceCard : Claim7 := { stood := { row := signDifferenceRow, standIns := [], harness := (true, "59e42a71f90370fe7ac82ab18ccd7ad82d9f9471f698db704f305b4322a87c1d"), looks := false }, kinds := [], alts := [], laidByText := true, laidKinds := [.data, .data], laidTests := true, laidLooks := .later }
def SignDifferenceCardSaid : Prop := Claim7.holds Tryd.pinned (.plain (OpenSpec.ofChange signDifferenceSpec)) signDifferenceCard

/-- THE SECOND FORM's CARD OF 'chartroomlaw05.SignPublicSpec'. -/
def signPublicSpecUptoCard : Claim7 := { stood := { row := signPublicSpecUptoRow, standIns := [], harness := (true, "59e42a71f90370fe7ac82ab18ccd7ad82d9f9471f698db704f305b4322a87c1d"), looks := false }, kinds := [], alts := [], laidByText := true, laidKinds := [.data, .data], laidTests := true, laidLooks := .later }
def SignPublicSpecUptoCardSaid : Prop := Claim7.holds Tryd.pinned (.plain (OpenSpec.upto signPublicSpecSpec)) signPublicSpecUptoCard

/-- THE SECOND FORM's CARD OF 'chartroomlaw05.SignVerifySpec'. -/
def signVerifySpecUptoCard : Claim7 := { stood := { row := signVerifySpecUptoRow, standIns := [], harness := (true, "59e42a71f90370fe7ac82ab18ccd7ad82d9f9471f698db704f305b4322a87c1d"), looks := false }, kinds := [], alts := [], laidByText := true, laidKinds := [.data, .data], laidTests := true, laidLooks := .later }
def SignVerifySpecUptoCardSaid : Prop := Claim7.holds Tryd.pinned (.plain (OpenSpec.upto signVerifySpecSpec)) signVerifySpecUptoCard

/-- THE SECOND FORM's CARD OF 'chartroomlaw05.SignVerifies'. -/
def signVerifiesUptoCard : Claim7 := { stood := { row := signVerifiesUptoRow, standIns := [], harness := (true, "59e42a71f90370fe7ac82ab18ccd7ad82d9f9471f698db704f305b4322a87c1d"), looks := false }, kinds := [], alts := [], laidByText := true, laidKinds := [.data, .data], laidTests := true, laidLooks := .later }
def SignVerifiesUptoCardSaid : Prop := Claim7.holds Tryd.pinned (.plain (OpenSpec.upto signVerifiesSpec)) signVerifiesUptoCard

/-- THE SECOND FORM's CARD OF 'chartroomlaw05.SignEquation'. -/
def signEquationUptoCard : Claim7 := { stood := { row := signEquationUptoRow, standIns := [], harness := (true, "59e42a71f90370fe7ac82ab18ccd7ad82d9f9471f698db704f305b4322a87c1d"), looks := false }, kinds := [], alts := [], laidByText := true, laidKinds := [.data, .data], laidTests := true, laidLooks := .later }
def SignEquationUptoCardSaid : Prop := Claim7.holds Tryd.pinned (.plain (OpenSpec.upto signEquationSpec)) signEquationUptoCard

/-- THE SECOND FORM's CARD OF 'chartroomlaw05.SignOnly'. -/
def signOnlyUptoCard : Claim7 := { stood := { row := signOnlyUptoRow, standIns := [], harness := (true, "59e42a71f90370fe7ac82ab18ccd7ad82d9f9471f698db704f305b4322a87c1d"), looks := false }, kinds := [], alts := [], laidByText := true, laidKinds := [.data, .data], laidTests := true, laidLooks := .later }
def SignOnlyUptoCardSaid : Prop := Claim7.holds Tryd.pinned (.plain (OpenSpec.upto signOnlySpec)) signOnlyUptoCard

/-- THE SECOND FORM's CARD OF 'chartroomlaw05.SignNonce'. -/
def signNonceUptoCard : Claim7 := { stood := { row := signNonceUptoRow, standIns := [], harness := (true, "59e42a71f90370fe7ac82ab18ccd7ad82d9f9471f698db704f305b4322a87c1d"), looks := false }, kinds := [], alts := [], laidByText := true, laidKinds := [.data, .data], laidTests := true, laidLooks := .later }
def SignNonceUptoCardSaid : Prop := Claim7.holds Tryd.pinned (.plain (OpenSpec.upto signNonceSpec)) signNonceUptoCard

/-- THE SECOND FORM's CARD OF 'chartroomlaw05.SignDifference'. -/
def signDifferenceUptoCard : Claim7 := { stood := { row := signDifferenceUptoRow, standIns := [], harness := (true, "59e42a71f90370fe7ac82ab18ccd7ad82d9f9471f698db704f305b4322a87c1d"), looks := false }, kinds := [], alts := [], laidByText := true, laidKinds := [.data, .data], laidTests := true, laidLooks := .later }
def SignDifferenceUptoCardSaid : Prop := Claim7.holds Tryd.pinned (.plain (OpenSpec.upto signDifferenceSpec)) signDifferenceUptoCard
end Rows
end Go.Proofs.YtcmabaolpaaonaaDoor
