/-
  NARROWER THAN 'FOR EVERY INPUT', by the rows' own cells (each row's printed sentence says how): AcksEncodeSpec: laid · AcksProves: laid · AcksMore: laid · AcksAll: laid · AcksBack: laid.
  DERIVED. THE GIVEN ROWS OF THIS SEAT. 5 by the template 'for every input the law returns true; each argument reads behind the call as it read before'; 0 by the template 'total and deterministic' (their statements: YtbjbgneejdjniaaDoorTotals.lean).
  GIVEN WITH THE SEED: the statements are not yours to turn. If you find one false, say at which input.
  Laid BY PROGRAM, IN A SANDBOX (cutbox-rows.mjs): the forced cells as the released guide's own fill.sh prints them over the translation 3da469d45c88cfd6… (all of the seat's roots in one cut). By AI agents, Wed Nov 11 2026. No macro, syntax, notation, axiom, sorry.
-/
import Derived.Test.YtbjbgneejdjniaaDoorChecked
import GoSem.Claim
import GoSem.ClaimJoined
import GoSem.ClaimMapViews
import Derived.JoinedTies
import Derived.KernelRfl
namespace Go.Proofs.YtbjbgneejdjniaaDoor
/- THE CELL 'sum', in the pinned program and in every row, IS THE sha256 OF THE DUMP (.gsa) THAT YtbjbgneejdjniaaDoorProg.lean LOADS. Nothing in Lean hashes anything: it is a label: what it is worth is what the hold of that sum in a sandbox is worth. -/
noncomputable def Tryd.pinned : Pinned := { name := "ytbjbgneejdjniaadoor", sum := "3da469d45c88cfd67de814b3dcfdadbc32499afb45324aae561d8cd420d00f8a", checked := Tryd.checked }
namespace Rows
def none {H : Type} : Left H := { results := [], args := [] }

/- WHAT THE LISTED PACKAGE-LEVEL VARIABLES READ AS WHEN THE CALL BEGINS. Each datum BY PROGRAM (the guide's laid-datum.mjs) off the statement by which the dump's own 'gosem.cut.vars' lays the variable. In a bare row this is a premise. The card (YtbjbgneejdjniaaDoorCards.lean) ties it to the program's text. -/
def laid_chartroom_digest_start {H : Type} : DataW H := .agg [.lit (.int .u32 1779033703), .lit (.int .u32 3144134277), .lit (.int .u32 1013904242), .lit (.int .u32 2773480762), .lit (.int .u32 1359893119), .lit (.int .u32 2600822924), .lit (.int .u32 528734635), .lit (.int .u32 1541459225)]
def laid_chartroom_digest_numbers {H : Type} : DataW H := .agg [.lit (.int .u32 1116352408), .lit (.int .u32 1899447441), .lit (.int .u32 3049323471), .lit (.int .u32 3921009573), .lit (.int .u32 961987163), .lit (.int .u32 1508970993), .lit (.int .u32 2453635748), .lit (.int .u32 2870763221), .lit (.int .u32 3624381080), .lit (.int .u32 310598401), .lit (.int .u32 607225278), .lit (.int .u32 1426881987), .lit (.int .u32 1925078388), .lit (.int .u32 2162078206), .lit (.int .u32 2614888103), .lit (.int .u32 3248222580), .lit (.int .u32 3835390401), .lit (.int .u32 4022224774), .lit (.int .u32 264347078), .lit (.int .u32 604807628), .lit (.int .u32 770255983), .lit (.int .u32 1249150122), .lit (.int .u32 1555081692), .lit (.int .u32 1996064986), .lit (.int .u32 2554220882), .lit (.int .u32 2821834349), .lit (.int .u32 2952996808), .lit (.int .u32 3210313671), .lit (.int .u32 3336571891), .lit (.int .u32 3584528711), .lit (.int .u32 113926993), .lit (.int .u32 338241895), .lit (.int .u32 666307205), .lit (.int .u32 773529912), .lit (.int .u32 1294757372), .lit (.int .u32 1396182291), .lit (.int .u32 1695183700), .lit (.int .u32 1986661051), .lit (.int .u32 2177026350), .lit (.int .u32 2456956037), .lit (.int .u32 2730485921), .lit (.int .u32 2820302411), .lit (.int .u32 3259730800), .lit (.int .u32 3345764771), .lit (.int .u32 3516065817), .lit (.int .u32 3600352804), .lit (.int .u32 4094571909), .lit (.int .u32 275423344), .lit (.int .u32 430227734), .lit (.int .u32 506948616), .lit (.int .u32 659060556), .lit (.int .u32 883997877), .lit (.int .u32 958139571), .lit (.int .u32 1322822218), .lit (.int .u32 1537002063), .lit (.int .u32 1747873779), .lit (.int .u32 1955562222), .lit (.int .u32 2024104815), .lit (.int .u32 2227730452), .lit (.int .u32 2361852424), .lit (.int .u32 2428436474), .lit (.int .u32 2756734187), .lit (.int .u32 3204031479), .lit (.int .u32 3329325298)]

/-- 'chartroomlaw33.AcksEncodeSpec': WHATEVER THE INPUT: true; the input reads as it did. -/
def acksEncodeSpecSpec : ChangeSpec := { name := "acksEncodeSpec", fn := fun _ => fun
  | [d1, d2] => { results := [.lit (.bool true)], args := [d1, d2] }
  | _ => none }
def acksEncodeSpecRow : OpenClaim := { program := "ytbjbgneejdjniaadoor", sum := "3da469d45c88cfd67de814b3dcfdadbc32499afb45324aae561d8cd420d00f8a", func := "chartroom/chartroomlaw33.AcksEncodeSpec", spec := "acksEncodeSpec", unfollowed := true, recurses := true, named := ["chartroom/digest.start", "chartroom/digest.numbers", "math/bits.divideError", "math/bits.overflowError"], apart := false, laid := [("chartroom/digest.start", laid_chartroom_digest_start), ("chartroom/digest.numbers", laid_chartroom_digest_numbers)] }
def AcksEncodeSpecSaid : Prop := acksEncodeSpecRow.holds Tryd.pinned (OpenSpec.ofChange acksEncodeSpecSpec)

/-- ITS FALSE NEIGHBOUR: 'it returns false'. Refute it at one input. -/
def acksEncodeSpecWrong : ChangeSpec := { name := "acksEncodeSpec", fn := fun _ => fun
  | [d1, d2] => { results := [.lit (.bool false)], args := [d1, d2] }
  | _ => none }
def AcksEncodeSpecWrongFalsely : Prop := acksEncodeSpecRow.holds Tryd.pinned (OpenSpec.ofChange acksEncodeSpecWrong)

/-- 'chartroomlaw33.AcksProves': WHATEVER THE INPUT: true; the input reads as it did. -/
def acksProvesSpec : ChangeSpec := { name := "acksProves", fn := fun _ => fun
  | [d1, d2, d3, d4, d5] => { results := [.lit (.bool true)], args := [d1, d2, d3, d4, d5] }
  | _ => none }
def acksProvesRow : OpenClaim := { program := "ytbjbgneejdjniaadoor", sum := "3da469d45c88cfd67de814b3dcfdadbc32499afb45324aae561d8cd420d00f8a", func := "chartroom/chartroomlaw33.AcksProves", spec := "acksProves", unfollowed := true, recurses := true, named := ["chartroom/digest.start", "chartroom/digest.numbers", "math/bits.divideError", "math/bits.overflowError"], apart := false, laid := [("chartroom/digest.start", laid_chartroom_digest_start), ("chartroom/digest.numbers", laid_chartroom_digest_numbers)] }
def AcksProvesSaid : Prop := acksProvesRow.holds Tryd.pinned (OpenSpec.ofChange acksProvesSpec)

/-- ITS FALSE NEIGHBOUR: 'it returns false'. Refute it at one input. -/
def acksProvesWrong : ChangeSpec := { name := "acksProves", fn := fun _ => fun
  | [d1, d2, d3, d4, d5] => { results := [.lit (.bool false)], args := [d1, d2, d3, d4, d5] }
  | _ => none }
def AcksProvesWrongFalsely : Prop := acksProvesRow.holds Tryd.pinned (OpenSpec.ofChange acksProvesWrong)

/-- 'chartroomlaw33.AcksMore': WHATEVER THE INPUT: true; the input reads as it did. -/
def acksMoreSpec : ChangeSpec := { name := "acksMore", fn := fun _ => fun
  | [d1, d2, d3, d4, d5, d6] => { results := [.lit (.bool true)], args := [d1, d2, d3, d4, d5, d6] }
  | _ => none }
def acksMoreRow : OpenClaim := { program := "ytbjbgneejdjniaadoor", sum := "3da469d45c88cfd67de814b3dcfdadbc32499afb45324aae561d8cd420d00f8a", func := "chartroom/chartroomlaw33.AcksMore", spec := "acksMore", unfollowed := true, recurses := true, named := ["chartroom/digest.start", "chartroom/digest.numbers", "math/bits.divideError", "math/bits.overflowError"], apart := false, laid := [("chartroom/digest.start", laid_chartroom_digest_start), ("chartroom/digest.numbers", laid_chartroom_digest_numbers)] }
def AcksMoreSaid : Prop := acksMoreRow.holds Tryd.pinned (OpenSpec.ofChange acksMoreSpec)

/-- ITS FALSE NEIGHBOUR: 'it returns false'. Refute it at one input. -/
def acksMoreWrong : ChangeSpec := { name := "acksMore", fn := fun _ => fun
  | [d1, d2, d3, d4, d5, d6] => { results := [.lit (.bool false)], args := [d1, d2, d3, d4, d5, d6] }
  | _ => none }
def AcksMoreWrongFalsely : Prop := acksMoreRow.holds Tryd.pinned (OpenSpec.ofChange acksMoreWrong)

/-- 'chartroomlaw33.AcksAll': WHATEVER THE INPUT: true; the input reads as it did. -/
def acksAllSpec : ChangeSpec := { name := "acksAll", fn := fun _ => fun
  | [d1, d2, d3, d4] => { results := [.lit (.bool true)], args := [d1, d2, d3, d4] }
  | _ => none }
def acksAllRow : OpenClaim := { program := "ytbjbgneejdjniaadoor", sum := "3da469d45c88cfd67de814b3dcfdadbc32499afb45324aae561d8cd420d00f8a", func := "chartroom/chartroomlaw33.AcksAll", spec := "acksAll", unfollowed := true, recurses := true, named := ["chartroom/digest.start", "chartroom/digest.numbers", "math/bits.divideError", "math/bits.overflowError"], apart := false, laid := [("chartroom/digest.start", laid_chartroom_digest_start), ("chartroom/digest.numbers", laid_chartroom_digest_numbers)] }
def AcksAllSaid : Prop := acksAllRow.holds Tryd.pinned (OpenSpec.ofChange acksAllSpec)

/-- ITS FALSE NEIGHBOUR: 'it returns false'. Refute it at one input. -/
def acksAllWrong : ChangeSpec := { name := "acksAll", fn := fun _ => fun
  | [d1, d2, d3, d4] => { results := [.lit (.bool false)], args := [d1, d2, d3, d4] }
  | _ => none }
def AcksAllWrongFalsely : Prop := acksAllRow.holds Tryd.pinned (OpenSpec.ofChange acksAllWrong)

/-- 'chartroomlaw33.AcksBack': WHATEVER THE INPUT: true; the input reads as it did. -/
def acksBackSpec : ChangeSpec := { name := "acksBack", fn := fun _ => fun
  | [d1, d2] => { results := [.lit (.bool true)], args := [d1, d2] }
  | _ => none }
def acksBackRow : OpenClaim := { program := "ytbjbgneejdjniaadoor", sum := "3da469d45c88cfd67de814b3dcfdadbc32499afb45324aae561d8cd420d00f8a", func := "chartroom/chartroomlaw33.AcksBack", spec := "acksBack", unfollowed := true, recurses := true, named := ["chartroom/digest.start", "chartroom/digest.numbers", "math/bits.divideError", "math/bits.overflowError"], apart := false, laid := [("chartroom/digest.start", laid_chartroom_digest_start), ("chartroom/digest.numbers", laid_chartroom_digest_numbers)] }
def AcksBackSaid : Prop := acksBackRow.holds Tryd.pinned (OpenSpec.ofChange acksBackSpec)

/-- ITS FALSE NEIGHBOUR: 'it returns false'. Refute it at one input. -/
def acksBackWrong : ChangeSpec := { name := "acksBack", fn := fun _ => fun
  | [d1, d2] => { results := [.lit (.bool false)], args := [d1, d2] }
  | _ => none }
def AcksBackWrongFalsely : Prop := acksBackRow.holds Tryd.pinned (OpenSpec.ofChange acksBackWrong)

/- THE SECOND FORM. 'bulk': how many values and letters a reading holds, each counted each time it is reached (what is shared counts as often as it is met; a slice's spare places count too). A statement '..UptoSaid' is the law's where the arguments, and the package variables that the reading takes, are together of bulk at most 1048576: NARROWER than '..Said'. Prove '..Said' where nothing that the law and all that it calls make is longer than what came in: it says more and counts as full. Else prove '..UptoSaid'. A law counts once. -/
mutual
def uptoBulk {H : Type} : DataW H → Nat
  | .lit (.string bytes) => bytes.length + 1
  | .lit _ => 1
  | .nil => 1
  | .ptr d => uptoBulk d + 1
  | .slice elems spare => uptoBulkAll elems + uptoBulkAll spare + 1
  | .agg parts => uptoBulkAll parts + 1
  | .iface _ d => uptoBulk d + 1
  | .map entries => uptoBulkEntries entries + 1
  | .held _ => 1
def uptoBulkAll {H : Type} : List (DataW H) → Nat
  | [] => 0
  | d :: r => uptoBulk d + uptoBulkAll r
def uptoBulkEntries {H : Type} : List (Lit × DataW H) → Nat
  | [] => 0
  | x :: r => uptoBulkEntry x + uptoBulkEntries r
def uptoBulkEntry {H : Type} : Lit × DataW H → Nat
  | (.string bytes, d) => bytes.length + uptoBulk d + 1
  | (_, d) => uptoBulk d + 1
 end
def uptoSmall : (H : Type) → List (DataW H) → Bool := fun _ ds => decide (uptoBulkAll ds ≤ 1048576)
def OpenSpec.upto (s : _root_.Go.ChangeSpec) : _root_.Go.OpenSpec := { _root_.Go.OpenSpec.ofChange s with cond := some uptoSmall }

/-- 'chartroomlaw33.AcksEncodeSpec', WHERE WHAT IT READS IS OF BULK AT MOST 1048576: true; the input reads as it did. -/
def acksEncodeSpecUptoRow : OpenClaim := { program := "ytbjbgneejdjniaadoor", sum := "3da469d45c88cfd67de814b3dcfdadbc32499afb45324aae561d8cd420d00f8a", func := "chartroom/chartroomlaw33.AcksEncodeSpec", spec := "acksEncodeSpec", unfollowed := true, recurses := true, named := ["chartroom/digest.start", "chartroom/digest.numbers", "math/bits.divideError", "math/bits.overflowError"], apart := false, laid := [("chartroom/digest.start", laid_chartroom_digest_start), ("chartroom/digest.numbers", laid_chartroom_digest_numbers)], narrowed := true }
def AcksEncodeSpecUptoSaid : Prop := acksEncodeSpecUptoRow.holds Tryd.pinned (OpenSpec.upto acksEncodeSpecSpec)

/-- 'chartroomlaw33.AcksProves', WHERE WHAT IT READS IS OF BULK AT MOST 1048576: true; the input reads as it did. -/
def acksProvesUptoRow : OpenClaim := { program := "ytbjbgneejdjniaadoor", sum := "3da469d45c88cfd67de814b3dcfdadbc32499afb45324aae561d8cd420d00f8a", func := "chartroom/chartroomlaw33.AcksProves", spec := "acksProves", unfollowed := true, recurses := true, named := ["chartroom/digest.start", "chartroom/digest.numbers", "math/bits.divideError", "math/bits.overflowError"], apart := false, laid := [("chartroom/digest.start", laid_chartroom_digest_start), ("chartroom/digest.numbers", laid_chartroom_digest_numbers)], narrowed := true }
def AcksProvesUptoSaid : Prop := acksProvesUptoRow.holds Tryd.pinned (OpenSpec.upto acksProvesSpec)

/-- 'chartroomlaw33.AcksMore', WHERE WHAT IT READS IS OF BULK AT MOST 1048576: true; the input reads as it did. -/
def acksMoreUptoRow : OpenClaim := { program := "ytbjbgneejdjniaadoor", sum := "3da469d45c88cfd67de814b3dcfdadbc32499afb45324aae561d8cd420d00f8a", func := "chartroom/chartroomlaw33.AcksMore", spec := "acksMore", unfollowed := true, recurses := true, named := ["chartroom/digest.start", "chartroom/digest.numbers", "math/bits.divideError", "math/bits.overflowError"], apart := false, laid := [("chartroom/digest.start", laid_chartroom_digest_start), ("chartroom/digest.numbers", laid_chartroom_digest_numbers)], narrowed := true }
def AcksMoreUptoSaid : Prop := acksMoreUptoRow.holds Tryd.pinned (OpenSpec.upto acksMoreSpec)

/-- 'chartroomlaw33.AcksAll', WHERE WHAT IT READS IS OF BULK AT MOST 1048576: true; the input reads as it did. -/
def acksAllUptoRow : OpenClaim := { program := "ytbjbgneejdjniaadoor", sum := "3da469d45c88cfd67de814b3dcfdadbc32499afb45324aae561d8cd420d00f8a", func := "chartroom/chartroomlaw33.AcksAll", spec := "acksAll", unfollowed := true, recurses := true, named := ["chartroom/digest.start", "chartroom/digest.numbers", "math/bits.divideError", "math/bits.overflowError"], apart := false, laid := [("chartroom/digest.start", laid_chartroom_digest_start), ("chartroom/digest.numbers", laid_chartroom_digest_numbers)], narrowed := true }
def AcksAllUptoSaid : Prop := acksAllUptoRow.holds Tryd.pinned (OpenSpec.upto acksAllSpec)

/-- 'chartroomlaw33.AcksBack', WHERE WHAT IT READS IS OF BULK AT MOST 1048576: true; the input reads as it did. -/
def acksBackUptoRow : OpenClaim := { program := "ytbjbgneejdjniaadoor", sum := "3da469d45c88cfd67de814b3dcfdadbc32499afb45324aae561d8cd420d00f8a", func := "chartroom/chartroomlaw33.AcksBack", spec := "acksBack", unfollowed := true, recurses := true, named := ["chartroom/digest.start", "chartroom/digest.numbers", "math/bits.divideError", "math/bits.overflowError"], apart := false, laid := [("chartroom/digest.start", laid_chartroom_digest_start), ("chartroom/digest.numbers", laid_chartroom_digest_numbers)], narrowed := true }
def AcksBackUptoSaid : Prop := acksBackUptoRow.holds Tryd.pinned (OpenSpec.upto acksBackSpec)

end Rows
end Go.Proofs.YtbjbgneejdjniaaDoor
