/-
  NARROWER THAN 'FOR EVERY INPUT', by the rows' own cells (each row's printed sentence says how): EnrollNewSpec: laid · EnrollAskSpec: laid · EnrollAnswerSpec: laid · EnrollTries: laid · EnrollExact: laid · EnrollOthers: laid · EnrollAgrees: laid.
  DERIVED. THE GIVEN ROWS OF THIS SEAT. 7 by the template 'for every input the law returns true; each argument reads behind the call as it read before'; 0 by the template 'total and deterministic' (their statements: YtpekhdahamloaaaGreatDoorTotals.lean).
  GIVEN WITH THE SEED: the statements are not yours to turn. If you find one false, say at which input.
  Laid BY PROGRAM, IN A SANDBOX (cutbox-rows.mjs): the forced cells as the released guide's own fill.sh prints them over the translation e81c3b1d50257afd… (all of the seat's roots in one cut). By AI agents, Wed Nov 11 2026. No macro, syntax, notation, axiom, sorry.
-/
import Derived.Test.YtpekhdahamloaaaGreatDoorChecked
import GoSem.Claim
import GoSem.ClaimJoined
import GoSem.ClaimMapViews
import Derived.JoinedTies
import Derived.KernelRfl
namespace Go.Proofs.YtpekhdahamloaaaGreatDoor
/- THE CELL 'sum', in the pinned program and in every row, IS THE sha256 OF THE DUMP (.gsa) THAT YtpekhdahamloaaaGreatDoorProg.lean LOADS. Nothing in Lean hashes anything: it is a label: what it is worth is what the hold of that sum in a sandbox is worth. -/
noncomputable def Tryz.pinned : Pinned := { name := "ytpekhdahamloaaagreatdoor", sum := "e81c3b1d50257afd69b418bf705fd046a39043c14b09f43dacf16a3e8cfba206", checked := Tryz.checked }
namespace Rows
def none {H : Type} : Left H := { results := [], args := [] }

/- WHAT THE LISTED PACKAGE-LEVEL VARIABLES READ AS WHEN THE CALL BEGINS. Each datum BY PROGRAM (the guide's laid-datum.mjs) off the statement by which the dump's own 'gosem.cut.vars' lays the variable. In a bare row this is a premise. The card (YtpekhdahamloaaaGreatDoorCards.lean) ties it to the program's text. -/
def laid_errors_errorType {H : Type} : DataW H := .iface "internal/reflectlite.rtype" (.agg [.ptr (.lit (.string [101, 114, 114, 111, 114]))])
def laid_chartroom_digest_start {H : Type} : DataW H := .agg [.lit (.int .u32 1779033703), .lit (.int .u32 3144134277), .lit (.int .u32 1013904242), .lit (.int .u32 2773480762), .lit (.int .u32 1359893119), .lit (.int .u32 2600822924), .lit (.int .u32 528734635), .lit (.int .u32 1541459225)]
def laid_chartroom_digest_numbers {H : Type} : DataW H := .agg [.lit (.int .u32 1116352408), .lit (.int .u32 1899447441), .lit (.int .u32 3049323471), .lit (.int .u32 3921009573), .lit (.int .u32 961987163), .lit (.int .u32 1508970993), .lit (.int .u32 2453635748), .lit (.int .u32 2870763221), .lit (.int .u32 3624381080), .lit (.int .u32 310598401), .lit (.int .u32 607225278), .lit (.int .u32 1426881987), .lit (.int .u32 1925078388), .lit (.int .u32 2162078206), .lit (.int .u32 2614888103), .lit (.int .u32 3248222580), .lit (.int .u32 3835390401), .lit (.int .u32 4022224774), .lit (.int .u32 264347078), .lit (.int .u32 604807628), .lit (.int .u32 770255983), .lit (.int .u32 1249150122), .lit (.int .u32 1555081692), .lit (.int .u32 1996064986), .lit (.int .u32 2554220882), .lit (.int .u32 2821834349), .lit (.int .u32 2952996808), .lit (.int .u32 3210313671), .lit (.int .u32 3336571891), .lit (.int .u32 3584528711), .lit (.int .u32 113926993), .lit (.int .u32 338241895), .lit (.int .u32 666307205), .lit (.int .u32 773529912), .lit (.int .u32 1294757372), .lit (.int .u32 1396182291), .lit (.int .u32 1695183700), .lit (.int .u32 1986661051), .lit (.int .u32 2177026350), .lit (.int .u32 2456956037), .lit (.int .u32 2730485921), .lit (.int .u32 2820302411), .lit (.int .u32 3259730800), .lit (.int .u32 3345764771), .lit (.int .u32 3516065817), .lit (.int .u32 3600352804), .lit (.int .u32 4094571909), .lit (.int .u32 275423344), .lit (.int .u32 430227734), .lit (.int .u32 506948616), .lit (.int .u32 659060556), .lit (.int .u32 883997877), .lit (.int .u32 958139571), .lit (.int .u32 1322822218), .lit (.int .u32 1537002063), .lit (.int .u32 1747873779), .lit (.int .u32 1955562222), .lit (.int .u32 2024104815), .lit (.int .u32 2227730452), .lit (.int .u32 2361852424), .lit (.int .u32 2428436474), .lit (.int .u32 2756734187), .lit (.int .u32 3204031479), .lit (.int .u32 3329325298)]

/-- 'chartroomlaw38.EnrollNewSpec': WHATEVER THE INPUT: true; the input reads as it did. -/
def enrollNewSpecSpec : ChangeSpec := { name := "enrollNewSpec", fn := fun _ => fun
  | [d1, d2, d3, d4] => { results := [.lit (.bool true)], args := [d1, d2, d3, d4] }
  | _ => none }
def enrollNewSpecRow : OpenClaim := { program := "ytpekhdahamloaaagreatdoor", sum := "e81c3b1d50257afd69b418bf705fd046a39043c14b09f43dacf16a3e8cfba206", func := "chartroom/chartroomlaw38.EnrollNewSpec", spec := "enrollNewSpec", inPlace := ["internal/reflectlite.ValueOf", "(internal/reflectlite.Value).Type", "(internal/reflectlite.Value).IsNil", "internal/reflectlite.TypeOf", "(internal/reflectlite.Value).Elem", "(internal/reflectlite.Value).Set"], unfollowed := true, recurses := true, named := ["math/bits.divideError", "math/bits.overflowError", "chartroom/digest.start", "chartroom/digest.numbers", "errors.errorType"], apart := false, laid := [("errors.errorType", laid_errors_errorType), ("chartroom/digest.start", laid_chartroom_digest_start), ("chartroom/digest.numbers", laid_chartroom_digest_numbers)] }
def EnrollNewSpecSaid : Prop := enrollNewSpecRow.holds Tryz.pinned (OpenSpec.ofChange enrollNewSpecSpec)

/-- ITS FALSE NEIGHBOUR: 'it returns false'. Refute it at one input. -/
def enrollNewSpecWrong : ChangeSpec := { name := "enrollNewSpec", fn := fun _ => fun
  | [d1, d2, d3, d4] => { results := [.lit (.bool false)], args := [d1, d2, d3, d4] }
  | _ => none }
def EnrollNewSpecWrongFalsely : Prop := enrollNewSpecRow.holds Tryz.pinned (OpenSpec.ofChange enrollNewSpecWrong)

/-- 'chartroomlaw38.EnrollAskSpec': WHATEVER THE INPUT: true; the input reads as it did. -/
def enrollAskSpecSpec : ChangeSpec := { name := "enrollAskSpec", fn := fun _ => fun
  | [d1, d2, d3, d4, d5, d6] => { results := [.lit (.bool true)], args := [d1, d2, d3, d4, d5, d6] }
  | _ => none }
def enrollAskSpecRow : OpenClaim := { program := "ytpekhdahamloaaagreatdoor", sum := "e81c3b1d50257afd69b418bf705fd046a39043c14b09f43dacf16a3e8cfba206", func := "chartroom/chartroomlaw38.EnrollAskSpec", spec := "enrollAskSpec", inPlace := ["internal/reflectlite.ValueOf", "(internal/reflectlite.Value).Type", "(internal/reflectlite.Value).IsNil", "internal/reflectlite.TypeOf", "(internal/reflectlite.Value).Elem", "(internal/reflectlite.Value).Set"], unfollowed := true, recurses := true, named := ["math/bits.divideError", "math/bits.overflowError", "chartroom/digest.start", "chartroom/digest.numbers", "errors.errorType"], apart := false, laid := [("errors.errorType", laid_errors_errorType), ("chartroom/digest.start", laid_chartroom_digest_start), ("chartroom/digest.numbers", laid_chartroom_digest_numbers)] }
def EnrollAskSpecSaid : Prop := enrollAskSpecRow.holds Tryz.pinned (OpenSpec.ofChange enrollAskSpecSpec)

/-- ITS FALSE NEIGHBOUR: 'it returns false'. Refute it at one input. -/
def enrollAskSpecWrong : ChangeSpec := { name := "enrollAskSpec", fn := fun _ => fun
  | [d1, d2, d3, d4, d5, d6] => { results := [.lit (.bool false)], args := [d1, d2, d3, d4, d5, d6] }
  | _ => none }
def EnrollAskSpecWrongFalsely : Prop := enrollAskSpecRow.holds Tryz.pinned (OpenSpec.ofChange enrollAskSpecWrong)

/-- 'chartroomlaw38.EnrollAnswerSpec': WHATEVER THE INPUT: true; the input reads as it did. -/
def enrollAnswerSpecSpec : ChangeSpec := { name := "enrollAnswerSpec", fn := fun _ => fun
  | [d1, d2, d3, d4, d5] => { results := [.lit (.bool true)], args := [d1, d2, d3, d4, d5] }
  | _ => none }
def enrollAnswerSpecRow : OpenClaim := { program := "ytpekhdahamloaaagreatdoor", sum := "e81c3b1d50257afd69b418bf705fd046a39043c14b09f43dacf16a3e8cfba206", func := "chartroom/chartroomlaw38.EnrollAnswerSpec", spec := "enrollAnswerSpec", inPlace := ["internal/reflectlite.ValueOf", "(internal/reflectlite.Value).Type", "(internal/reflectlite.Value).IsNil", "internal/reflectlite.TypeOf", "(internal/reflectlite.Value).Elem", "(internal/reflectlite.Value).Set"], unfollowed := true, recurses := true, named := ["math/bits.divideError", "math/bits.overflowError", "chartroom/digest.start", "chartroom/digest.numbers", "errors.errorType"], apart := false, laid := [("errors.errorType", laid_errors_errorType), ("chartroom/digest.start", laid_chartroom_digest_start), ("chartroom/digest.numbers", laid_chartroom_digest_numbers)] }
def EnrollAnswerSpecSaid : Prop := enrollAnswerSpecRow.holds Tryz.pinned (OpenSpec.ofChange enrollAnswerSpecSpec)

/-- ITS FALSE NEIGHBOUR: 'it returns false'. Refute it at one input. -/
def enrollAnswerSpecWrong : ChangeSpec := { name := "enrollAnswerSpec", fn := fun _ => fun
  | [d1, d2, d3, d4, d5] => { results := [.lit (.bool false)], args := [d1, d2, d3, d4, d5] }
  | _ => none }
def EnrollAnswerSpecWrongFalsely : Prop := enrollAnswerSpecRow.holds Tryz.pinned (OpenSpec.ofChange enrollAnswerSpecWrong)

/-- 'chartroomlaw38.EnrollTries': WHATEVER THE INPUT: true; the input reads as it did. -/
def enrollTriesSpec : ChangeSpec := { name := "enrollTries", fn := fun _ => fun
  | [d1, d2, d3, d4, d5] => { results := [.lit (.bool true)], args := [d1, d2, d3, d4, d5] }
  | _ => none }
def enrollTriesRow : OpenClaim := { program := "ytpekhdahamloaaagreatdoor", sum := "e81c3b1d50257afd69b418bf705fd046a39043c14b09f43dacf16a3e8cfba206", func := "chartroom/chartroomlaw38.EnrollTries", spec := "enrollTries", inPlace := ["internal/reflectlite.ValueOf", "(internal/reflectlite.Value).Type", "(internal/reflectlite.Value).IsNil", "internal/reflectlite.TypeOf", "(internal/reflectlite.Value).Elem", "(internal/reflectlite.Value).Set"], unfollowed := true, recurses := true, named := ["math/bits.divideError", "math/bits.overflowError", "chartroom/digest.start", "chartroom/digest.numbers", "errors.errorType"], apart := false, laid := [("errors.errorType", laid_errors_errorType), ("chartroom/digest.start", laid_chartroom_digest_start), ("chartroom/digest.numbers", laid_chartroom_digest_numbers)] }
def EnrollTriesSaid : Prop := enrollTriesRow.holds Tryz.pinned (OpenSpec.ofChange enrollTriesSpec)

/-- ITS FALSE NEIGHBOUR: 'it returns false'. Refute it at one input. -/
def enrollTriesWrong : ChangeSpec := { name := "enrollTries", fn := fun _ => fun
  | [d1, d2, d3, d4, d5] => { results := [.lit (.bool false)], args := [d1, d2, d3, d4, d5] }
  | _ => none }
def EnrollTriesWrongFalsely : Prop := enrollTriesRow.holds Tryz.pinned (OpenSpec.ofChange enrollTriesWrong)

/-- 'chartroomlaw38.EnrollExact': WHATEVER THE INPUT: true; the input reads as it did. -/
def enrollExactSpec : ChangeSpec := { name := "enrollExact", fn := fun _ => fun
  | [d1, d2, d3, d4, d5] => { results := [.lit (.bool true)], args := [d1, d2, d3, d4, d5] }
  | _ => none }
def enrollExactRow : OpenClaim := { program := "ytpekhdahamloaaagreatdoor", sum := "e81c3b1d50257afd69b418bf705fd046a39043c14b09f43dacf16a3e8cfba206", func := "chartroom/chartroomlaw38.EnrollExact", spec := "enrollExact", inPlace := ["internal/reflectlite.ValueOf", "(internal/reflectlite.Value).Type", "(internal/reflectlite.Value).IsNil", "internal/reflectlite.TypeOf", "(internal/reflectlite.Value).Elem", "(internal/reflectlite.Value).Set"], unfollowed := true, recurses := true, named := ["math/bits.divideError", "math/bits.overflowError", "chartroom/digest.start", "chartroom/digest.numbers", "errors.errorType"], apart := false, laid := [("errors.errorType", laid_errors_errorType), ("chartroom/digest.start", laid_chartroom_digest_start), ("chartroom/digest.numbers", laid_chartroom_digest_numbers)] }
def EnrollExactSaid : Prop := enrollExactRow.holds Tryz.pinned (OpenSpec.ofChange enrollExactSpec)

/-- ITS FALSE NEIGHBOUR: 'it returns false'. Refute it at one input. -/
def enrollExactWrong : ChangeSpec := { name := "enrollExact", fn := fun _ => fun
  | [d1, d2, d3, d4, d5] => { results := [.lit (.bool false)], args := [d1, d2, d3, d4, d5] }
  | _ => none }
def EnrollExactWrongFalsely : Prop := enrollExactRow.holds Tryz.pinned (OpenSpec.ofChange enrollExactWrong)

/-- 'chartroomlaw38.EnrollOthers': WHATEVER THE INPUT: true; the input reads as it did. -/
def enrollOthersSpec : ChangeSpec := { name := "enrollOthers", fn := fun _ => fun
  | [d1, d2, d3, d4, d5] => { results := [.lit (.bool true)], args := [d1, d2, d3, d4, d5] }
  | _ => none }
def enrollOthersRow : OpenClaim := { program := "ytpekhdahamloaaagreatdoor", sum := "e81c3b1d50257afd69b418bf705fd046a39043c14b09f43dacf16a3e8cfba206", func := "chartroom/chartroomlaw38.EnrollOthers", spec := "enrollOthers", inPlace := ["internal/reflectlite.ValueOf", "(internal/reflectlite.Value).Type", "(internal/reflectlite.Value).IsNil", "internal/reflectlite.TypeOf", "(internal/reflectlite.Value).Elem", "(internal/reflectlite.Value).Set"], unfollowed := true, recurses := true, named := ["math/bits.divideError", "math/bits.overflowError", "chartroom/digest.start", "chartroom/digest.numbers", "errors.errorType"], apart := false, laid := [("errors.errorType", laid_errors_errorType), ("chartroom/digest.start", laid_chartroom_digest_start), ("chartroom/digest.numbers", laid_chartroom_digest_numbers)] }
def EnrollOthersSaid : Prop := enrollOthersRow.holds Tryz.pinned (OpenSpec.ofChange enrollOthersSpec)

/-- ITS FALSE NEIGHBOUR: 'it returns false'. Refute it at one input. -/
def enrollOthersWrong : ChangeSpec := { name := "enrollOthers", fn := fun _ => fun
  | [d1, d2, d3, d4, d5] => { results := [.lit (.bool false)], args := [d1, d2, d3, d4, d5] }
  | _ => none }
def EnrollOthersWrongFalsely : Prop := enrollOthersRow.holds Tryz.pinned (OpenSpec.ofChange enrollOthersWrong)

/-- 'chartroomlaw38.EnrollAgrees': WHATEVER THE INPUT: true; the input reads as it did. -/
def enrollAgreesSpec : ChangeSpec := { name := "enrollAgrees", fn := fun _ => fun
  | [d1, d2, d3, d4, d5, d6, d7] => { results := [.lit (.bool true)], args := [d1, d2, d3, d4, d5, d6, d7] }
  | _ => none }
def enrollAgreesRow : OpenClaim := { program := "ytpekhdahamloaaagreatdoor", sum := "e81c3b1d50257afd69b418bf705fd046a39043c14b09f43dacf16a3e8cfba206", func := "chartroom/chartroomlaw38.EnrollAgrees", spec := "enrollAgrees", inPlace := ["internal/reflectlite.ValueOf", "(internal/reflectlite.Value).Type", "(internal/reflectlite.Value).IsNil", "internal/reflectlite.TypeOf", "(internal/reflectlite.Value).Elem", "(internal/reflectlite.Value).Set"], unfollowed := true, recurses := true, named := ["math/bits.divideError", "math/bits.overflowError", "chartroom/digest.start", "chartroom/digest.numbers", "errors.errorType"], apart := false, laid := [("errors.errorType", laid_errors_errorType), ("chartroom/digest.start", laid_chartroom_digest_start), ("chartroom/digest.numbers", laid_chartroom_digest_numbers)] }
def EnrollAgreesSaid : Prop := enrollAgreesRow.holds Tryz.pinned (OpenSpec.ofChange enrollAgreesSpec)

/-- ITS FALSE NEIGHBOUR: 'it returns false'. Refute it at one input. -/
def enrollAgreesWrong : ChangeSpec := { name := "enrollAgrees", fn := fun _ => fun
  | [d1, d2, d3, d4, d5, d6, d7] => { results := [.lit (.bool false)], args := [d1, d2, d3, d4, d5, d6, d7] }
  | _ => none }
def EnrollAgreesWrongFalsely : Prop := enrollAgreesRow.holds Tryz.pinned (OpenSpec.ofChange enrollAgreesWrong)

/- THE SECOND FORM. 'bulk': how many values and letters a reading holds, each counted each time it is reached (what is shared counts as often as it is met; a slice's spare places count too). A statement '..UptoSaid' is the law's where the arguments, and the package variables that the reading takes, are together of bulk at most 1048576: NARROWER than '..Said'. Prove '..Said' where nothing that the law and all that it calls make is longer than what came in: it says more and counts as full. Else prove '..UptoSaid'. A law counts once. -/
mutual
def uptoBulk {H : Type} : DataW H → Nat
  | .lit (.string bytes) => bytes.length + 1
  | .lit _ => 1
  | .nil => 1
  | .ptr d => uptoBulk d + 1
  | .slice elems spare => uptoBulkAll elems + uptoBulkAll spare + 1
  | .agg parts => uptoBulkAll parts + 1
  | .iface _ d => uptoBulk d + 1
  | .map entries => uptoBulkEntries entries + 1
  | .held _ => 1
def uptoBulkAll {H : Type} : List (DataW H) → Nat
  | [] => 0
  | d :: r => uptoBulk d + uptoBulkAll r
def uptoBulkEntries {H : Type} : List (Lit × DataW H) → Nat
  | [] => 0
  | x :: r => uptoBulkEntry x + uptoBulkEntries r
def uptoBulkEntry {H : Type} : Lit × DataW H → Nat
  | (.string bytes, d) => bytes.length + uptoBulk d + 1
  | (_, d) => uptoBulk d + 1
 end
def uptoSmall : (H : Type) → List (DataW H) → Bool := fun _ ds => decide (uptoBulkAll ds ≤ 1048576)
def OpenSpec.upto (s : _root_.Go.ChangeSpec) : _root_.Go.OpenSpec := { _root_.Go.OpenSpec.ofChange s with cond := some uptoSmall }

/-- 'chartroomlaw38.EnrollNewSpec', WHERE WHAT IT READS IS OF BULK AT MOST 1048576: true; the input reads as it did. -/
def enrollNewSpecUptoRow : OpenClaim := { program := "ytpekhdahamloaaagreatdoor", sum := "e81c3b1d50257afd69b418bf705fd046a39043c14b09f43dacf16a3e8cfba206", func := "chartroom/chartroomlaw38.EnrollNewSpec", spec := "enrollNewSpec", inPlace := ["internal/reflectlite.ValueOf", "(internal/reflectlite.Value).Type", "(internal/reflectlite.Value).IsNil", "internal/reflectlite.TypeOf", "(internal/reflectlite.Value).Elem", "(internal/reflectlite.Value).Set"], unfollowed := true, recurses := true, named := ["math/bits.divideError", "math/bits.overflowError", "chartroom/digest.start", "chartroom/digest.numbers", "errors.errorType"], apart := false, laid := [("errors.errorType", laid_errors_errorType), ("chartroom/digest.start", laid_chartroom_digest_start), ("chartroom/digest.numbers", laid_chartroom_digest_numbers)], narrowed := true }
def EnrollNewSpecUptoSaid : Prop := enrollNewSpecUptoRow.holds Tryz.pinned (OpenSpec.upto enrollNewSpecSpec)

/-- 'chartroomlaw38.EnrollAskSpec', WHERE WHAT IT READS IS OF BULK AT MOST 1048576: true; the input reads as it did. -/
def enrollAskSpecUptoRow : OpenClaim := { program := "ytpekhdahamloaaagreatdoor", sum := "e81c3b1d50257afd69b418bf705fd046a39043c14b09f43dacf16a3e8cfba206", func := "chartroom/chartroomlaw38.EnrollAskSpec", spec := "enrollAskSpec", inPlace := ["internal/reflectlite.ValueOf", "(internal/reflectlite.Value).Type", "(internal/reflectlite.Value).IsNil", "internal/reflectlite.TypeOf", "(internal/reflectlite.Value).Elem", "(internal/reflectlite.Value).Set"], unfollowed := true, recurses := true, named := ["math/bits.divideError", "math/bits.overflowError", "chartroom/digest.start", "chartroom/digest.numbers", "errors.errorType"], apart := false, laid := [("errors.errorType", laid_errors_errorType), ("chartroom/digest.start", laid_chartroom_digest_start), ("chartroom/digest.numbers", laid_chartroom_digest_numbers)], narrowed := true }
def EnrollAskSpecUptoSaid : Prop := enrollAskSpecUptoRow.holds Tryz.pinned (OpenSpec.upto enrollAskSpecSpec)

/-- 'chartroomlaw38.EnrollAnswerSpec', WHERE WHAT IT READS IS OF BULK AT MOST 1048576: true; the input reads as it did. -/
def enrollAnswerSpecUptoRow : OpenClaim := { program := "ytpekhdahamloaaagreatdoor", sum := "e81c3b1d50257afd69b418bf705fd046a39043c14b09f43dacf16a3e8cfba206", func := "chartroom/chartroomlaw38.EnrollAnswerSpec", spec := "enrollAnswerSpec", inPlace := ["internal/reflectlite.ValueOf", "(internal/reflectlite.Value).Type", "(internal/reflectlite.Value).IsNil", "internal/reflectlite.TypeOf", "(internal/reflectlite.Value).Elem", "(internal/reflectlite.Value).Set"], unfollowed := true, recurses := true, named := ["math/bits.divideError", "math/bits.overflowError", "chartroom/digest.start", "chartroom/digest.numbers", "errors.errorType"], apart := false, laid := [("errors.errorType", laid_errors_errorType), ("chartroom/digest.start", laid_chartroom_digest_start), ("chartroom/digest.numbers", laid_chartroom_digest_numbers)], narrowed := true }
def EnrollAnswerSpecUptoSaid : Prop := enrollAnswerSpecUptoRow.holds Tryz.pinned (OpenSpec.upto enrollAnswerSpecSpec)

/-- 'chartroomlaw38.EnrollTries', WHERE WHAT IT READS IS OF BULK AT MOST 1048576: true; the input reads as it did. -/
def enrollTriesUptoRow : OpenClaim := { program := "ytpekhdahamloaaagreatdoor", sum := "e81c3b1d50257afd69b418bf705fd046a39043c14b09f43dacf16a3e8cfba206", func := "chartroom/chartroomlaw38.EnrollTries", spec := "enrollTries", inPlace := ["internal/reflectlite.ValueOf", "(internal/reflectlite.Value).Type", "(internal/reflectlite.Value).IsNil", "internal/reflectlite.TypeOf", "(internal/reflectlite.Value).Elem", "(internal/reflectlite.Value).Set"], unfollowed := true, recurses := true, named := ["math/bits.divideError", "math/bits.overflowError", "chartroom/digest.start", "chartroom/digest.numbers", "errors.errorType"], apart := false, laid := [("errors.errorType", laid_errors_errorType), ("chartroom/digest.start", laid_chartroom_digest_start), ("chartroom/digest.numbers", laid_chartroom_digest_numbers)], narrowed := true }
def EnrollTriesUptoSaid : Prop := enrollTriesUptoRow.holds Tryz.pinned (OpenSpec.upto enrollTriesSpec)

/-- 'chartroomlaw38.EnrollExact', WHERE WHAT IT READS IS OF BULK AT MOST 1048576: true; the input reads as it did. -/
def enrollExactUptoRow : OpenClaim := { program := "ytpekhdahamloaaagreatdoor", sum := "e81c3b1d50257afd69b418bf705fd046a39043c14b09f43dacf16a3e8cfba206", func := "chartroom/chartroomlaw38.EnrollExact", spec := "enrollExact", inPlace := ["internal/reflectlite.ValueOf", "(internal/reflectlite.Value).Type", "(internal/reflectlite.Value).IsNil", "internal/reflectlite.TypeOf", "(internal/reflectlite.Value).Elem", "(internal/reflectlite.Value).Set"], unfollowed := true, recurses := true, named := ["math/bits.divideError", "math/bits.overflowError", "chartroom/digest.start", "chartroom/digest.numbers", "errors.errorType"], apart := false, laid := [("errors.errorType", laid_errors_errorType), ("chartroom/digest.start", laid_chartroom_digest_start), ("chartroom/digest.numbers", laid_chartroom_digest_numbers)], narrowed := true }
def EnrollExactUptoSaid : Prop := enrollExactUptoRow.holds Tryz.pinned (OpenSpec.upto enrollExactSpec)

/-- 'chartroomlaw38.EnrollOthers', WHERE WHAT IT READS IS OF BULK AT MOST 1048576: true; the input reads as it did. -/
def enrollOthersUptoRow : OpenClaim := { program := "ytpekhdahamloaaagreatdoor", sum := "e81c3b1d50257afd69b418bf705fd046a39043c14b09f43dacf16a3e8cfba206", func := "chartroom/chartroomlaw38.EnrollOthers", spec := "enrollOthers", inPlace := ["internal/reflectlite.ValueOf", "(internal/reflectlite.Value).Type", "(internal/reflectlite.Value).IsNil", "internal/reflectlite.TypeOf", "(internal/reflectlite.Value).Elem", "(internal/reflectlite.Value).Set"], unfollowed := true, recurses := true, named := ["math/bits.divideError", "math/bits.overflowError", "chartroom/digest.start", "chartroom/digest.numbers", "errors.errorType"], apart := false, laid := [("errors.errorType", laid_errors_errorType), ("chartroom/digest.start", laid_chartroom_digest_start), ("chartroom/digest.numbers", laid_chartroom_digest_numbers)], narrowed := true }
def EnrollOthersUptoSaid : Prop := enrollOthersUptoRow.holds Tryz.pinned (OpenSpec.upto enrollOthersSpec)

/-- 'chartroomlaw38.EnrollAgrees', WHERE WHAT IT READS IS OF BULK AT MOST 1048576: true; the input reads as it did. -/
def enrollAgreesUptoRow : OpenClaim := { program := "ytpekhdahamloaaagreatdoor", sum := "e81c3b1d50257afd69b418bf705fd046a39043c14b09f43dacf16a3e8cfba206", func := "chartroom/chartroomlaw38.EnrollAgrees", spec := "enrollAgrees", inPlace := ["internal/reflectlite.ValueOf", "(internal/reflectlite.Value).Type", "(internal/reflectlite.Value).IsNil", "internal/reflectlite.TypeOf", "(internal/reflectlite.Value).Elem", "(internal/reflectlite.Value).Set"], unfollowed := true, recurses := true, named := ["math/bits.divideError", "math/bits.overflowError", "chartroom/digest.start", "chartroom/digest.numbers", "errors.errorType"], apart := false, laid := [("errors.errorType", laid_errors_errorType), ("chartroom/digest.start", laid_chartroom_digest_start), ("chartroom/digest.numbers", laid_chartroom_digest_numbers)], narrowed := true }
def EnrollAgreesUptoSaid : Prop := enrollAgreesUptoRow.holds Tryz.pinned (OpenSpec.upto enrollAgreesSpec)

end Rows
end Go.Proofs.YtpekhdahamloaaaGreatDoor
