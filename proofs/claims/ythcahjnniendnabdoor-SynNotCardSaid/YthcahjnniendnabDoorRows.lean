/-
  NARROWER THAN 'FOR EVERY INPUT', by the rows' own cells (each row's printed sentence says how): LitIs: laid · FeedIs: laid · MeanIs: laid · ClassIs: laid · SynNot: laid · ProgIs: laid · WordsIs: laid.
  DERIVED. THE GIVEN ROWS OF THIS SEAT. 7 by the template 'for every input the law returns true; each argument reads behind the call as it read before'; 0 by the template 'total and deterministic' (their statements: YthcahjnniendnabDoorTotals.lean).
  GIVEN WITH THE SEED: the statements are not yours to turn. If you find one false, say at which input.
  Laid BY PROGRAM, IN A SANDBOX (cutbox-rows.mjs): the forced cells as the released guide's own fill.sh prints them over the translation ce6075a109957c55… (all of the seat's roots in one cut). By AI agents, Wed Nov 11 2026. No macro, syntax, notation, axiom, sorry.
-/
import Derived.Test.YthcahjnniendnabDoorChecked
import GoSem.Claim
import GoSem.ClaimJoined
import GoSem.ClaimMapViews
import Derived.JoinedTies
import Derived.KernelRfl
namespace Go.Proofs.YthcahjnniendnabDoor
/- THE CELL 'sum', in the pinned program and in every row, IS THE sha256 OF THE DUMP (.gsa) THAT YthcahjnniendnabDoorProg.lean LOADS. Nothing in Lean hashes anything: it is a label: what it is worth is what the hold of that sum in a sandbox is worth. -/
noncomputable def Tryd.pinned : Pinned := { name := "ythcahjnniendnabdoor", sum := "ce6075a109957c55abcd0e116f2d85dd4c326954fa97ecbbdb07d4cdeed1d1b0", checked := Tryd.checked }
namespace Rows
def none {H : Type} : Left H := { results := [], args := [] }

/- WHAT THE LISTED PACKAGE-LEVEL VARIABLES READ AS WHEN THE CALL BEGINS. Each datum BY PROGRAM (the guide's laid-datum.mjs) off the statement by which the dump's own 'gosem.cut.vars' lays the variable. In a bare row this is a premise. The card (YthcahjnniendnabDoorCards.lean) ties it to the program's text. -/
def laid_errors_errorType {H : Type} : DataW H := .iface "internal/reflectlite.rtype" (.agg [.ptr (.lit (.string [101, 114, 114, 111, 114]))])
def laid_math_bits_deBruijn32tab {H : Type} : DataW H := .agg [.lit (.int .u8 0), .lit (.int .u8 1), .lit (.int .u8 28), .lit (.int .u8 2), .lit (.int .u8 29), .lit (.int .u8 14), .lit (.int .u8 24), .lit (.int .u8 3), .lit (.int .u8 30), .lit (.int .u8 22), .lit (.int .u8 20), .lit (.int .u8 15), .lit (.int .u8 25), .lit (.int .u8 17), .lit (.int .u8 4), .lit (.int .u8 8), .lit (.int .u8 31), .lit (.int .u8 27), .lit (.int .u8 13), .lit (.int .u8 23), .lit (.int .u8 21), .lit (.int .u8 19), .lit (.int .u8 16), .lit (.int .u8 7), .lit (.int .u8 26), .lit (.int .u8 12), .lit (.int .u8 18), .lit (.int .u8 6), .lit (.int .u8 11), .lit (.int .u8 5), .lit (.int .u8 10), .lit (.int .u8 9)]
def laid_math_bits_deBruijn64tab {H : Type} : DataW H := .agg [.lit (.int .u8 0), .lit (.int .u8 1), .lit (.int .u8 56), .lit (.int .u8 2), .lit (.int .u8 57), .lit (.int .u8 49), .lit (.int .u8 28), .lit (.int .u8 3), .lit (.int .u8 61), .lit (.int .u8 58), .lit (.int .u8 42), .lit (.int .u8 50), .lit (.int .u8 38), .lit (.int .u8 29), .lit (.int .u8 17), .lit (.int .u8 4), .lit (.int .u8 62), .lit (.int .u8 47), .lit (.int .u8 59), .lit (.int .u8 36), .lit (.int .u8 45), .lit (.int .u8 43), .lit (.int .u8 51), .lit (.int .u8 22), .lit (.int .u8 53), .lit (.int .u8 39), .lit (.int .u8 33), .lit (.int .u8 30), .lit (.int .u8 24), .lit (.int .u8 18), .lit (.int .u8 12), .lit (.int .u8 5), .lit (.int .u8 63), .lit (.int .u8 55), .lit (.int .u8 48), .lit (.int .u8 27), .lit (.int .u8 60), .lit (.int .u8 41), .lit (.int .u8 37), .lit (.int .u8 16), .lit (.int .u8 46), .lit (.int .u8 35), .lit (.int .u8 44), .lit (.int .u8 21), .lit (.int .u8 52), .lit (.int .u8 32), .lit (.int .u8 23), .lit (.int .u8 11), .lit (.int .u8 54), .lit (.int .u8 26), .lit (.int .u8 40), .lit (.int .u8 15), .lit (.int .u8 34), .lit (.int .u8 20), .lit (.int .u8 31), .lit (.int .u8 10), .lit (.int .u8 25), .lit (.int .u8 14), .lit (.int .u8 19), .lit (.int .u8 9), .lit (.int .u8 13), .lit (.int .u8 8), .lit (.int .u8 7), .lit (.int .u8 6)]
def laid_internal_strconv_uint64pow10 {H : Type} : DataW H := .agg [.lit (.int .u64 1), .lit (.int .u64 10), .lit (.int .u64 100), .lit (.int .u64 1000), .lit (.int .u64 10000), .lit (.int .u64 100000), .lit (.int .u64 1000000), .lit (.int .u64 10000000), .lit (.int .u64 100000000), .lit (.int .u64 1000000000), .lit (.int .u64 10000000000), .lit (.int .u64 100000000000), .lit (.int .u64 1000000000000), .lit (.int .u64 10000000000000), .lit (.int .u64 100000000000000), .lit (.int .u64 1000000000000000), .lit (.int .u64 10000000000000000), .lit (.int .u64 100000000000000000), .lit (.int .u64 1000000000000000000), .lit (.int .u64 10000000000000000000)]
def laid_strconv_ErrRange {H : Type} : DataW H := .iface "*errors.errorString" (.ptr (.agg [.lit (.string [118, 97, 108, 117, 101, 32, 111, 117, 116, 32, 111, 102, 32, 114, 97, 110, 103, 101])]))
def laid_strconv_ErrSyntax {H : Type} : DataW H := .iface "*errors.errorString" (.ptr (.agg [.lit (.string [105, 110, 118, 97, 108, 105, 100, 32, 115, 121, 110, 116, 97, 120])]))

/-- 'winnowfanlaw2.LitIs': WHATEVER THE INPUT: true; the input reads as it did. -/
def litIsSpec : ChangeSpec := { name := "litIs", fn := fun _ => fun
  | [d] => { results := [.lit (.bool true)], args := [d] }
  | _ => none }
def litIsRow : OpenClaim := { program := "ythcahjnniendnabdoor", sum := "ce6075a109957c55abcd0e116f2d85dd4c326954fa97ecbbdb07d4cdeed1d1b0", func := "winnowfan/winnowfanlaw2.LitIs", spec := "litIs", inPlace := ["internal/reflectlite.ValueOf", "(internal/reflectlite.Value).Type", "(internal/reflectlite.Value).IsNil", "internal/reflectlite.TypeOf", "(internal/reflectlite.Value).Elem", "(internal/reflectlite.Value).Set"], unfollowed := true, recurses := true, named := ["errors.errorType"], plainKeys := false, apart := false, laid := [("errors.errorType", laid_errors_errorType)] }
def LitIsSaid : Prop := litIsRow.holds Tryd.pinned (OpenSpec.ofChange litIsSpec)

/-- ITS FALSE NEIGHBOUR: 'it returns false'. Refute it at one input. -/
def litIsWrong : ChangeSpec := { name := "litIs", fn := fun _ => fun
  | [d] => { results := [.lit (.bool false)], args := [d] }
  | _ => none }
def LitIsWrongFalsely : Prop := litIsRow.holds Tryd.pinned (OpenSpec.ofChange litIsWrong)

/-- 'winnowfanlaw3.FeedIs': WHATEVER THE INPUT: true; the input reads as it did. -/
def feedIsSpec : ChangeSpec := { name := "feedIs", fn := fun _ => fun
  | [d1, d2] => { results := [.lit (.bool true)], args := [d1, d2] }
  | _ => none }
def feedIsRow : OpenClaim := { program := "ythcahjnniendnabdoor", sum := "ce6075a109957c55abcd0e116f2d85dd4c326954fa97ecbbdb07d4cdeed1d1b0", func := "winnowfan/winnowfanlaw3.FeedIs", spec := "feedIs", inPlace := ["internal/reflectlite.ValueOf", "(internal/reflectlite.Value).Type", "(internal/reflectlite.Value).IsNil", "internal/reflectlite.TypeOf", "(internal/reflectlite.Value).Elem", "(internal/reflectlite.Value).Set"], unfollowed := true, recurses := true, named := ["errors.errorType"], plainKeys := false, apart := false, laid := [("errors.errorType", laid_errors_errorType)] }
def FeedIsSaid : Prop := feedIsRow.holds Tryd.pinned (OpenSpec.ofChange feedIsSpec)

/-- ITS FALSE NEIGHBOUR: 'it returns false'. Refute it at one input. -/
def feedIsWrong : ChangeSpec := { name := "feedIs", fn := fun _ => fun
  | [d1, d2] => { results := [.lit (.bool false)], args := [d1, d2] }
  | _ => none }
def FeedIsWrongFalsely : Prop := feedIsRow.holds Tryd.pinned (OpenSpec.ofChange feedIsWrong)

/-- 'winnowfanlaw1.MeanIs': WHATEVER THE INPUT: true; the input reads as it did. -/
def meanIsSpec : ChangeSpec := { name := "meanIs", fn := fun _ => fun
  | [d1, d2, d3] => { results := [.lit (.bool true)], args := [d1, d2, d3] }
  | _ => none }
def meanIsRow : OpenClaim := { program := "ythcahjnniendnabdoor", sum := "ce6075a109957c55abcd0e116f2d85dd4c326954fa97ecbbdb07d4cdeed1d1b0", func := "winnowfan/winnowfanlaw1.MeanIs", spec := "meanIs", inPlace := ["internal/reflectlite.ValueOf", "(internal/reflectlite.Value).Type", "(internal/reflectlite.Value).IsNil", "internal/reflectlite.TypeOf", "(internal/reflectlite.Value).Elem", "(internal/reflectlite.Value).Set"], unfollowed := true, recurses := true, named := ["errors.errorType"], plainKeys := false, apart := false, laid := [("errors.errorType", laid_errors_errorType)] }
def MeanIsSaid : Prop := meanIsRow.holds Tryd.pinned (OpenSpec.ofChange meanIsSpec)

/-- ITS FALSE NEIGHBOUR: 'it returns false'. Refute it at one input. -/
def meanIsWrong : ChangeSpec := { name := "meanIs", fn := fun _ => fun
  | [d1, d2, d3] => { results := [.lit (.bool false)], args := [d1, d2, d3] }
  | _ => none }
def MeanIsWrongFalsely : Prop := meanIsRow.holds Tryd.pinned (OpenSpec.ofChange meanIsWrong)

/-- 'winnowfanlaw1.ClassIs': WHATEVER THE INPUT: true; the input reads as it did. -/
def classIsSpec : ChangeSpec := { name := "classIs", fn := fun _ => fun
  | [d1, d2, d3, d4, d5] => { results := [.lit (.bool true)], args := [d1, d2, d3, d4, d5] }
  | _ => none }
def classIsRow : OpenClaim := { program := "ythcahjnniendnabdoor", sum := "ce6075a109957c55abcd0e116f2d85dd4c326954fa97ecbbdb07d4cdeed1d1b0", func := "winnowfan/winnowfanlaw1.ClassIs", spec := "classIs", inPlace := ["internal/reflectlite.ValueOf", "(internal/reflectlite.Value).Type", "(internal/reflectlite.Value).IsNil", "internal/reflectlite.TypeOf", "(internal/reflectlite.Value).Elem", "(internal/reflectlite.Value).Set", "internal/bytealg.IndexByteString", "internal/abi.NoEscape"], unfollowed := true, recurses := true, named := ["errors.errorType"], plainKeys := false, apart := false, laid := [("errors.errorType", laid_errors_errorType)] }
def ClassIsSaid : Prop := classIsRow.holds Tryd.pinned (OpenSpec.ofChange classIsSpec)

/-- ITS FALSE NEIGHBOUR: 'it returns false'. Refute it at one input. -/
def classIsWrong : ChangeSpec := { name := "classIs", fn := fun _ => fun
  | [d1, d2, d3, d4, d5] => { results := [.lit (.bool false)], args := [d1, d2, d3, d4, d5] }
  | _ => none }
def ClassIsWrongFalsely : Prop := classIsRow.holds Tryd.pinned (OpenSpec.ofChange classIsWrong)

/-- 'winnowfanlaw1.SynNot': WHATEVER THE INPUT: true; the input reads as it did. -/
def synNotSpec : ChangeSpec := { name := "synNot", fn := fun _ => fun
  | [d1, d2] => { results := [.lit (.bool true)], args := [d1, d2] }
  | _ => none }
def synNotRow : OpenClaim := { program := "ythcahjnniendnabdoor", sum := "ce6075a109957c55abcd0e116f2d85dd4c326954fa97ecbbdb07d4cdeed1d1b0", func := "winnowfan/winnowfanlaw1.SynNot", spec := "synNot", inPlace := ["internal/bytealg.IndexByteString"], unfollowed := true, recurses := true, named := ["strconv.ErrSyntax", "strconv.ErrRange", "internal/strconv.uint64pow10", "math/bits.deBruijn32tab", "math/bits.deBruijn64tab"], plainKeys := false, apart := false, laid := [("math/bits.deBruijn32tab", laid_math_bits_deBruijn32tab), ("math/bits.deBruijn64tab", laid_math_bits_deBruijn64tab), ("internal/strconv.uint64pow10", laid_internal_strconv_uint64pow10), ("strconv.ErrRange", laid_strconv_ErrRange), ("strconv.ErrSyntax", laid_strconv_ErrSyntax)] }
def SynNotSaid : Prop := synNotRow.holds Tryd.pinned (OpenSpec.ofChange synNotSpec)

/-- ITS FALSE NEIGHBOUR: 'it returns false'. Refute it at one input. -/
def synNotWrong : ChangeSpec := { name := "synNot", fn := fun _ => fun
  | [d1, d2] => { results := [.lit (.bool false)], args := [d1, d2] }
  | _ => none }
def SynNotWrongFalsely : Prop := synNotRow.holds Tryd.pinned (OpenSpec.ofChange synNotWrong)

/-- 'winnowfanlaw2.ProgIs': WHATEVER THE INPUT: true; the input reads as it did. -/
def progIsSpec : ChangeSpec := { name := "progIs", fn := fun _ => fun
  | [d1, d2] => { results := [.lit (.bool true)], args := [d1, d2] }
  | _ => none }
def progIsRow : OpenClaim := { program := "ythcahjnniendnabdoor", sum := "ce6075a109957c55abcd0e116f2d85dd4c326954fa97ecbbdb07d4cdeed1d1b0", func := "winnowfan/winnowfanlaw2.ProgIs", spec := "progIs", inPlace := ["internal/reflectlite.ValueOf", "(internal/reflectlite.Value).Type", "(internal/reflectlite.Value).IsNil", "internal/reflectlite.TypeOf", "(internal/reflectlite.Value).Elem", "(internal/reflectlite.Value).Set", "internal/bytealg.IndexByteString", "internal/abi.NoEscape"], unfollowed := true, recurses := true, named := ["errors.errorType", "internal/strconv.uint64pow10", "math/bits.deBruijn32tab", "math/bits.deBruijn64tab"], plainKeys := false, apart := false, laid := [("math/bits.deBruijn32tab", laid_math_bits_deBruijn32tab), ("math/bits.deBruijn64tab", laid_math_bits_deBruijn64tab), ("internal/strconv.uint64pow10", laid_internal_strconv_uint64pow10), ("errors.errorType", laid_errors_errorType)] }
def ProgIsSaid : Prop := progIsRow.holds Tryd.pinned (OpenSpec.ofChange progIsSpec)

/-- ITS FALSE NEIGHBOUR: 'it returns false'. Refute it at one input. -/
def progIsWrong : ChangeSpec := { name := "progIs", fn := fun _ => fun
  | [d1, d2] => { results := [.lit (.bool false)], args := [d1, d2] }
  | _ => none }
def ProgIsWrongFalsely : Prop := progIsRow.holds Tryd.pinned (OpenSpec.ofChange progIsWrong)

/-- 'winnowfanlaw2.WordsIs': WHATEVER THE INPUT: true; the input reads as it did. -/
def wordsIsSpec : ChangeSpec := { name := "wordsIs", fn := fun _ => fun
  | [d1, d2] => { results := [.lit (.bool true)], args := [d1, d2] }
  | _ => none }
def wordsIsRow : OpenClaim := { program := "ythcahjnniendnabdoor", sum := "ce6075a109957c55abcd0e116f2d85dd4c326954fa97ecbbdb07d4cdeed1d1b0", func := "winnowfan/winnowfanlaw2.WordsIs", spec := "wordsIs", inPlace := ["internal/reflectlite.ValueOf", "(internal/reflectlite.Value).Type", "(internal/reflectlite.Value).IsNil", "internal/reflectlite.TypeOf", "(internal/reflectlite.Value).Elem", "(internal/reflectlite.Value).Set"], unfollowed := true, recurses := true, named := ["errors.errorType"], plainKeys := false, apart := false, laid := [("errors.errorType", laid_errors_errorType)] }
def WordsIsSaid : Prop := wordsIsRow.holds Tryd.pinned (OpenSpec.ofChange wordsIsSpec)

/-- ITS FALSE NEIGHBOUR: 'it returns false'. Refute it at one input. -/
def wordsIsWrong : ChangeSpec := { name := "wordsIs", fn := fun _ => fun
  | [d1, d2] => { results := [.lit (.bool false)], args := [d1, d2] }
  | _ => none }
def WordsIsWrongFalsely : Prop := wordsIsRow.holds Tryd.pinned (OpenSpec.ofChange wordsIsWrong)

/- THE SECOND FORM. 'bulk': how many values and letters a reading holds, each counted each time it is reached (what is shared counts as often as it is met; a slice's spare places count too). A statement '..UptoSaid' is the law's where the arguments, and the package variables that the reading takes, are together of bulk at most 1048576: NARROWER than '..Said'. Prove '..Said' where nothing that the law and all that it calls make is longer than what came in: it says more and counts as full. Else prove '..UptoSaid'. A law counts once. -/
mutual
def uptoBulk {H : Type} : DataW H → Nat
  | .lit (.string bytes) => bytes.length + 1
  | .lit _ => 1
  | .nil => 1
  | .ptr d => uptoBulk d + 1
  | .slice elems spare => uptoBulkAll elems + uptoBulkAll spare + 1
  | .agg parts => uptoBulkAll parts + 1
  | .iface _ d => uptoBulk d + 1
  | .map entries => uptoBulkEntries entries + 1
  | .held _ => 1
def uptoBulkAll {H : Type} : List (DataW H) → Nat
  | [] => 0
  | d :: r => uptoBulk d + uptoBulkAll r
def uptoBulkEntries {H : Type} : List (Lit × DataW H) → Nat
  | [] => 0
  | x :: r => uptoBulkEntry x + uptoBulkEntries r
def uptoBulkEntry {H : Type} : Lit × DataW H → Nat
  | (.string bytes, d) => bytes.length + uptoBulk d + 1
  | (_, d) => uptoBulk d + 1
 end
def uptoSmall : (H : Type) → List (DataW H) → Bool := fun _ ds => decide (uptoBulkAll ds ≤ 1048576)
def OpenSpec.upto (s : _root_.Go.ChangeSpec) : _root_.Go.OpenSpec := { _root_.Go.OpenSpec.ofChange s with cond := some uptoSmall }

/-- 'winnowfanlaw2.LitIs', WHERE WHAT IT READS IS OF BULK AT MOST 1048576: true; the input reads as it did. -/
def litIsUptoRow : OpenClaim := { program := "ythcahjnniendnabdoor", sum := "ce6075a109957c55abcd0e116f2d85dd4c326954fa97ecbbdb07d4cdeed1d1b0", func := "winnowfan/winnowfanlaw2.LitIs", spec := "litIs", inPlace := ["internal/reflectlite.ValueOf", "(internal/reflectlite.Value).Type", "(internal/reflectlite.Value).IsNil", "internal/reflectlite.TypeOf", "(internal/reflectlite.Value).Elem", "(internal/reflectlite.Value).Set"], unfollowed := true, recurses := true, named := ["errors.errorType"], plainKeys := false, apart := false, laid := [("errors.errorType", laid_errors_errorType)], narrowed := true }
def LitIsUptoSaid : Prop := litIsUptoRow.holds Tryd.pinned (OpenSpec.upto litIsSpec)

/-- 'winnowfanlaw3.FeedIs', WHERE WHAT IT READS IS OF BULK AT MOST 1048576: true; the input reads as it did. -/
def feedIsUptoRow : OpenClaim := { program := "ythcahjnniendnabdoor", sum := "ce6075a109957c55abcd0e116f2d85dd4c326954fa97ecbbdb07d4cdeed1d1b0", func := "winnowfan/winnowfanlaw3.FeedIs", spec := "feedIs", inPlace := ["internal/reflectlite.ValueOf", "(internal/reflectlite.Value).Type", "(internal/reflectlite.Value).IsNil", "internal/reflectlite.TypeOf", "(internal/reflectlite.Value).Elem", "(internal/reflectlite.Value).Set"], unfollowed := true, recurses := true, named := ["errors.errorType"], plainKeys := false, apart := false, laid := [("errors.errorType", laid_errors_errorType)], narrowed := true }
def FeedIsUptoSaid : Prop := feedIsUptoRow.holds Tryd.pinned (OpenSpec.upto feedIsSpec)

/-- 'winnowfanlaw1.MeanIs', WHERE WHAT IT READS IS OF BULK AT MOST 1048576: true; the input reads as it did. -/
def meanIsUptoRow : OpenClaim := { program := "ythcahjnniendnabdoor", sum := "ce6075a109957c55abcd0e116f2d85dd4c326954fa97ecbbdb07d4cdeed1d1b0", func := "winnowfan/winnowfanlaw1.MeanIs", spec := "meanIs", inPlace := ["internal/reflectlite.ValueOf", "(internal/reflectlite.Value).Type", "(internal/reflectlite.Value).IsNil", "internal/reflectlite.TypeOf", "(internal/reflectlite.Value).Elem", "(internal/reflectlite.Value).Set"], unfollowed := true, recurses := true, named := ["errors.errorType"], plainKeys := false, apart := false, laid := [("errors.errorType", laid_errors_errorType)], narrowed := true }
def MeanIsUptoSaid : Prop := meanIsUptoRow.holds Tryd.pinned (OpenSpec.upto meanIsSpec)

/-- 'winnowfanlaw1.ClassIs', WHERE WHAT IT READS IS OF BULK AT MOST 1048576: true; the input reads as it did. -/
def classIsUptoRow : OpenClaim := { program := "ythcahjnniendnabdoor", sum := "ce6075a109957c55abcd0e116f2d85dd4c326954fa97ecbbdb07d4cdeed1d1b0", func := "winnowfan/winnowfanlaw1.ClassIs", spec := "classIs", inPlace := ["internal/reflectlite.ValueOf", "(internal/reflectlite.Value).Type", "(internal/reflectlite.Value).IsNil", "internal/reflectlite.TypeOf", "(internal/reflectlite.Value).Elem", "(internal/reflectlite.Value).Set", "internal/bytealg.IndexByteString", "internal/abi.NoEscape"], unfollowed := true, recurses := true, named := ["errors.errorType"], plainKeys := false, apart := false, laid := [("errors.errorType", laid_errors_errorType)], narrowed := true }
def ClassIsUptoSaid : Prop := classIsUptoRow.holds Tryd.pinned (OpenSpec.upto classIsSpec)

/-- 'winnowfanlaw1.SynNot', WHERE WHAT IT READS IS OF BULK AT MOST 1048576: true; the input reads as it did. -/
def synNotUptoRow : OpenClaim := { program := "ythcahjnniendnabdoor", sum := "ce6075a109957c55abcd0e116f2d85dd4c326954fa97ecbbdb07d4cdeed1d1b0", func := "winnowfan/winnowfanlaw1.SynNot", spec := "synNot", inPlace := ["internal/bytealg.IndexByteString"], unfollowed := true, recurses := true, named := ["strconv.ErrSyntax", "strconv.ErrRange", "internal/strconv.uint64pow10", "math/bits.deBruijn32tab", "math/bits.deBruijn64tab"], plainKeys := false, apart := false, laid := [("math/bits.deBruijn32tab", laid_math_bits_deBruijn32tab), ("math/bits.deBruijn64tab", laid_math_bits_deBruijn64tab), ("internal/strconv.uint64pow10", laid_internal_strconv_uint64pow10), ("strconv.ErrRange", laid_strconv_ErrRange), ("strconv.ErrSyntax", laid_strconv_ErrSyntax)], narrowed := true }
def SynNotUptoSaid : Prop := synNotUptoRow.holds Tryd.pinned (OpenSpec.upto synNotSpec)

/-- 'winnowfanlaw2.ProgIs', WHERE WHAT IT READS IS OF BULK AT MOST 1048576: true; the input reads as it did. -/
def progIsUptoRow : OpenClaim := { program := "ythcahjnniendnabdoor", sum := "ce6075a109957c55abcd0e116f2d85dd4c326954fa97ecbbdb07d4cdeed1d1b0", func := "winnowfan/winnowfanlaw2.ProgIs", spec := "progIs", inPlace := ["internal/reflectlite.ValueOf", "(internal/reflectlite.Value).Type", "(internal/reflectlite.Value).IsNil", "internal/reflectlite.TypeOf", "(internal/reflectlite.Value).Elem", "(internal/reflectlite.Value).Set", "internal/bytealg.IndexByteString", "internal/abi.NoEscape"], unfollowed := true, recurses := true, named := ["errors.errorType", "internal/strconv.uint64pow10", "math/bits.deBruijn32tab", "math/bits.deBruijn64tab"], plainKeys := false, apart := false, laid := [("math/bits.deBruijn32tab", laid_math_bits_deBruijn32tab), ("math/bits.deBruijn64tab", laid_math_bits_deBruijn64tab), ("internal/strconv.uint64pow10", laid_internal_strconv_uint64pow10), ("errors.errorType", laid_errors_errorType)], narrowed := true }
def ProgIsUptoSaid : Prop := progIsUptoRow.holds Tryd.pinned (OpenSpec.upto progIsSpec)

/-- 'winnowfanlaw2.WordsIs', WHERE WHAT IT READS IS OF BULK AT MOST 1048576: true; the input reads as it did. -/
def wordsIsUptoRow : OpenClaim := { program := "ythcahjnniendnabdoor", sum := "ce6075a109957c55abcd0e116f2d85dd4c326954fa97ecbbdb07d4cdeed1d1b0", func := "winnowfan/winnowfanlaw2.WordsIs", spec := "wordsIs", inPlace := ["internal/reflectlite.ValueOf", "(internal/reflectlite.Value).Type", "(internal/reflectlite.Value).IsNil", "internal/reflectlite.TypeOf", "(internal/reflectlite.Value).Elem", "(internal/reflectlite.Value).Set"], unfollowed := true, recurses := true, named := ["errors.errorType"], plainKeys := false, apart := false, laid := [("errors.errorType", laid_errors_errorType)], narrowed := true }
def WordsIsUptoSaid : Prop := wordsIsUptoRow.holds Tryd.pinned (OpenSpec.upto wordsIsSpec)

end Rows
end Go.Proofs.YthcahjnniendnabDoor
