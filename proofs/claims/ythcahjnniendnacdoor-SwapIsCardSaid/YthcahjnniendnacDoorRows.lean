/-
  NARROWER THAN 'FOR EVERY INPUT', by the rows' own cells (each row's printed sentence says how): AutoSame: laid · FindLater: laid · FindIs: laid · FindAll: laid · SwapIs: laid · FindFirst: laid.
  DERIVED. THE GIVEN ROWS OF THIS SEAT. 6 by the template 'for every input the law returns true; each argument reads behind the call as it read before'; 0 by the template 'total and deterministic' (their statements: YthcahjnniendnacDoorTotals.lean).
  GIVEN WITH THE SEED: the statements are not yours to turn. If you find one false, say at which input.
  Laid BY PROGRAM, IN A SANDBOX (cutbox-rows.mjs): the forced cells as the released guide's own fill.sh prints them over the translation adc76f338a5103b4… (all of the seat's roots in one cut). By AI agents, Wed Nov 11 2026. No macro, syntax, notation, axiom, sorry.
-/
import Derived.Test.YthcahjnniendnacDoorChecked
import GoSem.Claim
import GoSem.ClaimJoined
import GoSem.ClaimMapViews
import Derived.JoinedTies
import Derived.KernelRfl
namespace Go.Proofs.YthcahjnniendnacDoor
/- THE CELL 'sum', in the pinned program and in every row, IS THE sha256 OF THE DUMP (.gsa) THAT YthcahjnniendnacDoorProg.lean LOADS. Nothing in Lean hashes anything: it is a label: what it is worth is what the hold of that sum in a sandbox is worth. -/
noncomputable def Tryd.pinned : Pinned := { name := "ythcahjnniendnacdoor", sum := "adc76f338a5103b4b48215cd9aefdf7e05513b464f567c842e069b776039a2b5", checked := Tryd.checked }
namespace Rows
def none {H : Type} : Left H := { results := [], args := [] }

/- WHAT THE LISTED PACKAGE-LEVEL VARIABLES READ AS WHEN THE CALL BEGINS. Each datum BY PROGRAM (the guide's laid-datum.mjs) off the statement by which the dump's own 'gosem.cut.vars' lays the variable. In a bare row this is a premise. The card (YthcahjnniendnacDoorCards.lean) ties it to the program's text. -/
def laid_errors_errorType {H : Type} : DataW H := .iface "internal/reflectlite.rtype" (.agg [.ptr (.lit (.string [101, 114, 114, 111, 114]))])

/-- 'winnowfanlaw2.AutoSame': WHATEVER THE INPUT: true; the input reads as it did. -/
def autoSameSpec : ChangeSpec := { name := "autoSame", fn := fun _ => fun
  | [d1, d2, d3] => { results := [.lit (.bool true)], args := [d1, d2, d3] }
  | _ => none }
def autoSameRow : OpenClaim := { program := "ythcahjnniendnacdoor", sum := "adc76f338a5103b4b48215cd9aefdf7e05513b464f567c842e069b776039a2b5", func := "winnowfan/winnowfanlaw2.AutoSame", spec := "autoSame", inPlace := ["internal/reflectlite.ValueOf", "(internal/reflectlite.Value).Type", "(internal/reflectlite.Value).IsNil", "internal/reflectlite.TypeOf", "(internal/reflectlite.Value).Elem", "(internal/reflectlite.Value).Set"], unfollowed := true, recurses := true, named := ["errors.errorType"], plainKeys := false, apart := false, laid := [("errors.errorType", laid_errors_errorType)] }
def AutoSameSaid : Prop := autoSameRow.holds Tryd.pinned (OpenSpec.ofChange autoSameSpec)

/-- ITS FALSE NEIGHBOUR: 'it returns false'. Refute it at one input. -/
def autoSameWrong : ChangeSpec := { name := "autoSame", fn := fun _ => fun
  | [d1, d2, d3] => { results := [.lit (.bool false)], args := [d1, d2, d3] }
  | _ => none }
def AutoSameWrongFalsely : Prop := autoSameRow.holds Tryd.pinned (OpenSpec.ofChange autoSameWrong)

/-- 'winnowfanlaw2.FindLater': WHATEVER THE INPUT: true; the input reads as it did. -/
def findLaterSpec : ChangeSpec := { name := "findLater", fn := fun _ => fun
  | [d1, d2, d3, d4] => { results := [.lit (.bool true)], args := [d1, d2, d3, d4] }
  | _ => none }
def findLaterRow : OpenClaim := { program := "ythcahjnniendnacdoor", sum := "adc76f338a5103b4b48215cd9aefdf7e05513b464f567c842e069b776039a2b5", func := "winnowfan/winnowfanlaw2.FindLater", spec := "findLater", inPlace := ["internal/reflectlite.ValueOf", "(internal/reflectlite.Value).Type", "(internal/reflectlite.Value).IsNil", "internal/reflectlite.TypeOf", "(internal/reflectlite.Value).Elem", "(internal/reflectlite.Value).Set"], unfollowed := true, recurses := true, named := ["errors.errorType"], plainKeys := false, apart := false, laid := [("errors.errorType", laid_errors_errorType)] }
def FindLaterSaid : Prop := findLaterRow.holds Tryd.pinned (OpenSpec.ofChange findLaterSpec)

/-- ITS FALSE NEIGHBOUR: 'it returns false'. Refute it at one input. -/
def findLaterWrong : ChangeSpec := { name := "findLater", fn := fun _ => fun
  | [d1, d2, d3, d4] => { results := [.lit (.bool false)], args := [d1, d2, d3, d4] }
  | _ => none }
def FindLaterWrongFalsely : Prop := findLaterRow.holds Tryd.pinned (OpenSpec.ofChange findLaterWrong)

/-- 'winnowfanlaw2.FindIs': WHATEVER THE INPUT: true; the input reads as it did. -/
def findIsSpec : ChangeSpec := { name := "findIs", fn := fun _ => fun
  | [d1, d2, d3] => { results := [.lit (.bool true)], args := [d1, d2, d3] }
  | _ => none }
def findIsRow : OpenClaim := { program := "ythcahjnniendnacdoor", sum := "adc76f338a5103b4b48215cd9aefdf7e05513b464f567c842e069b776039a2b5", func := "winnowfan/winnowfanlaw2.FindIs", spec := "findIs", inPlace := ["internal/reflectlite.ValueOf", "(internal/reflectlite.Value).Type", "(internal/reflectlite.Value).IsNil", "internal/reflectlite.TypeOf", "(internal/reflectlite.Value).Elem", "(internal/reflectlite.Value).Set"], unfollowed := true, recurses := true, named := ["errors.errorType"], plainKeys := false, apart := false, laid := [("errors.errorType", laid_errors_errorType)] }
def FindIsSaid : Prop := findIsRow.holds Tryd.pinned (OpenSpec.ofChange findIsSpec)

/-- ITS FALSE NEIGHBOUR: 'it returns false'. Refute it at one input. -/
def findIsWrong : ChangeSpec := { name := "findIs", fn := fun _ => fun
  | [d1, d2, d3] => { results := [.lit (.bool false)], args := [d1, d2, d3] }
  | _ => none }
def FindIsWrongFalsely : Prop := findIsRow.holds Tryd.pinned (OpenSpec.ofChange findIsWrong)

/-- 'winnowfanlaw2.FindAll': WHATEVER THE INPUT: true; the input reads as it did. -/
def findAllSpec : ChangeSpec := { name := "findAll", fn := fun _ => fun
  | [d1, d2] => { results := [.lit (.bool true)], args := [d1, d2] }
  | _ => none }
def findAllRow : OpenClaim := { program := "ythcahjnniendnacdoor", sum := "adc76f338a5103b4b48215cd9aefdf7e05513b464f567c842e069b776039a2b5", func := "winnowfan/winnowfanlaw2.FindAll", spec := "findAll", inPlace := ["internal/reflectlite.ValueOf", "(internal/reflectlite.Value).Type", "(internal/reflectlite.Value).IsNil", "internal/reflectlite.TypeOf", "(internal/reflectlite.Value).Elem", "(internal/reflectlite.Value).Set"], unfollowed := true, recurses := true, named := ["errors.errorType"], plainKeys := false, apart := false, laid := [("errors.errorType", laid_errors_errorType)] }
def FindAllSaid : Prop := findAllRow.holds Tryd.pinned (OpenSpec.ofChange findAllSpec)

/-- ITS FALSE NEIGHBOUR: 'it returns false'. Refute it at one input. -/
def findAllWrong : ChangeSpec := { name := "findAll", fn := fun _ => fun
  | [d1, d2] => { results := [.lit (.bool false)], args := [d1, d2] }
  | _ => none }
def FindAllWrongFalsely : Prop := findAllRow.holds Tryd.pinned (OpenSpec.ofChange findAllWrong)

/-- 'winnowfanlaw3.SwapIs': WHATEVER THE INPUT: true; the input reads as it did. -/
def swapIsSpec : ChangeSpec := { name := "swapIs", fn := fun _ => fun
  | [d1, d2, d3] => { results := [.lit (.bool true)], args := [d1, d2, d3] }
  | _ => none }
def swapIsRow : OpenClaim := { program := "ythcahjnniendnacdoor", sum := "adc76f338a5103b4b48215cd9aefdf7e05513b464f567c842e069b776039a2b5", func := "winnowfan/winnowfanlaw3.SwapIs", spec := "swapIs", inPlace := ["internal/reflectlite.ValueOf", "(internal/reflectlite.Value).Type", "(internal/reflectlite.Value).IsNil", "internal/reflectlite.TypeOf", "(internal/reflectlite.Value).Elem", "(internal/reflectlite.Value).Set", "internal/abi.NoEscape", "internal/bytealg.MakeNoZero"], unfollowed := true, recurses := true, named := ["errors.errorType"], plainKeys := false, apart := false, laid := [("errors.errorType", laid_errors_errorType)] }
def SwapIsSaid : Prop := swapIsRow.holds Tryd.pinned (OpenSpec.ofChange swapIsSpec)

/-- ITS FALSE NEIGHBOUR: 'it returns false'. Refute it at one input. -/
def swapIsWrong : ChangeSpec := { name := "swapIs", fn := fun _ => fun
  | [d1, d2, d3] => { results := [.lit (.bool false)], args := [d1, d2, d3] }
  | _ => none }
def SwapIsWrongFalsely : Prop := swapIsRow.holds Tryd.pinned (OpenSpec.ofChange swapIsWrong)

/-- 'winnowfanlaw2.FindFirst': WHATEVER THE INPUT: true; the input reads as it did. -/
def findFirstSpec : ChangeSpec := { name := "findFirst", fn := fun _ => fun
  | [d1, d2, d3] => { results := [.lit (.bool true)], args := [d1, d2, d3] }
  | _ => none }
def findFirstRow : OpenClaim := { program := "ythcahjnniendnacdoor", sum := "adc76f338a5103b4b48215cd9aefdf7e05513b464f567c842e069b776039a2b5", func := "winnowfan/winnowfanlaw2.FindFirst", spec := "findFirst", inPlace := ["internal/reflectlite.ValueOf", "(internal/reflectlite.Value).Type", "(internal/reflectlite.Value).IsNil", "internal/reflectlite.TypeOf", "(internal/reflectlite.Value).Elem", "(internal/reflectlite.Value).Set"], unfollowed := true, recurses := true, named := ["errors.errorType"], plainKeys := false, apart := false, laid := [("errors.errorType", laid_errors_errorType)] }
def FindFirstSaid : Prop := findFirstRow.holds Tryd.pinned (OpenSpec.ofChange findFirstSpec)

/-- ITS FALSE NEIGHBOUR: 'it returns false'. Refute it at one input. -/
def findFirstWrong : ChangeSpec := { name := "findFirst", fn := fun _ => fun
  | [d1, d2, d3] => { results := [.lit (.bool false)], args := [d1, d2, d3] }
  | _ => none }
def FindFirstWrongFalsely : Prop := findFirstRow.holds Tryd.pinned (OpenSpec.ofChange findFirstWrong)

/- THE SECOND FORM. 'bulk': how many values and letters a reading holds, each counted each time it is reached (what is shared counts as often as it is met; a slice's spare places count too). A statement '..UptoSaid' is the law's where the arguments, and the package variables that the reading takes, are together of bulk at most 1048576: NARROWER than '..Said'. Prove '..Said' where nothing that the law and all that it calls make is longer than what came in: it says more and counts as full. Else prove '..UptoSaid'. A law counts once. -/
mutual
def uptoBulk {H : Type} : DataW H → Nat
  | .lit (.string bytes) => bytes.length + 1
  | .lit _ => 1
  | .nil => 1
  | .ptr d => uptoBulk d + 1
  | .slice elems spare => uptoBulkAll elems + uptoBulkAll spare + 1
  | .agg parts => uptoBulkAll parts + 1
  | .iface _ d => uptoBulk d + 1
  | .map entries => uptoBulkEntries entries + 1
  | .held _ => 1
def uptoBulkAll {H : Type} : List (DataW H) → Nat
  | [] => 0
  | d :: r => uptoBulk d + uptoBulkAll r
def uptoBulkEntries {H : Type} : List (Lit × DataW H) → Nat
  | [] => 0
  | x :: r => uptoBulkEntry x + uptoBulkEntries r
def uptoBulkEntry {H : Type} : Lit × DataW H → Nat
  | (.string bytes, d) => bytes.length + uptoBulk d + 1
  | (_, d) => uptoBulk d + 1
 end
def uptoSmall : (H : Type) → List (DataW H) → Bool := fun _ ds => decide (uptoBulkAll ds ≤ 1048576)
def OpenSpec.upto (s : _root_.Go.ChangeSpec) : _root_.Go.OpenSpec := { _root_.Go.OpenSpec.ofChange s with cond := some uptoSmall }

/-- 'winnowfanlaw2.AutoSame', WHERE WHAT IT READS IS OF BULK AT MOST 1048576: true; the input reads as it did. -/
def autoSameUptoRow : OpenClaim := { program := "ythcahjnniendnacdoor", sum := "adc76f338a5103b4b48215cd9aefdf7e05513b464f567c842e069b776039a2b5", func := "winnowfan/winnowfanlaw2.AutoSame", spec := "autoSame", inPlace := ["internal/reflectlite.ValueOf", "(internal/reflectlite.Value).Type", "(internal/reflectlite.Value).IsNil", "internal/reflectlite.TypeOf", "(internal/reflectlite.Value).Elem", "(internal/reflectlite.Value).Set"], unfollowed := true, recurses := true, named := ["errors.errorType"], plainKeys := false, apart := false, laid := [("errors.errorType", laid_errors_errorType)], narrowed := true }
def AutoSameUptoSaid : Prop := autoSameUptoRow.holds Tryd.pinned (OpenSpec.upto autoSameSpec)

/-- 'winnowfanlaw2.FindLater', WHERE WHAT IT READS IS OF BULK AT MOST 1048576: true; the input reads as it did. -/
def findLaterUptoRow : OpenClaim := { program := "ythcahjnniendnacdoor", sum := "adc76f338a5103b4b48215cd9aefdf7e05513b464f567c842e069b776039a2b5", func := "winnowfan/winnowfanlaw2.FindLater", spec := "findLater", inPlace := ["internal/reflectlite.ValueOf", "(internal/reflectlite.Value).Type", "(internal/reflectlite.Value).IsNil", "internal/reflectlite.TypeOf", "(internal/reflectlite.Value).Elem", "(internal/reflectlite.Value).Set"], unfollowed := true, recurses := true, named := ["errors.errorType"], plainKeys := false, apart := false, laid := [("errors.errorType", laid_errors_errorType)], narrowed := true }
def FindLaterUptoSaid : Prop := findLaterUptoRow.holds Tryd.pinned (OpenSpec.upto findLaterSpec)

/-- 'winnowfanlaw2.FindIs', WHERE WHAT IT READS IS OF BULK AT MOST 1048576: true; the input reads as it did. -/
def findIsUptoRow : OpenClaim := { program := "ythcahjnniendnacdoor", sum := "adc76f338a5103b4b48215cd9aefdf7e05513b464f567c842e069b776039a2b5", func := "winnowfan/winnowfanlaw2.FindIs", spec := "findIs", inPlace := ["internal/reflectlite.ValueOf", "(internal/reflectlite.Value).Type", "(internal/reflectlite.Value).IsNil", "internal/reflectlite.TypeOf", "(internal/reflectlite.Value).Elem", "(internal/reflectlite.Value).Set"], unfollowed := true, recurses := true, named := ["errors.errorType"], plainKeys := false, apart := false, laid := [("errors.errorType", laid_errors_errorType)], narrowed := true }
def FindIsUptoSaid : Prop := findIsUptoRow.holds Tryd.pinned (OpenSpec.upto findIsSpec)

/-- 'winnowfanlaw2.FindAll', WHERE WHAT IT READS IS OF BULK AT MOST 1048576: true; the input reads as it did. -/
def findAllUptoRow : OpenClaim := { program := "ythcahjnniendnacdoor", sum := "adc76f338a5103b4b48215cd9aefdf7e05513b464f567c842e069b776039a2b5", func := "winnowfan/winnowfanlaw2.FindAll", spec := "findAll", inPlace := ["internal/reflectlite.ValueOf", "(internal/reflectlite.Value).Type", "(internal/reflectlite.Value).IsNil", "internal/reflectlite.TypeOf", "(internal/reflectlite.Value).Elem", "(internal/reflectlite.Value).Set"], unfollowed := true, recurses := true, named := ["errors.errorType"], plainKeys := false, apart := false, laid := [("errors.errorType", laid_errors_errorType)], narrowed := true }
def FindAllUptoSaid : Prop := findAllUptoRow.holds Tryd.pinned (OpenSpec.upto findAllSpec)

/-- 'winnowfanlaw3.SwapIs', WHERE WHAT IT READS IS OF BULK AT MOST 1048576: true; the input reads as it did. -/
def swapIsUptoRow : OpenClaim := { program := "ythcahjnniendnacdoor", sum := "adc76f338a5103b4b48215cd9aefdf7e05513b464f567c842e069b776039a2b5", func := "winnowfan/winnowfanlaw3.SwapIs", spec := "swapIs", inPlace := ["internal/reflectlite.ValueOf", "(internal/reflectlite.Value).Type", "(internal/reflectlite.Value).IsNil", "internal/reflectlite.TypeOf", "(internal/reflectlite.Value).Elem", "(internal/reflectlite.Value).Set", "internal/abi.NoEscape", "internal/bytealg.MakeNoZero"], unfollowed := true, recurses := true, named := ["errors.errorType"], plainKeys := false, apart := false, laid := [("errors.errorType", laid_errors_errorType)], narrowed := true }
def SwapIsUptoSaid : Prop := swapIsUptoRow.holds Tryd.pinned (OpenSpec.upto swapIsSpec)

/-- 'winnowfanlaw2.FindFirst', WHERE WHAT IT READS IS OF BULK AT MOST 1048576: true; the input reads as it did. -/
def findFirstUptoRow : OpenClaim := { program := "ythcahjnniendnacdoor", sum := "adc76f338a5103b4b48215cd9aefdf7e05513b464f567c842e069b776039a2b5", func := "winnowfan/winnowfanlaw2.FindFirst", spec := "findFirst", inPlace := ["internal/reflectlite.ValueOf", "(internal/reflectlite.Value).Type", "(internal/reflectlite.Value).IsNil", "internal/reflectlite.TypeOf", "(internal/reflectlite.Value).Elem", "(internal/reflectlite.Value).Set"], unfollowed := true, recurses := true, named := ["errors.errorType"], plainKeys := false, apart := false, laid := [("errors.errorType", laid_errors_errorType)], narrowed := true }
def FindFirstUptoSaid : Prop := findFirstUptoRow.holds Tryd.pinned (OpenSpec.upto findFirstSpec)

end Rows
end Go.Proofs.YthcahjnniendnacDoor
