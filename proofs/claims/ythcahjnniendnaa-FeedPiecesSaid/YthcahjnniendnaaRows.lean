/-
  No cell of these rows narrows 'for every input' (looked for: loops, veiled, ifaces, maps, wideKeys, modest, calm, conditions, laid).
  DERIVED. THE GIVEN ROWS OF THIS SEAT. 9 by the template 'for every input the law returns true; each argument reads behind the call as it read before'; 0 by the template 'total and deterministic' (their statements: YthcahjnniendnaaTotals.lean).
  GIVEN WITH THE SEED: the statements are not yours to turn. If you find one false, say at which input.
  Laid BY PROGRAM, IN A SANDBOX (cutbox-rows.mjs): the forced cells as the released guide's own fill.sh prints them over the translation d139c5f2840e9bd9… (all of the seat's roots in one cut). By AI agents, Wed Nov 11 2026. No macro, syntax, notation, axiom, sorry.
-/
import Derived.Test.YthcahjnniendnaaChecked
import GoSem.Claim
import GoSem.ClaimJoined
import GoSem.ClaimMapViews
import Derived.JoinedTies
import Derived.KernelRfl
namespace Go.Proofs.Ythcahjnniendnaa
/- THE CELL 'sum', in the pinned program and in every row, IS THE sha256 OF THE DUMP (.gsa) THAT YthcahjnniendnaaProg.lean LOADS. Nothing in Lean hashes anything: it is a label: what it is worth is what the hold of that sum in a sandbox is worth. -/
noncomputable def Try.pinned : Pinned := { name := "ythcahjnniendnaa", sum := "d139c5f2840e9bd998d793a9631ffe0813b5acee7fe063656369c274c89183dd", checked := Try.checked }
namespace Rows
def none {H : Type} : Left H := { results := [], args := [] }

/-- 'winnowfanlaw1.Names': WHATEVER THE INPUT: true; the input reads as it did. -/
def namesSpec : ChangeSpec := { name := "names", fn := fun _ => fun
  | [] => { results := [.lit (.bool true)], args := [] }
  | _ => none }
def namesRow : OpenClaim := { program := "ythcahjnniendnaa", sum := "d139c5f2840e9bd998d793a9631ffe0813b5acee7fe063656369c274c89183dd", func := "winnowfan/winnowfanlaw1.Names", spec := "names", plainKeys := false, apart := false }
def NamesSaid : Prop := namesRow.holds Try.pinned (OpenSpec.ofChange namesSpec)

/-- ITS FALSE NEIGHBOUR: 'it returns false'. Refute it at one input. -/
def namesWrong : ChangeSpec := { name := "names", fn := fun _ => fun
  | [] => { results := [.lit (.bool false)], args := [] }
  | _ => none }
def NamesWrongFalsely : Prop := namesRow.holds Try.pinned (OpenSpec.ofChange namesWrong)

/-- 'winnowfanlaw1.RexTurns': WHATEVER THE INPUT: true; the input reads as it did. -/
def rexTurnsSpec : ChangeSpec := { name := "rexTurns", fn := fun _ => fun
  | [d] => { results := [.lit (.bool true)], args := [d] }
  | _ => none }
def rexTurnsRow : OpenClaim := { program := "ythcahjnniendnaa", sum := "d139c5f2840e9bd998d793a9631ffe0813b5acee7fe063656369c274c89183dd", func := "winnowfan/winnowfanlaw1.RexTurns", spec := "rexTurns", recurses := true, plainKeys := false, apart := false }
def RexTurnsSaid : Prop := rexTurnsRow.holds Try.pinned (OpenSpec.ofChange rexTurnsSpec)

/-- ITS FALSE NEIGHBOUR: 'it returns false'. Refute it at one input. -/
def rexTurnsWrong : ChangeSpec := { name := "rexTurns", fn := fun _ => fun
  | [d] => { results := [.lit (.bool false)], args := [d] }
  | _ => none }
def RexTurnsWrongFalsely : Prop := rexTurnsRow.holds Try.pinned (OpenSpec.ofChange rexTurnsWrong)

/-- 'winnowfanlaw1.ClassLaws': WHATEVER THE INPUT: true; the input reads as it did. -/
def classLawsSpec : ChangeSpec := { name := "classLaws", fn := fun _ => fun
  | [d1, d2] => { results := [.lit (.bool true)], args := [d1, d2] }
  | _ => none }
def classLawsRow : OpenClaim := { program := "ythcahjnniendnaa", sum := "d139c5f2840e9bd998d793a9631ffe0813b5acee7fe063656369c274c89183dd", func := "winnowfan/winnowfanlaw1.ClassLaws", spec := "classLaws", inPlace := ["internal/bytealg.IndexByteString", "internal/abi.NoEscape"], unfollowed := true, recurses := true, plainKeys := false, apart := false }
def ClassLawsSaid : Prop := classLawsRow.holds Try.pinned (OpenSpec.ofChange classLawsSpec)

/-- ITS FALSE NEIGHBOUR: 'it returns false'. Refute it at one input. -/
def classLawsWrong : ChangeSpec := { name := "classLaws", fn := fun _ => fun
  | [d1, d2] => { results := [.lit (.bool false)], args := [d1, d2] }
  | _ => none }
def ClassLawsWrongFalsely : Prop := classLawsRow.holds Try.pinned (OpenSpec.ofChange classLawsWrong)

/-- 'winnowfanlaw1.MeanLaws': WHATEVER THE INPUT: true; the input reads as it did. -/
def meanLawsSpec : ChangeSpec := { name := "meanLaws", fn := fun _ => fun
  | [d1, d2, d3, d4, d5] => { results := [.lit (.bool true)], args := [d1, d2, d3, d4, d5] }
  | _ => none }
def meanLawsRow : OpenClaim := { program := "ythcahjnniendnaa", sum := "d139c5f2840e9bd998d793a9631ffe0813b5acee7fe063656369c274c89183dd", func := "winnowfan/winnowfanlaw1.MeanLaws", spec := "meanLaws", recurses := true, plainKeys := false, apart := false }
def MeanLawsSaid : Prop := meanLawsRow.holds Try.pinned (OpenSpec.ofChange meanLawsSpec)

/-- ITS FALSE NEIGHBOUR: 'it returns false'. Refute it at one input. -/
def meanLawsWrong : ChangeSpec := { name := "meanLaws", fn := fun _ => fun
  | [d1, d2, d3, d4, d5] => { results := [.lit (.bool false)], args := [d1, d2, d3, d4, d5] }
  | _ => none }
def MeanLawsWrongFalsely : Prop := meanLawsRow.holds Try.pinned (OpenSpec.ofChange meanLawsWrong)

/-- 'winnowfanlaw1.MeanEmpty': WHATEVER THE INPUT: true; the input reads as it did. -/
def meanEmptySpec : ChangeSpec := { name := "meanEmpty", fn := fun _ => fun
  | [d1, d2, d3] => { results := [.lit (.bool true)], args := [d1, d2, d3] }
  | _ => none }
def meanEmptyRow : OpenClaim := { program := "ythcahjnniendnaa", sum := "d139c5f2840e9bd998d793a9631ffe0813b5acee7fe063656369c274c89183dd", func := "winnowfan/winnowfanlaw1.MeanEmpty", spec := "meanEmpty", recurses := true, plainKeys := false, apart := false }
def MeanEmptySaid : Prop := meanEmptyRow.holds Try.pinned (OpenSpec.ofChange meanEmptySpec)

/-- ITS FALSE NEIGHBOUR: 'it returns false'. Refute it at one input. -/
def meanEmptyWrong : ChangeSpec := { name := "meanEmpty", fn := fun _ => fun
  | [d1, d2, d3] => { results := [.lit (.bool false)], args := [d1, d2, d3] }
  | _ => none }
def MeanEmptyWrongFalsely : Prop := meanEmptyRow.holds Try.pinned (OpenSpec.ofChange meanEmptyWrong)

/-- 'winnowfanlaw1.MeanTurns': WHATEVER THE INPUT: true; the input reads as it did. -/
def meanTurnsSpec : ChangeSpec := { name := "meanTurns", fn := fun _ => fun
  | [d1, d2, d3, d4] => { results := [.lit (.bool true)], args := [d1, d2, d3, d4] }
  | _ => none }
def meanTurnsRow : OpenClaim := { program := "ythcahjnniendnaa", sum := "d139c5f2840e9bd998d793a9631ffe0813b5acee7fe063656369c274c89183dd", func := "winnowfan/winnowfanlaw1.MeanTurns", spec := "meanTurns", recurses := true, plainKeys := false, apart := false }
def MeanTurnsSaid : Prop := meanTurnsRow.holds Try.pinned (OpenSpec.ofChange meanTurnsSpec)

/-- ITS FALSE NEIGHBOUR: 'it returns false'. Refute it at one input. -/
def meanTurnsWrong : ChangeSpec := { name := "meanTurns", fn := fun _ => fun
  | [d1, d2, d3, d4] => { results := [.lit (.bool false)], args := [d1, d2, d3, d4] }
  | _ => none }
def MeanTurnsWrongFalsely : Prop := meanTurnsRow.holds Try.pinned (OpenSpec.ofChange meanTurnsWrong)

/-- 'winnowfanlaw2.LitStands': WHATEVER THE INPUT: true; the input reads as it did. -/
def litStandsSpec : ChangeSpec := { name := "litStands", fn := fun _ => fun
  | [d1, d2, d3] => { results := [.lit (.bool true)], args := [d1, d2, d3] }
  | _ => none }
def litStandsRow : OpenClaim := { program := "ythcahjnniendnaa", sum := "d139c5f2840e9bd998d793a9631ffe0813b5acee7fe063656369c274c89183dd", func := "winnowfan/winnowfanlaw2.LitStands", spec := "litStands", recurses := true, plainKeys := false, apart := false }
def LitStandsSaid : Prop := litStandsRow.holds Try.pinned (OpenSpec.ofChange litStandsSpec)

/-- ITS FALSE NEIGHBOUR: 'it returns false'. Refute it at one input. -/
def litStandsWrong : ChangeSpec := { name := "litStands", fn := fun _ => fun
  | [d1, d2, d3] => { results := [.lit (.bool false)], args := [d1, d2, d3] }
  | _ => none }
def LitStandsWrongFalsely : Prop := litStandsRow.holds Try.pinned (OpenSpec.ofChange litStandsWrong)

/-- 'winnowfanlaw3.FeedPieces': WHATEVER THE INPUT: true; the input reads as it did. -/
def feedPiecesSpec : ChangeSpec := { name := "feedPieces", fn := fun _ => fun
  | [d1, d2, d3, d4] => { results := [.lit (.bool true)], args := [d1, d2, d3, d4] }
  | _ => none }
def feedPiecesRow : OpenClaim := { program := "ythcahjnniendnaa", sum := "d139c5f2840e9bd998d793a9631ffe0813b5acee7fe063656369c274c89183dd", func := "winnowfan/winnowfanlaw3.FeedPieces", spec := "feedPieces", unfollowed := true, recurses := true, plainKeys := false, apart := false }
def FeedPiecesSaid : Prop := feedPiecesRow.holds Try.pinned (OpenSpec.ofChange feedPiecesSpec)

/-- ITS FALSE NEIGHBOUR: 'it returns false'. Refute it at one input. -/
def feedPiecesWrong : ChangeSpec := { name := "feedPieces", fn := fun _ => fun
  | [d1, d2, d3, d4] => { results := [.lit (.bool false)], args := [d1, d2, d3, d4] }
  | _ => none }
def FeedPiecesWrongFalsely : Prop := feedPiecesRow.holds Try.pinned (OpenSpec.ofChange feedPiecesWrong)

/-- 'winnowfanlaw2.ProgTurns': WHATEVER THE INPUT: true; the input reads as it did. -/
def progTurnsSpec : ChangeSpec := { name := "progTurns", fn := fun _ => fun
  | [d1, d2, d3] => { results := [.lit (.bool true)], args := [d1, d2, d3] }
  | _ => none }
def progTurnsRow : OpenClaim := { program := "ythcahjnniendnaa", sum := "d139c5f2840e9bd998d793a9631ffe0813b5acee7fe063656369c274c89183dd", func := "winnowfan/winnowfanlaw2.ProgTurns", spec := "progTurns", unfollowed := true, recurses := true, plainKeys := false, apart := false }
def ProgTurnsSaid : Prop := progTurnsRow.holds Try.pinned (OpenSpec.ofChange progTurnsSpec)

/-- ITS FALSE NEIGHBOUR: 'it returns false'. Refute it at one input. -/
def progTurnsWrong : ChangeSpec := { name := "progTurns", fn := fun _ => fun
  | [d1, d2, d3] => { results := [.lit (.bool false)], args := [d1, d2, d3] }
  | _ => none }
def ProgTurnsWrongFalsely : Prop := progTurnsRow.holds Try.pinned (OpenSpec.ofChange progTurnsWrong)

/- THE SECOND FORM. 'bulk': how many values and letters a reading holds, each counted each time it is reached (what is shared counts as often as it is met; a slice's spare places count too). A statement '..UptoSaid' is the law's where the arguments, and the package variables that the reading takes, are together of bulk at most 1048576: NARROWER than '..Said'. Prove '..Said' where nothing that the law and all that it calls make is longer than what came in: it says more and counts as full. Else prove '..UptoSaid'. A law counts once. -/
mutual
def uptoBulk {H : Type} : DataW H → Nat
  | .lit (.string bytes) => bytes.length + 1
  | .lit _ => 1
  | .nil => 1
  | .ptr d => uptoBulk d + 1
  | .slice elems spare => uptoBulkAll elems + uptoBulkAll spare + 1
  | .agg parts => uptoBulkAll parts + 1
  | .iface _ d => uptoBulk d + 1
  | .map entries => uptoBulkEntries entries + 1
  | .held _ => 1
def uptoBulkAll {H : Type} : List (DataW H) → Nat
  | [] => 0
  | d :: r => uptoBulk d + uptoBulkAll r
def uptoBulkEntries {H : Type} : List (Lit × DataW H) → Nat
  | [] => 0
  | x :: r => uptoBulkEntry x + uptoBulkEntries r
def uptoBulkEntry {H : Type} : Lit × DataW H → Nat
  | (.string bytes, d) => bytes.length + uptoBulk d + 1
  | (_, d) => uptoBulk d + 1
 end
def uptoSmall : (H : Type) → List (DataW H) → Bool := fun _ ds => decide (uptoBulkAll ds ≤ 1048576)
def OpenSpec.upto (s : _root_.Go.ChangeSpec) : _root_.Go.OpenSpec := { _root_.Go.OpenSpec.ofChange s with cond := some uptoSmall }

/-- 'winnowfanlaw1.Names', WHERE WHAT IT READS IS OF BULK AT MOST 1048576: true; the input reads as it did. -/
def namesUptoRow : OpenClaim := { program := "ythcahjnniendnaa", sum := "d139c5f2840e9bd998d793a9631ffe0813b5acee7fe063656369c274c89183dd", func := "winnowfan/winnowfanlaw1.Names", spec := "names", plainKeys := false, apart := false, narrowed := true }
def NamesUptoSaid : Prop := namesUptoRow.holds Try.pinned (OpenSpec.upto namesSpec)

/-- 'winnowfanlaw1.RexTurns', WHERE WHAT IT READS IS OF BULK AT MOST 1048576: true; the input reads as it did. -/
def rexTurnsUptoRow : OpenClaim := { program := "ythcahjnniendnaa", sum := "d139c5f2840e9bd998d793a9631ffe0813b5acee7fe063656369c274c89183dd", func := "winnowfan/winnowfanlaw1.RexTurns", spec := "rexTurns", recurses := true, plainKeys := false, apart := false, narrowed := true }
def RexTurnsUptoSaid : Prop := rexTurnsUptoRow.holds Try.pinned (OpenSpec.upto rexTurnsSpec)

/-- 'winnowfanlaw1.ClassLaws', WHERE WHAT IT READS IS OF BULK AT MOST 1048576: true; the input reads as it did. -/
def classLawsUptoRow : OpenClaim := { program := "ythcahjnniendnaa", sum := "d139c5f2840e9bd998d793a9631ffe0813b5acee7fe063656369c274c89183dd", func := "winnowfan/winnowfanlaw1.ClassLaws", spec := "classLaws", inPlace := ["internal/bytealg.IndexByteString", "internal/abi.NoEscape"], unfollowed := true, recurses := true, plainKeys := false, apart := false, narrowed := true }
def ClassLawsUptoSaid : Prop := classLawsUptoRow.holds Try.pinned (OpenSpec.upto classLawsSpec)

/-- 'winnowfanlaw1.MeanLaws', WHERE WHAT IT READS IS OF BULK AT MOST 1048576: true; the input reads as it did. -/
def meanLawsUptoRow : OpenClaim := { program := "ythcahjnniendnaa", sum := "d139c5f2840e9bd998d793a9631ffe0813b5acee7fe063656369c274c89183dd", func := "winnowfan/winnowfanlaw1.MeanLaws", spec := "meanLaws", recurses := true, plainKeys := false, apart := false, narrowed := true }
def MeanLawsUptoSaid : Prop := meanLawsUptoRow.holds Try.pinned (OpenSpec.upto meanLawsSpec)

/-- 'winnowfanlaw1.MeanEmpty', WHERE WHAT IT READS IS OF BULK AT MOST 1048576: true; the input reads as it did. -/
def meanEmptyUptoRow : OpenClaim := { program := "ythcahjnniendnaa", sum := "d139c5f2840e9bd998d793a9631ffe0813b5acee7fe063656369c274c89183dd", func := "winnowfan/winnowfanlaw1.MeanEmpty", spec := "meanEmpty", recurses := true, plainKeys := false, apart := false, narrowed := true }
def MeanEmptyUptoSaid : Prop := meanEmptyUptoRow.holds Try.pinned (OpenSpec.upto meanEmptySpec)

/-- 'winnowfanlaw1.MeanTurns', WHERE WHAT IT READS IS OF BULK AT MOST 1048576: true; the input reads as it did. -/
def meanTurnsUptoRow : OpenClaim := { program := "ythcahjnniendnaa", sum := "d139c5f2840e9bd998d793a9631ffe0813b5acee7fe063656369c274c89183dd", func := "winnowfan/winnowfanlaw1.MeanTurns", spec := "meanTurns", recurses := true, plainKeys := false, apart := false, narrowed := true }
def MeanTurnsUptoSaid : Prop := meanTurnsUptoRow.holds Try.pinned (OpenSpec.upto meanTurnsSpec)

/-- 'winnowfanlaw2.LitStands', WHERE WHAT IT READS IS OF BULK AT MOST 1048576: true; the input reads as it did. -/
def litStandsUptoRow : OpenClaim := { program := "ythcahjnniendnaa", sum := "d139c5f2840e9bd998d793a9631ffe0813b5acee7fe063656369c274c89183dd", func := "winnowfan/winnowfanlaw2.LitStands", spec := "litStands", recurses := true, plainKeys := false, apart := false, narrowed := true }
def LitStandsUptoSaid : Prop := litStandsUptoRow.holds Try.pinned (OpenSpec.upto litStandsSpec)

/-- 'winnowfanlaw3.FeedPieces', WHERE WHAT IT READS IS OF BULK AT MOST 1048576: true; the input reads as it did. -/
def feedPiecesUptoRow : OpenClaim := { program := "ythcahjnniendnaa", sum := "d139c5f2840e9bd998d793a9631ffe0813b5acee7fe063656369c274c89183dd", func := "winnowfan/winnowfanlaw3.FeedPieces", spec := "feedPieces", unfollowed := true, recurses := true, plainKeys := false, apart := false, narrowed := true }
def FeedPiecesUptoSaid : Prop := feedPiecesUptoRow.holds Try.pinned (OpenSpec.upto feedPiecesSpec)

/-- 'winnowfanlaw2.ProgTurns', WHERE WHAT IT READS IS OF BULK AT MOST 1048576: true; the input reads as it did. -/
def progTurnsUptoRow : OpenClaim := { program := "ythcahjnniendnaa", sum := "d139c5f2840e9bd998d793a9631ffe0813b5acee7fe063656369c274c89183dd", func := "winnowfan/winnowfanlaw2.ProgTurns", spec := "progTurns", unfollowed := true, recurses := true, plainKeys := false, apart := false, narrowed := true }
def ProgTurnsUptoSaid : Prop := progTurnsUptoRow.holds Try.pinned (OpenSpec.upto progTurnsSpec)

end Rows
end Go.Proofs.Ythcahjnniendnaa
