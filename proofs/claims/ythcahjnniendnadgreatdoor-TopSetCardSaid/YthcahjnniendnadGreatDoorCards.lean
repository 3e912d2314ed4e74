/-
  DERIVED. GIVEN WITH THE SEED: THE CARDS: each row of YthcahjnniendnadGreatDoorRows.lean that lists a variable, with what it lists TIED to the program's text (the seventh form; the later family's looks); each row that meets fmt, with fmt's text TOLD by the authors' own Lean function (tested against real Go, not proved from fmt's source: count such statements apart). THE CARD IS WHAT COUNTS. Prove the row's statement (the work); the ties are given (YthcahjnniendnadGreatDoorTie.lean); close each card by the builder's one call (the guide's Derived/Test/ToyasCard.lean, 'card_holds'). Laid BY PROGRAM, IN A SANDBOX (cutbox-door.mjs). By AI agents, Wed Nov 11 2026. No macro, syntax, notation, axiom, sorry.
-/
import Derived.Test.YthcahjnniendnadGreatDoorRows
import GoSem.ClaimSeven
namespace Go.Proofs.YthcahjnniendnadGreatDoor
namespace Rows

/-- THE TIED CARD OF 'winnowfanlaw3.RunAnswers'. -/
def runAnswersCard : Claim7 := { stood := { row := runAnswersRow, standIns := [], harness := (true, "b10edb103ae9b956c938db7f60f16ef034999dc6d59613085abc2003a84a5274"), looks := true }, kinds := [], alts := [], laidByText := true, laidKinds := [.data, .data, .data, .handle, .sentinel, .sentinel], laidTests := true, laidLooks := .later }
def RunAnswersCardSaid : Prop := Claim7.holds Tryz.pinned (.plain (OpenSpec.ofChange runAnswersSpec)) runAnswersCard

/-- THE TIED CARD OF 'winnowfanlaw3.RunBegins'. -/
def runBeginsCard : Claim7 := { stood := { row := runBeginsRow, standIns := [], harness := (true, "b10edb103ae9b956c938db7f60f16ef034999dc6d59613085abc2003a84a5274"), looks := true }, kinds := [], alts := [], laidByText := true, laidKinds := [.data, .data, .data, .handle, .sentinel, .sentinel], laidTests := true, laidLooks := .later }
def RunBeginsCardSaid : Prop := Claim7.holds Tryz.pinned (.plain (OpenSpec.ofChange runBeginsSpec)) runBeginsCard

/-- THE TIED CARD OF 'winnowfantop.TopSet'. -/
def topSetCard : Claim7 := { stood := { row := topSetRow, standIns := [], harness := (true, "b10edb103ae9b956c938db7f60f16ef034999dc6d59613085abc2003a84a5274"), looks := true }, kinds := [], alts := [], laidByText := true, laidKinds := [.data, .data, .data, .sentinel, .sentinel], laidTests := true, laidLooks := .later }
def TopSetCardSaid : Prop := Claim7.holds Tryz.pinned (.plain (OpenSpec.ofChange topSetSpec)) topSetCard

/-- THE TIED CARD OF 'winnowfantop.TopFour'. -/
def topFourCard : Claim7 := { stood := { row := topFourRow, standIns := [], harness := (true, "b10edb103ae9b956c938db7f60f16ef034999dc6d59613085abc2003a84a5274"), looks := true }, kinds := [], alts := [], laidByText := true, laidKinds := [.data, .data, .data, .sentinel, .sentinel], laidTests := true, laidLooks := .later }
def TopFourCardSaid : Prop := Claim7.holds Tryz.pinned (.plain (OpenSpec.ofChange topFourSpec)) topFourCard

/-- THE SECOND FORM's CARD OF 'winnowfanlaw3.RunAnswers'. -/
def runAnswersUptoCard : Claim7 := { stood := { row := runAnswersUptoRow, standIns := [], harness := (true, "b10edb103ae9b956c938db7f60f16ef034999dc6d59613085abc2003a84a5274"), looks := true }, kinds := [], alts := [], laidByText := true, laidKinds := [.data, .data, .data, .handle, .sentinel, .sentinel], laidTests := true, laidLooks := .later }
def RunAnswersUptoCardSaid : Prop := Claim7.holds Tryz.pinned (.plain (OpenSpec.upto runAnswersSpec)) runAnswersUptoCard

/-- THE SECOND FORM's CARD OF 'winnowfanlaw3.RunBegins'. -/
def runBeginsUptoCard : Claim7 := { stood := { row := runBeginsUptoRow, standIns := [], harness := (true, "b10edb103ae9b956c938db7f60f16ef034999dc6d59613085abc2003a84a5274"), looks := true }, kinds := [], alts := [], laidByText := true, laidKinds := [.data, .data, .data, .handle, .sentinel, .sentinel], laidTests := true, laidLooks := .later }
def RunBeginsUptoCardSaid : Prop := Claim7.holds Tryz.pinned (.plain (OpenSpec.upto runBeginsSpec)) runBeginsUptoCard

/-- THE SECOND FORM's CARD OF 'winnowfantop.TopSet'. -/
def topSetUptoCard : Claim7 := { stood := { row := topSetUptoRow, standIns := [], harness := (true, "b10edb103ae9b956c938db7f60f16ef034999dc6d59613085abc2003a84a5274"), looks := true }, kinds := [], alts := [], laidByText := true, laidKinds := [.data, .data, .data, .sentinel, .sentinel], laidTests := true, laidLooks := .later }
def TopSetUptoCardSaid : Prop := Claim7.holds Tryz.pinned (.plain (OpenSpec.upto topSetSpec)) topSetUptoCard

/-- THE SECOND FORM's CARD OF 'winnowfantop.TopFour'. -/
def topFourUptoCard : Claim7 := { stood := { row := topFourUptoRow, standIns := [], harness := (true, "b10edb103ae9b956c938db7f60f16ef034999dc6d59613085abc2003a84a5274"), looks := true }, kinds := [], alts := [], laidByText := true, laidKinds := [.data, .data, .data, .sentinel, .sentinel], laidTests := true, laidLooks := .later }
def TopFourUptoCardSaid : Prop := Claim7.holds Tryz.pinned (.plain (OpenSpec.upto topFourSpec)) topFourUptoCard
end Rows
end Go.Proofs.YthcahjnniendnadGreatDoor
