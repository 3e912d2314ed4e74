/-
  DERIVED. GIVEN WITH THE SEED: THE CARDS: each row of YthcahjnniendnabDoorRows.lean that lists a variable, with what it lists TIED to the program's text (the seventh form; the later family's looks); each row that meets fmt, with fmt's text TOLD by the authors' own Lean function (tested against real Go, not proved from fmt's source: count such statements apart). THE CARD IS WHAT COUNTS. Prove the row's statement (the work); the ties are given (YthcahjnniendnabDoorTie.lean); close each card by the builder's one call (the guide's Derived/Test/ToyasCard.lean, 'card_holds'). Laid BY PROGRAM, IN A SANDBOX (cutbox-door.mjs). By AI agents, Wed Nov 11 2026. No macro, syntax, notation, axiom, sorry.
-/
import Derived.Test.YthcahjnniendnabDoorRows
import GoSem.ClaimSeven
namespace Go.Proofs.YthcahjnniendnabDoor
namespace Rows

/-- THE TIED CARD OF 'winnowfanlaw2.LitIs'. -/
def litIsCard : Claim7 := { stood := { row := litIsRow, standIns := [], harness := (true, "f45a1604785a151641de101bbe54cc07bb79ece424cdf2959cfd764ef295316a"), looks := true }, kinds := [], alts := [], laidByText := true, laidKinds := [.handle], laidTests := true, laidLooks := .later }
def LitIsCardSaid : Prop := Claim7.holds Tryd.pinned (.plain (OpenSpec.ofChange litIsSpec)) litIsCard

/-- THE TIED CARD OF 'winnowfanlaw3.FeedIs'. -/
def feedIsCard : Claim7 := { stood := { row := feedIsRow, standIns := [], harness := (true, "f45a1604785a151641de101bbe54cc07bb79ece424cdf2959cfd764ef295316a"), looks := true }, kinds := [], alts := [], laidByText := true, laidKinds := [.handle], laidTests := true, laidLooks := .later }
def FeedIsCardSaid : Prop := Claim7.holds Tryd.pinned (.plain (OpenSpec.ofChange feedIsSpec)) feedIsCard

/-- THE TIED CARD OF 'winnowfanlaw1.MeanIs'. -/
def meanIsCard : Claim7 := { stood := { row := meanIsRow, standIns := [], harness := (true, "f45a1604785a151641de101bbe54cc07bb79ece424cdf2959cfd764ef295316a"), looks := true }, kinds := [], alts := [], laidByText := true, laidKinds := [.handle], laidTests := true, laidLooks := .later }
def MeanIsCardSaid : Prop := Claim7.holds Tryd.pinned (.plain (OpenSpec.ofChange meanIsSpec)) meanIsCard

/-- THE TIED CARD OF 'winnowfanlaw1.ClassIs'. -/
def classIsCard : Claim7 := { stood := { row := classIsRow, standIns := [], harness := (true, "f45a1604785a151641de101bbe54cc07bb79ece424cdf2959cfd764ef295316a"), looks := true }, kinds := [], alts := [], laidByText := true, laidKinds := [.handle], laidTests := true, laidLooks := .later }
def ClassIsCardSaid : Prop := Claim7.holds Tryd.pinned (.plain (OpenSpec.ofChange classIsSpec)) classIsCard

/-- THE TIED CARD OF 'winnowfanlaw1.SynNot'. -/
def synNotCard : Claim7 := { stood := { row := synNotRow, standIns := [], harness := (true, "f45a1604785a151641de101bbe54cc07bb79ece424cdf2959cfd764ef295316a"), looks := true }, kinds := [], alts := [], laidByText := true, laidKinds := [.data, .data, .data, .sentinel, .sentinel], laidTests := true, laidLooks := .later }
def SynNotCardSaid : Prop := Claim7.holds Tryd.pinned (.plain (OpenSpec.ofChange synNotSpec)) synNotCard

/-- THE TIED CARD OF 'winnowfanlaw2.ProgIs'. -/
def progIsCard : Claim7 := { stood := { row := progIsRow, standIns := [], harness := (true, "f45a1604785a151641de101bbe54cc07bb79ece424cdf2959cfd764ef295316a"), looks := true }, kinds := [], alts := [], laidByText := true, laidKinds := [.data, .data, .data, .handle], laidTests := true, laidLooks := .later }
def ProgIsCardSaid : Prop := Claim7.holds Tryd.pinned (.plain (OpenSpec.ofChange progIsSpec)) progIsCard

/-- THE TIED CARD OF 'winnowfanlaw2.WordsIs'. -/
def wordsIsCard : Claim7 := { stood := { row := wordsIsRow, standIns := [], harness := (true, "f45a1604785a151641de101bbe54cc07bb79ece424cdf2959cfd764ef295316a"), looks := true }, kinds := [], alts := [], laidByText := true, laidKinds := [.handle], laidTests := true, laidLooks := .later }
def WordsIsCardSaid : Prop := Claim7.holds Tryd.pinned (.plain (OpenSpec.ofChange wordsIsSpec)) wordsIsCard

/-- THE SECOND FORM's CARD OF 'winnowfanlaw2.LitIs'. -/
def litIsUptoCard : Claim7 := { stood := { row := litIsUptoRow, standIns := [], harness := (true, "f45a1604785a151641de101bbe54cc07bb79ece424cdf2959cfd764ef295316a"), looks := true }, kinds := [], alts := [], laidByText := true, laidKinds := [.handle], laidTests := true, laidLooks := .later }
def LitIsUptoCardSaid : Prop := Claim7.holds Tryd.pinned (.plain (OpenSpec.upto litIsSpec)) litIsUptoCard

/-- THE SECOND FORM's CARD OF 'winnowfanlaw3.FeedIs'. -/
def feedIsUptoCard : Claim7 := { stood := { row := feedIsUptoRow, standIns := [], harness := (true, "f45a1604785a151641de101bbe54cc07bb79ece424cdf2959cfd764ef295316a"), looks := true }, kinds := [], alts := [], laidByText := true, laidKinds := [.handle], laidTests := true, laidLooks := .later }
def FeedIsUptoCardSaid : Prop := Claim7.holds Tryd.pinned (.plain (OpenSpec.upto feedIsSpec)) feedIsUptoCard

/-- THE SECOND FORM's CARD OF 'winnowfanlaw1.MeanIs'. -/
def meanIsUptoCard : Claim7 := { stood := { row := meanIsUptoRow, standIns := [], harness := (true, "f45a1604785a151641de101bbe54cc07bb79ece424cdf2959cfd764ef295316a"), looks := true }, kinds := [], alts := [], laidByText := true, laidKinds := [.handle], laidTests := true, laidLooks := .later }
def MeanIsUptoCardSaid : Prop := Claim7.holds Tryd.pinned (.plain (OpenSpec.upto meanIsSpec)) meanIsUptoCard

/-- THE SECOND FORM's CARD OF 'winnowfanlaw1.ClassIs'. -/
def classIsUptoCard : Claim7 := { stood := { row := classIsUptoRow, standIns := [], harness := (true, "f45a1604785a151641de101bbe54cc07bb79ece424cdf2959cfd764ef295316a"), looks := true }, kinds := [], alts := [], laidByText := true, laidKinds := [.handle], laidTests := true, laidLooks := .later }
def ClassIsUptoCardSaid : Prop := Claim7.holds Tryd.pinned (.plain (OpenSpec.upto classIsSpec)) classIsUptoCard

/-- THE SECOND FORM's CARD OF 'winnowfanlaw1.SynNot'. -/
def synNotUptoCard : Claim7 := { stood := { row := synNotUptoRow, standIns := [], harness := (true, "f45a1604785a151641de101bbe54cc07bb79ece424cdf2959cfd764ef295316a"), looks := true }, kinds := [], alts := [], laidByText := true, laidKinds := [.data, .data, .data, .sentinel, .sentinel], laidTests := true, laidLooks := .later }
def SynNotUptoCardSaid : Prop := Claim7.holds Tryd.pinned (.plain (OpenSpec.upto synNotSpec)) synNotUptoCard

/-- THE SECOND FORM's CARD OF 'winnowfanlaw2.ProgIs'. -/
def progIsUptoCard : Claim7 := { stood := { row := progIsUptoRow, standIns := [], harness := (true, "f45a1604785a151641de101bbe54cc07bb79ece424cdf2959cfd764ef295316a"), looks := true }, kinds := [], alts := [], laidByText := true, laidKinds := [.data, .data, .data, .handle], laidTests := true, laidLooks := .later }
def ProgIsUptoCardSaid : Prop := Claim7.holds Tryd.pinned (.plain (OpenSpec.upto progIsSpec)) progIsUptoCard

/-- THE SECOND FORM's CARD OF 'winnowfanlaw2.WordsIs'. -/
def wordsIsUptoCard : Claim7 := { stood := { row := wordsIsUptoRow, standIns := [], harness := (true, "f45a1604785a151641de101bbe54cc07bb79ece424cdf2959cfd764ef295316a"), looks := true }, kinds := [], alts := [], laidByText := true, laidKinds := [.handle], laidTests := true, laidLooks := .later }
def WordsIsUptoCardSaid : Prop := Claim7.holds Tryd.pinned (.plain (OpenSpec.upto wordsIsSpec)) wordsIsUptoCard
end Rows
end Go.Proofs.YthcahjnniendnabDoor
