/-
  DERIVED. GIVEN WITH THE SEED: THE CARDS: each row of YthcahjnniendnaaDoorRows.lean that lists a variable, with what it lists TIED to the program's text (the seventh form; the later family's looks); each row that meets fmt, with fmt's text TOLD by the authors' own Lean function (tested against real Go, not proved from fmt's source: count such statements apart). THE CARD IS WHAT COUNTS. Prove the row's statement (the work); the ties are given (YthcahjnniendnaaDoorTie.lean); close each card by the builder's one call (the guide's Derived/Test/ToyasCard.lean, 'card_holds'). Laid BY PROGRAM, IN A SANDBOX (cutbox-door.mjs). By AI agents, Wed Nov 11 2026. No macro, syntax, notation, axiom, sorry.
-/
import Derived.Test.YthcahjnniendnaaDoorRows
import GoSem.ClaimSeven
namespace Go.Proofs.YthcahjnniendnaaDoor
namespace Rows

/-- THE TIED CARD OF 'winnowfanlaw2.SimIs'. -/
def simIsCard : Claim7 := { stood := { row := simIsRow, standIns := [], harness := (true, "19d29f0fa0f4144cee4122b0326765d945e17b95e021dfde4bc6bf17c7bd6e34"), looks := true }, kinds := [], alts := [], laidByText := true, laidKinds := [.handle], laidTests := true, laidLooks := .later }
def SimIsCardSaid : Prop := Claim7.holds Tryd.pinned (.plain (OpenSpec.ofChange simIsSpec)) simIsCard

/-- THE TIED CARD OF 'winnowfanlaw1.RexIs'. -/
def rexIsCard : Claim7 := { stood := { row := rexIsRow, standIns := [], harness := (true, "19d29f0fa0f4144cee4122b0326765d945e17b95e021dfde4bc6bf17c7bd6e34"), looks := true }, kinds := [], alts := [], laidByText := true, laidKinds := [.handle], laidTests := true, laidLooks := .later }
def RexIsCardSaid : Prop := Claim7.holds Tryd.pinned (.plain (OpenSpec.ofChange rexIsSpec)) rexIsCard

/-- THE SECOND FORM's CARD OF 'winnowfanlaw2.SimIs'. -/
def simIsUptoCard : Claim7 := { stood := { row := simIsUptoRow, standIns := [], harness := (true, "19d29f0fa0f4144cee4122b0326765d945e17b95e021dfde4bc6bf17c7bd6e34"), looks := true }, kinds := [], alts := [], laidByText := true, laidKinds := [.handle], laidTests := true, laidLooks := .later }
def SimIsUptoCardSaid : Prop := Claim7.holds Tryd.pinned (.plain (OpenSpec.upto simIsSpec)) simIsUptoCard

/-- THE SECOND FORM's CARD OF 'winnowfanlaw1.RexIs'. -/
def rexIsUptoCard : Claim7 := { stood := { row := rexIsUptoRow, standIns := [], harness := (true, "19d29f0fa0f4144cee4122b0326765d945e17b95e021dfde4bc6bf17c7bd6e34"), looks := true }, kinds := [], alts := [], laidByText := true, laidKinds := [.handle], laidTests := true, laidLooks := .later }
def RexIsUptoCardSaid : Prop := Claim7.holds Tryd.pinned (.plain (OpenSpec.upto rexIsSpec)) rexIsUptoCard
end Rows
end Go.Proofs.YthcahjnniendnaaDoor
