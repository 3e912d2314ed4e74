/-
  DERIVED. GIVEN WITH THE SEED: THE CARDS: each row of YthcahjnniendnacDoorRows.lean that lists a variable, with what it lists TIED to the program's text (the seventh form; the later family's looks); each row that meets fmt, with fmt's text TOLD by the authors' own Lean function (tested against real Go, not proved from fmt's source: count such statements apart). THE CARD IS WHAT COUNTS. Prove the row's statement (the work); the ties are given (YthcahjnniendnacDoorTie.lean); close each card by the builder's one call (the guide's Derived/Test/ToyasCard.lean, 'card_holds'). Laid BY PROGRAM, IN A SANDBOX (cutbox-door.mjs). By AI agents, Wed Nov 11 2026. No macro, syntax, notation, axiom, sorry.
-/
import Derived.Test.YthcahjnniendnacDoorRows
import GoSem.ClaimSeven
namespace Go.Proofs.YthcahjnniendnacDoor
namespace Rows

/-- THE TIED CARD OF 'winnowfanlaw2.AutoSame'. -/
def autoSameCard : Claim7 := { stood := { row := autoSameRow, standIns := [], harness := (true, "b22f7a0eec186ffb4fb754ff472bcf2adfba2dcccb0cc862029e99de2a9820c8"), looks := true }, kinds := [], alts := [], laidByText := true, laidKinds := [.handle], laidTests := true, laidLooks := .later }
def AutoSameCardSaid : Prop := Claim7.holds Tryd.pinned (.plain (OpenSpec.ofChange autoSameSpec)) autoSameCard

/-- THE TIED CARD OF 'winnowfanlaw2.FindLater'. -/
def findLaterCard : Claim7 := { stood := { row := findLaterRow, standIns := [], harness := (true, "b22f7a0eec186ffb4fb754ff472bcf2adfba2dcccb0cc862029e99de2a9820c8"), looks := true }, kinds := [], alts := [], laidByText := true, laidKinds := [.handle], laidTests := true, laidLooks := .later }
def FindLaterCardSaid : Prop := Claim7.holds Tryd.pinned (.plain (OpenSpec.ofChange findLaterSpec)) findLaterCard

/-- THE TIED CARD OF 'winnowfanlaw2.FindIs'. -/
def findIsCard : Claim7 := { stood := { row := findIsRow, standIns := [], harness := (true, "b22f7a0eec186ffb4fb754ff472bcf2adfba2dcccb0cc862029e99de2a9820c8"), looks := true }, kinds := [], alts := [], laidByText := true, laidKinds := [.handle], laidTests := true, laidLooks := .later }
def FindIsCardSaid : Prop := Claim7.holds Tryd.pinned (.plain (OpenSpec.ofChange findIsSpec)) findIsCard

/-- THE TIED CARD OF 'winnowfanlaw2.FindAll'. -/
def findAllCard : Claim7 := { stood := { row := findAllRow, standIns := [], harness := (true, "b22f7a0eec186ffb4fb754ff472bcf2adfba2dcccb0cc862029e99de2a9820c8"), looks := true }, kinds := [], alts := [], laidByText := true, laidKinds := [.handle], laidTests := true, laidLooks := .later }
def FindAllCardSaid : Prop := Claim7.holds Tryd.pinned (.plain (OpenSpec.ofChange findAllSpec)) findAllCard

/-- THE TIED CARD OF 'winnowfanlaw3.SwapIs'. -/
def swapIsCard : Claim7 := { stood := { row := swapIsRow, standIns := [], harness := (true, "b22f7a0eec186ffb4fb754ff472bcf2adfba2dcccb0cc862029e99de2a9820c8"), looks := true }, kinds := [], alts := [], laidByText := true, laidKinds := [.handle], laidTests := true, laidLooks := .later }
def SwapIsCardSaid : Prop := Claim7.holds Tryd.pinned (.plain (OpenSpec.ofChange swapIsSpec)) swapIsCard

/-- THE TIED CARD OF 'winnowfanlaw2.FindFirst'. -/
def findFirstCard : Claim7 := { stood := { row := findFirstRow, standIns := [], harness := (true, "b22f7a0eec186ffb4fb754ff472bcf2adfba2dcccb0cc862029e99de2a9820c8"), looks := true }, kinds := [], alts := [], laidByText := true, laidKinds := [.handle], laidTests := true, laidLooks := .later }
def FindFirstCardSaid : Prop := Claim7.holds Tryd.pinned (.plain (OpenSpec.ofChange findFirstSpec)) findFirstCard

/-- THE SECOND FORM's CARD OF 'winnowfanlaw2.AutoSame'. -/
def autoSameUptoCard : Claim7 := { stood := { row := autoSameUptoRow, standIns := [], harness := (true, "b22f7a0eec186ffb4fb754ff472bcf2adfba2dcccb0cc862029e99de2a9820c8"), looks := true }, kinds := [], alts := [], laidByText := true, laidKinds := [.handle], laidTests := true, laidLooks := .later }
def AutoSameUptoCardSaid : Prop := Claim7.holds Tryd.pinned (.plain (OpenSpec.upto autoSameSpec)) autoSameUptoCard

/-- THE SECOND FORM's CARD OF 'winnowfanlaw2.FindLater'. -/
def findLaterUptoCard : Claim7 := { stood := { row := findLaterUptoRow, standIns := [], harness := (true, "b22f7a0eec186ffb4fb754ff472bcf2adfba2dcccb0cc862029e99de2a9820c8"), looks := true }, kinds := [], alts := [], laidByText := true, laidKinds := [.handle], laidTests := true, laidLooks := .later }
def FindLaterUptoCardSaid : Prop := Claim7.holds Tryd.pinned (.plain (OpenSpec.upto findLaterSpec)) findLaterUptoCard

/-- THE SECOND FORM's CARD OF 'winnowfanlaw2.FindIs'. -/
def findIsUptoCard : Claim7 := { stood := { row := findIsUptoRow, standIns := [], harness := (true, "b22f7a0eec186ffb4fb754ff472bcf2adfba2dcccb0cc862029e99de2a9820c8"), looks := true }, kinds := [], alts := [], laidByText := true, laidKinds := [.handle], laidTests := true, laidLooks := .later }
def FindIsUptoCardSaid : Prop := Claim7.holds Tryd.pinned (.plain (OpenSpec.upto findIsSpec)) findIsUptoCard

/-- THE SECOND FORM's CARD OF 'winnowfanlaw2.FindAll'. -/
def findAllUptoCard : Claim7 := { stood := { row := findAllUptoRow, standIns := [], harness := (true, "b22f7a0eec186ffb4fb754ff472bcf2adfba2dcccb0cc862029e99de2a9820c8"), looks := true }, kinds := [], alts := [], laidByText := true, laidKinds := [.handle], laidTests := true, laidLooks := .later }
def FindAllUptoCardSaid : Prop := Claim7.holds Tryd.pinned (.plain (OpenSpec.upto findAllSpec)) findAllUptoCard

/-- THE SECOND FORM's CARD OF 'winnowfanlaw3.SwapIs'. -/
def swapIsUptoCard : Claim7 := { stood := { row := swapIsUptoRow, standIns := [], harness := (true, "b22f7a0eec186ffb4fb754ff472bcf2adfba2dcccb0cc862029e99de2a9820c8"), looks := true }, kinds := [], alts := [], laidByText := true, laidKinds := [.handle], laidTests := true, laidLooks := .later }
def SwapIsUptoCardSaid : Prop := Claim7.holds Tryd.pinned (.plain (OpenSpec.upto swapIsSpec)) swapIsUptoCard

/-- THE SECOND FORM's CARD OF 'winnowfanlaw2.FindFirst'. -/
def findFirstUptoCard : Claim7 := { stood := { row := findFirstUptoRow, standIns := [], harness := (true, "b22f7a0eec186ffb4fb754ff472bcf2adfba2dcccb0cc862029e99de2a9820c8"), looks := true }, kinds := [], alts := [], laidByText := true, laidKinds := [.handle], laidTests := true, laidLooks := .later }
def FindFirstUptoCardSaid : Prop := Claim7.holds Tryd.pinned (.plain (OpenSpec.upto findFirstSpec)) findFirstUptoCard
end Rows
end Go.Proofs.YthcahjnniendnacDoor
