/-
  DERIVED. GIVEN WITH THE SEED: THE CARDS: each row of YthcahjnniendnacGreatDoorRows.lean that lists a variable, with what it lists TIED to the program's text (the seventh form; the later family's looks); each row that meets fmt, with fmt's text TOLD by the authors' own Lean function (tested against real Go, not proved from fmt's source: count such statements apart). THE CARD IS WHAT COUNTS. Prove the row's statement (the work); the ties are given (YthcahjnniendnacGreatDoorTie.lean); close each card by the builder's one call (the guide's Derived/Test/ToyasCard.lean, 'card_holds'). Laid BY PROGRAM, IN A SANDBOX (cutbox-door.mjs). By AI agents, Wed Nov 11 2026. No macro, syntax, notation, axiom, sorry.
-/
import Derived.Test.YthcahjnniendnacGreatDoorRows
import GoSem.ClaimSeven
namespace Go.Proofs.YthcahjnniendnacGreatDoor
namespace Rows

/-- THE TIED CARD OF 'winnowfanlaw1.SynIs'. -/
def synIsCard : Claim7 := { stood := { row := synIsRow, standIns := [], harness := (true, "651e00b2deefa1991a41a8c2797c43b85c0bc0588a6a2a0a6da6037fac751392"), looks := true }, kinds := [], alts := [], laidByText := true, laidKinds := [.data, .data, .data, .handle, .sentinel, .sentinel], laidTests := true, laidLooks := .later }
def SynIsCardSaid : Prop := Claim7.holds Tryz.pinned (.plain (OpenSpec.ofChange synIsSpec)) synIsCard

/-- THE TIED CARD OF 'winnowfanlaw1.SynBack'. -/
def synBackCard : Claim7 := { stood := { row := synBackRow, standIns := [], harness := (true, "651e00b2deefa1991a41a8c2797c43b85c0bc0588a6a2a0a6da6037fac751392"), looks := true }, kinds := [], alts := [], laidByText := true, laidKinds := [.data, .data, .data, .handle, .sentinel, .sentinel], laidTests := true, laidLooks := .later }
def SynBackCardSaid : Prop := Claim7.holds Tryz.pinned (.plain (OpenSpec.ofChange synBackSpec)) synBackCard

/-- THE TIED CARD OF 'winnowfanlaw3.SetAlone'. -/
def setAloneCard : Claim7 := { stood := { row := setAloneRow, standIns := [], harness := (true, "651e00b2deefa1991a41a8c2797c43b85c0bc0588a6a2a0a6da6037fac751392"), looks := true }, kinds := [], alts := [], laidByText := true, laidKinds := [.data, .data, .data, .sentinel, .sentinel], laidTests := true, laidLooks := .later }
def SetAloneCardSaid : Prop := Claim7.holds Tryz.pinned (.plain (OpenSpec.ofChange setAloneSpec)) setAloneCard

/-- THE TIED CARD OF 'winnowfanlaw3.SetFilter'. -/
def setFilterCard : Claim7 := { stood := { row := setFilterRow, standIns := [], harness := (true, "651e00b2deefa1991a41a8c2797c43b85c0bc0588a6a2a0a6da6037fac751392"), looks := true }, kinds := [], alts := [], laidByText := true, laidKinds := [.data, .data, .data, .sentinel, .sentinel], laidTests := true, laidLooks := .later }
def SetFilterCardSaid : Prop := Claim7.holds Tryz.pinned (.plain (OpenSpec.ofChange setFilterSpec)) setFilterCard

/-- THE TIED CARD OF 'winnowfanlaw3.SetPlays'. -/
def setPlaysCard : Claim7 := { stood := { row := setPlaysRow, standIns := [], harness := (true, "651e00b2deefa1991a41a8c2797c43b85c0bc0588a6a2a0a6da6037fac751392"), looks := true }, kinds := [], alts := [], laidByText := true, laidKinds := [.data, .data, .data, .handle, .sentinel, .sentinel], laidTests := true, laidLooks := .later }
def SetPlaysCardSaid : Prop := Claim7.holds Tryz.pinned (.plain (OpenSpec.ofChange setPlaysSpec)) setPlaysCard

/-- THE SECOND FORM's CARD OF 'winnowfanlaw1.SynIs'. -/
def synIsUptoCard : Claim7 := { stood := { row := synIsUptoRow, standIns := [], harness := (true, "651e00b2deefa1991a41a8c2797c43b85c0bc0588a6a2a0a6da6037fac751392"), looks := true }, kinds := [], alts := [], laidByText := true, laidKinds := [.data, .data, .data, .handle, .sentinel, .sentinel], laidTests := true, laidLooks := .later }
def SynIsUptoCardSaid : Prop := Claim7.holds Tryz.pinned (.plain (OpenSpec.upto synIsSpec)) synIsUptoCard

/-- THE SECOND FORM's CARD OF 'winnowfanlaw1.SynBack'. -/
def synBackUptoCard : Claim7 := { stood := { row := synBackUptoRow, standIns := [], harness := (true, "651e00b2deefa1991a41a8c2797c43b85c0bc0588a6a2a0a6da6037fac751392"), looks := true }, kinds := [], alts := [], laidByText := true, laidKinds := [.data, .data, .data, .handle, .sentinel, .sentinel], laidTests := true, laidLooks := .later }
def SynBackUptoCardSaid : Prop := Claim7.holds Tryz.pinned (.plain (OpenSpec.upto synBackSpec)) synBackUptoCard

/-- THE SECOND FORM's CARD OF 'winnowfanlaw3.SetAlone'. -/
def setAloneUptoCard : Claim7 := { stood := { row := setAloneUptoRow, standIns := [], harness := (true, "651e00b2deefa1991a41a8c2797c43b85c0bc0588a6a2a0a6da6037fac751392"), looks := true }, kinds := [], alts := [], laidByText := true, laidKinds := [.data, .data, .data, .sentinel, .sentinel], laidTests := true, laidLooks := .later }
def SetAloneUptoCardSaid : Prop := Claim7.holds Tryz.pinned (.plain (OpenSpec.upto setAloneSpec)) setAloneUptoCard

/-- THE SECOND FORM's CARD OF 'winnowfanlaw3.SetFilter'. -/
def setFilterUptoCard : Claim7 := { stood := { row := setFilterUptoRow, standIns := [], harness := (true, "651e00b2deefa1991a41a8c2797c43b85c0bc0588a6a2a0a6da6037fac751392"), looks := true }, kinds := [], alts := [], laidByText := true, laidKinds := [.data, .data, .data, .sentinel, .sentinel], laidTests := true, laidLooks := .later }
def SetFilterUptoCardSaid : Prop := Claim7.holds Tryz.pinned (.plain (OpenSpec.upto setFilterSpec)) setFilterUptoCard

/-- THE SECOND FORM's CARD OF 'winnowfanlaw3.SetPlays'. -/
def setPlaysUptoCard : Claim7 := { stood := { row := setPlaysUptoRow, standIns := [], harness := (true, "651e00b2deefa1991a41a8c2797c43b85c0bc0588a6a2a0a6da6037fac751392"), looks := true }, kinds := [], alts := [], laidByText := true, laidKinds := [.data, .data, .data, .handle, .sentinel, .sentinel], laidTests := true, laidLooks := .later }
def SetPlaysUptoCardSaid : Prop := Claim7.holds Tryz.pinned (.plain (OpenSpec.upto setPlaysSpec)) setPlaysUptoCard
end Rows
end Go.Proofs.YthcahjnniendnacGreatDoor
