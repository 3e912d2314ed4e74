/-
  DERIVED. GIVEN WITH THE SEED: THE CARDS: each row of YthcahjnniendnabGreatDoorRows.lean that lists a variable, with what it lists TIED to the program's text (the seventh form; the later family's looks); each row that meets fmt, with fmt's text TOLD by the authors' own Lean function (tested against real Go, not proved from fmt's source: count such statements apart). THE CARD IS WHAT COUNTS. Prove the row's statement (the work); the ties are given (YthcahjnniendnabGreatDoorTie.lean); close each card by the builder's one call (the guide's Derived/Test/ToyasCard.lean, 'card_holds'). Laid BY PROGRAM, IN A SANDBOX (cutbox-door.mjs). By AI agents, Wed Nov 11 2026. No macro, syntax, notation, axiom, sorry.
-/
import Derived.Test.YthcahjnniendnabGreatDoorRows
import GoSem.ClaimSeven
namespace Go.Proofs.YthcahjnniendnabGreatDoor
namespace Rows

/-- THE TIED CARD OF 'winnowfantop.TopTurn'. -/
def topTurnCard : Claim7 := { stood := { row := topTurnRow, standIns := [], harness := (true, "58159b198a89eda8fbf1000993c706d58b32030c7c12f037d6e5492592460731"), looks := true }, kinds := [], alts := [], laidByText := true, laidKinds := [.data, .data, .data, .handle, .sentinel, .sentinel], laidTests := true, laidLooks := .later }
def TopTurnCardSaid : Prop := Claim7.holds Tryz.pinned (.plain (OpenSpec.ofChange topTurnSpec)) topTurnCard

/-- THE TIED CARD OF 'winnowfantop.TopWords'. -/
def topWordsCard : Claim7 := { stood := { row := topWordsRow, standIns := [], harness := (true, "58159b198a89eda8fbf1000993c706d58b32030c7c12f037d6e5492592460731"), looks := true }, kinds := [], alts := [], laidByText := true, laidKinds := [.data, .data, .data, .sentinel, .sentinel], laidTests := true, laidLooks := .later }
def TopWordsCardSaid : Prop := Claim7.holds Tryz.pinned (.plain (OpenSpec.ofChange topWordsSpec)) topWordsCard

/-- THE SECOND FORM's CARD OF 'winnowfantop.TopTurn'. -/
def topTurnUptoCard : Claim7 := { stood := { row := topTurnUptoRow, standIns := [], harness := (true, "58159b198a89eda8fbf1000993c706d58b32030c7c12f037d6e5492592460731"), looks := true }, kinds := [], alts := [], laidByText := true, laidKinds := [.data, .data, .data, .handle, .sentinel, .sentinel], laidTests := true, laidLooks := .later }
def TopTurnUptoCardSaid : Prop := Claim7.holds Tryz.pinned (.plain (OpenSpec.upto topTurnSpec)) topTurnUptoCard

/-- THE SECOND FORM's CARD OF 'winnowfantop.TopWords'. -/
def topWordsUptoCard : Claim7 := { stood := { row := topWordsUptoRow, standIns := [], harness := (true, "58159b198a89eda8fbf1000993c706d58b32030c7c12f037d6e5492592460731"), looks := true }, kinds := [], alts := [], laidByText := true, laidKinds := [.data, .data, .data, .sentinel, .sentinel], laidTests := true, laidLooks := .later }
def TopWordsUptoCardSaid : Prop := Claim7.holds Tryz.pinned (.plain (OpenSpec.upto topWordsSpec)) topWordsUptoCard
end Rows
end Go.Proofs.YthcahjnniendnabGreatDoor
