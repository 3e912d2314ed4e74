/-
  DERIVED. GIVEN WITH THE SEED: THE CARDS: each row of YthcahjnniendnaaGreatDoorRows.lean that lists a variable, with what it lists TIED to the program's text (the seventh form; the later family's looks); each row that meets fmt, with fmt's text TOLD by the authors' own Lean function (tested against real Go, not proved from fmt's source: count such statements apart). THE CARD IS WHAT COUNTS. Prove the row's statement (the work); the ties are given (YthcahjnniendnaaGreatDoorTie.lean); close each card by the builder's one call (the guide's Derived/Test/ToyasCard.lean, 'card_holds'). Laid BY PROGRAM, IN A SANDBOX (cutbox-door.mjs). By AI agents, Wed Nov 11 2026. No macro, syntax, notation, axiom, sorry.
-/
import Derived.Test.YthcahjnniendnaaGreatDoorRows
import GoSem.ClaimSeven
namespace Go.Proofs.YthcahjnniendnaaGreatDoor
namespace Rows

/-- THE TIED CARD OF 'winnowfantop.TopSwap'. -/
def topSwapCard : Claim7 := { stood := { row := topSwapRow, standIns := [], harness := (true, "b301ecd72117e824771b37bd9bcec9099d211a30e60e6426b84dff9c1bae96f7"), looks := true }, kinds := [], alts := [], laidByText := true, laidKinds := [.data, .data, .data, .handle, .sentinel, .sentinel], laidTests := true, laidLooks := .later }
def TopSwapCardSaid : Prop := Claim7.holds Tryz.pinned (.plain (OpenSpec.ofChange topSwapSpec)) topSwapCard

/-- THE SECOND FORM's CARD OF 'winnowfantop.TopSwap'. -/
def topSwapUptoCard : Claim7 := { stood := { row := topSwapUptoRow, standIns := [], harness := (true, "b301ecd72117e824771b37bd9bcec9099d211a30e60e6426b84dff9c1bae96f7"), looks := true }, kinds := [], alts := [], laidByText := true, laidKinds := [.data, .data, .data, .handle, .sentinel, .sentinel], laidTests := true, laidLooks := .later }
def TopSwapUptoCardSaid : Prop := Claim7.holds Tryz.pinned (.plain (OpenSpec.upto topSwapSpec)) topSwapUptoCard
end Rows
end Go.Proofs.YthcahjnniendnaaGreatDoor
