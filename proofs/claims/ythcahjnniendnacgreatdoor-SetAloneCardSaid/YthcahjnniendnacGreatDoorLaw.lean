/-
  Words that the plain laws' claims share.
-/
import Derived.Test.YthcahjnniendnacGreatDoorGOp
import Derived.Below
import Derived.ChangeOld
import Derived.ShutString
namespace Go.Proofs.YthcahjnniendnacGreatDoor.law
open Go.RowKit Wf

theorem own : ownKnob Tryz.prog.godebug = none := by kernel_rfl
theorem laidOut : laidOutB Tryz.prog = true := by kernel_rfl

def LawIs (w : World) (e : Ending) (w' : World) : Prop := e = .returned (.bool true) ∧ Below w.heap.size w w'

end Go.Proofs.YthcahjnniendnacGreatDoor.law
