/-
  Words that the plain laws' claims share.
-/
import Derived.Test.YthcahjnniendnabDoorOpen
import Derived.Below
import Derived.ChangeOld
import Derived.ShutString
namespace Go.Proofs.YthcahjnniendnabDoor.law
open Go.RowKit Wf

theorem own : ownKnob Tryd.prog.godebug = none := by kernel_rfl
theorem laidOut : laidOutB Tryd.prog = true := by kernel_rfl

def LawIs (w : World) (e : Ending) (w' : World) : Prop := e = .returned (.bool true) ∧ Below w.heap.size w w'

end Go.Proofs.YthcahjnniendnabDoor.law
