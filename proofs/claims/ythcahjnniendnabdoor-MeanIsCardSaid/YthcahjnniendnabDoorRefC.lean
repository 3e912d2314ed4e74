/-
  Walks of the document's answers: EmptyOf. And rex.End.
-/
import Derived.Test.YthcahjnniendnabDoorRefB
namespace Go.Proofs.YthcahjnniendnabDoor
open Go.RowKit Wf

def RXEndIs (r n : Int) (w : World) (e : Ending) (w' : World) : Prop := e = .returned (.tuple #[.int .i64 r, errV n]) ∧ Below w.heap.size w w'
/-- What rex.End's error is. -/
def endErr (l : List Nd) (i : Int) : Int := if chk l ≠ 0 then chk l else if i < 0 ∨ (l.length : Int) ≤ i then 1 else 0
end Go.Proofs.YthcahjnniendnabDoor
