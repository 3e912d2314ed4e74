/-
  Laws of the map from spots (two numbers) to slices: looked up, written.
-/
import Derived.Test.YthhcpbfgoofppaaGreatDoorGRex
import Derived.Laws.Tables
import Derived.Laws.Cover2
set_option linter.unusedVariables false
set_option linter.unusedSimpArgs false
namespace Go.Proofs.YthhcpbfgoofppaaGreatDoor
open Go.RowKit Wf
theorem run_getObj_map {P : Program} {w : World} {r : Nat} {es : Array MapEntry} {clock : Nat} (h : w.heap[r]? = some (.map es clock)) : (getObj r).run P w = .ok (.map es clock) w:=by
 simp [getObj,Sem.run,h]
def setMap (w : World) (r : Nat) (es : Array MapEntry) (clock : Nat) : World:={ w with heap:=w.heap.setIfInBounds r (.map es clock) }
theorem run_setObj_map {P : Program} {w : World} {r : Nat} {es es' : Array MapEntry} {clock clock' : Nat} (h : w.heap[r]? = some (.map es clock)) : (setObj r (.map es' clock')).run P w = .ok () (setMap w r es' clock'):=by
 simp [setObj,Sem.run,h,setMap]
end Go.Proofs.YthhcpbfgoofppaaGreatDoor
