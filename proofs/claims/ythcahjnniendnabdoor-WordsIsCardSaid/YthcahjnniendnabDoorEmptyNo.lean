/-
  Package rex: Empty of a pattern that may not be; what nodes of a tree are.
-/
import Derived.Test.YthcahjnniendnabDoorGRex
namespace Go.Proofs.YthcahjnniendnabDoor
open Go.RowKit Wf

def EmptyNot (l : List Nd) (w : World) (e : Ending) (w' : World) : Prop := e = .returned (.tuple #[.bool false, errV (chk l)]) ∧ Below w.heap.size w w'
theorem flat_good (t : Rx) : ∀ n ∈ flat t, good n := by
  intro n hn
  obtain ⟨i, hi, he⟩ := List.getElem_of_mem hn
  obtain ⟨u, hu⟩ := at_each t i hi
  obtain ⟨m, h1, _, h2⟩ := hu.node
  rw [List.getElem?_eq_getElem hi, he] at h1
  cases h1
  exact h2

end Go.Proofs.YthcahjnniendnabDoor
