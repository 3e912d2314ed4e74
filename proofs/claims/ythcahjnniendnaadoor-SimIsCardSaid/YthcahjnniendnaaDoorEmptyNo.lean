/-
  Package rex: Empty of a pattern that may not be; what nodes of a tree are.
-/
import Derived.Test.YthcahjnniendnaaDoorRexC
namespace Go.Proofs.YthcahjnniendnaaDoor
open Go.RowKit Wf

def EmptyNot (l : List Nd) (w : World) (e : Ending) (w' : World) : Prop := e = .returned (.tuple #[.bool false, errV (chk l)]) ∧ Below w.heap.size w w'
set_option maxRecDepth 100000 in
theorem Empty_not (l : List Nd) (v : Value) (w : World) (hr : RdN w v l) (hc : chk l ≠ 0) : Calls Tryd.prog 15 #[v] w (EmptyNot l w) := by
  obtain ⟨A, cap, rfl, hcap, hcap2, hmem⟩ := hr.open_
  have HR := Lib.hid hr
  have HE := Lib.hid (errV_ne hc)
  clear hmem hr hc
  go_enter Tryd.func15, Tryd.ntmps15
  go_wp2_with fail
  refine (Check_any l _ _ HR.out).mono ?_
  rintro e w1 ⟨rfl, hb1⟩
  rw [HE.out]
  go_wp2_with fail
  go_ret2
  exact ⟨by rw [HE.out]; rfl, hb1⟩

theorem flat_good (t : Rx) : ∀ n ∈ flat t, good n := by
  intro n hn
  obtain ⟨i, hi, he⟩ := List.getElem_of_mem hn
  obtain ⟨u, hu⟩ := at_each t i hi
  obtain ⟨m, h1, _, h2⟩ := hu.node
  rw [List.getElem?_eq_getElem hi, he] at h1
  cases h1
  exact h2

end Go.Proofs.YthcahjnniendnaaDoor
