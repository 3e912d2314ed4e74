/-
  Package lit: Whole and Needed of a pattern that may not be.
-/
import Derived.Test.YthcahjnniendnabDoorLit
namespace Go.Proofs.YthcahjnniendnabDoor
open Go.RowKit Wf

def NeededNot (l : List Nd) (w : World) (e : Ending) (w' : World) : Prop := e = .returned (.tuple #[.string ⟨#[]⟩, errV (chk l)]) ∧ Below w.heap.size w w'
set_option maxRecDepth 100000 in
theorem Needed_not (l : List Nd) (v : Value) (w : World) (hr : RdN w v l) (hc : chk l ≠ 0) : Calls Tryd.prog 15 #[v] w (NeededNot l w) := by
  obtain ⟨A, cap, rfl, hcap, hcap2, hmem⟩ := hr.open_
  have HR := Lib.hid hr
  have HE := Lib.hid (errV_ne hc)
  clear hmem hr hc
  go_enter Tryd.func15, Tryd.ntmps15
  go_wp2_with fail
  refine (Check_any l _ _ HR.out).mono ?_
  rintro e w1 ⟨rfl, hb1⟩
  rw [HE.out]
  go_wp2_with fail
  go_ret2
  exact ⟨by rw [HE.out]; rfl, hb1⟩
def WholeNot (l : List Nd) (w : World) (e : Ending) (w' : World) : Prop := e = .returned (.tuple #[.string ⟨#[]⟩, .bool false, errV (chk l)]) ∧ Below w.heap.size w w'
set_option maxRecDepth 100000 in
theorem Whole_not (l : List Nd) (v : Value) (w : World) (hr : RdN w v l) (hc : chk l ≠ 0) : Calls Tryd.prog 13 #[v] w (WholeNot l w) := by
  obtain ⟨A, cap, rfl, hcap, hcap2, hmem⟩ := hr.open_
  have HR := Lib.hid hr
  have HE := Lib.hid (errV_ne hc)
  clear hmem hr hc
  go_enter Tryd.func13, Tryd.ntmps13
  go_wp2_with fail
  refine (Check_any l _ _ HR.out).mono ?_
  rintro e w1 ⟨rfl, hb1⟩
  rw [HE.out]
  go_wp2_with fail
  go_ret3
  exact ⟨by rw [HE.out]; rfl, hb1⟩

end Go.Proofs.YthcahjnniendnabDoor
