/-
  What the condition on four of the library's variables (three tables, a type's handle) gives a walk; a world that meets it.
-/
import Derived.Test.YthcahjnniendnabDoorItoa
import Derived.Test.YthcahjnniendnabDoorLaid
import Derived.Lib.LaidTab
import Derived.LaidSub
namespace Go.Proofs.YthcahjnniendnabDoor.lawT
open Go.ChangeShapes Go.WideShapes Go.RowKit
set_option maxRecDepth 100000

/-- The variables that the rows list. -/
noncomputable def laidL : List (String × DataW Unit) := [("math/bits.deBruijn32tab", Rows.laid_math_bits_deBruijn32tab), ("math/bits.deBruijn64tab", Rows.laid_math_bits_deBruijn64tab), ("internal/strconv.uint64pow10", Rows.laid_internal_strconv_uint64pow10), ("errors.errorType", Rows.laid_errors_errorType)]

theorem handle_of_laid {W : World} (h : laidMetH Tryd.prog laidL W) : ErrT W := by
  have e : laidL.filter (fun x => x.1 == "errors.errorType") = law.laidL := by kernel_rfl
  have h1 := h.filter (fun x => x.1 == "errors.errorType")
  rw [e] at h1
  exact law.handle_of_laid h1
theorem tab_of_laid {W : World} (h : laidMetH Tryd.prog laidL W) : Tab10 W := by
  have e : laidL.filter (fun x => x.1 == "internal/strconv.uint64pow10") = [("internal/strconv.uint64pow10", Lib.tabData .u64 Lib.pow10Tab)] := by kernel_rfl
  have h1 := h.filter (fun x => x.1 == "internal/strconv.uint64pow10")
  rw [e] at h1
  have h2 : laidMet Tryd.prog [("internal/strconv.uint64pow10", Lib.tabData .u64 Lib.pow10Tab)] W := h1
  exact Lib.tabIs_of_head (g := 2) (t := 224) (e := 52) (n := 20) (by kernel_rfl) (by kernel_rfl) (by kernel_rfl) (by kernel_rfl) (by kernel_rfl) (by kernel_rfl) h2

/-- A table's cells. -/
def tabCells : DataW Unit → Array Value
  | .agg xs => (xs.map fun | .lit (.int k z) => Value.int k z | _ => Value.nilIface).toArray
  | _ => #[]
def put (w : World) (g : Nat) (cs : Array Value) : World := { w with heap := w.heap.modify g fun
      | .cells _ t frozen => .cells cs t frozen
      | o => o }
/-- A world that meets the condition: the settled one, the variables' cells laid. -/
noncomputable def laidWorld (os : Os) : World :=
  put (put (put (put (World.holding Tryd.prog os ⟨#[], #[], []⟩) 0 #[.iface 200 (.agg #[.pointer (some ⟨7, 29, none⟩)])])
    2 (tabCells Rows.laid_internal_strconv_uint64pow10)) 3 (tabCells Rows.laid_math_bits_deBruijn32tab)) 4 (tabCells Rows.laid_math_bits_deBruijn64tab)
theorem laidWorld_met (os : Os) (args : Array Value) : laidMetH Tryd.prog laidL ((laidWorld os).forCall (fun _ _ => 0) ⟨#[], args, []⟩).memory :=
  laidMetH_of_parts (laidMet_of_run' 8 (by kernel_rfl) (by kernel_rfl)) (by kernel_rfl)

end Go.Proofs.YthcahjnniendnabDoor.lawT
