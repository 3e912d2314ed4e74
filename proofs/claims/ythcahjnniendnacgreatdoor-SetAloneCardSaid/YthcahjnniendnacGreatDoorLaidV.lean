/-
  What the condition on the library's variables that the rows list (tables, two sentinels) gives a walk; a world that meets it.
-/
import Derived.Test.YthcahjnniendnacGreatDoorGSynA
import Derived.Test.YthcahjnniendnacGreatDoorRows
import Derived.ChangeSame
import Derived.ChangeVars
import Derived.JoinedOf
import Derived.LaidLaws
import Derived.LaidHandle
import Derived.Stop.Joined
import Derived.Lib.LaidTab
import Derived.LaidSub

namespace Go.Proofs.YthcahjnniendnacGreatDoor.lawV
open Go.ChangeShapes Go.WideShapes Go.RowKit
set_option maxRecDepth 100000

/-- The variables that the rows list. -/
noncomputable def laidL : List (String × DataW Unit) := [("math/bits.deBruijn32tab", Rows.laid_math_bits_deBruijn32tab), ("math/bits.deBruijn64tab", Rows.laid_math_bits_deBruijn64tab), ("internal/strconv.uint64pow10", Rows.laid_internal_strconv_uint64pow10), ("strconv.ErrRange", Rows.laid_strconv_ErrRange), ("strconv.ErrSyntax", Rows.laid_strconv_ErrSyntax)]
theorem es : Tryz.prog.globalNamed "strconv.ErrSyntax" = some 2 := by kernel_rfl
theorem est : (Tryz.prog.globals[2]?).map (·.type) = some 27 := by kernel_rfl
theorem esi : ∃ ms, Tryz.prog.underlying 27 = some (.interface ms) := ⟨_, Tryz.underlying27⟩
theorem syn_of_laid {W : World} (h : laidMetH Tryz.prog laidL W) : ∃ ev, SynE ev W := by
  have e : laidL.filter (fun x => x.1 == "strconv.ErrSyntax") = [("strconv.ErrSyntax", Rows.laid_strconv_ErrSyntax)] := by kernel_rfl
  have h1 := h.filter (fun x => x.1 == "strconv.ErrSyntax")
  rw [e] at h1
  have h2 : laidMet Tryz.prog [("strconv.ErrSyntax", Rows.laid_strconv_ErrSyntax)] W := h1
  obtain ⟨ps, ⟨g0, t0, cs0, f0, p0, q0, hg0, ht0, hv0, hd0, _, _⟩, _, _⟩ := h2
  obtain rfl := Option.some.inj (es.symm.trans hg0)
  obtain rfl := Option.some.inj (est.symm.trans ht0)
  obtain ⟨ms, hms⟩ := esi
  obtain ⟨f1, u, v, hl, _, _⟩ := iface_of_trod hms hd0
  have hc := World.var?_cell hg0 hv0 0
  have hc2 : cs0[0]? = some (.iface u v) := by rw [← Array.getElem?_toList, hl]; rfl
  exact ⟨.iface u v, hc.trans hc2, .inr ⟨u, v, rfl⟩⟩

/-- A table's cells. -/
def tabCells : DataW Unit → Array Value
  | .agg xs => (xs.map fun | .lit (.int k z) => Value.int k z | _ => Value.nilIface).toArray
  | _ => #[]
/-- A sentinel's text. -/
def sentText : DataW Unit → ByteArray
  | .iface _ (.ptr (.agg [.lit (.string l)])) => ⟨l.toArray⟩
  | _ => ⟨#[]⟩
def put (w : World) (g : Nat) (cs : Array Value) : World := { w with heap := w.heap.modify g fun
      | .cells _ t frozen => .cells cs t frozen
      | o => o }
noncomputable def low : Nat := (World.holding Tryz.prog default ⟨#[], #[], []⟩).heap.size
/-- A world that meets the condition: the settled one, the variables' cells laid. -/
noncomputable def laidWorld (os : Os) : World :=
  put (put (put (put (put (World.holding Tryz.prog os ⟨#[.cells #[.string (sentText Rows.laid_strconv_ErrRange)] 300, .cells #[.string (sentText Rows.laid_strconv_ErrSyntax)] 300], #[], []⟩) 4 (tabCells Rows.laid_internal_strconv_uint64pow10)) 5 (tabCells Rows.laid_math_bits_deBruijn32tab)) 6 (tabCells Rows.laid_math_bits_deBruijn64tab)) 3 #[.iface 298 (.pointer (some ⟨low, 0, none⟩))]) 2 #[.iface 298 (.pointer (some ⟨low + 1, 0, none⟩))]
theorem laidWorld_met (os : Os) (args : Array Value) : laidMetH Tryz.prog laidL ((laidWorld os).forCall (fun _ _ => 0) ⟨#[], args, []⟩).memory :=
  laidMetH_of_parts (laidMet_of_run' 8 (by kernel_rfl) (by kernel_rfl)) (by kernel_rfl)

end Go.Proofs.YthcahjnniendnacGreatDoor.lawV
