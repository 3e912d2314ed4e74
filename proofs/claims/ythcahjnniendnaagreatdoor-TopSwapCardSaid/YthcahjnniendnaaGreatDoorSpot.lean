/-
  Laws of the map from spots (two numbers) to slices: looked up, written.
-/
import Derived.Test.YthcahjnniendnaaGreatDoorGRex
import Derived.Laws.Tables
import Derived.Laws.Cover2
namespace Go.Proofs.YthcahjnniendnaaGreatDoor
open Go.RowKit Wf

/-- A spot as a key. -/
def spotV (a b : Int) : Value := .agg #[.int .i64 a, .int .i64 b]

theorem run_checkKey_int (em : Bool) (n : Nat) (a : Int) (w : World) : (Instr.checkKey em (n + 1) 3 (.int .i64 a)).run Tryz.prog w = .ok () w := by
  simp only [Instr.checkKey, Sem.run_bind, run_underlying Tryz.underlying3, Result.andThen_ok]
  rfl

/-- All keys are spots. -/
def Spots (es : List MapEntry) : Prop := ∀ e ∈ es, ∃ a b, e.key = spotV a b

theorem run_getObj_map {P : Program} {w : World} {r : Nat} {es : Array MapEntry} {clock : Nat} (h : w.heap[r]? = some (.map es clock)) : (getObj r).run P w = .ok (.map es clock) w := by
  simp [getObj, Sem.run, h]

theorem sameBits_spot (a b : Int) : Instr.sameBits 10000 (spotV a b) (spotV a b) = true := by
  rw [show (10000 : Nat) = 9999 + 1 from rfl]
  unfold spotV
  rw [Instr.sameBits]
  simp [Instr.sameBits]

/-- The map's block, turned. -/
def setMap (w : World) (r : Nat) (es : Array MapEntry) (clock : Nat) : World := { w with heap := w.heap.setIfInBounds r (.map es clock) }

theorem run_setObj_map {P : Program} {w : World} {r : Nat} {es es' : Array MapEntry} {clock clock' : Nat} (h : w.heap[r]? = some (.map es clock)) : (setObj r (.map es' clock')).run P w = .ok () (setMap w r es' clock') := by
  simp [setObj, Sem.run, h, setMap]

end Go.Proofs.YthcahjnniendnaaGreatDoor
