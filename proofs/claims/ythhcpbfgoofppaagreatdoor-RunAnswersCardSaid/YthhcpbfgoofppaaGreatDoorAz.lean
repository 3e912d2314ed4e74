/-
  Short names for what is used everywhere.
-/
import Derived.Below
namespace Wf
open Go Go.RowKit
abbrev B_ := ByteArray
abbrev W_ := World
abbrev V_ := Value
abbrev U_ := UInt8
theorem dt_ (p : Prop) [Decidable p] (h : p := by omega) : decide p = true := decide_eq_true h
theorem df_ (p : Prop) [Decidable p] (h : ¬ p := by omega) : decide p = false := decide_eq_false h
theorem lr_ (n : Nat) : n ≤ n := Nat.le_refl n
theorem br_ {B : Nat} {w : World} : Below B w w := Below.refl B w
theorem ba_ {w : World} {o : Obj} : Below w.heap.size w (w.alloc o) := br_.alloc (Nat.le_refl _) _
end Wf
