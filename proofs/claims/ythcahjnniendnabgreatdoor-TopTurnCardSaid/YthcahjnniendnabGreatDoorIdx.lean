/-
  strings.IndexByte: the kit's shelf at this program's numbers.
-/
import Derived.Shelf.Small.Strs
import Derived.Shelf.Strings.BuilderK
import Derived.Test.YthcahjnniendnabGreatDoorProg
namespace Go.Proofs.YthcahjnniendnabGreatDoor
open Go.Shelf Go.RowKit

def ren_layIdx : Go.Shelf.Ren := ⟨fun | 137 => 108 | 217 => 118 | 266 => 125 | n => n, fun | 3 => 3 | 5 => 5 | 9 => 9 | n => n, fun n => n⟩
theorem layIdx : Go.Proofs.Lays.n137 Tryz.prog ren_layIdx := {
  mixed := by kernel_rfl
  f137 := Tryz.func108.trans (congrArg some (by kernel_rfl))
  f217 := Tryz.func118.trans (congrArg some (by kernel_rfl))
  f266 := Tryz.func125.trans (congrArg some (by kernel_rfl))
  t3 := Tryz.underlying3
  a3 := Tryz.isAgg3
  z3 := Tryz.sizeOf3
  v3 := Tryz.zeroValue3
  t5 := Tryz.underlying5
  a5 := Tryz.isAgg5
  z5 := Tryz.sizeOf5
  v5 := Tryz.zeroValue5
  t9 := Tryz.underlying9
  a9 := Tryz.isAgg9
  z9 := Tryz.sizeOf9
  v9 := Tryz.zeroValue9 }


theorem IndexB_c (s : ByteArray) (c : Int) (w : World) : Calls Tryz.prog 108 #[.string s, .int .u8 c] w (fun e w' => e = .returned (.int .i64 (Lib.indexByte s.data.toList c.toNat.toUInt8)) ∧ w' = w) := Any.strings_IndexByte layIdx s c w
end Go.Proofs.YthcahjnniendnabGreatDoor
