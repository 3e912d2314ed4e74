/-
  strings.IndexByte: the kit's shelf at this program's numbers.
-/
import Derived.Shelf.Small.Strs
import Derived.Shelf.Strings.BuilderK
import Derived.Test.YthcahjnniendnabDoorProg
namespace Go.Proofs.YthcahjnniendnabDoor
open Go.Shelf Go.RowKit

def ren_layIdx : Go.Shelf.Ren := ⟨fun | 137 => 92 | 217 => 114 | 266 => 127 | n => n, fun | 3 => 3 | 5 => 5 | 9 => 9 | n => n, fun n => n⟩
theorem layIdx : Go.Proofs.Lays.n137 Tryd.prog ren_layIdx := {
  mixed := by kernel_rfl
  f137 := Tryd.func92.trans (congrArg some (by kernel_rfl))
  f217 := Tryd.func114.trans (congrArg some (by kernel_rfl))
  f266 := Tryd.func127.trans (congrArg some (by kernel_rfl))
  t3 := Tryd.underlying3
  a3 := Tryd.isAgg3
  z3 := Tryd.sizeOf3
  v3 := Tryd.zeroValue3
  t5 := Tryd.underlying5
  a5 := Tryd.isAgg5
  z5 := Tryd.sizeOf5
  v5 := Tryd.zeroValue5
  t9 := Tryd.underlying9
  a9 := Tryd.isAgg9
  z9 := Tryd.sizeOf9
  v9 := Tryd.zeroValue9 }


theorem IndexB_c (s : ByteArray) (c : Int) (w : World) : Calls Tryd.prog 92 #[.string s, .int .u8 c] w (fun e w' => e = .returned (.int .i64 (Lib.indexByte s.data.toList c.toNat.toUInt8)) ∧ w' = w) := Any.strings_IndexByte layIdx s c w
end Go.Proofs.YthcahjnniendnabDoor
