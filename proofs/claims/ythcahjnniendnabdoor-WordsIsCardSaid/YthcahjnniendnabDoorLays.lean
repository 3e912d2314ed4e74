/-
  slices.Sort and slices.Compact at rows of ints: the kit's shelf at this program's numbers.
-/
import Derived.Shelf.Sort.Plain
import Derived.Shelf.Slices.In.SortNone
import Derived.Shelf.Slices.Cells
import Derived.Test.YthcahjnniendnabDoorProg
namespace Go.Proofs.YthcahjnniendnabDoor
open Go.Shelf Go.RowKit

def ren_laySort : Go.Shelf.Ren := ⟨fun | 125 => 137 | 128 => 153 | 129 => 140 | 189 => 122 | 215 => 163 | 216 => 150 | 257 => 136 | 294 => 144 | 295 => 145 | 296 => 146 | 297 => 147 | 298 => 148 | 299 => 149 | 300 => 151 | 301 => 152 | 328 => 158 | 329 => 159 | 330 => 160 | 331 => 161 | 332 => 162 | 343 => 167 | n => n, fun | 0 => 0 | 3 => 3 | 4 => 4 | 5 => 5 | 9 => 9 | 28 => 41 | 46 => 156 | 51 => 225 | 53 => 52 | 131 => 234 | 182 => 228 | 183 => 229 | 218 => 238 | 222 => 242 | 228 => 247 | 229 => 248 | n => n, fun n => n⟩
theorem laySort : Go.Proofs.Lays.n189 Tryd.prog ren_laySort := {
  mixed := by kernel_rfl
  f125 := Tryd.func137.trans (congrArg some (by kernel_rfl))
  f128 := Tryd.func153.trans (congrArg some (by kernel_rfl))
  f129 := Tryd.func140.trans (congrArg some (by kernel_rfl))
  f189 := Tryd.func122.trans (congrArg some (by kernel_rfl))
  f215 := Tryd.func163.trans (congrArg some (by kernel_rfl))
  f216 := Tryd.func150.trans (congrArg some (by kernel_rfl))
  f257 := Tryd.func136.trans (congrArg some (by kernel_rfl))
  f294 := Tryd.func144.trans (congrArg some (by kernel_rfl))
  f295 := Tryd.func145.trans (congrArg some (by kernel_rfl))
  f296 := Tryd.func146.trans (congrArg some (by kernel_rfl))
  f297 := Tryd.func147.trans (congrArg some (by kernel_rfl))
  f298 := Tryd.func148.trans (congrArg some (by kernel_rfl))
  f299 := Tryd.func149.trans (congrArg some (by kernel_rfl))
  f300 := Tryd.func151.trans (congrArg some (by kernel_rfl))
  f301 := Tryd.func152.trans (congrArg some (by kernel_rfl))
  f328 := Tryd.func158.trans (congrArg some (by kernel_rfl))
  f329 := Tryd.func159.trans (congrArg some (by kernel_rfl))
  f330 := Tryd.func160.trans (congrArg some (by kernel_rfl))
  f331 := Tryd.func161.trans (congrArg some (by kernel_rfl))
  f332 := Tryd.func162.trans (congrArg some (by kernel_rfl))
  f343 := Tryd.func167.trans (congrArg some (by kernel_rfl))
  t0 := Tryd.underlying0
  a0 := Tryd.isAgg0
  z0 := Tryd.sizeOf0
  v0 := Tryd.zeroValue0
  t3 := Tryd.underlying3
  a3 := Tryd.isAgg3
  z3 := Tryd.sizeOf3
  v3 := Tryd.zeroValue3
  t4 := Tryd.underlying4
  a4 := Tryd.isAgg4
  z4 := Tryd.sizeOf4
  v4 := Tryd.zeroValue4
  t5 := Tryd.underlying5
  a5 := Tryd.isAgg5
  z5 := Tryd.sizeOf5
  v5 := Tryd.zeroValue5
  t9 := Tryd.underlying9
  a9 := Tryd.isAgg9
  z9 := Tryd.sizeOf9
  v9 := Tryd.zeroValue9
  t28 := Tryd.underlying41
  a28 := Tryd.isAgg41
  z28 := Tryd.sizeOf41
  v28 := Tryd.zeroValue41
  t46 := Tryd.underlying156
  a46 := Tryd.isAgg156
  z46 := Tryd.sizeOf156
  v46 := Tryd.zeroValue156
  t51 := Tryd.underlying225
  a51 := Tryd.isAgg225
  z51 := Tryd.sizeOf225
  v51 := Tryd.zeroValue225
  t53 := Tryd.underlying52
  a53 := Tryd.isAgg52
  z53 := Tryd.sizeOf52
  v53 := Tryd.zeroValue52
  t131 := Tryd.underlying234
  a131 := Tryd.isAgg234
  z131 := Tryd.sizeOf234
  v131 := Tryd.zeroValue234
  t182 := Tryd.underlying228
  a182 := Tryd.isAgg228
  z182 := Tryd.sizeOf228
  v182 := Tryd.zeroValue228
  t183 := Tryd.underlying229
  a183 := Tryd.isAgg229
  z183 := Tryd.sizeOf229
  v183 := Tryd.zeroValue229
  t218 := Tryd.underlying238
  a218 := Tryd.isAgg238
  z218 := Tryd.sizeOf238
  v218 := Tryd.zeroValue238
  t222 := Tryd.underlying242
  a222 := Tryd.isAgg242
  z222 := Tryd.sizeOf242
  v222 := Tryd.zeroValue242
  t228 := Tryd.underlying247
  a228 := Tryd.isAgg247
  z228 := Tryd.sizeOf247
  v228 := Tryd.zeroValue247
  t229 := Tryd.underlying248
  a229 := Tryd.isAgg248
  z229 := Tryd.sizeOf248
  v229 := Tryd.zeroValue248 }

end Go.Proofs.YthcahjnniendnabDoor
