/-
  slices.Sort and slices.Compact at rows of ints: the kit's shelf at this program's numbers.
-/
import Derived.Shelf.Sort.Plain
import Derived.Shelf.Slices.In.SortNone
import Derived.Shelf.Slices.Cells
import Derived.Test.YthcahjnniendnacDoorProg
namespace Go.Proofs.YthcahjnniendnacDoor
open Go.Shelf Go.RowKit

def ren_laySort : Go.Shelf.Ren := ⟨fun | 125 => 65 | 128 => 92 | 129 => 93 | 189 => 46 | 215 => 105 | 216 => 89 | 257 => 64 | 294 => 83 | 295 => 84 | 296 => 85 | 297 => 86 | 298 => 87 | 299 => 88 | 300 => 90 | 301 => 91 | 328 => 100 | 329 => 101 | 330 => 102 | 331 => 103 | 332 => 104 | 343 => 106 | n => n, fun | 0 => 0 | 3 => 3 | 4 => 4 | 5 => 5 | 9 => 9 | 28 => 24 | 46 => 139 | 51 => 174 | 53 => 25 | 131 => 171 | 182 => 165 | 183 => 166 | 218 => 192 | 222 => 196 | 228 => 198 | 229 => 199 | n => n, fun n => n⟩
theorem laySort : Go.Proofs.Lays.n189 Tryd.prog ren_laySort := {
  mixed := by kernel_rfl
  f125 := Tryd.func65.trans (congrArg some (by kernel_rfl))
  f128 := Tryd.func92.trans (congrArg some (by kernel_rfl))
  f129 := Tryd.func93.trans (congrArg some (by kernel_rfl))
  f189 := Tryd.func46.trans (congrArg some (by kernel_rfl))
  f215 := Tryd.func105.trans (congrArg some (by kernel_rfl))
  f216 := Tryd.func89.trans (congrArg some (by kernel_rfl))
  f257 := Tryd.func64.trans (congrArg some (by kernel_rfl))
  f294 := Tryd.func83.trans (congrArg some (by kernel_rfl))
  f295 := Tryd.func84.trans (congrArg some (by kernel_rfl))
  f296 := Tryd.func85.trans (congrArg some (by kernel_rfl))
  f297 := Tryd.func86.trans (congrArg some (by kernel_rfl))
  f298 := Tryd.func87.trans (congrArg some (by kernel_rfl))
  f299 := Tryd.func88.trans (congrArg some (by kernel_rfl))
  f300 := Tryd.func90.trans (congrArg some (by kernel_rfl))
  f301 := Tryd.func91.trans (congrArg some (by kernel_rfl))
  f328 := Tryd.func100.trans (congrArg some (by kernel_rfl))
  f329 := Tryd.func101.trans (congrArg some (by kernel_rfl))
  f330 := Tryd.func102.trans (congrArg some (by kernel_rfl))
  f331 := Tryd.func103.trans (congrArg some (by kernel_rfl))
  f332 := Tryd.func104.trans (congrArg some (by kernel_rfl))
  f343 := Tryd.func106.trans (congrArg some (by kernel_rfl))
  t0 := Tryd.underlying0
  a0 := Tryd.isAgg0
  z0 := Tryd.sizeOf0
  v0 := Tryd.zeroValue0
  t3 := Tryd.underlying3
  a3 := Tryd.isAgg3
  z3 := Tryd.sizeOf3
  v3 := Tryd.zeroValue3
  t4 := Tryd.underlying4
  a4 := Tryd.isAgg4
  z4 := Tryd.sizeOf4
  v4 := Tryd.zeroValue4
  t5 := Tryd.underlying5
  a5 := Tryd.isAgg5
  z5 := Tryd.sizeOf5
  v5 := Tryd.zeroValue5
  t9 := Tryd.underlying9
  a9 := Tryd.isAgg9
  z9 := Tryd.sizeOf9
  v9 := Tryd.zeroValue9
  t28 := Tryd.underlying24
  a28 := Tryd.isAgg24
  z28 := Tryd.sizeOf24
  v28 := Tryd.zeroValue24
  t46 := Tryd.underlying139
  a46 := Tryd.isAgg139
  z46 := Tryd.sizeOf139
  v46 := Tryd.zeroValue139
  t51 := Tryd.underlying174
  a51 := Tryd.isAgg174
  z51 := Tryd.sizeOf174
  v51 := Tryd.zeroValue174
  t53 := Tryd.underlying25
  a53 := Tryd.isAgg25
  z53 := Tryd.sizeOf25
  v53 := Tryd.zeroValue25
  t131 := Tryd.underlying171
  a131 := Tryd.isAgg171
  z131 := Tryd.sizeOf171
  v131 := Tryd.zeroValue171
  t182 := Tryd.underlying165
  a182 := Tryd.isAgg165
  z182 := Tryd.sizeOf165
  v182 := Tryd.zeroValue165
  t183 := Tryd.underlying166
  a183 := Tryd.isAgg166
  z183 := Tryd.sizeOf166
  v183 := Tryd.zeroValue166
  t218 := Tryd.underlying192
  a218 := Tryd.isAgg192
  z218 := Tryd.sizeOf192
  v218 := Tryd.zeroValue192
  t222 := Tryd.underlying196
  a222 := Tryd.isAgg196
  z222 := Tryd.sizeOf196
  v222 := Tryd.zeroValue196
  t228 := Tryd.underlying198
  a228 := Tryd.isAgg198
  z228 := Tryd.sizeOf198
  v228 := Tryd.zeroValue198
  t229 := Tryd.underlying199
  a229 := Tryd.isAgg199
  z229 := Tryd.sizeOf199
  v229 := Tryd.zeroValue199 }

def ren_layCompact : Go.Shelf.Ren := ⟨fun | 20 => 47 | n => n, fun | 0 => 0 | 3 => 3 | 4 => 4 | 22 => 24 | n => n, fun n => n⟩
theorem layCompact : Go.Proofs.Lays2.n20 Tryd.prog ren_layCompact := {
  mixed := by kernel_rfl
  f20 := Tryd.func47.trans (congrArg some (by kernel_rfl))
  t0 := Tryd.underlying0
  a0 := Tryd.isAgg0
  z0 := Tryd.sizeOf0
  v0 := Tryd.zeroValue0
  t3 := Tryd.underlying3
  a3 := Tryd.isAgg3
  z3 := Tryd.sizeOf3
  v3 := Tryd.zeroValue3
  t4 := Tryd.underlying4
  a4 := Tryd.isAgg4
  z4 := Tryd.sizeOf4
  v4 := Tryd.zeroValue4
  t22 := Tryd.underlying24
  a22 := Tryd.isAgg24
  z22 := Tryd.sizeOf24
  v22 := Tryd.zeroValue24
  i3 := by kernel_rfl }


end Go.Proofs.YthcahjnniendnacDoor
