/-
  Pu, Idx.
-/
import Derived.Shelf.Pu.ToError
import Derived.Shelf.Pu.Lower
import Derived.Below
import Derived.Test.YthcahjnniendnabGreatDoorProg
import Derived.Shelf.Small.Strs
import Derived.Shelf.Strings.BuilderK
/-
  strconv.toError and internal/strconv.lower: the kit's shelf at this program's numbers.
-/
namespace Go.Proofs.YthcahjnniendnabGreatDoor
open Go.Shelf Go.RowKit

def ren_layErr : Go.Shelf.Ren := ⟨fun | 17 => 132 | 21 => 135 | 22 => 136 | 23 => 137 | 24 => 138 | 25 => 139 | 26 => 140 | 27 => 141 | 28 => 142 | 29 => 143 | 30 => 144 | 31 => 145 | 32 => 146 | 33 => 147 | 34 => 148 | 35 => 106 | 36 => 149 | 37 => 150 | 38 => 151 | 39 => 152 | 40 => 153 | n => n, fun | 0 => 0 | 2 => 2 | 3 => 3 | 4 => 4 | 5 => 5 | 9 => 9 | 20 => 20 | 22 => 39 | 24 => 27 | 34 => 242 | 36 => 203 | 37 => 122 | 39 => 245 | 44 => 250 | 47 => 173 | 48 => 253 | 50 => 255 | 52 => 257 | 55 => 259 | 59 => 262 | 60 => 218 | 61 => 263 | 65 => 264 | 66 => 265 | 67 => 127 | n => n, fun | 0 => 2 | 1 => 3 | 2 => 4 | 3 => 5 | 4 => 6 | n => n⟩
theorem layErr : Go.Proofs.LaysPu.n17 Tryz.prog ren_layErr := {
  mixed := by kernel_rfl
  f17 := Tryz.func132.trans (congrArg some (by kernel_rfl))
  f21 := Tryz.func135.trans (congrArg some (by kernel_rfl))
  f22 := Tryz.func136.trans (congrArg some (by kernel_rfl))
  f23 := Tryz.func137.trans (congrArg some (by kernel_rfl))
  f24 := Tryz.func138.trans (congrArg some (by kernel_rfl))
  f25 := Tryz.func139.trans (congrArg some (by kernel_rfl))
  f26 := Tryz.func140.trans (congrArg some (by kernel_rfl))
  f27 := Tryz.func141.trans (congrArg some (by kernel_rfl))
  f28 := Tryz.func142.trans (congrArg some (by kernel_rfl))
  f29 := Tryz.func143.trans (congrArg some (by kernel_rfl))
  f30 := Tryz.func144.trans (congrArg some (by kernel_rfl))
  f31 := Tryz.func145.trans (congrArg some (by kernel_rfl))
  f32 := Tryz.func146.trans (congrArg some (by kernel_rfl))
  f33 := Tryz.func147.trans (congrArg some (by kernel_rfl))
  f34 := Tryz.func148.trans (congrArg some (by kernel_rfl))
  f35 := Tryz.func106.trans (congrArg some (by kernel_rfl))
  f36 := Tryz.func149.trans (congrArg some (by kernel_rfl))
  f37 := Tryz.func150.trans (congrArg some (by kernel_rfl))
  f38 := Tryz.func151.trans (congrArg some (by kernel_rfl))
  f39 := Tryz.func152.trans (congrArg some (by kernel_rfl))
  f40 := Tryz.func153.trans (congrArg some (by kernel_rfl))
  t0 := Tryz.underlying0
  a0 := Tryz.isAgg0
  z0 := Tryz.sizeOf0
  v0 := Tryz.zeroValue0
  i0 := by kernel_rfl
  t2 := Tryz.underlying2
  a2 := Tryz.isAgg2
  z2 := Tryz.sizeOf2
  v2 := Tryz.zeroValue2
  i2 := by kernel_rfl
  t3 := Tryz.underlying3
  a3 := Tryz.isAgg3
  z3 := Tryz.sizeOf3
  v3 := Tryz.zeroValue3
  i3 := by kernel_rfl
  t4 := Tryz.underlying4
  a4 := Tryz.isAgg4
  z4 := Tryz.sizeOf4
  v4 := Tryz.zeroValue4
  i4 := by kernel_rfl
  t5 := Tryz.underlying5
  a5 := Tryz.isAgg5
  z5 := Tryz.sizeOf5
  v5 := Tryz.zeroValue5
  i5 := by kernel_rfl
  t9 := Tryz.underlying9
  a9 := Tryz.isAgg9
  z9 := Tryz.sizeOf9
  v9 := Tryz.zeroValue9
  i9 := by kernel_rfl
  t20 := Tryz.underlying20
  a20 := Tryz.isAgg20
  z20 := Tryz.sizeOf20
  v20 := Tryz.zeroValue20
  i20 := by kernel_rfl
  t22 := Tryz.underlying39
  a22 := Tryz.isAgg39
  z22 := Tryz.sizeOf39
  v22 := Tryz.zeroValue39
  i22 := by kernel_rfl
  t24 := Tryz.underlying27
  a24 := Tryz.isAgg27
  z24 := Tryz.sizeOf27
  v24 := Tryz.zeroValue27
  i24 := by kernel_rfl
  t34 := Tryz.underlying242
  a34 := Tryz.isAgg242
  z34 := Tryz.sizeOf242
  v34 := Tryz.zeroValue242
  i34 := by kernel_rfl
  c34 := by kernel_rfl
  t36 := Tryz.underlying203
  a36 := Tryz.isAgg203
  z36 := Tryz.sizeOf203
  v36 := Tryz.zeroValue203
  i36 := by kernel_rfl
  t37 := Tryz.underlying122
  a37 := Tryz.isAgg122
  z37 := Tryz.sizeOf122
  v37 := Tryz.zeroValue122
  i37 := by kernel_rfl
  t39 := Tryz.underlying245
  a39 := Tryz.isAgg245
  z39 := Tryz.sizeOf245
  v39 := Tryz.zeroValue245
  i39 := by kernel_rfl
  t44 := Tryz.underlying250
  a44 := Tryz.isAgg250
  z44 := Tryz.sizeOf250
  v44 := Tryz.zeroValue250
  i44 := by kernel_rfl
  t47 := Tryz.underlying173
  a47 := Tryz.isAgg173
  z47 := Tryz.sizeOf173
  v47 := Tryz.zeroValue173
  i47 := by kernel_rfl
  t48 := Tryz.underlying253
  a48 := Tryz.isAgg253
  z48 := Tryz.sizeOf253
  v48 := Tryz.zeroValue253
  i48 := by kernel_rfl
  t50 := Tryz.underlying255
  a50 := Tryz.isAgg255
  z50 := Tryz.sizeOf255
  v50 := Tryz.zeroValue255
  i50 := by kernel_rfl
  t52 := Tryz.underlying257
  a52 := Tryz.isAgg257
  z52 := Tryz.sizeOf257
  v52 := Tryz.zeroValue257
  i52 := by kernel_rfl
  t55 := Tryz.underlying259
  a55 := Tryz.isAgg259
  z55 := Tryz.sizeOf259
  v55 := Tryz.zeroValue259
  i55 := by kernel_rfl
  t59 := Tryz.underlying262
  a59 := Tryz.isAgg262
  z59 := Tryz.sizeOf262
  v59 := Tryz.zeroValue262
  i59 := by kernel_rfl
  t60 := Tryz.underlying218
  a60 := Tryz.isAgg218
  z60 := Tryz.sizeOf218
  v60 := Tryz.zeroValue218
  i60 := by kernel_rfl
  t61 := Tryz.underlying263
  a61 := Tryz.isAgg263
  z61 := Tryz.sizeOf263
  t65 := Tryz.underlying264
  a65 := Tryz.isAgg264
  z65 := Tryz.sizeOf264
  v65 := Tryz.zeroValue264
  i65 := by kernel_rfl
  t66 := Tryz.underlying265
  a66 := Tryz.isAgg265
  z66 := Tryz.sizeOf265
  v66 := Tryz.zeroValue265
  i66 := by kernel_rfl
  t67 := Tryz.underlying127
  a67 := Tryz.isAgg127
  z67 := Tryz.sizeOf127
  v67 := Tryz.zeroValue127
  i67 := by kernel_rfl
  g0 := by kernel_rfl
  m0 := by kernel_rfl
  g1 := by kernel_rfl
  m1 := by kernel_rfl
  g2 := by kernel_rfl
  m2 := by kernel_rfl
  g3 := by kernel_rfl
  m3 := by kernel_rfl
  g4 := by kernel_rfl
  m4 := by kernel_rfl }

def ren_layLow : Go.Shelf.Ren := ⟨fun | 19 => 133 | n => n, fun | 5 => 5 | n => n, fun n => n⟩
theorem layLow : Go.Proofs.LaysPu.n19 Tryz.prog ren_layLow := {
  mixed := by kernel_rfl
  f19 := Tryz.func133.trans (congrArg some (by kernel_rfl))
  t5 := Tryz.underlying5
  a5 := Tryz.isAgg5
  z5 := Tryz.sizeOf5
  v5 := Tryz.zeroValue5
  i5 := by kernel_rfl }


end Go.Proofs.YthcahjnniendnabGreatDoor

/-
  strings.IndexByte: the kit's shelf at this program's numbers.
-/
namespace Go.Proofs.YthcahjnniendnabGreatDoor
open Go.Shelf Go.RowKit

def ren_layIdx : Go.Shelf.Ren := ⟨fun | 137 => 108 | 217 => 118 | 266 => 125 | n => n, fun | 3 => 3 | 5 => 5 | 9 => 9 | n => n, fun n => n⟩
theorem layIdx : Go.Proofs.Lays.n137 Tryz.prog ren_layIdx := {
  mixed := by kernel_rfl
  f137 := Tryz.func108.trans (congrArg some (by kernel_rfl))
  f217 := Tryz.func118.trans (congrArg some (by kernel_rfl))
  f266 := Tryz.func125.trans (congrArg some (by kernel_rfl))
  t3 := Tryz.underlying3
  a3 := Tryz.isAgg3
  z3 := Tryz.sizeOf3
  v3 := Tryz.zeroValue3
  t5 := Tryz.underlying5
  a5 := Tryz.isAgg5
  z5 := Tryz.sizeOf5
  v5 := Tryz.zeroValue5
  t9 := Tryz.underlying9
  a9 := Tryz.isAgg9
  z9 := Tryz.sizeOf9
  v9 := Tryz.zeroValue9 }


theorem IndexB_c (s : ByteArray) (c : Int) (w : World) : Calls Tryz.prog 108 #[.string s, .int .u8 c] w (fun e w' => e = .returned (.int .i64 (Lib.indexByte s.data.toList c.toNat.toUInt8)) ∧ w' = w) := Any.strings_IndexByte layIdx s c w
end Go.Proofs.YthcahjnniendnabGreatDoor
