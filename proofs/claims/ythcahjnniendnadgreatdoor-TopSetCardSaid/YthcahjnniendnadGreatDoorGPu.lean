/-
  Pu, Idx.
-/
import Derived.Shelf.Pu.ToError
import Derived.Shelf.Pu.Lower
import Derived.Below
import Derived.Test.YthcahjnniendnadGreatDoorProg
import Derived.Shelf.Small.Strs
import Derived.Shelf.Strings.BuilderK
/-
  strconv.toError and internal/strconv.lower: the kit's shelf at this program's numbers.
-/
namespace Go.Proofs.YthcahjnniendnadGreatDoor
open Go.Shelf Go.RowKit

def ren_layErr : Go.Shelf.Ren := ⟨fun | 17 => 148 | 21 => 194 | 22 => 195 | 23 => 196 | 24 => 197 | 25 => 222 | 26 => 223 | 27 => 58 | 28 => 106 | 29 => 142 | 30 => 186 | 31 => 187 | 32 => 188 | 33 => 189 | 34 => 217 | 35 => 178 | 36 => 218 | 37 => 219 | 38 => 220 | 39 => 231 | 40 => 232 | n => n, fun | 0 => 0 | 2 => 2 | 3 => 3 | 4 => 4 | 5 => 5 | 9 => 9 | 20 => 20 | 22 => 105 | 24 => 31 | 34 => 311 | 36 => 241 | 37 => 74 | 39 => 314 | 44 => 338 | 47 => 152 | 48 => 345 | 50 => 347 | 52 => 293 | 55 => 295 | 59 => 333 | 60 => 287 | 61 => 334 | 65 => 352 | 66 => 353 | 67 => 80 | n => n, fun | 0 => 3 | 1 => 4 | 2 => 2 | 3 => 5 | 4 => 6 | n => n⟩
theorem layErr : Go.Proofs.LaysPu.n17 Tryz.prog ren_layErr := {
  mixed := by kernel_rfl
  f17 := Tryz.func148.trans (congrArg some (by kernel_rfl))
  f21 := Tryz.func194.trans (congrArg some (by kernel_rfl))
  f22 := Tryz.func195.trans (congrArg some (by kernel_rfl))
  f23 := Tryz.func196.trans (congrArg some (by kernel_rfl))
  f24 := Tryz.func197.trans (congrArg some (by kernel_rfl))
  f25 := Tryz.func222.trans (congrArg some (by kernel_rfl))
  f26 := Tryz.func223.trans (congrArg some (by kernel_rfl))
  f27 := Tryz.func58.trans (congrArg some (by kernel_rfl))
  f28 := Tryz.func106.trans (congrArg some (by kernel_rfl))
  f29 := Tryz.func142.trans (congrArg some (by kernel_rfl))
  f30 := Tryz.func186.trans (congrArg some (by kernel_rfl))
  f31 := Tryz.func187.trans (congrArg some (by kernel_rfl))
  f32 := Tryz.func188.trans (congrArg some (by kernel_rfl))
  f33 := Tryz.func189.trans (congrArg some (by kernel_rfl))
  f34 := Tryz.func217.trans (congrArg some (by kernel_rfl))
  f35 := Tryz.func178.trans (congrArg some (by kernel_rfl))
  f36 := Tryz.func218.trans (congrArg some (by kernel_rfl))
  f37 := Tryz.func219.trans (congrArg some (by kernel_rfl))
  f38 := Tryz.func220.trans (congrArg some (by kernel_rfl))
  f39 := Tryz.func231.trans (congrArg some (by kernel_rfl))
  f40 := Tryz.func232.trans (congrArg some (by kernel_rfl))
  t0 := Tryz.underlying0
  a0 := Tryz.isAgg0
  z0 := Tryz.sizeOf0
  v0 := Tryz.zeroValue0
  i0 := by kernel_rfl
  t2 := Tryz.underlying2
  a2 := Tryz.isAgg2
  z2 := Tryz.sizeOf2
  v2 := Tryz.zeroValue2
  i2 := by kernel_rfl
  t3 := Tryz.underlying3
  a3 := Tryz.isAgg3
  z3 := Tryz.sizeOf3
  v3 := Tryz.zeroValue3
  i3 := by kernel_rfl
  t4 := Tryz.underlying4
  a4 := Tryz.isAgg4
  z4 := Tryz.sizeOf4
  v4 := Tryz.zeroValue4
  i4 := by kernel_rfl
  t5 := Tryz.underlying5
  a5 := Tryz.isAgg5
  z5 := Tryz.sizeOf5
  v5 := Tryz.zeroValue5
  i5 := by kernel_rfl
  t9 := Tryz.underlying9
  a9 := Tryz.isAgg9
  z9 := Tryz.sizeOf9
  v9 := Tryz.zeroValue9
  i9 := by kernel_rfl
  t20 := Tryz.underlying20
  a20 := Tryz.isAgg20
  z20 := Tryz.sizeOf20
  v20 := Tryz.zeroValue20
  i20 := by kernel_rfl
  t22 := Tryz.underlying105
  a22 := Tryz.isAgg105
  z22 := Tryz.sizeOf105
  v22 := Tryz.zeroValue105
  i22 := by kernel_rfl
  t24 := Tryz.underlying31
  a24 := Tryz.isAgg31
  z24 := Tryz.sizeOf31
  v24 := Tryz.zeroValue31
  i24 := by kernel_rfl
  t34 := Tryz.underlying311
  a34 := Tryz.isAgg311
  z34 := Tryz.sizeOf311
  v34 := Tryz.zeroValue311
  i34 := by kernel_rfl
  c34 := by kernel_rfl
  t36 := Tryz.underlying241
  a36 := Tryz.isAgg241
  z36 := Tryz.sizeOf241
  v36 := Tryz.zeroValue241
  i36 := by kernel_rfl
  t37 := Tryz.underlying74
  a37 := Tryz.isAgg74
  z37 := Tryz.sizeOf74
  v37 := Tryz.zeroValue74
  i37 := by kernel_rfl
  t39 := Tryz.underlying314
  a39 := Tryz.isAgg314
  z39 := Tryz.sizeOf314
  v39 := Tryz.zeroValue314
  i39 := by kernel_rfl
  t44 := Tryz.underlying338
  a44 := Tryz.isAgg338
  z44 := Tryz.sizeOf338
  v44 := Tryz.zeroValue338
  i44 := by kernel_rfl
  t47 := Tryz.underlying152
  a47 := Tryz.isAgg152
  z47 := Tryz.sizeOf152
  v47 := Tryz.zeroValue152
  i47 := by kernel_rfl
  t48 := Tryz.underlying345
  a48 := Tryz.isAgg345
  z48 := Tryz.sizeOf345
  v48 := Tryz.zeroValue345
  i48 := by kernel_rfl
  t50 := Tryz.underlying347
  a50 := Tryz.isAgg347
  z50 := Tryz.sizeOf347
  v50 := Tryz.zeroValue347
  i50 := by kernel_rfl
  t52 := Tryz.underlying293
  a52 := Tryz.isAgg293
  z52 := Tryz.sizeOf293
  v52 := Tryz.zeroValue293
  i52 := by kernel_rfl
  t55 := Tryz.underlying295
  a55 := Tryz.isAgg295
  z55 := Tryz.sizeOf295
  v55 := Tryz.zeroValue295
  i55 := by kernel_rfl
  t59 := Tryz.underlying333
  a59 := Tryz.isAgg333
  z59 := Tryz.sizeOf333
  v59 := Tryz.zeroValue333
  i59 := by kernel_rfl
  t60 := Tryz.underlying287
  a60 := Tryz.isAgg287
  z60 := Tryz.sizeOf287
  v60 := Tryz.zeroValue287
  i60 := by kernel_rfl
  t61 := Tryz.underlying334
  a61 := Tryz.isAgg334
  z61 := Tryz.sizeOf334
  t65 := Tryz.underlying352
  a65 := Tryz.isAgg352
  z65 := Tryz.sizeOf352
  v65 := Tryz.zeroValue352
  i65 := by kernel_rfl
  t66 := Tryz.underlying353
  a66 := Tryz.isAgg353
  z66 := Tryz.sizeOf353
  v66 := Tryz.zeroValue353
  i66 := by kernel_rfl
  t67 := Tryz.underlying80
  a67 := Tryz.isAgg80
  z67 := Tryz.sizeOf80
  v67 := Tryz.zeroValue80
  i67 := by kernel_rfl
  g0 := by kernel_rfl
  m0 := by kernel_rfl
  g1 := by kernel_rfl
  m1 := by kernel_rfl
  g2 := by kernel_rfl
  m2 := by kernel_rfl
  g3 := by kernel_rfl
  m3 := by kernel_rfl
  g4 := by kernel_rfl
  m4 := by kernel_rfl }

def ren_layLow : Go.Shelf.Ren := ⟨fun | 19 => 233 | n => n, fun | 5 => 5 | n => n, fun n => n⟩
theorem layLow : Go.Proofs.LaysPu.n19 Tryz.prog ren_layLow := {
  mixed := by kernel_rfl
  f19 := Tryz.func233.trans (congrArg some (by kernel_rfl))
  t5 := Tryz.underlying5
  a5 := Tryz.isAgg5
  z5 := Tryz.sizeOf5
  v5 := Tryz.zeroValue5
  i5 := by kernel_rfl }


end Go.Proofs.YthcahjnniendnadGreatDoor

/-
  strings.IndexByte: the kit's shelf at this program's numbers.
-/
namespace Go.Proofs.YthcahjnniendnadGreatDoor
open Go.Shelf Go.RowKit

def ren_layIdx : Go.Shelf.Ren := ⟨fun | 137 => 179 | 217 => 138 | 266 => 184 | n => n, fun | 3 => 3 | 5 => 5 | 9 => 9 | n => n, fun n => n⟩
theorem layIdx : Go.Proofs.Lays.n137 Tryz.prog ren_layIdx := {
  mixed := by kernel_rfl
  f137 := Tryz.func179.trans (congrArg some (by kernel_rfl))
  f217 := Tryz.func138.trans (congrArg some (by kernel_rfl))
  f266 := Tryz.func184.trans (congrArg some (by kernel_rfl))
  t3 := Tryz.underlying3
  a3 := Tryz.isAgg3
  z3 := Tryz.sizeOf3
  v3 := Tryz.zeroValue3
  t5 := Tryz.underlying5
  a5 := Tryz.isAgg5
  z5 := Tryz.sizeOf5
  v5 := Tryz.zeroValue5
  t9 := Tryz.underlying9
  a9 := Tryz.isAgg9
  z9 := Tryz.sizeOf9
  v9 := Tryz.zeroValue9 }


theorem IndexB_c (s : ByteArray) (c : Int) (w : World) : Calls Tryz.prog 179 #[.string s, .int .u8 c] w (fun e w' => e = .returned (.int .i64 (Lib.indexByte s.data.toList c.toNat.toUInt8)) ∧ w' = w) := Any.strings_IndexByte layIdx s c w
end Go.Proofs.YthcahjnniendnadGreatDoor
