/-
  Has, WordA.
-/
import Derived.Test.YthcahjnniendnacGreatDoorGCls
import Derived.Test.YthcahjnniendnacGreatDoorGPo
import Derived.Test.YthcahjnniendnacGreatDoorGStep
import Derived.Test.YthcahjnniendnacGreatDoorStrs
import Derived.Shelf.Slices.Turned
import Derived.Test.YthcahjnniendnacGreatDoorProg
/-
  slices.Contains at rows of texts: the kit's shelf at this program's numbers.
-/
namespace Go.Proofs.YthcahjnniendnacGreatDoor
open Go.Shelf

def ren_layHas : Go.Shelf.Ren := ⟨fun | 109 => 100 | 110 => 68 | n => n, fun | 0 => 0 | 3 => 3 | 4 => 4 | 9 => 9 | 31 => 141 | n => n, fun n => n⟩
theorem layHas : Go.Proofs.Lays.n110 Tryz.prog ren_layHas := {
  mixed := by kernel_rfl
  f109 := Tryz.func100.trans (congrArg some (by kernel_rfl))
  f110 := Tryz.func68.trans (congrArg some (by kernel_rfl))
  t0 := Tryz.underlying0
  a0 := Tryz.isAgg0
  z0 := Tryz.sizeOf0
  v0 := Tryz.zeroValue0
  t3 := Tryz.underlying3
  a3 := Tryz.isAgg3
  z3 := Tryz.sizeOf3
  v3 := Tryz.zeroValue3
  t4 := Tryz.underlying4
  a4 := Tryz.isAgg4
  z4 := Tryz.sizeOf4
  v4 := Tryz.zeroValue4
  t9 := Tryz.underlying9
  a9 := Tryz.isAgg9
  z9 := Tryz.sizeOf9
  v9 := Tryz.zeroValue9
  t31 := Tryz.underlying141
  a31 := Tryz.isAgg141
  z31 := Tryz.sizeOf141
  v31 := Tryz.zeroValue141 }


/-- slices.Contains at rows of texts. -/
theorem Has_c (b off n c : Nat) (zs : List ByteArray) (x : ByteArray) (w : World) (hz : n ≤ zs.length) (hbig : n ≤ 9223372036854775807) (hc : ∀ (j : Nat) (z : ByteArray), zs[j]? = some z → w.cell? ⟨b, off + j, none⟩ = some (.string z)) :
    Calls Tryz.prog 68 #[.slice (some ⟨b, off, none⟩) n c, .string x] w (fun e w' => ∃ r : Bool, e = .returned (.bool r) ∧ (r = true ↔ x ∈ zs.take n) ∧ w = w') := by
  refine (Any.slices_Contains_string layHas b off n c zs x w hz hbig (fun j hj => ?_)).mono ?_
  · exact hc j _ (by rw [List.getElem?_eq_getElem hj]; simp [List.getD, List.getElem?_eq_getElem hj])
  · rintro e w' ⟨rfl, rfl⟩
    exact ⟨_, rfl, Lib.containsS_iff _ _, rfl⟩
theorem Has_none (a : Option Addr) (c : Nat) (x : ByteArray) (w : World) :
    Calls Tryz.prog 68 #[.slice a 0 c, .string x] w (fun e w' => e = .returned (.bool false) ∧ w = w') :=
  (Any.slices_Contains_string_empty layHas a c x w).mono (by rintro e w' ⟨rfl, rfl⟩; exact ⟨rfl, rfl⟩)

end Go.Proofs.YthcahjnniendnacGreatDoor

/-
  words.Check: words that may be.
-/
namespace Go.Proofs.YthcahjnniendnacGreatDoor
open Go.RowKit Wf

theorem emp_list (s : ByteArray) : s.toList.isEmpty = decide (s.size = 0) := by
  rw [ByteArray.toList_eq, Bool.eq_iff_iff, decide_eq_true_eq, sz_list, List.isEmpty_iff_length_eq_zero]

end Go.Proofs.YthcahjnniendnacGreatDoor
