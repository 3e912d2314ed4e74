/-
  slices.Contains at rows of texts: the kit's shelf at this program's numbers.
-/
import Derived.Shelf.Slices.Turned
import Derived.Test.YthcahjnniendnabDoorProg
namespace Go.Proofs.YthcahjnniendnabDoor
open Go.Shelf

def ren_layHas : Go.Shelf.Ren := ⟨fun | 109 => 100 | 110 => 79 | n => n, fun | 0 => 0 | 3 => 3 | 4 => 4 | 9 => 9 | 31 => 36 | n => n, fun n => n⟩
theorem layHas : Go.Proofs.Lays.n110 Tryd.prog ren_layHas := {
  mixed := by kernel_rfl
  f109 := Tryd.func100.trans (congrArg some (by kernel_rfl))
  f110 := Tryd.func79.trans (congrArg some (by kernel_rfl))
  t0 := Tryd.underlying0
  a0 := Tryd.isAgg0
  z0 := Tryd.sizeOf0
  v0 := Tryd.zeroValue0
  t3 := Tryd.underlying3
  a3 := Tryd.isAgg3
  z3 := Tryd.sizeOf3
  v3 := Tryd.zeroValue3
  t4 := Tryd.underlying4
  a4 := Tryd.isAgg4
  z4 := Tryd.sizeOf4
  v4 := Tryd.zeroValue4
  t9 := Tryd.underlying9
  a9 := Tryd.isAgg9
  z9 := Tryd.sizeOf9
  v9 := Tryd.zeroValue9
  t31 := Tryd.underlying36
  a31 := Tryd.isAgg36
  z31 := Tryd.sizeOf36
  v31 := Tryd.zeroValue36 }


/-- slices.Contains at rows of texts. -/
theorem Has_c (b off n c : Nat) (zs : List ByteArray) (x : ByteArray) (w : World) (hz : n ≤ zs.length) (hbig : n ≤ 9223372036854775807) (hc : ∀ (j : Nat) (z : ByteArray), zs[j]? = some z → w.cell? ⟨b, off + j, none⟩ = some (.string z)) :
    Calls Tryd.prog 79 #[.slice (some ⟨b, off, none⟩) n c, .string x] w (fun e w' => ∃ r : Bool, e = .returned (.bool r) ∧ (r = true ↔ x ∈ zs.take n) ∧ w = w') := by
  refine (Any.slices_Contains_string layHas b off n c zs x w hz hbig (fun j hj => ?_)).mono ?_
  · exact hc j _ (by rw [List.getElem?_eq_getElem hj]; simp [List.getD, List.getElem?_eq_getElem hj])
  · rintro e w' ⟨rfl, rfl⟩
    exact ⟨_, rfl, Lib.containsS_iff _ _, rfl⟩
theorem Has_none (a : Option Addr) (c : Nat) (x : ByteArray) (w : World) :
    Calls Tryd.prog 79 #[.slice a 0 c, .string x] w (fun e w' => e = .returned (.bool false) ∧ w = w') :=
  (Any.slices_Contains_string_empty layHas a c x w).mono (by rintro e w' ⟨rfl, rfl⟩; exact ⟨rfl, rfl⟩)

end Go.Proofs.YthcahjnniendnabDoor
