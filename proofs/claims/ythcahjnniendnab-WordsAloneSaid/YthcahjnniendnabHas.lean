/-
  slices.Contains at rows of texts: the kit's shelf at this program's numbers.
-/
import Derived.Shelf.Slices.Turned
import Derived.Test.YthcahjnniendnabProg
namespace Go.Proofs.Ythcahjnniendnab
open Go.Shelf

def ren_layHas : Go.Shelf.Ren := ⟨fun | 109 => 47 | 110 => 35 | n => n, fun | 0 => 0 | 3 => 3 | 4 => 4 | 9 => 9 | 31 => 41 | n => n, fun n => n⟩
theorem layHas : Go.Proofs.Lays.n110 Try.prog ren_layHas := {
  mixed := by kernel_rfl
  f109 := Try.func47.trans (congrArg some (by kernel_rfl))
  f110 := Try.func35.trans (congrArg some (by kernel_rfl))
  t0 := Try.underlying0
  a0 := Try.isAgg0
  z0 := Try.sizeOf0
  v0 := Try.zeroValue0
  t3 := Try.underlying3
  a3 := Try.isAgg3
  z3 := Try.sizeOf3
  v3 := Try.zeroValue3
  t4 := Try.underlying4
  a4 := Try.isAgg4
  z4 := Try.sizeOf4
  v4 := Try.zeroValue4
  t9 := Try.underlying9
  a9 := Try.isAgg9
  z9 := Try.sizeOf9
  v9 := Try.zeroValue9
  t31 := Try.underlying41
  a31 := Try.isAgg41
  z31 := Try.sizeOf41
  v31 := Try.zeroValue41 }


/-- slices.Contains at rows of texts. -/
theorem Has_c (b off n c : Nat) (zs : List ByteArray) (x : ByteArray) (w : World) (hz : n ≤ zs.length) (hbig : n ≤ 9223372036854775807) (hc : ∀ (j : Nat) (z : ByteArray), zs[j]? = some z → w.cell? ⟨b, off + j, none⟩ = some (.string z)) :
    Calls Try.prog 35 #[.slice (some ⟨b, off, none⟩) n c, .string x] w (fun e w' => ∃ r : Bool, e = .returned (.bool r) ∧ (r = true ↔ x ∈ zs.take n) ∧ w = w') := by
  refine (Any.slices_Contains_string layHas b off n c zs x w hz hbig (fun j hj => ?_)).mono ?_
  · exact hc j _ (by rw [List.getElem?_eq_getElem hj]; simp [List.getD, List.getElem?_eq_getElem hj])
  · rintro e w' ⟨rfl, rfl⟩
    exact ⟨_, rfl, Lib.containsS_iff _ _, rfl⟩
theorem Has_none (a : Option Addr) (c : Nat) (x : ByteArray) (w : World) :
    Calls Try.prog 35 #[.slice a 0 c, .string x] w (fun e w' => e = .returned (.bool false) ∧ w = w') :=
  (Any.slices_Contains_string_empty layHas a c x w).mono (by rintro e w' ⟨rfl, rfl⟩; exact ⟨rfl, rfl⟩)

end Go.Proofs.Ythcahjnniendnab
