/-
  The places below a number that have something, in their order.
-/
import Derived.Test.YthcahjnniendnabDoorPm
namespace Go.Proofs.YthcahjnniendnabDoor

open Classical in
/-- The places below n that P has, in their order. -/
noncomputable def upTo_ (P : Nat → Prop) (n : Nat) : List Nat := (List.range n).filter fun j => decide (P j)

theorem upTo_zero (P : Nat → Prop) : upTo_ P 0 = [] := rfl
theorem upTo_yes {P : Nat → Prop} {k : Nat} (h : P k) : upTo_ P (k + 1) = upTo_ P k ++ [k] := by simp [upTo_, List.range_succ, List.filter_append, h]
theorem upTo_no {P : Nat → Prop} {k : Nat} (h : ¬ P k) : upTo_ P (k + 1) = upTo_ P k := by simp [upTo_, List.range_succ, List.filter_append, h]
theorem upTo_len (P : Nat → Prop) (n : Nat) : (upTo_ P n).length ≤ n := by
  have := List.length_filter_le (fun j => @decide (P j) (Classical.propDecidable _)) (List.range n)
  simpa [upTo_] using this
theorem upTo_mem {P : Nat → Prop} {n k : Nat} : k ∈ upTo_ P n ↔ k < n ∧ P k := by simp [upTo_]
theorem upTo_iff {P Q : Nat → Prop} {n : Nat} (h : ∀ k, k < n → (P k ↔ Q k)) : upTo_ P n = upTo_ Q n := by
  unfold upTo_
  refine List.filter_congr fun k hk => ?_
  have := h k (by simpa using hk)
  simp [this]

end Go.Proofs.YthcahjnniendnabDoor
