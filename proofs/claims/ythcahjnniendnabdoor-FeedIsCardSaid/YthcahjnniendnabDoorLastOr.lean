/-
  Of the list of a pattern's ends from the head: its last one.
-/
import Derived.Test.YthcahjnniendnabDoorGMean
namespace Go.Proofs.YthcahjnniendnabDoor
open Go.RowKit Wf

/-- Of the list of ends from the head: it is empty, or its last one is the text's length just if the whole is fitted. -/
theorem last_or (s : List UInt8) (t : Rx) (N : Nat) (hN : s.length = N) : endsL s t 0 = [] ∧ ¬ Fits s t 0 N ∨ ∃ n x, (endsL s t 0).length = n + 1 ∧ (endsL s t 0)[n]? = some x ∧ (x = N ↔ Fits s t 0 N) ∧ n ≤ N := by
  have hdef : endsL s t 0 = upTo_ (Fits s t 0) (N + 1) := by unfold endsL; rw [hN]
  have hlen := upTo_len (Fits s t 0) (N + 1)
  rw [← hdef] at hlen
  rcases Nat.eq_zero_or_pos (endsL s t 0).length with h0 | h0
  · have hks := List.eq_nil_of_length_eq_zero h0
    refine .inl ⟨hks, fun h => ?_⟩
    have : N ∈ endsL s t 0 := by rw [hdef]; exact upTo_mem.2 ⟨by omega, h⟩
    rw [hks] at this
    cases this
  · obtain ⟨n, hn⟩ : ∃ n, (endsL s t 0).length = n + 1 := ⟨(endsL s t 0).length - 1, by omega⟩
    obtain ⟨x, hx⟩ : ∃ x, (endsL s t 0)[n]? = some x := ⟨_, List.getElem?_eq_getElem (by omega)⟩
    refine .inr ⟨n, x, hn, hx, ?_, by omega⟩
    rw [hdef] at hn hx
    exact upTo_last hn hx

end Go.Proofs.YthcahjnniendnabDoor
