/-
  Plain: the closed fact of the statements of the whole: "a+" is read, found in "baab" and swapped.
-/
import Derived.Test.YthcahjnniendnadGreatDoorGPh
import Derived.Test.YthcahjnniendnadGreatDoorGPy
namespace Wf

theorem plus_byte : oneS [97, 43] 0 = .ok 97 1 := rfl
theorem plus_read : orS [97, 43] 0 = .ok (.plus (.byte (withB zc 97))) 2 := by
  have hA : atomS [97, 43] 0 = .ok (.byte (withB zc 97)) 1 := by
    rw [atomS_cases _ 0 (by simp)]
    simp [plus_byte]
  have hsg : signsS [97, 43] 1 (.byte (withB zc 97)) = (.plus (.byte (withB zc 97)), 2) := by
    rw [signsS]
    simp
    rw [signsS]
    simp
  have hC : catS [97, 43] 0 = .ok (.plus (.byte (withB zc 97))) 2 := by
    rw [catS_one (by rfl) hA (by rw [hsg]; rfl), hsg]
  exact orS_one hC (by simp)
theorem plus_spans : spansO [98, 97, 97, 98] (.plus (.byte (withB zc 97))) 0 = [(1, 3)] := by
  rw [spans_eq (by decide +kernel)]
  decide +kernel
theorem plus_swap : Go.Lib.join ((piecesB ⟨#[98, 97, 97, 98]⟩ [(1, 3)]).map (·.data.toList)) [99] = [98, 99, 98] := by decide +kernel
end Wf
