/-
  words.All: its two ways told shortly.
-/
import Derived.Test.YthcahjnniendnabEachD
namespace Go.Proofs.Ythcahjnniendnab
open Go.RowKit Wf

/-- What words.All says of words and a text: 0, or the fault. -/
noncomputable def chkAll (l : List ByteArray) (s : ByteArray) : Int := if chkW l ≠ 0 then chkW l else if 400 < s.size then 3 else 0
theorem chkAll_zero {l : List ByteArray} {s : ByteArray} : chkAll l s = 0 ↔ okW l ∧ s.size ≤ 400 := by
  unfold chkAll
  by_cases h : chkW l = 0
  · rw [if_neg (by simpa using h)]
    by_cases h2 : 400 < s.size
    · rw [if_pos h2]
      exact ⟨fun h => absurd h (by decide), fun h => by omega⟩
    · rw [if_neg h2]
      exact ⟨fun _ => ⟨chkW_ok.1 h, by omega⟩, fun _ => rfl⟩
  · rw [if_pos h]
    exact ⟨fun h' => absurd h' h, fun h' => absurd (chkW_ok.2 h'.1) h⟩
def wsOf (l : List ByteArray) : List (List UInt8) := l.map fun s => s.data.toList

theorem All_err (l : List ByteArray) (lv : Value) (s : ByteArray) (w : World) (hr : Rd1 w lv (strVals l)) (hlen : l.length ≤ 9223372036854775807) (hsz : ∀ s ∈ l, s.size ≤ 9223372036854775807) (h : chkAll l s ≠ 0) :
    Calls Try.prog 12 #[lv, .string s] w (fun e w' => e = .returned (.tuple #[.slice none 0 0, .iface 64 (.int .i64 (chkAll l s))]) ∧ Below w.heap.size w w') := by
  unfold chkAll at h ⊢
  by_cases hc : chkW l = 0
  · rw [if_neg (by simpa using hc)] at h ⊢
    by_cases h2 : 400 < s.size
    · rw [if_pos h2]
      exact (All_long l lv s w hr (chkW_ok.1 hc) h2).mono fun e w' ⟨h1, h2⟩ => ⟨by rw [h1, errV_ne (by decide)], h2⟩
    · rw [if_neg h2] at h
      exact absurd rfl h
  · rw [if_pos hc]
    exact (All_bad l lv s w hr hlen hsz hc).mono fun e w' ⟨h1, h2⟩ => ⟨by rw [h1, errV_ne hc], h2⟩
theorem All_fine (l : List ByteArray) (lv : Value) (s : ByteArray) (w : World) (hr : Rd1 w lv (strVals l)) (h : chkAll l s = 0) (S : List (Nat × Nat × Nat)) (hS : S = hitsL (wsOf l) s.data.toList) (N : Nat) (hN : N = S.length) :
    Calls Try.prog 12 #[lv, .string s] w (fun e w' => ∃ B c, e = .returned (.tuple #[.slice B N c, .nilIface]) ∧ Rd w' 3 (.slice B N c) (S.flatMap hitCells) ∧ Below w.heap.size w w') := by
  obtain ⟨hok, hs⟩ := chkAll_zero.1 h
  refine (All_ok l lv s w hr hok hs (wsOf l) rfl).mono ?_
  rintro e w' ⟨B, c, h1, h2, h3⟩
  rw [← hS, ← hN] at h1 h2
  exact ⟨B, c, h1, Rd.of_own h2, h3⟩
end Go.Proofs.Ythcahjnniendnab
