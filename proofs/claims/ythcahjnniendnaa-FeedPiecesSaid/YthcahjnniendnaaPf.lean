/-
  Plain facts about a text that is fed piece by piece. No program in sight.
-/
import Derived.Test.YthcahjnniendnaaPt
namespace Wf
open Go.Proofs.Ythcahjnniendnaa (goL)

theorem run_pre {p : List St} {s t : List UInt8} {f i j : Nat} (hi : i ≤ s.length) : RunAt p (s ++ t) f i j ↔ RunAt p s f i j := by
  constructor
  · intro h
    induction h with
    | start => exact .start
    | @step i j k x b st h1 h2 h3 h4 h5 h6 h7 ih =>
      have e1 : (i == (s ++ t).length) = (i == s.length) := by
        have a1 : (i == s.length) = false := by simp; omega
        have a2 : (i == (s ++ t).length) = false := by simp; omega
        rw [a1, a2]
      rw [e1] at h2
      exact .step (ih (by omega)) h2 h3 h4 (by rwa [List.getElem?_append_left (by omega)] at h5) h6 h7
  · intro h
    induction h with
    | start => exact .start
    | @step i j k x b st h1 h2 h3 h4 h5 h6 h7 ih =>
      have e1 : (i == (s ++ t).length) = (i == s.length) := by
        have a1 : (i == s.length) = false := by simp; omega
        have a2 : (i == (s ++ t).length) = false := by simp; omega
        rw [a1, a2]
      rw [← e1] at h2
      exact .step (ih (by omega)) h2 h3 h4 (by rwa [List.getElem?_append_left (by omega)]) h6 h7

/-- Fed a text, a feed is at some steps. -/
def Fed (p : List St) (s : List UInt8) (fs : List Nat) : Prop := AtL p s 0 s.length fs
theorem Fed.first (p : List St) : Fed p [] [0] := AtL.start p [] 0
theorem Fed.byte {p : List St} (hp : okP p) {s : List UInt8} {fs L : List Nat} {d : Bool} {b : UInt8} (h : Fed p s fs) (hf : Front p (s.length == 0) false fs L d) : Fed p (s ++ [b]) (goL p b.toNat L) := by
  have h1 : AtL p (s ++ [b]) 0 s.length fs := fun j => (h j).trans (run_pre (Nat.le_refl _)).symm
  have e1 : (s.length == (s ++ [b]).length) = false := by simp
  have := AtL.next hp (Nat.zero_le _) h1 (by rw [e1]; exact hf) (b := b) (by simp)
  show AtL p (s ++ [b]) 0 (s ++ [b]).length _
  rw [List.length_append]
  exact this
theorem Fed.yes {p : List St} {s : List UInt8} {fs L : List Nat} {d : Bool} (h : Fed p s fs) (hf : Front p (s.length == 0) true fs L d) : d = true ↔ EndsAt p s 0 s.length := by
  have hf2 : Front p (s.length == 0) (s.length == s.length) fs L d := by rw [show (s.length == s.length) = true by simp]; exact hf
  exact AtL.done h hf2
theorem Fed.dead {p : List St} {s : List UInt8} (h : Fed p s []) {t : List UInt8} {fs : List Nat} (h' : Fed p (s ++ t) fs) : fs = [] ∧ ¬ EndsAt p (s ++ t) 0 (s ++ t).length := by
  have h1 : AtL p (s ++ t) 0 s.length [] := fun j => (h j).trans (run_pre (Nat.le_refl _)).symm
  have hn := AtL.none (Nat.zero_le _) h1 (s ++ t).length (by simp)
  refine ⟨?_, ?_⟩
  · cases fs with
    | nil => rfl
    | cons a r => exact absurd ((h' a).1 (by simp)) (hn a)
  · rintro ⟨j, k, hj, _⟩
    exact hn j hj
theorem Fed.lt {p : List St} (hp : okP p) {s : List UInt8} {fs : List Nat} (h : Fed p s fs) : ∀ i ∈ fs, i < p.length := fun i hi => ((h i).1 hi).lt hp

end Wf
