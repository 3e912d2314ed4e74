/-
  Plain: words that may be.
-/
import Derived.Test.YthcahjnniendnabMem
namespace Wf

open Classical in
/-- What is said of the word at k. -/
noncomputable def oneW (l : List ByteArray) (k : Nat) (s : ByteArray) : Int := if s.size = 0 ∨ 20 < s.size then 5 else if s ∈ l.take k then 6 else 0
noncomputable def chkWL (l : List ByteArray) : Nat → List ByteArray → Int
  | _, [] => 0
  | k, s :: r => if oneW l k s ≠ 0 then oneW l k s else chkWL l (k + 1) r
noncomputable def chkW (l : List ByteArray) : Int := if 20 < l.length then 3 else chkWL l 0 l
theorem chkWL_at {l r : List ByteArray} {k : Nat} {s : ByteArray} (h : l[k]? = some s) (hr : r = l.drop k) : chkWL l k r = if oneW l k s ≠ 0 then oneW l k s else chkWL l (k + 1) (l.drop (k + 1)) := by
  subst hr
  obtain ⟨hk, he⟩ := List.getElem?_eq_some_iff.1 h
  rw [List.drop_eq_getElem_cons hk, he]
  rfl
theorem chkWL_end (l : List ByteArray) : chkWL l l.length (l.drop l.length) = 0 := by rw [List.drop_length]; rfl
/-- Words that may be. -/
def okW (l : List ByteArray) : Prop := l.length ≤ 20 ∧ (∀ s ∈ l, 0 < s.size ∧ s.size ≤ 20) ∧ l.Nodup
theorem oneW_bad {l : List ByteArray} {k : Nat} {s : ByteArray} (h : s.size = 0 ∨ 20 < s.size) : oneW l k s = 5 := by unfold oneW; rw [if_pos h]
theorem oneW_in {l : List ByteArray} {k : Nat} {s : ByteArray} (h : ¬ (s.size = 0 ∨ 20 < s.size)) (hm : s ∈ l.take k) : oneW l k s = 6 := by unfold oneW; rw [if_neg h, if_pos hm]
theorem oneW_out {l : List ByteArray} {k : Nat} {s : ByteArray} (h : ¬ (s.size = 0 ∨ 20 < s.size)) (hm : s ∉ l.take k) : oneW l k s = 0 := by unfold oneW; rw [if_neg h, if_neg hm]
theorem oneW_zero {l : List ByteArray} {k : Nat} {s : ByteArray} : oneW l k s = 0 ↔ (0 < s.size ∧ s.size ≤ 20) ∧ s ∉ l.take k := by
  unfold oneW
  by_cases h1 : s.size = 0 ∨ 20 < s.size
  · rw [if_pos h1]
    exact ⟨fun h => absurd h (by decide), fun h => by omega⟩
  · rw [if_neg h1]
    by_cases h2 : s ∈ l.take k
    · rw [if_pos h2]
      exact ⟨fun h => absurd h (by decide), fun h => absurd h2 h.2⟩
    · rw [if_neg h2]
      exact ⟨fun _ => ⟨by omega, h2⟩, fun _ => rfl⟩
theorem chkWL_zero (l : List ByteArray) : ∀ (n k : Nat), k + n = l.length → (chkWL l k (l.drop k) = 0 ↔ ∀ (j : Nat) (s : ByteArray), k ≤ j → l[j]? = some s → oneW l j s = 0) := by
  intro n
  induction n with
  | zero =>
    intro k hk
    obtain rfl : k = l.length := by omega
    rw [chkWL_end]
    exact ⟨fun _ j s hj hs => by have := (List.getElem?_eq_some_iff.1 hs).1; omega, fun _ => rfl⟩
  | succ n ih =>
    intro k hk
    have hs : l[k]? = some (l[k]'(by omega)) := List.getElem?_eq_getElem _
    rw [chkWL_at hs rfl]
    by_cases h0 : oneW l k (l[k]'(by omega)) = 0
    · rw [if_neg (by simpa using h0), ih (k + 1) (by omega)]
      constructor
      · intro h j s hj hjs
        rcases Nat.eq_or_lt_of_le hj with rfl | hlt
        · rw [hs] at hjs
          cases hjs
          exact h0
        · exact h j s hlt hjs
      · intro h j s hj hjs
        exact h j s (by omega) hjs
    · rw [if_pos h0]
      exact ⟨fun h => absurd h h0, fun h => h k _ (Nat.le_refl _) hs⟩
theorem chkW_ok {l : List ByteArray} : chkW l = 0 ↔ okW l := by
  unfold chkW okW
  by_cases hb : 20 < l.length
  · rw [if_pos hb]
    exact ⟨fun h => absurd h (by decide), fun h => by omega⟩
  · rw [if_neg hb, show chkWL l 0 l = chkWL l 0 (l.drop 0) by rw [List.drop_zero], chkWL_zero l l.length 0 (by omega)]
    constructor
    · intro h
      refine ⟨by omega, fun s hs => ?_, ?_⟩
      · obtain ⟨j, hj⟩ := List.getElem?_of_mem hs
        exact (oneW_zero.1 (h j s (Nat.zero_le _) hj)).1
      · rw [List.nodup_iff_pairwise_ne, List.pairwise_iff_getElem]
        intro i j hi hj hij he
        have h2 := (oneW_zero.1 (h j (l[j]'hj) (Nat.zero_le _) (List.getElem?_eq_getElem _))).2
        refine h2 ?_
        rw [← he]
        exact List.mem_take_iff_getElem.2 ⟨i, by omega, rfl⟩
    · rintro ⟨_, h1, h2⟩ j s _ hs
      refine oneW_zero.2 ⟨h1 s (List.mem_of_getElem? hs), fun hm => ?_⟩
      obtain ⟨i, hi, he⟩ := List.mem_take_iff_getElem.1 hm
      obtain ⟨hj, hje⟩ := List.getElem?_eq_some_iff.1 hs
      rw [List.nodup_iff_pairwise_ne, List.pairwise_iff_getElem] at h2
      exact h2 i j (by omega) hj (by omega) (he.trans hje.symm)
end Wf
