/-
  Plain: the place of a byte that cannot stand lies in the text, or at its end.
-/
import Derived.Test.YthcahjnniendnacGreatDoorPre
namespace Wf
theorem hexS_badle {s : List UInt8} {i k : Nat} (hi : i ≤ s.length) (h : hexS s i = .bad k) : k ≤ s.length := by
  unfold hexS at h
  split at h
  · cases h; omega
  · split at h
    · cases h; omega
    · split at h
      · cases h; omega
      · split at h
        · cases h; omega
        · cases h
theorem oneS_badle {s : List UInt8} {i k : Nat} (hi : i ≤ s.length) (h : oneS s i = .bad k) : k ≤ s.length := by
  unfold oneS at h
  split at h
  · cases h; omega
  · split at h
    · split at h
      · cases h; omega
      · split at h
        · exact hexS_badle hi h
        · split at h
          · cases h
          · cases h; omega
    · split at h
      · cases h; omega
      · cases h
theorem itemS_badle {s : List UInt8} {i k : Nat} (hi : i ≤ s.length) (h : itemS s i = .bad k) : k ≤ s.length := by
  unfold itemS at h
  split at h
  · rename_i k' e
    cases h
    exact oneS_badle hi e
  · rename_i lo j e
    have h1 := oneS_ok e
    split at h
    · rename_i e45
      have := getE_lt e45
      split at h
      · rename_i k' e2
        cases h
        exact oneS_badle (by omega) e2
      · split at h
        · cases h; omega
        · cases h
    · cases h
theorem itemsS_badle {s : List UInt8} : ∀ (n i : Nat) (c : Cls) (k : Nat), s.length - i ≤ n → i ≤ s.length → itemsS s i c = .bad k → k ≤ s.length := by
  intro n
  induction n with
  | zero =>
    intro i c k hn hi h
    by_cases h1 : s[i]? = some 93
    · rw [itemsS_end c h1] at h; cases h
    · cases ht : itemS s i with
      | bad k' => rw [itemsS_bad c h1 ht] at h; cases h; exact itemS_badle hi ht
      | ok p j => have := itemS_ok ht; omega
  | succ n ih =>
    intro i c k hn hi h
    by_cases h1 : s[i]? = some 93
    · rw [itemsS_end c h1] at h; cases h
    · cases ht : itemS s i with
      | bad k' => rw [itemsS_bad c h1 ht] at h; cases h; exact itemS_badle hi ht
      | ok p j =>
        have := itemS_ok ht
        rw [itemsS_more c h1 ht] at h
        exact ih j _ k (by omega) this.2.1 h
theorem bracketS_badle {s : List UInt8} {i k : Nat} (hi : i ≤ s.length) (h : bracketS s i = .bad k) : k ≤ s.length := by
  unfold bracketS at h
  split at h
  · rename_i e
    have := getE_lt e
    split at h
    · rename_i k' e2
      cases h
      exact itemsS_badle _ _ _ _ (Nat.le_refl _) (by omega) e2
    · cases h
  · exact itemsS_badle _ _ _ _ (Nat.le_refl _) hi h
theorem read_badle {s : List UInt8} : ∀ (n i : Nat), s.length - i ≤ n → i ≤ s.length →
    (∀ k, atomS s i = .bad k → k ≤ s.length) ∧ (∀ k, catS s i = .bad k → k ≤ s.length) ∧ (∀ k, orS s i = .bad k → k ≤ s.length) := by
  intro n
  induction n with
  | zero =>
    intro i hn hi
    obtain rfl : i = s.length := by omega
    have hst : stopS s s.length = true := by unfold stopS; simp
    have hC : catS s s.length = .ok .empty s.length := by rw [catS, if_pos hst]
    refine ⟨fun k h => ?_, fun k h => ?_, fun k h => ?_⟩
    · rw [atomS, dif_neg (by omega)] at h; cases h; omega
    · rw [hC] at h; cases h
    · rw [orS, hC] at h; simp at h
  | succ n ih =>
    intro i hn hi
    have hA : ∀ k, atomS s i = .bad k → k ≤ s.length := by
      intro k h
      rw [atomS] at h
      split at h
      · rename_i hlt
        split at h
        · split at h
          · rename_i k' e
            cases h
            exact (ih (i + 1) (by omega) (by omega)).2.2 _ e
          · rename_i t j e
            have := (read_ok _ (i + 1) (Nat.le_refl _) (by omega)).2.2 _ _ e
            split at h
            · cases h
            · cases h; exact this.2.1
        · split at h
          · split at h
            · rename_i k' e; cases h; exact bracketS_badle (by omega) e
            · cases h
          · split at h
            · cases h
            · split at h
              · cases h
              · split at h
                · cases h
                · split at h
                  · rename_i k' e; cases h; exact oneS_badle hi e
                  · cases h
      · cases h; omega
    have hC : ∀ k, catS s i = .bad k → k ≤ s.length := by
      intro k h
      rw [catS] at h
      split at h
      · cases h
      · split at h
        · rename_i k' e; cases h; exact hA _ e
        · rename_i t j e
          have h1 := (read_ok _ i (Nat.le_refl _) hi).1 _ _ e
          have h2 := signsS_ok _ j t (Nat.le_refl _) h1.2.1 h1.2.2.1
          split at h
          · cases h
          · split at h
            · split at h
              · rename_i k' e2; cases h; exact (ih _ (by omega) h2.2.1).2.1 _ e2
              · cases h
            · cases h; omega
    refine ⟨hA, hC, fun k h => ?_⟩
    rw [orS] at h
    split at h
    · rename_i k' e; cases h; exact hC _ e
    · rename_i t j e
      have h1 := (read_ok _ i (Nat.le_refl _) hi).2.1 _ _ e
      split at h
      · rename_i e2
        have := getE_lt e2
        split at h
        · split at h
          · rename_i k' e3; cases h; exact (ih (j + 1) (by omega) (by omega)).2.2 _ e3
          · cases h
        · cases h; omega
      · cases h
theorem orS_badle {s : List UInt8} {k : Nat} (h : orS s 0 = .bad k) : k ≤ s.length := (read_badle _ 0 (Nat.le_refl _) (by omega)).2.2 k h
end Wf
