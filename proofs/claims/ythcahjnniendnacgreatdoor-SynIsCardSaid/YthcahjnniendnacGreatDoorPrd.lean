/-
  Plain: what is read one behind the other, and beside one another, as rows.
-/
import Derived.Test.YthcahjnniendnacGreatDoorGPy
namespace Wf

def catLs : List Rx → Rx
  | [] => .empty
  | [t] => t
  | t :: u :: r => .cat t (catLs (u :: r))
def altLs : List Rx → Rx
  | [] => .empty
  | [t] => t
  | t :: u :: r => .alt t (altLs (u :: r))
def PR.pre {α : Type} (a : List α) : PR (List α) → PR (List α)
  | .bad k => .bad k
  | .ok l k => .ok (a ++ l) k
def PR.to {α β : Type} (f : α → β) : PR α → PR β
  | .bad k => .bad k
  | .ok l k => .ok (f l) k
theorem PR.pre_nil {α : Type} (r : PR (List α)) : r.pre [] = r := by cases r <;> simp [PR.pre]
theorem PR.pre_pre {α : Type} (a b : List α) (r : PR (List α)) : (r.pre b).pre a = r.pre (a ++ b) := by cases r <;> simp [PR.pre]

/-- Atoms with their signs, up to where nothing more stands. -/
def atomsS (s : List UInt8) (i : Nat) : PR (List Rx) :=
  if stopS s i = true then .ok [] i
  else match atomS s i with
    | .bad k => .bad k
    | .ok t j => if i < (signsS s j t).2 ∧ i ≤ s.length then (atomsS s (signsS s j t).2).pre [(signsS s j t).1] else .bad 0
termination_by s.length + 1 - i
/-- Sides. -/
def sidesS (s : List UInt8) (i : Nat) : PR (List Rx) :=
  match catS s i with
  | .bad k => .bad k
  | .ok t j => if s[j]? = some 124 then (if i ≤ j ∧ i ≤ s.length then (sidesS s (j + 1)).pre [t] else .bad 0) else .ok [t] j
termination_by s.length + 1 - i

theorem atomsS_stop {s : List UInt8} {i : Nat} (h : stopS s i = true) : atomsS s i = .ok [] i := by rw [atomsS, if_pos h]
theorem atomsS_bad {s : List UInt8} {i k : Nat} (h : stopS s i = false) (ha : atomS s i = .bad k) : atomsS s i = .bad k := by rw [atomsS, if_neg (by simp [h]), ha]
theorem atomsS_more {s : List UInt8} {i j : Nat} {t : Rx} (h : stopS s i = false) (ha : atomS s i = .ok t j) : atomsS s i = (atomsS s (signsS s j t).2).pre [(signsS s j t).1] := by
  have hi := stopS_no h
  obtain ⟨g1, g2, g3, _⟩ := (read_ok _ i (Nat.le_refl _) (by omega)).1 _ _ ha
  obtain ⟨k1, _⟩ := signsS_ok _ j t (Nat.le_refl _) g2 g3
  rw [atomsS, if_neg (by simp [h]), ha]
  dsimp only
  rw [if_pos (by omega)]
theorem sidesS_bad {s : List UInt8} {i k : Nat} (h : catS s i = .bad k) : sidesS s i = .bad k := by rw [sidesS, h]
theorem sidesS_one {s : List UInt8} {i j : Nat} {t : Rx} (h : catS s i = .ok t j) (hj : s[j]? ≠ some 124) : sidesS s i = .ok [t] j := by
  rw [sidesS, h]
  dsimp only
  rw [if_neg hj]
theorem sidesS_more {s : List UInt8} {i j : Nat} {t : Rx} (hi : i ≤ s.length) (h : catS s i = .ok t j) (hj : s[j]? = some 124) : sidesS s i = (sidesS s (j + 1)).pre [t] := by
  obtain ⟨g1, _⟩ := (read_ok _ i (Nat.le_refl _) hi).2.1 _ _ h
  rw [sidesS, h]
  dsimp only
  rw [if_pos hj, if_pos ⟨g1, hi⟩]

theorem atomsS_ne {s : List UInt8} {i j : Nat} {l : List Rx} (h : stopS s i = false) (ha : atomsS s i = .ok l j) : l ≠ [] := by
  cases hA : atomS s i with
  | bad k => rw [atomsS_bad h hA] at ha; cases ha
  | ok t k =>
    rw [atomsS_more h hA] at ha
    cases hB : atomsS s (signsS s k t).2 with
    | bad m => rw [hB] at ha; cases ha
    | ok l' m => rw [hB] at ha; cases ha; simp
theorem catS_atoms {s : List UInt8} : ∀ (n i : Nat), s.length - i ≤ n → i ≤ s.length → catS s i = (atomsS s i).to catLs := by
  intro n
  induction n with
  | zero =>
    intro i hn hi
    have hst : stopS s i = true := by
      cases h : stopS s i with
      | true => rfl
      | false => have := stopS_no h; omega
    rw [catS_end hst, atomsS_stop hst]; rfl
  | succ n ih =>
    intro i hn hi
    cases h : stopS s i with
    | true => rw [catS_end h, atomsS_stop h]; rfl
    | false =>
      cases hA : atomS s i with
      | bad k => rw [catS_bad h hA, atomsS_bad h hA]; rfl
      | ok t j =>
        obtain ⟨g1, g2, g3, _⟩ := (read_ok _ i (Nat.le_refl _) hi).1 _ _ hA
        obtain ⟨k1, k2, _⟩ := signsS_ok _ j t (Nat.le_refl _) g2 g3
        rw [atomsS_more h hA]
        cases h2 : stopS s (signsS s j t).2 with
        | true =>
          rw [catS_one h hA h2, atomsS_stop h2]
          rfl
        | false =>
          rw [catS_more h hA h2, ih _ (by omega) k2]
          cases hB : atomsS s (signsS s j t).2 with
          | bad m => rfl
          | ok l m =>
            have hne := atomsS_ne h2 hB
            cases l with
            | nil => exact absurd rfl hne
            | cons u r => rfl
theorem sidesS_ne {s : List UInt8} {i j : Nat} {l : List Rx} (hi : i ≤ s.length) (h : sidesS s i = .ok l j) : l ≠ [] := by
  cases hC : catS s i with
  | bad k => rw [sidesS_bad hC] at h; cases h
  | ok t k =>
    by_cases hk : s[k]? = some 124
    · rw [sidesS_more hi hC hk] at h
      cases hB : sidesS s (k + 1) with
      | bad m => rw [hB] at h; cases h
      | ok l' m => rw [hB] at h; cases h; simp
    · rw [sidesS_one hC hk] at h; cases h; simp
theorem orS_sides {s : List UInt8} : ∀ (n i : Nat), s.length - i ≤ n → i ≤ s.length → orS s i = (sidesS s i).to altLs := by
  intro n
  induction n with
  | zero =>
    intro i hn hi
    cases hC : catS s i with
    | bad k => rw [orS_bad hC, sidesS_bad hC]; rfl
    | ok t j =>
      obtain ⟨g1, _⟩ := (read_ok _ i (Nat.le_refl _) hi).2.1 _ _ hC
      have hj : s[j]? ≠ some 124 := fun h => by have := getE_lt h; omega
      rw [orS_one hC hj, sidesS_one hC hj]; rfl
  | succ n ih =>
    intro i hn hi
    cases hC : catS s i with
    | bad k => rw [orS_bad hC, sidesS_bad hC]; rfl
    | ok t j =>
      obtain ⟨g1, _⟩ := (read_ok _ i (Nat.le_refl _) hi).2.1 _ _ hC
      by_cases hj : s[j]? = some 124
      · have := getE_lt hj
        rw [orS_more hi hC hj, sidesS_more hi hC hj, ih (j + 1) (by omega) (by omega)]
        cases hB : sidesS s (j + 1) with
        | bad m => rfl
        | ok l m =>
          have hne := sidesS_ne (by omega) hB
          cases l with
          | nil => exact absurd rfl hne
          | cons u r => rfl
      · rw [orS_one hC hj, sidesS_one hC hj]; rfl
theorem orS_all (s : List UInt8) (i : Nat) (hi : i ≤ s.length) : orS s i = (sidesS s i).to altLs := orS_sides _ i (Nat.le_refl _) hi
theorem catS_all (s : List UInt8) (i : Nat) (hi : i ≤ s.length) : catS s i = (atomsS s i).to catLs := catS_atoms _ i (Nat.le_refl _) hi
theorem flat_catLs (t u : Rx) (r : List Rx) : flat (catLs (t :: u :: r)) = ⟨3, zc⟩ :: (flat t ++ flat (catLs (u :: r))) := rfl
theorem flat_altLs (t u : Rx) (r : List Rx) : flat (altLs (t :: u :: r)) = ⟨4, zc⟩ :: (flat t ++ flat (altLs (u :: r))) := rfl
end Wf
