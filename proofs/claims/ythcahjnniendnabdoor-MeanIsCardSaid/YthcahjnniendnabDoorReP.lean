/-
  Plain facts about the places to which a part fits, all at once. No program in sight.
-/
import Derived.Test.YthcahjnniendnabDoorPm
namespace Wf

def setD (D : Nat → Bool) (k : Nat) (x : Bool) : Nat → Bool := fun j => if j = k then x else D j
def cntD (N : Nat) (D : Nat → Bool) : Nat := (List.range N).countP D
theorem cntD_le (N : Nat) (D : Nat → Bool) : cntD N D ≤ N := by
  have := List.countP_le_length (p := D) (l := List.range N)
  simpa [cntD] using this
theorem cntD_succ (N : Nat) (D : Nat → Bool) : cntD (N + 1) D = cntD N D + (if D N then 1 else 0) := by
  simp [cntD, List.range_succ, List.countP_append, List.countP_cons]
theorem cntD_mono {N : Nat} {D D' : Nat → Bool} (h : ∀ j, j < N → D j = true → D' j = true) : cntD N D ≤ cntD N D' := by
  induction N with
  | zero => simp [cntD]
  | succ N ih =>
    rw [cntD_succ, cntD_succ]
    have h1 := ih (fun j hj => h j (by omega))
    have h2 := h N (by omega)
    cases hD : D N with
    | false => simp; omega
    | true => rw [h2 hD]; simp; omega
theorem cntD_lt {N : Nat} {D D' : Nat → Bool} (h : ∀ j, j < N → D j = true → D' j = true) {j : Nat} (hj : j < N) (h1 : D' j = true) (h2 : D j = false) : cntD N D < cntD N D' := by
  induction N with
  | zero => omega
  | succ N ih =>
    rw [cntD_succ, cntD_succ]
    by_cases e : j = N
    · subst e
      have := cntD_mono (fun i hi => h i (by omega) : ∀ i, i < j → D i = true → D' i = true)
      rw [h1, h2]; simp; omega
    · have h3 := ih (fun i hi => h i (by omega)) (by omega)
      have h4 := h N (by omega)
      cases hD : D N with
      | false => simp; omega
      | true => rw [h4 hD]; simp; omega

/-- D' tells where a relation comes to from where D tells. -/
def ToD (R : Nat → Nat → Prop) (N : Nat) (D D' : Nat → Bool) : Prop := ∀ j, j < N → (D' j = true ↔ ∃ k, k < N ∧ D k = true ∧ R k j)

theorem to_empty (s : List UInt8) (N : Nat) (D : Nat → Bool) : ToD (Fits s .empty) N D D := fun j hj => by
  simp only [Fits]
  exact ⟨fun h => ⟨j, hj, h, rfl⟩, fun ⟨k, _, h, e⟩ => by subst e; exact h⟩
theorem to_bgn (s : List UInt8) (N : Nat) (D : Nat → Bool) : ToD (Fits s .bgn) N D (setD (fun _ => false) 0 (D 0)) := fun j hj => by
  simp only [Fits, setD]
  constructor
  · intro h
    split at h
    · rename_i e; subst e; exact ⟨0, hj, h, rfl, rfl⟩
    · cases h
  · rintro ⟨k, _, h, rfl, rfl⟩
    simpa using h
theorem to_fin (s : List UInt8) (D : Nat → Bool) : ToD (Fits s .fin) (s.length + 1) D (setD (fun _ => false) s.length (D s.length)) := fun j hj => by
  simp only [Fits, setD]
  constructor
  · intro h
    split at h
    · rename_i e; subst e; exact ⟨_, hj, h, rfl, rfl⟩
    · cases h
  · rintro ⟨k, _, h, rfl, rfl⟩
    simpa using h
/-- What a byte's part comes to, the first m places of the text being read. -/
def byteD (s : List UInt8) (c : Cls) (D : Nat → Bool) (m : Nat) : Nat → Bool := fun j => decide (0 < j) && decide (j ≤ m) && (D (j - 1) && (match s[j - 1]? with | some b => has c b.toNat | none => false))
theorem byteD_zero (s : List UInt8) (c : Cls) (D : Nat → Bool) : byteD s c D 0 = fun _ => false := by
  funext j
  unfold byteD
  cases h : decide (0 < j) with
  | false => simp
  | true => have : ¬ j ≤ 0 := by have := of_decide_eq_true h; omega
            simp [this]
theorem byteD_succ {s : List UInt8} {c : Cls} {D : Nat → Bool} {m : Nat} {b : UInt8} (hb : s[m]? = some b) : byteD s c D (m + 1) = setD (byteD s c D m) (m + 1) (D m && has c b.toNat) := by
  funext j
  unfold setD byteD
  by_cases e : j = m + 1
  · subst e
    simp [hb]
  · rw [if_neg e]
    have : decide (j ≤ m + 1) = decide (j ≤ m) := by
      rw [decide_eq_decide]; omega
    rw [this]
theorem to_byte (s : List UInt8) (c : Cls) (D : Nat → Bool) : ToD (Fits s (.byte c)) (s.length + 1) D (byteD s c D s.length) := fun j hj => by
  simp only [Fits, byteD]
  constructor
  · intro h
    simp only [Bool.and_eq_true, decide_eq_true_eq] at h
    obtain ⟨⟨h1, h2⟩, h3, h4⟩ := h
    cases hb : s[j - 1]? with
    | none => rw [hb] at h4; cases h4
    | some b =>
      rw [hb] at h4
      exact ⟨j - 1, by omega, h3, by omega, b, hb, h4⟩
  · rintro ⟨k, hk, hD, rfl, b, hb, hh⟩
    have := (List.getElem?_eq_some_iff.1 hb).1
    simp [hD, hb, hh]
    omega

theorem to_cat {s : List UInt8} {a b : Rx} {D D1 D2 : Nat → Bool} (h1 : ToD (Fits s a) (s.length + 1) D D1) (h2 : ToD (Fits s b) (s.length + 1) D1 D2) : ToD (Fits s (.cat a b)) (s.length + 1) D D2 := fun j hj => by
  rw [h2 j hj]
  simp only [Fits]
  constructor
  · rintro ⟨m, hm, h, hf⟩
    obtain ⟨k, hk, hD, hf1⟩ := (h1 m hm).1 h
    exact ⟨k, hk, hD, m, hf1, hf⟩
  · rintro ⟨k, hk, hD, m, hf1, hf⟩
    have := fits_bound s a k m hf1 (by omega)
    exact ⟨m, by omega, (h1 m (by omega)).2 ⟨k, hk, hD, hf1⟩, hf⟩
theorem to_alt {s : List UInt8} {a b : Rx} {N : Nat} {D D1 D2 : Nat → Bool} (h1 : ToD (Fits s a) N D D1) (h2 : ToD (Fits s b) N D D2) : ToD (Fits s (.alt a b)) N D (fun j => D1 j || D2 j) := fun j hj => by
  simp only [Bool.or_eq_true, Fits]
  rw [h1 j hj, h2 j hj]
  constructor
  · rintro (⟨k, hk, hD, h⟩ | ⟨k, hk, hD, h⟩)
    · exact ⟨k, hk, hD, .inl h⟩
    · exact ⟨k, hk, hD, .inr h⟩
  · rintro ⟨k, hk, hD, h | h⟩
    · exact .inl ⟨k, hk, hD, h⟩
    · exact .inr ⟨k, hk, hD, h⟩
theorem to_opt {s : List UInt8} {a : Rx} {N : Nat} {D D1 : Nat → Bool} (h1 : ToD (Fits s a) N D D1) : ToD (Fits s (.opt a)) N D (fun j => D j || D1 j) := fun j hj => by
  simp only [Bool.or_eq_true, Fits]
  rw [h1 j hj]
  constructor
  · rintro (h | ⟨k, hk, hD, h⟩)
    · exact ⟨j, hj, h, .inl rfl⟩
    · exact ⟨k, hk, hD, .inr h⟩
  · rintro ⟨k, hk, hD, h | h⟩
    · subst h; exact .inl hD
    · exact .inr ⟨k, hk, hD, h⟩
theorem to_star {s : List UInt8} {a : Rx} {N : Nat} {D D1 : Nat → Bool} (h1 : ToD (Star (Fits s a)) N D D1) : ToD (Fits s (.star a)) N D D1 := h1
theorem to_plus {s : List UInt8} {a : Rx} {D D1 D2 : Nat → Bool} (h1 : ToD (Fits s a) (s.length + 1) D D1) (h2 : ToD (Star (Fits s a)) (s.length + 1) D1 D2) : ToD (Fits s (.plus a)) (s.length + 1) D D2 := fun j hj => by
  rw [h2 j hj]
  simp only [Fits]
  constructor
  · rintro ⟨m, hm, h, hf⟩
    obtain ⟨k, hk, hD, hf1⟩ := (h1 m hm).1 h
    exact ⟨k, hk, hD, m, hf1, hf⟩
  · rintro ⟨k, hk, hD, m, hf1, hf⟩
    have := fits_bound s a k m hf1 (by omega)
    exact ⟨m, by omega, (h1 m (by omega)).2 ⟨k, hk, hD, hf1⟩, hf⟩

/-- Between what is told and all that comes of it. -/
structure Part (R : Nat → Nat → Prop) (N : Nat) (D Df : Nat → Bool) : Prop where
  up : ∀ j, j < N → D j = true → Df j = true
  of : ∀ j, j < N → Df j = true → ∃ k, k < N ∧ D k = true ∧ Star R k j
theorem Part.start (R : Nat → Nat → Prop) (N : Nat) (D : Nat → Bool) : Part R N D D := ⟨fun _ _ h => h, fun j hj h => ⟨j, hj, h, .refl _⟩⟩
theorem Part.step {R : Nat → Nat → Prop} {N : Nat} {D Df Dn : Nat → Bool} (h : Part R N D Df) (hn : ToD R N Df Dn) : Part R N D (fun j => Df j || Dn j) := by
  refine ⟨fun j hj hd => by simp [h.up j hj hd], fun j hj hd => ?_⟩
  simp only [Bool.or_eq_true] at hd
  rcases hd with hd | hd
  · exact h.of j hj hd
  · obtain ⟨m, hm, hd1, hr⟩ := (hn j hj).1 hd
    obtain ⟨k, hk, hd2, hs⟩ := h.of m hm hd1
    exact ⟨k, hk, hd2, .tail hs hr⟩
theorem Part.done {R : Nat → Nat → Prop} {N : Nat} {D Df Dn : Nat → Bool} (h : Part R N D Df) (hn : ToD R N Df Dn) (hb : ∀ x y, R x y → x < N → y < N) (hsame : ∀ j, j < N → (Df j || Dn j) = Df j) : ToD (Star R) N D (fun j => Df j || Dn j) := fun j hj => by
  show (Df j || Dn j) = true ↔ _
  rw [hsame j hj]
  constructor
  · exact h.of j hj
  · rintro ⟨k, hk, hd, hs⟩
    have hclosed : ∀ a b, (a < N ∧ Df a = true) → R a b → (b < N ∧ Df b = true) := by
      rintro a b ⟨h1, h2⟩ hr
      have h3 := hb a b hr h1
      refine ⟨h3, ?_⟩
      have h4 := (hn b h3).2 ⟨a, h1, h2, hr⟩
      have h5 := hsame b h3
      rw [h4] at h5
      simpa using h5.symm
    exact (Star.inv (P := fun x => x < N ∧ Df x = true) hs ⟨hk, h.up k hk hd⟩ hclosed).2
theorem Part.more {N : Nat} {Df Dn : Nat → Bool} {j : Nat} (hj : j < N) (hne : (Df j || Dn j) ≠ Df j) : cntD N Df < cntD N (fun j => Df j || Dn j) := by
  refine cntD_lt (fun i _ h => by simp [h]) hj ?_ ?_
  · cases h : Df j with
    | true => simp
    | false => cases h2 : Dn j with
      | true => simp
      | false => rw [h, h2] at hne; simp at hne
  · cases h : Df j with
    | false => rfl
    | true => rw [h] at hne; simp at hne

end Wf
