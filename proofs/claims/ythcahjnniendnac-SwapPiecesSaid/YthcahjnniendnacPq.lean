/-
  What a given pattern fits in a given text, reckoned out: for closed facts. No program in sight.
-/
import Derived.Test.YthcahjnniendnacPh
namespace Wf

/-- As often as one likes, n rounds. -/
def starC (R : List Nat → List Nat) : Nat → List Nat → List Nat
  | 0, L => L
  | n + 1, L => starC R n (L ++ (R L).filter fun x => !L.contains x)
/-- Where a pattern may end, from some places. -/
def reachC (s : List UInt8) : Rx → List Nat → List Nat
  | .byte c, L => (L.filter fun i => match s[i]? with | some b => has c b.toNat | none => false).map (· + 1)
  | .empty, L => L
  | .cat a b, L => reachC s b (reachC s a L)
  | .alt a b, L => reachC s a L ++ reachC s b L
  | .star a, L => starC (reachC s a) (s.length + 1) L
  | .plus a, L => starC (reachC s a) (s.length + 1) (reachC s a L)
  | .opt a, L => L ++ reachC s a L
  | .bgn, L => L.filter (· == 0)
  | .fin, L => L.filter (· == s.length)
def starOk (R : List Nat → List Nat) (n : Nat) (L : List Nat) : Bool := (R (starC R n L)).all fun x => (starC R n L).contains x
/-- Did the rounds come to an end? -/
def stableC (s : List UInt8) : Rx → List Nat → Bool
  | .cat a b, L => stableC s a L && stableC s b (reachC s a L)
  | .alt a b, L => stableC s a L && stableC s b L
  | .star a, L => starOk (reachC s a) (s.length + 1) L && stableC s a (starC (reachC s a) (s.length + 1) L)
  | .plus a, L => stableC s a L && (starOk (reachC s a) (s.length + 1) (reachC s a L) && stableC s a (starC (reachC s a) (s.length + 1) (reachC s a L)))
  | .opt a, L => stableC s a L
  | _, _ => true

theorem starC_sound {R : List Nat → List Nat} {F : Nat → Nat → Prop} (h : ∀ L j, j ∈ R L → ∃ i ∈ L, F i j) : ∀ n L j, j ∈ starC R n L → ∃ i ∈ L, Star F i j := by
  intro n
  induction n with
  | zero => intro L j hj; exact ⟨j, hj, .refl _⟩
  | succ n ih =>
    intro L j hj
    obtain ⟨i, hi, hs⟩ := ih _ _ hj
    rcases List.mem_append.1 hi with hi | hi
    · exact ⟨i, hi, hs⟩
    · obtain ⟨k, hk, hf⟩ := h L i (List.mem_filter.1 hi).1
      exact ⟨k, hk, Star.head hf hs⟩
theorem starC_mem {R : List Nat → List Nat} : ∀ n L j, j ∈ L → j ∈ starC R n L := by
  intro n
  induction n with
  | zero => intro L j h; exact h
  | succ n ih => intro L j h; exact ih _ _ (List.mem_append_left _ h)

theorem reach_sound (s : List UInt8) (t : Rx) : ∀ L j, j ∈ reachC s t L → ∃ i ∈ L, Fits s t i j := by
  induction t with
  | byte c =>
    intro L j h
    obtain ⟨i, hi, rfl⟩ := List.mem_map.1 h
    obtain ⟨h1, h2⟩ := List.mem_filter.1 hi
    cases hb : s[i]? with
    | none => rw [hb] at h2; cases h2
    | some b => rw [hb] at h2; exact ⟨i, h1, rfl, b, hb, h2⟩
  | empty => intro L j h; exact ⟨j, h, rfl⟩
  | bgn => intro L j h; obtain ⟨h1, h2⟩ := List.mem_filter.1 h; exact ⟨j, h1, rfl, by simpa using h2⟩
  | fin => intro L j h; obtain ⟨h1, h2⟩ := List.mem_filter.1 h; exact ⟨j, h1, rfl, by simpa using h2⟩
  | cat a b iha ihb =>
    intro L j h
    obtain ⟨k, hk, h1⟩ := ihb _ _ h
    obtain ⟨i, hi, h2⟩ := iha _ _ hk
    exact ⟨i, hi, k, h2, h1⟩
  | alt a b iha ihb =>
    intro L j h
    rcases List.mem_append.1 h with h | h
    · obtain ⟨i, hi, h⟩ := iha _ _ h; exact ⟨i, hi, .inl h⟩
    · obtain ⟨i, hi, h⟩ := ihb _ _ h; exact ⟨i, hi, .inr h⟩
  | star a ih => intro L j h; exact starC_sound ih _ _ _ h
  | plus a ih =>
    intro L j h
    obtain ⟨k, hk, h1⟩ := starC_sound ih _ _ _ h
    obtain ⟨i, hi, h2⟩ := ih _ _ hk
    exact ⟨i, hi, k, h2, h1⟩
  | opt a ih =>
    intro L j h
    rcases List.mem_append.1 h with h | h
    · exact ⟨j, h, .inl rfl⟩
    · obtain ⟨i, hi, h⟩ := ih _ _ h; exact ⟨i, hi, .inr h⟩

theorem starC_full {R : List Nat → List Nat} {F : Nat → Nat → Prop} {n : Nat} {L : List Nat} (ho : starOk R n L = true) (h : ∀ i ∈ starC R n L, ∀ j, F i j → j ∈ R (starC R n L)) : ∀ i ∈ L, ∀ j, Star F i j → j ∈ starC R n L := by
  intro i hi j hs
  refine Star.inv (P := fun x => x ∈ starC R n L) hs (starC_mem _ _ _ hi) fun x y hx hxy => ?_
  have := h x hx y hxy
  unfold starOk at ho
  rw [List.all_eq_true] at ho
  simpa using ho y this
theorem reach_full (s : List UInt8) (t : Rx) : ∀ L, stableC s t L = true → ∀ i ∈ L, ∀ j, Fits s t i j → j ∈ reachC s t L := by
  induction t with
  | byte c =>
    rintro L _ i hi j ⟨rfl, b, hb, hh⟩
    exact List.mem_map.2 ⟨i, List.mem_filter.2 ⟨hi, by rw [hb]; exact hh⟩, rfl⟩
  | empty => rintro L _ i hi j h; simp only [Fits] at h; subst h; exact hi
  | bgn => rintro L _ i hi j ⟨rfl, h⟩; exact List.mem_filter.2 ⟨hi, by simpa using h⟩
  | fin => rintro L _ i hi j ⟨rfl, h⟩; exact List.mem_filter.2 ⟨hi, by simpa using h⟩
  | cat a b iha ihb =>
    rintro L h i hi j ⟨k, h1, h2⟩
    simp only [stableC, Bool.and_eq_true] at h
    exact ihb _ h.2 k (iha _ h.1 i hi k h1) j h2
  | alt a b iha ihb =>
    rintro L h i hi j hf
    simp only [stableC, Bool.and_eq_true] at h
    rcases hf with hf | hf
    · exact List.mem_append_left _ (iha _ h.1 i hi j hf)
    · exact List.mem_append_right _ (ihb _ h.2 i hi j hf)
  | star a ih =>
    intro L h i hi j hf
    simp only [stableC, Bool.and_eq_true] at h
    exact starC_full h.1 (ih _ h.2) i hi j hf
  | plus a ih =>
    rintro L h i hi j ⟨k, h1, h2⟩
    simp only [stableC, Bool.and_eq_true] at h
    exact starC_full h.2.1 (ih _ h.2.2) k (ih _ h.1 i hi k h1) j h2
  | opt a ih =>
    rintro L h i hi j (rfl | hf)
    · exact List.mem_append_left _ hi
    · exact List.mem_append_right _ (ih _ h i hi j hf)

theorem reach_iff {s : List UInt8} {t : Rx} {i : Nat} (h : stableC s t [i] = true) (j : Nat) : Fits s t i j ↔ j ∈ reachC s t [i] := by
  constructor
  · exact fun hf => reach_full s t _ h i (by simp) j hf
  · intro hj
    obtain ⟨k, hk, hf⟩ := reach_sound s t _ _ hj
    obtain rfl : k = i := by simpa using hk
    exact hf

/-- The furthest place, reckoned out. -/
def longC (s : List UInt8) (t : Rx) (i : Nat) : Option Nat := ((List.range (s.length + 1)).filter fun j => (reachC s t [i]).contains j).getLast?
theorem long_eq {s : List UInt8} {t : Rx} {i : Nat} (h : stableC s t [i] = true) : longO s t i = longC s t i := by
  unfold longO longC Go.Proofs.Ythcahjnniendnac.upTo_
  congr 1
  refine List.filter_congr fun j _ => ?_
  have := reach_iff h j
  by_cases hf : Fits s t i j
  · simp [hf, this.1 hf]
  · simp [hf]
    exact fun hm => hf (this.2 hm)
def allStable (s : List UInt8) (t : Rx) : Bool := (List.range (s.length + 1)).all fun i => stableC s t [i]
theorem found_congr {L M : Nat → Option Nat} {N : Nat} (h : ∀ i, i ≤ N → L i = M i) : ∀ i, findO L N i = findO M N i := by
  have key : ∀ n i, i + n ≤ N + 1 → findF L n i = findF M n i := by
    intro n
    induction n with
    | zero => intro i _; rfl
    | succ n ih =>
      intro i hi
      simp only [findF]
      rw [h i (by omega), ih (i + 1) (by omega)]
  intro i
  unfold findO
  by_cases hi : i ≤ N + 1
  · exact key _ _ (by omega)
  · rw [show N + 1 - i = 0 by omega]; rfl
theorem long_all {s : List UInt8} {t : Rx} (h : allStable s t = true) : ∀ i, i ≤ s.length → longO s t i = longC s t i := fun i hi => by
  unfold allStable at h
  rw [List.all_eq_true] at h
  exact long_eq (h i (by simpa using Nat.lt_succ_of_le hi))
theorem found_eq {s : List UInt8} {t : Rx} (h : allStable s t = true) (i : Nat) : foundO s t i = findO (longC s t) s.length i := found_congr (long_all h) i
theorem all_congr {L M : Nat → Option Nat} {N : Nat} (h : ∀ i, i ≤ N → L i = M i) (i : Nat) : allO L N i = allO M N i := by
  have key : ∀ n i, allF L N n i = allF M N n i := by
    intro n
    induction n with
    | zero => intro i; rfl
    | succ n ih =>
      intro i
      simp only [allF]
      rw [found_congr h i]
      split
      · cases findO M N i with
        | none => rfl
        | some p => obtain ⟨a, b⟩ := p; simp only; rw [ih]
      · rfl
  exact key _ _
theorem spans_eq {s : List UInt8} {t : Rx} (h : allStable s t = true) (i : Nat) : spansO s t i = allO (longC s t) s.length i := all_congr (long_all h) i

theorem fact_plus : foundO [98, 97, 97, 98] (.plus (.byte (ofL [97] zc))) 0 = some (1, 3) := by
  rw [found_eq (by decide +kernel)]
  decide +kernel
theorem fact_star : spansO [98, 97] (.star (.byte (ofL [97] zc))) 0 = [(0, 0), (1, 2), (2, 2)] := by
  rw [spans_eq (by decide +kernel)]
  decide +kernel
theorem fact_later : foundO [97, 97] (.byte (ofL [97] zc)) 1 = some (1, 2) := by
  rw [found_eq (by decide +kernel)]
  decide +kernel
end Wf
