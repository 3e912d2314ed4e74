/-
  Ph, Ptn, Pq.
-/
import Derived.Test.YthcahjnniendnacGreatDoorGPl
import Derived.Test.YthcahjnniendnacGreatDoorGRun
/-
  Plain facts about what is found in a text: the first span from a place on, all spans one behind the other. No program in sight.
-/
namespace Wf
open Go.Proofs.YthcahjnniendnacGreatDoor (upTo_ upTo_mem)

/-- The greatest of a row of places; none: there is none. -/
def topL (l : List Nat) : Option Nat := l.getLast?

/-- The first place from i on that has something, among n of them. -/
def findF (L : Nat → Option Nat) : Nat → Nat → Option (Nat × Nat)
  | 0, _ => none
  | n + 1, i => match L i with
    | some j => some (i, j)
    | none => findF L n (i + 1)
/-- What is found from place i on, if N is the last place. -/
def findO (L : Nat → Option Nat) (N i : Nat) : Option (Nat × Nat) := findF L (N + 1 - i) i

theorem findO_end {L : Nat → Option Nat} {N i : Nat} (h : N < i) : findO L N i = none := by
  unfold findO
  rw [show N + 1 - i = 0 by omega]; rfl
theorem findO_some {L : Nat → Option Nat} {N i j : Nat} (h : i ≤ N) (hj : L i = some j) : findO L N i = some (i, j) := by
  unfold findO
  rw [show N + 1 - i = (N - i) + 1 by omega]
  simp only [findF, hj]
theorem findO_none {L : Nat → Option Nat} {N i : Nat} (h : i ≤ N) (hj : L i = none) : findO L N i = findO L N (i + 1) := by
  unfold findO
  rw [show N + 1 - i = (N - i) + 1 by omega, show N + 1 - (i + 1) = N - i by omega]
  simp only [findF, hj]

theorem findO_is {L : Nat → Option Nat} {N : Nat} : ∀ {i a b : Nat}, findO L N i = some (a, b) → i ≤ a ∧ a ≤ N ∧ L a = some b ∧ ∀ k, i ≤ k → k < a → L k = none := by
  have key : ∀ n i a b, n = N + 1 - i → findO L N i = some (a, b) → i ≤ a ∧ a ≤ N ∧ L a = some b ∧ ∀ k, i ≤ k → k < a → L k = none := by
    intro n
    induction n with
    | zero => intro i a b hn h; rw [findO_end (by omega)] at h; cases h
    | succ n ih =>
      intro i a b hn h
      cases hj : L i with
      | some j =>
        rw [findO_some (by omega) hj] at h
        cases h
        exact ⟨Nat.le_refl _, by omega, hj, fun k h1 h2 => by omega⟩
      | none =>
        rw [findO_none (by omega) hj] at h
        obtain ⟨h1, h2, h3, h4⟩ := ih (i + 1) a b (by omega) h
        refine ⟨by omega, h2, h3, fun k k1 k2 => ?_⟩
        by_cases e : k = i
        · rw [e]; exact hj
        · exact h4 k (by omega) k2
  intro i a b h
  exact key _ i a b rfl h
theorem findO_no {L : Nat → Option Nat} {N i : Nat} : findO L N i = none ↔ ∀ k, i ≤ k → k ≤ N → L k = none := by
  constructor
  · have key : ∀ n i, n = N + 1 - i → findO L N i = none → ∀ k, i ≤ k → k ≤ N → L k = none := by
      intro n
      induction n with
      | zero => intro i hn h k k1 k2; omega
      | succ n ih =>
        intro i hn h k k1 k2
        cases hj : L i with
        | some j => rw [findO_some (by omega) hj] at h; cases h
        | none =>
          rw [findO_none (by omega) hj] at h
          by_cases e : k = i
          · rw [e]; exact hj
          · exact ih (i + 1) (by omega) h k (by omega) k2
    intro h
    exact key _ i rfl h
  · intro h
    cases hf : findO L N i with
    | none => rfl
    | some p =>
      obtain ⟨a, b⟩ := p
      obtain ⟨h1, h2, h3, _⟩ := findO_is hf
      rw [h a h1 h2] at h3; cases h3
theorem findO_mk {L : Nat → Option Nat} {N i a b : Nat} (h1 : i ≤ a) (h2 : a ≤ N) (h3 : L a = some b) (h4 : ∀ k, i ≤ k → k < a → L k = none) : findO L N i = some (a, b) := by
  cases hf : findO L N i with
  | none => have := findO_no.1 hf a h1 h2; rw [this] at h3; cases h3
  | some p =>
    obtain ⟨a', b'⟩ := p
    obtain ⟨g1, g2, g3, g4⟩ := findO_is hf
    have e : a' = a := by
      rcases Nat.lt_trichotomy a' a with h | h | h
      · rw [h4 a' g1 h] at g3; cases g3
      · exact h
      · rw [g4 a h1 h] at h3; cases h3
    subst e
    rw [h3] at g3
    cases g3; rfl
/-- From a place further behind, what is found is no earlier, and the same if it is not ahead of the place. -/
theorem findO_later {L : Nat → Option Nat} {N i k : Nat} (h : i ≤ k) : (findO L N i = none → findO L N k = none) ∧ ∀ a b, findO L N i = some (a, b) → k ≤ a → findO L N k = some (a, b) := by
  constructor
  · intro h1
    rw [findO_no] at h1 ⊢
    exact fun j j1 j2 => h1 j (by omega) j2
  · intro a b h1 h2
    obtain ⟨g1, g2, g3, g4⟩ := findO_is h1
    exact findO_mk h2 g2 g3 fun j j1 j2 => g4 j (by omega) j2

/-- Where one goes on behind a span. -/
def behind (a b : Nat) : Nat := if b = a then b + 1 else b

/-- All spans, one behind the other, from a place on. -/
def allF (L : Nat → Option Nat) (N : Nat) : Nat → Nat → List (Nat × Nat)
  | 0, _ => []
  | n + 1, at_ => if at_ ≤ N then (match findO L N at_ with
    | some (a, b) => (a, b) :: allF L N n (behind a b)
    | none => []) else []
def allO (L : Nat → Option Nat) (N at_ : Nat) : List (Nat × Nat) := allF L N (N + 1 - at_) at_

/-- Each place's end lies at it or behind it. -/
def Behind (L : Nat → Option Nat) (N : Nat) : Prop := ∀ i j, L i = some j → i ≤ N → i ≤ j ∧ j ≤ N

theorem behind_gt {L : Nat → Option Nat} {N i a b : Nat} (hL : Behind L N) (h : findO L N i = some (a, b)) : i < behind a b ∧ behind a b ≤ N + 1 ∧ a ≤ b ∧ b ≤ N := by
  obtain ⟨h1, h2, h3, _⟩ := findO_is h
  obtain ⟨g1, g2⟩ := hL a b h3 h2
  unfold behind
  split <;> omega

theorem allF_more {L : Nat → Option Nat} {N : Nat} (hL : Behind L N) : ∀ n m at_, N + 1 - at_ ≤ n → N + 1 - at_ ≤ m → allF L N n at_ = allF L N m at_ := by
  intro n
  induction n with
  | zero =>
    intro m at_ h1 h2
    cases m with
    | zero => rfl
    | succ m => simp only [allF]; rw [if_neg (by omega)]
  | succ n ih =>
    intro m at_ h1 h2
    cases m with
    | zero => simp only [allF]; rw [if_neg (by omega)]
    | succ m =>
      simp only [allF]
      by_cases h : at_ ≤ N
      · rw [if_pos h, if_pos h]
        cases hf : findO L N at_ with
        | none => rfl
        | some p =>
          obtain ⟨a, b⟩ := p
          have hg := behind_gt hL hf
          simp only
          rw [ih m (behind a b) (by omega) (by omega)]
      · rw [if_neg h, if_neg h]

theorem allO_end {L : Nat → Option Nat} {N at_ : Nat} (h : N < at_) : allO L N at_ = [] := by
  unfold allO
  rw [show N + 1 - at_ = 0 by omega]; rfl
theorem allO_none {L : Nat → Option Nat} {N at_ : Nat} (h : findO L N at_ = none) : allO L N at_ = [] := by
  unfold allO
  cases hn : N + 1 - at_ with
  | zero => rfl
  | succ n => simp only [allF, h]; split <;> rfl
theorem allO_some {L : Nat → Option Nat} {N at_ a b : Nat} (hL : Behind L N) (h : findO L N at_ = some (a, b)) : allO L N at_ = (a, b) :: allO L N (behind a b) := by
  have hg := behind_gt hL h
  obtain ⟨h1, h2, _, _⟩ := findO_is h
  unfold allO
  rw [show N + 1 - at_ = (N - at_) + 1 by omega]
  simp only [allF]
  rw [if_pos (by omega), h]
  simp only
  rw [allF_more hL (N - at_) (N + 1 - behind a b) (behind a b) (by omega) (Nat.le_refl _)]

/-- All spans rise and do not overlap. -/
theorem allO_len {L : Nat → Option Nat} {N : Nat} (hL : Behind L N) : ∀ at_, (allO L N at_).length ≤ N + 1 - at_ := by
  have key : ∀ n at_, N + 1 - at_ ≤ n → (allO L N at_).length ≤ N + 1 - at_ := by
    intro n
    induction n with
    | zero => intro at_ h; rw [allO_end (by omega)]; simp
    | succ n ih =>
      intro at_ h
      cases hf : findO L N at_ with
      | none => rw [allO_none hf]; simp
      | some p =>
        obtain ⟨a, b⟩ := p
        have hg := behind_gt hL hf
        rw [allO_some hL hf]
        have := ih (behind a b) (by omega)
        simp
        omega
  exact fun at_ => key _ at_ (Nat.le_refl _)
theorem allO_in {L : Nat → Option Nat} {N : Nat} (hL : Behind L N) : ∀ at_, ∀ p ∈ allO L N at_, at_ ≤ p.1 ∧ p.1 ≤ p.2 ∧ p.2 ≤ N ∧ L p.1 = some p.2 := by
  have key : ∀ n at_, N + 1 - at_ ≤ n → ∀ p ∈ allO L N at_, at_ ≤ p.1 ∧ p.1 ≤ p.2 ∧ p.2 ≤ N ∧ L p.1 = some p.2 := by
    intro n
    induction n with
    | zero => intro at_ h p hp; rw [allO_end (by omega)] at hp; cases hp
    | succ n ih =>
      intro at_ h p hp
      cases hf : findO L N at_ with
      | none => rw [allO_none hf] at hp; cases hp
      | some q =>
        obtain ⟨a, b⟩ := q
        have hg := behind_gt hL hf
        obtain ⟨h1, h2, h3, _⟩ := findO_is hf
        rw [allO_some hL hf] at hp
        rcases List.mem_cons.1 hp with rfl | hp
        · exact ⟨h1, hg.2.2.1, hg.2.2.2, h3⟩
        · obtain ⟨k1, k2, k3, k4⟩ := ih (behind a b) (by omega) p hp
          exact ⟨by omega, k2, k3, k4⟩
  exact fun at_ => key _ at_ (Nat.le_refl _)

/-- The row of spans, told one by one: what stands next is what is found from the end of the one ahead on; behind the last one there is nothing. -/
inductive Chain (L : Nat → Option Nat) (N : Nat) : Nat → List (Nat × Nat) → Nat → Prop where
  | nil (at_ : Nat) : Chain L N at_ [] at_
  | cons {at_ a b at' : Nat} {l : List (Nat × Nat)} (h : findO L N at_ = some (a, b)) (hc : Chain L N (behind a b) l at') : Chain L N at_ ((a, b) :: l) at'
theorem Chain.snoc {L : Nat → Option Nat} {N at_ at' a b : Nat} {l : List (Nat × Nat)} (h : Chain L N at_ l at') (hf : findO L N at' = some (a, b)) : Chain L N at_ (l ++ [(a, b)]) (behind a b) := by
  induction h with
  | nil at_ => exact .cons hf (.nil _)
  | cons h1 _ ih => exact .cons h1 (ih hf)
theorem Chain.all {L : Nat → Option Nat} {N at_ at' : Nat} {l : List (Nat × Nat)} (hL : Behind L N) (h : Chain L N at_ l at') : allO L N at_ = l ++ allO L N at' := by
  induction h with
  | nil at_ => rfl
  | cons h1 _ ih => rw [allO_some hL h1, ih]; rfl
theorem Chain.le {L : Nat → Option Nat} {N at_ at' : Nat} {l : List (Nat × Nat)} (hL : Behind L N) (h : Chain L N at_ l at') : at_ ≤ at' ∧ (at_ ≤ N + 1 → at' ≤ N + 1) ∧ at_ + l.length ≤ at' := by
  induction h with
  | nil at_ => simp
  | cons h1 _ ih =>
    have hg := behind_gt hL h1
    obtain ⟨i1, i2, i3⟩ := ih
    refine ⟨by omega, fun _ => i2 (by omega), by simp; omega⟩

/-- Of a pattern in a text: the furthest place to which it fits from place i. -/
noncomputable def longO (s : List UInt8) (t : Rx) (i : Nat) : Option Nat := (upTo_ (Fits s t i) (s.length + 1)).getLast?
noncomputable def foundO (s : List UInt8) (t : Rx) (i : Nat) : Option (Nat × Nat) := findO (longO s t) s.length i
noncomputable def spansO (s : List UInt8) (t : Rx) (at_ : Nat) : List (Nat × Nat) := allO (longO s t) s.length at_

theorem longO_some {s : List UInt8} {t : Rx} {i j : Nat} (h : longO s t i = some j) : Fits s t i j ∧ j ≤ s.length := by
  unfold longO at h
  have := List.mem_of_getLast? h
  rw [upTo_mem] at this
  exact ⟨this.2, by omega⟩
theorem longO_none {s : List UInt8} {t : Rx} {i : Nat} : longO s t i = none ↔ ∀ j, j ≤ s.length → ¬ Fits s t i j := by
  unfold longO
  rw [List.getLast?_eq_none_iff]
  constructor
  · intro h j hj hf
    have : j ∈ upTo_ (Fits s t i) (s.length + 1) := upTo_mem.2 ⟨by omega, hf⟩
    rw [h] at this; cases this
  · intro h
    refine List.eq_nil_iff_forall_not_mem.2 fun j hj => ?_
    rw [upTo_mem] at hj
    exact h j (by omega) hj.2
theorem long_behind (s : List UInt8) (t : Rx) : Behind (longO s t) s.length := fun i j h hi => by
  obtain ⟨h1, h2⟩ := longO_some h
  exact ⟨(fits_bound s t i j h1 hi).1, h2⟩

end Wf

/-
  Plain: a pattern turned fits the turned text; is found in it just if it is found in the text.
-/
namespace Wf

theorem Star.rev {R R' : Nat → Nat → Prop} {n i j : Nat} (h : Star R i j) (hr : ∀ a b, R a b → R' (n - b) (n - a)) : Star R' (n - j) (n - i) := by
  induction h with
  | refl => exact .refl _
  | tail _ hab ih => exact Star.head (hr _ _ hab) ih

theorem Star.swap {R : Nat → Nat → Prop} {x y z : Nat} (h : Star R x y) (h2 : R y z) : ∃ k, R x k ∧ Star R k z := by
  induction h generalizing z with
  | refl => exact ⟨z, h2, .refl _⟩
  | tail hxy hab ih =>
    obtain ⟨k, h3, h4⟩ := ih hab
    exact ⟨k, h3, .tail h4 h2⟩

theorem fits_turn (s : List UInt8) (u : Rx) : ∀ i j, Fits s u i j → i ≤ s.length → Fits s.reverse (turnT u) (s.length - j) (s.length - i) := by
  have hstar : ∀ (a : Rx), (∀ i j, Fits s a i j → i ≤ s.length → Fits s.reverse (turnT a) (s.length - j) (s.length - i)) → ∀ i j, Star (Fits s a) i j → i ≤ s.length → Star (Fits s.reverse (turnT a)) (s.length - j) (s.length - i) := by
    intro a ih i j h hi
    have h2 : Star (fun x y => x ≤ s.length ∧ Fits s a x y) i j ∧ j ≤ s.length := by
      induction h with
      | refl => exact ⟨.refl _, hi⟩
      | tail _ hab ih2 => exact ⟨.tail ih2.1 ⟨ih2.2, hab⟩, (fits_bound s a _ _ hab ih2.2).2⟩
    exact h2.1.rev (n := s.length) fun x y hxy => ih x y hxy.2 hxy.1
  induction u with
  | byte c =>
    intro i j h hi
    simp only [Fits] at h
    obtain ⟨rfl, b, hb, hc⟩ := h
    have hlt : i < s.length := by
      rcases Nat.lt_or_ge i s.length with h | h
      · exact h
      · rw [List.getElem?_eq_none h] at hb; cases hb
    simp only [turnT, Fits]
    refine ⟨by omega, b, ?_, hc⟩
    rw [List.getElem?_reverse (by omega), show s.length - 1 - (s.length - (i + 1)) = i from by omega]
    exact hb
  | empty => intro i j h hi; simp only [turnT, Fits] at h ⊢; omega
  | bgn => intro i j h hi; simp only [turnT, Fits, List.length_reverse] at h ⊢; omega
  | fin => intro i j h hi; simp only [turnT, Fits] at h ⊢; omega
  | cat a b iha ihb =>
    intro i j h hi
    simp only [turnT, Fits] at h ⊢
    obtain ⟨k, h1, h2⟩ := h
    exact ⟨s.length - k, ihb k j h2 (fits_bound s a i k h1 hi).2, iha i k h1 hi⟩
  | alt a b iha ihb =>
    intro i j h hi
    simp only [turnT, Fits] at h ⊢
    exact h.imp (fun h => iha i j h hi) (fun h => ihb i j h hi)
  | star a ih =>
    intro i j h hi
    simp only [turnT, Fits] at h ⊢
    exact hstar a ih i j h hi
  | plus a ih =>
    intro i j h hi
    simp only [turnT, Fits] at h ⊢
    obtain ⟨k, h1, h2⟩ := h
    exact (hstar a ih k j h2 (fits_bound s a i k h1 hi).2).swap (ih i k h1 hi)
  | opt a ih =>
    intro i j h hi
    simp only [turnT, Fits] at h ⊢
    rcases h with rfl | h
    · exact .inl rfl
    · exact .inr (ih i j h hi)

theorem fits_turn_iff (s : List UInt8) (u : Rx) (i j : Nat) (hi : i ≤ s.length) (hj : j ≤ s.length) : Fits s u i j ↔ Fits s.reverse (turnT u) (s.length - j) (s.length - i) := by
  constructor
  · intro h; exact fits_turn s u i j h hi
  · intro h
    have := fits_turn s.reverse (turnT u) _ _ h (by rw [List.length_reverse]; omega)
    rw [List.reverse_reverse, turn_turn, List.length_reverse] at this
    rw [show s.length - (s.length - i) = i from by omega, show s.length - (s.length - j) = j from by omega] at this
    exact this

/-- Backwards all the same. -/
theorem found_none {s : List UInt8} {t : Rx} : foundO s t 0 = none ↔ ∀ i j, i ≤ s.length → j ≤ s.length → ¬ Fits s t i j := by
  unfold foundO
  rw [findO_no]
  constructor
  · intro h i j hi hj
    exact longO_none.1 (h i (Nat.zero_le _) hi) j hj
  · intro h i _ hi
    exact longO_none.2 fun j hj => h i j hi hj
theorem found_turn (s : List UInt8) (t : Rx) : foundO s.reverse (turnT t) 0 = none ↔ foundO s t 0 = none := by
  rw [found_none, found_none]
  constructor
  · intro h i j hi hj hf
    exact h (s.length - j) (s.length - i) (by simp) (by simp) ((fits_turn_iff s t i j hi hj).1 hf)
  · intro h i j hi hj hf
    rw [List.length_reverse] at hi hj
    refine h (s.length - j) (s.length - i) (by omega) (by omega) ((fits_turn_iff s t _ _ (by omega) (by omega)).2 ?_)
    rw [show s.length - (s.length - i) = i by omega, show s.length - (s.length - j) = j by omega]
    exact hf
end Wf

/-
  What a given pattern fits in a given text, reckoned out: for closed facts. No program in sight.
-/
namespace Wf

/-- As often as one likes, n rounds. -/
def starC (R : List Nat → List Nat) : Nat → List Nat → List Nat
  | 0, L => L
  | n + 1, L => starC R n (L ++ (R L).filter fun x => !L.contains x)
/-- Where a pattern may end, from some places. -/
def reachC (s : List UInt8) : Rx → List Nat → List Nat
  | .byte c, L => (L.filter fun i => match s[i]? with | some b => has c b.toNat | none => false).map (· + 1)
  | .empty, L => L
  | .cat a b, L => reachC s b (reachC s a L)
  | .alt a b, L => reachC s a L ++ reachC s b L
  | .star a, L => starC (reachC s a) (s.length + 1) L
  | .plus a, L => starC (reachC s a) (s.length + 1) (reachC s a L)
  | .opt a, L => L ++ reachC s a L
  | .bgn, L => L.filter (· == 0)
  | .fin, L => L.filter (· == s.length)
def starOk (R : List Nat → List Nat) (n : Nat) (L : List Nat) : Bool := (R (starC R n L)).all fun x => (starC R n L).contains x
/-- Did the rounds come to an end? -/
def stableC (s : List UInt8) : Rx → List Nat → Bool
  | .cat a b, L => stableC s a L && stableC s b (reachC s a L)
  | .alt a b, L => stableC s a L && stableC s b L
  | .star a, L => starOk (reachC s a) (s.length + 1) L && stableC s a (starC (reachC s a) (s.length + 1) L)
  | .plus a, L => stableC s a L && (starOk (reachC s a) (s.length + 1) (reachC s a L) && stableC s a (starC (reachC s a) (s.length + 1) (reachC s a L)))
  | .opt a, L => stableC s a L
  | _, _ => true

theorem starC_sound {R : List Nat → List Nat} {F : Nat → Nat → Prop} (h : ∀ L j, j ∈ R L → ∃ i ∈ L, F i j) : ∀ n L j, j ∈ starC R n L → ∃ i ∈ L, Star F i j := by
  intro n
  induction n with
  | zero => intro L j hj; exact ⟨j, hj, .refl _⟩
  | succ n ih =>
    intro L j hj
    obtain ⟨i, hi, hs⟩ := ih _ _ hj
    rcases List.mem_append.1 hi with hi | hi
    · exact ⟨i, hi, hs⟩
    · obtain ⟨k, hk, hf⟩ := h L i (List.mem_filter.1 hi).1
      exact ⟨k, hk, Star.head hf hs⟩
theorem starC_mem {R : List Nat → List Nat} : ∀ n L j, j ∈ L → j ∈ starC R n L := by
  intro n
  induction n with
  | zero => intro L j h; exact h
  | succ n ih => intro L j h; exact ih _ _ (List.mem_append_left _ h)

theorem reach_sound (s : List UInt8) (t : Rx) : ∀ L j, j ∈ reachC s t L → ∃ i ∈ L, Fits s t i j := by
  induction t with
  | byte c =>
    intro L j h
    obtain ⟨i, hi, rfl⟩ := List.mem_map.1 h
    obtain ⟨h1, h2⟩ := List.mem_filter.1 hi
    cases hb : s[i]? with
    | none => rw [hb] at h2; cases h2
    | some b => rw [hb] at h2; exact ⟨i, h1, rfl, b, hb, h2⟩
  | empty => intro L j h; exact ⟨j, h, rfl⟩
  | bgn => intro L j h; obtain ⟨h1, h2⟩ := List.mem_filter.1 h; exact ⟨j, h1, rfl, by simpa using h2⟩
  | fin => intro L j h; obtain ⟨h1, h2⟩ := List.mem_filter.1 h; exact ⟨j, h1, rfl, by simpa using h2⟩
  | cat a b iha ihb =>
    intro L j h
    obtain ⟨k, hk, h1⟩ := ihb _ _ h
    obtain ⟨i, hi, h2⟩ := iha _ _ hk
    exact ⟨i, hi, k, h2, h1⟩
  | alt a b iha ihb =>
    intro L j h
    rcases List.mem_append.1 h with h | h
    · obtain ⟨i, hi, h⟩ := iha _ _ h; exact ⟨i, hi, .inl h⟩
    · obtain ⟨i, hi, h⟩ := ihb _ _ h; exact ⟨i, hi, .inr h⟩
  | star a ih => intro L j h; exact starC_sound ih _ _ _ h
  | plus a ih =>
    intro L j h
    obtain ⟨k, hk, h1⟩ := starC_sound ih _ _ _ h
    obtain ⟨i, hi, h2⟩ := ih _ _ hk
    exact ⟨i, hi, k, h2, h1⟩
  | opt a ih =>
    intro L j h
    rcases List.mem_append.1 h with h | h
    · exact ⟨j, h, .inl rfl⟩
    · obtain ⟨i, hi, h⟩ := ih _ _ h; exact ⟨i, hi, .inr h⟩

theorem starC_full {R : List Nat → List Nat} {F : Nat → Nat → Prop} {n : Nat} {L : List Nat} (ho : starOk R n L = true) (h : ∀ i ∈ starC R n L, ∀ j, F i j → j ∈ R (starC R n L)) : ∀ i ∈ L, ∀ j, Star F i j → j ∈ starC R n L := by
  intro i hi j hs
  refine Star.inv (P := fun x => x ∈ starC R n L) hs (starC_mem _ _ _ hi) fun x y hx hxy => ?_
  have := h x hx y hxy
  unfold starOk at ho
  rw [List.all_eq_true] at ho
  simpa using ho y this
theorem reach_full (s : List UInt8) (t : Rx) : ∀ L, stableC s t L = true → ∀ i ∈ L, ∀ j, Fits s t i j → j ∈ reachC s t L := by
  induction t with
  | byte c =>
    rintro L _ i hi j ⟨rfl, b, hb, hh⟩
    exact List.mem_map.2 ⟨i, List.mem_filter.2 ⟨hi, by rw [hb]; exact hh⟩, rfl⟩
  | empty => rintro L _ i hi j h; simp only [Fits] at h; subst h; exact hi
  | bgn => rintro L _ i hi j ⟨rfl, h⟩; exact List.mem_filter.2 ⟨hi, by simpa using h⟩
  | fin => rintro L _ i hi j ⟨rfl, h⟩; exact List.mem_filter.2 ⟨hi, by simpa using h⟩
  | cat a b iha ihb =>
    rintro L h i hi j ⟨k, h1, h2⟩
    simp only [stableC, Bool.and_eq_true] at h
    exact ihb _ h.2 k (iha _ h.1 i hi k h1) j h2
  | alt a b iha ihb =>
    rintro L h i hi j hf
    simp only [stableC, Bool.and_eq_true] at h
    rcases hf with hf | hf
    · exact List.mem_append_left _ (iha _ h.1 i hi j hf)
    · exact List.mem_append_right _ (ihb _ h.2 i hi j hf)
  | star a ih =>
    intro L h i hi j hf
    simp only [stableC, Bool.and_eq_true] at h
    exact starC_full h.1 (ih _ h.2) i hi j hf
  | plus a ih =>
    rintro L h i hi j ⟨k, h1, h2⟩
    simp only [stableC, Bool.and_eq_true] at h
    exact starC_full h.2.1 (ih _ h.2.2) k (ih _ h.1 i hi k h1) j h2
  | opt a ih =>
    rintro L h i hi j (rfl | hf)
    · exact List.mem_append_left _ hi
    · exact List.mem_append_right _ (ih _ h i hi j hf)

theorem reach_iff {s : List UInt8} {t : Rx} {i : Nat} (h : stableC s t [i] = true) (j : Nat) : Fits s t i j ↔ j ∈ reachC s t [i] := by
  constructor
  · exact fun hf => reach_full s t _ h i (by simp) j hf
  · intro hj
    obtain ⟨k, hk, hf⟩ := reach_sound s t _ _ hj
    obtain rfl : k = i := by simpa using hk
    exact hf

/-- The furthest place, reckoned out. -/
def longC (s : List UInt8) (t : Rx) (i : Nat) : Option Nat := ((List.range (s.length + 1)).filter fun j => (reachC s t [i]).contains j).getLast?
theorem long_eq {s : List UInt8} {t : Rx} {i : Nat} (h : stableC s t [i] = true) : longO s t i = longC s t i := by
  unfold longO longC Go.Proofs.YthcahjnniendnacGreatDoor.upTo_
  congr 1
  refine List.filter_congr fun j _ => ?_
  have := reach_iff h j
  by_cases hf : Fits s t i j
  · simp [hf, this.1 hf]
  · simp [hf]
    exact fun hm => hf (this.2 hm)
def allStable (s : List UInt8) (t : Rx) : Bool := (List.range (s.length + 1)).all fun i => stableC s t [i]
theorem found_congr {L M : Nat → Option Nat} {N : Nat} (h : ∀ i, i ≤ N → L i = M i) : ∀ i, findO L N i = findO M N i := by
  have key : ∀ n i, i + n ≤ N + 1 → findF L n i = findF M n i := by
    intro n
    induction n with
    | zero => intro i _; rfl
    | succ n ih =>
      intro i hi
      simp only [findF]
      rw [h i (by omega), ih (i + 1) (by omega)]
  intro i
  unfold findO
  by_cases hi : i ≤ N + 1
  · exact key _ _ (by omega)
  · rw [show N + 1 - i = 0 by omega]; rfl
theorem long_all {s : List UInt8} {t : Rx} (h : allStable s t = true) : ∀ i, i ≤ s.length → longO s t i = longC s t i := fun i hi => by
  unfold allStable at h
  rw [List.all_eq_true] at h
  exact long_eq (h i (by simpa using Nat.lt_succ_of_le hi))
theorem found_eq {s : List UInt8} {t : Rx} (h : allStable s t = true) (i : Nat) : foundO s t i = findO (longC s t) s.length i := found_congr (long_all h) i
theorem all_congr {L M : Nat → Option Nat} {N : Nat} (h : ∀ i, i ≤ N → L i = M i) (i : Nat) : allO L N i = allO M N i := by
  have key : ∀ n i, allF L N n i = allF M N n i := by
    intro n
    induction n with
    | zero => intro i; rfl
    | succ n ih =>
      intro i
      simp only [allF]
      rw [found_congr h i]
      split
      · cases findO M N i with
        | none => rfl
        | some p => obtain ⟨a, b⟩ := p; simp only; rw [ih]
      · rfl
  exact key _ _
theorem spans_eq {s : List UInt8} {t : Rx} (h : allStable s t = true) (i : Nat) : spansO s t i = allO (longC s t) s.length i := all_congr (long_all h) i

theorem fact_plus : foundO [98, 97, 97, 98] (.plus (.byte (ofL [97] zc))) 0 = some (1, 3) := by
  rw [found_eq (by decide +kernel)]
  decide +kernel
theorem fact_star : spansO [98, 97] (.star (.byte (ofL [97] zc))) 0 = [(0, 0), (1, 2), (2, 2)] := by
  rw [spans_eq (by decide +kernel)]
  decide +kernel
theorem fact_later : foundO [97, 97] (.byte (ofL [97] zc)) 1 = some (1, 2) := by
  rw [found_eq (by decide +kernel)]
  decide +kernel
end Wf
