/-
  Plain facts about runs of programs: where a run may be, where it may end. No program in sight.
-/
import Derived.Test.YthcahjnniendnaaDoorPg
import Derived.Test.YthcahjnniendnaaDoorUp
namespace Wf
open Go.Proofs.YthcahjnniendnaaDoor (upTo_ upTo_zero upTo_yes upTo_no upTo_len upTo_mem upTo_iff goL)

/-- A run from a place on may be, at place i, at step j (ahead of what goes without a byte). -/
inductive RunAt (p : List St) (s : List UInt8) (from_ : Nat) : Nat → Nat → Prop where
  | start : RunAt p s from_ from_ 0
  | step {i j k x : Nat} {b : UInt8} {st : St} : RunAt p s from_ i j → Star (Eps p (i == 0) (i == s.length)) j k → p[k]? = some st → st.op = 1 → s[i]? = some b → has st.cls b.toNat = true → (x : Int) = st.x → RunAt p s from_ (i + 1) x

/-- A run may end at a place. -/
def EndsAt (p : List St) (s : List UInt8) (from_ : Nat) (i : Nat) : Prop := ∃ j k, RunAt p s from_ i j ∧ Star (Eps p (i == 0) (i == s.length)) j k ∧ ∃ st, p[k]? = some st ∧ st.op = 5

theorem RunAt.ge {p : List St} {s : List UInt8} {f i j : Nat} (h : RunAt p s f i j) : f ≤ i := by
  induction h with
  | start => exact Nat.le_refl _
  | step _ _ _ _ _ _ _ ih => omega
theorem RunAt.le {p : List St} {s : List UInt8} {f i j : Nat} (h : RunAt p s f i j) (hf : f ≤ s.length) : i ≤ s.length := by
  cases h with
  | start => exact hf
  | step _ _ _ _ hb _ _ => have := (List.getElem?_eq_some_iff.1 hb).1; omega
theorem RunAt.lt {p : List St} (hp : okP p) {s : List UInt8} {f i j : Nat} (h : RunAt p s f i j) : j < p.length := by
  cases h with
  | start => exact hp.1
  | step _ _ hs h1 _ _ hx =>
    have := (oneP_zero (hp.2.2 _ (List.mem_of_getElem? hs))).2.1 (by omega)
    omega
theorem RunAt.first {p : List St} {s : List UInt8} {f j : Nat} (h : RunAt p s f f j) : j = 0 := by
  generalize hi : f = i at h
  cases h with
  | start => rfl
  | step h => have := h.ge; omega

/-- The list of steps at which a run may be is told. -/
def AtL (p : List St) (s : List UInt8) (f i : Nat) (fs : List Nat) : Prop := ∀ j, j ∈ fs ↔ RunAt p s f i j
theorem AtL.start (p : List St) (s : List UInt8) (f : Nat) : AtL p s f f [0] := fun j => by
  constructor
  · intro h
    obtain rfl : j = 0 := by simpa using h
    exact .start
  · intro h; rw [h.first]; simp

theorem AtL.spr {p : List St} {s : List UInt8} {f i : Nat} {fs : List Nat} (h : AtL p s f i fs) (k : Nat) (a b : Bool) : Spr p a b fs k ↔ ∃ j, RunAt p s f i j ∧ Star (Eps p a b) j k := by
  unfold Spr
  constructor
  · rintro ⟨j, h1, h2⟩; exact ⟨j, (h j).1 h1, h2⟩
  · rintro ⟨j, h1, h2⟩; exact ⟨j, (h j).2 h1, h2⟩

theorem AtL.done {p : List St} {s : List UInt8} {f i : Nat} {fs L : List Nat} {d : Bool} (h : AtL p s f i fs) (hf : Front p (i == 0) (i == s.length) fs L d) : d = true ↔ EndsAt p s f i := by
  rw [hf.done]
  unfold EndsAt
  constructor
  · rintro ⟨k, h1, h2⟩
    obtain ⟨j, h3, h4⟩ := (h.spr k _ _).1 h1
    exact ⟨j, k, h3, h4, h2⟩
  · rintro ⟨j, k, h3, h4, h2⟩
    exact ⟨k, (h.spr k _ _).2 ⟨j, h3, h4⟩, h2⟩

theorem AtL.next {p : List St} (hp : okP p) {s : List UInt8} {f i : Nat} {fs L : List Nat} {d : Bool} {b : UInt8} (hfi : f ≤ i) (h : AtL p s f i fs) (hf : Front p (i == 0) (i == s.length) fs L d) (hb : s[i]? = some b) : AtL p s f (i + 1) (goL p b.toNat L) := by
  intro x
  unfold goL
  rw [List.mem_flatMap]
  constructor
  · rintro ⟨k, hk, hx⟩
    obtain ⟨h1, st, h2, h3⟩ := (hf.takes k).1 hk
    obtain ⟨j, h4, h5⟩ := (h.spr k _ _).1 h1
    rw [h2] at hx
    simp only at hx
    split at hx
    · rename_i hh
      have hx0 := (oneP_zero (hp.2.2 _ (List.mem_of_getElem? h2))).2.1 (by omega)
      obtain rfl : x = st.x.toNat := by simpa using hx
      exact .step h4 h5 h2 h3 hb hh (by omega)
    · cases hx
  · intro h
    generalize hi : i + 1 = i' at h
    cases h with
    | start => omega
    | @step i1 j k x b1 st h4 h5 h2 h3 hb1 hh hx =>
      obtain rfl : i1 = i := by omega
      rw [hb] at hb1
      cases hb1
      refine ⟨k, (hf.takes k).2 ⟨(AtL.spr h k _ _).2 ⟨j, h4, h5⟩, st, h2, h3⟩, ?_⟩
      rw [h2]
      simp only
      rw [if_pos hh]
      simp
      omega

theorem AtL.none {p : List St} {s : List UInt8} {f i : Nat} (hfi : f ≤ i) (h : AtL p s f i []) : ∀ i', i ≤ i' → ∀ j, ¬ RunAt p s f i' j := by
  intro i' hi'
  obtain ⟨m, rfl⟩ : ∃ m, i' = i + m := ⟨i' - i, by omega⟩
  clear hi'
  induction m with
  | zero => intro j hj; have := (h j).2 hj; cases this
  | succ m ih =>
    intro j hj
    generalize hi : i + (m + 1) = i' at hj
    cases hj with
    | start => omega
    | @step i1 j1 _ _ _ _ h4 =>
      obtain rfl : i1 = i + m := by omega
      exact ih _ h4

/-- All the ends of a run. -/
noncomputable def runL (p : List St) (s : List UInt8) (f : Nat) : List Nat := upTo_ (EndsAt p s f) (s.length + 1)
theorem runL_of {p : List St} {s : List UInt8} {f i : Nat} (hi : i ≤ s.length + 1) (h : ∀ i', i ≤ i' → ¬ EndsAt p s f i') : runL p s f = upTo_ (EndsAt p s f) i := by
  unfold runL
  obtain ⟨m, hm⟩ : ∃ m, s.length + 1 = i + m := ⟨s.length + 1 - i, by omega⟩
  rw [hm]
  clear hm
  induction m with
  | zero => rfl
  | succ m ih => rw [show i + (m + 1) = (i + m) + 1 by omega, upTo_no (h _ (by omega)), ih]
theorem ends_first {p : List St} {s : List UInt8} {f i : Nat} (h : EndsAt p s f i) : f ≤ i := by
  obtain ⟨j, k, h1, _⟩ := h
  exact h1.ge
theorem upTo_first (p : List St) (s : List UInt8) (f : Nat) : upTo_ (EndsAt p s f) f = [] := by
  have key : ∀ m, m ≤ f → upTo_ (EndsAt p s f) m = [] := by
    intro m
    induction m with
    | zero => intro _; rfl
    | succ m ih => intro h; rw [upTo_no (fun hh => by have := ends_first hh; omega), ih (by omega)]
  exact key f (Nat.le_refl _)

end Wf
