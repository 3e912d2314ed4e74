/-
  Texts of this claim, one behind the other (4): MemS, StepA, StepB, SimA, SimB, SimC, Pg, Ps, Pt, MakeA.
-/
import Derived.Test.YthcahjnniendnabDoorM3FeedIs
import Derived.Deep.AppendLies
import Derived.Deep.RegionLaw
/-
  Words for memory: rows of a program's steps. And plain facts about programs: the check, the ways without a byte.
-/
namespace Wf

/-- A step of a program. -/
structure St where
  op : Int
  cls : Cls
  x : Int
  y : Int

/-- What one step's check says. -/
def oneP (s : St) (many : Nat) : Int :=
  if s.op < 1 ∨ 5 < s.op then 1
  else if (s.op ≠ 5 ∧ ¬(0 ≤ s.x ∧ s.x < many)) ∨ (s.op = 2 ∧ ¬(0 ≤ s.y ∧ s.y < many)) then 1
  else if (s.op ≠ 1 ∧ s.cls ≠ zc) ∨ (s.op ≠ 2 ∧ s.y ≠ 0) ∨ (s.op = 5 ∧ s.x ≠ 0) then 2
  else 0

def chkPL (many : Nat) : List St → Int
  | [] => 0
  | s :: r => if oneP s many ≠ 0 then oneP s many else chkPL many r

/-- What a program's check says. -/
def chkP (p : List St) : Int := if 200 < p.length then 3 else if p.length = 0 then 4 else chkPL p.length p

theorem chkPL_zero {many : Nat} {l : List St} (h : chkPL many l = 0) : ∀ s ∈ l, oneP s many = 0 := by
  induction l with
  | nil => intro s hs; cases hs
  | cons a r ih =>
    simp only [chkPL] at h
    split at h
    · rename_i h0; exact absurd h h0
    · rename_i h0
      intro s hs
      rcases List.mem_cons.1 hs with rfl | hs
      · exact Classical.byContradiction h0
      · exact ih h s hs

theorem zero_chkPL {many : Nat} {l : List St} (h : ∀ s ∈ l, oneP s many = 0) : chkPL many l = 0 := by
  induction l with
  | nil => rfl
  | cons a r ih =>
    simp only [chkPL]
    rw [if_neg (by simp [h a (by simp)])]
    exact ih fun s hs => h s (by simp [hs])

/-- A program that may be. -/
def okP (p : List St) : Prop := 0 < p.length ∧ p.length ≤ 200 ∧ ∀ s ∈ p, oneP s p.length = 0
theorem chkP_ok {p : List St} : chkP p = 0 ↔ okP p := by
  unfold chkP okP
  constructor
  · intro h
    split at h
    · omega
    · split at h
      · omega
      · exact ⟨by omega, by omega, chkPL_zero h⟩
  · rintro ⟨h1, h2, h3⟩
    rw [if_neg (by omega), if_neg (by omega)]
    exact zero_chkPL h3

theorem oneP_zero {s : St} {many : Nat} (h : oneP s many = 0) : (1 ≤ s.op ∧ s.op ≤ 5) ∧ (s.op ≠ 5 → 0 ≤ s.x ∧ s.x < many) ∧ (s.op = 2 → 0 ≤ s.y ∧ s.y < many) ∧ (s.op ≠ 1 → s.cls = zc) ∧ (s.op ≠ 2 → s.y = 0) ∧ (s.op = 5 → s.x = 0) := by
  unfold oneP at h
  split at h
  · omega
  · split at h
    · omega
    · split at h
      · omega
      · rename_i h1 h2 h3
        refine ⟨by omega, fun h => ?_, fun h => ?_, fun h => ?_, fun h => ?_, fun h => ?_⟩
        · exact Classical.byContradiction fun hn => h2 (.inl ⟨h, hn⟩)
        · exact Classical.byContradiction fun hn => h2 (.inr ⟨h, hn⟩)
        · exact Classical.byContradiction fun hn => h3 (.inl ⟨h, hn⟩)
        · exact Classical.byContradiction fun hn => h3 (.inr (.inl ⟨h, hn⟩))
        · exact Classical.byContradiction fun hn => h3 (.inr (.inr ⟨h, hn⟩))

theorem zero_oneP {s : St} {many : Nat} (h1 : 1 ≤ s.op ∧ s.op ≤ 5) (h2 : s.op ≠ 5 → 0 ≤ s.x ∧ s.x < many) (h3 : s.op = 2 → 0 ≤ s.y ∧ s.y < many) (h4 : s.op ≠ 1 → s.cls = zc) (h5 : s.op ≠ 2 → s.y = 0) (h6 : s.op = 5 → s.x = 0) : oneP s many = 0 := by
  unfold oneP
  rw [if_neg (by omega), if_neg, if_neg]
  · rintro (⟨h, h'⟩ | ⟨h, h'⟩ | ⟨h, h'⟩)
    · exact h' (h4 h)
    · exact h' (h5 h)
    · exact h' (h6 h)
  · rintro (⟨h, h'⟩ | ⟨h, h'⟩)
    · exact h' (h2 h)
    · exact h' (h3 h)

/-! The ways of a program without a byte. -/
/-- One step without a byte: at the begin of a text or not, at its end or not. -/
def Eps (p : List St) (first last : Bool) (i j : Nat) : Prop :=
  ∃ s, p[i]? = some s ∧ ((s.op = 2 ∧ ((j : Int) = s.x ∨ (j : Int) = s.y)) ∨ (s.op = 3 ∧ first = true ∧ (j : Int) = s.x) ∨ (s.op = 4 ∧ last = true ∧ (j : Int) = s.x))
/-- Where a run may be, from some steps on, without a byte. -/
def Spr (p : List St) (first last : Bool) (from_ : List Nat) (j : Nat) : Prop := ∃ i ∈ from_, Star (Eps p first last) i j

theorem eps_lt {p : List St} (hp : okP p) {f l : Bool} {i j : Nat} (h : Eps p f l i j) : i < p.length ∧ j < p.length := by
  obtain ⟨s, hs, h⟩ := h
  have hm := oneP_zero (hp.2.2 s (List.mem_of_getElem? hs))
  refine ⟨(List.getElem?_eq_some_iff.1 hs).1, ?_⟩
  obtain ⟨_, h2, h3, _⟩ := hm
  rcases h with ⟨h1, h | h⟩ | ⟨h1, _, h⟩ | ⟨h1, _, h⟩
  · have := h2 (by omega); omega
  · have := h3 h1; omega
  · have := h2 (by omega); omega
  · have := h2 (by omega); omega

theorem star_lt {p : List St} (hp : okP p) {f l : Bool} {i j : Nat} (h : Star (Eps p f l) i j) (hi : i < p.length) : j < p.length :=
  Star.inv h (fun j => j < p.length) hi fun _ _ _ hr => (eps_lt hp hr).2

/-- What a walk from a step on does to the steps that were seen: S before, S' behind; L: the taking ones that came, D: whether the end came. -/
structure Walked (p : List St) (f l : Bool) (S S' : Nat → Prop) (i : Nat) (L : List Nat) (D : Prop) : Prop where
  mono : ∀ j, S j → S' j
  root : S' i
  reach : ∀ j, S' j → ¬ S j → Star (Eps p f l) i j
  closed : ∀ j, S' j → ¬ S j → ∀ k, Eps p f l j k → S' k
  lt : ∀ j, S' j → ¬ S j → j < p.length
  takes : ∀ j, j ∈ L ↔ S' j ∧ ¬ S j ∧ ∃ s, p[j]? = some s ∧ s.op = 1
  nodup : L.Nodup
  done : D ↔ ∃ j, S' j ∧ ¬ S j ∧ ∃ s, p[j]? = some s ∧ s.op = 5

theorem Walked.seen {p : List St} {f l : Bool} {S : Nat → Prop} {i : Nat} (h : S i) : Walked p f l S S i [] False where
  mono _ h := h
  root := h
  reach _ h h' := absurd h h'
  closed _ h h' := absurd h h'
  lt _ h h' := absurd h h'
  takes j := ⟨(fun h => by cases h), fun h => absurd h.1 h.2.1⟩
  nodup := List.nodup_nil
  done := ⟨fun h => h.elim, fun ⟨_, h, h', _⟩ => absurd h h'⟩

/-- A step from which nothing goes on without a byte. -/
theorem Walked.leaf {p : List St} {f l : Bool} {S : Nat → Prop} {i : Nat} {s : St} (hs : p[i]? = some s) (hn : ¬ S i) (he : ∀ k, ¬ Eps p f l i k) :
    Walked p f l S (fun j => S j ∨ j = i) i (if s.op = 1 then [i] else []) (s.op = 5) where
  mono _ h := .inl h
  root := .inr rfl
  reach j h h' := by rcases h with h | rfl; · exact absurd h h'
                     · exact .refl _
  closed j h h' k hk := by rcases h with h | rfl; · exact absurd h h'
                           · exact absurd hk (he k)
  lt j h h' := by rcases h with h | rfl; · exact absurd h h'
                  · exact (List.getElem?_eq_some_iff.1 hs).1
  takes j := by
    constructor
    · intro h
      split at h
      · rename_i h1
        obtain rfl : j = i := by simpa using h
        exact ⟨.inr rfl, hn, s, hs, h1⟩
      · cases h
    · rintro ⟨h | rfl, h', s', hs', h1⟩
      · exact absurd h h'
      · rw [hs] at hs'; cases hs'
        rw [if_pos h1]; simp
  nodup := by split <;> simp
  done := by
    constructor
    · intro h; exact ⟨i, .inr rfl, hn, s, hs, h⟩
    · rintro ⟨j, h | rfl, h', s', hs', h1⟩
      · exact absurd h h'
      · rw [hs] at hs'; cases hs'; exact h1

/-- One walk behind another one. -/
theorem Walked.then {p : List St} {f l : Bool} {S S1 S2 : Nat → Prop} {i a b : Nat} {L1 L2 : List Nat} {D1 D2 : Prop}
    (h1 : Walked p f l S S1 a L1 D1) (h2 : Walked p f l S1 S2 b L2 D2) (ha : Star (Eps p f l) i a) (hb : Star (Eps p f l) i b) :
    (∀ j, S j → S2 j) ∧ S2 a ∧ S2 b ∧ (∀ j, S2 j → ¬ S j → Star (Eps p f l) i j) ∧ (∀ j, S2 j → ¬ S j → ∀ k, Eps p f l j k → S2 k) ∧ (∀ j, S2 j → ¬ S j → j < p.length) ∧
      (∀ j, j ∈ L1 ++ L2 ↔ S2 j ∧ ¬ S j ∧ ∃ s, p[j]? = some s ∧ s.op = 1) ∧ (L1 ++ L2).Nodup ∧ (D1 ∨ D2 ↔ ∃ j, S2 j ∧ ¬ S j ∧ ∃ s, p[j]? = some s ∧ s.op = 5) := by
  refine ⟨fun j h => h2.mono j (h1.mono j h), h2.mono _ h1.root, h2.root, fun j h h' => ?_, fun j h h' k hk => ?_, fun j h h' => ?_, fun j => ?_, ?_, ?_⟩
  · by_cases hs : S1 j
    · exact ha.trans (h1.reach j hs h')
    · exact hb.trans (h2.reach j h hs)
  · by_cases hs : S1 j
    · exact h2.mono _ (h1.closed j hs h' k hk)
    · exact h2.closed j h hs k hk
  · by_cases hs : S1 j
    · exact h1.lt j hs h'
    · exact h2.lt j h hs
  · rw [List.mem_append, h1.takes, h2.takes]
    constructor
    · rintro (⟨q1, q2, q3⟩ | ⟨q1, q2, q3⟩)
      · exact ⟨h2.mono _ q1, q2, q3⟩
      · exact ⟨q1, fun h => q2 (h1.mono _ h), q3⟩
    · rintro ⟨q1, q2, q3⟩
      by_cases hs : S1 j
      · exact .inl ⟨hs, q2, q3⟩
      · exact .inr ⟨q1, hs, q3⟩
  · rw [List.nodup_append]
    refine ⟨h1.nodup, h2.nodup, fun x hx y hy e => ?_⟩
    subst e
    exact ((h2.takes x).1 hy).2.1 ((h1.takes x).1 hx).1
  · rw [h1.done, h2.done]
    constructor
    · rintro (⟨j, q1, q2, q3⟩ | ⟨j, q1, q2, q3⟩)
      · exact ⟨j, h2.mono _ q1, q2, q3⟩
      · exact ⟨j, q1, fun h => q2 (h1.mono _ h), q3⟩
    · rintro ⟨j, q1, q2, q3⟩
      by_cases hs : S1 j
      · exact .inl ⟨j, hs, q2, q3⟩
      · exact .inr ⟨j, q1, hs, q3⟩

/-- A step that goes on to one other one. -/
theorem Walked.one {p : List St} {f l : Bool} {S S' : Nat → Prop} {i x : Nat} {s : St} {L : List Nat} {D : Prop} (hs : p[i]? = some s) (hn : ¬ S i) (h1 : s.op ≠ 1) (h5 : s.op ≠ 5)
    (he : ∀ k, Eps p f l i k ↔ k = x) (hw : Walked p f l (fun j => S j ∨ j = i) S' x L D) : Walked p f l S S' i L D := by
  have hi : i < p.length := (List.getElem?_eq_some_iff.1 hs).1
  have hx : Star (Eps p f l) i x := Star.one ((he x).2 rfl)
  have hop : ∀ j, (∃ s, p[j]? = some s ∧ (s.op = 1 ∨ s.op = 5)) → j ≠ i := by
    rintro j ⟨s', hs', h⟩ rfl
    rw [hs] at hs'; cases hs'
    rcases h with h | h
    · exact h1 h
    · exact h5 h
  have hin : ∀ j, S' j → ¬ S j → j ≠ i → ¬ (S j ∨ j = i) := fun j _ h h' hh => hh.elim h h'
  refine ⟨fun j h => hw.mono j (.inl h), hw.mono i (.inr rfl), fun j h h' => ?_, fun j h h' k hk => ?_, fun j h h' => ?_, fun j => ?_, hw.nodup, ?_⟩
  · by_cases e : j = i
    · rw [e]; exact .refl _
    · exact hx.trans (hw.reach j h (hin j h h' e))
  · by_cases e : j = i
    · rw [e] at hk; rw [(he k).1 hk]; exact hw.root
    · exact hw.closed j h (hin j h h' e) k hk
  · by_cases e : j = i
    · rw [e]; exact hi
    · exact hw.lt j h (hin j h h' e)
  · rw [hw.takes]
    constructor
    · rintro ⟨q1, q2, q3⟩; exact ⟨q1, fun h => q2 (.inl h), q3⟩
    · rintro ⟨q1, q2, s', q3, q4⟩; exact ⟨q1, hin j q1 q2 (hop j ⟨s', q3, .inl q4⟩), s', q3, q4⟩
  · rw [hw.done]
    constructor
    · rintro ⟨j, q1, q2, q3⟩; exact ⟨j, q1, fun h => q2 (.inl h), q3⟩
    · rintro ⟨j, q1, q2, s', q3, q4⟩; exact ⟨j, q1, hin j q1 q2 (hop j ⟨s', q3, .inr q4⟩), s', q3, q4⟩

/-- A fork. -/
theorem Walked.two {p : List St} {f l : Bool} {S S1 S2 : Nat → Prop} {i x y : Nat} {s : St} {L1 L2 : List Nat} {D1 D2 : Prop} (hs : p[i]? = some s) (hn : ¬ S i) (h1 : s.op ≠ 1) (h5 : s.op ≠ 5)
    (he : ∀ k, Eps p f l i k ↔ k = x ∨ k = y) (hw : Walked p f l (fun j => S j ∨ j = i) S1 x L1 D1) (hv : Walked p f l S1 S2 y L2 D2) : Walked p f l S S2 i (L1 ++ L2) (D1 ∨ D2) := by
  have hi : i < p.length := (List.getElem?_eq_some_iff.1 hs).1
  obtain ⟨a1, a2, a3, a4, a5, a6, a7, a8, a9⟩ := Walked.then hw hv (Star.one ((he x).2 (.inl rfl))) (Star.one ((he y).2 (.inr rfl)))
  have hop : ∀ j, (∃ s, p[j]? = some s ∧ (s.op = 1 ∨ s.op = 5)) → j ≠ i := by
    rintro j ⟨s', hs', h⟩ rfl
    rw [hs] at hs'; cases hs'
    rcases h with h | h
    · exact h1 h
    · exact h5 h
  have hin : ∀ j, ¬ S j → j ≠ i → ¬ (S j ∨ j = i) := fun j h h' hh => hh.elim h h'
  refine ⟨fun j h => a1 j (.inl h), a1 i (.inr rfl), fun j h h' => ?_, fun j h h' k hk => ?_, fun j h h' => ?_, fun j => ?_, a8, ?_⟩
  · by_cases e : j = i
    · rw [e]; exact .refl _
    · exact a4 j h (hin j h' e)
  · by_cases e : j = i
    · rw [e] at hk
      rcases (he k).1 hk with rfl | rfl
      · exact a2
      · exact a3
    · exact a5 j h (hin j h' e) k hk
  · by_cases e : j = i
    · rw [e]; exact hi
    · exact a6 j h (hin j h' e)
  · rw [a7]
    constructor
    · rintro ⟨q1, q2, q3⟩; exact ⟨q1, fun h => q2 (.inl h), q3⟩
    · rintro ⟨q1, q2, s', q3, q4⟩; exact ⟨q1, hin j q2 (hop j ⟨s', q3, .inl q4⟩), s', q3, q4⟩
  · rw [a9]
    constructor
    · rintro ⟨j, q1, q2, q3⟩; exact ⟨j, q1, fun h => q2 (.inl h), q3⟩
    · rintro ⟨j, q1, q2, s', q3, q4⟩; exact ⟨j, q1, hin j q2 (hop j ⟨s', q3, .inr q4⟩), s', q3, q4⟩

/-- What walks from some steps on, one behind the other, come to. -/
structure Acc (p : List St) (f l : Bool) (fs : List Nat) (S : Nat → Prop) (L : List Nat) (D : Prop) : Prop where
  roots : ∀ i ∈ fs, S i
  reach : ∀ j, S j → Spr p f l fs j
  closed : ∀ j, S j → ∀ k, Eps p f l j k → S k
  lt : ∀ j, S j → j < p.length
  takes : ∀ j, j ∈ L ↔ S j ∧ ∃ s, p[j]? = some s ∧ s.op = 1
  nodup : L.Nodup
  done : D ↔ ∃ j, S j ∧ ∃ s, p[j]? = some s ∧ s.op = 5

theorem Acc.start (p : List St) (f l : Bool) : Acc p f l [] (fun _ => False) [] False where
  roots i h := by cases h
  reach j h := h.elim
  closed j h := h.elim
  lt j h := h.elim
  takes j := ⟨(fun h => by cases h), fun h => h.1.elim⟩
  nodup := List.nodup_nil
  done := ⟨fun h => h.elim, fun ⟨_, h, _⟩ => h.elim⟩

theorem Acc.step {p : List St} {f l : Bool} {fs : List Nat} {S S' : Nat → Prop} {L L' : List Nat} {D D' : Prop} {i : Nat} (h : Acc p f l fs S L D) (hw : Walked p f l S S' i L' D') : Acc p f l (fs ++ [i]) S' (L ++ L') (D ∨ D') where
  roots j hj := by
    rcases List.mem_append.1 hj with hj | hj
    · exact hw.mono _ (h.roots j hj)
    · obtain rfl : j = i := by simpa using hj
      exact hw.root
  reach j hj := by
    by_cases hs : S j
    · obtain ⟨a, h1, h2⟩ := h.reach j hs
      exact ⟨a, by simp [h1], h2⟩
    · exact ⟨i, by simp, hw.reach j hj hs⟩
  closed j hj k hk := by
    by_cases hs : S j
    · exact hw.mono _ (h.closed j hs k hk)
    · exact hw.closed j hj hs k hk
  lt j hj := by
    by_cases hs : S j
    · exact h.lt j hs
    · exact hw.lt j hj hs
  takes j := by
    rw [List.mem_append, h.takes, hw.takes]
    constructor
    · rintro (⟨q1, q2⟩ | ⟨q1, _, q2⟩)
      · exact ⟨hw.mono _ q1, q2⟩
      · exact ⟨q1, q2⟩
    · rintro ⟨q1, q2⟩
      by_cases hs : S j
      · exact .inl ⟨hs, q2⟩
      · exact .inr ⟨q1, hs, q2⟩
  nodup := by
    rw [List.nodup_append]
    refine ⟨h.nodup, hw.nodup, fun x hx y hy e => ?_⟩
    subst e
    exact ((hw.takes x).1 hy).2.1 ((h.takes x).1 hx).1
  done := by
    rw [h.done, hw.done]
    constructor
    · rintro (⟨j, q1, q2⟩ | ⟨j, q1, _, q2⟩)
      · exact ⟨j, hw.mono _ q1, q2⟩
      · exact ⟨j, q1, q2⟩
    · rintro ⟨j, q1, q2⟩
      by_cases hs : S j
      · exact .inl ⟨j, hs, q2⟩
      · exact .inr ⟨j, q1, hs, q2⟩

theorem Acc.all {p : List St} {f l : Bool} {fs : List Nat} {S : Nat → Prop} {L : List Nat} {D : Prop} (h : Acc p f l fs S L D) (j : Nat) : S j ↔ Spr p f l fs j := by
  refine ⟨h.reach j, ?_⟩
  rintro ⟨i, hi, hs⟩
  exact Star.inv hs S (h.roots i hi) fun a b ha hab => h.closed a ha b hab

/-- What Spread answers: the taking steps, each once, and whether it is at its end. -/
structure Front (p : List St) (f l : Bool) (fs : List Nat) (L : List Nat) (d : Bool) : Prop where
  takes : ∀ j, j ∈ L ↔ Spr p f l fs j ∧ ∃ s, p[j]? = some s ∧ s.op = 1
  nodup : L.Nodup
  done : d = true ↔ ∃ j, Spr p f l fs j ∧ ∃ s, p[j]? = some s ∧ s.op = 5
theorem Acc.front {p : List St} {f l : Bool} {fs : List Nat} {S : Nat → Prop} {L : List Nat} {D : Prop} {d : Bool} (h : Acc p f l fs S L D) (hd : d = true ↔ D) : Front p f l fs L d where
  takes j := by rw [h.takes, h.all]
  nodup := h.nodup
  done := by
    rw [hd, h.done]
    constructor
    · rintro ⟨j, q1, q2⟩; exact ⟨j, (h.all j).1 q1, q2⟩
    · rintro ⟨j, q1, q2⟩; exact ⟨j, (h.all j).2 q1, q2⟩

/-! Rows of steps in memory. -/
open Go Go.RowKit
def stCells (s : St) : List Value := [.int .i64 s.op, .int .u64 (s.cls.1 : Int), .int .u64 (s.cls.2.1 : Int), .int .u64 (s.cls.2.2.1 : Int), .int .u64 (s.cls.2.2.2 : Int), .int .i64 s.x, .int .i64 s.y]
theorem stFlat_len (l : List St) : (l.flatMap stCells).length = l.length * 7 := by
  induction l with
  | nil => rfl
  | cons n r ih => simp [stCells] at ih ⊢; omega
theorem stFlat_get (l : List St) : ∀ (k j : Nat) (n : St), l[k]? = some n → j < 7 → (l.flatMap stCells)[k * 7 + j]? = (stCells n)[j]? := by
  induction l with
  | nil => intro k j n h; simp at h
  | cons m r ih =>
    intro k j n h hj
    rcases k with _ | k
    · simp at h
      subst h
      simp only [List.flatMap_cons, Nat.zero_mul, Nat.zero_add]
      rw [List.getElem?_append_left (by simpa [stCells] using hj)]
    · simp only [List.flatMap_cons]
      rw [List.getElem?_append_right (by simp [stCells]; omega)]
      have e : (k + 1) * 7 + j - (stCells m).length = k * 7 + j := by simp [stCells]; omega
      rw [e]
      exact ih k j n (by simpa using h) hj

/-- A slice that reads as a row of steps. -/
def RdS (w : World) (v : Value) (l : List St) : Prop := Rd w 7 v (l.flatMap stCells)
theorem RdS.below {w w' : World} {v : Value} {l : List St} (h : RdS w v l) (hb : Below w.heap.size w w') : RdS w' v l := Rd.below h hb
theorem RdS.open_ {w : World} {v : Value} {l : List St} (h : RdS w v l) : ∃ (A : Option Addr) (cap : Nat), v = .slice A l.length cap ∧ l.length ≤ cap ∧ cap ≤ 9223372036854775807 ∧
    (0 < l.length → ∃ b off, A = some ⟨b, off, none⟩ ∧ b < w.heap.size ∧ ∀ (w' : World), (∀ o, w'.cell? ⟨b, o, none⟩ = w.cell? ⟨b, o, none⟩) → ∀ k n, l[k]? = some n →
      w'.cell? ⟨b, off + k * 7, none⟩ = some (.int .i64 n.op) ∧ w'.cell? ⟨b, off + k * 7 + 1, none⟩ = some (.int .u64 (n.cls.1 : Int)) ∧ w'.cell? ⟨b, off + k * 7 + 2, none⟩ = some (.int .u64 (n.cls.2.1 : Int)) ∧
      w'.cell? ⟨b, off + k * 7 + 3, none⟩ = some (.int .u64 (n.cls.2.2.1 : Int)) ∧ w'.cell? ⟨b, off + k * 7 + 4, none⟩ = some (.int .u64 (n.cls.2.2.2 : Int)) ∧
      w'.cell? ⟨b, off + k * 7 + 5, none⟩ = some (.int .i64 n.x) ∧ w'.cell? ⟨b, off + k * 7 + 6, none⟩ = some (.int .i64 n.y)) := by
  obtain ⟨A, n, cap, rfl, h1, h2, h3, h4⟩ := h
  rw [stFlat_len] at h3
  obtain rfl : n = l.length := by omega
  refine ⟨A, cap, rfl, h1, h2, fun hn => ?_⟩
  obtain ⟨b, off, rfl, hc⟩ := h4 hn
  have hget : ∀ k n, l[k]? = some n → ∀ j u, j < 7 → (stCells n)[j]? = some u → w.cell? ⟨b, off + (k * 7 + j), none⟩ = some u := by
    intro k n hk j u hj hu
    exact hc _ _ (by rw [stFlat_get l k j n hk hj]; exact hu)
  have hlt : b < w.heap.size := by
    have hl : l[0]? = some (l[0]'hn) := List.getElem?_eq_getElem hn
    exact World.block_lt_of_cell? w _ (hget 0 _ hl 0 _ (by omega) rfl)
  refine ⟨b, off, rfl, hlt, fun w' hw k n hk => ?_⟩
  simp only [hw]
  exact ⟨hget k n hk 0 _ (by omega) rfl, hget k n hk 1 _ (by omega) rfl, hget k n hk 2 _ (by omega) rfl, hget k n hk 3 _ (by omega) rfl, hget k n hk 4 _ (by omega) rfl, hget k n hk 5 _ (by omega) rfl, hget k n hk 6 _ (by omega) rfl⟩

end Wf

/-
  Walks of package prog: one, Check. And sim.Checked.
-/
namespace Go.Proofs.YthcahjnniendnabDoor
open Go.RowKit Wf

def ErrIs (n : Int) (w : World) (e : Ending) (w' : World) : Prop := e = .returned (errV n) ∧ Below w.heap.size w w'

def InIs (r : Bool) (w : World) (e : Ending) (w' : World) : Prop := e = .returned (.bool r) ∧ w = w'
theorem in_any (n k : Int) (b : Nat) (w : World) (hc : w.cell? ⟨b, 0, none⟩ = some (.int .i64 k)) :
    Calls Tryd.prog 97 #[.int .i64 n, .pointer (some ⟨b, 0, none⟩)] w (InIs (decide (0 ≤ n ∧ n < k)) w) := by
  by_cases h0 : 0 ≤ n
  · have d0 : decide (0 ≤ n) = true := by simpa using h0
    have hr : decide (0 ≤ n ∧ n < k) = decide (n < k) := by simp [h0]
    rw [hr]
    go_enter Tryd.func97, Tryd.ntmps97
    go_wp2
    go_ret
    exact ⟨rfl, rfl⟩
  · have d0 : decide (0 ≤ n) = false := by simpa using h0
    have hr : decide (0 ≤ n ∧ n < k) = false := by simp [h0]
    rw [hr]
    go_enter Tryd.func97, Tryd.ntmps97
    go_wp2
    go_ret
    exact ⟨rfl, rfl⟩

theorem err_is {n m : Int} (h : n = m) {w w' : World} (hb : Below w.heap.size w w') : ErrIs n w (.returned (errV m)) w' := ⟨by rw [h], hb⟩

set_option maxRecDepth 100000 in
set_option maxHeartbeats 8000000 in
theorem one_any (op x y : Int) (c0 c1 c2 c3 many : Nat) (w : World) : Calls Tryd.prog 75 #[.agg #[.int .i64 op, .int .u64 (c0 : Int), .int .u64 (c1 : Int), .int .u64 (c2 : Int), .int .u64 (c3 : Int), .int .i64 x, .int .i64 y], .int .i64 (many : Int)] w (ErrIs (oneP ⟨op, (c0, c1, c2, c3), x, y⟩ many) w) := by
  have hcm : ∀ o, ((w.alloc o).alloc (.cells #[.int .i64 (many : Int)] 3)).cell? ⟨w.heap.size + 1, 0, none⟩ = some (.int .i64 (many : Int)) := fun o => (Blk.new2 w o 3 #[.int .i64 (many : Int)]).cell 0
  have HBL2 := Lib.hid (fun o o' => below2 w o o')
  have HX : Hid (∀ W : World, W.cell? ⟨w.heap.size + 1, 0, none⟩ = some (.int .i64 (many : Int)) → Calls Tryd.prog 97 #[.int .i64 x, .pointer (some ⟨w.heap.size + 1, 0, none⟩)] W (InIs (decide (0 ≤ x ∧ x < many)) W)) := Lib.hid fun W h => in_any x many _ W h
  have HY : Hid (∀ W : World, W.cell? ⟨w.heap.size + 1, 0, none⟩ = some (.int .i64 (many : Int)) → Calls Tryd.prog 97 #[.int .i64 y, .pointer (some ⟨w.heap.size + 1, 0, none⟩)] W (InIs (decide (0 ≤ y ∧ y < many)) W)) := Lib.hid fun W h => in_any y many _ W h
  have HCM := Lib.hid hcm
  clear hcm
  have hz : cls4 c0 c1 c2 c3 (0 : Nat) (0 : Nat) (0 : Nat) (0 : Nat) = true ↔ (c0, c1, c2, c3) = zc := cls4_iff c0 c1 c2 c3 0 0 0 0
  have HZ := Lib.hid hz
  clear hz
  have hop : op < 1 ∨ 5 < op ∨ op = 1 ∨ op = 2 ∨ op = 3 ∨ op = 4 ∨ op = 5 := by omega
  rcases hop with h | h | rfl | rfl | rfl | rfl | rfl
  · have d1 : decide (op < 1) = true := by simpa using h
    have HR : Hid (oneP ⟨op, (c0, c1, c2, c3), x, y⟩ many = 1) := Lib.hid (by unfold oneP; simp; omega)
    rw [HR.out]
    go_enter Tryd.func75, Tryd.ntmps75
    go_wp2_with (first
      | (go_at_call_of 97 (Value.int .i64 y); refine (HY.out _ (HCM.out _)).mono ?_; rintro e w1 ⟨rfl, rfl⟩)
      | (go_at_call_of 97 (Value.int .i64 x); refine (HX.out _ (HCM.out _)).mono ?_; rintro e w1 ⟨rfl, rfl⟩))
    go_ret
    exact ⟨rfl, HBL2.out _ _⟩
  · have d1 : decide (op < 1) = false := by simp; omega
    have d2 : decide (5 < op) = true := by simpa using h
    have HR : Hid (oneP ⟨op, (c0, c1, c2, c3), x, y⟩ many = 1) := Lib.hid (by unfold oneP; simp; omega)
    rw [HR.out]
    go_enter Tryd.func75, Tryd.ntmps75
    go_wp2_with (first
      | (go_at_call_of 97 (Value.int .i64 y); refine (HY.out _ (HCM.out _)).mono ?_; rintro e w1 ⟨rfl, rfl⟩)
      | (go_at_call_of 97 (Value.int .i64 x); refine (HX.out _ (HCM.out _)).mono ?_; rintro e w1 ⟨rfl, rfl⟩))
    go_ret
    exact ⟨rfl, HBL2.out _ _⟩
  · skip
    by_cases hX : 0 ≤ x ∧ x < (many : Int)
    · have dX : decide (0 ≤ x ∧ x < (many : Int)) = true := by simpa using hX
      by_cases hy : y = 0
      · have dy : (y != 0) = false := by simpa using hy
        have HR : Hid (oneP ⟨1, (c0, c1, c2, c3), x, y⟩ many = 0) := Lib.hid (by unfold oneP; simp [hX, hy])
        clear hX hy
        rw [dX] at HX
        rw [HR.out]
        go_enter Tryd.func75, Tryd.ntmps75
        go_wp2_with (first
          | (go_at_call_of 97 (Value.int .i64 y); refine (HY.out _ (HCM.out _)).mono ?_; rintro e w1 ⟨rfl, rfl⟩)
          | (go_at_call_of 97 (Value.int .i64 x); refine (HX.out _ (HCM.out _)).mono ?_; rintro e w1 ⟨rfl, rfl⟩))
        go_ret
        exact ⟨rfl, HBL2.out _ _⟩
      · have dy : (y != 0) = true := by simpa using hy
        have HR : Hid (oneP ⟨1, (c0, c1, c2, c3), x, y⟩ many = 2) := Lib.hid (by unfold oneP; simp [hX, hy])
        clear hX hy
        rw [dX] at HX
        rw [HR.out]
        go_enter Tryd.func75, Tryd.ntmps75
        go_wp2_with (first
          | (go_at_call_of 97 (Value.int .i64 y); refine (HY.out _ (HCM.out _)).mono ?_; rintro e w1 ⟨rfl, rfl⟩)
          | (go_at_call_of 97 (Value.int .i64 x); refine (HX.out _ (HCM.out _)).mono ?_; rintro e w1 ⟨rfl, rfl⟩))
        go_ret
        exact ⟨rfl, HBL2.out _ _⟩
    · have dX : decide (0 ≤ x ∧ x < (many : Int)) = false := decide_eq_false hX
      have HR : Hid (oneP ⟨1, (c0, c1, c2, c3), x, y⟩ many = 1) := Lib.hid (by unfold oneP; simp [hX])
      clear hX
      rw [dX] at HX
      rw [HR.out]
      go_enter Tryd.func75, Tryd.ntmps75
      go_wp2_with (first
        | (go_at_call_of 97 (Value.int .i64 y); refine (HY.out _ (HCM.out _)).mono ?_; rintro e w1 ⟨rfl, rfl⟩)
        | (go_at_call_of 97 (Value.int .i64 x); refine (HX.out _ (HCM.out _)).mono ?_; rintro e w1 ⟨rfl, rfl⟩))
      go_ret
      exact ⟨rfl, HBL2.out _ _⟩
  · skip
    by_cases hX : 0 ≤ x ∧ x < (many : Int)
    · have dX : decide (0 ≤ x ∧ x < (many : Int)) = true := by simpa using hX
      by_cases hY : 0 ≤ y ∧ y < (many : Int)
      · have dY : decide (0 ≤ y ∧ y < (many : Int)) = true := by simpa using hY
        by_cases hC : (c0, c1, c2, c3) = zc
        · have dC : cls4 c0 c1 c2 c3 0 0 0 0 = true := HZ.out.2 hC
          have HR : Hid (oneP ⟨2, (c0, c1, c2, c3), x, y⟩ many = 0) := Lib.hid (by unfold oneP; simp [hX, hY, hC])
          clear hX hY hC
          rw [dX] at HX
          rw [dY] at HY
          rw [HR.out]
          go_enter Tryd.func75, Tryd.ntmps75
          go_wp2_with (first
            | (go_at_call_of 97 (Value.int .i64 y); refine (HY.out _ (HCM.out _)).mono ?_; rintro e w1 ⟨rfl, rfl⟩)
            | (go_at_call_of 97 (Value.int .i64 x); refine (HX.out _ (HCM.out _)).mono ?_; rintro e w1 ⟨rfl, rfl⟩))
          go_ret
          exact ⟨rfl, HBL2.out _ _⟩
        · have dC : cls4 c0 c1 c2 c3 0 0 0 0 = false := by cases hh : cls4 (c0 : Int) c1 c2 c3 0 0 0 0 with | false => rfl | true => exact absurd (HZ.out.1 hh) hC
          have HR : Hid (oneP ⟨2, (c0, c1, c2, c3), x, y⟩ many = 2) := Lib.hid (by unfold oneP; simp [hX, hY, hC])
          clear hX hY hC
          rw [dX] at HX
          rw [dY] at HY
          rw [HR.out]
          go_enter Tryd.func75, Tryd.ntmps75
          go_wp2_with (first
            | (go_at_call_of 97 (Value.int .i64 y); refine (HY.out _ (HCM.out _)).mono ?_; rintro e w1 ⟨rfl, rfl⟩)
            | (go_at_call_of 97 (Value.int .i64 x); refine (HX.out _ (HCM.out _)).mono ?_; rintro e w1 ⟨rfl, rfl⟩))
          go_ret
          exact ⟨rfl, HBL2.out _ _⟩
      · have dY : decide (0 ≤ y ∧ y < (many : Int)) = false := decide_eq_false hY
        have HR : Hid (oneP ⟨2, (c0, c1, c2, c3), x, y⟩ many = 1) := Lib.hid (by unfold oneP; simp [hX, hY])
        clear hX hY
        rw [dX] at HX
        rw [dY] at HY
        rw [HR.out]
        go_enter Tryd.func75, Tryd.ntmps75
        go_wp2_with (first
          | (go_at_call_of 97 (Value.int .i64 y); refine (HY.out _ (HCM.out _)).mono ?_; rintro e w1 ⟨rfl, rfl⟩)
          | (go_at_call_of 97 (Value.int .i64 x); refine (HX.out _ (HCM.out _)).mono ?_; rintro e w1 ⟨rfl, rfl⟩))
        go_ret
        exact ⟨rfl, HBL2.out _ _⟩
    · have dX : decide (0 ≤ x ∧ x < (many : Int)) = false := decide_eq_false hX
      have HR : Hid (oneP ⟨2, (c0, c1, c2, c3), x, y⟩ many = 1) := Lib.hid (by unfold oneP; simp [hX])
      clear hX
      rw [dX] at HX
      rw [HR.out]
      go_enter Tryd.func75, Tryd.ntmps75
      go_wp2_with (first
        | (go_at_call_of 97 (Value.int .i64 y); refine (HY.out _ (HCM.out _)).mono ?_; rintro e w1 ⟨rfl, rfl⟩)
        | (go_at_call_of 97 (Value.int .i64 x); refine (HX.out _ (HCM.out _)).mono ?_; rintro e w1 ⟨rfl, rfl⟩))
      go_ret
      exact ⟨rfl, HBL2.out _ _⟩
  · skip
    by_cases hX : 0 ≤ x ∧ x < (many : Int)
    · have dX : decide (0 ≤ x ∧ x < (many : Int)) = true := by simpa using hX
      by_cases hC : (c0, c1, c2, c3) = zc
      · have dC : cls4 c0 c1 c2 c3 0 0 0 0 = true := HZ.out.2 hC
        by_cases hy : y = 0
        · have dy : (y != 0) = false := by simpa using hy
          have HR : Hid (oneP ⟨3, (c0, c1, c2, c3), x, y⟩ many = 0) := Lib.hid (by unfold oneP; simp [hX, hC, hy])
          clear hX hC hy
          rw [dX] at HX
          rw [HR.out]
          go_enter Tryd.func75, Tryd.ntmps75
          go_wp2_with (first
            | (go_at_call_of 97 (Value.int .i64 y); refine (HY.out _ (HCM.out _)).mono ?_; rintro e w1 ⟨rfl, rfl⟩)
            | (go_at_call_of 97 (Value.int .i64 x); refine (HX.out _ (HCM.out _)).mono ?_; rintro e w1 ⟨rfl, rfl⟩))
          go_ret
          exact ⟨rfl, HBL2.out _ _⟩
        · have dy : (y != 0) = true := by simpa using hy
          have HR : Hid (oneP ⟨3, (c0, c1, c2, c3), x, y⟩ many = 2) := Lib.hid (by unfold oneP; simp [hX, hC, hy])
          clear hX hC hy
          rw [dX] at HX
          rw [HR.out]
          go_enter Tryd.func75, Tryd.ntmps75
          go_wp2_with (first
            | (go_at_call_of 97 (Value.int .i64 y); refine (HY.out _ (HCM.out _)).mono ?_; rintro e w1 ⟨rfl, rfl⟩)
            | (go_at_call_of 97 (Value.int .i64 x); refine (HX.out _ (HCM.out _)).mono ?_; rintro e w1 ⟨rfl, rfl⟩))
          go_ret
          exact ⟨rfl, HBL2.out _ _⟩
      · have dC : cls4 c0 c1 c2 c3 0 0 0 0 = false := by cases hh : cls4 (c0 : Int) c1 c2 c3 0 0 0 0 with | false => rfl | true => exact absurd (HZ.out.1 hh) hC
        have HR : Hid (oneP ⟨3, (c0, c1, c2, c3), x, y⟩ many = 2) := Lib.hid (by unfold oneP; simp [hX, hC])
        clear hX hC
        rw [dX] at HX
        rw [HR.out]
        go_enter Tryd.func75, Tryd.ntmps75
        go_wp2_with (first
          | (go_at_call_of 97 (Value.int .i64 y); refine (HY.out _ (HCM.out _)).mono ?_; rintro e w1 ⟨rfl, rfl⟩)
          | (go_at_call_of 97 (Value.int .i64 x); refine (HX.out _ (HCM.out _)).mono ?_; rintro e w1 ⟨rfl, rfl⟩))
        go_ret
        exact ⟨rfl, HBL2.out _ _⟩
    · have dX : decide (0 ≤ x ∧ x < (many : Int)) = false := decide_eq_false hX
      have HR : Hid (oneP ⟨3, (c0, c1, c2, c3), x, y⟩ many = 1) := Lib.hid (by unfold oneP; simp [hX])
      clear hX
      rw [dX] at HX
      rw [HR.out]
      go_enter Tryd.func75, Tryd.ntmps75
      go_wp2_with (first
        | (go_at_call_of 97 (Value.int .i64 y); refine (HY.out _ (HCM.out _)).mono ?_; rintro e w1 ⟨rfl, rfl⟩)
        | (go_at_call_of 97 (Value.int .i64 x); refine (HX.out _ (HCM.out _)).mono ?_; rintro e w1 ⟨rfl, rfl⟩))
      go_ret
      exact ⟨rfl, HBL2.out _ _⟩
  · skip
    by_cases hX : 0 ≤ x ∧ x < (many : Int)
    · have dX : decide (0 ≤ x ∧ x < (many : Int)) = true := by simpa using hX
      by_cases hC : (c0, c1, c2, c3) = zc
      · have dC : cls4 c0 c1 c2 c3 0 0 0 0 = true := HZ.out.2 hC
        by_cases hy : y = 0
        · have dy : (y != 0) = false := by simpa using hy
          have HR : Hid (oneP ⟨4, (c0, c1, c2, c3), x, y⟩ many = 0) := Lib.hid (by unfold oneP; simp [hX, hC, hy])
          clear hX hC hy
          rw [dX] at HX
          rw [HR.out]
          go_enter Tryd.func75, Tryd.ntmps75
          go_wp2_with (first
            | (go_at_call_of 97 (Value.int .i64 y); refine (HY.out _ (HCM.out _)).mono ?_; rintro e w1 ⟨rfl, rfl⟩)
            | (go_at_call_of 97 (Value.int .i64 x); refine (HX.out _ (HCM.out _)).mono ?_; rintro e w1 ⟨rfl, rfl⟩))
          go_ret
          exact ⟨rfl, HBL2.out _ _⟩
        · have dy : (y != 0) = true := by simpa using hy
          have HR : Hid (oneP ⟨4, (c0, c1, c2, c3), x, y⟩ many = 2) := Lib.hid (by unfold oneP; simp [hX, hC, hy])
          clear hX hC hy
          rw [dX] at HX
          rw [HR.out]
          go_enter Tryd.func75, Tryd.ntmps75
          go_wp2_with (first
            | (go_at_call_of 97 (Value.int .i64 y); refine (HY.out _ (HCM.out _)).mono ?_; rintro e w1 ⟨rfl, rfl⟩)
            | (go_at_call_of 97 (Value.int .i64 x); refine (HX.out _ (HCM.out _)).mono ?_; rintro e w1 ⟨rfl, rfl⟩))
          go_ret
          exact ⟨rfl, HBL2.out _ _⟩
      · have dC : cls4 c0 c1 c2 c3 0 0 0 0 = false := by cases hh : cls4 (c0 : Int) c1 c2 c3 0 0 0 0 with | false => rfl | true => exact absurd (HZ.out.1 hh) hC
        have HR : Hid (oneP ⟨4, (c0, c1, c2, c3), x, y⟩ many = 2) := Lib.hid (by unfold oneP; simp [hX, hC])
        clear hX hC
        rw [dX] at HX
        rw [HR.out]
        go_enter Tryd.func75, Tryd.ntmps75
        go_wp2_with (first
          | (go_at_call_of 97 (Value.int .i64 y); refine (HY.out _ (HCM.out _)).mono ?_; rintro e w1 ⟨rfl, rfl⟩)
          | (go_at_call_of 97 (Value.int .i64 x); refine (HX.out _ (HCM.out _)).mono ?_; rintro e w1 ⟨rfl, rfl⟩))
        go_ret
        exact ⟨rfl, HBL2.out _ _⟩
    · have dX : decide (0 ≤ x ∧ x < (many : Int)) = false := decide_eq_false hX
      have HR : Hid (oneP ⟨4, (c0, c1, c2, c3), x, y⟩ many = 1) := Lib.hid (by unfold oneP; simp [hX])
      clear hX
      rw [dX] at HX
      rw [HR.out]
      go_enter Tryd.func75, Tryd.ntmps75
      go_wp2_with (first
        | (go_at_call_of 97 (Value.int .i64 y); refine (HY.out _ (HCM.out _)).mono ?_; rintro e w1 ⟨rfl, rfl⟩)
        | (go_at_call_of 97 (Value.int .i64 x); refine (HX.out _ (HCM.out _)).mono ?_; rintro e w1 ⟨rfl, rfl⟩))
      go_ret
      exact ⟨rfl, HBL2.out _ _⟩
  · skip
    by_cases hC : (c0, c1, c2, c3) = zc
    · have dC : cls4 c0 c1 c2 c3 0 0 0 0 = true := HZ.out.2 hC
      by_cases hy : y = 0
      · have dy : (y != 0) = false := by simpa using hy
        by_cases hx : x = 0
        · have dx : (x != 0) = false := by simpa using hx
          have HR : Hid (oneP ⟨5, (c0, c1, c2, c3), x, y⟩ many = 0) := Lib.hid (by unfold oneP; simp [hC, hy, hx])
          clear hC hy hx
          rw [HR.out]
          go_enter Tryd.func75, Tryd.ntmps75
          go_wp2_with (first
            | (go_at_call_of 97 (Value.int .i64 y); refine (HY.out _ (HCM.out _)).mono ?_; rintro e w1 ⟨rfl, rfl⟩)
            | (go_at_call_of 97 (Value.int .i64 x); refine (HX.out _ (HCM.out _)).mono ?_; rintro e w1 ⟨rfl, rfl⟩))
          go_ret
          exact ⟨rfl, HBL2.out _ _⟩
        · have dx : (x != 0) = true := by simpa using hx
          have HR : Hid (oneP ⟨5, (c0, c1, c2, c3), x, y⟩ many = 2) := Lib.hid (by unfold oneP; simp [hC, hy, hx])
          clear hC hy hx
          rw [HR.out]
          go_enter Tryd.func75, Tryd.ntmps75
          go_wp2_with (first
            | (go_at_call_of 97 (Value.int .i64 y); refine (HY.out _ (HCM.out _)).mono ?_; rintro e w1 ⟨rfl, rfl⟩)
            | (go_at_call_of 97 (Value.int .i64 x); refine (HX.out _ (HCM.out _)).mono ?_; rintro e w1 ⟨rfl, rfl⟩))
          go_ret
          exact ⟨rfl, HBL2.out _ _⟩
      · have dy : (y != 0) = true := by simpa using hy
        have HR : Hid (oneP ⟨5, (c0, c1, c2, c3), x, y⟩ many = 2) := Lib.hid (by unfold oneP; simp [hC, hy])
        clear hC hy
        rw [HR.out]
        go_enter Tryd.func75, Tryd.ntmps75
        go_wp2_with (first
          | (go_at_call_of 97 (Value.int .i64 y); refine (HY.out _ (HCM.out _)).mono ?_; rintro e w1 ⟨rfl, rfl⟩)
          | (go_at_call_of 97 (Value.int .i64 x); refine (HX.out _ (HCM.out _)).mono ?_; rintro e w1 ⟨rfl, rfl⟩))
        go_ret
        exact ⟨rfl, HBL2.out _ _⟩
    · have dC : cls4 c0 c1 c2 c3 0 0 0 0 = false := by cases hh : cls4 (c0 : Int) c1 c2 c3 0 0 0 0 with | false => rfl | true => exact absurd (HZ.out.1 hh) hC
      have HR : Hid (oneP ⟨5, (c0, c1, c2, c3), x, y⟩ many = 2) := Lib.hid (by unfold oneP; simp [hC])
      clear hC
      rw [HR.out]
      go_enter Tryd.func75, Tryd.ntmps75
      go_wp2_with (first
        | (go_at_call_of 97 (Value.int .i64 y); refine (HY.out _ (HCM.out _)).mono ?_; rintro e w1 ⟨rfl, rfl⟩)
        | (go_at_call_of 97 (Value.int .i64 x); refine (HX.out _ (HCM.out _)).mono ?_; rintro e w1 ⟨rfl, rfl⟩))
      go_ret
      exact ⟨rfl, HBL2.out _ _⟩

end Go.Proofs.YthcahjnniendnabDoor

/-
  Walks of prog.Check and sim.Checked.
-/
namespace Go.Proofs.YthcahjnniendnabDoor
open Go.RowKit Wf

theorem chkPL_at {many : Nat} {l : List St} {k : Nat} {s : St} (h : l[k]? = some s) : chkPL many (l.drop k) = if oneP s many ≠ 0 then oneP s many else chkPL many (l.drop (k + 1)) := by
  obtain ⟨hk, he⟩ := List.getElem?_eq_some_iff.1 h
  rw [List.drop_eq_getElem_cons hk, he]
  rfl

set_option maxRecDepth 100000 in
set_option maxHeartbeats 4000000 in
theorem PCheck_any (l : List St) (v : Value) (w : World) (hr : RdS w v l) (hlen : l.length ≤ 9223372036854775807) : Calls Tryd.prog 42 #[v] w (ErrIs (chkP l) w) := by
  obtain ⟨A, cap, rfl, hcap, hcap2, hmem⟩ := hr.open_
  have HM := Lib.hid hmem
  clear hmem hr
  by_cases hbig : 200 < l.length
  · have hc : chkP l = 3 := by unfold chkP; rw [if_pos hbig]
    have d1 : decide ((200 : Int) < (l.length : Int)) = true := by simp; omega
    have d2 : decide (200 < l.length) = true := by simp; omega
    rw [hc]
    go_enter Tryd.func42, Tryd.ntmps42
    go_wp2
    go_ret
    exact ⟨rfl, Below.refl _ _⟩
  · have d1 : decide ((200 : Int) < (l.length : Int)) = false := by simp; omega
    have d2 : decide (200 < l.length) = false := by simp; omega
    by_cases h0 : l.length = 0
    · have hc : chkP l = 4 := by unfold chkP; rw [if_neg hbig, if_pos h0]
      rw [hc]
      have d3 : ((l.length : Int) == 0) = true := beq_iff_eq.2 (by omega)
      clear h0
      go_enter Tryd.func42, Tryd.ntmps42
      go_wp2
      go_ret
      exact ⟨rfl, Below.refl _ _⟩
    · have hc : chkP l = chkPL l.length l := by unfold chkP; rw [if_neg hbig, if_neg h0]
      rw [hc]
      have d3 : ((l.length : Int) == 0) = false := beq_eq_false_iff_ne.2 (by omega)
      obtain ⟨b, off, rfl, hbl, hcells⟩ := HM.out (by omega)
      have HC := Lib.hid hcells
      clear h0 hcells hc HM
      go_enter Tryd.func42, Tryd.ntmps42
      go_wp2
      go_loopw [16] (fun v16 wr => ∃ k : Nat, k ≤ l.length ∧ v16 = .int .i64 (k : Int) ∧ Hid (chkPL l.length l = chkPL l.length (l.drop k)) ∧ Hid (Below w.heap.size w wr)) (fun i _ => l.length - (intOf i).toNat)
      case atStart => exact ⟨0, by omega, rfl, Lib.hid (by rw [List.drop_zero]), Lib.hid (Below.refl _ _)⟩
      case round =>
        obtain ⟨k, hk, rfl, HD, HB⟩ := hrel
        by_cases hlt : k < l.length
        · have hs : l[k]? = some (l[k]'hlt) := List.getElem?_eq_getElem hlt
          generalize l[k]'hlt = s at hs
          obtain ⟨q0, q1, q2, q3, q4, q5, q6⟩ := HC.out wr (fun o => HB.out.cell (p := ⟨b, o, none⟩) hbl) k s hs
          have hat := chkPL_at (many := l.length) hs
          obtain ⟨op, ⟨c0, c1, c2, c3⟩, x, y⟩ := s
          dsimp only at q0 q1 q2 q3 q4 q5 q6
          have HAT := Lib.hid hat
          have hk1 : (k : Int) < (l.length : Int) := by omega
          have HB2 : Hid (∀ o, Below w.heap.size w (wr.alloc o)) := Lib.hid fun o => HB.out.alloc HB.out.size _
          clear hs hat
          by_cases he : oneP ⟨op, (c0, c1, c2, c3), x, y⟩ l.length = 0
          · have HON : Hid (∀ W, Calls Tryd.prog 75 #[.agg #[.int .i64 op, .int .u64 (c0 : Int), .int .u64 (c1 : Int), .int .u64 (c2 : Int), .int .u64 (c3 : Int), .int .i64 x, .int .i64 y], .int .i64 (l.length : Int)] W (fun e w' => e = .returned .nilIface ∧ Below W.heap.size W w')) := Lib.hid fun W => (one_any op x y c0 c1 c2 c3 l.length W).mono (by
              rintro e w' ⟨h1, h2⟩
              rw [he, errV_zero] at h1
              exact ⟨h1, h2⟩)
            have HN : Hid (chkPL l.length l = chkPL l.length (l.drop (k + 1))) := Lib.hid (by rw [HD.out, HAT.out, if_neg (by simp [he])])
            clear he
            go_wp2_with (go_at_call 75; refine (HON.out _).mono ?_; rintro e w1 ⟨rfl, hb1⟩; have HB1 := Lib.hid ((HB2.out _).trans (hb1.mono (HB2.out _).size)); clear hb1)
            go_roundw
            case rel => exact ⟨k + 1, by omega, by go_num, HN, HB1⟩
            case measure => simp [intOf]; omega
          · have HON : Hid (∀ W, Calls Tryd.prog 75 #[.agg #[.int .i64 op, .int .u64 (c0 : Int), .int .u64 (c1 : Int), .int .u64 (c2 : Int), .int .u64 (c3 : Int), .int .i64 x, .int .i64 y], .int .i64 (l.length : Int)] W (fun e w' => e = .returned (.iface 23 (.int .i64 (oneP ⟨op, (c0, c1, c2, c3), x, y⟩ l.length))) ∧ Below W.heap.size W w')) := Lib.hid fun W => (one_any op x y c0 c1 c2 c3 l.length W).mono (by
              rintro e w' ⟨h1, h2⟩
              rw [errV_ne he] at h1
              exact ⟨h1, h2⟩)
            have HN : Hid (chkPL l.length l = oneP ⟨op, (c0, c1, c2, c3), x, y⟩ l.length ∧ oneP ⟨op, (c0, c1, c2, c3), x, y⟩ l.length ≠ 0) := Lib.hid ⟨by rw [HD.out, HAT.out, if_pos he], he⟩
            clear he HAT
            generalize oneP ⟨op, (c0, c1, c2, c3), x, y⟩ l.length = n at *
            go_wp2_with (go_at_call 75; refine (HON.out _).mono ?_; rintro e w1 ⟨rfl, hb1⟩; have HB1 := Lib.hid ((HB2.out _).trans (hb1.mono (HB2.out _).size)); clear hb1)
            go_ret
            exact ⟨by rw [HN.out.1, errV_ne HN.out.2]; rfl, HB1.out⟩
        · obtain rfl : k = l.length := by omega
          have HF : Hid (chkPL l.length l = 0) := Lib.hid (by rw [HD.out, List.drop_length]; rfl)
          have d4 : decide (l.length < l.length) = false := by simp
          clear HD
          go_wp2
          go_ret
          exact ⟨by rw [HF.out]; rfl, HB.out⟩

/-- What a run's check says. -/
def chkRun (p : List St) (n : Nat) (f : Int) : Int := if chkP p ≠ 0 then chkP p else if 400 < n then 3 else if f < 0 ∨ (n : Int) < f then 1 else 0

end Go.Proofs.YthcahjnniendnabDoor

/-
  Walks of package sim: the closure in Spread.
-/
namespace Go.Proofs.YthcahjnniendnabDoor
open Go.RowKit Wf

/-- What was seen, as a row. -/
def seenA (n : Nat) (S : Nat → Bool) : Array Value := ⟨(List.range n).map fun j => Value.bool (S j)⟩
theorem seenA_size (n : Nat) (S : Nat → Bool) : (seenA n S).size = n := by simp [seenA]
theorem seenA_get (n : Nat) (S : Nat → Bool) (j : Nat) (h : j < n) : (seenA n S)[j]? = some (.bool (S j)) := by simp [seenA, h]
theorem seenA_set (n : Nat) (S : Nat → Bool) (i : Nat) (h : i < n) : (seenA n S).setIfInBounds i (.bool true) = seenA n (Wf.mark S i) := by
  apply Array.ext_getElem?
  intro j
  rw [Array.getElem?_setIfInBounds]
  by_cases hj : j < n
  · rw [seenA_get n (Wf.mark S i) j hj]
    by_cases e : i = j
    · subst e
      rw [if_pos rfl, if_pos (by rw [seenA_size]; exact h)]
      simp [Wf.mark]
    · rw [if_neg e, seenA_get n S j hj]
      have : (j == i) = false := by simp; omega
      simp [Wf.mark, this]
  · have hr : (seenA n (Wf.mark S i))[j]? = none := Array.getElem?_eq_none (by rw [seenA_size]; omega)
    have hl : (seenA n S)[j]? = none := Array.getElem?_eq_none (by rw [seenA_size]; omega)
    rw [hr, hl, if_neg (by omega)]

theorem cnt_mono {S S' : Nat → Bool} (h : ∀ j, S j = true → S' j = true) : ∀ n, cnt S' n ≤ cnt S n := by
  have key : ∀ j, (if S' j = true then 0 else 1) ≤ (if S j = true then 0 else 1) := by
    intro j
    by_cases hj : S j = true
    · rw [if_pos hj, if_pos (h j hj)]; omega
    · rw [if_neg hj]; split <;> omega
  intro n
  induction n with
  | zero => exact key 0
  | succ n ih => simp only [cnt]; have := key (n + 1); omega

/-- What stays over a walk: all but two blocks and the rows of numbers. -/
structure Fk (B : Nat) (w w' : World) : Prop where
  size : w.heap.size ≤ w'.heap.size
  kept : ∀ k, k < w.heap.size → k ≠ B + 4 → k ≠ B + 5 → (∀ cs fr, w.heap[k]? ≠ some (.cells cs 3 fr)) → w'.heap[k]? = w.heap[k]?
theorem Fk.refl (B : Nat) (w : World) : Fk B w w := ⟨Nat.le_refl _, fun _ _ _ _ _ => rfl⟩
theorem Fk.trans {B : Nat} {a b c : World} (h : Fk B a b) (k : Fk B b c) : Fk B a c :=
  ⟨Nat.le_trans h.size k.size, fun j h1 h2 h3 h4 => by
    have e := h.kept j h1 h2 h3 h4
    rw [k.kept j (Nat.lt_of_lt_of_le h1 h.size) h2 h3 (by rw [e]; exact h4), e]⟩
theorem Fk.alloc {B : Nat} {a w : World} (h : Fk B a w) (o : Obj) : Fk B a (w.alloc o) :=
  h.trans ⟨by simp, fun k hk _ _ _ => Below.heap_alloc w o k hk⟩
theorem Fk.set4 {B : Nat} {a w : World} (h : Fk B a w) (j : Nat) (v : Value) : Fk B a (w.setCell ⟨B + 4, j, none⟩ v) :=
  h.trans ⟨by simp, fun k hk h4 _ _ => Below.heap_setCell w _ v k h4⟩
theorem Fk.set5 {B : Nat} {a w : World} (h : Fk B a w) (j : Nat) (v : Value) : Fk B a (w.setCell ⟨B + 5, j, none⟩ v) :=
  h.trans ⟨by simp, fun k hk _ h5 _ => Below.heap_setCell w _ v k h5⟩
theorem Fk.grown {B : Nat} {a w w' : World} {base n : Nat} {v : Value} {xs : List Value} (h : Fk B a w) (ho : w.ownsRow base 3 1 v n xs) (hg : w.grownBy w' v.ownBlock) : Fk B a w' :=
  h.trans ⟨hg.size, fun k hk _ _ h6 => hg.block k hk (fun e => by
    rcases ho.2 with ⟨rfl, _⟩ | ⟨g, cap, cur, rfl, _, hgg, _⟩
    · simp [Value.ownBlock] at e
    · simp only [Value.ownBlock, Option.some.injEq] at e
      subst e
      exact h6 _ _ hgg)⟩
theorem Blk.fk {B : Nat} {w w' : World} {k : Nat} {t : TypeId} {cs : Array Value} (h : Blk w k t cs) (hf : Fk B w w') (ht : t ≠ 3) (h4 : k ≠ B + 4) (h5 : k ≠ B + 5) : Blk w' k t cs :=
  (hf.kept k h.lt h4 h5 (fun cs' fr e => by
    unfold Blk at h
    rw [h] at e
    simp at e
    exact ht e.2.1)).trans h

/-- What the closure in Spread carries. -/
def walkV (B : Nat) : Value := .func (.func 88) #[] #[.pointer (some ⟨B + 6, 0, none⟩), .pointer (some ⟨B, 0, none⟩), .pointer (some ⟨B + 4, 0, none⟩), .pointer (some ⟨B + 7, 0, none⟩), .pointer (some ⟨B + 1, 0, none⟩), .pointer (some ⟨B + 2, 0, none⟩)]

/-- The world of Spread: what was seen, what came, whether the end was met. -/
structure SEnv (w0 : World) (n : Nat) (pv : Value) (f l : Bool) (S : Nat → Bool) (L : List Nat) (d : Bool) (v : Value) (w : World) : Prop where
  bp : Blk w w0.heap.size 72 #[pv]
  bf : Blk w (w0.heap.size + 1) 4 #[.bool f]
  bl : Blk w (w0.heap.size + 2) 4 #[.bool l]
  fr : Blk w (w0.heap.size + 4) 100 #[v, .bool d]
  own : w.ownsRow (w0.heap.size + 8) 3 1 v L.length (natVals L)
  seen : Blk w (w0.heap.size + 5) 4 (seenA n S)
  sb : Blk w (w0.heap.size + 6) 103 #[.slice (some ⟨w0.heap.size + 5, 0, none⟩) n n]
  wb : Blk w (w0.heap.size + 7) 151 #[walkV w0.heap.size]
  bel : Below w0.heap.size w0 w

section
variable {w0 w : World} {n : Nat} {pv : Value} {f l : Bool} {S : Nat → Bool} {L : List Nat} {d : Bool} {v : Value}

theorem SEnv.alloc (h : SEnv w0 n pv f l S L d v w) (o : Obj) : SEnv w0 n pv f l S L d v (w.alloc o) :=
  ⟨h.bp.alloc o, h.bf.alloc o, h.bl.alloc o, h.fr.alloc o, h.own.alloc o, h.seen.alloc o, h.sb.alloc o, h.wb.alloc o, h.bel.alloc h.bel.size o⟩

theorem SEnv.mark (h : SEnv w0 n pv f l S L d v w) (i : Nat) (hi : i < n) : SEnv w0 n pv f l (Wf.mark S i) L d v (w.setCell ⟨w0.heap.size + 5, i, none⟩ (.bool true)) := by
  have hown := fun k hk => h.own.lt k hk
  refine ⟨h.bp.far (by show w0.heap.size ≠ w0.heap.size + 5; omega) _, h.bf.far (by show w0.heap.size + 1 ≠ w0.heap.size + 5; omega) _, h.bl.far (by show w0.heap.size + 2 ≠ w0.heap.size + 5; omega) _, h.fr.far (by show w0.heap.size + 4 ≠ w0.heap.size + 5; omega) _, ?_, ?_, h.sb.far (by show w0.heap.size + 6 ≠ w0.heap.size + 5; omega) _, h.wb.far (by show w0.heap.size + 7 ≠ w0.heap.size + 5; omega) _, h.bel.setCell (by show w0.heap.size ≤ w0.heap.size + 5; omega) _⟩
  · refine h.own.kept (row := some (w0.heap.size + 5)) ⟨rfl, rfl, rfl, by simp, fun k _ hk => Below.heap_setCell w _ _ k (fun e => hk (by rw [e]))⟩ ?_
    cases hv : v.ownBlock with
    | none => exact .inl rfl
    | some k => exact .inr (fun e => by have := (hown k hv).1; simp at e; omega)
  · have := h.seen.set_ i (.bool true)
    rw [seenA_set n S i hi] at this
    exact this

theorem SEnv.end_ (h : SEnv w0 n pv f l S L d v w) : SEnv w0 n pv f l S L true v (w.setCell ⟨w0.heap.size + 4, 1, none⟩ (.bool true)) := by
  have hown := fun k hk => h.own.lt k hk
  refine ⟨h.bp.far (by show w0.heap.size ≠ w0.heap.size + 4; omega) _, h.bf.far (by show w0.heap.size + 1 ≠ w0.heap.size + 4; omega) _, h.bl.far (by show w0.heap.size + 2 ≠ w0.heap.size + 4; omega) _, ?_, ?_, h.seen.far (by show w0.heap.size + 5 ≠ w0.heap.size + 4; omega) _, h.sb.far (by show w0.heap.size + 6 ≠ w0.heap.size + 4; omega) _, h.wb.far (by show w0.heap.size + 7 ≠ w0.heap.size + 4; omega) _, h.bel.setCell (by show w0.heap.size ≤ w0.heap.size + 4; omega) _⟩
  · have := h.fr.set_ 1 (.bool true)
    exact this
  · refine h.own.kept (row := some (w0.heap.size + 4)) ⟨rfl, rfl, rfl, by simp, fun k _ hk => Below.heap_setCell w _ _ k (fun e => hk (by rw [e]))⟩ ?_
    cases hv : v.ownBlock with
    | none => exact .inl rfl
    | some k => exact .inr (fun e => by have := (hown k hv).1; simp at e; omega)

/-- A number more, behind an append. -/
theorem SEnv.take (h : SEnv w0 n pv f l S L d v w) {w' : World} {v' : Value} {i : Nat} (hown' : w'.ownsRow (w0.heap.size + 8) 3 1 v' (L.length + 1) (natVals L ++ [.int .i64 (i : Int)])) (hg : w.grownBy w' v.ownBlock) :
    Blk w' (w0.heap.size + 4) 100 #[v, .bool d] ∧ SEnv w0 n pv f l S (L ++ [i]) d v' (w'.setCell ⟨w0.heap.size + 4, 0, none⟩ v') := by
  have hown := fun k hk => h.own.lt k hk
  have kp : ∀ {k : Nat} {t : TypeId} {cs : Array Value}, Blk w k t cs → k < w0.heap.size + 8 → Blk w' k t cs := fun hb hk => (hg.block _ hb.lt (fun e => by have := (hown _ e.symm).1; omega)).trans hb
  have hfr := kp h.fr (by omega)
  have hbel : Below w0.heap.size w0 w' := h.bel.trans ⟨hg.os, hg.tape, hg.output, hg.size, fun k hk => by
    have hk' : k < w.heap.size := by have := h.bp.lt; omega
    exact hg.block k hk' (fun e => by have := (hown _ e.symm).1; omega)⟩
  refine ⟨hfr, ?_, ?_, ?_, ?_, ?_, ?_, ?_, ?_, ?_⟩
  · exact (kp h.bp (by omega)).far (by show w0.heap.size ≠ w0.heap.size + 4; omega) _
  · exact (kp h.bf (by omega)).far (by show w0.heap.size + 1 ≠ w0.heap.size + 4; omega) _
  · exact (kp h.bl (by omega)).far (by show w0.heap.size + 2 ≠ w0.heap.size + 4; omega) _
  · exact hfr.set_ 0 v'
  · have hlt' := fun k hk => hown'.lt k hk
    have hn : natVals (L ++ [i]) = natVals L ++ [.int .i64 (i : Int)] := by simp [natVals]
    rw [hn, List.length_append]
    refine hown'.kept (row := some (w0.heap.size + 4)) ⟨rfl, rfl, rfl, by simp, fun k _ hk => Below.heap_setCell w' _ _ k (fun e => hk (by rw [e]))⟩ ?_
    cases hv : v'.ownBlock with
    | none => exact .inl rfl
    | some k => exact .inr (fun e => by have := (hlt' k hv).1; simp at e; omega)
  · exact (kp h.seen (by omega)).far (by show w0.heap.size + 5 ≠ w0.heap.size + 4; omega) _
  · exact (kp h.sb (by omega)).far (by show w0.heap.size + 6 ≠ w0.heap.size + 4; omega) _
  · exact (kp h.wb (by omega)).far (by show w0.heap.size + 7 ≠ w0.heap.size + 4; omega) _
  · exact hbel.setCell (by show w0.heap.size ≤ w0.heap.size + 4; omega) _

end

end Go.Proofs.YthcahjnniendnabDoor

/-
  The walk of the closure in Spread.
-/
namespace Go.Proofs.YthcahjnniendnabDoor
open Go.RowKit Wf

theorem own_succ {w : World} {base size n : Nat} {e : TypeId} {v : Value} {xs : List Value} (h : w.ownsRow base e size v (n + 1) xs) : ∃ g cap, v = .slice (some ⟨g, 0, none⟩) (n + 1) cap := by
  rcases h.2 with ⟨_, h0⟩ | ⟨g, cap, cur, hv, _⟩
  · omega
  · exact ⟨g, cap, hv⟩

theorem mark_is (S : Nat → Bool) (i : Nat) : (fun j => S j = true ∨ j = i) = (fun j => Wf.mark S i j = true) := by
  funext j
  simp [Wf.mark]
  constructor
  · rintro (h | h)
    · exact .inr h
    · exact .inl h
  · rintro (h | h)
    · exact .inr h
    · exact .inl h

theorem new_one (W : World) (t : TypeId) (x : Value) (g : Nat) (hg : g = W.heap.size) : ∀ (j : Nat) (u : Value), [x][j]? = some u → (W.alloc (.cells #[x] t)).cell? ((⟨g, 0, none⟩ : Addr).add j) = some u := by
  intro j u hu
  subst hg
  rw [add_mk, Nat.zero_add, (Blk.new W t #[x]).cell]
  simpa using hu

def WalkIs (w0 : World) (p : List St) (pv : Value) (f l : Bool) (S : Nat → Bool) (L : List Nat) (d : Bool) (i : Nat) (w : World) (e : Ending) (w' : World) : Prop :=
  e = .returned (.tuple #[]) ∧ ∃ (S' : Nat → Bool) (L' : List Nat) (d' : Bool) (D : Prop) (v' : Value), Walked p f l (fun j => S j = true) (fun j => S' j = true) i L' D ∧ (d' = true ↔ d = true ∨ D) ∧
    SEnv w0 p.length pv f l S' (L ++ L') d' v' w' ∧ Fk w0.heap.size w w' ∧ (L ++ L').length + cnt S' p.length ≤ 1000

set_option maxRecDepth 100000 in
set_option maxHeartbeats 8000000 in
theorem walk_all (w0 : World) (p : List St) (hp : okP p) (b off cap : Nat) (hcap : p.length ≤ cap) (hcap2 : cap ≤ 9223372036854775807) (f l : Bool)
    (hcell : ∀ (w' : World), Below w0.heap.size w0 w' → ∀ k n, p[k]? = some n →
      w'.cell? ⟨b, off + k * 7, none⟩ = some (.int .i64 n.op) ∧ w'.cell? ⟨b, off + k * 7 + 1, none⟩ = some (.int .u64 (n.cls.1 : Int)) ∧ w'.cell? ⟨b, off + k * 7 + 2, none⟩ = some (.int .u64 (n.cls.2.1 : Int)) ∧
      w'.cell? ⟨b, off + k * 7 + 3, none⟩ = some (.int .u64 (n.cls.2.2.1 : Int)) ∧ w'.cell? ⟨b, off + k * 7 + 4, none⟩ = some (.int .u64 (n.cls.2.2.2 : Int)) ∧
      w'.cell? ⟨b, off + k * 7 + 5, none⟩ = some (.int .i64 n.x) ∧ w'.cell? ⟨b, off + k * 7 + 6, none⟩ = some (.int .i64 n.y)) :
    ∀ (m : Nat) (S : Nat → Bool) (L : List Nat) (d : Bool) (v : Value) (w : World) (i : Nat), cnt S p.length ≤ m → i < p.length → L.length + cnt S p.length ≤ 1000 →
      SEnv w0 p.length (.slice (some ⟨b, off, none⟩) p.length cap) f l S L d v w →
      Calls Tryd.prog 88 #[.int .i64 (i : Int), .pointer (some ⟨w0.heap.size + 6, 0, none⟩), .pointer (some ⟨w0.heap.size, 0, none⟩), .pointer (some ⟨w0.heap.size + 4, 0, none⟩), .pointer (some ⟨w0.heap.size + 7, 0, none⟩), .pointer (some ⟨w0.heap.size + 1, 0, none⟩), .pointer (some ⟨w0.heap.size + 2, 0, none⟩)] w (WalkIs w0 p (.slice (some ⟨b, off, none⟩) p.length cap) f l S L d i w) := by
  obtain ⟨i0, hi0, hz0, hz1, hz2⟩ := info_parts info_int
  have HP := Lib.hid hp
  have HCELL := Lib.hid hcell
  clear hp hcell
  have hn200 : p.length ≤ 200 := HP.out.2.1
  intro m
  induction m with
  | zero =>
    intro S L d v w i hm hi hL h
    have c0 := h.sb.cell 0
    have hs : S i = true := by
      cases hS : S i with
      | true => rfl
      | false => have := cnt_mark S i hS p.length (by omega); omega
    have c1 : w.cell? ⟨w0.heap.size + 5, i, none⟩ = some (.bool true) := by rw [h.seen.cell, seenA_get _ _ _ hi, hs]
    have hi1 : (i : Int) < (p.length : Int) := by omega
    have H := Lib.hid h
    have HSI := Lib.hid hs
    clear h hm hs
    go_enter Tryd.func88, Tryd.ntmps88
    go_wp2
    refine bodyPost_ret (results_none rfl _ _ _) rfl ⟨rfl, S, [], d, False, v, Walked.seen HSI.out, by simp, by rw [List.append_nil]; exact H.out, Fk.refl _ _, by rw [List.append_nil]; exact hL⟩
  | succ m ih =>
    intro S L d v w i hm hi hL h
    have c0 := h.sb.cell 0
    have hi1 : (i : Int) < (p.length : Int) := by omega
    by_cases hs : S i = true
    · have c1 : w.cell? ⟨w0.heap.size + 5, i, none⟩ = some (.bool true) := by rw [h.seen.cell, seenA_get _ _ _ hi, hs]
      have H := Lib.hid h
      have HSI := Lib.hid hs
      clear h hm hs ih
      go_enter Tryd.func88, Tryd.ntmps88
      go_wp2
      refine bodyPost_ret (results_none rfl _ _ _) rfl ⟨rfl, S, [], d, False, v, Walked.seen HSI.out, by simp, by rw [List.append_nil]; exact H.out, Fk.refl _ _, by rw [List.append_nil]; exact hL⟩
    · have hs0 : S i = false := by simpa using hs
      have c1 : w.cell? ⟨w0.heap.size + 5, i, none⟩ = some (.bool false) := by rw [h.seen.cell, seenA_get _ _ _ hi, hs0]
      have z1 := h.seen.frozen i
      have hcm := cnt_mark S i hs0 p.length (by omega)
      have HM := Lib.hid (h.mark i hi)
      have HM2 : Hid (∀ o, SEnv w0 p.length (.slice (some ⟨b, off, none⟩) p.length cap) f l (Wf.mark S i) L d v ((w.setCell ⟨w0.heap.size + 5, i, none⟩ (.bool true)).alloc o)) := Lib.hid fun o => HM.out.alloc o
      have hsp : p[i]? = some (p[i]'hi) := List.getElem?_eq_getElem hi
      generalize p[i]'hi = s at hsp
      have m0 := HM.out.bp.cell 0
      have m4 := fun o => (HM2.out o).fr.cell 0
      obtain ⟨q0, q1, q2, q3, q4, q5, q6⟩ := HCELL.out _ HM.out.bel i s hsp
      have hone := oneP_zero (HP.out.2.2 s (List.mem_of_getElem? hsp))
      obtain ⟨op, ⟨k0, k1, k2, k3⟩, x, y⟩ := s
      dsimp only at q0 q1 q2 q3 q4 q5 q6 hone
      have HSP := Lib.hid hsp
      have HS0 := Lib.hid hs
      have HSF := Lib.hid hs0
      have HIH := Lib.hid ih
      obtain ⟨⟨o1, o5⟩, ox, oy, _, _, _⟩ := hone
      clear h ih hsp hs hs0
      have hop : op = 1 ∨ op = 2 ∨ op = 3 ∨ op = 4 ∨ op = 5 := by omega
      rcases hop with rfl | rfl | rfl | rfl | rfl
      · have hw := Walked.leaf (p := p) (f := f) (l := l) (S := fun j => S j = true) HSP.out HS0.out (by
          rintro k ⟨s, hs, hh⟩
          rw [HSP.out] at hs
          cases hs
          simp at hh)
        rw [mark_is] at hw
        have HW : Hid (Walked p f l (fun j => S j = true) (fun j => Wf.mark S i j = true) i [i] False) := Lib.hid (by simpa using hw)
        have hLm : L.length ≤ 1000 := by omega
        clear hw ox oy o1 o5
        go_enter Tryd.func88, Tryd.ntmps88
        go_wp2_with (at_builtin; refine wpList_append_own _ rfl (.tmp 25) (.tmp 27) _ rfl (w0.heap.size + 8) 3 i0 _ 1 8 Tryd.underlying41 hi0 hz0 hz1 hz2 rfl (by omega) _ L.length (natVals L) rfl ((HM2.out _).own.alloc _) ⟨w.heap.size + 1, 0, none⟩ 1 1 [.int .i64 (i : Int)] rfl rfl (new_one _ _ _ _ (by simp)) (by intro u hu; simp at hu; subst hu; rfl) (by unfold maxLen; omega) (by omega) (by have := HM.out.wb.lt; simp at this ⊢; omega) ?_)
        intro v' w' hown' hg' _
        obtain ⟨g', cap', rfl⟩ := own_succ hown'
        obtain ⟨hf4, henv⟩ := ((HM2.out _).alloc _).take hown' hg'
        have g4 := hf4.cell 0
        have z4 := hf4.frozen 0
        have HENV := Lib.hid henv
        have HFK := Lib.hid (((((Fk.refl w0.heap.size w).set5 i (.bool true)).alloc _).alloc _).grown ((HM2.out _).own.alloc _) hg')
        clear henv hown' hg' hf4 m4 m0 q0 q1 q2 q3 q4 q5 q6 c0 c1 z1
        go_wp2
        go_end0
        refine ⟨rfl, Wf.mark S i, [i], d, False, _, HW.out, by simp, HENV.out, HFK.out.set4 _ _, ?_⟩
        simp; omega
      · have ⟨hx0, hx1⟩ := ox (by omega)
        have ⟨hy0, hy1⟩ := oy rfl
        obtain ⟨xn, rfl⟩ : ∃ n : Nat, x = (n : Int) := ⟨x.toNat, by omega⟩
        obtain ⟨yn, rfl⟩ : ∃ n : Nat, y = (n : Int) := ⟨y.toNat, by omega⟩
        have hxn : xn < p.length := by omega
        have hyn : yn < p.length := by omega
        have hC1 : cnt (Wf.mark S i) p.length ≤ m := by omega
        have hC2 : L.length + cnt (Wf.mark S i) p.length ≤ 1000 := by omega
        have HEPS : Hid (∀ k, Eps p f l i k ↔ k = xn ∨ k = yn) := Lib.hid (by
          intro k
          constructor
          · rintro ⟨s, hs, hh⟩
            rw [HSP.out] at hs
            cases hs
            simp at hh
            omega
          · intro h
            exact ⟨_, HSP.out, .inl ⟨rfl, by simp; omega⟩⟩)
        have mw := fun o => (HM2.out o).wb.cell 0
        unfold walkV at mw
        simp only [List.getElem?_toArray, List.getElem?_cons_zero] at mw
        clear ox oy o1 o5 hx0 hx1 hy0 hy1
        go_enter Tryd.func88, Tryd.ntmps88
        have hszw : w0.heap.size + 7 < w.heap.size := by have := HM.out.wb.lt; simpa using this
        go_wp2_with fail
        refine (HIH.out _ _ _ _ _ xn hC1 hxn hC2 (HM2.out _)).mono ?_
        rintro e w1 ⟨rfl, S1, L1, d1, D1, v1, hw1, hd1, henv1, hfk1, hb1⟩
        have hsb := Blk.new (w.setCell ⟨w0.heap.size + 5, i, none⟩ (.bool true)) 77 #[.int .i64 2, .int .u64 (k0 : Int), .int .u64 (k1 : Int), .int .u64 (k2 : Int), .int .u64 (k3 : Int), .int .i64 (xn : Int), .int .i64 (yn : Int)]
        have hsz : (w.setCell ⟨w0.heap.size + 5, i, none⟩ (.bool true)).heap.size = w.heap.size := by simp
        rw [hsz] at hsb
        have hsb1 := (Blk.fk (B := w0.heap.size) (show Blk _ _ _ _ from hsb) hfk1 (by decide) (by omega) (by omega)).cell 6
        simp only [List.getElem?_toArray, List.getElem?_cons_succ, List.getElem?_cons_zero] at hsb1
        have mw1 := henv1.wb.cell 0
        unfold walkV at mw1
        simp only [List.getElem?_toArray, List.getElem?_cons_zero] at mw1
        have hC3 : cnt S1 p.length ≤ m := Nat.le_trans (cnt_mono (fun j hj => hw1.mono j hj) _) hC1
        rw [← mark_is] at hw1
        have HW1 := Lib.hid hw1
        have HD1 := Lib.hid hd1
        have HENV1 := Lib.hid henv1
        have HFK1 := Lib.hid ((((Fk.refl w0.heap.size w).set5 i (.bool true)).alloc _).trans hfk1)
        clear hw1 hd1 henv1 hfk1 hsb m4 m0 q0 q1 q2 q3 q4 q5 q6 c0 c1 z1 mw
        go_wp2_with fail
        refine (HIH.out _ _ _ _ _ yn hC3 hyn hb1 HENV1.out).mono ?_
        rintro e w2 ⟨rfl, S2, L2, d2, D2, v2, hw2, hd2, henv2, hfk2, hb2⟩
        have HW := Lib.hid (Walked.two HSP.out HS0.out (by simp) (by simp) HEPS.out HW1.out hw2)
        have HD : Hid (d2 = true ↔ d = true ∨ (D1 ∨ D2)) := Lib.hid (by rw [hd2, HD1.out, or_assoc])
        rw [List.append_assoc] at henv2 hb2
        have HENV := Lib.hid henv2
        have HFK := Lib.hid (HFK1.out.trans hfk2)
        have HB := Lib.hid hb2
        clear hw2 hd2 henv2 hfk2 hb2 mw1 hsb1
        go_wp2
        go_end0
        exact ⟨rfl, S2, L1 ++ L2, d2, D1 ∨ D2, v2, HW.out, HD.out, HENV.out, HFK.out, HB.out⟩
      · have ⟨hx0, hx1⟩ := ox (by omega)
        obtain ⟨xn, rfl⟩ : ∃ n : Nat, x = (n : Int) := ⟨x.toNat, by omega⟩
        have hxn : xn < p.length := by omega
        have hC1 : cnt (Wf.mark S i) p.length ≤ m := by omega
        have hC2 : L.length + cnt (Wf.mark S i) p.length ≤ 1000 := by omega
        have mw := fun o => (HM2.out o).wb.cell 0
        unfold walkV at mw
        simp only [List.getElem?_toArray, List.getElem?_cons_zero] at mw
        have mf := fun o => (HM2.out o).bf.cell 0
        clear ox oy o1 o5 hx0 hx1
        cases f with
        | true =>
          have HEPS : Hid (∀ k, Eps p true l i k ↔ k = xn) := Lib.hid (by
            intro k
            constructor
            · rintro ⟨s, hs, hh⟩
              rw [HSP.out] at hs
              cases hs
              simp at hh
              omega
            · intro h
              exact ⟨_, HSP.out, .inr (.inl ⟨rfl, rfl, by simp; omega⟩)⟩)
          go_enter Tryd.func88, Tryd.ntmps88
          go_wp2_with fail
          refine (HIH.out _ _ _ _ _ xn hC1 hxn hC2 (HM2.out _)).mono ?_
          rintro e w1 ⟨rfl, S1, L1, d1, D1, v1, hw1, hd1, henv1, hfk1, hb1⟩
          rw [← mark_is] at hw1
          have HW := Lib.hid (Walked.one HSP.out HS0.out (by simp) (by simp) HEPS.out hw1)
          have HD := Lib.hid hd1
          have HENV := Lib.hid henv1
          have HFK := Lib.hid (((Fk.refl w0.heap.size w).set5 i (.bool true)).alloc _ |>.trans hfk1)
          have HB := Lib.hid hb1
          clear hw1 hd1 henv1 hfk1 hb1 m4 m0 q0 q1 q2 q3 q4 q5 q6 c0 c1 z1 mw mf
          go_wp2
          go_end0
          exact ⟨rfl, S1, L1, d1, D1, v1, HW.out, HD.out, HENV.out, HFK.out, HB.out⟩
        | false =>
          have hw := Walked.leaf (p := p) (f := false) (l := l) (S := fun j => S j = true) HSP.out HS0.out (by
            rintro k ⟨s, hs, hh⟩
            rw [HSP.out] at hs
            cases hs
            simp at hh)
          rw [mark_is] at hw
          have HW := Lib.hid hw
          clear hw
          go_enter Tryd.func88, Tryd.ntmps88
          go_wp2
          go_end0
          refine ⟨rfl, Wf.mark S i, [], d, False, v, by simpa using HW.out, by simp, by rw [List.append_nil]; exact HM2.out _, ((Fk.refl w0.heap.size w).set5 i (.bool true)).alloc _, ?_⟩
          simp; omega
      · have ⟨hx0, hx1⟩ := ox (by omega)
        obtain ⟨xn, rfl⟩ : ∃ n : Nat, x = (n : Int) := ⟨x.toNat, by omega⟩
        have hxn : xn < p.length := by omega
        have hC1 : cnt (Wf.mark S i) p.length ≤ m := by omega
        have hC2 : L.length + cnt (Wf.mark S i) p.length ≤ 1000 := by omega
        have mw := fun o => (HM2.out o).wb.cell 0
        unfold walkV at mw
        simp only [List.getElem?_toArray, List.getElem?_cons_zero] at mw
        have mf := fun o => (HM2.out o).bl.cell 0
        clear ox oy o1 o5 hx0 hx1
        cases l with
        | true =>
          have HEPS : Hid (∀ k, Eps p f true i k ↔ k = xn) := Lib.hid (by
            intro k
            constructor
            · rintro ⟨s, hs, hh⟩
              rw [HSP.out] at hs
              cases hs
              simp at hh
              omega
            · intro h
              exact ⟨_, HSP.out, .inr (.inr ⟨rfl, rfl, by simp; omega⟩)⟩)
          go_enter Tryd.func88, Tryd.ntmps88
          go_wp2_with fail
          refine (HIH.out _ _ _ _ _ xn hC1 hxn hC2 (HM2.out _)).mono ?_
          rintro e w1 ⟨rfl, S1, L1, d1, D1, v1, hw1, hd1, henv1, hfk1, hb1⟩
          rw [← mark_is] at hw1
          have HW := Lib.hid (Walked.one HSP.out HS0.out (by simp) (by simp) HEPS.out hw1)
          have HD := Lib.hid hd1
          have HENV := Lib.hid henv1
          have HFK := Lib.hid (((Fk.refl w0.heap.size w).set5 i (.bool true)).alloc _ |>.trans hfk1)
          have HB := Lib.hid hb1
          clear hw1 hd1 henv1 hfk1 hb1 m4 m0 q0 q1 q2 q3 q4 q5 q6 c0 c1 z1 mw mf
          go_wp2
          go_end0
          exact ⟨rfl, S1, L1, d1, D1, v1, HW.out, HD.out, HENV.out, HFK.out, HB.out⟩
        | false =>
          have hw := Walked.leaf (p := p) (f := f) (l := false) (S := fun j => S j = true) HSP.out HS0.out (by
            rintro k ⟨s, hs, hh⟩
            rw [HSP.out] at hs
            cases hs
            simp at hh)
          rw [mark_is] at hw
          have HW := Lib.hid hw
          clear hw
          go_enter Tryd.func88, Tryd.ntmps88
          go_wp2
          go_end0
          refine ⟨rfl, Wf.mark S i, [], d, False, v, by simpa using HW.out, by simp, by rw [List.append_nil]; exact HM2.out _, ((Fk.refl w0.heap.size w).set5 i (.bool true)).alloc _, ?_⟩
          simp; omega
      · have hw := Walked.leaf (p := p) (f := f) (l := l) (S := fun j => S j = true) HSP.out HS0.out (by
          rintro k ⟨s, hs, hh⟩
          rw [HSP.out] at hs
          cases hs
          simp at hh)
        rw [mark_is] at hw
        have HW := Lib.hid hw
        have m41 := fun o => (HM2.out o).fr.cell 1
        have z41 := fun o => (HM2.out o).fr.frozen 1
        clear ox oy o1 o5 hw
        go_enter Tryd.func88, Tryd.ntmps88
        go_wp2
        go_end0
        refine ⟨rfl, Wf.mark S i, [], true, True, v, by simpa using HW.out, by simp, by rw [List.append_nil]; exact (HM2.out _).end_, (((Fk.refl w0.heap.size w).set5 i (.bool true)).alloc _).set4 _ _, ?_⟩
        simp; omega

end Go.Proofs.YthcahjnniendnabDoor

/-
  Walks of package sim: Spread, Front.Go.
-/
namespace Go.Proofs.YthcahjnniendnabDoor
open Go.RowKit Wf

@[go_sem] theorem run_store_fn {P : Program} (w : World) (a : Addr) (fn : Fn) (ts bs : Array Value) (m : Mode) : (store a (.func fn ts bs) m).run P w = stored P w a (.func fn ts bs) m := run_store P w a _ m rfl

theorem blk_at (W : World) (k : Nat) (hk : W.heap.size = k) (t : TypeId) (cs : Array Value) : Blk (W.alloc (.cells cs t)) k t cs := by subst hk; exact Blk.new _ _ _
theorem seenA_none (n : Nat) : repA n (.bool false) = seenA n (fun _ => false) := by
  unfold repA seenA
  congr 1
  rw [List.map_const']
  simp

theorem SEnv.new (w : World) (n : Nat) (pv : Value) (f l : Bool) :
    SEnv w n pv f l (fun _ => false) [] false (.slice none 0 0) ((((((((w.alloc (.cells #[pv] 72)).alloc (.cells #[.bool f] 4)).alloc (.cells #[.bool l] 4)).alloc (.cells #[.slice none 0 0, .bool false] 100)).alloc (.cells #[.slice none 0 0, .bool false] 100)).alloc (.cells (repA n (.bool false)) 4)).alloc (.cells #[.slice (some ⟨w.heap.size + 5, 0, none⟩) n n] 103)).alloc (.cells #[walkV w.heap.size] 151)) ∧
    Blk ((((((((w.alloc (.cells #[pv] 72)).alloc (.cells #[.bool f] 4)).alloc (.cells #[.bool l] 4)).alloc (.cells #[.slice none 0 0, .bool false] 100)).alloc (.cells #[.slice none 0 0, .bool false] 100)).alloc (.cells (repA n (.bool false)) 4)).alloc (.cells #[.slice (some ⟨w.heap.size + 5, 0, none⟩) n n] 103)).alloc (.cells #[walkV w.heap.size] 151)) (w.heap.size + 3) 100 #[.slice none 0 0, .bool false] := by
  refine ⟨⟨?_, ?_, ?_, ?_, World.ownsRow_nil _ _ _ _, ?_, ?_, ?_, ?_⟩, ?_⟩
  · exact (((((((blk_at _ _ (by simp) _ _).alloc _).alloc _).alloc _).alloc _).alloc _).alloc _).alloc _
  · exact ((((((blk_at _ _ (by simp) _ _).alloc _).alloc _).alloc _).alloc _).alloc _).alloc _
  · exact (((((blk_at _ _ (by simp) _ _).alloc _).alloc _).alloc _).alloc _).alloc _
  · exact (((blk_at _ _ (by simp) _ _).alloc _).alloc _).alloc _
  · rw [← seenA_none]; exact ((blk_at _ _ (by simp) _ _).alloc _).alloc _
  · exact (blk_at _ _ (by simp) _ _).alloc _
  · exact blk_at _ _ (by simp) _ _
  · exact (((((((((Below.refl _ _).alloc (Nat.le_refl _) _).alloc (by simp) _).alloc (by simp; omega) _).alloc (by simp; omega) _).alloc (by simp; omega) _).alloc (by simp; omega) _).alloc (by simp; omega) _).alloc (by simp; omega) _)
  · exact ((((blk_at _ _ (by simp) _ _).alloc _).alloc _).alloc _).alloc _

theorem own_base {w : World} {base base' size n : Nat} {e : TypeId} {v : Value} {xs : List Value} (h : w.ownsRow base e size v n xs) (hb : base' ≤ base) : w.ownsRow base' e size v n xs := by
  refine ⟨h.1, ?_⟩
  rcases h.2 with hn | ⟨g, cap, cur, hv, h1, rest⟩
  · exact .inl hn
  · exact .inr ⟨g, cap, cur, hv, Nat.le_trans hb h1, rest⟩

def SpreadIs (p : List St) (f l : Bool) (fs : List Nat) (w : World) (e : Ending) (w' : World) : Prop :=
  ∃ (A : Option Addr) (cap : Nat) (L : List Nat) (d : Bool), e = .returned (.agg #[.slice A L.length cap, .bool d]) ∧ Front p f l fs L d ∧ w'.ownsRow w.heap.size 3 1 (.slice A L.length cap) L.length (natVals L) ∧ Below w.heap.size w w'

set_option maxRecDepth 100000 in
set_option maxHeartbeats 8000000 in
theorem Spread_any (p : List St) (hp : okP p) (pv fv : Value) (fs : List Nat) (hfs : ∀ i ∈ fs, i < p.length) (f l : Bool) (w : World) (hr : RdS w pv p) (hf : Rd1 w fv (natVals fs)) :
    Calls Tryd.prog 55 #[pv, fv, .bool f, .bool l] w (SpreadIs p f l fs w) := by
  have hn200 : p.length ≤ 200 := hp.2.1
  have hpos : 0 < p.length := hp.1
  obtain ⟨A, cap, rfl, hcap, hcap2, hmem⟩ := hr.open_
  obtain ⟨b, off, rfl, hbl, hcells⟩ := hmem hpos
  rw [show Rd1 w fv (natVals fs) = RdI w fv (toInts fs) by rw [natVals_ints]; rfl] at hf
  obtain ⟨F, capf, rfl, hcf, hcf2, hmf⟩ := hf.open_
  have HW := Lib.hid (walk_all w p hp b off cap hcap hcap2 f l (fun w' hb k n hk => hcells w' (fun o => hb.cell (p := ⟨b, o, none⟩) hbl) k n hk))
  have HMF := Lib.hid hmf
  have HNEW := Lib.hid (SEnv.new w p.length (.slice (some ⟨b, off, none⟩) p.length cap) f l)
  have hmk := fun W => mk_bools p.length (by omega) W
  have hfl : (toInts fs).length = fs.length := toInts_len fs
  have hzl : (toInts fs).length ≤ 9223372036854775807 := by omega
  rw [hfl] at hcf hmf
  have HFS := Lib.hid hfs
  have HZ : Hid (∀ k x, (toInts fs)[k]? = some x → ∃ i : Nat, fs[k]? = some i ∧ x = (i : Int) ∧ i < p.length) := Lib.hid (by
    intro k x hx
    rw [toInts_get] at hx
    cases hq : fs[k]? with
    | none => rw [hq] at hx; cases hx
    | some i => rw [hq] at hx; simp at hx; exact ⟨i, hq, hx.symm, hfs i (List.mem_of_getElem? hq)⟩)
  have HFL := Lib.hid hfl
  have HP := Lib.hid hp
  clear hcells hmem hmf hr hf hfs hp hfl
  generalize hzs : toInts fs = zs at *
  clear hzs
  go_enter Tryd.func55, Tryd.ntmps55
  go_wp2_with fail
  go_loopw [20] (fun v20 wr => ∃ (k : Nat) (S : Nat → Bool) (L : List Nat) (d : Bool) (D : Prop) (v : Value), k ≤ zs.length ∧ v20 = .int .i64 (k : Int) ∧ Hid (Acc p f l (fs.take k) (fun j => S j = true) L D) ∧ Hid (d = true ↔ D) ∧ Hid (SEnv w p.length (.slice (some ⟨b, off, none⟩) p.length cap) f l S L d v wr) ∧ L.length + cnt S p.length ≤ 1000 ∧ Hid (Blk wr (w.heap.size + 3) 100 #[.slice none 0 0, .bool false])) (fun i _ => zs.length - (intOf i).toNat)
  case atStart => exact ⟨0, fun _ => false, [], false, False, .slice none 0 0, by omega, rfl, Lib.hid (by simpa using Acc.start p f l), Lib.hid (by simp), Lib.hid HNEW.out.1, by have := cnt_le (fun _ => false) p.length; simp; omega, Lib.hid HNEW.out.2⟩
  case round =>
    clear HNEW hmk
    obtain ⟨k, S, L, d, D, v, hk, rfl, HACC, HD, HENV, hcn, HRES⟩ := hrel
    by_cases hlt : k < zs.length
    · obtain ⟨bf, of, rfl, hbf, hcf'⟩ := HMF.out (by omega)
      obtain ⟨x, hx⟩ := getD_get hlt
      obtain ⟨i, hi, rfl, hin⟩ := HZ.out k x hx
      have g0 := hcf' wr (fun o => HENV.out.bel.cell (p := ⟨bf, o, none⟩) hbf) k (i : Int) hx
      have w0 : wr.cell? ⟨w.heap.size + 1 + 1 + 1 + 1 + 1 + 1 + 1, 0, none⟩ = some (walkV w.heap.size) := HENV.out.wb.cell 0
      unfold walkV at w0
      have hk1 : (k : Int) < (zs.length : Int) := by omega
      have HI := Lib.hid hi
      clear hx hi hcf'
      go_wp2_with fail
      refine (HW.out (cnt S p.length) S L d v wr i (Nat.le_refl _) hin hcn HENV.out).mono ?_
      rintro e w1 ⟨rfl, S1, L1, d1, D1, v1, hw1, hd1, henv1, hfk1, hb1⟩
      have HW1 := Lib.hid hw1
      have HD1 : Hid (d1 = true ↔ D ∨ D1) := Lib.hid (by rw [hd1, HD.out])
      have HENV1 := Lib.hid henv1
      have hsz7 := HENV.out.wb.lt
      have HRES1 := Lib.hid (Blk.fk (B := w.heap.size) HRES.out hfk1 (by decide) (by omega) (by omega))
      clear hw1 hd1 henv1 hfk1 w0 g0
      go_wp2_with fail
      go_roundw
      case rel => exact ⟨k + 1, S1, L ++ L1, d1, D ∨ D1, v1, by omega, by go_num, Lib.hid (by rw [take_snoc HI.out]; exact HACC.out.step HW1.out), HD1, HENV1, hb1, HRES1⟩
      case measure => simp [intOf]; omega
    · obtain rfl : k = zs.length := by omega
      have HACC2 : Hid (Acc p f l fs (fun j => S j = true) L D) := Lib.hid (by have := HACC.out; rw [HFL.out, List.take_length] at this; exact this)
      obtain ⟨VA, vn, vcap, rfl, _, _, hvl, _⟩ := Rd.of_own HENV.out.own
      obtain rfl : vn = L.length := by simp [natVals] at hvl; omega
      have f0 : wr.cell? ⟨w.heap.size + 1 + 1 + 1 + 1, 0, none⟩ = some (.slice VA L.length vcap) := HENV.out.fr.cell 0
      have f1 : wr.cell? ⟨w.heap.size + 1 + 1 + 1 + 1, 1, none⟩ = some (.bool d) := HENV.out.fr.cell 1
      have r0 : wr.cell? ⟨w.heap.size + 1 + 1 + 1, 0, none⟩ = some (.slice none 0 0) := HRES.out.cell 0
      have r1 : wr.cell? ⟨w.heap.size + 1 + 1 + 1, 1, none⟩ = some (.bool false) := HRES.out.cell 1
      have z0 : wr.frozen? ⟨w.heap.size + 1 + 1 + 1, 0, none⟩ = false := HRES.out.frozen 0
      have z1 : wr.frozen? ⟨w.heap.size + 1 + 1 + 1, 1, none⟩ = false := HRES.out.frozen 1
      clear HACC hvl
      go_wp2
      have hk := (HRES.out.set_ 0 (.slice VA L.length vcap)).set_ 1 (.bool d)
      refine bodyPost_ret (v := .agg #[.slice VA L.length vcap, .bool d]) ?_ rfl ⟨VA, vcap, L, d, rfl, HACC2.out.front HD.out, ?_, ?_⟩
      · have k0 : (((wr.setCell ⟨w.heap.size + 1 + 1 + 1, 0, none⟩ (.slice VA L.length vcap)).setCell ⟨w.heap.size + 1 + 1 + 1, 1, none⟩ (.bool d))).cell? ⟨w.heap.size + 1 + 1 + 1, 0, none⟩ = some (.slice VA L.length vcap) := hk.cell 0
        have k1 : (((wr.setCell ⟨w.heap.size + 1 + 1 + 1, 0, none⟩ (.slice VA L.length vcap)).setCell ⟨w.heap.size + 1 + 1 + 1, 1, none⟩ (.bool d))).cell? ⟨w.heap.size + 1 + 1 + 1, 1, none⟩ = some (.bool d) := hk.cell 1
        simp [results, Tryd.results55, go_sem, k0, k1]
      · have hlt := fun q hq => HENV.out.own.lt q hq
        have hg : wr.grownBy ((wr.setCell ⟨w.heap.size + 1 + 1 + 1, 0, none⟩ (.slice VA L.length vcap)).setCell ⟨w.heap.size + 1 + 1 + 1, 1, none⟩ (.bool d)) (some (w.heap.size + 3)) := ⟨rfl, rfl, rfl, by simp, fun q hq hne => by
          rw [Below.heap_setCell _ _ _ q (fun e => hne (by rw [e])), Below.heap_setCell _ _ _ q (fun e => hne (by rw [e]))]⟩
        refine own_base (HENV.out.own.kept hg ?_) (Nat.le_add_right _ _)
        cases hv : (Value.slice VA L.length vcap).ownBlock with
        | none => exact .inl rfl
        | some q => exact .inr (fun e => by have := (hlt q hv).1; simp at e; omega)
      · exact (HENV.out.bel.setCell (by show w.heap.size ≤ w.heap.size + 3; omega) _).setCell (by show w.heap.size ≤ w.heap.size + 3; omega) _

end Go.Proofs.YthcahjnniendnabDoor

/-
  Where a byte leads from some steps of a program. No program in sight.
-/
namespace Go.Proofs.YthcahjnniendnabDoor
open Wf

/-- Where a byte leads from some taking steps. -/
def goL (p : List St) (b : Nat) (L : List Nat) : List Nat := L.flatMap fun i => match p[i]? with
  | some s => if has s.cls b then [s.x.toNat] else []
  | none => []
theorem goL_snoc (p : List St) (b : Nat) (L : List Nat) (i : Nat) (s : St) (h : p[i]? = some s) : goL p b (L ++ [i]) = goL p b L ++ (if has s.cls b then [s.x.toNat] else []) := by
  unfold goL
  simp [h]
theorem goL_len (p : List St) (b : Nat) (L : List Nat) : (goL p b L).length ≤ L.length := by
  induction L with
  | nil => simp [goL]
  | cons i r ih =>
    have : goL p b (i :: r) = (match p[i]? with | some s => if has s.cls b then [s.x.toNat] else [] | none => []) ++ goL p b r := rfl
    rw [this, List.length_append, List.length_cons]
    have : (match p[i]? with | some s => if has s.cls b then [s.x.toNat] else [] | none => ([] : List Nat)).length ≤ 1 := by
      split
      · split <;> simp
      · simp
    omega

end Go.Proofs.YthcahjnniendnabDoor

/-
  Plain facts about runs of programs: where a run may be, where it may end. No program in sight.
-/
namespace Wf
open Go.Proofs.YthcahjnniendnabDoor (upTo_ upTo_zero upTo_yes upTo_no upTo_len upTo_mem upTo_iff goL)

/-- A run from a place on may be, at place i, at step j (ahead of what goes without a byte). -/
inductive RunAt (p : List St) (s : List UInt8) (from_ : Nat) : Nat → Nat → Prop where
  | start : RunAt p s from_ from_ 0
  | step {i j k x : Nat} {b : UInt8} {st : St} : RunAt p s from_ i j → Star (Eps p (i == 0) (i == s.length)) j k → p[k]? = some st → st.op = 1 → s[i]? = some b → has st.cls b.toNat = true → (x : Int) = st.x → RunAt p s from_ (i + 1) x

/-- A run may end at a place. -/
def EndsAt (p : List St) (s : List UInt8) (from_ : Nat) (i : Nat) : Prop := ∃ j k, RunAt p s from_ i j ∧ Star (Eps p (i == 0) (i == s.length)) j k ∧ ∃ st, p[k]? = some st ∧ st.op = 5

theorem RunAt.ge {p : List St} {s : List UInt8} {f i j : Nat} (h : RunAt p s f i j) : f ≤ i := by
  induction h with
  | start => exact Nat.le_refl _
  | step _ _ _ _ _ _ _ ih => omega
theorem RunAt.le {p : List St} {s : List UInt8} {f i j : Nat} (h : RunAt p s f i j) (hf : f ≤ s.length) : i ≤ s.length := by
  cases h with
  | start => exact hf
  | step _ _ _ _ hb _ _ => have := (List.getElem?_eq_some_iff.1 hb).1; omega
theorem RunAt.lt {p : List St} (hp : okP p) {s : List UInt8} {f i j : Nat} (h : RunAt p s f i j) : j < p.length := by
  cases h with
  | start => exact hp.1
  | step _ _ hs h1 _ _ hx =>
    have := (oneP_zero (hp.2.2 _ (List.mem_of_getElem? hs))).2.1 (by omega)
    omega
theorem RunAt.first {p : List St} {s : List UInt8} {f j : Nat} (h : RunAt p s f f j) : j = 0 := by
  generalize hi : f = i at h
  cases h with
  | start => rfl
  | step h => have := h.ge; omega

/-- The list of steps at which a run may be is told. -/
def AtL (p : List St) (s : List UInt8) (f i : Nat) (fs : List Nat) : Prop := ∀ j, j ∈ fs ↔ RunAt p s f i j
theorem AtL.start (p : List St) (s : List UInt8) (f : Nat) : AtL p s f f [0] := fun j => by
  constructor
  · intro h
    obtain rfl : j = 0 := by simpa using h
    exact .start
  · intro h; rw [h.first]; simp

theorem AtL.spr {p : List St} {s : List UInt8} {f i : Nat} {fs : List Nat} (h : AtL p s f i fs) (k : Nat) (a b : Bool) : Spr p a b fs k ↔ ∃ j, RunAt p s f i j ∧ Star (Eps p a b) j k := by
  unfold Spr
  constructor
  · rintro ⟨j, h1, h2⟩; exact ⟨j, (h j).1 h1, h2⟩
  · rintro ⟨j, h1, h2⟩; exact ⟨j, (h j).2 h1, h2⟩

theorem AtL.done {p : List St} {s : List UInt8} {f i : Nat} {fs L : List Nat} {d : Bool} (h : AtL p s f i fs) (hf : Front p (i == 0) (i == s.length) fs L d) : d = true ↔ EndsAt p s f i := by
  rw [hf.done]
  unfold EndsAt
  constructor
  · rintro ⟨k, h1, h2⟩
    obtain ⟨j, h3, h4⟩ := (h.spr k _ _).1 h1
    exact ⟨j, k, h3, h4, h2⟩
  · rintro ⟨j, k, h3, h4, h2⟩
    exact ⟨k, (h.spr k _ _).2 ⟨j, h3, h4⟩, h2⟩

theorem AtL.next {p : List St} (hp : okP p) {s : List UInt8} {f i : Nat} {fs L : List Nat} {d : Bool} {b : UInt8} (hfi : f ≤ i) (h : AtL p s f i fs) (hf : Front p (i == 0) (i == s.length) fs L d) (hb : s[i]? = some b) : AtL p s f (i + 1) (goL p b.toNat L) := by
  intro x
  unfold goL
  rw [List.mem_flatMap]
  constructor
  · rintro ⟨k, hk, hx⟩
    obtain ⟨h1, st, h2, h3⟩ := (hf.takes k).1 hk
    obtain ⟨j, h4, h5⟩ := (h.spr k _ _).1 h1
    rw [h2] at hx
    simp only at hx
    split at hx
    · rename_i hh
      have hx0 := (oneP_zero (hp.2.2 _ (List.mem_of_getElem? h2))).2.1 (by omega)
      obtain rfl : x = st.x.toNat := by simpa using hx
      exact .step h4 h5 h2 h3 hb hh (by omega)
    · cases hx
  · intro h
    generalize hi : i + 1 = i' at h
    cases h with
    | start => omega
    | @step i1 j k x b1 st h4 h5 h2 h3 hb1 hh hx =>
      obtain rfl : i1 = i := by omega
      rw [hb] at hb1
      cases hb1
      refine ⟨k, (hf.takes k).2 ⟨(AtL.spr h k _ _).2 ⟨j, h4, h5⟩, st, h2, h3⟩, ?_⟩
      rw [h2]
      simp only
      rw [if_pos hh]
      simp
      omega

theorem AtL.none {p : List St} {s : List UInt8} {f i : Nat} (hfi : f ≤ i) (h : AtL p s f i []) : ∀ i', i ≤ i' → ∀ j, ¬ RunAt p s f i' j := by
  intro i' hi'
  obtain ⟨m, rfl⟩ : ∃ m, i' = i + m := ⟨i' - i, by omega⟩
  clear hi'
  induction m with
  | zero => intro j hj; have := (h j).2 hj; cases this
  | succ m ih =>
    intro j hj
    generalize hi : i + (m + 1) = i' at hj
    cases hj with
    | start => omega
    | @step i1 j1 _ _ _ _ h4 =>
      obtain rfl : i1 = i + m := by omega
      exact ih _ h4

/-- All the ends of a run. -/
noncomputable def runL (p : List St) (s : List UInt8) (f : Nat) : List Nat := upTo_ (EndsAt p s f) (s.length + 1)
theorem runL_of {p : List St} {s : List UInt8} {f i : Nat} (hi : i ≤ s.length + 1) (h : ∀ i', i ≤ i' → ¬ EndsAt p s f i') : runL p s f = upTo_ (EndsAt p s f) i := by
  unfold runL
  obtain ⟨m, hm⟩ : ∃ m, s.length + 1 = i + m := ⟨s.length + 1 - i, by omega⟩
  rw [hm]
  clear hm
  induction m with
  | zero => rfl
  | succ m ih => rw [show i + (m + 1) = (i + m) + 1 by omega, upTo_no (h _ (by omega)), ih]
theorem ends_first {p : List St} {s : List UInt8} {f i : Nat} (h : EndsAt p s f i) : f ≤ i := by
  obtain ⟨j, k, h1, _⟩ := h
  exact h1.ge
theorem upTo_first (p : List St) (s : List UInt8) (f : Nat) : upTo_ (EndsAt p s f) f = [] := by
  have key : ∀ m, m ≤ f → upTo_ (EndsAt p s f) m = [] := by
    intro m
    induction m with
    | zero => intro _; rfl
    | succ m ih => intro h; rw [upTo_no (fun hh => by have := ends_first hh; omega), ih (by omega)]
  exact key f (Nat.le_refl _)

end Wf

/-
  A pattern's program, as a list of steps, and that it fits what the pattern fits. No program in sight.
-/
namespace Wf

/-- How many steps a pattern has. -/
def sz : Rx → Nat
  | .byte _ => 1
  | .empty => 0
  | .cat a b => sz a + sz b
  | .alt a b => sz a + sz b + 2
  | .star a => sz a + 2
  | .plus a => sz a + 1
  | .opt a => sz a + 1
  | .bgn => 1
  | .fin => 1

/-- The steps of a pattern, the first one of which has the number h. -/
def code : Rx → Nat → List St
  | .byte c, h => [⟨1, c, ((h + 1 : Nat) : Int), 0⟩]
  | .empty, _ => []
  | .cat a b, h => code a h ++ code b (h + sz a)
  | .alt a b, h => (⟨2, zc, ((h + 1 : Nat) : Int), ((h + 1 + sz a + 1 : Nat) : Int)⟩ :: code a (h + 1)) ++ (⟨2, zc, ((h + 1 + sz a + 1 + sz b : Nat) : Int), ((h + 1 + sz a + 1 + sz b : Nat) : Int)⟩ :: code b (h + 1 + sz a + 1))
  | .star a, h => (⟨2, zc, ((h + 1 : Nat) : Int), ((h + 1 + sz a + 1 : Nat) : Int)⟩ :: code a (h + 1)) ++ [⟨2, zc, ((h + 1 : Nat) : Int), ((h + 1 + sz a + 1 : Nat) : Int)⟩]
  | .plus a, h => code a h ++ [⟨2, zc, (h : Int), ((h + sz a + 1 : Nat) : Int)⟩]
  | .opt a, h => ⟨2, zc, ((h + 1 : Nat) : Int), ((h + 1 + sz a : Nat) : Int)⟩ :: code a (h + 1)
  | .bgn, h => [⟨3, zc, ((h + 1 : Nat) : Int), 0⟩]
  | .fin, h => [⟨4, zc, ((h + 1 : Nat) : Int), 0⟩]

def doneS : St := ⟨5, zc, 0, 0⟩
/-- A pattern's program. -/
def progL (t : Rx) : List St := code t 0 ++ [doneS]

theorem code_len (t : Rx) : ∀ h, (code t h).length = sz t := by
  induction t with
  | byte c => intro h; rfl
  | empty => intro h; rfl
  | bgn => intro h; rfl
  | fin => intro h; rfl
  | cat a b iha ihb => intro h; simp [code, sz, iha, ihb]
  | alt a b iha ihb => intro h; simp [code, sz, iha, ihb]; omega
  | star a iha => intro h; simp [code, sz, iha]
  | plus a iha => intro h; simp [code, sz, iha]
  | opt a iha => intro h; simp [code, sz, iha]
theorem progL_len (t : Rx) : (progL t).length = sz t + 1 := by simp [progL, code_len]
theorem sz_le (t : Rx) : sz t ≤ 2 * (flat t).length := by
  induction t with
  | byte c => simp [sz, flat]
  | empty => simp [sz, flat]
  | bgn => simp [sz, flat]
  | fin => simp [sz, flat]
  | cat a b iha ihb => simp [sz, flat]; omega
  | alt a b iha ihb => simp [sz, flat]; omega
  | star a iha => simp [sz, flat]; omega
  | plus a iha => simp [sz, flat]; omega
  | opt a iha => simp [sz, flat]; omega

/-- The steps of a pattern's program may be. -/
theorem code_ok (t : Rx) : ∀ (h many : Nat), h + sz t < many → ∀ s ∈ code t h, oneP s many = 0 := by
  induction t with
  | byte c =>
    intro h many hm s hs
    obtain rfl := List.mem_singleton.1 hs
    simp only [sz] at hm
    exact zero_oneP (by simp) (fun _ => ⟨by simp; omega, by simp; omega⟩) (by simp) (by simp) (by simp) (by simp)
  | bgn =>
    intro h many hm s hs
    obtain rfl := List.mem_singleton.1 hs
    simp only [sz] at hm
    exact zero_oneP (by simp) (fun _ => ⟨by simp; omega, by simp; omega⟩) (by simp) (by simp) (by simp) (by simp)
  | fin =>
    intro h many hm s hs
    obtain rfl := List.mem_singleton.1 hs
    simp only [sz] at hm
    exact zero_oneP (by simp) (fun _ => ⟨by simp; omega, by simp; omega⟩) (by simp) (by simp) (by simp) (by simp)
  | empty => intro h many hm s hs; cases hs
  | cat a b iha ihb =>
    intro h many hm s hs
    simp only [sz] at hm
    rcases List.mem_append.1 hs with hs | hs
    · exact iha h many (by omega) s hs
    · exact ihb _ many (by omega) s hs
  | alt a b iha ihb =>
    intro h many hm s hs
    simp only [sz] at hm
    rcases List.mem_append.1 hs with hs | hs
    · rcases List.mem_cons.1 hs with rfl | hs
      · exact zero_oneP (by simp) (fun _ => ⟨by simp; omega, by simp; omega⟩) (fun _ => ⟨by simp; omega, by simp; omega⟩) (by simp) (by simp) (by simp)
      · exact iha _ many (by omega) s hs
    · rcases List.mem_cons.1 hs with rfl | hs
      · exact zero_oneP (by simp) (fun _ => ⟨by simp; omega, by simp; omega⟩) (fun _ => ⟨by simp; omega, by simp; omega⟩) (by simp) (by simp) (by simp)
      · exact ihb _ many (by omega) s hs
  | star a iha =>
    intro h many hm s hs
    simp only [sz] at hm
    rcases List.mem_append.1 hs with hs | hs
    · rcases List.mem_cons.1 hs with rfl | hs
      · exact zero_oneP (by simp) (fun _ => ⟨by simp; omega, by simp; omega⟩) (fun _ => ⟨by simp; omega, by simp; omega⟩) (by simp) (by simp) (by simp)
      · exact iha _ many (by omega) s hs
    · obtain rfl := List.mem_singleton.1 hs
      exact zero_oneP (by simp) (fun _ => ⟨by simp; omega, by simp; omega⟩) (fun _ => ⟨by simp; omega, by simp; omega⟩) (by simp) (by simp) (by simp)
  | plus a iha =>
    intro h many hm s hs
    simp only [sz] at hm
    rcases List.mem_append.1 hs with hs | hs
    · exact iha _ many (by omega) s hs
    · obtain rfl := List.mem_singleton.1 hs
      exact zero_oneP (by simp) (fun _ => ⟨by simp, by simp; omega⟩) (fun _ => ⟨by simp; omega, by simp; omega⟩) (by simp) (by simp) (by simp)
  | opt a iha =>
    intro h many hm s hs
    simp only [sz] at hm
    rcases List.mem_cons.1 hs with rfl | hs
    · exact zero_oneP (by simp) (fun _ => ⟨by simp; omega, by simp; omega⟩) (fun _ => ⟨by simp; omega, by simp; omega⟩) (by simp) (by simp) (by simp)
    · exact iha _ many (by omega) s hs

theorem progL_ok (t : Rx) (ht : (flat t).length ≤ 60) : okP (progL t) := by
  have h1 := sz_le t
  refine ⟨by rw [progL_len]; omega, by rw [progL_len]; omega, fun s hs => ?_⟩
  rcases List.mem_append.1 hs with hs | hs
  · exact code_ok t 0 _ (by rw [progL_len]; omega) s hs
  · obtain rfl := List.mem_singleton.1 hs
    exact zero_oneP (by simp [doneS]) (by simp [doneS]) (by simp [doneS]) (by simp [doneS]) (by simp [doneS]) (by simp [doneS])

/-- What holds of all classes of a pattern holds of all classes of its program. -/
theorem code_cls (P : Cls → Prop) (hz : P zc) (t : Rx) : (∀ n ∈ flat t, P n.cls) → ∀ h, ∀ s ∈ code t h, P s.cls := by
  induction t with
  | byte c => intro hP h s hs; obtain rfl := List.mem_singleton.1 hs; exact hP ⟨1, c⟩ (by simp [flat])
  | bgn => intro hP h s hs; obtain rfl := List.mem_singleton.1 hs; exact hz
  | fin => intro hP h s hs; obtain rfl := List.mem_singleton.1 hs; exact hz
  | empty => intro hP h s hs; cases hs
  | cat a b iha ihb =>
    intro hP h s hs
    rcases List.mem_append.1 hs with hs | hs
    · exact iha (fun n hn => hP n (by simp [flat, hn])) _ s hs
    · exact ihb (fun n hn => hP n (by simp [flat, hn])) _ s hs
  | alt a b iha ihb =>
    intro hP h s hs
    rcases List.mem_append.1 hs with hs | hs
    · rcases List.mem_cons.1 hs with rfl | hs
      · exact hz
      · exact iha (fun n hn => hP n (by simp [flat, hn])) _ s hs
    · rcases List.mem_cons.1 hs with rfl | hs
      · exact hz
      · exact ihb (fun n hn => hP n (by simp [flat, hn])) _ s hs
  | star a iha =>
    intro hP h s hs
    rcases List.mem_append.1 hs with hs | hs
    · rcases List.mem_cons.1 hs with rfl | hs
      · exact hz
      · exact iha (fun n hn => hP n (by simp [flat, hn])) _ s hs
    · obtain rfl := List.mem_singleton.1 hs
      exact hz
  | plus a iha =>
    intro hP h s hs
    rcases List.mem_append.1 hs with hs | hs
    · exact iha (fun n hn => hP n (by simp [flat, hn])) _ s hs
    · obtain rfl := List.mem_singleton.1 hs
      exact hz
  | opt a iha =>
    intro hP h s hs
    rcases List.mem_cons.1 hs with rfl | hs
    · exact hz
    · exact iha (fun n hn => hP n (by simp [flat, hn])) _ s hs
theorem progL_cls (P : Cls → Prop) (hz : P zc) (t : Rx) (hP : ∀ n ∈ flat t, P n.cls) : ∀ s ∈ progL t, P s.cls := by
  intro s hs
  rcases List.mem_append.1 hs with hs | hs
  · exact code_cls P hz t hP 0 s hs
  · obtain rfl := List.mem_singleton.1 hs
    exact hz

/-! Steps of a run. -/
/-- One step of a run: of place and step. -/
def Tr (p : List St) (s : List UInt8) (i j i' j' : Nat) : Prop :=
  (i' = i ∧ Eps p (i == 0) (i == s.length) j j') ∨ (i' = i + 1 ∧ ∃ st b, p[j]? = some st ∧ st.op = 1 ∧ s[i]? = some b ∧ has st.cls b.toNat = true ∧ (j' : Int) = st.x)
inductive Way (p : List St) (s : List UInt8) : Nat → Nat → Nat → Nat → Nat → Prop where
  | refl (i j : Nat) : Way p s 0 i j i j
  | head {n i j i1 j1 i2 j2 : Nat} : Tr p s i j i1 j1 → Way p s n i1 j1 i2 j2 → Way p s (n + 1) i j i2 j2
theorem Way.trans {p : List St} {s : List UInt8} {n m i j i1 j1 i2 j2 : Nat} (h : Way p s n i j i1 j1) (h' : Way p s m i1 j1 i2 j2) : Way p s (n + m) i j i2 j2 := by
  induction h with
  | refl => simpa using h'
  | head ht _ ih => rw [Nat.add_right_comm]; exact .head ht (ih h')
theorem Way.one {p : List St} {s : List UInt8} {i j i1 j1 : Nat} (h : Tr p s i j i1 j1) : Way p s 1 i j i1 j1 := .head h (.refl _ _)
theorem way_of_eps {p : List St} {s : List UInt8} {i j k : Nat} (h : Star (Eps p (i == 0) (i == s.length)) j k) : ∃ n, Way p s n i j i k := by
  induction h with
  | refl => exact ⟨0, .refl _ _⟩
  | tail _ hr ih =>
    obtain ⟨n, h⟩ := ih
    exact ⟨n + 1, h.trans (.one (.inl ⟨rfl, hr⟩))⟩
theorem way_of_run {p : List St} {s : List UInt8} {f i j : Nat} (h : RunAt p s f i j) : ∃ n, Way p s n f 0 i j := by
  induction h with
  | start => exact ⟨0, .refl _ _⟩
  | step _ hs h1 h2 h3 h4 h5 ih =>
    obtain ⟨n, h⟩ := ih
    obtain ⟨m, h'⟩ := way_of_eps hs
    exact ⟨n + m + 1, (h.trans h').trans (.one (.inr ⟨rfl, _, _, h1, h2, h3, h4, h5⟩))⟩
theorem run_of_way {p : List St} {s : List UInt8} {n i0 j0 i j : Nat} (h : Way p s n i0 j0 i j) : ∀ {f : Nat}, (∃ k, RunAt p s f i0 k ∧ Star (Eps p (i0 == 0) (i0 == s.length)) k j0) → ∃ k, RunAt p s f i k ∧ Star (Eps p (i == 0) (i == s.length)) k j := by
  induction h with
  | refl => intro f h; exact h
  | head ht _ ih =>
    rintro f ⟨k, h1, h2⟩
    apply ih
    rcases ht with ⟨rfl, h⟩ | ⟨rfl, st, b, h3, h4, h5, h6, h7⟩
    · exact ⟨k, h1, .tail h2 h⟩
    · exact ⟨_, .step h1 h2 h3 h4 h5 h6 h7, .refl _⟩
/-- Ends of a run, by ways. -/
theorem ends_way {p : List St} {s : List UInt8} {f i : Nat} : EndsAt p s f i ↔ ∃ n k, Way p s n f 0 i k ∧ ∃ st, p[k]? = some st ∧ st.op = 5 := by
  constructor
  · rintro ⟨j, k, h1, h2, h3⟩
    obtain ⟨n, h⟩ := way_of_run h1
    obtain ⟨m, h'⟩ := way_of_eps h2
    exact ⟨n + m, k, h.trans h', h3⟩
  · rintro ⟨n, k, h, h3⟩
    obtain ⟨j, h1, h2⟩ := run_of_way h (f := f) ⟨0, .start, .refl _⟩
    exact ⟨j, k, h1, h2, h3⟩

/-- Some steps lie in a program from a number on. -/
def In (p : List St) (h : Nat) (l : List St) : Prop := ∀ k s, l[k]? = some s → p[h + k]? = some s
theorem In.left {p : List St} {h : Nat} {l r : List St} (hi : In p h (l ++ r)) : In p h l := fun k s hk => hi k s (by rw [List.getElem?_append_left (List.getElem?_eq_some_iff.1 hk).1]; exact hk)
theorem In.right {p : List St} {h : Nat} {l r : List St} (hi : In p h (l ++ r)) {n : Nat} (hn : n = h + l.length) : In p n r := fun k s hk => by
  subst hn
  rw [Nat.add_assoc]
  exact hi _ s (by rw [List.getElem?_append_right (by omega)]; simpa using hk)
theorem In.hd {p : List St} {h : Nat} {s : St} {l : List St} (hi : In p h (s :: l)) : p[h]? = some s := hi 0 s rfl
theorem In.tl {p : List St} {h : Nat} {s : St} {l : List St} (hi : In p h (s :: l)) : In p (h + 1) l := fun k s' hk => by
  have := hi (k + 1) s' (by simpa using hk)
  rwa [show h + 1 + k = h + (k + 1) by omega]

theorem tr_fork {p : List St} {s : List UInt8} {i j i' j' x y : Nat} {st : St} (hs : p[j]? = some st) (h2 : st.op = 2) (hx : st.x = (x : Int)) (hy : st.y = (y : Int)) : Tr p s i j i' j' ↔ i' = i ∧ (j' = x ∨ j' = y) := by
  unfold Tr Eps
  rw [hs]
  constructor
  · rintro (⟨h, st', h0, h1⟩ | ⟨h, st', b, h0, h1, _⟩)
    · cases h0
      refine ⟨h, ?_⟩
      rcases h1 with ⟨_, h1⟩ | ⟨h1, _⟩ | ⟨h1, _⟩
      · omega
      · omega
      · omega
    · cases h0; omega
  · rintro ⟨h, h1⟩
    exact .inl ⟨h, st, rfl, .inl ⟨h2, by omega⟩⟩
theorem tr_take {p : List St} {s : List UInt8} {i j i' j' x : Nat} {st : St} (hs : p[j]? = some st) (h1 : st.op = 1) (hx : st.x = (x : Int)) : Tr p s i j i' j' ↔ i' = i + 1 ∧ j' = x ∧ ∃ b, s[i]? = some b ∧ has st.cls b.toNat = true := by
  unfold Tr Eps
  rw [hs]
  constructor
  · rintro (⟨h, st', h0, h2⟩ | ⟨h, st', b, h0, _, h3, h4, h5⟩)
    · cases h0; omega
    · cases h0; exact ⟨h, by omega, b, h3, h4⟩
  · rintro ⟨h, h2, b, h3, h4⟩
    exact .inr ⟨h, st, b, rfl, h1, h3, h4, by omega⟩
theorem tr_first {p : List St} {s : List UInt8} {i j i' j' x : Nat} {st : St} (hs : p[j]? = some st) (h1 : st.op = 3) (hx : st.x = (x : Int)) : Tr p s i j i' j' ↔ i' = i ∧ j' = x ∧ i = 0 := by
  unfold Tr Eps
  rw [hs]
  constructor
  · rintro (⟨h, st', h0, h2⟩ | ⟨h, st', b, h0, h2, _⟩)
    · cases h0
      rcases h2 with ⟨h2, _⟩ | ⟨_, h2, h3⟩ | ⟨h2, _⟩
      · omega
      · exact ⟨h, by omega, by simpa using h2⟩
      · omega
    · cases h0; omega
  · rintro ⟨h, h2, h3⟩
    exact .inl ⟨h, st, rfl, .inr (.inl ⟨h1, by simpa using h3, by omega⟩)⟩
theorem tr_last {p : List St} {s : List UInt8} {i j i' j' x : Nat} {st : St} (hs : p[j]? = some st) (h1 : st.op = 4) (hx : st.x = (x : Int)) : Tr p s i j i' j' ↔ i' = i ∧ j' = x ∧ i = s.length := by
  unfold Tr Eps
  rw [hs]
  constructor
  · rintro (⟨h, st', h0, h2⟩ | ⟨h, st', b, h0, h2, _⟩)
    · cases h0
      rcases h2 with ⟨h2, _⟩ | ⟨h2, _⟩ | ⟨_, h2, h3⟩
      · omega
      · omega
      · exact ⟨h, by omega, by simpa using h2⟩
    · cases h0; omega
  · rintro ⟨h, h2, h3⟩
    exact .inl ⟨h, st, rfl, .inr (.inr ⟨h1, by simpa using h3, by omega⟩)⟩
theorem tr_done {p : List St} {s : List UInt8} {i j i' j' : Nat} {st : St} (hs : p[j]? = some st) (h1 : st.op = 5) : ¬ Tr p s i j i' j' := by
  unfold Tr Eps
  rw [hs]
  rintro (⟨h, st', h0, h2⟩ | ⟨h, st', b, h0, h2, _⟩)
  · cases h0; omega
  · cases h0; omega

theorem star_cases {R : Nat → Nat → Prop} {i j : Nat} (h : Star R i j) : j = i ∨ ∃ k, R i k ∧ Star R k j := by
  induction h with
  | refl => exact .inl rfl
  | tail h1 hr ih =>
    rcases ih with rfl | ⟨k, h2, h3⟩
    · exact .inr ⟨_, hr, .refl _⟩
    · exact .inr ⟨k, h2, .tail h3 hr⟩
/-- What a pattern fits its steps run. -/
theorem way_of_fits (p : List St) (s : List UInt8) (t : Rx) : ∀ (h : Nat), In p h (code t h) → ∀ i i', Fits s t i i' → ∃ n, Way p s n i h i' (h + sz t) := by
  have hstar : ∀ (a : Rx) (g : Nat) (E : Nat), (∀ i i', Fits s a i i' → ∃ n, Way p s n i g i' (g + sz a)) → (∀ i, Tr p s i (g + sz a) i g) → (∀ i, Tr p s i (g + sz a) i E) → ∀ i i1 i', Fits s a i i1 → Star (Fits s a) i1 i' → ∃ n, Way p s n i g i' (g + sz a) := by
    intro a g E iha hb he i i1 i' h1 h2
    obtain ⟨n, hn⟩ := iha _ _ h1
    clear h1
    induction h2 with
    | refl => exact ⟨n, hn⟩
    | tail _ hr ih =>
      obtain ⟨m, hm⟩ := ih
      obtain ⟨l, hl⟩ := iha _ _ hr
      exact ⟨m + (l + 1), hm.trans (.head (hb _) hl)⟩
  induction t with
  | byte c =>
    rintro h hin i i' ⟨rfl, b, hb, hh⟩
    exact ⟨1, .one ((tr_take hin.hd rfl rfl).2 ⟨rfl, rfl, b, hb, hh⟩)⟩
  | empty => intro h hin i i' hf; simp only [Fits] at hf; subst hf; exact ⟨0, .refl _ _⟩
  | bgn =>
    rintro h hin i i' ⟨rfl, h0⟩
    exact ⟨1, .one ((tr_first hin.hd rfl rfl).2 ⟨rfl, rfl, h0⟩)⟩
  | fin =>
    rintro h hin i i' ⟨rfl, h0⟩
    exact ⟨1, .one ((tr_last hin.hd rfl rfl).2 ⟨rfl, rfl, h0⟩)⟩
  | cat a b iha ihb =>
    rintro h hin i i' ⟨k, h1, h2⟩
    obtain ⟨n, hn⟩ := iha h hin.left _ _ h1
    obtain ⟨m, hm⟩ := ihb (h + sz a) (hin.right (by rw [code_len])) _ _ h2
    exact ⟨n + m, by simp only [sz, ← Nat.add_assoc]; exact hn.trans hm⟩
  | alt a b iha ihb =>
    rintro h hin i i' (hf | hf)
    · obtain ⟨n, hn⟩ := iha (h + 1) hin.left.tl _ _ hf
      refine ⟨(n + 1) + 1, .head ((tr_fork hin.left.hd rfl rfl rfl).2 ⟨rfl, .inl rfl⟩) (hn.trans (.one ?_))⟩
      refine (tr_fork (hin.right (n := h + 1 + sz a) (by simp [code_len]; omega)).hd rfl rfl rfl).2 ⟨rfl, .inl (by simp only [sz]; omega)⟩
    · obtain ⟨n, hn⟩ := ihb (h + 1 + sz a + 1) (hin.right (n := h + 1 + sz a) (by simp [code_len]; omega)).tl _ _ hf
      refine ⟨n + 1, .head ((tr_fork hin.left.hd rfl rfl rfl).2 ⟨rfl, .inr rfl⟩) ?_⟩
      rw [show h + sz (.alt a b) = h + 1 + sz a + 1 + sz b by simp only [sz]; omega]
      exact hn
  | star a iha =>
    intro h hin i i' hf
    have hfork := (hin.right (n := h + 1 + sz a) (by simp [code_len]; omega)).hd
    have hE : h + sz (.star a) = h + 1 + sz a + 1 := by simp only [sz]; omega
    rw [hE]
    rcases star_cases hf with rfl | ⟨k, h1, h2⟩
    · exact ⟨1, .one ((tr_fork hin.left.hd rfl rfl rfl).2 ⟨rfl, .inr rfl⟩)⟩
    · obtain ⟨n, hn⟩ := hstar a (h + 1) (h + 1 + sz a + 1) (iha (h + 1) hin.left.tl) (fun i => (tr_fork hfork rfl rfl rfl).2 ⟨rfl, .inl rfl⟩) (fun i => (tr_fork hfork rfl rfl rfl).2 ⟨rfl, .inr rfl⟩) _ _ _ h1 h2
      exact ⟨(n + 1) + 1, .head ((tr_fork hin.left.hd rfl rfl rfl).2 ⟨rfl, .inl rfl⟩) (hn.trans (.one ((tr_fork hfork rfl rfl rfl).2 ⟨rfl, .inr rfl⟩)))⟩
  | plus a iha =>
    rintro h hin i i' ⟨k, h1, h2⟩
    have hfork := (hin.right (n := h + sz a) (by simp [code_len])).hd
    have hE : h + sz (.plus a) = h + sz a + 1 := by simp only [sz]; omega
    rw [hE]
    obtain ⟨n, hn⟩ := hstar a h (h + sz a + 1) (iha h hin.left) (fun i => (tr_fork hfork rfl rfl rfl).2 ⟨rfl, .inl rfl⟩) (fun i => (tr_fork hfork rfl rfl rfl).2 ⟨rfl, .inr rfl⟩) _ _ _ h1 h2
    exact ⟨n + 1, hn.trans (.one ((tr_fork hfork rfl rfl rfl).2 ⟨rfl, .inr rfl⟩))⟩
  | opt a iha =>
    intro h hin i i' hf
    have hE : h + sz (.opt a) = h + 1 + sz a := by simp only [sz]; omega
    rw [hE]
    rcases hf with rfl | hf
    · exact ⟨1, .one ((tr_fork hin.hd rfl rfl rfl).2 ⟨rfl, .inr rfl⟩)⟩
    · obtain ⟨n, hn⟩ := iha (h + 1) hin.tl _ _ hf
      exact ⟨n + 1, .head ((tr_fork hin.hd rfl rfl rfl).2 ⟨rfl, .inl rfl⟩) hn⟩

theorem Way.cut {p : List St} {s : List UInt8} {n i j i' j' : Nat} (h : Way p s n i j i' j') (hne : j' ≠ j) : ∃ m i1 j1, n = m + 1 ∧ Tr p s i j i1 j1 ∧ Way p s m i1 j1 i' j' := by
  cases h with
  | refl => exact absurd rfl hne
  | head h1 h2 => exact ⟨_, _, _, rfl, h1, h2⟩

/-- What goes through a pattern's steps, and out, has fitted. -/
theorem fits_of_way (p : List St) (s : List UInt8) (t : Rx) : ∀ (h : Nat), In p h (code t h) → ∀ n i i' k, Way p s n i h i' k → (k < h ∨ h + sz t ≤ k) → ∃ i1 m, m ≤ n ∧ Fits s t i i1 ∧ Way p s m i1 (h + sz t) i' k := by
  have hloop : ∀ (a : Rx) (g : Nat), (∀ n i i' k, Way p s n i g i' k → (k < g ∨ g + sz a ≤ k) → ∃ i1 m, m ≤ n ∧ Fits s a i i1 ∧ Way p s m i1 (g + sz a) i' k) →
      (∀ i i' j', Tr p s i (g + sz a) i' j' ↔ i' = i ∧ (j' = g ∨ j' = g + sz a + 1)) → ∀ n i i' k, Way p s n i g i' k → (k < g ∨ g + sz a + 1 ≤ k) → ∃ i1 i2 m, m ≤ n ∧ Fits s a i i1 ∧ Star (Fits s a) i1 i2 ∧ Way p s m i2 (g + sz a + 1) i' k := by
    intro a g iha hfork n
    induction n using Nat.strongRecOn with
    | _ n ih =>
      intro i i' k hw hk
      obtain ⟨i1, m, hm, hf, hw1⟩ := iha n i i' k hw (by omega)
      obtain ⟨m', i2, j2, rfl, htr, hw2⟩ := hw1.cut (by omega)
      obtain ⟨rfl, rfl | rfl⟩ := (hfork _ _ _).1 htr
      · obtain ⟨i3, i4, m3, h1, h2, h3, h4⟩ := ih m' (by omega) _ _ _ hw2 hk
        exact ⟨i2, i4, m3, by omega, hf, Star.head h2 h3, h4⟩
      · exact ⟨i2, i2, m', by omega, hf, .refl _, hw2⟩
  induction t with
  | byte c =>
    intro h hin n i i' k hw hk
    simp only [sz] at hk ⊢
    obtain ⟨m, i1, j1, rfl, htr, hw1⟩ := hw.cut (by omega)
    obtain ⟨rfl, rfl, b, hb, hh⟩ := (tr_take hin.hd rfl rfl).1 htr
    exact ⟨_, m, by omega, ⟨rfl, b, hb, hh⟩, hw1⟩
  | empty => intro h hin n i i' k hw hk; exact ⟨i, n, Nat.le_refl _, rfl, hw⟩
  | bgn =>
    intro h hin n i i' k hw hk
    simp only [sz] at hk ⊢
    obtain ⟨m, i1, j1, rfl, htr, hw1⟩ := hw.cut (by omega)
    obtain ⟨rfl, rfl, h0⟩ := (tr_first hin.hd rfl rfl).1 htr
    exact ⟨_, m, by omega, ⟨rfl, h0⟩, hw1⟩
  | fin =>
    intro h hin n i i' k hw hk
    simp only [sz] at hk ⊢
    obtain ⟨m, i1, j1, rfl, htr, hw1⟩ := hw.cut (by omega)
    obtain ⟨rfl, rfl, h0⟩ := (tr_last hin.hd rfl rfl).1 htr
    exact ⟨_, m, by omega, ⟨rfl, h0⟩, hw1⟩
  | cat a b iha ihb =>
    intro h hin n i i' k hw hk
    simp only [sz] at hk ⊢
    obtain ⟨i1, m1, hm1, hf1, hw1⟩ := iha h hin.left n i i' k hw (by omega)
    obtain ⟨i2, m2, hm2, hf2, hw2⟩ := ihb (h + sz a) (hin.right (by rw [code_len])) m1 i1 i' k hw1 (by omega)
    exact ⟨i2, m2, by omega, ⟨i1, hf1, hf2⟩, by rw [← Nat.add_assoc]; exact hw2⟩
  | alt a b iha ihb =>
    intro h hin n i i' k hw hk
    have hE : h + sz (.alt a b) = h + 1 + sz a + 1 + sz b := by simp only [sz]; omega
    rw [hE] at hk ⊢
    obtain ⟨m, i1, j1, rfl, htr, hw1⟩ := hw.cut (by omega)
    have hjump := (hin.right (n := h + 1 + sz a) (by simp [code_len]; omega))
    obtain ⟨rfl, rfl | rfl⟩ := (tr_fork hin.left.hd rfl rfl rfl).1 htr
    · obtain ⟨i2, m2, hm2, hf2, hw2⟩ := iha (h + 1) hin.left.tl m _ i' k hw1 (by omega)
      obtain ⟨m3, i3, j3, rfl, htr3, hw3⟩ := hw2.cut (by omega)
      obtain ⟨rfl, hj⟩ := (tr_fork hjump.hd rfl rfl rfl).1 htr3
      obtain rfl : j3 = h + 1 + sz a + 1 + sz b := by omega
      exact ⟨_, m3, by omega, .inl hf2, hw3⟩
    · obtain ⟨i2, m2, hm2, hf2, hw2⟩ := ihb (h + 1 + sz a + 1) hjump.tl m _ i' k hw1 (by omega)
      exact ⟨i2, m2, by omega, .inr hf2, hw2⟩
  | star a iha =>
    intro h hin n i i' k hw hk
    have hE : h + sz (.star a) = h + 1 + sz a + 1 := by simp only [sz]; omega
    rw [hE] at hk ⊢
    have hfork := (hin.right (n := h + 1 + sz a) (by simp [code_len]; omega)).hd
    obtain ⟨m, i1, j1, rfl, htr, hw1⟩ := hw.cut (by omega)
    obtain ⟨rfl, rfl | rfl⟩ := (tr_fork hin.left.hd rfl rfl rfl).1 htr
    · obtain ⟨i2, i3, m2, hm2, hf2, hf3, hw2⟩ := hloop a (h + 1) (iha (h + 1) hin.left.tl) (fun _ _ _ => tr_fork hfork rfl rfl rfl) m _ i' k hw1 (by omega)
      exact ⟨i3, m2, by omega, Star.head hf2 hf3, hw2⟩
    · exact ⟨_, m, by omega, Star.refl _, hw1⟩
  | plus a iha =>
    intro h hin n i i' k hw hk
    have hE : h + sz (.plus a) = h + sz a + 1 := by simp only [sz]; omega
    rw [hE] at hk ⊢
    have hfork := (hin.right (n := h + sz a) (by simp [code_len])).hd
    obtain ⟨i2, i3, m2, hm2, hf2, hf3, hw2⟩ := hloop a h (iha h hin.left) (fun _ _ _ => tr_fork hfork rfl rfl rfl) n _ i' k hw (by omega)
    exact ⟨i3, m2, by omega, ⟨i2, hf2, hf3⟩, hw2⟩
  | opt a iha =>
    intro h hin n i i' k hw hk
    have hE : h + sz (.opt a) = h + 1 + sz a := by simp only [sz]; omega
    rw [hE] at hk ⊢
    obtain ⟨m, i1, j1, rfl, htr, hw1⟩ := hw.cut (by omega)
    obtain ⟨rfl, rfl | rfl⟩ := (tr_fork hin.hd rfl rfl rfl).1 htr
    · obtain ⟨i2, m2, hm2, hf2, hw2⟩ := iha (h + 1) hin.tl m _ i' k hw1 (by omega)
      exact ⟨i2, m2, by omega, .inr hf2, hw2⟩
    · exact ⟨_, m, by omega, .inl rfl, hw1⟩

theorem code_nodone (t : Rx) : ∀ h, ∀ s ∈ code t h, s.op ≠ 5 := by
  induction t with
  | byte c => intro h s hs; obtain rfl := List.mem_singleton.1 hs; simp
  | bgn => intro h s hs; obtain rfl := List.mem_singleton.1 hs; simp
  | fin => intro h s hs; obtain rfl := List.mem_singleton.1 hs; simp
  | empty => intro h s hs; cases hs
  | cat a b iha ihb =>
    intro h s hs
    rcases List.mem_append.1 hs with hs | hs
    · exact iha _ s hs
    · exact ihb _ s hs
  | alt a b iha ihb =>
    intro h s hs
    rcases List.mem_append.1 hs with hs | hs
    · rcases List.mem_cons.1 hs with rfl | hs
      · simp
      · exact iha _ s hs
    · rcases List.mem_cons.1 hs with rfl | hs
      · simp
      · exact ihb _ s hs
  | star a iha =>
    intro h s hs
    rcases List.mem_append.1 hs with hs | hs
    · rcases List.mem_cons.1 hs with rfl | hs
      · simp
      · exact iha _ s hs
    · obtain rfl := List.mem_singleton.1 hs; simp
  | plus a iha =>
    intro h s hs
    rcases List.mem_append.1 hs with hs | hs
    · exact iha _ s hs
    · obtain rfl := List.mem_singleton.1 hs; simp
  | opt a iha =>
    intro h s hs
    rcases List.mem_cons.1 hs with rfl | hs
    · simp
    · exact iha _ s hs

/-- The ends of a pattern's program are the pattern's. -/
theorem ends_fits (t : Rx) (s : List UInt8) (f i : Nat) : EndsAt (progL t) s f i ↔ Fits s t f i := by
  have hin : In (progL t) 0 (code t 0) := fun k st hk => by
    rw [Nat.zero_add]
    unfold progL
    rw [List.getElem?_append_left (List.getElem?_eq_some_iff.1 hk).1]
    exact hk
  have hlast : (progL t)[0 + sz t]? = some doneS := by
    unfold progL
    rw [List.getElem?_append_right (by rw [code_len]; omega)]
    simp [code_len]
  rw [ends_way]
  constructor
  · rintro ⟨n, k, hw, st, hst, h5⟩
    have hk : sz t ≤ k := by
      refine Classical.byContradiction fun hlt => ?_
      unfold progL at hst
      rw [List.getElem?_append_left (by rw [code_len]; omega)] at hst
      exact code_nodone t 0 st (List.mem_of_getElem? hst) h5
    obtain ⟨i1, m, _, hf, hw1⟩ := fits_of_way _ s t 0 hin n f i k hw (by omega)
    cases hw1 with
    | refl => exact hf
    | head htr _ => exact absurd htr (tr_done hlast rfl)
  · intro hf
    obtain ⟨n, hn⟩ := way_of_fits _ s t 0 hin f i hf
    exact ⟨n, _, hn, doneS, hlast, rfl⟩

end Wf

/-
  Walks of prog's maker: emit, next.
-/
namespace Go.Proofs.YthcahjnniendnabDoor
open Go.RowKit Wf

theorem info_step : (Tryd.prog.info? 77).map (fun i => (i.zero, i.size, i.bytes)) = some (some (.agg #[.int .i64 0, .int .u64 0, .int .u64 0, .int .u64 0, .int .u64 0, .int .i64 0, .int .i64 0]), 7, 56) := by kernel_rfl

/-- All blocks but the maker's own and blocks of steps are as they were. -/
structure Fm (M : Nat) (w w' : World) : Prop where
  size : w.heap.size ≤ w'.heap.size
  kept : ∀ k cs t fr, w.heap[k]? = some (.cells cs t fr) → t ≠ 77 → k ≠ M → w'.heap[k]? = w.heap[k]?
theorem Fm.refl (M : Nat) (w : World) : Fm M w w := ⟨Nat.le_refl _, fun _ _ _ _ _ _ _ => rfl⟩
theorem Fm.trans {M : Nat} {a b c : World} (h : Fm M a b) (k : Fm M b c) : Fm M a c :=
  ⟨Nat.le_trans h.size k.size, fun i cs t fr hi ht hM => by
    have := h.kept i cs t fr hi ht hM
    rw [k.kept i cs t fr (this.trans hi) ht hM, this]⟩
theorem Fm.below {M : Nat} {w w' : World} (h : Below w.heap.size w w') : Fm M w w' := ⟨h.size, fun k cs t fr hk _ _ => h.block k (Array.getElem?_eq_some_iff.1 hk).1⟩
theorem Fm.setM (M : Nat) (w : World) (j : Nat) (v : Value) : Fm M w (w.setCell ⟨M, j, none⟩ v) :=
  ⟨by simp, fun k cs t fr _ _ hM => Below.heap_setCell _ _ _ k (fun e => hM (by rw [e]))⟩
theorem Fm.grown {M base n : Nat} {w w' : World} {v : Value} {xs : List Value} (ho : w.ownsRow base 77 7 v n xs) (hg : w.grownBy w' v.ownBlock) : Fm M w w' :=
  ⟨hg.size, fun k cs t fr hk ht _ => hg.block k (Array.getElem?_eq_some_iff.1 hk).1 (fun e => by
    rcases ho.2 with ⟨rfl, _⟩ | ⟨g, cap, cur, rfl, _, hh, _⟩
    · simp [Value.ownBlock] at e
    · obtain rfl : k = g := by simpa [Value.ownBlock] using e
      rw [hk] at hh; cases hh; exact ht rfl)⟩
theorem Blk.fm {M : Nat} {w w' : World} {k : Nat} {t : TypeId} {cs : Array Value} (h : Blk w k t cs) (hf : Fm M w w') (ht : t ≠ 77) (hM : k ≠ M) : Blk w' k t cs := (hf.kept k cs t _ h ht hM).trans h

/-- A maker: it stands at node i, and has made the steps S. -/
structure MEnv (w0 : World) (b off ln cap M : Nat) (i : Nat) (S : List St) (v : Value) (w : World) : Prop where
  mb : Blk w M 135 #[.slice (some ⟨b, off, none⟩) ln cap, .int .i64 (i : Int), v]
  own : w.ownsRow (M + 1) 77 7 v S.length (S.flatMap stCells)
  bel : Below w0.heap.size w0 w
  base : w0.heap.size ≤ M
section
variable {w0 : World} {b off ln cap M i : Nat} {S : List St} {v : Value} {w w' : World}
theorem MEnv.below (h : MEnv w0 b off ln cap M i S v w) (hb : Below w.heap.size w w') : MEnv w0 b off ln cap M i S v w' :=
  ⟨h.mb.kept hb, h.own.kept (row := none) ⟨hb.os, hb.tape, hb.output, hb.size, fun q hq _ => hb.block q hq⟩ (by cases v.ownBlock <;> simp), h.bel.trans (hb.mono h.bel.size), h.base⟩
theorem MEnv.alloc (h : MEnv w0 b off ln cap M i S v w) (o : Obj) : MEnv w0 b off ln cap M i S v (w.alloc o) := h.below ((Below.refl _ _).alloc (Nat.le_refl _) _)
theorem MEnv.cast {i' : Nat} {S' : List St} (h : MEnv w0 b off ln cap M i S v w) (hi : i = i') (hS : S = S') : MEnv w0 b off ln cap M i' S' v w := by subst hi; subst hS; exact h
theorem MEnv.drew (h : MEnv w0 b off ln cap M i S v w) : MEnv w0 b off ln cap M i S v w.drew := h.below (Below.refl _ _).drew
theorem MEnv.at_ (h : MEnv w0 b off ln cap M i S v w) (i' : Nat) (x : Int) (hx : x = (i' : Int)) : MEnv w0 b off ln cap M i' S v (w.setCell ⟨M, 1, none⟩ (.int .i64 x)) := by
  subst hx
  refine ⟨?_, ?_, h.bel.setCell h.base _, h.base⟩
  · have := h.mb.set_ 1 (.int .i64 (i' : Int))
    simpa using this
  · exact ownsRow_setCell_below h.own (Nat.lt_succ_self _) _
theorem MEnv.take (h : MEnv w0 b off ln cap M i S v w) {s : St} {v' : Value} (hown' : w'.ownsRow (M + 1) 77 7 v' (S.length + 1) (S.flatMap stCells ++ stCells s)) (hg : w.grownBy w' v.ownBlock) :
    w'.cell? ⟨M, 2, none⟩ = some v ∧ w'.frozen? ⟨M, 2, none⟩ = false ∧ MEnv w0 b off ln cap M i (S ++ [s]) v' (w'.setCell ⟨M, 2, none⟩ v') := by
  have hlt := fun q hq => h.own.lt q hq
  have hmk : Blk w' M 135 #[.slice (some ⟨b, off, none⟩) ln cap, .int .i64 (i : Int), v] := (hg.block M h.mb.lt (fun e => by have := (hlt M e.symm).1; omega)).trans h.mb
  refine ⟨hmk.cell 2, hmk.frozen 2, ?_, ?_, ?_, h.base⟩
  · have := hmk.set_ 2 v'
    simpa using this
  · have := ownsRow_setCell_below hown' (a := ⟨M, 2, none⟩) (Nat.lt_succ_self _) v'
    simpa using this
  · have hb : Below w0.heap.size w0 w' := ⟨hg.os.trans h.bel.os, hg.tape.trans h.bel.tape, hg.output.trans h.bel.output, Nat.le_trans h.bel.size hg.size, fun k hk =>
      (hg.block k (Nat.lt_of_lt_of_le hk h.bel.size) (fun e => by have := (hlt k e.symm).1; have := h.base; omega)).trans (h.bel.block k hk)⟩
    exact hb.setCell h.base _
end

theorem set_mid (S C : List St) (x y : St) : (S ++ [x] ++ C).set S.length y = S ++ [y] ++ C := by
  rw [List.append_assoc, List.set_append_right _ _ (Nat.le_refl _)]
  simp
theorem flat_setX : ∀ (S : List St) (k : Nat) (op : Int) (c : Cls) (x y x' : Int), S[k]? = some ⟨op, c, x, y⟩ → (S.flatMap stCells).set (k * 7 + 5) (.int .i64 x') = (S.set k ⟨op, c, x', y⟩).flatMap stCells := by
  intro S
  induction S with
  | nil => intro k op c x y x' h; simp at h
  | cons a r ih =>
    intro k op c x y x' h
    rcases k with _ | k
    · simp at h
      subst h
      simp [stCells]
    · simp only [List.flatMap_cons, List.set_cons_succ]
      rw [← ih k op c x y x' (by simpa using h)]
      rw [List.set_append_right _ _ (by simp [stCells]; omega)]
      congr 1
      have e : (k + 1) * 7 + 5 - (stCells a).length = k * 7 + 5 := by simp [stCells]; omega
      rw [e]
theorem flat_setY : ∀ (S : List St) (k : Nat) (op : Int) (c : Cls) (x y y' : Int), S[k]? = some ⟨op, c, x, y⟩ → (S.flatMap stCells).set (k * 7 + 6) (.int .i64 y') = (S.set k ⟨op, c, x, y'⟩).flatMap stCells := by
  intro S
  induction S with
  | nil => intro k op c x y y' h; simp at h
  | cons a r ih =>
    intro k op c x y y' h
    rcases k with _ | k
    · simp at h
      subst h
      simp [stCells]
    · simp only [List.flatMap_cons, List.set_cons_succ]
      rw [← ih k op c x y y' (by simpa using h)]
      rw [List.set_append_right _ _ (by simp [stCells]; omega)]
      congr 1
      have e : (k + 1) * 7 + 6 - (stCells a).length = k * 7 + 6 := by simp [stCells]; omega
      rw [e]

theorem own_set {w : World} {base size n g cap : Nat} {e : TypeId} {xs : List Value} (h : w.ownsRow base e size (.slice (some ⟨g, 0, none⟩) n cap) n xs) (j : Nat) (u : Value) :
    (w.setCell ⟨g, j, none⟩ u).ownsRow base e size (.slice (some ⟨g, 0, none⟩) n cap) n (xs.set j u) := by
  refine ⟨by rw [List.length_set]; exact h.1, ?_⟩
  rcases h.2 with ⟨h0, _⟩ | ⟨g', cap', cur, hv, h1, h2, h3, h4, h5, h6⟩
  · cases h0
  · injection hv with e1 e2 e3
    injection e1 with e1
    injection e1 with e1
    subst e1
    subst e3
    refine .inr ⟨g, cap, cur.setIfInBounds j u, rfl, h1, (show Blk w g e cur from h2).set_ j u, h3, h4, by rw [Array.size_setIfInBounds]; exact h5, ?_⟩
    rw [Array.toList_setIfInBounds, ← h6, List.take_set]

section
variable {w0 : World} {b off ln cap M i : Nat} {S : List St} {v : Value} {w w' : World}
theorem MEnv.form (h : MEnv w0 b off ln cap M i S v w) (hS : 0 < S.length) : ∃ g c, v = .slice (some ⟨g, 0, none⟩) S.length c := by
  rcases h.own.2 with ⟨_, h0⟩ | ⟨g, c, cur, hv, _⟩
  · omega
  · exact ⟨g, c, hv⟩
theorem MEnv.step {g c : Nat} (h : MEnv w0 b off ln cap M i S (.slice (some ⟨g, 0, none⟩) S.length c) w) : M < g ∧ g < w.heap.size ∧ S.length ≤ c ∧ c ≤ 9223372036854775807 ∧ (∀ j, w.frozen? ⟨g, j, none⟩ = false) ∧
    ∀ k s, S[k]? = some s → w.cell? ⟨g, k * 7 + 5, none⟩ = some (.int .i64 s.x) ∧ w.cell? ⟨g, k * 7 + 6, none⟩ = some (.int .i64 s.y) := by
  rcases h.own.2 with ⟨h0, _⟩ | ⟨g', c', cur, hv, h1, h2, h3, h4, h5, h6⟩
  · cases h0
  · injection hv with e1 e2 e3
    injection e1 with e1
    injection e1 with e1
    subst e1
    subst e3
    have hb : Blk w g 77 cur := h2
    refine ⟨h1, hb.lt, h3, by unfold maxLen at h4; omega, fun j => hb.frozen j, fun k s hk => ?_⟩
    have hkl := (List.getElem?_eq_some_iff.1 hk).1
    have key : ∀ j, j < 7 → cur[k * 7 + j]? = (stCells s)[j]? := fun j hj => by
      rw [← stFlat_get S k j s hk hj, ← h6, List.getElem?_take, if_pos (by omega), Array.getElem?_toList]
    rw [hb.cell, hb.cell, key 5 (by omega), key 6 (by omega)]
    exact ⟨rfl, rfl⟩
theorem MEnv.setCell_ {g c : Nat} {S' : List St} (h : MEnv w0 b off ln cap M i S (.slice (some ⟨g, 0, none⟩) S.length c) w) (j : Nat) (u : Value) (hl : S'.length = S.length) (he : (S.flatMap stCells).set j u = S'.flatMap stCells) :
    MEnv w0 b off ln cap M i S' (.slice (some ⟨g, 0, none⟩) S.length c) (w.setCell ⟨g, j, none⟩ u) := by
  have hg := h.step.1
  refine ⟨h.mb.far (by simp; omega) u, ?_, h.bel.setCell (by show w0.heap.size ≤ g; have := h.base; omega) u, h.base⟩
  rw [← he, hl]
  exact own_set h.own j u
theorem MEnv.setY {g c k : Nat} {op x y : Int} {cl : Cls} (h : MEnv w0 b off ln cap M i S (.slice (some ⟨g, 0, none⟩) S.length c) w) (hk : S[k]? = some ⟨op, cl, x, y⟩) (y' : Int) :
    MEnv w0 b off ln cap M i (S.set k ⟨op, cl, x, y'⟩) (.slice (some ⟨g, 0, none⟩) S.length c) (w.setCell ⟨g, k * 7 + 6, none⟩ (.int .i64 y')) :=
  h.setCell_ _ _ (by simp) (flat_setY S k op cl x y y' hk)
theorem MEnv.setXY {g c k : Nat} {op x y : Int} {cl : Cls} (h : MEnv w0 b off ln cap M i S (.slice (some ⟨g, 0, none⟩) S.length c) w) (hk : S[k]? = some ⟨op, cl, x, y⟩) (x' y' : Int) :
    MEnv w0 b off ln cap M i (S.set k ⟨op, cl, x', y'⟩) (.slice (some ⟨g, 0, none⟩) S.length c) ((w.setCell ⟨g, k * 7 + 5, none⟩ (.int .i64 x')).setCell ⟨g, k * 7 + 6, none⟩ (.int .i64 y')) := by
  have h1 := h.setCell_ (S' := S.set k ⟨op, cl, x', y⟩) _ _ (by simp) (flat_setX S k op cl x y x' hk)
  rw [show S.length = (S.set k ⟨op, cl, x', y⟩).length by simp] at h1 ⊢
  have hkl := (List.getElem?_eq_some_iff.1 hk).1
  have h2 := h1.setY (k := k) (op := op) (cl := cl) (x := x') (y := y) (by simp [hkl]) y'
  rw [List.set_set] at h2
  exact h2
theorem Fm.row {M g : Nat} {w : World} (hb : ∃ cur, Blk w g 77 cur) (j : Nat) (u : Value) : Fm M w (w.setCell ⟨g, j, none⟩ u) :=
  ⟨by simp, fun k cs t fr hk ht _ => Below.heap_setCell _ _ _ k (fun e => by
    obtain ⟨cur, hc⟩ := hb
    have e2 : k = g := e
    subst e2
    rw [show w.heap[k]? = _ from hc] at hk
    cases hk
    exact ht rfl)⟩
theorem MEnv.row {g c : Nat} (h : MEnv w0 b off ln cap M i S (.slice (some ⟨g, 0, none⟩) S.length c) w) : ∃ cur, Blk w g 77 cur := by
  rcases h.own.2 with ⟨h0, _⟩ | ⟨g', c', cur, hv, h1, h2, h3, h4, h5, h6⟩
  · cases h0
  · injection hv with e1 e2 e3
    injection e1 with e1
    injection e1 with e1
    subst e1
    exact ⟨cur, h2⟩
end

def EmitIs (w0 : World) (b off ln cap M i : Nat) (S : List St) (s : St) (w : World) (e : Ending) (w' : World) : Prop :=
  e = .returned (.int .i64 (S.length : Int)) ∧ ∃ v', MEnv w0 b off ln cap M i (S ++ [s]) v' w' ∧ Fm M w w'

theorem next_any (w0 : World) (b off ln cap M i : Nat) (S : List St) (v : Value) (w : World) (h : MEnv w0 b off ln cap M i S v w) :
    Calls Tryd.prog 99 #[.pointer (some ⟨M, 0, none⟩)] w (fun e w' => e = .returned (.int .i64 (S.length : Int)) ∧ w = w') := by
  have c2 := h.mb.cell 2
  obtain ⟨VA, vn, vcap, rfl, _, _, hvl, _⟩ := Rd.of_own h.own
  obtain rfl : vn = S.length := by rw [stFlat_len] at hvl; omega
  simp only [List.getElem?_toArray, List.getElem?_cons_succ, List.getElem?_cons_zero] at c2
  clear h hvl
  go_enter Tryd.func99, Tryd.ntmps99
  go_wp2
  go_ret
  exact ⟨rfl, rfl⟩

theorem step_news (W : World) (g : Nat) (hg : W.heap.size = g) (op x y : Int) (k0 k1 k2 k3 : Nat) : ∀ (j : Nat) (u : Value), (stCells ⟨op, (k0, k1, k2, k3), x, y⟩)[j]? = some u →
    (W.alloc (.cells #[.int .i64 op, .int .u64 (k0 : Int), .int .u64 (k1 : Int), .int .u64 (k2 : Int), .int .u64 (k3 : Int), .int .i64 x, .int .i64 y] 77)).cell? ((⟨g, 0, none⟩ : Addr).add j) = some u := by
  intro j u hu
  subst hg
  rw [add_mk, Nat.zero_add, (Blk.new W _ _).cell]
  simpa [stCells] using hu
theorem stCells_one (s : St) : ∀ u ∈ stCells s, u.oneCell' = true := by
  intro u hu
  simp only [stCells, List.mem_cons, List.not_mem_nil, or_false] at hu
  rcases hu with rfl | rfl | rfl | rfl | rfl | rfl | rfl <;> rfl

set_option maxRecDepth 100000 in
set_option maxHeartbeats 8000000 in
theorem emit_any (w0 : World) (b off ln cap M i : Nat) (S : List St) (v : Value) (op x y : Int) (k0 k1 k2 k3 : Nat) (w : World) (hS : S.length ≤ 1000) (h : MEnv w0 b off ln cap M i S v w) :
    Calls Tryd.prog 78 #[.pointer (some ⟨M, 0, none⟩), .agg #[.int .i64 op, .int .u64 (k0 : Int), .int .u64 (k1 : Int), .int .u64 (k2 : Int), .int .u64 (k3 : Int), .int .i64 x, .int .i64 y]] w (EmitIs w0 b off ln cap M i S ⟨op, (k0, k1, k2, k3), x, y⟩ w) := by
  obtain ⟨i0, hi0, hz0, hz1, hz2⟩ := info_parts info_step
  have H := Lib.hid (h.alloc (.cells #[.int .i64 op, .int .u64 (k0 : Int), .int .u64 (k1 : Int), .int .u64 (k2 : Int), .int .u64 (k3 : Int), .int .i64 x, .int .i64 y] 77))
  have HSB := Lib.hid (Blk.new w 77 #[.int .i64 op, .int .u64 (k0 : Int), .int .u64 (k1 : Int), .int .u64 (k2 : Int), .int .u64 (k3 : Int), .int .i64 x, .int .i64 y])
  have hM := h.mb.lt
  clear h
  go_enter Tryd.func78, Tryd.ntmps78
  go_wp2_with fail
  have c2a : (w.alloc (.cells #[.int .i64 op, .int .u64 (k0 : Int), .int .u64 (k1 : Int), .int .u64 (k2 : Int), .int .u64 (k3 : Int), .int .i64 x, .int .i64 y] 77)).cell? ⟨M, 2, none⟩ = some v := H.out.mb.cell 2
  have c2b := fun o => (H.out.drew.alloc o).mb.cell 2
  simp only [List.getElem?_toArray, List.getElem?_cons_succ, List.getElem?_cons_zero] at c2b
  go_region_law (refine step_append_lies _ rfl (.tmp 9) (.tmp 11) 72 rfl (M + 1) 77 i0 _ 7 56 Tryd.underlying72 hi0 hz0 hz1 hz2 rfl (by decide) v S.length (S.flatMap stCells) ?a1 (H.out.drew.alloc _).own ⟨w.heap.size + 1, 0, none⟩ 1 1 (stCells ⟨op, (k0, k1, k2, k3), x, y⟩) ?a2 rfl (step_news _ _ ?a3 _ _ _ _ _ _ _) (stCells_one _) ?a4 ?a5 ?a6 ?a7 _ rfl ?_; (case a1 => simp [Act.eval, Act.put]); (case a2 => simp [Act.eval, Act.put]); (case a3 => simp); (case a4 => omega); (case a5 => unfold maxLen; omega); (case a6 => omega); (case a7 => simp; omega); intro g cp w1 hown hg hat hlt; obtain ⟨e2, f2, henv⟩ := (H.out.alloc (.cells #[.int .i64 op, .int .u64 (k0 : Int), .int .u64 (k1 : Int), .int .u64 (k2 : Int), .int .u64 (k3 : Int), .int .i64 x, .int .i64 y] 77)).drew.take hown hg; have hfm := ((Fm.below (M := M) ((((Below.refl _ w).alloc (Nat.le_refl _) _).alloc (by simp) _).drew)).trans (Fm.grown (H.out.alloc (.cells #[.int .i64 op, .int .u64 (k0 : Int), .int .u64 (k1 : Int), .int .u64 (k2 : Int), .int .u64 (k3 : Int), .int .i64 x, .int .i64 y] 77)).drew.own hg)).trans (Fm.setM M w1 2 (.slice (some ⟨g, 0, none⟩) (S.length + 1) cp)); have m2 := henv.mb.cell 2; simp only [List.getElem?_toArray, List.getElem?_cons_succ, List.getElem?_cons_zero] at m2; have HENV := Lib.hid henv; have HFM := Lib.hid hfm; clear henv hfm hown hg hat hlt)
  all_goals (
    go_wp2
    go_ret
    exact ⟨by simp, _, HENV.out, HFM.out⟩)

end Go.Proofs.YthcahjnniendnabDoor
