/-
  What find's functions answer, whatever comes in: one contract each.
-/
import Derived.Test.YthcahjnniendnadGreatDoorGFind
namespace Go.Proofs.YthcahjnniendnadGreatDoor
open Go.RowKit Wf

/-- What Find tells: what is wrong, and the span. -/
noncomputable def findR (l : List Nd) (t : Rx) (s : ByteArray) (f : Int) : Int × Nat × Nat :=
  if chkFd l s.size f ≠ 0 then (chkFd l s.size f, 0, 0) else match foundO s.data.toList t f.toNat with
    | some (x, y) => (0, x, y)
    | none => (4, 0, 0)
/-- What All tells: what is wrong, and the spans. -/
noncomputable def allR (l : List Nd) (t : Rx) (s : ByteArray) : Int × List (Nat × Nat) :=
  if chkF l s.size ≠ 0 then (chkF l s.size, []) else (0, spansO s.data.toList t 0)
def FindAny (r : Int × Nat × Nat) (w : World) (e : Ending) (w' : World) : Prop :=
  e = .returned (.tuple #[.agg #[.int .i64 (r.2.1 : Int), .int .i64 (r.2.2 : Int)], errV r.1]) ∧ Below w.heap.size w w'
def AllAny (r : Int × List (Nat × Nat)) (w : World) (e : Ending) (w' : World) : Prop :=
  ∃ (A : Option Addr) (cap : Nat), e = .returned (.tuple #[.slice A r.2.length cap, errV r.1]) ∧ Rd w' 2 (.slice A r.2.length cap) (spanVals r.2) ∧ Below w.heap.size w w'

theorem chkF_zero {l : List Nd} {n : Nat} (h : chkF l n = 0) : chk l = 0 ∧ n ≤ 400 := by
  unfold chkF at h
  split at h
  · rename_i h1; exact absurd h h1
  · rename_i h1
    split at h
    · cases h
    · exact ⟨by simpa using h1, by omega⟩
theorem chkFd_zero {l : List Nd} {n : Nat} {f : Int} (h : chkFd l n f = 0) : chkF l n = 0 ∧ 0 ≤ f ∧ f ≤ n := by
  unfold chkFd at h
  split at h
  · rename_i h1; exact absurd h h1
  · rename_i h1
    split at h
    · cases h
    · exact ⟨by simpa using h1, by omega, by omega⟩

theorem all_any (l : List Nd) (t : Rx) (ht : chk l = 0 → l = flat t) (hok : ∀ n ∈ l, okC n.cls) (tx : ByteArray) (hx : tx.size ≤ 9223372036854775807) (v : Value) (w : World) (hr : RdN w v l) :
    Calls Tryz.prog 37 #[v, .string tx] w (AllAny (allR l t tx) w) := by
  unfold allR
  by_cases hc : chkF l tx.size = 0
  · obtain ⟨h4, h5⟩ := chkF_zero hc
    rw [if_neg (by simp [hc])]
    refine (all_ok l t (ht h4) (chk_tree h4).1 hok tx h5 v w hr).mono ?_
    rintro e w' ⟨A, cap, rfl, hown, hb⟩
    exact ⟨A, cap, rfl, Rd.of_own hown, hb⟩
  · rw [if_pos hc]
    exact (all_no l tx hx v w hr hc).mono fun e w' ⟨h1, h2⟩ => ⟨none, 0, h1, Rd.nil _ _, h2⟩

/-- A tree of a row of nodes, if it is one. -/
theorem tree_of (l : List Nd) : ∃ t : Rx, chk l = 0 → l = flat t := by
  by_cases h : chk l = 0
  · obtain ⟨_, t, ht⟩ := chk_tree h
    exact ⟨t, fun _ => ht⟩
  · exact ⟨.empty, fun h' => absurd h' h⟩

theorem chkFd_lt (l : List Nd) (n : Nat) (f : Int) : chkFd l n f ≠ 4 := by
  have hch : chk l ≠ 4 := by
    have key : ∀ (l : List Nd) (need : Int) (w : Bool), chkLoop l need w ≠ 4 := by
      intro l
      induction l with
      | nil => intro need w; unfold chkLoop; split <;> omega
      | cons n r ih =>
        intro need w
        unfold chkLoop
        split
        · omega
        · split
          · omega
          · exact ih _ _
    unfold chk
    split
    · omega
    · exact key _ _ _
  unfold chkFd chkF
  split <;> (try split) <;> (try split) <;> (try split) <;> first | exact hch | omega
/-- From a place further behind, what is found begins no earlier. -/
theorem findR_later (l : List Nd) (t : Rx) (s : ByteArray) (a b : Int) (h : a ≤ b) :
    ((findR l t s a).1 = 4 → (findR l t s b).1 ≠ 0) ∧ ((findR l t s a).1 = 0 → (findR l t s b).1 = 4 → ((findR l t s a).2.1 : Int) < b) ∧
    ((findR l t s a).1 = 0 → (findR l t s b).1 = 0 → (findR l t s a).2.1 ≤ (findR l t s b).2.1 ∧ (((findR l t s a).2.1 : Int) < b ∨ (findR l t s a).2 = (findR l t s b).2)) := by
  have lt4 : ∀ f, chkFd l s.size f ≠ 4 := chkFd_lt l s.size
  unfold findR
  by_cases ha : chkFd l s.size a = 0
  · obtain ⟨h1, h2, h3⟩ := chkFd_zero ha
    obtain ⟨i, rfl⟩ := Int.eq_ofNat_of_zero_le h2
    by_cases hb : chkFd l s.size b = 0
    · obtain ⟨k1, k2, k3⟩ := chkFd_zero hb
      obtain ⟨k, rfl⟩ := Int.eq_ofNat_of_zero_le k2
      rw [if_neg (by simp [ha]), if_neg (by simp [hb]), Int.toNat_natCast, Int.toNat_natCast]
      obtain ⟨q1, q2⟩ := findO_later (L := longO s.data.toList t) (N := s.data.toList.length) (show i ≤ k by omega)
      have e1 : foundO s.data.toList t i = findO (longO s.data.toList t) s.data.toList.length i := rfl
      have e2 : foundO s.data.toList t k = findO (longO s.data.toList t) s.data.toList.length k := rfl
      rw [e1, e2]
      cases hi : findO (longO s.data.toList t) s.data.toList.length i with
      | none =>
        rw [q1 hi]
        simp
      | some p =>
        obtain ⟨x, y⟩ := p
        cases hk : findO (longO s.data.toList t) s.data.toList.length k with
        | none =>
          refine ⟨by simp, fun _ _ => ?_, by simp⟩
          by_cases hh : k ≤ x
          · rw [q2 x y hi hh] at hk; cases hk
          · simp; omega
        | some q =>
          obtain ⟨x', y'⟩ := q
          refine ⟨by simp, by simp, fun _ _ => ?_⟩
          have g1 := findO_is hi
          have g2 := findO_is hk
          by_cases hh : k ≤ x
          · rw [q2 x y hi hh] at hk
            cases hk
            exact ⟨Nat.le_refl _, .inr rfl⟩
          · simp; omega
    · rw [if_neg (by simp [ha]), if_pos hb]
      refine ⟨fun _ => hb, fun _ h => absurd h (lt4 b), fun _ h => absurd h hb⟩
  · rw [if_pos ha]
    exact ⟨fun h => absurd h (lt4 a), fun h => absurd h ha, fun h => absurd h ha⟩

end Go.Proofs.YthcahjnniendnadGreatDoor
