/-
  Walks of package winnowfansame: Nodes, Ints; of package rex: Empty.
-/
import Derived.Test.YthcahjnniendnabRexB
import Derived.Deep.QuietTactic
import Derived.BigQuiet
namespace Go.Proofs.Ythcahjnniendnab
open Go.RowKit Wf

def NodesIs (a b : List Nd) (w : World) (e : Ending) (w' : World) : Prop := ∃ r : Bool, e = .returned (.bool r) ∧ (r = true ↔ a = b) ∧ Below w.heap.size w w'

theorem below_drewN {B : Nat} {a w : World} (h : Below B a w) (n : Nat) : Below B a (w.drewN n) := ⟨h.os, h.tape, h.output, h.size, h.block⟩

theorem take_snoc {α : Type} {l : List α} {k : Nat} {x : α} (h : l[k]? = some x) : l.take (k + 1) = l.take k ++ [x] := by
  rw [List.take_add_one, h]; rfl

theorem nd_eq (n m : Nd) : n = m ↔ n.op = m.op ∧ n.cls = m.cls := by
  cases n; cases m; simp

theorem list_eq_of {α : Type} {a b : List α} {k : Nat} (h : a.take k = b.take k) (hk : k = a.length) (hl : a.length = b.length) : a = b := by
  rw [List.take_of_length_le (by omega), List.take_of_length_le (by omega)] at h
  exact h

theorem list_ne_of {α : Type} {a b : List α} {k : Nat} {x y : α} (hx : a[k]? = some x) (hy : b[k]? = some y) (h : x ≠ y) : a ≠ b := by
  rintro rfl
  rw [hx] at hy
  exact h (Option.some.inj hy)

/-- What the round's row holds: behind place m whether each part may be nothing. -/
def MayTo (l : List Nd) (m : Nat) (cs : Array Value) : Prop := cs.size = l.length ∧ (∀ j, j < cs.size → ∃ x : Bool, cs[j]? = some (.bool x)) ∧ (∀ j, j < m → j < cs.size → cs[j]? = some (.bool false)) ∧ ∀ j u, m ≤ j → At l j u → cs[j]? = some (.bool (may u))

theorem MayTo.start (l : List Nd) : MayTo l l.length (repA l.length (.bool false)) := by
  refine ⟨repA_size _ _, fun j hj => ⟨false, repA_get _ _ _ (by rw [repA_size] at hj; exact hj)⟩, fun j hj _ => repA_get _ _ _ hj, fun j u hj h => ?_⟩
  have := h.lt
  have := flat_pos u
  omega

theorem MayTo.step {l : List Nd} {i : Nat} {cs : Array Value} {u : Rx} (h : MayTo l (i + 1) cs) (hu : At l i u) : MayTo l i (cs.setIfInBounds i (.bool (may u))) := by
  obtain ⟨h1, h2, h0, h3⟩ := h
  have hlt := hu.lt
  have hp := flat_pos u
  refine ⟨by simpa using h1, fun j hj => ?_, fun j hj hj' => ?_, fun j v hj hv => ?_⟩
  · rw [Array.getElem?_setIfInBounds]
    split
    · exact ⟨_, by rw [if_pos (by simp at hj; omega)]⟩
    · exact h2 j (by simpa using hj)
  · rw [Array.getElem?_setIfInBounds]
    split
    · omega
    · exact h0 j (by omega) (by simpa using hj')
  · rw [Array.getElem?_setIfInBounds]
    split
    · rename_i e
      subst e
      rw [hv.inj hu]
      rw [if_pos (by omega)]
    · exact h3 j v (by omega) hv

theorem MayTo.skip {l : List Nd} {i : Nat} {cs : Array Value} {u : Rx} (h : MayTo l (i + 1) cs) (hu : At l i u) (hm : may u = false) : MayTo l i cs := by
  obtain ⟨h1, h2, h0, h3⟩ := h
  have hlt := hu.lt
  have hp := flat_pos u
  refine ⟨h1, h2, fun j hj hj' => h0 j (by omega) hj', fun j v hj hv => ?_⟩
  by_cases e : j = i
  · subst e
    rw [hv.inj hu, hm]
    exact h0 j (by omega) (by omega)
  · exact h3 j v (by omega) hv

def EmptyIs (t : Rx) (w : World) (e : Ending) (w' : World) : Prop := e = .returned (.tuple #[.bool (may t), .nilIface]) ∧ Below w.heap.size w w'

end Go.Proofs.Ythcahjnniendnab
