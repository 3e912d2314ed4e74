/-
  Rows of truth values in memory.
-/
import Derived.Test.YthcahjnniendnacDoorGPl
import Derived.Test.YthcahjnniendnacDoorGRex
namespace Go.Proofs.YthcahjnniendnacDoor
open Go.RowKit Wf

/-- A block of N truth values, as D says. -/
def RB (w : World) (g N : Nat) (D : Nat → Bool) : Prop := ∃ cs : Array Value, Blk w g 4 cs ∧ cs.size = N ∧ ∀ k, k < N → cs[k]? = some (.bool (D k))
section
variable {w w' : World} {g N : Nat} {D D' : Nat → Bool}
theorem RB.lt (h : RB w g N D) : g < w.heap.size := by
  obtain ⟨cs, hb, _⟩ := h
  exact hb.lt
theorem RB.below (h : RB w g N D) (hb : Below w.heap.size w w') : RB w' g N D := by
  obtain ⟨cs, hk, h2⟩ := h
  exact ⟨cs, hk.kept hb, h2⟩
theorem RB.as (h : RB w g N D) (hd : ∀ k, k < N → D k = D' k) : RB w g N D' := by
  obtain ⟨cs, hb, hs, hc⟩ := h
  exact ⟨cs, hb, hs, fun k hk => by rw [hc k hk, hd k hk]⟩
theorem RB.cell (h : RB w g N D) {k : Nat} (hk : k < N) : w.cell? ⟨g, k, none⟩ = some (.bool (D k)) := by
  obtain ⟨cs, hb, _, hc⟩ := h
  rw [hb.cell]
  exact hc k hk
theorem RB.frozen (h : RB w g N D) (k : Nat) : w.frozen? ⟨g, k, none⟩ = false := by
  obtain ⟨cs, hb, _⟩ := h
  exact hb.frozen k
theorem RB.set_ (h : RB w g N D) (k : Nat) (b : Bool) : RB (w.setCell ⟨g, k, none⟩ (.bool b)) g N (setD D k b) := by
  obtain ⟨cs, hb, hs, hc⟩ := h
  refine ⟨_, hb.set_ k (.bool b), by simpa using hs, fun j hj => ?_⟩
  rw [Array.getElem?_setIfInBounds]
  unfold setD
  by_cases e : k = j
  · subst e
    rw [if_pos rfl, if_pos (by omega), if_pos rfl]
  · rw [if_neg e, if_neg (fun h => e h.symm)]
    exact hc j hj
theorem RB.new (w : World) (N : Nat) : RB (w.alloc (.cells (repA N (.bool false)) 4)) w.heap.size N (fun _ => false) :=
  ⟨_, Blk.new _ _ _, repA_size _ _, fun k hk => repA_get _ _ _ hk⟩
theorem RB.alloc (h : RB w g N D) (o : Obj) : RB (w.alloc o) g N D := h.below ((Below.refl _ _).alloc (Nat.le_refl _) _)
end


theorem RB.ne_blk {w : World} {g N q : Nat} {D : Nat → Bool} {cur : Array Value} {t : TypeId} (h : RB w g N D) (hc : w.heap[q]? = some (.cells cur t (0, 0))) (ht : t ≠ 4) : g ≠ q := by
  rintro rfl
  obtain ⟨cs, hb, _⟩ := h
  unfold Blk at hb
  rw [hb] at hc
  cases hc
  exact ht rfl
theorem RB.kept {w w' : World} {g N : Nat} {D : Nat → Bool} {row : Option Nat} (h : RB w g N D) (hg : w.grownBy w' row) (hne : some g ≠ row) : RB w' g N D := by
  obtain ⟨cs, hb, h2⟩ := h
  exact ⟨cs, (hg.block g hb.lt hne).trans hb, h2⟩
theorem RB.far {w : World} {g N g2 k : Nat} {D : Nat → Bool} (h : RB w g N D) (hne : g ≠ g2) (v : Value) : RB (w.setCell ⟨g2, k, none⟩ v) g N D := by
  obtain ⟨cs, hb, h2⟩ := h
  exact ⟨cs, hb.far hne v, h2⟩

end Go.Proofs.YthcahjnniendnacDoor
