/-
  The walk of the document's Reach.
-/
import Derived.Test.YthcahjnniendnabDoorReachB
import Derived.Laws.CopyOwn
import Derived.Deep.RegionHeld3
import Derived.StillTailTactics
import Derived.Deep.RegionWith
namespace Go.Proofs.YthcahjnniendnabDoor
open Go.RowKit Wf

theorem repA_set (w : World) (N f : Nat) (x : Bool) : RB (w.alloc (.cells ((repA N (.bool false)).setIfInBounds f (.bool x)) 4)) w.heap.size N (setD (fun _ => false) f x) :=
  ⟨_, Blk.new _ _ _, by simp [repA_size], fun k hk => by
    rw [Array.getElem?_setIfInBounds]
    unfold setD
    by_cases e : f = k
    · subst e; rw [if_pos rfl, if_pos (by rw [repA_size]; exact hk), if_pos rfl]
    · rw [if_neg e, repA_get _ _ _ hk, if_neg (fun h => e h.symm)]⟩

def rowOf (N : Nat) (D : Nat → Bool) : List Value := (List.range N).map fun j => .bool (D j)
theorem rowOf_len (N : Nat) (D : Nat → Bool) : (rowOf N D).length = N := by simp [rowOf]
theorem rowOf_get {N : Nat} {D : Nat → Bool} {j : Nat} (h : j < N) : (rowOf N D)[j]? = some (.bool (D j)) := by simp [rowOf, h]
theorem rowOf_one (N : Nat) (D : Nat → Bool) : ∀ v ∈ rowOf N D, v.oneCell' = true := by
  intro v hv
  simp [rowOf] at hv
  obtain ⟨j, _, rfl⟩ := hv
  rfl
theorem rowOf_min (N : Nat) (D : Nat → Bool) : (rowOf N D).length = Nat.min N N := by rw [rowOf_len]; exact (Nat.min_self _).symm
theorem rowOf_fit (N : Nat) (D : Nat → Bool) : 0 + (rowOf N D).length ≤ (repA N (.bool false)).size := by rw [rowOf_len, repA_size]; omega
theorem RB.src {w : World} {g N : Nat} {D : Nat → Bool} (h : RB w g N D) : ∀ j v, (rowOf N D)[j]? = some v → w.cell? ((⟨g, 0, none⟩ : Addr).add j) = some v := by
  intro j v hv
  have hj : j < N := by have := (List.getElem?_eq_some_iff.1 hv).1; rw [rowOf_len] at this; exact this
  rw [rowOf_get hj] at hv
  cases hv
  rw [add_mk, Nat.zero_add]
  exact h.cell hj
theorem RB.copied {w : World} {H N : Nat} {D : Nat → Bool} {cur : Array Value} (h : w.heap[H]? = some (.cells cur 4 (0, 0))) (hs : cur.size = N) : RB (w.setRow H (rowOf N D ++ cur.toList.drop (rowOf N D).length).toArray) H N D := by
  have e : cur.toList.drop (rowOf N D).length = [] := List.drop_eq_nil_of_le (by rw [rowOf_len]; simp; omega)
  rw [e]
  refine ⟨_, setRow_heap w H cur _ 4 _ h, by simp [rowOf_len], fun k hk => ?_⟩
  simp only [List.append_nil, List.getElem?_toArray]
  exact rowOf_get hk

/-- While a byte's part is read: the new row, the node's block, the row that came. -/
def BE (w : World) (g N : Nat) (D E : Nat → Bool) (c0 c1 c2 c3 : Nat) (w' : World) : Prop :=
  RB w' w.heap.size N E ∧ Blk w' (w.heap.size + 1) 69 #[.int .i64 1, .int .u64 (c0 : Int), .int .u64 (c1 : Int), .int .u64 (c2 : Int), .int .u64 (c3 : Int)] ∧ RB w' g N D ∧ Below w.heap.size w w'
section
variable {w w1 w2 : World} {g N : Nat} {D E : Nat → Bool} {c0 c1 c2 c3 : Nat}
theorem BE.kept (h : BE w g N D E c0 c1 c2 c3 w1) (hb : Below w1.heap.size w1 w2) : BE w g N D E c0 c1 c2 c3 w2 :=
  ⟨h.1.below hb, h.2.1.kept hb, h.2.2.1.below hb, h.2.2.2.trans (hb.mono h.2.2.2.size)⟩
theorem BE.put (h : BE w g N D E c0 c1 c2 c3 w1) (hg : g < w.heap.size) (k : Nat) (x : Bool) : BE w g N D (setD E k x) c0 c1 c2 c3 (w1.setCell ⟨w.heap.size, k, none⟩ (.bool x)) :=
  ⟨h.1.set_ k x, h.2.1.far (by simp) _, h.2.2.1.far (by omega) _, h.2.2.2.setCell (Nat.le_refl _) _⟩
theorem BE.cells (h : BE w g N D E c0 c1 c2 c3 w1) : w1.cell? ⟨w.heap.size + 1, 1, none⟩ = some (.int .u64 (c0 : Int)) ∧ w1.cell? ⟨w.heap.size + 1, 2, none⟩ = some (.int .u64 (c1 : Int)) ∧ w1.cell? ⟨w.heap.size + 1, 3, none⟩ = some (.int .u64 (c2 : Int)) ∧ w1.cell? ⟨w.heap.size + 1, 4, none⟩ = some (.int .u64 (c3 : Int)) := ⟨h.2.1.cell 1, h.2.1.cell 2, h.2.1.cell 3, h.2.1.cell 4⟩
end
/-- The same, or the round's store has been made. -/
def BEx (w : World) (g N : Nat) (D E : Nat → Bool) (c0 c1 c2 c3 k : Nat) (r : Bool) (w' : World) : Prop :=
  BE w g N D E c0 c1 c2 c3 w' ∨ ∃ w0, w' = w0.setCell ⟨w.heap.size, k, none⟩ (.bool r) ∧ BE w g N D E c0 c1 c2 c3 w0

/-! A region whose operations but the last ones leave the world as it is, some of them guarded: step by step, the goal hidden. -/
/-- A fact that no elaborator looks into. -/
structure InBox (p : Prop) : Prop where
  out : p
section
variable {P : Program} {ops : Array Oper} {w : World} {Q : Act → Prop} {a : Act} {o : Oper} {rest : List Oper}
theorem still_one (h : ∀ K : Act → Prop, (∀ a, InBox (wpStill P ops w Q rest a) → K a) → if Region.wanted o (yielded ops a.tmps) then o.still P a w K else K (a.put o.dst undef)) : InBox (wpStill P ops w Q (o :: rest) a) :=
  InBox.mk (wpStill_step fun K hK => h K fun a ha => hK a ha.out)
theorem still_skip (hw : Region.wanted o (yielded ops a.tmps) = false) (h : InBox (wpStill P ops w Q rest (a.put o.dst undef))) : InBox (wpStill P ops w Q (o :: rest) a) :=
  InBox.mk (wpStill_step fun K hK => by rw [if_neg (by rw [hw]; simp)]; exact hK _ h.out)
theorem still_end (h : Q a) : InBox (wpStill P ops w Q [] a) := InBox.mk (wpStill_nil h)
theorem still_tail {id : Nat} {Q : Exit → Act → World → Prop} {l : List Oper} (n : Nat) (hm : P.follows .mixedOrders = true) (hB : Region.lexTailB .any l.toArray n = true)
    (h : InBox (wpStill P l.toArray { w with drawn := w.drawn + 1 } (fun a' => wpList P l.toArray Q (l.drop n) a' { w with drawn := w.drawn + 1 }) (l.take n) a)) : (Code.region id l.toArray true).wp P Q a w :=
  wp_region_still_tail n hm hB h.out
end
theorem i64_byte (n : Nat) (h : n < 256) : IntKind.i64.wrap (n : Int) = (n : Int) := by
  unfold IntKind.wrap
  simp [IntKind.signed, IntKind.bits]
  omega

end Go.Proofs.YthcahjnniendnabDoor
