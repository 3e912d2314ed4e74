/-
  RB, ReachC.
-/
import Derived.Test.YthhcpbfgoofppaaGreatDoorGPl
import Derived.Test.YthhcpbfgoofppaaGreatDoorGRex
import Derived.BigQuiet
import Derived.Laws.CopyOwn
import Derived.Deep.RegionHeld3
import Derived.StillTailTactics
import Derived.Deep.RegionWith
set_option linter.unusedVariables false
set_option linter.unusedSimpArgs false
namespace Go.Proofs.YthhcpbfgoofppaaGreatDoor
open Go.RowKit Wf
def RB (w : World) (g N : Nat) (D : Nat → Bool) : Prop:=∃ cs : Array Value,Blk w g 4 cs ∧ cs.size = N ∧ ∀ k,k < N → cs[k]? = some (.bool (D k))
section
variable {w w' : World} {g N : Nat} {D D' : Nat → Bool}
theorem RB.lt (h : RB w g N D) : g < w.heap.size:=by
 obtain ⟨cs,hb,_⟩:=h
 exact hb.lt
theorem RB.below (h : RB w g N D) (hb : Below w.heap.size w w') : RB w' g N D:=by
 obtain ⟨cs,hk,h2⟩:=h
 exact ⟨cs,hk.kept hb,h2⟩
theorem RB.cell (h : RB w g N D) {k : Nat} (hk : k < N) : w.cell? ⟨g,k,none⟩ = some (.bool (D k)):=by
 obtain ⟨cs,hb,_,hc⟩:=h
 rw [hb.cell]
 exact hc k hk
theorem RB.frozen (h : RB w g N D) (k : Nat) : w.frozen? ⟨g,k,none⟩ = false:=by
 obtain ⟨cs,hb,_⟩:=h
 exact hb.frozen k
theorem RB.set_ (h : RB w g N D) (k : Nat) (b : Bool) : RB (w.setCell ⟨g,k,none⟩ (.bool b)) g N (setD D k b):=by
 obtain ⟨cs,hb,hs,hc⟩:=h
 refine ⟨_,hb.set_ k (.bool b),by simpa using hs,fun j hj => ?_⟩
 rw [Array.getElem?_setIfInBounds]
 unfold setD
 by_cases e : k = j
 ·subst e
  rw [if_pos rfl,if_pos (by omega),if_pos rfl]
 ·rw [if_neg e,if_neg (fun h => e h.symm)]
  exact hc j hj
theorem RB.new (w : World) (N : Nat) : RB (w.alloc (.cells (repA N (.bool false)) 4)) w.heap.size N (fun _ => false) :=
 ⟨_,Blk.new _ _ _,repA_size _ _,fun _ hk => repA_get _ _ _ hk⟩
theorem RB.alloc (h : RB w g N D) (o : Obj) : RB (w.alloc o) g N D:=h.below ((Below.refl _ _).alloc (Nat.le_refl _) _)
end
theorem RB.kept {w w' : World} {g N : Nat} {D : Nat → Bool} {row : Option Nat} (h : RB w g N D) (hg : w.grownBy w' row) (hne : some g ≠ row) : RB w' g N D:=by
 obtain ⟨cs,hb,h2⟩:=h
 exact ⟨cs,(hg.block g hb.lt hne).trans hb,h2⟩
theorem RB.far {w : World} {g N g2 k : Nat} {D : Nat → Bool} (h : RB w g N D) (hne : g ≠ g2) (v : Value) : RB (w.setCell ⟨g2,k,none⟩ v) g N D:=by
 obtain ⟨cs,hb,h2⟩:=h
 exact ⟨cs,hb.far hne v,h2⟩
def rowOf (N : Nat) (D : Nat → Bool) : List Value:=(List.range N).map fun j => .bool (D j)
theorem rowOf_len (N : Nat) (D : Nat → Bool) : (rowOf N D).length = N:=by simp [rowOf]
theorem rowOf_get {N : Nat} {D : Nat → Bool} {j : Nat} (h : j < N) : (rowOf N D)[j]? = some (.bool (D j)):=by simp [rowOf,h]
theorem RB.src {w : World} {g N : Nat} {D : Nat → Bool} (h : RB w g N D) : ∀ j v,(rowOf N D)[j]? = some v → w.cell? ((⟨g,0,none⟩ : Addr).add j) = some v:=by
 intro j v hv
 have hj : j < N:=by have:=(List.getElem?_eq_some_iff.1 hv).1;rw [rowOf_len] at this;exact this
 rw [rowOf_get hj] at hv
 cases hv
 rw [add_mk,Nat.zero_add]
 exact h.cell hj
def BE (w : World) (g N : Nat) (D E : Nat → Bool) (c0 c1 c2 c3 : Nat) (w' : World) : Prop :=
 RB w' w.heap.size N E ∧ Blk w' (w.heap.size + 1) 114 #[.int .i64 1,.int .u64 (c0 : Int),.int .u64 (c1 : Int),.int .u64 (c2 : Int),.int .u64 (c3 : Int)] ∧ RB w' g N D ∧ Below w.heap.size w w'
section
variable {w w1 w2 : World} {g N : Nat} {D E : Nat → Bool} {c0 c1 c2 c3 : Nat}
theorem BE.kept (h : BE w g N D E c0 c1 c2 c3 w1) (hb : Below w1.heap.size w1 w2) : BE w g N D E c0 c1 c2 c3 w2 :=
 ⟨h.1.below hb,h.2.1.kept hb,h.2.2.1.below hb,h.2.2.2.trans (hb.mono h.2.2.2.size)⟩
theorem BE.put (h : BE w g N D E c0 c1 c2 c3 w1) (hg : g < w.heap.size) (k : Nat) (x : Bool) : BE w g N D (setD E k x) c0 c1 c2 c3 (w1.setCell ⟨w.heap.size,k,none⟩ (.bool x)) :=
 ⟨h.1.set_ k x,h.2.1.far (by simp) _,h.2.2.1.far (by omega) _,h.2.2.2.setCell (Nat.le_refl _) _⟩
theorem BE.cells (h : BE w g N D E c0 c1 c2 c3 w1) : w1.cell? ⟨w.heap.size + 1,1,none⟩ = some (.int .u64 (c0 : Int)) ∧ w1.cell? ⟨w.heap.size + 1,2,none⟩ = some (.int .u64 (c1 : Int)) ∧ w1.cell? ⟨w.heap.size + 1,3,none⟩ = some (.int .u64 (c2 : Int)) ∧ w1.cell? ⟨w.heap.size + 1,4,none⟩ = some (.int .u64 (c3 : Int)):=⟨h.2.1.cell 1,h.2.1.cell 2,h.2.1.cell 3,h.2.1.cell 4⟩
end
section
variable {P : Program} {ops : Array Oper} {w : World} {Q : Act → Prop} {a : Act} {o : Oper} {rest : List Oper}
end
end Go.Proofs.YthhcpbfgoofppaaGreatDoor
