/-
  The walk of the document's TurnOf.
-/
import Derived.Test.YthcahjnniendnabDoorRefC
import Derived.Test.YthcahjnniendnabDoorTurn
namespace Go.Proofs.YthcahjnniendnabDoor
open Go.RowKit Wf

def RTurnIs (u : Rx) (w : World) (e : Ending) (w' : World) : Prop :=
  ∃ g cap, e = .returned (.slice (some ⟨g, 0, none⟩) (flat (turnT u)).length cap) ∧ w'.ownsRow w.heap.size 69 5 (.slice (some ⟨g, 0, none⟩) (flat (turnT u)).length cap) (flat (turnT u)).length ((flat (turnT u)).flatMap ndCells) ∧ Below w.heap.size w w'

theorem own_src {w : World} {base g cap : Nat} {l : List Nd} (h : w.ownsRow base 69 5 (.slice (some ⟨g, 0, none⟩) l.length cap) l.length (l.flatMap ndCells)) (hl : 0 < l.length) :
    ∀ (j : Nat) (u : Value), (l.flatMap ndCells)[j]? = some u → w.cell? ((⟨g, 0, none⟩ : Addr).add j) = some u := by
  intro j u hu
  rcases h.2 with ⟨h0, _⟩ | ⟨g', cap', cur, hv, h1, h2, h3, h4, h5, h6⟩
  · cases h0
  · injection hv with e1 e2 e3
    injection e1 with e1
    injection e1 with e1
    subst e1
    rw [add_mk, Nat.zero_add, (show Blk w g _ cur from h2).cell, ← Array.getElem?_toList]
    rw [← h6, List.getElem?_take] at hu
    split at hu
    · exact hu
    · cases hu
theorem own_of_below {B base base' size n : Nat} {w w' : World} {e : TypeId} {v : Value} {xs : List Value} (h : w.ownsRow base e size v n xs) (hb : base' ≤ base) : w.ownsRow base' e size v n xs := by
  refine ⟨h.1, ?_⟩
  rcases h.2 with hn | ⟨g, cap, cur, hv, h1, rest⟩
  · exact .inl hn
  · exact .inr ⟨g, cap, cur, hv, Nat.le_trans hb h1, rest⟩

theorem src_grown {w w' : World} {row : Option Nat} {g : Nat} (hg : w.grownBy w' row) (hlt : g < w.heap.size) (hne : row ≠ some g) (j : Nat) : w'.cell? ((⟨g, 0, none⟩ : Addr).add j) = w.cell? ((⟨g, 0, none⟩ : Addr).add j) := by
  rw [add_mk]
  exact World.cell?_of_block (hg.block g hlt (fun e => hne e.symm))

end Go.Proofs.YthcahjnniendnabDoor
