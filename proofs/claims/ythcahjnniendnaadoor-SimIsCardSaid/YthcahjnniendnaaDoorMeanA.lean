/-
  The fitter in memory; walks of its none, here, and of places' add.
-/
import Derived.Test.YthcahjnniendnaaDoorTurn
import Derived.Test.YthcahjnniendnaaDoorClsA
import Derived.Test.YthcahjnniendnaaDoorPm
import Derived.Test.YthcahjnniendnaaDoorSpot
namespace Go.Proofs.YthcahjnniendnaaDoor
open Go.RowKit Wf

/-- A block of n + 1 marks: of which places P holds. -/
def Pl (w : World) (g n : Nat) (P : Nat → Prop) : Prop := ∃ cs : Array Value, Blk w g 4 cs ∧ cs.size = n + 1 ∧ ∀ k, k ≤ n → ∃ b : Bool, cs[k]? = some (.bool b) ∧ (b = true ↔ P k)

theorem Pl.lt {w : World} {g n : Nat} {P : Nat → Prop} (h : Pl w g n P) : g < w.heap.size := by
  obtain ⟨cs, hb, _⟩ := h
  exact hb.lt
theorem Pl.kept {w w' : World} {g n : Nat} {P : Nat → Prop} {row : Option Nat} (h : Pl w g n P) (hg : w.grownBy w' row) (hne : some g ≠ row) : Pl w' g n P := by
  obtain ⟨cs, hb, h2⟩ := h
  exact ⟨cs, (hg.block g hb.lt hne).trans hb, h2⟩
theorem Pl.below {w w' : World} {g n : Nat} {P : Nat → Prop} (h : Pl w g n P) (hb : Below w.heap.size w w') : Pl w' g n P := by
  obtain ⟨cs, hk, h2⟩ := h
  exact ⟨cs, hk.kept hb, h2⟩
theorem Pl.iff {w : World} {g n : Nat} {P Q : Nat → Prop} (h : Pl w g n P) (hpq : ∀ k, k ≤ n → (P k ↔ Q k)) : Pl w g n Q := by
  obtain ⟨cs, hb, hs, hc⟩ := h
  refine ⟨cs, hb, hs, fun k hk => ?_⟩
  obtain ⟨b, h1, h2⟩ := hc k hk
  exact ⟨b, h1, h2.trans (hpq k hk)⟩
theorem Pl.cell {w : World} {g n : Nat} {P : Nat → Prop} (h : Pl w g n P) (k : Nat) (hk : k ≤ n) : ∃ b : Bool, w.cell? ⟨g, k, none⟩ = some (.bool b) ∧ (b = true ↔ P k) := by
  obtain ⟨cs, hb, _, hc⟩ := h
  obtain ⟨b, h1, h2⟩ := hc k hk
  exact ⟨b, by rw [hb.cell]; exact h1, h2⟩
theorem Pl.frozen {w : World} {g n : Nat} {P : Nat → Prop} (h : Pl w g n P) (k : Nat) : w.frozen? ⟨g, k, none⟩ = false := by
  obtain ⟨cs, hb, _⟩ := h
  exact hb.frozen k
theorem Pl.set_ {w : World} {g n : Nat} {P : Nat → Prop} (h : Pl w g n P) (k : Nat) (b : Bool) : Pl (w.setCell ⟨g, k, none⟩ (.bool b)) g n (fun j => if j = k then b = true else P j) := by
  obtain ⟨cs, hb, hs, hc⟩ := h
  refine ⟨_, hb.set_ k (.bool b), by simpa using hs, fun j hj => ?_⟩
  rw [Array.getElem?_setIfInBounds]
  by_cases e : k = j
  · subst e
    rw [if_pos rfl, if_pos (by omega)]
    exact ⟨b, rfl, by simp⟩
  · rw [if_neg e]
    obtain ⟨b', h1, h2⟩ := hc j hj
    exact ⟨b', h1, by show _ ↔ (if j = k then b = true else P j); rw [if_neg (fun h => e h.symm)]; exact h2⟩

theorem grown_set (w : World) (g k : Nat) (v : Value) : w.grownBy (w.setCell ⟨g, k, none⟩ v) (some g) :=
  ⟨rfl, rfl, rfl, by simp, fun i _ hi => Below.heap_setCell w ⟨g, k, none⟩ v i (fun e => hi (by rw [e]))⟩
theorem grown_of_below {w w' : World} (h : Below w.heap.size w w') (row : Option Nat) : w.grownBy w' row := ⟨h.os, h.tape, h.output, h.size, fun i hi _ => h.block i hi⟩
theorem grown_drewN {a w : World} {row : Option Nat} (h : a.grownBy w row) (n : Nat) : a.grownBy (w.drewN n) row := ⟨h.os, h.tape, h.output, h.size, h.block⟩

section
variable (l : List Nd) (s : ByteArray) (b off cap ge F M : Nat)

end

section
variable {l : List Nd} {s : ByteArray} {b off cap ge F M : Nat} {O : Nat → Prop} {w w' : World}

theorem TEnv.grown {l : List Nd} {b off cap g p : Nat} {w w' : World} (h : TEnv l b off cap g w) (hg : w.grownBy w' (some p)) (hb : p ≠ b) (hge : p ≠ g) : TEnv l b off cap g w' := by
  have hbb : w'.heap[b]? = w.heap[b]? := hg.block b h.hb (fun e => hb (Option.some.inj e).symm)
  have hgg : w'.heap[g]? = w.heap[g]? := hg.block g h.hg (fun e => hge (Option.some.inj e).symm)
  refine ⟨?_, Nat.lt_of_lt_of_le h.hb hg.size, Nat.lt_of_lt_of_le h.hg hg.size, fun i u hu => ?_⟩
  · obtain ⟨A, n, cap', hv, h1, h2, h3, h4⟩ := h.hr
    refine ⟨A, n, cap', hv, h1, h2, h3, fun hn => ?_⟩
    obtain ⟨b', off', hA, hc⟩ := h4 hn
    refine ⟨b', off', hA, fun j u hu => ?_⟩
    have e : b' = b := by
      rw [hA] at hv
      cases hv
      rfl
    subst e
    rw [World.cell?_of_block (w := w) (a := ⟨b', off' + j, none⟩) hbb]
    exact hc j u hu
  · rw [World.cell?_of_block (w := w) (a := ⟨g, i, none⟩) hgg]
    exact h.hx i u hu

end

/-- The call hands back a new row of marks; nothing that was there has turned. -/
def NewPl (n : Nat) (P : Nat → Prop) (w : World) (e : Ending) (w' : World) : Prop :=
  e = .returned (.slice (some ⟨w.heap.size, 0, none⟩) (n + 1) (n + 1)) ∧ Pl w' w.heap.size n P ∧ Below w.heap.size w w' ∧ w.heap.size < w'.heap.size

theorem pl_none (w : World) (n : Nat) : Pl (w.alloc (.cells (repA (n + 1) (.bool false)) 4)) w.heap.size n (fun _ => False) :=
  ⟨_, Blk.new _ _ _, repA_size _ _, fun k hk => ⟨false, repA_get _ _ _ (by omega), by simp⟩⟩

/-- The call leaves the row g as the other says, and nothing else turned. -/
def PutPl (g n : Nat) (P : Nat → Prop) (w : World) (e : Ending) (w' : World) : Prop :=
  e = .returned (.tuple #[]) ∧ Pl w' g n P ∧ w.grownBy w' (some g)

end Go.Proofs.YthcahjnniendnaaDoor
