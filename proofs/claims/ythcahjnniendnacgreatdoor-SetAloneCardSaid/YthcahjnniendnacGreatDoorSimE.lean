/-
  The iterator in sim.ends: what it gives to whatever loop body.
-/
import Derived.Test.YthcahjnniendnacGreatDoorGRun
import Derived.Test.YthcahjnniendnacGreatDoorGSim
import Derived.RangeFuncNested
import Derived.RangeFuncBound
import Derived.RangeFuncCalls
import Derived.RangeFuncLeaves
import Derived.Shelf.Abstract
import Derived.Shelf.RegionOpen
import Derived.WalkKit
import Derived.OwnWalkIn
import Derived.TacticsInMore
import Derived.LoopNIn
import Derived.LoopIn
namespace Go.Proofs.YthcahjnniendnacGreatDoor
open Go.RowKit Go.Shelf Wf
attribute [local go_sem] Oper.semAt_some

/-- The row that the variable at block B holds. -/
def ownOf (B : Nat) (w : World) : Option Nat := match w.cell? ⟨B, 0, none⟩ with
  | some v => v.ownBlock
  | none => none

/-- What a round keeps: all cells but the variable at block B and its row. -/
structure Kp (B : Nat) (w w' : World) : Prop where
  os : w'.os = w.os
  tape : w'.tape = w.tape
  output : w'.output = w.output
  size : w.heap.size ≤ w'.heap.size
  kept : ∀ k cs t fr, w.heap[k]? = some (.cells cs t fr) → k ≠ B → ownOf B w ≠ some k → w'.heap[k]? = some (.cells cs t fr)
  own : ∀ g, ownOf B w' = some g → ownOf B w = some g ∨ (w.heap.size ≤ g ∧ g < w'.heap.size)
theorem Kp.refl (B : Nat) (w : World) : Kp B w w := ⟨rfl, rfl, rfl, Nat.le_refl _, fun _ _ _ _ h _ _ => h, fun _ h => .inl h⟩
theorem Kp.trans {B : Nat} {a b c : World} (h : Kp B a b) (k : Kp B b c) : Kp B a c := by
  refine ⟨k.os.trans h.os, k.tape.trans h.tape, k.output.trans h.output, Nat.le_trans h.size k.size, fun j cs t fr hj hB ho => ?_, fun g hg => ?_⟩
  · have hb := h.kept j cs t fr hj hB ho
    refine k.kept j cs t fr hb hB (fun e => ?_)
    rcases h.own j e with e' | ⟨e', _⟩
    · exact ho e'
    · have := (Array.getElem?_eq_some_iff.1 hj).1; omega
  · rcases k.own g hg with e | ⟨e1, e2⟩
    · rcases h.own g e with e' | ⟨e1', e2'⟩
      · exact .inl e'
      · exact .inr ⟨e1', by have := k.size; omega⟩
    · exact .inr ⟨by have := h.size; omega, e2⟩
theorem ownOf_eq {B : Nat} {w w' : World} (h : w'.heap[B]? = w.heap[B]?) : ownOf B w' = ownOf B w := by
  unfold ownOf
  rw [World.cell?_of_block (a := ⟨B, 0, none⟩) h]
theorem Kp.below {B : Nat} {w w' : World} (hB : B < w.heap.size) (h : Below w.heap.size w w') : Kp B w w' :=
  ⟨h.os, h.tape, h.output, h.size, fun k cs t fr hk _ _ => (h.block k (Array.getElem?_eq_some_iff.1 hk).1).trans hk, fun g hg => .inl (by rw [← ownOf_eq (h.block B hB)]; exact hg)⟩
theorem Kp.putObj {B : Nat} {w : World} (hB : B < w.heap.size) (W : World) (l : Nat) (o o' : Obj) (hl : w.heap.size ≤ l) (h : W.heap[l]? = some o) (hc : o.isCells = false) (_ : o.isWalk = false) : Kp B W (W.putObj l o') :=
  ⟨rfl, rfl, rfl, by simp, fun k cs t fr hk _ _ => by
    have : k ≠ l := fun e => by subst e; rw [hk] at h; cases h; simp [Obj.isCells] at hc
    rw [World.putObj_heap_other this]; exact hk, fun g hg => .inl (by rw [← ownOf_eq (World.putObj_heap_other (w := W) (o := o') (by omega : B ≠ l))]; exact hg)⟩
theorem Kp.blk {B : Nat} {w w' : World} {k : Nat} {t : TypeId} {cs : Array Value} (h : Kp B w w') (hb : Blk w k t cs) (hB : k ≠ B) (ho : ownOf B w ≠ some k) : Blk w' k t cs := h.kept k _ _ _ hb hB ho

theorem Kp.cell {B : Nat} {w w' : World} (h : Kp B w w') (ho : ownOf B w = none) {k o : Nat} {u : Value} (hc : w.cell? ⟨k, o, none⟩ = some u) (hk : k ≠ B) : w'.cell? ⟨k, o, none⟩ = some u := by
  unfold World.cell? at hc ⊢
  dsimp only at hc ⊢
  cases hh : w.heap[k]? with
  | none => rw [hh] at hc; simp at hc
  | some ob =>
    rw [hh] at hc
    cases ob with
    | cells cs t fr =>
      rw [h.kept k cs t fr hh hk (by rw [ho]; simp)]
      exact hc
    | _ => simp at hc

theorem RdS.kp {B : Nat} {w w' : World} {l : List St} {b off cap : Nat} (h : RdS w (.slice (some ⟨b, off, none⟩) l.length cap) l) (hk : Kp B w w') (ho : ownOf B w = none) (hb : b ≠ B) : RdS w' (.slice (some ⟨b, off, none⟩) l.length cap) l := by
  obtain ⟨A, n, c, hv, h1, h2, h3, h4⟩ := h
  refine ⟨A, n, c, hv, h1, h2, h3, fun hn => ?_⟩
  obtain ⟨b', off', rfl, hc⟩ := h4 hn
  injection hv with e1 e2 e3
  injection e1 with e1
  injection e1 with e1 e4
  subst e1
  subst e4
  exact ⟨_, _, rfl, fun j u hu => hk.cell ho (hc j u hu) hb⟩

theorem own_kp {B base size n : Nat} {w w' : World} {e : TypeId} {v : Value} {xs : List Value} (h : w.ownsRow base e size v n xs) (hk : Kp B w w') (hB : B < base) (ho : ∀ g, ownOf B w = some g → g < base) : w'.ownsRow base e size v n xs := by
  refine ⟨h.1, ?_⟩
  rcases h.2 with hn | ⟨g, cap, cur, hv, h1, h2, rest⟩
  · exact .inl hn
  · refine .inr ⟨g, cap, cur, hv, h1, hk.kept g _ _ _ h2 (by omega) (fun e => ?_), rest⟩
    have := ho g e
    omega
theorem abides_below {σ : Type} {B : Nat} {J : σ → World → Prop} (hJ : AbidesFrom B J) {s : σ} {w w' : World} (h : J s w) (hb : Below w.heap.size w w') : J s w' :=
  hJ s w w' none h ⟨hb.os, hb.tape, hb.output, hb.size, fun q hq _ => hb.block q hq⟩ (fun r e => by cases e)
theorem kp_new {B : Nat} {w w' : World} (h : Kp B w w') (ho : ownOf B w = none) : ∀ g, ownOf B w' = some g → g < w'.heap.size := by
  intro g hg
  rcases h.own g hg with e | e
  · rw [ho] at e; cases e
  · exact e.2
theorem front_lt {p : List St} (hp : okP p) {f l : Bool} {fs L : List Nat} {d : Bool} (h : Front p f l fs L d) : L.length ≤ 200 ∧ ∀ j ∈ L, j < p.length := by
  have hl : ∀ j ∈ L, j < p.length := fun j hj => by
    obtain ⟨_, s, hs, _⟩ := (h.takes j).1 hj
    exact (List.getElem?_eq_some_iff.1 hs).1
  refine ⟨?_, hl⟩
  have := List.Nodup.length_le_of_subset h.nodup (l₂ := List.range p.length) (fun j hj => by simpa using hl j hj)
  have h2 := hp.2.1
  simp at this
  omega
theorem op_x0 {p : List St} (hp : okP p) (s : St) (h : s ∈ p) : 0 ≤ s.x := by
  have h1 := oneP_zero (hp.2.2 s h)
  by_cases h5 : s.op = 5
  · rw [h1.2.2.2.2.2 h5]; exact Int.le_refl _
  · exact (h1.2.1 h5).1
theorem int_beq (i n : Nat) : ((i : Int) == (n : Int)) = (i == n) := by
  by_cases h : i = n
  · subst h; simp
  · have h1 : (i == n) = false := by simpa using h
    have h2 : ((i : Int) == (n : Int)) = false := by simp; omega
    rw [h1, h2]

end Go.Proofs.YthcahjnniendnacGreatDoor
