/-
  Walks of package sim: the closure in Spread.
-/
import Derived.Test.YthcahjnniendnaaDoorStepB
import Derived.Test.YthcahjnniendnaaDoorRexB
namespace Go.Proofs.YthcahjnniendnaaDoor
open Go.RowKit Wf

/-- What was seen, as a row. -/
def seenA (n : Nat) (S : Nat → Bool) : Array Value := ⟨(List.range n).map fun j => Value.bool (S j)⟩
theorem seenA_size (n : Nat) (S : Nat → Bool) : (seenA n S).size = n := by simp [seenA]
theorem seenA_get (n : Nat) (S : Nat → Bool) (j : Nat) (h : j < n) : (seenA n S)[j]? = some (.bool (S j)) := by simp [seenA, h]
theorem seenA_set (n : Nat) (S : Nat → Bool) (i : Nat) (h : i < n) : (seenA n S).setIfInBounds i (.bool true) = seenA n (Wf.mark S i) := by
  apply Array.ext_getElem?
  intro j
  rw [Array.getElem?_setIfInBounds]
  by_cases hj : j < n
  · rw [seenA_get n (Wf.mark S i) j hj]
    by_cases e : i = j
    · subst e
      rw [if_pos rfl, if_pos (by rw [seenA_size]; exact h)]
      simp [Wf.mark]
    · rw [if_neg e, seenA_get n S j hj]
      have : (j == i) = false := by simp; omega
      simp [Wf.mark, this]
  · have hr : (seenA n (Wf.mark S i))[j]? = none := Array.getElem?_eq_none (by rw [seenA_size]; omega)
    have hl : (seenA n S)[j]? = none := Array.getElem?_eq_none (by rw [seenA_size]; omega)
    rw [hr, hl, if_neg (by omega)]

theorem cnt_mono {S S' : Nat → Bool} (h : ∀ j, S j = true → S' j = true) : ∀ n, cnt S' n ≤ cnt S n := by
  have key : ∀ j, (if S' j = true then 0 else 1) ≤ (if S j = true then 0 else 1) := by
    intro j
    by_cases hj : S j = true
    · rw [if_pos hj, if_pos (h j hj)]; omega
    · rw [if_neg hj]; split <;> omega
  intro n
  induction n with
  | zero => exact key 0
  | succ n ih => simp only [cnt]; have := key (n + 1); omega

/-- What stays over a walk: all but two blocks and the rows of numbers. -/
structure Fk (B : Nat) (w w' : World) : Prop where
  size : w.heap.size ≤ w'.heap.size
  kept : ∀ k, k < w.heap.size → k ≠ B + 4 → k ≠ B + 5 → (∀ cs fr, w.heap[k]? ≠ some (.cells cs 3 fr)) → w'.heap[k]? = w.heap[k]?
theorem Fk.refl (B : Nat) (w : World) : Fk B w w := ⟨Nat.le_refl _, fun _ _ _ _ _ => rfl⟩
theorem Fk.trans {B : Nat} {a b c : World} (h : Fk B a b) (k : Fk B b c) : Fk B a c :=
  ⟨Nat.le_trans h.size k.size, fun j h1 h2 h3 h4 => by
    have e := h.kept j h1 h2 h3 h4
    rw [k.kept j (Nat.lt_of_lt_of_le h1 h.size) h2 h3 (by rw [e]; exact h4), e]⟩
theorem Fk.alloc {B : Nat} {a w : World} (h : Fk B a w) (o : Obj) : Fk B a (w.alloc o) :=
  h.trans ⟨by simp, fun k hk _ _ _ => Below.heap_alloc w o k hk⟩
theorem Fk.set4 {B : Nat} {a w : World} (h : Fk B a w) (j : Nat) (v : Value) : Fk B a (w.setCell ⟨B + 4, j, none⟩ v) :=
  h.trans ⟨by simp, fun k hk h4 _ _ => Below.heap_setCell w _ v k h4⟩
theorem Fk.set5 {B : Nat} {a w : World} (h : Fk B a w) (j : Nat) (v : Value) : Fk B a (w.setCell ⟨B + 5, j, none⟩ v) :=
  h.trans ⟨by simp, fun k hk _ h5 _ => Below.heap_setCell w _ v k h5⟩
theorem Fk.grown {B : Nat} {a w w' : World} {base n : Nat} {v : Value} {xs : List Value} (h : Fk B a w) (ho : w.ownsRow base 3 1 v n xs) (hg : w.grownBy w' v.ownBlock) : Fk B a w' :=
  h.trans ⟨hg.size, fun k hk _ _ h6 => hg.block k hk (fun e => by
    rcases ho.2 with ⟨rfl, _⟩ | ⟨g, cap, cur, rfl, _, hgg, _⟩
    · simp [Value.ownBlock] at e
    · simp only [Value.ownBlock, Option.some.injEq] at e
      subst e
      exact h6 _ _ hgg)⟩
theorem Blk.fk {B : Nat} {w w' : World} {k : Nat} {t : TypeId} {cs : Array Value} (h : Blk w k t cs) (hf : Fk B w w') (ht : t ≠ 3) (h4 : k ≠ B + 4) (h5 : k ≠ B + 5) : Blk w' k t cs :=
  (hf.kept k h.lt h4 h5 (fun cs' fr e => by
    unfold Blk at h
    rw [h] at e
    simp at e
    exact ht e.2.1)).trans h

/-- What the closure in Spread carries. -/
def walkV (B : Nat) : Value := .func (.func 36) #[] #[.pointer (some ⟨B + 6, 0, none⟩), .pointer (some ⟨B, 0, none⟩), .pointer (some ⟨B + 4, 0, none⟩), .pointer (some ⟨B + 7, 0, none⟩), .pointer (some ⟨B + 1, 0, none⟩), .pointer (some ⟨B + 2, 0, none⟩)]

/-- The world of Spread: what was seen, what came, whether the end was met. -/
structure SEnv (w0 : World) (n : Nat) (pv : Value) (f l : Bool) (S : Nat → Bool) (L : List Nat) (d : Bool) (v : Value) (w : World) : Prop where
  bp : Blk w w0.heap.size 22 #[pv]
  bf : Blk w (w0.heap.size + 1) 4 #[.bool f]
  bl : Blk w (w0.heap.size + 2) 4 #[.bool l]
  fr : Blk w (w0.heap.size + 4) 70 #[v, .bool d]
  own : w.ownsRow (w0.heap.size + 8) 3 1 v L.length (natVals L)
  seen : Blk w (w0.heap.size + 5) 4 (seenA n S)
  sb : Blk w (w0.heap.size + 6) 54 #[.slice (some ⟨w0.heap.size + 5, 0, none⟩) n n]
  wb : Blk w (w0.heap.size + 7) 77 #[walkV w0.heap.size]
  bel : Below w0.heap.size w0 w

section
variable {w0 w : World} {n : Nat} {pv : Value} {f l : Bool} {S : Nat → Bool} {L : List Nat} {d : Bool} {v : Value}

theorem SEnv.alloc (h : SEnv w0 n pv f l S L d v w) (o : Obj) : SEnv w0 n pv f l S L d v (w.alloc o) :=
  ⟨h.bp.alloc o, h.bf.alloc o, h.bl.alloc o, h.fr.alloc o, h.own.alloc o, h.seen.alloc o, h.sb.alloc o, h.wb.alloc o, h.bel.alloc h.bel.size o⟩

theorem SEnv.mark (h : SEnv w0 n pv f l S L d v w) (i : Nat) (hi : i < n) : SEnv w0 n pv f l (Wf.mark S i) L d v (w.setCell ⟨w0.heap.size + 5, i, none⟩ (.bool true)) := by
  have hown := fun k hk => h.own.lt k hk
  refine ⟨h.bp.far (by show w0.heap.size ≠ w0.heap.size + 5; omega) _, h.bf.far (by show w0.heap.size + 1 ≠ w0.heap.size + 5; omega) _, h.bl.far (by show w0.heap.size + 2 ≠ w0.heap.size + 5; omega) _, h.fr.far (by show w0.heap.size + 4 ≠ w0.heap.size + 5; omega) _, ?_, ?_, h.sb.far (by show w0.heap.size + 6 ≠ w0.heap.size + 5; omega) _, h.wb.far (by show w0.heap.size + 7 ≠ w0.heap.size + 5; omega) _, h.bel.setCell (by show w0.heap.size ≤ w0.heap.size + 5; omega) _⟩
  · refine h.own.kept (row := some (w0.heap.size + 5)) ⟨rfl, rfl, rfl, by simp, fun k _ hk => Below.heap_setCell w _ _ k (fun e => hk (by rw [e]))⟩ ?_
    cases hv : v.ownBlock with
    | none => exact .inl rfl
    | some k => exact .inr (fun e => by have := (hown k hv).1; simp at e; omega)
  · have := h.seen.set_ i (.bool true)
    rw [seenA_set n S i hi] at this
    exact this

theorem SEnv.end_ (h : SEnv w0 n pv f l S L d v w) : SEnv w0 n pv f l S L true v (w.setCell ⟨w0.heap.size + 4, 1, none⟩ (.bool true)) := by
  have hown := fun k hk => h.own.lt k hk
  refine ⟨h.bp.far (by show w0.heap.size ≠ w0.heap.size + 4; omega) _, h.bf.far (by show w0.heap.size + 1 ≠ w0.heap.size + 4; omega) _, h.bl.far (by show w0.heap.size + 2 ≠ w0.heap.size + 4; omega) _, ?_, ?_, h.seen.far (by show w0.heap.size + 5 ≠ w0.heap.size + 4; omega) _, h.sb.far (by show w0.heap.size + 6 ≠ w0.heap.size + 4; omega) _, h.wb.far (by show w0.heap.size + 7 ≠ w0.heap.size + 4; omega) _, h.bel.setCell (by show w0.heap.size ≤ w0.heap.size + 4; omega) _⟩
  · have := h.fr.set_ 1 (.bool true)
    exact this
  · refine h.own.kept (row := some (w0.heap.size + 4)) ⟨rfl, rfl, rfl, by simp, fun k _ hk => Below.heap_setCell w _ _ k (fun e => hk (by rw [e]))⟩ ?_
    cases hv : v.ownBlock with
    | none => exact .inl rfl
    | some k => exact .inr (fun e => by have := (hown k hv).1; simp at e; omega)

/-- A number more, behind an append. -/
theorem SEnv.take (h : SEnv w0 n pv f l S L d v w) {w' : World} {v' : Value} {i : Nat} (hown' : w'.ownsRow (w0.heap.size + 8) 3 1 v' (L.length + 1) (natVals L ++ [.int .i64 (i : Int)])) (hg : w.grownBy w' v.ownBlock) :
    Blk w' (w0.heap.size + 4) 70 #[v, .bool d] ∧ SEnv w0 n pv f l S (L ++ [i]) d v' (w'.setCell ⟨w0.heap.size + 4, 0, none⟩ v') := by
  have hown := fun k hk => h.own.lt k hk
  have kp : ∀ {k : Nat} {t : TypeId} {cs : Array Value}, Blk w k t cs → k < w0.heap.size + 8 → Blk w' k t cs := fun hb hk => (hg.block _ hb.lt (fun e => by have := (hown _ e.symm).1; omega)).trans hb
  have hfr := kp h.fr (by omega)
  have hbel : Below w0.heap.size w0 w' := h.bel.trans ⟨hg.os, hg.tape, hg.output, hg.size, fun k hk => by
    have hk' : k < w.heap.size := by have := h.bp.lt; omega
    exact hg.block k hk' (fun e => by have := (hown _ e.symm).1; omega)⟩
  refine ⟨hfr, ?_, ?_, ?_, ?_, ?_, ?_, ?_, ?_, ?_⟩
  · exact (kp h.bp (by omega)).far (by show w0.heap.size ≠ w0.heap.size + 4; omega) _
  · exact (kp h.bf (by omega)).far (by show w0.heap.size + 1 ≠ w0.heap.size + 4; omega) _
  · exact (kp h.bl (by omega)).far (by show w0.heap.size + 2 ≠ w0.heap.size + 4; omega) _
  · exact hfr.set_ 0 v'
  · have hlt' := fun k hk => hown'.lt k hk
    have hn : natVals (L ++ [i]) = natVals L ++ [.int .i64 (i : Int)] := by simp [natVals]
    rw [hn, List.length_append]
    refine hown'.kept (row := some (w0.heap.size + 4)) ⟨rfl, rfl, rfl, by simp, fun k _ hk => Below.heap_setCell w' _ _ k (fun e => hk (by rw [e]))⟩ ?_
    cases hv : v'.ownBlock with
    | none => exact .inl rfl
    | some k => exact .inr (fun e => by have := (hlt' k hv).1; simp at e; omega)
  · exact (kp h.seen (by omega)).far (by show w0.heap.size + 5 ≠ w0.heap.size + 4; omega) _
  · exact (kp h.sb (by omega)).far (by show w0.heap.size + 6 ≠ w0.heap.size + 4; omega) _
  · exact (kp h.wb (by omega)).far (by show w0.heap.size + 7 ≠ w0.heap.size + 4; omega) _
  · exact hbel.setCell (by show w0.heap.size ≤ w0.heap.size + 4; omega) _

end

end Go.Proofs.YthcahjnniendnaaDoor
