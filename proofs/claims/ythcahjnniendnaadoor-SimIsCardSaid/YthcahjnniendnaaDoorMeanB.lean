/-
  Walks of the fitter's then and often, by what its from does at a part.
-/
import Derived.Test.YthcahjnniendnaaDoorMeanA
import Derived.Test.YthcahjnniendnaaDoorQueue
namespace Go.Proofs.YthcahjnniendnaaDoor
open Go.RowKit Wf

theorem grown_new {w w1 w2 : World} {M p : Nat} (h : w.grownBy w1 (some M)) (h2 : w1.grownBy w2 (some p)) (hp : w.heap.size ≤ p) : w.grownBy w2 (some M) :=
  ⟨h2.os.trans h.os, h2.tape.trans h.tape, h2.output.trans h.output, Nat.le_trans h.size h2.size, fun i hi hne =>
    (h2.block i (Nat.lt_of_lt_of_le hi h.size) (fun e => by have := Option.some.inj e; omega)).trans (h.block i hi hne)⟩
theorem grown_below {w w1 w2 : World} {M : Nat} (h : w.grownBy w1 (some M)) (h2 : Below w1.heap.size w1 w2) : w.grownBy w2 (some M) :=
  ⟨h2.os.trans h.os, h2.tape.trans h.tape, h2.output.trans h.output, Nat.le_trans h.size h2.size, fun i hi hne => (h2.block i (Nat.lt_of_lt_of_le hi h.size)).trans (h.block i hi hne)⟩

section
variable (l : List Nd) (s : ByteArray) (b off cap ge F M : Nat)

end

section
variable {l : List Nd} {s : ByteArray} {b off cap ge F M : Nat} {O : Nat → Prop} {w w' : World}

theorem Pl.ne_blk {w : World} {g n q : Nat} {P : Nat → Prop} {cur : Array Value} {t : TypeId} (h : Pl w g n P) (hc : w.heap[q]? = some (.cells cur t (0, 0))) (ht : t ≠ 4) : g ≠ q := by
  rintro rfl
  obtain ⟨cs, hb, _⟩ := h
  unfold Blk at hb
  rw [hb] at hc
  cases hc
  exact ht rfl

theorem natVals_snoc (xs : List Nat) (k : Nat) : natVals (xs ++ [k]) = natVals xs ++ [.int .i64 (k : Int)] := by simp [natVals]
theorem natVals_len (xs : List Nat) : (natVals xs).length = xs.length := by simp [natVals]

end

end Go.Proofs.YthcahjnniendnaaDoor
