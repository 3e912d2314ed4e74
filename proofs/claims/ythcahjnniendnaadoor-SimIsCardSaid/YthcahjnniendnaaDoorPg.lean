/-
  Where a byte leads from some steps of a program. No program in sight.
-/
import Derived.Test.YthcahjnniendnaaDoorMemS
namespace Go.Proofs.YthcahjnniendnaaDoor
open Wf

/-- Where a byte leads from some taking steps. -/
def goL (p : List St) (b : Nat) (L : List Nat) : List Nat := L.flatMap fun i => match p[i]? with
  | some s => if has s.cls b then [s.x.toNat] else []
  | none => []
theorem goL_snoc (p : List St) (b : Nat) (L : List Nat) (i : Nat) (s : St) (h : p[i]? = some s) : goL p b (L ++ [i]) = goL p b L ++ (if has s.cls b then [s.x.toNat] else []) := by
  unfold goL
  simp [h]
theorem goL_len (p : List St) (b : Nat) (L : List Nat) : (goL p b L).length ≤ L.length := by
  induction L with
  | nil => simp [goL]
  | cons i r ih =>
    have : goL p b (i :: r) = (match p[i]? with | some s => if has s.cls b then [s.x.toNat] else [] | none => []) ++ goL p b r := rfl
    rw [this, List.length_append, List.length_cons]
    have : (match p[i]? with | some s => if has s.cls b then [s.x.toNat] else [] | none => ([] : List Nat)).length ≤ 1 := by
      split
      · split <;> simp
      · simp
    omega

end Go.Proofs.YthcahjnniendnaaDoor
