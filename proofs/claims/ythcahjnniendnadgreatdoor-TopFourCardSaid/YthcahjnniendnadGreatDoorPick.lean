/-
  The walk of winnowfansame.Pick.
-/
import Derived.Test.YthcahjnniendnadGreatDoorLaws
import Derived.Test.YthcahjnniendnadGreatDoorMem
namespace Go.Proofs.YthcahjnniendnadGreatDoor.pickW
open Go.RowKit Wf
set_option linter.unusedVariables false

set_option maxRecDepth 100000 in
theorem Pick_c (k : Int) (hk : -9223372036854775808 ≤ k ∧ k ≤ 9223372036854775807) (n : Nat) (hn : 0 < n) (hn2 : n ≤ 9223372036854775807) (w : World) :
    Calls Tryz.prog 22 #[.int .i64 k, .int .i64 (n : Int)] w (fun e w' => ∃ i : Nat, i < n ∧ e = .returned (.int .i64 (i : Int)) ∧ Below w.heap.size w w') := by
  have key : ∀ c : Nat, c ≤ 9223372036854775807 → IntKind.i64.wrap (Int.tmod (c : Int) (n : Int)) = ((c % n : Nat) : Int) ∧ c % n < n := fun c hc => by
    have h1 : Int.tmod (c : Int) (n : Int) = ((c % n : Nat) : Int) := rfl
    have h2 : c % n < n := Nat.mod_lt _ hn
    refine ⟨?_, h2⟩
    rw [h1, IntKind.wrap_i64]
    omega
  have hz : (n : Int) ≠ 0 := by omega
  have hz2 : ((n : Int) == 0) = false := by simp; omega
  by_cases h0 : k < 0
  · have hd : decide (k < 0) = true := by simpa using h0
    obtain ⟨c, hc⟩ : ∃ c : Nat, (c : Int) = -(k + 1) := ⟨(-(k + 1)).toNat, by omega⟩
    have hc2 : c ≤ 9223372036854775807 := by omega
    obtain ⟨e1, e2⟩ := key c hc2
    have w1 : IntKind.i64.wrap (k + 1) = k + 1 := by rw [IntKind.wrap_i64]; omega
    have w2 : IntKind.i64.wrap (-(k + 1)) = (c : Int) := by rw [IntKind.wrap_i64]; omega
    have w3 : -(k + 1) = (c : Int) := hc.symm
    have e1' : Int.tmod (c : Int) (n : Int) = ((c % n : Nat) : Int) := rfl
    have hl : c % n < n := e2
    generalize c % n = r at *
    have w4 : IntKind.i64.wrap (r : Int) = (r : Int) := by rw [IntKind.wrap_i64]; omega
    clear key hc
    go_enter Tryz.func22, Tryz.ntmps22
    go_wp2
    go_ret
    exact ⟨r, hl, by first | rfl | go_num, Below.refl _ _⟩
  · have hd : decide (k < 0) = false := by simpa using h0
    obtain ⟨c, rfl⟩ : ∃ c : Nat, k = (c : Int) := ⟨k.toNat, by omega⟩
    have hc2 : c ≤ 9223372036854775807 := by omega
    obtain ⟨e1, e2⟩ := key c hc2
    have e1' : Int.tmod (c : Int) (n : Int) = ((c % n : Nat) : Int) := rfl
    have hl : c % n < n := e2
    generalize c % n = r at *
    have w4 : IntKind.i64.wrap (r : Int) = (r : Int) := by rw [IntKind.wrap_i64]; omega
    clear key
    go_enter Tryz.func22, Tryz.ntmps22
    go_wp2
    go_ret
    exact ⟨r, hl, by first | rfl | go_num, Below.refl _ _⟩
end Go.Proofs.YthcahjnniendnadGreatDoor.pickW
