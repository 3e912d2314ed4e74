/-
  The walk of the document's joined.
-/
import Derived.Test.YthcahjnniendnabDoorRB
namespace Go.Proofs.YthcahjnniendnabDoor
open Go.RowKit Wf

/-- The call hands back a new row of N truth values. -/
def NewB (N : Nat) (P : (Nat → Bool) → Prop) (w : World) (e : Ending) (w' : World) : Prop :=
  ∃ (g : Nat) (D : Nat → Bool), e = .returned (.slice (some ⟨g, 0, none⟩) N N) ∧ RB w' g N D ∧ P D ∧ Below w.heap.size w w'
def JoinIs (N : Nat) (A B : Nat → Bool) (w : World) (e : Ending) (w' : World) : Prop :=
  ∃ g : Nat, e = .returned (.slice (some ⟨g, 0, none⟩) N N) ∧ RB w' g N (fun j => A j || B j) ∧ Below w.heap.size w w'

set_option maxRecDepth 100000 in
set_option maxHeartbeats 4000000 in
theorem joined_any (ga gb N : Nat) (hN : N ≤ 1000) (A B : Nat → Bool) (w : World) (ha : RB w ga N A) (hb : RB w gb N B) :
    Calls Tryd.prog 89 #[.slice (some ⟨ga, 0, none⟩) N N, .slice (some ⟨gb, 0, none⟩) N N] w (JoinIs N A B w) := by
  have HA := Lib.hid ha
  have HB := Lib.hid hb
  have hmk := fun W => mk_bools N (by omega) W
  have hla := ha.lt
  have hlb := hb.lt
  clear ha hb
  go_enter Tryd.func89, Tryd.ntmps89
  go_wp2
  clear hmk
  go_loopw [6] (fun v4 wr => ∃ k : Nat, k ≤ N ∧ v4 = .int .i64 (k : Int) ∧ Hid (RB wr w.heap.size N (fun j => decide (j < k) && (A j || B j))) ∧ Hid (Below w.heap.size w wr)) (fun i _ => N - (intOf i).toNat)
  case atStart => exact ⟨0, by omega, rfl, Lib.hid ((RB.new w N).as fun j _ => by simp), Lib.hid ((Below.refl _ _).alloc (Nat.le_refl _) _)⟩
  case round =>
    obtain ⟨k, hk, rfl, hR, hBL⟩ := hrel
    by_cases hlt : k < N
    · have x1 := (HA.out.below hBL.out).cell hlt
      have x2 := (HB.out.below hBL.out).cell hlt
      have x3 := hR.out.cell hlt
      have hfz := hR.out.frozen k
      have hk1 : (k : Int) < (N : Int) := by omega
      obtain ⟨x, hx⟩ : ∃ x, x = A k := ⟨_, rfl⟩
      obtain ⟨y, hy⟩ : ∃ y, y = B k := ⟨_, rfl⟩
      rw [← hx] at x1
      rw [← hy] at x2
      have HX := Lib.hid hx
      have HY := Lib.hid hy
      clear hx hy
      have key : Hid (RB (wr.setCell ⟨w.heap.size, k, none⟩ (.bool (x || y))) w.heap.size N (fun j => decide (j < k + 1) && (A j || B j))) := Lib.hid ((hR.out.set_ k _).as fun j hj => by
        unfold setD
        by_cases e : j = k
        · subst e
          rw [if_pos rfl, HX.out, HY.out]
          simp
        · rw [if_neg e]
          have : decide (j < k + 1) = decide (j < k) := by rw [decide_eq_decide]; omega
          rw [this])
      clear HX HY
      cases x <;> cases y
      all_goals
        go_wp2
        go_roundw
        case rel => exact ⟨k + 1, by omega, by go_num, key, Lib.hid (hBL.out.setCell (Nat.le_refl _) _)⟩
        case measure => simp [intOf]; omega
    · obtain rfl : k = N := by omega
      go_wp2
      go_ret
      exact ⟨_, rfl, hR.out.as fun j hj => by simp [hj], hBL.out⟩

end Go.Proofs.YthcahjnniendnabDoor
