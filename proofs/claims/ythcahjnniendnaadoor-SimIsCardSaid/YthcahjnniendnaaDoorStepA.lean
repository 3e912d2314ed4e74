/-
  Walks of package prog: one, Check. And sim.Checked.
-/
import Derived.Test.YthcahjnniendnaaDoorRexC
import Derived.Test.YthcahjnniendnaaDoorClsC
import Derived.Test.YthcahjnniendnaaDoorMemS
namespace Go.Proofs.YthcahjnniendnaaDoor
open Go.RowKit Wf

def ErrIs (n : Int) (w : World) (e : Ending) (w' : World) : Prop := e = .returned (errV n) ∧ Below w.heap.size w w'

def InIs (r : Bool) (w : World) (e : Ending) (w' : World) : Prop := e = .returned (.bool r) ∧ w = w'
theorem in_any (n k : Int) (b : Nat) (w : World) (hc : w.cell? ⟨b, 0, none⟩ = some (.int .i64 k)) :
    Calls Tryd.prog 43 #[.int .i64 n, .pointer (some ⟨b, 0, none⟩)] w (InIs (decide (0 ≤ n ∧ n < k)) w) := by
  by_cases h0 : 0 ≤ n
  · have d0 : decide (0 ≤ n) = true := by simpa using h0
    have hr : decide (0 ≤ n ∧ n < k) = decide (n < k) := by simp [h0]
    rw [hr]
    go_enter Tryd.func43, Tryd.ntmps43
    go_wp2
    go_ret
    exact ⟨rfl, rfl⟩
  · have d0 : decide (0 ≤ n) = false := by simpa using h0
    have hr : decide (0 ≤ n ∧ n < k) = false := by simp [h0]
    rw [hr]
    go_enter Tryd.func43, Tryd.ntmps43
    go_wp2
    go_ret
    exact ⟨rfl, rfl⟩

theorem err_is {n m : Int} (h : n = m) {w w' : World} (hb : Below w.heap.size w w') : ErrIs n w (.returned (errV m)) w' := ⟨by rw [h], hb⟩

set_option maxRecDepth 100000 in
set_option maxHeartbeats 8000000 in
theorem one_any (op x y : Int) (c0 c1 c2 c3 many : Nat) (w : World) : Calls Tryd.prog 35 #[.agg #[.int .i64 op, .int .u64 (c0 : Int), .int .u64 (c1 : Int), .int .u64 (c2 : Int), .int .u64 (c3 : Int), .int .i64 x, .int .i64 y], .int .i64 (many : Int)] w (ErrIs (oneP ⟨op, (c0, c1, c2, c3), x, y⟩ many) w) := by
  have hcm : ∀ o, ((w.alloc o).alloc (.cells #[.int .i64 (many : Int)] 3)).cell? ⟨w.heap.size + 1, 0, none⟩ = some (.int .i64 (many : Int)) := fun o => (Blk.new2 w o 3 #[.int .i64 (many : Int)]).cell 0
  have HBL2 := Lib.hid (fun o o' => below2 w o o')
  have HX : Hid (∀ W : World, W.cell? ⟨w.heap.size + 1, 0, none⟩ = some (.int .i64 (many : Int)) → Calls Tryd.prog 43 #[.int .i64 x, .pointer (some ⟨w.heap.size + 1, 0, none⟩)] W (InIs (decide (0 ≤ x ∧ x < many)) W)) := Lib.hid fun W h => in_any x many _ W h
  have HY : Hid (∀ W : World, W.cell? ⟨w.heap.size + 1, 0, none⟩ = some (.int .i64 (many : Int)) → Calls Tryd.prog 43 #[.int .i64 y, .pointer (some ⟨w.heap.size + 1, 0, none⟩)] W (InIs (decide (0 ≤ y ∧ y < many)) W)) := Lib.hid fun W h => in_any y many _ W h
  have HCM := Lib.hid hcm
  clear hcm
  have hz : cls4 c0 c1 c2 c3 (0 : Nat) (0 : Nat) (0 : Nat) (0 : Nat) = true ↔ (c0, c1, c2, c3) = zc := cls4_iff c0 c1 c2 c3 0 0 0 0
  have HZ := Lib.hid hz
  clear hz
  have hop : op < 1 ∨ 5 < op ∨ op = 1 ∨ op = 2 ∨ op = 3 ∨ op = 4 ∨ op = 5 := by omega
  rcases hop with h | h | rfl | rfl | rfl | rfl | rfl
  · have d1 : decide (op < 1) = true := by simpa using h
    have HR : Hid (oneP ⟨op, (c0, c1, c2, c3), x, y⟩ many = 1) := Lib.hid (by unfold oneP; simp; omega)
    rw [HR.out]
    go_enter Tryd.func35, Tryd.ntmps35
    go_wp2_with (first
      | (go_at_call_of 43 (Value.int .i64 y); refine (HY.out _ (HCM.out _)).mono ?_; rintro e w1 ⟨rfl, rfl⟩)
      | (go_at_call_of 43 (Value.int .i64 x); refine (HX.out _ (HCM.out _)).mono ?_; rintro e w1 ⟨rfl, rfl⟩))
    go_ret
    exact ⟨rfl, HBL2.out _ _⟩
  · have d1 : decide (op < 1) = false := by simp; omega
    have d2 : decide (5 < op) = true := by simpa using h
    have HR : Hid (oneP ⟨op, (c0, c1, c2, c3), x, y⟩ many = 1) := Lib.hid (by unfold oneP; simp; omega)
    rw [HR.out]
    go_enter Tryd.func35, Tryd.ntmps35
    go_wp2_with (first
      | (go_at_call_of 43 (Value.int .i64 y); refine (HY.out _ (HCM.out _)).mono ?_; rintro e w1 ⟨rfl, rfl⟩)
      | (go_at_call_of 43 (Value.int .i64 x); refine (HX.out _ (HCM.out _)).mono ?_; rintro e w1 ⟨rfl, rfl⟩))
    go_ret
    exact ⟨rfl, HBL2.out _ _⟩
  · skip
    by_cases hX : 0 ≤ x ∧ x < (many : Int)
    · have dX : decide (0 ≤ x ∧ x < (many : Int)) = true := by simpa using hX
      by_cases hy : y = 0
      · have dy : (y != 0) = false := by simpa using hy
        have HR : Hid (oneP ⟨1, (c0, c1, c2, c3), x, y⟩ many = 0) := Lib.hid (by unfold oneP; simp [hX, hy])
        clear hX hy
        rw [dX] at HX
        rw [HR.out]
        go_enter Tryd.func35, Tryd.ntmps35
        go_wp2_with (first
          | (go_at_call_of 43 (Value.int .i64 y); refine (HY.out _ (HCM.out _)).mono ?_; rintro e w1 ⟨rfl, rfl⟩)
          | (go_at_call_of 43 (Value.int .i64 x); refine (HX.out _ (HCM.out _)).mono ?_; rintro e w1 ⟨rfl, rfl⟩))
        go_ret
        exact ⟨rfl, HBL2.out _ _⟩
      · have dy : (y != 0) = true := by simpa using hy
        have HR : Hid (oneP ⟨1, (c0, c1, c2, c3), x, y⟩ many = 2) := Lib.hid (by unfold oneP; simp [hX, hy])
        clear hX hy
        rw [dX] at HX
        rw [HR.out]
        go_enter Tryd.func35, Tryd.ntmps35
        go_wp2_with (first
          | (go_at_call_of 43 (Value.int .i64 y); refine (HY.out _ (HCM.out _)).mono ?_; rintro e w1 ⟨rfl, rfl⟩)
          | (go_at_call_of 43 (Value.int .i64 x); refine (HX.out _ (HCM.out _)).mono ?_; rintro e w1 ⟨rfl, rfl⟩))
        go_ret
        exact ⟨rfl, HBL2.out _ _⟩
    · have dX : decide (0 ≤ x ∧ x < (many : Int)) = false := decide_eq_false hX
      have HR : Hid (oneP ⟨1, (c0, c1, c2, c3), x, y⟩ many = 1) := Lib.hid (by unfold oneP; simp [hX])
      clear hX
      rw [dX] at HX
      rw [HR.out]
      go_enter Tryd.func35, Tryd.ntmps35
      go_wp2_with (first
        | (go_at_call_of 43 (Value.int .i64 y); refine (HY.out _ (HCM.out _)).mono ?_; rintro e w1 ⟨rfl, rfl⟩)
        | (go_at_call_of 43 (Value.int .i64 x); refine (HX.out _ (HCM.out _)).mono ?_; rintro e w1 ⟨rfl, rfl⟩))
      go_ret
      exact ⟨rfl, HBL2.out _ _⟩
  · skip
    by_cases hX : 0 ≤ x ∧ x < (many : Int)
    · have dX : decide (0 ≤ x ∧ x < (many : Int)) = true := by simpa using hX
      by_cases hY : 0 ≤ y ∧ y < (many : Int)
      · have dY : decide (0 ≤ y ∧ y < (many : Int)) = true := by simpa using hY
        by_cases hC : (c0, c1, c2, c3) = zc
        · have dC : cls4 c0 c1 c2 c3 0 0 0 0 = true := HZ.out.2 hC
          have HR : Hid (oneP ⟨2, (c0, c1, c2, c3), x, y⟩ many = 0) := Lib.hid (by unfold oneP; simp [hX, hY, hC])
          clear hX hY hC
          rw [dX] at HX
          rw [dY] at HY
          rw [HR.out]
          go_enter Tryd.func35, Tryd.ntmps35
          go_wp2_with (first
            | (go_at_call_of 43 (Value.int .i64 y); refine (HY.out _ (HCM.out _)).mono ?_; rintro e w1 ⟨rfl, rfl⟩)
            | (go_at_call_of 43 (Value.int .i64 x); refine (HX.out _ (HCM.out _)).mono ?_; rintro e w1 ⟨rfl, rfl⟩))
          go_ret
          exact ⟨rfl, HBL2.out _ _⟩
        · have dC : cls4 c0 c1 c2 c3 0 0 0 0 = false := by cases hh : cls4 (c0 : Int) c1 c2 c3 0 0 0 0 with | false => rfl | true => exact absurd (HZ.out.1 hh) hC
          have HR : Hid (oneP ⟨2, (c0, c1, c2, c3), x, y⟩ many = 2) := Lib.hid (by unfold oneP; simp [hX, hY, hC])
          clear hX hY hC
          rw [dX] at HX
          rw [dY] at HY
          rw [HR.out]
          go_enter Tryd.func35, Tryd.ntmps35
          go_wp2_with (first
            | (go_at_call_of 43 (Value.int .i64 y); refine (HY.out _ (HCM.out _)).mono ?_; rintro e w1 ⟨rfl, rfl⟩)
            | (go_at_call_of 43 (Value.int .i64 x); refine (HX.out _ (HCM.out _)).mono ?_; rintro e w1 ⟨rfl, rfl⟩))
          go_ret
          exact ⟨rfl, HBL2.out _ _⟩
      · have dY : decide (0 ≤ y ∧ y < (many : Int)) = false := decide_eq_false hY
        have HR : Hid (oneP ⟨2, (c0, c1, c2, c3), x, y⟩ many = 1) := Lib.hid (by unfold oneP; simp [hX, hY])
        clear hX hY
        rw [dX] at HX
        rw [dY] at HY
        rw [HR.out]
        go_enter Tryd.func35, Tryd.ntmps35
        go_wp2_with (first
          | (go_at_call_of 43 (Value.int .i64 y); refine (HY.out _ (HCM.out _)).mono ?_; rintro e w1 ⟨rfl, rfl⟩)
          | (go_at_call_of 43 (Value.int .i64 x); refine (HX.out _ (HCM.out _)).mono ?_; rintro e w1 ⟨rfl, rfl⟩))
        go_ret
        exact ⟨rfl, HBL2.out _ _⟩
    · have dX : decide (0 ≤ x ∧ x < (many : Int)) = false := decide_eq_false hX
      have HR : Hid (oneP ⟨2, (c0, c1, c2, c3), x, y⟩ many = 1) := Lib.hid (by unfold oneP; simp [hX])
      clear hX
      rw [dX] at HX
      rw [HR.out]
      go_enter Tryd.func35, Tryd.ntmps35
      go_wp2_with (first
        | (go_at_call_of 43 (Value.int .i64 y); refine (HY.out _ (HCM.out _)).mono ?_; rintro e w1 ⟨rfl, rfl⟩)
        | (go_at_call_of 43 (Value.int .i64 x); refine (HX.out _ (HCM.out _)).mono ?_; rintro e w1 ⟨rfl, rfl⟩))
      go_ret
      exact ⟨rfl, HBL2.out _ _⟩
  · skip
    by_cases hX : 0 ≤ x ∧ x < (many : Int)
    · have dX : decide (0 ≤ x ∧ x < (many : Int)) = true := by simpa using hX
      by_cases hC : (c0, c1, c2, c3) = zc
      · have dC : cls4 c0 c1 c2 c3 0 0 0 0 = true := HZ.out.2 hC
        by_cases hy : y = 0
        · have dy : (y != 0) = false := by simpa using hy
          have HR : Hid (oneP ⟨3, (c0, c1, c2, c3), x, y⟩ many = 0) := Lib.hid (by unfold oneP; simp [hX, hC, hy])
          clear hX hC hy
          rw [dX] at HX
          rw [HR.out]
          go_enter Tryd.func35, Tryd.ntmps35
          go_wp2_with (first
            | (go_at_call_of 43 (Value.int .i64 y); refine (HY.out _ (HCM.out _)).mono ?_; rintro e w1 ⟨rfl, rfl⟩)
            | (go_at_call_of 43 (Value.int .i64 x); refine (HX.out _ (HCM.out _)).mono ?_; rintro e w1 ⟨rfl, rfl⟩))
          go_ret
          exact ⟨rfl, HBL2.out _ _⟩
        · have dy : (y != 0) = true := by simpa using hy
          have HR : Hid (oneP ⟨3, (c0, c1, c2, c3), x, y⟩ many = 2) := Lib.hid (by unfold oneP; simp [hX, hC, hy])
          clear hX hC hy
          rw [dX] at HX
          rw [HR.out]
          go_enter Tryd.func35, Tryd.ntmps35
          go_wp2_with (first
            | (go_at_call_of 43 (Value.int .i64 y); refine (HY.out _ (HCM.out _)).mono ?_; rintro e w1 ⟨rfl, rfl⟩)
            | (go_at_call_of 43 (Value.int .i64 x); refine (HX.out _ (HCM.out _)).mono ?_; rintro e w1 ⟨rfl, rfl⟩))
          go_ret
          exact ⟨rfl, HBL2.out _ _⟩
      · have dC : cls4 c0 c1 c2 c3 0 0 0 0 = false := by cases hh : cls4 (c0 : Int) c1 c2 c3 0 0 0 0 with | false => rfl | true => exact absurd (HZ.out.1 hh) hC
        have HR : Hid (oneP ⟨3, (c0, c1, c2, c3), x, y⟩ many = 2) := Lib.hid (by unfold oneP; simp [hX, hC])
        clear hX hC
        rw [dX] at HX
        rw [HR.out]
        go_enter Tryd.func35, Tryd.ntmps35
        go_wp2_with (first
          | (go_at_call_of 43 (Value.int .i64 y); refine (HY.out _ (HCM.out _)).mono ?_; rintro e w1 ⟨rfl, rfl⟩)
          | (go_at_call_of 43 (Value.int .i64 x); refine (HX.out _ (HCM.out _)).mono ?_; rintro e w1 ⟨rfl, rfl⟩))
        go_ret
        exact ⟨rfl, HBL2.out _ _⟩
    · have dX : decide (0 ≤ x ∧ x < (many : Int)) = false := decide_eq_false hX
      have HR : Hid (oneP ⟨3, (c0, c1, c2, c3), x, y⟩ many = 1) := Lib.hid (by unfold oneP; simp [hX])
      clear hX
      rw [dX] at HX
      rw [HR.out]
      go_enter Tryd.func35, Tryd.ntmps35
      go_wp2_with (first
        | (go_at_call_of 43 (Value.int .i64 y); refine (HY.out _ (HCM.out _)).mono ?_; rintro e w1 ⟨rfl, rfl⟩)
        | (go_at_call_of 43 (Value.int .i64 x); refine (HX.out _ (HCM.out _)).mono ?_; rintro e w1 ⟨rfl, rfl⟩))
      go_ret
      exact ⟨rfl, HBL2.out _ _⟩
  · skip
    by_cases hX : 0 ≤ x ∧ x < (many : Int)
    · have dX : decide (0 ≤ x ∧ x < (many : Int)) = true := by simpa using hX
      by_cases hC : (c0, c1, c2, c3) = zc
      · have dC : cls4 c0 c1 c2 c3 0 0 0 0 = true := HZ.out.2 hC
        by_cases hy : y = 0
        · have dy : (y != 0) = false := by simpa using hy
          have HR : Hid (oneP ⟨4, (c0, c1, c2, c3), x, y⟩ many = 0) := Lib.hid (by unfold oneP; simp [hX, hC, hy])
          clear hX hC hy
          rw [dX] at HX
          rw [HR.out]
          go_enter Tryd.func35, Tryd.ntmps35
          go_wp2_with (first
            | (go_at_call_of 43 (Value.int .i64 y); refine (HY.out _ (HCM.out _)).mono ?_; rintro e w1 ⟨rfl, rfl⟩)
            | (go_at_call_of 43 (Value.int .i64 x); refine (HX.out _ (HCM.out _)).mono ?_; rintro e w1 ⟨rfl, rfl⟩))
          go_ret
          exact ⟨rfl, HBL2.out _ _⟩
        · have dy : (y != 0) = true := by simpa using hy
          have HR : Hid (oneP ⟨4, (c0, c1, c2, c3), x, y⟩ many = 2) := Lib.hid (by unfold oneP; simp [hX, hC, hy])
          clear hX hC hy
          rw [dX] at HX
          rw [HR.out]
          go_enter Tryd.func35, Tryd.ntmps35
          go_wp2_with (first
            | (go_at_call_of 43 (Value.int .i64 y); refine (HY.out _ (HCM.out _)).mono ?_; rintro e w1 ⟨rfl, rfl⟩)
            | (go_at_call_of 43 (Value.int .i64 x); refine (HX.out _ (HCM.out _)).mono ?_; rintro e w1 ⟨rfl, rfl⟩))
          go_ret
          exact ⟨rfl, HBL2.out _ _⟩
      · have dC : cls4 c0 c1 c2 c3 0 0 0 0 = false := by cases hh : cls4 (c0 : Int) c1 c2 c3 0 0 0 0 with | false => rfl | true => exact absurd (HZ.out.1 hh) hC
        have HR : Hid (oneP ⟨4, (c0, c1, c2, c3), x, y⟩ many = 2) := Lib.hid (by unfold oneP; simp [hX, hC])
        clear hX hC
        rw [dX] at HX
        rw [HR.out]
        go_enter Tryd.func35, Tryd.ntmps35
        go_wp2_with (first
          | (go_at_call_of 43 (Value.int .i64 y); refine (HY.out _ (HCM.out _)).mono ?_; rintro e w1 ⟨rfl, rfl⟩)
          | (go_at_call_of 43 (Value.int .i64 x); refine (HX.out _ (HCM.out _)).mono ?_; rintro e w1 ⟨rfl, rfl⟩))
        go_ret
        exact ⟨rfl, HBL2.out _ _⟩
    · have dX : decide (0 ≤ x ∧ x < (many : Int)) = false := decide_eq_false hX
      have HR : Hid (oneP ⟨4, (c0, c1, c2, c3), x, y⟩ many = 1) := Lib.hid (by unfold oneP; simp [hX])
      clear hX
      rw [dX] at HX
      rw [HR.out]
      go_enter Tryd.func35, Tryd.ntmps35
      go_wp2_with (first
        | (go_at_call_of 43 (Value.int .i64 y); refine (HY.out _ (HCM.out _)).mono ?_; rintro e w1 ⟨rfl, rfl⟩)
        | (go_at_call_of 43 (Value.int .i64 x); refine (HX.out _ (HCM.out _)).mono ?_; rintro e w1 ⟨rfl, rfl⟩))
      go_ret
      exact ⟨rfl, HBL2.out _ _⟩
  · skip
    by_cases hC : (c0, c1, c2, c3) = zc
    · have dC : cls4 c0 c1 c2 c3 0 0 0 0 = true := HZ.out.2 hC
      by_cases hy : y = 0
      · have dy : (y != 0) = false := by simpa using hy
        by_cases hx : x = 0
        · have dx : (x != 0) = false := by simpa using hx
          have HR : Hid (oneP ⟨5, (c0, c1, c2, c3), x, y⟩ many = 0) := Lib.hid (by unfold oneP; simp [hC, hy, hx])
          clear hC hy hx
          rw [HR.out]
          go_enter Tryd.func35, Tryd.ntmps35
          go_wp2_with (first
            | (go_at_call_of 43 (Value.int .i64 y); refine (HY.out _ (HCM.out _)).mono ?_; rintro e w1 ⟨rfl, rfl⟩)
            | (go_at_call_of 43 (Value.int .i64 x); refine (HX.out _ (HCM.out _)).mono ?_; rintro e w1 ⟨rfl, rfl⟩))
          go_ret
          exact ⟨rfl, HBL2.out _ _⟩
        · have dx : (x != 0) = true := by simpa using hx
          have HR : Hid (oneP ⟨5, (c0, c1, c2, c3), x, y⟩ many = 2) := Lib.hid (by unfold oneP; simp [hC, hy, hx])
          clear hC hy hx
          rw [HR.out]
          go_enter Tryd.func35, Tryd.ntmps35
          go_wp2_with (first
            | (go_at_call_of 43 (Value.int .i64 y); refine (HY.out _ (HCM.out _)).mono ?_; rintro e w1 ⟨rfl, rfl⟩)
            | (go_at_call_of 43 (Value.int .i64 x); refine (HX.out _ (HCM.out _)).mono ?_; rintro e w1 ⟨rfl, rfl⟩))
          go_ret
          exact ⟨rfl, HBL2.out _ _⟩
      · have dy : (y != 0) = true := by simpa using hy
        have HR : Hid (oneP ⟨5, (c0, c1, c2, c3), x, y⟩ many = 2) := Lib.hid (by unfold oneP; simp [hC, hy])
        clear hC hy
        rw [HR.out]
        go_enter Tryd.func35, Tryd.ntmps35
        go_wp2_with (first
          | (go_at_call_of 43 (Value.int .i64 y); refine (HY.out _ (HCM.out _)).mono ?_; rintro e w1 ⟨rfl, rfl⟩)
          | (go_at_call_of 43 (Value.int .i64 x); refine (HX.out _ (HCM.out _)).mono ?_; rintro e w1 ⟨rfl, rfl⟩))
        go_ret
        exact ⟨rfl, HBL2.out _ _⟩
    · have dC : cls4 c0 c1 c2 c3 0 0 0 0 = false := by cases hh : cls4 (c0 : Int) c1 c2 c3 0 0 0 0 with | false => rfl | true => exact absurd (HZ.out.1 hh) hC
      have HR : Hid (oneP ⟨5, (c0, c1, c2, c3), x, y⟩ many = 2) := Lib.hid (by unfold oneP; simp [hC])
      clear hC
      rw [HR.out]
      go_enter Tryd.func35, Tryd.ntmps35
      go_wp2_with (first
        | (go_at_call_of 43 (Value.int .i64 y); refine (HY.out _ (HCM.out _)).mono ?_; rintro e w1 ⟨rfl, rfl⟩)
        | (go_at_call_of 43 (Value.int .i64 x); refine (HX.out _ (HCM.out _)).mono ?_; rintro e w1 ⟨rfl, rfl⟩))
      go_ret
      exact ⟨rfl, HBL2.out _ _⟩

end Go.Proofs.YthcahjnniendnaaDoor
