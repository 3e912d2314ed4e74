/-
  StepA, StepB.
-/
import Derived.Test.YthhcpbfgoofppaaGreatDoorGCls
import Derived.Test.YthhcpbfgoofppaaGreatDoorGRex
import Derived.Test.YthhcpbfgoofppaaGreatDoorMemS
set_option linter.unusedVariables false
set_option linter.unusedSimpArgs false
set_option maxRecDepth 100000
set_option maxHeartbeats 8000000
open Go.Lib (hid)
namespace Go.Proofs.YthhcpbfgoofppaaGreatDoor
open Go.RowKit Wf
def ErrIs (n : Int) (w : World) (e : Ending) (w' : World) : Prop:=e = .returned (errV n) ∧ Below w.heap.size w w'
def InIs (r : Bool) (w : World) (e : Ending) (w' : World) : Prop:=e = .returned (.bool r) ∧ w = w'
theorem in_any (n k : Int) (b : Nat) (w : World) (hc : w.cell? ⟨b,0,none⟩ = some (.int .i64 k)) :
 Calls Tryz.prog 208 #[.int .i64 n,.pointer (some ⟨b,0,none⟩)] w (InIs (decide (0 ≤ n ∧ n < k)) w):=by
 by_cases h0 : 0 ≤ n
 ·have d0 : decide (0 ≤ n) = true:=by simpa using h0
  have hr : decide (0 ≤ n ∧ n < k) = decide (n < k):=by simp [h0]
  rw [hr]
  go_enter Tryz.func208,Tryz.ntmps208
  go_wp2
  go_ret
  exact ⟨rfl,rfl⟩
 ·have d0 : decide (0 ≤ n) = false:=by simpa using h0
  have hr : decide (0 ≤ n ∧ n < k) = false:=by simp [h0]
  rw [hr]
  go_enter Tryz.func208,Tryz.ntmps208
  go_wp2
  go_ret
  exact ⟨rfl,rfl⟩
theorem one_any (op x y : Int) (c0 c1 c2 c3 many : Nat) (w : World) : Calls Tryz.prog 185 #[.agg #[.int .i64 op,.int .u64 (c0 : Int),.int .u64 (c1 : Int),.int .u64 (c2 : Int),.int .u64 (c3 : Int),.int .i64 x,.int .i64 y],.int .i64 (many : Int)] w (ErrIs (oneP ⟨op,(c0,c1,c2,c3),x,y⟩ many) w):=by
 have hcm : ∀ o,((w.alloc o).alloc (.cells #[.int .i64 (many : Int)] 3)).cell? ⟨w.heap.size + 1,0,none⟩ = some (.int .i64 (many : Int)):=fun o => (Blk.new2 w o 3 #[.int .i64 (many : Int)]).cell 0
 have HBL2:=hid (fun o o' => below2 w o o')
 have HX : Hid (∀ W : World,W.cell? ⟨w.heap.size + 1,0,none⟩ = some (.int .i64 (many : Int)) → Calls Tryz.prog 208 #[.int .i64 x,.pointer (some ⟨w.heap.size + 1,0,none⟩)] W (InIs (decide (0 ≤ x ∧ x < many)) W)):=hid fun W h => in_any x many _ W h
 have HY : Hid (∀ W : World,W.cell? ⟨w.heap.size + 1,0,none⟩ = some (.int .i64 (many : Int)) → Calls Tryz.prog 208 #[.int .i64 y,.pointer (some ⟨w.heap.size + 1,0,none⟩)] W (InIs (decide (0 ≤ y ∧ y < many)) W)):=hid fun W h => in_any y many _ W h
 have HCM:=hid hcm
 clear hcm
 have hz : cls4 c0 c1 c2 c3 (0 : Nat) (0 : Nat) (0 : Nat) (0 : Nat) = true ↔ (c0,c1,c2,c3) = zc:=cls4_iff c0 c1 c2 c3 0 0 0 0
 have HZ:=hid hz
 clear hz
 have hop : op < 1 ∨ 5 < op ∨ op = 1 ∨ op = 2 ∨ op = 3 ∨ op = 4 ∨ op = 5:=by omega
 rcases hop with h | h | rfl | rfl | rfl | rfl | rfl
 ·have d1 : decide (op < 1) = true:=by simpa using h
  have HR : Hid (oneP ⟨op,(c0,c1,c2,c3),x,y⟩ many = 1):=hid (by unfold oneP;simp;omega)
  rw [HR.out]
  go_enter Tryz.func185,Tryz.ntmps185
  go_wp2_with (first
   | (go_at_call_of 208 (Value.int .i64 y);refine (HY.out _ (HCM.out _)).mono ?_;rintro e w1 ⟨rfl,rfl⟩)
   | (go_at_call_of 208 (Value.int .i64 x);refine (HX.out _ (HCM.out _)).mono ?_;rintro e w1 ⟨rfl,rfl⟩))
  go_ret
  exact ⟨rfl,HBL2.out _ _⟩
 ·have d1 : decide (op < 1) = false:=by simp;omega
  have d2 : decide (5 < op) = true:=by simpa using h
  have HR : Hid (oneP ⟨op,(c0,c1,c2,c3),x,y⟩ many = 1):=hid (by unfold oneP;simp;omega)
  rw [HR.out]
  go_enter Tryz.func185,Tryz.ntmps185
  go_wp2_with (first
   | (go_at_call_of 208 (Value.int .i64 y);refine (HY.out _ (HCM.out _)).mono ?_;rintro e w1 ⟨rfl,rfl⟩)
   | (go_at_call_of 208 (Value.int .i64 x);refine (HX.out _ (HCM.out _)).mono ?_;rintro e w1 ⟨rfl,rfl⟩))
  go_ret
  exact ⟨rfl,HBL2.out _ _⟩
 ·skip
  by_cases hX : 0 ≤ x ∧ x < (many : Int)
  ·have dX : decide (0 ≤ x ∧ x < (many : Int)) = true:=by simpa using hX
   by_cases hy : y = 0
   ·have dy : (y != 0) = false:=by simpa using hy
    have HR : Hid (oneP ⟨1,(c0,c1,c2,c3),x,y⟩ many = 0):=hid (by unfold oneP;simp [hX,hy])
    clear hX hy
    rw [dX] at HX
    rw [HR.out]
    go_enter Tryz.func185,Tryz.ntmps185
    go_wp2_with (first
     | (go_at_call_of 208 (Value.int .i64 y);refine (HY.out _ (HCM.out _)).mono ?_;rintro e w1 ⟨rfl,rfl⟩)
     | (go_at_call_of 208 (Value.int .i64 x);refine (HX.out _ (HCM.out _)).mono ?_;rintro e w1 ⟨rfl,rfl⟩))
    go_ret
    exact ⟨rfl,HBL2.out _ _⟩
   ·have dy : (y != 0) = true:=by simpa using hy
    have HR : Hid (oneP ⟨1,(c0,c1,c2,c3),x,y⟩ many = 2):=hid (by unfold oneP;simp [hX,hy])
    clear hX hy
    rw [dX] at HX
    rw [HR.out]
    go_enter Tryz.func185,Tryz.ntmps185
    go_wp2_with (first
     | (go_at_call_of 208 (Value.int .i64 y);refine (HY.out _ (HCM.out _)).mono ?_;rintro e w1 ⟨rfl,rfl⟩)
     | (go_at_call_of 208 (Value.int .i64 x);refine (HX.out _ (HCM.out _)).mono ?_;rintro e w1 ⟨rfl,rfl⟩))
    go_ret
    exact ⟨rfl,HBL2.out _ _⟩
  ·have dX : decide (0 ≤ x ∧ x < (many : Int)) = false:=decide_eq_false hX
   have HR : Hid (oneP ⟨1,(c0,c1,c2,c3),x,y⟩ many = 1):=hid (by unfold oneP;simp [hX])
   clear hX
   rw [dX] at HX
   rw [HR.out]
   go_enter Tryz.func185,Tryz.ntmps185
   go_wp2_with (first
    | (go_at_call_of 208 (Value.int .i64 y);refine (HY.out _ (HCM.out _)).mono ?_;rintro e w1 ⟨rfl,rfl⟩)
    | (go_at_call_of 208 (Value.int .i64 x);refine (HX.out _ (HCM.out _)).mono ?_;rintro e w1 ⟨rfl,rfl⟩))
   go_ret
   exact ⟨rfl,HBL2.out _ _⟩
 ·skip
  by_cases hX : 0 ≤ x ∧ x < (many : Int)
  ·have dX : decide (0 ≤ x ∧ x < (many : Int)) = true:=by simpa using hX
   by_cases hY : 0 ≤ y ∧ y < (many : Int)
   ·have dY : decide (0 ≤ y ∧ y < (many : Int)) = true:=by simpa using hY
    by_cases hC : (c0,c1,c2,c3) = zc
    ·have dC : cls4 c0 c1 c2 c3 0 0 0 0 = true:=HZ.out.2 hC
     have HR : Hid (oneP ⟨2,(c0,c1,c2,c3),x,y⟩ many = 0):=hid (by unfold oneP;simp [hX,hY,hC])
     clear hX hY hC
     rw [dX] at HX
     rw [dY] at HY
     rw [HR.out]
     go_enter Tryz.func185,Tryz.ntmps185
     go_wp2_with (first
      | (go_at_call_of 208 (Value.int .i64 y);refine (HY.out _ (HCM.out _)).mono ?_;rintro e w1 ⟨rfl,rfl⟩)
      | (go_at_call_of 208 (Value.int .i64 x);refine (HX.out _ (HCM.out _)).mono ?_;rintro e w1 ⟨rfl,rfl⟩))
     go_ret
     exact ⟨rfl,HBL2.out _ _⟩
    ·have dC : cls4 c0 c1 c2 c3 0 0 0 0 = false:=by cases hh : cls4 (c0 : Int) c1 c2 c3 0 0 0 0 with | false => rfl | true => exact absurd (HZ.out.1 hh) hC
     have HR : Hid (oneP ⟨2,(c0,c1,c2,c3),x,y⟩ many = 2):=hid (by unfold oneP;simp [hX,hY,hC])
     clear hX hY hC
     rw [dX] at HX
     rw [dY] at HY
     rw [HR.out]
     go_enter Tryz.func185,Tryz.ntmps185
     go_wp2_with (first
      | (go_at_call_of 208 (Value.int .i64 y);refine (HY.out _ (HCM.out _)).mono ?_;rintro e w1 ⟨rfl,rfl⟩)
      | (go_at_call_of 208 (Value.int .i64 x);refine (HX.out _ (HCM.out _)).mono ?_;rintro e w1 ⟨rfl,rfl⟩))
     go_ret
     exact ⟨rfl,HBL2.out _ _⟩
   ·have dY : decide (0 ≤ y ∧ y < (many : Int)) = false:=decide_eq_false hY
    have HR : Hid (oneP ⟨2,(c0,c1,c2,c3),x,y⟩ many = 1):=hid (by unfold oneP;simp [hX,hY])
    clear hX hY
    rw [dX] at HX
    rw [dY] at HY
    rw [HR.out]
    go_enter Tryz.func185,Tryz.ntmps185
    go_wp2_with (first
     | (go_at_call_of 208 (Value.int .i64 y);refine (HY.out _ (HCM.out _)).mono ?_;rintro e w1 ⟨rfl,rfl⟩)
     | (go_at_call_of 208 (Value.int .i64 x);refine (HX.out _ (HCM.out _)).mono ?_;rintro e w1 ⟨rfl,rfl⟩))
    go_ret
    exact ⟨rfl,HBL2.out _ _⟩
  ·have dX : decide (0 ≤ x ∧ x < (many : Int)) = false:=decide_eq_false hX
   have HR : Hid (oneP ⟨2,(c0,c1,c2,c3),x,y⟩ many = 1):=hid (by unfold oneP;simp [hX])
   clear hX
   rw [dX] at HX
   rw [HR.out]
   go_enter Tryz.func185,Tryz.ntmps185
   go_wp2_with (first
    | (go_at_call_of 208 (Value.int .i64 y);refine (HY.out _ (HCM.out _)).mono ?_;rintro e w1 ⟨rfl,rfl⟩)
    | (go_at_call_of 208 (Value.int .i64 x);refine (HX.out _ (HCM.out _)).mono ?_;rintro e w1 ⟨rfl,rfl⟩))
   go_ret
   exact ⟨rfl,HBL2.out _ _⟩
 ·skip
  by_cases hX : 0 ≤ x ∧ x < (many : Int)
  ·have dX : decide (0 ≤ x ∧ x < (many : Int)) = true:=by simpa using hX
   by_cases hC : (c0,c1,c2,c3) = zc
   ·have dC : cls4 c0 c1 c2 c3 0 0 0 0 = true:=HZ.out.2 hC
    by_cases hy : y = 0
    ·have dy : (y != 0) = false:=by simpa using hy
     have HR : Hid (oneP ⟨3,(c0,c1,c2,c3),x,y⟩ many = 0):=hid (by unfold oneP;simp [hX,hC,hy])
     clear hX hC hy
     rw [dX] at HX
     rw [HR.out]
     go_enter Tryz.func185,Tryz.ntmps185
     go_wp2_with (first
      | (go_at_call_of 208 (Value.int .i64 y);refine (HY.out _ (HCM.out _)).mono ?_;rintro e w1 ⟨rfl,rfl⟩)
      | (go_at_call_of 208 (Value.int .i64 x);refine (HX.out _ (HCM.out _)).mono ?_;rintro e w1 ⟨rfl,rfl⟩))
     go_ret
     exact ⟨rfl,HBL2.out _ _⟩
    ·have dy : (y != 0) = true:=by simpa using hy
     have HR : Hid (oneP ⟨3,(c0,c1,c2,c3),x,y⟩ many = 2):=hid (by unfold oneP;simp [hX,hC,hy])
     clear hX hC hy
     rw [dX] at HX
     rw [HR.out]
     go_enter Tryz.func185,Tryz.ntmps185
     go_wp2_with (first
      | (go_at_call_of 208 (Value.int .i64 y);refine (HY.out _ (HCM.out _)).mono ?_;rintro e w1 ⟨rfl,rfl⟩)
      | (go_at_call_of 208 (Value.int .i64 x);refine (HX.out _ (HCM.out _)).mono ?_;rintro e w1 ⟨rfl,rfl⟩))
     go_ret
     exact ⟨rfl,HBL2.out _ _⟩
   ·have dC : cls4 c0 c1 c2 c3 0 0 0 0 = false:=by cases hh : cls4 (c0 : Int) c1 c2 c3 0 0 0 0 with | false => rfl | true => exact absurd (HZ.out.1 hh) hC
    have HR : Hid (oneP ⟨3,(c0,c1,c2,c3),x,y⟩ many = 2):=hid (by unfold oneP;simp [hX,hC])
    clear hX hC
    rw [dX] at HX
    rw [HR.out]
    go_enter Tryz.func185,Tryz.ntmps185
    go_wp2_with (first
     | (go_at_call_of 208 (Value.int .i64 y);refine (HY.out _ (HCM.out _)).mono ?_;rintro e w1 ⟨rfl,rfl⟩)
     | (go_at_call_of 208 (Value.int .i64 x);refine (HX.out _ (HCM.out _)).mono ?_;rintro e w1 ⟨rfl,rfl⟩))
    go_ret
    exact ⟨rfl,HBL2.out _ _⟩
  ·have dX : decide (0 ≤ x ∧ x < (many : Int)) = false:=decide_eq_false hX
   have HR : Hid (oneP ⟨3,(c0,c1,c2,c3),x,y⟩ many = 1):=hid (by unfold oneP;simp [hX])
   clear hX
   rw [dX] at HX
   rw [HR.out]
   go_enter Tryz.func185,Tryz.ntmps185
   go_wp2_with (first
    | (go_at_call_of 208 (Value.int .i64 y);refine (HY.out _ (HCM.out _)).mono ?_;rintro e w1 ⟨rfl,rfl⟩)
    | (go_at_call_of 208 (Value.int .i64 x);refine (HX.out _ (HCM.out _)).mono ?_;rintro e w1 ⟨rfl,rfl⟩))
   go_ret
   exact ⟨rfl,HBL2.out _ _⟩
 ·skip
  by_cases hX : 0 ≤ x ∧ x < (many : Int)
  ·have dX : decide (0 ≤ x ∧ x < (many : Int)) = true:=by simpa using hX
   by_cases hC : (c0,c1,c2,c3) = zc
   ·have dC : cls4 c0 c1 c2 c3 0 0 0 0 = true:=HZ.out.2 hC
    by_cases hy : y = 0
    ·have dy : (y != 0) = false:=by simpa using hy
     have HR : Hid (oneP ⟨4,(c0,c1,c2,c3),x,y⟩ many = 0):=hid (by unfold oneP;simp [hX,hC,hy])
     clear hX hC hy
     rw [dX] at HX
     rw [HR.out]
     go_enter Tryz.func185,Tryz.ntmps185
     go_wp2_with (first
      | (go_at_call_of 208 (Value.int .i64 y);refine (HY.out _ (HCM.out _)).mono ?_;rintro e w1 ⟨rfl,rfl⟩)
      | (go_at_call_of 208 (Value.int .i64 x);refine (HX.out _ (HCM.out _)).mono ?_;rintro e w1 ⟨rfl,rfl⟩))
     go_ret
     exact ⟨rfl,HBL2.out _ _⟩
    ·have dy : (y != 0) = true:=by simpa using hy
     have HR : Hid (oneP ⟨4,(c0,c1,c2,c3),x,y⟩ many = 2):=hid (by unfold oneP;simp [hX,hC,hy])
     clear hX hC hy
     rw [dX] at HX
     rw [HR.out]
     go_enter Tryz.func185,Tryz.ntmps185
     go_wp2_with (first
      | (go_at_call_of 208 (Value.int .i64 y);refine (HY.out _ (HCM.out _)).mono ?_;rintro e w1 ⟨rfl,rfl⟩)
      | (go_at_call_of 208 (Value.int .i64 x);refine (HX.out _ (HCM.out _)).mono ?_;rintro e w1 ⟨rfl,rfl⟩))
     go_ret
     exact ⟨rfl,HBL2.out _ _⟩
   ·have dC : cls4 c0 c1 c2 c3 0 0 0 0 = false:=by cases hh : cls4 (c0 : Int) c1 c2 c3 0 0 0 0 with | false => rfl | true => exact absurd (HZ.out.1 hh) hC
    have HR : Hid (oneP ⟨4,(c0,c1,c2,c3),x,y⟩ many = 2):=hid (by unfold oneP;simp [hX,hC])
    clear hX hC
    rw [dX] at HX
    rw [HR.out]
    go_enter Tryz.func185,Tryz.ntmps185
    go_wp2_with (first
     | (go_at_call_of 208 (Value.int .i64 y);refine (HY.out _ (HCM.out _)).mono ?_;rintro e w1 ⟨rfl,rfl⟩)
     | (go_at_call_of 208 (Value.int .i64 x);refine (HX.out _ (HCM.out _)).mono ?_;rintro e w1 ⟨rfl,rfl⟩))
    go_ret
    exact ⟨rfl,HBL2.out _ _⟩
  ·have dX : decide (0 ≤ x ∧ x < (many : Int)) = false:=decide_eq_false hX
   have HR : Hid (oneP ⟨4,(c0,c1,c2,c3),x,y⟩ many = 1):=hid (by unfold oneP;simp [hX])
   clear hX
   rw [dX] at HX
   rw [HR.out]
   go_enter Tryz.func185,Tryz.ntmps185
   go_wp2_with (first
    | (go_at_call_of 208 (Value.int .i64 y);refine (HY.out _ (HCM.out _)).mono ?_;rintro e w1 ⟨rfl,rfl⟩)
    | (go_at_call_of 208 (Value.int .i64 x);refine (HX.out _ (HCM.out _)).mono ?_;rintro e w1 ⟨rfl,rfl⟩))
   go_ret
   exact ⟨rfl,HBL2.out _ _⟩
 ·skip
  by_cases hC : (c0,c1,c2,c3) = zc
  ·have dC : cls4 c0 c1 c2 c3 0 0 0 0 = true:=HZ.out.2 hC
   by_cases hy : y = 0
   ·have dy : (y != 0) = false:=by simpa using hy
    by_cases hx : x = 0
    ·have dx : (x != 0) = false:=by simpa using hx
     have HR : Hid (oneP ⟨5,(c0,c1,c2,c3),x,y⟩ many = 0):=hid (by unfold oneP;simp [hC,hy,hx])
     clear hC hy hx
     rw [HR.out]
     go_enter Tryz.func185,Tryz.ntmps185
     go_wp2_with (first
      | (go_at_call_of 208 (Value.int .i64 y);refine (HY.out _ (HCM.out _)).mono ?_;rintro e w1 ⟨rfl,rfl⟩)
      | (go_at_call_of 208 (Value.int .i64 x);refine (HX.out _ (HCM.out _)).mono ?_;rintro e w1 ⟨rfl,rfl⟩))
     go_ret
     exact ⟨rfl,HBL2.out _ _⟩
    ·have dx : (x != 0) = true:=by simpa using hx
     have HR : Hid (oneP ⟨5,(c0,c1,c2,c3),x,y⟩ many = 2):=hid (by unfold oneP;simp [hC,hy,hx])
     clear hC hy hx
     rw [HR.out]
     go_enter Tryz.func185,Tryz.ntmps185
     go_wp2_with (first
      | (go_at_call_of 208 (Value.int .i64 y);refine (HY.out _ (HCM.out _)).mono ?_;rintro e w1 ⟨rfl,rfl⟩)
      | (go_at_call_of 208 (Value.int .i64 x);refine (HX.out _ (HCM.out _)).mono ?_;rintro e w1 ⟨rfl,rfl⟩))
     go_ret
     exact ⟨rfl,HBL2.out _ _⟩
   ·have dy : (y != 0) = true:=by simpa using hy
    have HR : Hid (oneP ⟨5,(c0,c1,c2,c3),x,y⟩ many = 2):=hid (by unfold oneP;simp [hC,hy])
    clear hC hy
    rw [HR.out]
    go_enter Tryz.func185,Tryz.ntmps185
    go_wp2_with (first
     | (go_at_call_of 208 (Value.int .i64 y);refine (HY.out _ (HCM.out _)).mono ?_;rintro e w1 ⟨rfl,rfl⟩)
     | (go_at_call_of 208 (Value.int .i64 x);refine (HX.out _ (HCM.out _)).mono ?_;rintro e w1 ⟨rfl,rfl⟩))
    go_ret
    exact ⟨rfl,HBL2.out _ _⟩
  ·have dC : cls4 c0 c1 c2 c3 0 0 0 0 = false:=by cases hh : cls4 (c0 : Int) c1 c2 c3 0 0 0 0 with | false => rfl | true => exact absurd (HZ.out.1 hh) hC
   have HR : Hid (oneP ⟨5,(c0,c1,c2,c3),x,y⟩ many = 2):=hid (by unfold oneP;simp [hC])
   clear hC
   rw [HR.out]
   go_enter Tryz.func185,Tryz.ntmps185
   go_wp2_with (first
    | (go_at_call_of 208 (Value.int .i64 y);refine (HY.out _ (HCM.out _)).mono ?_;rintro e w1 ⟨rfl,rfl⟩)
    | (go_at_call_of 208 (Value.int .i64 x);refine (HX.out _ (HCM.out _)).mono ?_;rintro e w1 ⟨rfl,rfl⟩))
   go_ret
   exact ⟨rfl,HBL2.out _ _⟩
theorem chkPL_at {many : Nat} {l : List St} {k : Nat} {s : St} (h : l[k]? = some s) : chkPL many (l.drop k) = if oneP s many ≠ 0 then oneP s many else chkPL many (l.drop (k + 1)):=by
 obtain ⟨hk,he⟩:=List.getElem?_eq_some_iff.1 h
 rw [List.drop_eq_getElem_cons hk,he]
 rfl
theorem PCheck_any (l : List St) (v : Value) (w : World) (hr : RdS w v l) (hlen : l.length ≤ 9223372036854775807) : Calls Tryz.prog 161 #[v] w (ErrIs (chkP l) w):=by
 obtain ⟨A,cap,rfl,hcap,hcap2,hmem⟩:=hr.open_
 have HM:=hid hmem
 clear hmem hr
 by_cases hbig : 200 < l.length
 ·have hc : chkP l = 3:=by unfold chkP;rw [if_pos hbig]
  have d1 : decide ((200 : Int) < (l.length : Int)) = true:=by simp;omega
  have d2 : decide (200 < l.length) = true:=by simp;omega
  rw [hc]
  go_enter Tryz.func161,Tryz.ntmps161
  go_wp2
  go_ret
  exact ⟨rfl,Below.refl _ _⟩
 ·have d1 : decide ((200 : Int) < (l.length : Int)) = false:=by simp;omega
  have d2 : decide (200 < l.length) = false:=by simp;omega
  by_cases h0 : l.length = 0
  ·have hc : chkP l = 4:=by unfold chkP;rw [if_neg hbig,if_pos h0]
   rw [hc]
   have d3 : ((l.length : Int) == 0) = true:=beq_iff_eq.2 (by omega)
   clear h0
   go_enter Tryz.func161,Tryz.ntmps161
   go_wp2
   go_ret
   exact ⟨rfl,Below.refl _ _⟩
  ·have hc : chkP l = chkPL l.length l:=by unfold chkP;rw [if_neg hbig,if_neg h0]
   rw [hc]
   have d3 : ((l.length : Int) == 0) = false:=beq_eq_false_iff_ne.2 (by omega)
   obtain ⟨b,off,rfl,hbl,hcells⟩:=HM.out (by omega)
   have HC:=hid hcells
   clear h0 hcells hc HM
   go_enter Tryz.func161,Tryz.ntmps161
   go_wp2
   go_loopw [16] (fun v16 wr => ∃ k : Nat,k ≤ l.length ∧ v16 = .int .i64 (k : Int) ∧ Hid (chkPL l.length l = chkPL l.length (l.drop k)) ∧ Hid (Below w.heap.size w wr)) (fun i _ => l.length - (intOf i).toNat)
   case atStart => exact ⟨0,by omega,rfl,hid (by rw [List.drop_zero]),hid (Below.refl _ _)⟩
   case round =>
    obtain ⟨k,hk,rfl,HD,HB⟩:=hrel
    by_cases hlt : k < l.length
    ·have hs : l[k]? = some (l[k]'hlt):=List.getElem?_eq_getElem hlt
     generalize l[k]'hlt = s at hs
     obtain ⟨q0,q1,q2,q3,q4,q5,q6⟩:=HC.out wr (fun o => HB.out.cell (p:=⟨b,o,none⟩) hbl) k s hs
     have hat:=chkPL_at (many:=l.length) hs
     obtain ⟨op,⟨c0,c1,c2,c3⟩,x,y⟩:=s
     dsimp only at q0 q1 q2 q3 q4 q5 q6
     have HAT:=hid hat
     have hk1 : (k : Int) < (l.length : Int):=by omega
     have HB2 : Hid (∀ o,Below w.heap.size w (wr.alloc o)):=hid fun o => HB.out.alloc HB.out.size _
     clear hs hat
     by_cases he : oneP ⟨op,(c0,c1,c2,c3),x,y⟩ l.length = 0
     ·have HON : Hid (∀ W,Calls Tryz.prog 185 #[.agg #[.int .i64 op,.int .u64 (c0 : Int),.int .u64 (c1 : Int),.int .u64 (c2 : Int),.int .u64 (c3 : Int),.int .i64 x,.int .i64 y],.int .i64 (l.length : Int)] W (fun e w' => e = .returned .nilIface ∧ Below W.heap.size W w')):=hid fun W => (one_any op x y c0 c1 c2 c3 l.length W).mono (by
       rintro e w' ⟨h1,h2⟩
       rw [he,errV_zero] at h1
       exact ⟨h1,h2⟩)
      have HN : Hid (chkPL l.length l = chkPL l.length (l.drop (k + 1))):=hid (by rw [HD.out,HAT.out,if_neg (by simp [he])])
      clear he
      go_wp2_with (go_at_call 185;refine (HON.out _).mono ?_;rintro e w1 ⟨rfl,hb1⟩;have HB1:=hid ((HB2.out _).trans (hb1.mono (HB2.out _).size));clear hb1)
      go_roundw
      case rel => exact ⟨k + 1,by omega,by go_num,HN,HB1⟩
      case measure => simp [intOf];omega
     ·have HON : Hid (∀ W,Calls Tryz.prog 185 #[.agg #[.int .i64 op,.int .u64 (c0 : Int),.int .u64 (c1 : Int),.int .u64 (c2 : Int),.int .u64 (c3 : Int),.int .i64 x,.int .i64 y],.int .i64 (l.length : Int)] W (fun e w' => e = .returned (.iface 81 (.int .i64 (oneP ⟨op,(c0,c1,c2,c3),x,y⟩ l.length))) ∧ Below W.heap.size W w')):=hid fun W => (one_any op x y c0 c1 c2 c3 l.length W).mono (by
       rintro e w' ⟨h1,h2⟩
       rw [errV_ne he] at h1
       exact ⟨h1,h2⟩)
      have HN : Hid (chkPL l.length l = oneP ⟨op,(c0,c1,c2,c3),x,y⟩ l.length ∧ oneP ⟨op,(c0,c1,c2,c3),x,y⟩ l.length ≠ 0):=hid ⟨by rw [HD.out,HAT.out,if_pos he],he⟩
      clear he HAT
      generalize oneP ⟨op,(c0,c1,c2,c3),x,y⟩ l.length = n at *
      go_wp2_with (go_at_call 185;refine (HON.out _).mono ?_;rintro e w1 ⟨rfl,hb1⟩;have HB1:=hid ((HB2.out _).trans (hb1.mono (HB2.out _).size));clear hb1)
      go_ret
      exact ⟨by rw [HN.out.1,errV_ne HN.out.2];rfl,HB1.out⟩
    ·obtain rfl : k = l.length:=by omega
     have HF : Hid (chkPL l.length l = 0):=hid (by rw [HD.out,List.drop_length];rfl)
     have d4 : decide (l.length < l.length) = false:=by simp
     clear HD
     go_wp2
     go_ret
     exact ⟨by rw [HF.out];rfl,HB.out⟩
def chkRun (p : List St) (n : Nat) (f : Int) : Int:=if chkP p ≠ 0 then chkP p else if 400 < n then 3 else if f < 0 ∨ (n : Int) < f then 1 else 0
theorem Checked_any (l : List St) (v : Value) (s : ByteArray) (f : Int) (w : World) (hr : RdS w v l) (hlen : l.length ≤ 9223372036854775807) : Calls Tryz.prog 163 #[v,.string s,.int .i64 f] w (ErrIs (chkRun l s.size f) w):=by
 obtain ⟨A,cap,rfl,hcap,hcap2,hmem⟩:=hr.open_
 have HC:=hid fun W h => PCheck_any l (.slice A l.length cap) W h hlen
 have HR:=hid hr
 clear hr hmem
 by_cases hc : chkP l = 0
 ·have HCZ:=hid hc
  clear hc
  by_cases h1 : 400 < s.size
  ·have HX : Hid (chkRun l s.size f = 3):=hid (by unfold chkRun;rw [if_neg (by simp [HCZ.out]),if_pos h1])
   have d1 : decide ((400 : Int) < (s.size : Int)) = true:=by simp;omega
   have d2 : decide (400 < s.size) = true:=by simp;omega
   go_enter Tryz.func163,Tryz.ntmps163
   go_wp2_with fail
   refine (HC.out _ HR.out).mono ?_
   rintro e w1 ⟨rfl,hb1⟩
   rw [HCZ.out,errV_zero]
   have HB1:=hid hb1
   clear hb1
   go_wp2_with fail
   go_ret
   exact ⟨by rw [HX.out];rfl,HB1.out⟩
  ·have d1 : decide ((400 : Int) < (s.size : Int)) = false:=by simp;omega
   have d2 : decide (400 < s.size) = false:=by simp;omega
   by_cases h2 : f < 0
   ·have HX : Hid (chkRun l s.size f = 1):=hid (by unfold chkRun;rw [if_neg (by simp [HCZ.out]),if_neg h1,if_pos (.inl h2)])
    have d3 : decide (f < 0) = true:=by simpa using h2
    go_enter Tryz.func163,Tryz.ntmps163
    go_wp2_with fail
    refine (HC.out _ HR.out).mono ?_
    rintro e w1 ⟨rfl,hb1⟩
    rw [HCZ.out,errV_zero]
    have HB1:=hid hb1
    clear hb1
    go_wp2_with fail
    go_ret
    exact ⟨by rw [HX.out];rfl,HB1.out⟩
   ·have d3 : decide (f < 0) = false:=by simp;omega
    by_cases h3 : (s.size : Int) < f
    ·have HX : Hid (chkRun l s.size f = 1):=hid (by unfold chkRun;rw [if_neg (by simp [HCZ.out]),if_neg h1,if_pos (.inr h3)])
     have d4 : decide ((s.size : Int) < f) = true:=by simpa using h3
     go_enter Tryz.func163,Tryz.ntmps163
     go_wp2_with fail
     refine (HC.out _ HR.out).mono ?_
     rintro e w1 ⟨rfl,hb1⟩
     rw [HCZ.out,errV_zero]
     have HB1:=hid hb1
     clear hb1
     go_wp2_with fail
     go_ret
     exact ⟨by rw [HX.out];rfl,HB1.out⟩
    ·have HX : Hid (chkRun l s.size f = 0):=hid (by unfold chkRun;rw [if_neg (by simp [HCZ.out]),if_neg h1,if_neg (by omega)])
     have d4 : decide ((s.size : Int) < f) = false:=by simp;omega
     go_enter Tryz.func163,Tryz.ntmps163
     go_wp2_with fail
     refine (HC.out _ HR.out).mono ?_
     rintro e w1 ⟨rfl,hb1⟩
     rw [HCZ.out,errV_zero]
     have HB1:=hid hb1
     clear hb1
     go_wp2_with fail
     go_ret
     exact ⟨by rw [HX.out];rfl,HB1.out⟩
 ·have HX : Hid (chkRun l s.size f = chkP l):=hid (by unfold chkRun;rw [if_pos hc])
  have HE:=hid (errV_ne hc)
  clear hc
  go_enter Tryz.func163,Tryz.ntmps163
  go_wp2_with fail
  refine (HC.out _ HR.out).mono ?_
  rintro e w1 ⟨rfl,hb1⟩
  rw [HE.out]
  have HB1:=hid hb1
  clear hb1
  go_wp2_with fail
  go_ret
  exact ⟨by rw [HX.out,HE.out];rfl,HB1.out⟩
end Go.Proofs.YthhcpbfgoofppaaGreatDoor
