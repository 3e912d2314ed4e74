/-
  Walks of package rex: Parts, Check.
-/
import Derived.Test.YthcahjnniendnabDoorRows
import Derived.Test.YthcahjnniendnabDoorMem
import Derived.Test.YthcahjnniendnabDoorLaws
import Derived.WalkKit
import Derived.WalkLawsBesides
import Derived.WalkSpells
import Derived.Outline
import Derived.Deep.LoopGhost
namespace Go.Proofs.YthcahjnniendnabDoor
open Go.RowKit Wf

/-- An error as a value: none, or a number. -/
def errV (n : Int) : Value := if n = 0 then .nilIface else .iface 23 (.int .i64 n)
theorem errV_zero : errV 0 = .nilIface := rfl
theorem errV_ne {n : Int} (h : n ≠ 0) : errV n = .iface 23 (.int .i64 n) := by simp [errV, h]

theorem ret_val {a b : Value} (h : a = b) : Ending.returned a = .returned b := by rw [h]

def PartsIs (n : Int) (w : World) (e : Ending) (w' : World) : Prop := e = .returned (.int .i64 (parts n)) ∧ w = w'
theorem Parts_any (n : Int) (w : World) : Calls Tryd.prog 85 #[.int .i64 n] w (PartsIs n w) := by
  have key : ∀ m : Int, m = (parts n : Int) → PartsIs n w (.returned (.int .i64 m)) w := fun m h => ⟨by rw [h], rfl⟩
  have k2 : (n = 3 ∨ n = 4) → (2 : Int) = parts n := fun h => by simp [parts, h]
  have k1 : ¬ (n = 3 ∨ n = 4) → (n = 5 ∨ n = 6 ∨ n = 7) → (1 : Int) = parts n := fun h h' => by unfold parts; rw [if_neg h, if_pos h']; rfl
  have k0 : ¬ (n = 3 ∨ n = 4) → ¬ (n = 5 ∨ n = 6 ∨ n = 7) → (0 : Int) = parts n := fun h h' => by unfold parts; rw [if_neg h, if_neg h']; rfl
  have H2 := Lib.hid k2
  have H1 := Lib.hid k1
  have H0 := Lib.hid k0
  have HK := Lib.hid key
  clear k2 k1 k0 key
  go_enter Tryd.func85, Tryd.ntmps85
  go_wp2
  all_goals go_ret
  all_goals refine HK.out _ ?_
  all_goals simp only [beq_iff_eq, beq_eq_false_iff_ne] at *
  all_goals first | exact H2.out (by omega) | exact H1.out (by omega) (by omega) | exact H0.out (by omega) (by omega)

def CheckIs (l : List Nd) (w : World) (e : Ending) (w' : World) : Prop := e = .returned (errV (chk l)) ∧ Below w.heap.size w w'

theorem getD_get {α : Type} {l : List α} {k : Nat} (h : k < l.length) : ∃ x, l[k]? = some x := ⟨_, List.getElem?_eq_getElem h⟩

set_option maxRecDepth 100000 in
set_option maxHeartbeats 4000000 in
theorem Check_any (l : List Nd) (v : Value) (w : World) (hr : RdN w v l) : Calls Tryd.prog 52 #[v] w (CheckIs l w) := by
  obtain ⟨A, cap, rfl, hcap, hcap2, hmem⟩ := hr.open_
  have key : ∀ (m : Value) (w' : World), m = errV (chk l) → Below w.heap.size w w' → CheckIs l w (.returned m) w' := fun m w' h hb => ⟨by rw [h], hb⟩
  have HK := Lib.hid key
  have HM := Lib.hid hmem
  clear key hmem hr
  by_cases h60 : 60 < l.length
  · have hc : chk l = 3 := by unfold chk; rw [if_pos h60]
    have HC := Lib.hid hc
    clear hc
    go_enter Tryd.func52, Tryd.ntmps52
    go_wp2
    go_ret
    exact HK.out _ _ (by rw [HC.out]; rfl) (Below.refl _ _)
  · have hc : chk l = chkLoop l 1 true := by unfold chk; rw [if_neg h60]
    have HC := Lib.hid hc
    clear hc
    go_enter Tryd.func52, Tryd.ntmps52
    go_wp2
    go_loopw [3, 4, 13] (fun v3 v4 v13 wr => ∃ (k : Nat) (need : Int) (whole : Bool), k ≤ l.length ∧ v13 = .int .i64 k ∧ v3 = .int .i64 need ∧ v4 = .bool whole ∧ need ≤ 1 + k ∧ 1 - k ≤ need ∧
        Hid (chkLoop (l.drop k) need whole = chkLoop l 1 true) ∧ Below w.heap.size w wr) (fun _ _ i _ => l.length - (intOf i).toNat)
    case atStart => exact ⟨0, 1, true, by omega, rfl, rfl, rfl, by omega, by omega, rfl, Below.refl _ _⟩
    case round =>
      obtain ⟨k, need, whole, hk, rfl, rfl, rfl, hn1, hn2, HL, hb⟩ := hrel
      by_cases hlt : k < l.length
      · obtain ⟨b, off, rfl, hbl, hcells⟩ := HM.out (by omega)
        obtain ⟨n, hn⟩ := getD_get hlt
        obtain ⟨g0, g1, g2, g3, g4⟩ := hcells wr (fun o => hb.cell (p := ⟨b, o, none⟩) hbl) k n hn
        have hdrop : l.drop k = n :: l.drop (k + 1) := by
          rw [List.drop_eq_getElem_cons hlt]; congr 1
          have := List.getElem?_eq_getElem hlt
          rw [hn] at this
          exact (Option.some.inj this).symm
        have hd : chkLoop l 1 true = chkLoop (n :: l.drop (k + 1)) need whole := by rw [← HL.out, hdrop]
        have HD := Lib.hid hd
        clear hd HL
        clear hdrop hn hcells
        have hsz := hb.size
        obtain ⟨op, c0, c1, c2, c3⟩ := n
        dsimp only at g0 g1 g2 g3 g4
        have hp := parts_le op
        have hp' : (parts op : Int) ≤ 2 := by omega
        have hp0 : (0 : Int) ≤ (parts op : Int) := by omega
        have hz : (cls4 c0 c1 c2 c3 0 0 0 0 = true) ∨ (cls4 c0 c1 c2 c3 0 0 0 0 = false) := by cases cls4 c0 c1 c2 c3 0 0 0 0 <;> simp
        have hzc : cls4 c0 c1 c2 c3 0 0 0 0 = true ↔ (c0, c1, c2, c3) = zc := cls4_iff c0 c1 c2 c3 0 0 0 0
        have HZ := Lib.hid hzc
        have fin1 : (op < 1 ∨ 9 < op) → chkLoop l 1 true = 1 := fun h => by rw [HD.out]; unfold chkLoop; rw [if_pos h]
        have fin2 : 1 ≤ op → op ≤ 9 → op ≠ 1 → cls4 c0 c1 c2 c3 0 0 0 0 = false → chkLoop l 1 true = 2 := fun h1 h2 h3 h4 => by
          rw [HD.out]; unfold chkLoop; rw [if_neg (by simp; omega), if_pos ⟨h3, fun h => by rw [HZ.out.2 h] at h4; cases h4⟩]
        have goes : 1 ≤ op → op ≤ 9 → (op = 1 ∨ cls4 c0 c1 c2 c3 0 0 0 0 = true) → chkLoop (l.drop (k + 1)) (need + ((parts op : Int) - 1)) (whole && decide (0 < need)) = chkLoop l 1 true := fun h1 h2 h3 => by
          rw [HD.out, chkLoop, if_neg (by simp; omega), if_neg]
          rintro ⟨h4, h5⟩
          rcases h3 with h3 | h3
          · exact h4 h3
          · exact h5 (HZ.out.1 h3)
        have F1 := Lib.hid fin1
        have F2 := Lib.hid fin2
        have GO := Lib.hid goes
        clear hzc hp fin1 fin2 goes HZ
        rcases hz with hz | hz <;> by_cases hop : op = 1
        all_goals (try subst hop)
        all_goals cases whole
        all_goals go_wp2_with (go_at_call 85; refine (Parts_any _ _).mono ?_; rintro e w' ⟨rfl, rfl⟩)
        all_goals first
          | (go_ret; exact HK.out _ _ (by rw [HC.out]; first | (rw [F1.out (by omega)]; rfl) | (rw [F2.out (by omega) (by omega) (by omega) hz]; rfl)) (hb.alloc hsz _))
          | (go_roundw
             case rel => exact ⟨k + 1, _, _, by omega, by go_num, rfl, rfl, by omega, by omega, by first | exact Lib.hid (GO.out (by omega) (by omega) (.inr hz)) | exact Lib.hid (GO.out (by omega) (by omega) (.inl (by first | trivial | rfl))), hb.alloc hsz _⟩
             case measure => simp [intOf]; omega)
      · have hkk : k = l.length := by omega
        have hd : chkLoop l 1 true = (if whole = true ∧ need = 0 then 0 else 2) := by
          rw [← HL.out, hkk, List.drop_length]; rfl
        have HD := Lib.hid hd
        clear hd HL hkk
        by_cases hn : need = 0
        all_goals cases whole
        all_goals (try subst hn)
        all_goals go_wp2
        all_goals first
          | (go_ret; exact HK.out _ _ (by rw [HC.out, HD.out]; first | (simp [errV]; done) | (rw [if_neg (by simp; omega)]; rfl)) hb)

end Go.Proofs.YthcahjnniendnabDoor
