/-
  The walk of package winnowfansame's Texts at two rows that are the same.
-/
import Derived.Test.YthcahjnniendnaaGreatDoorGRex
import Derived.Test.YthcahjnniendnaaGreatDoorStrs
namespace Go.Proofs.YthcahjnniendnaaGreatDoor
open Go.RowKit Wf

def TrueIs (w : World) (e : Ending) (w' : World) : Prop := e = .returned (.bool true) ∧ Below w.heap.size w w'

set_option maxRecDepth 100000 in
set_option maxHeartbeats 4000000 in
theorem Texts_same (a : List ByteArray) (va vb : Value) (w : World) (ha : Rd1 w va (strVals a)) (hb : Rd1 w vb (strVals a)) : Calls Tryz.prog 10 #[va, vb] w (TrueIs w) := by
  obtain ⟨A, ca, rfl, hca, hca2, hma⟩ := str_open ha
  obtain ⟨B, cb, rfl, hcb, hcb2, hmb⟩ := str_open hb
  have MA := Lib.hid hma
  have MB := Lib.hid hmb
  clear hma hmb ha hb
  go_enter Tryz.func10, Tryz.ntmps10
  go_wp2
  go_loopw [5] (fun v5 wr => ∃ k : Nat, k ≤ a.length ∧ v5 = .int .i64 k ∧ Below w.heap.size w wr) (fun i _ => a.length - (intOf i).toNat)
  case atStart => exact ⟨0, by omega, rfl, Below.refl _ _⟩
  case round =>
    obtain ⟨k, hk, rfl, hbl⟩ := hrel
    by_cases hlt : k < a.length
    · obtain ⟨b1, off1, rfl, hb1, hc1⟩ := MA.out (by omega)
      obtain ⟨b2, off2, rfl, hb2, hc2⟩ := MB.out (by omega)
      have hn : a[k]? = some (a[k]'hlt) := List.getElem?_eq_getElem hlt
      generalize a[k]'hlt = x at hn
      have g0 := hc1 wr (fun o => hbl.cell (p := ⟨b1, o, none⟩) hb1) k x hn
      have q0 := hc2 wr (fun o => hbl.cell (p := ⟨b2, o, none⟩) hb2) k x hn
      have hk0 : (0 : Int) ≤ (k : Int) := by omega
      have hk1 : (k : Int) < (a.length : Int) := by omega
      have hk2 : decide (k < a.length) = true := by simpa using hlt
      clear hn hc1 hc2
      go_wp2
      go_quiet (fail)
      go_wp2
      go_roundw
      case rel => exact ⟨k + 1, by omega, by go_num, below_drewN hbl _⟩
      case measure => simp [intOf]; omega
    · obtain rfl : k = a.length := by omega
      go_wp2
      go_ret
      exact ⟨rfl, hbl⟩

end Go.Proofs.YthcahjnniendnaaGreatDoor
