/-
  The walk of package winnowfansame's Spans.
-/
import Derived.Test.YthcahjnniendnacDoorGRex
import Derived.Test.YthcahjnniendnacDoorSpan
namespace Go.Proofs.YthcahjnniendnacDoor
open Go.RowKit Wf

def SpansIs (a b : List (Nat × Nat)) (w : World) (e : Ending) (w' : World) : Prop := ∃ r : Bool, e = .returned (.bool r) ∧ (r = true ↔ a = b) ∧ Below w.heap.size w w'

set_option maxRecDepth 100000 in
set_option maxHeartbeats 4000000 in
theorem Spans_any (a b : List (Nat × Nat)) (va vb : Value) (w : World) (ha : Rd w 2 va (spanVals a)) (hb : Rd w 2 vb (spanVals b)) : Calls Tryd.prog 21 #[va, vb] w (SpansIs a b w) := by
  obtain ⟨A, ca, rfl, hca, hca2, hma⟩ := span_open ha
  obtain ⟨B, cb, rfl, hcb, hcb2, hmb⟩ := span_open hb
  have MA := Lib.hid hma
  have MB := Lib.hid hmb
  clear hma hmb ha hb
  by_cases hl : a.length = b.length
  · have hne : ((a.length : Int) != (b.length : Int)) = false := by rw [hl]; simp
    have HL := Lib.hid hl
    have hlen1 : a.length ≤ b.length := by omega
    have hlen2 : b.length ≤ a.length := by omega
    clear hl
    go_enter Tryd.func21, Tryd.ntmps21
    go_wp2
    go_loopw [5] (fun v5 wr => ∃ k : Nat, k ≤ a.length ∧ v5 = .int .i64 k ∧ Hid (a.take k = b.take k) ∧ Below w.heap.size w wr) (fun i _ => a.length - (intOf i).toNat)
    case atStart => exact ⟨0, by omega, rfl, Lib.hid rfl, Below.refl _ _⟩
    case round =>
      obtain ⟨k, hk, rfl, HT, hbl⟩ := hrel
      by_cases hlt : k < a.length
      · obtain ⟨b1, off1, rfl, hb1, hc1⟩ := MA.out (by omega)
        obtain ⟨b2, off2, rfl, hb2, hc2⟩ := MB.out (by omega)
        obtain ⟨n, hn⟩ := getD_get hlt
        obtain ⟨m, hm⟩ := getD_get (show k < b.length by omega)
        obtain ⟨x, y⟩ := n
        obtain ⟨x', y'⟩ := m
        obtain ⟨g0, g1⟩ := hc1 wr (fun o => hbl.cell (p := ⟨b1, o, none⟩) hb1) k x y hn
        obtain ⟨q0, q1⟩ := hc2 wr (fun o => hbl.cell (p := ⟨b2, o, none⟩) hb2) k x' y' hm
        have hdec := sp2_iff x y x' y'
        have hyes : (x, y) = (x', y') → Hid (a.take (k + 1) = b.take (k + 1)) := fun h => Lib.hid (by rw [take_snoc hn, take_snoc hm, HT.out, h])
        have hno : (x, y) ≠ (x', y') → a ≠ b := fun h => list_ne_of hn hm h
        have HY := Lib.hid hyes
        have HNO := Lib.hid hno
        have HDEC := Lib.hid hdec
        clear hyes hno hn hm hc1 hc2 hdec
        have hk0 : (0 : Int) ≤ (k : Int) := by omega
        have hk1 : (k : Int) < (a.length : Int) := by omega
        have hk2 : (k : Int) < (b.length : Int) := by omega
        cases hcase : sp2 x y x' y'
        · go_wp2
          go_quiet (fail)
          go_wp2
          go_ret
          refine ⟨_, rfl, ⟨(fun h => by cases h), fun h => absurd h (HNO.out ?_)⟩, below_drewN hbl _⟩
          intro h
          have := HDEC.out.2 h
          rw [hcase] at this
          cases this
        · go_wp2
          go_quiet (fail)
          go_wp2
          go_roundw
          case rel => exact ⟨k + 1, by omega, by go_num, HY.out (HDEC.out.1 hcase), below_drewN hbl _⟩
          case measure => simp [intOf]; omega
      · obtain rfl : k = a.length := by omega
        go_wp2
        go_ret
        exact ⟨_, rfl, ⟨fun _ => list_eq_of HT.out rfl HL.out, fun _ => rfl⟩, hbl⟩
  · have hne : ((a.length : Int) != (b.length : Int)) = true := by simp; omega
    have HL := Lib.hid hl
    clear hl
    go_enter Tryd.func21, Tryd.ntmps21
    go_wp2
    go_ret
    exact ⟨_, rfl, ⟨(fun h => by cases h), fun h => absurd (congrArg List.length h) HL.out⟩, Below.refl _ _⟩

end Go.Proofs.YthcahjnniendnacDoor
