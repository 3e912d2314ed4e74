/-
  The walks of the document's Signed, ByteText.
-/
import Derived.Test.YthcahjnniendnacGreatDoorGCls
import Derived.Test.YthcahjnniendnacGreatDoorRefW
import Derived.BigQuiet
namespace Go.Proofs.YthcahjnniendnacGreatDoor
open Go.RowKit Wf

def spB : ByteArray := ⟨#[92, 46, 91, 93, 40, 41, 124, 42, 43, 63, 94, 36, 45]⟩
theorem spB_in (b : Nat) (hb : b < 256) : UInt8.ofNat b ∈ specialL ↔ ∃ j, ∃ h : j < 13, (spB[j]'h).toNat = b := by
  have key : ∀ b : Fin 256, (UInt8.ofNat b.val ∈ specialL) ↔ ∃ j : Fin 13, (spB[j.val]'j.isLt).toNat = b.val := by decide +kernel
  rw [key ⟨b, hb⟩]
  exact ⟨fun ⟨j, h⟩ => ⟨j.val, j.isLt, h⟩, fun ⟨j, hj, h⟩ => ⟨⟨j, hj⟩, h⟩⟩

set_option maxRecDepth 100000 in
set_option maxHeartbeats 2000000 in
theorem RSigned_any (b : Nat) (hb : b < 256) (w : World) : Calls Tryz.prog 80 #[.int .u8 (b : Int)] w (fun e w' => e = .returned (.bool (decide (UInt8.ofNat b ∈ specialL))) ∧ w' = w) := by
  have HSP := Lib.hid (spB_in b hb)
  go_enter Tryz.func80, Tryz.ntmps80
  go_wp2
  go_loopw [3] (fun v3 wr => ∃ k : Nat, k ≤ 13 ∧ v3 = .int .i64 (k : Int) ∧ Hid (∀ j, j < k → ∀ h : j < 13, (spB[j]'h).toNat ≠ b) ∧ wr = w) (fun i _ => 13 - (intOf i).toNat)
  case atStart => exact ⟨0, by omega, rfl, Lib.hid (fun j hj => by omega), by first | rfl | trivial⟩
  case round =>
    obtain ⟨k, hk, rfl, hN, rfl⟩ := hrel
    by_cases hlt : k < 13
    · have hk0 : (0 : Int) ≤ (k : Int) := by omega
      have hk1 : (k : Int) < 13 := by omega
      by_cases hc : (spB[k]'hlt).toNat = b
      · have hd : ((({ data := #[92, 46, 91, 93, 40, 41, 124, 42, 43, 63, 94, 36, 45] } : ByteArray)[k]'hlt).toNat : Int) = (b : Int) := by
          have := hc; unfold spB at this; omega
        have hin : UInt8.ofNat b ∈ specialL := HSP.out.2 ⟨k, hlt, hc⟩
        have HIN := Lib.hid hin
        clear hc hin
        go_wp2
        go_ret
        exact ⟨by rw [decide_eq_true HIN.out]; rfl, rfl⟩
      · have hd : ¬ ((({ data := #[92, 46, 91, 93, 40, 41, 124, 42, 43, 63, 94, 36, 45] } : ByteArray)[k]'hlt).toNat : Int) = (b : Int) := by
          have := hc; unfold spB at this; omega
        have HNN := Lib.hid hc
        clear hc
        go_wp2
        go_roundw
        case rel => exact ⟨k + 1, by omega, by go_num, Lib.hid (fun j hj h => by
          by_cases e : j = k
          · subst e; exact HNN.out
          · exact hN.out j (by omega) h), trivial⟩
        case measure => simp [intOf]; omega
    · obtain rfl : k = 13 := by omega
      have hno : ¬ UInt8.ofNat b ∈ specialL := fun h => by
        obtain ⟨j, hj, e⟩ := HSP.out.1 h
        exact hN.out j hj hj e
      go_wp2
      go_ret
      exact ⟨by rw [decide_eq_false hno]; rfl, rfl⟩

theorem convR_byte (bb : Nat) (hb : bb < 256) (w : World) : (convert 89 9 (.slice (some ⟨w.heap.size, 0, none⟩) 1 1)).run Tryz.prog (w.alloc (.cells #[.int .u8 (bb : Int)] 5)) = .ok (.string ⟨#[UInt8.ofNat bb]⟩) (w.alloc (.cells #[.int .u8 (bb : Int)] 5)) := by
  have h := run_convert_bytes_back (P := Tryz.prog) (w.alloc (.cells #[.int .u8 (bb : Int)] 5)) 89 9 5 ⟨w.heap.size, 0, none⟩ 1 [UInt8.ofNat bb] Tryz.underlying89 Tryz.underlying5 Tryz.underlying9 (by
    intro j hj
    have : j = 0 := by simpa using hj
    subst this
    rw [add_mk, Nat.add_zero, (Blk.new w 5 #[.int .u8 (bb : Int)]).cell 0]
    simp [Nat.mod_eq_of_lt hb])
  exact h

set_option maxRecDepth 100000 in
set_option maxHeartbeats 2000000 in
theorem RByteText_any (b : Nat) (hb : b < 256) (w : World) : Calls Tryz.prog 56 #[.int .i64 (b : Int)] w (StrIs (byteT b) w) := by
  by_cases h : b < 32 ∨ 126 < b
  · have hd : (decide ((b : Int) < 32) || decide ((126 : Int) < (b : Int))) = true := by simp; omega
    have h1 : (0 : Int) ≤ (b : Int) / 16 := by omega
    have h2 : (b : Int) / 16 < 16 := by omega
    have h3 : (0 : Int) ≤ (b : Int) % 16 := by omega
    have h4 : (b : Int) % 16 < 16 := by omega
    have HT := Lib.hid (hexT ⟨b, hb⟩ h)
    go_enter Tryz.func56, Tryz.ntmps56
    go_wp2_with fail
    all_goals go_quiet (fail)
    all_goals
      go_wp2
      go_ret
      exact ⟨_, rfl, HT.out, below_drewN (Below.refl _ _) _⟩
  · have hd : (decide ((b : Int) < 32) || decide ((126 : Int) < (b : Int))) = false := by simp; omega
    have hcv := fun W => convR_byte b hb W
    have i1 : (0 : Int) ≤ (b : Int) := by omega
    have i2 : (b : Int) < 256 := by omega
    have HSG := Lib.hid (fun W => RSigned_any b hb W)
    have HL : Hid (byteT b = if UInt8.ofNat b ∈ specialL then [92, UInt8.ofNat b] else [UInt8.ofNat b]) := Lib.hid (by unfold byteT; rw [if_neg h])
    have HBW : Hid (∀ o, Below w.heap.size w (w.alloc o)) := Lib.hid (fun o => (Below.refl _ _).alloc (Nat.le_refl _) o)
    by_cases hs : UInt8.ofNat b ∈ specialL
    · rw [if_pos hs] at HL
      rw [decide_eq_true hs] at HSG
      clear hs
      go_enter Tryz.func56, Tryz.ntmps56
      go_wp2_with fail
      refine (HSG.out _).mono ?_
      rintro e w1 ⟨rfl, rfl⟩
      go_wp2_with fail
      go_ret
      exact ⟨_, rfl, by rw [HL.out, data_app]; rfl, HBW.out _⟩
    · rw [if_neg hs] at HL
      rw [decide_eq_false hs] at HSG
      clear hs
      go_enter Tryz.func56, Tryz.ntmps56
      go_wp2_with fail
      refine (HSG.out _).mono ?_
      rintro e w1 ⟨rfl, rfl⟩
      go_wp2_with fail
      go_ret
      exact ⟨_, rfl, by rw [HL.out], HBW.out _⟩

end Go.Proofs.YthcahjnniendnacGreatDoor
