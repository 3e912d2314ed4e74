/-
  Walks of the document's reader: fail, sees, hex.
-/
import Derived.Test.YthcahjnniendnacGreatDoorPre
import Derived.Test.YthcahjnniendnacGreatDoorRefT
import Derived.BigQuiet
namespace Go.Proofs.YthcahjnniendnacGreatDoor
open Go.RowKit Wf

/-- What is wrong, as the reader has it. -/
def badI : Option Nat → Int
  | none => -1
  | some k => (k : Int)
/-- The document's reader at place i; nothing but its own block has turned since w0. -/
structure RW (w0 : World) (rb : Nat) (s : ByteArray) (i : Nat) (bad : Option Nat) (w : World) : Prop where
  par : Blk w rb 98 #[.string s, .int .i64 (i : Int), .int .i64 (badI bad)]
  grow : w0.grownBy w (some rb)
  lt : rb < w0.heap.size

section
variable {w0 w w' : World} {rb i j : Nat} {bad bad' : Option Nat} {s : ByteArray}
theorem RW.start (h : Blk w rb 98 #[.string s, .int .i64 (i : Int), .int .i64 (badI bad)]) : RW w rb s i bad w := ⟨h, ⟨rfl, rfl, rfl, Nat.le_refl _, fun _ _ _ => rfl⟩, h.lt⟩
theorem RW.trans (h : RW w0 rb s i bad w) (h' : RW w rb s j bad' w') : RW w0 rb s j bad' w' := ⟨h'.par, h.grow.trans h'.grow, h.lt⟩
theorem RW.here (h : RW w0 rb s i bad w) : RW w rb s i bad w := RW.start h.par
theorem RW.below (h : RW w0 rb s i bad w) (hb : Below w.heap.size w w') : RW w0 rb s i bad w' := ⟨h.par.kept hb, h.grow.trans ⟨hb.os, hb.tape, hb.output, hb.size, fun q hq _ => hb.block q hq⟩, h.lt⟩
theorem RW.at (h : RW w0 rb s i bad w) (j : Nat) : RW w0 rb s j bad (w.setCell ⟨rb, 1, none⟩ (.int .i64 (j : Int))) :=
  ⟨h.par.set_ 1 _, h.grow.trans ⟨rfl, rfl, rfl, by simp, fun q _ hn => Below.heap_setCell w _ _ q (fun e => hn (by rw [e]))⟩, h.lt⟩
theorem RW.fails (h : RW w0 rb s i bad w) (k : Nat) : RW w0 rb s i (some k) (w.setCell ⟨rb, 2, none⟩ (.int .i64 (k : Int))) :=
  ⟨h.par.set_ 2 _, h.grow.trans ⟨rfl, rfl, rfl, by simp, fun q _ hn => Below.heap_setCell w _ _ q (fun e => hn (by rw [e]))⟩, h.lt⟩
theorem RW.c0 (h : RW w0 rb s i bad w) : w.cell? ⟨rb, 0, none⟩ = some (.string s) := h.par.cell 0
theorem RW.c1 (h : RW w0 rb s i bad w) : w.cell? ⟨rb, 1, none⟩ = some (.int .i64 (i : Int)) := h.par.cell 1
theorem RW.c2 (h : RW w0 rb s i bad w) : w.cell? ⟨rb, 2, none⟩ = some (.int .i64 (badI bad)) := h.par.cell 2
theorem RW.f1 (h : RW w0 rb s i bad w) : w.frozen? ⟨rb, 1, none⟩ = false := h.par.frozen 1
theorem RW.f2 (h : RW w0 rb s i bad w) : w.frozen? ⟨rb, 2, none⟩ = false := h.par.frozen 2
end

theorem at_getR {s : ByteArray} {i : Nat} {c : UInt8} (h : s.data.toList[i]? = some c) : ∃ hi : i < s.size, s[i] = c := by
  obtain ⟨hi, he⟩ := List.getElem?_eq_some_iff.1 h
  have hs : i < s.size := by simpa using hi
  exact ⟨hs, by rw [← he]; simp [ByteArray.getElem_eq_getElem_data]⟩
theorem at_noneR {s : ByteArray} {i : Nat} (h : s.data.toList[i]? = none) : s.size ≤ i := by
  have := List.getElem?_eq_none_iff.1 h
  simpa using this
theorem at_endR (s : ByteArray) : s.data.toList.length = s.size := by simp

def RFailIs (rb : Nat) (s : ByteArray) (i : Nat) (bad : Option Nat) (w : World) (e : Ending) (w' : World) : Prop := e = .returned (.tuple #[]) ∧ RW w rb s i bad w'
set_option maxRecDepth 100000 in
theorem rfail_good {rb : Nat} {s : ByteArray} {i : Nat} (w : World) (h : RW w rb s i none w) (k : Nat) :
    Calls Tryz.prog 40 #[.pointer (some ⟨rb, 0, none⟩), .int .i64 (k : Int)] w (RFailIs rb s i (some k) w) := by
  have c2 : w.cell? ⟨rb, 2, none⟩ = some (.int .i64 (-1)) := h.c2
  have f2 := h.f2
  have H := Lib.hid (h.fails k)
  clear h
  unfold RFailIs
  go_enter Tryz.func40, Tryz.ntmps40
  go_wp2
  go_end0
  exact ⟨rfl, H.out⟩
set_option maxRecDepth 100000 in
theorem rfail_bad {rb : Nat} {s : ByteArray} {i k0 : Nat} (w : World) (h : RW w rb s i (some k0) w) (k : Nat) :
    Calls Tryz.prog 40 #[.pointer (some ⟨rb, 0, none⟩), .int .i64 (k : Int)] w (RFailIs rb s i (some k0) w) := by
  have c2 : w.cell? ⟨rb, 2, none⟩ = some (.int .i64 (k0 : Int)) := h.c2
  have d : decide ((k0 : Int) < 0) = false := by simp
  have H := Lib.hid h
  clear h
  unfold RFailIs
  go_enter Tryz.func40, Tryz.ntmps40
  go_wp2
  go_end0
  exact ⟨rfl, H.out⟩

def RSeesIs (b : Bool) (w : World) (e : Ending) (w' : World) : Prop := e = .returned (.bool b) ∧ Below w.heap.size w w'
set_option maxRecDepth 100000 in
set_option maxHeartbeats 2000000 in
theorem rsees_yes {rb : Nat} {s : ByteArray} {i : Nat} {c : UInt8} (w : World) (h : RW w rb s i none w) (hs : s.size ≤ 200) (hc : s.data.toList[i]? = some c) :
    Calls Tryz.prog 64 #[.pointer (some ⟨rb, 0, none⟩), .int .u8 (c.toNat : Int)] w (RSeesIs true w) := by
  obtain ⟨hi, he⟩ := at_getR hc
  have c0 := h.c0
  have c1 := h.c1
  have c2 : w.cell? ⟨rb, 2, none⟩ = some (.int .i64 (-1)) := h.c2
  have hcond : decide ((i : Int) < (s.size : Int)) = true := by simp; omega
  have hz : (0 : Int) ≤ (i : Int) := by omega
  have hn : i < s.size := hi
  have hq : ((s[i].toNat : Int) == (c.toNat : Int)) = true := by rw [he]; simp
  clear h hc he
  unfold RSeesIs
  go_enter Tryz.func64, Tryz.ntmps64
  go_wp2
  go_quiet (fail)
  go_wp2
  go_ret
  exact ⟨rfl, below_drewN (Below.refl _ _) _⟩
set_option maxRecDepth 100000 in
set_option maxHeartbeats 2000000 in
theorem rsees_no {rb : Nat} {s : ByteArray} {i : Nat} {c : UInt8} (w : World) (h : RW w rb s i none w) (hs : s.size ≤ 200) (hi2 : i ≤ s.size) (hc : s.data.toList[i]? ≠ some c) :
    Calls Tryz.prog 64 #[.pointer (some ⟨rb, 0, none⟩), .int .u8 (c.toNat : Int)] w (RSeesIs false w) := by
  have c0 := h.c0
  have c1 := h.c1
  have c2 : w.cell? ⟨rb, 2, none⟩ = some (.int .i64 (-1)) := h.c2
  unfold RSeesIs
  cases hg : s.data.toList[i]? with
  | none =>
    have hi := at_noneR hg
    have hcond : decide ((i : Int) < (s.size : Int)) = false := by simp; omega
    have hcond2 : decide (i < s.size) = false := by simp; omega
    clear h hc hg
    go_enter Tryz.func64, Tryz.ntmps64
    go_wp2
    go_quiet (fail)
    go_wp2
    go_ret
    exact ⟨rfl, below_drewN (Below.refl _ _) _⟩
  | some d =>
    obtain ⟨hi, he⟩ := at_getR hg
    have hne : d.toNat ≠ c.toNat := fun e => hc (by rw [hg, UInt8.toNat_inj.1 e])
    have hcond : decide ((i : Int) < (s.size : Int)) = true := by simp; omega
    have hz : (0 : Int) ≤ (i : Int) := by omega
    have hn : i < s.size := hi
    have hq : ((s[i].toNat : Int) == (c.toNat : Int)) = false := by rw [he]; simp; omega
    clear h hc hg he
    go_enter Tryz.func64, Tryz.ntmps64
    go_wp2
    go_quiet (fail)
    go_wp2
    go_ret
    exact ⟨rfl, below_drewN (Below.refl _ _) _⟩
set_option maxRecDepth 100000 in
set_option maxHeartbeats 2000000 in
theorem rsees_bad {rb : Nat} {s : ByteArray} {i k : Nat} (c : Nat) (w : World) (h : RW w rb s i (some k) w) :
    Calls Tryz.prog 64 #[.pointer (some ⟨rb, 0, none⟩), .int .u8 (c : Int)] w (RSeesIs false w) := by
  have c0 := h.c0
  have c1 := h.c1
  have c2 : w.cell? ⟨rb, 2, none⟩ = some (.int .i64 (k : Int)) := h.c2
  have d : decide ((k : Int) < 0) = false := by simp
  unfold RSeesIs
  clear h
  go_enter Tryz.func64, Tryz.ntmps64
  go_wp2
  go_quiet (fail)
  go_wp2
  go_ret
  exact ⟨rfl, below_drewN (Below.refl _ _) _⟩

set_option maxRecDepth 100000 in
set_option maxHeartbeats 2000000 in
theorem rhex_any (b : Nat) (hb : b < 256) (w : World) : Calls Tryz.prog 120 #[.int .u8 (b : Int)] w (fun e w' => e = .returned (.int .i64 (hexI b)) ∧ w' = w) := by
  have HSP : Hid (∀ i : Nat, ∀ hi : i < 16, (((⟨#[48, 49, 50, 51, 52, 53, 54, 55, 56, 57, 97, 98, 99, 100, 101, 102]⟩ : ByteArray)[i]'hi).toNat = b) → hexI b = (i : Int)) := Lib.hid fun i hi h => hexI_some hb hi h
  have HNO : Hid ((∀ i : Nat, ∀ hi : i < 16, (((⟨#[48, 49, 50, 51, 52, 53, 54, 55, 56, 57, 97, 98, 99, 100, 101, 102]⟩ : ByteArray)[i]'hi).toNat ≠ b)) → hexI b = -1) := Lib.hid (hexI_none hb)
  obtain ⟨q, hq⟩ : ∃ q, q = hexI b := ⟨_, rfl⟩
  rw [← hq] at HSP HNO ⊢
  clear hq
  go_enter Tryz.func120, Tryz.ntmps120
  go_wp2
  go_loopw [3] (fun v3 wr => ∃ k : Nat, k ≤ 16 ∧ v3 = .int .i64 (k : Int) ∧ Hid (∀ j : Nat, j < k → ∀ h : j < 16, (((⟨#[48, 49, 50, 51, 52, 53, 54, 55, 56, 57, 97, 98, 99, 100, 101, 102]⟩ : ByteArray)[j]'h).toNat ≠ b)) ∧ wr = w) (fun i _ => 16 - (intOf i).toNat)
  case atStart => exact ⟨0, by omega, rfl, Lib.hid (fun j hj => by omega), by first | rfl | trivial⟩
  case round =>
    obtain ⟨k, hk, rfl, hN, rfl⟩ := hrel
    by_cases hlt : k < 16
    · have hk0 : (0 : Int) ≤ (k : Int) := by omega
      have hk1 : (k : Int) < 16 := by omega
      by_cases hc : (((⟨#[48, 49, 50, 51, 52, 53, 54, 55, 56, 57, 97, 98, 99, 100, 101, 102]⟩ : ByteArray)[k]'hlt).toNat = b)
      · have hd : ((((⟨#[48, 49, 50, 51, 52, 53, 54, 55, 56, 57, 97, 98, 99, 100, 101, 102]⟩ : ByteArray)[k]'hlt).toNat : Int) = (b : Int)) := by omega
        have HQ := Lib.hid (HSP.out k hlt hc)
        clear hc
        go_wp2
        go_ret
        exact ⟨by rw [HQ.out]; rfl, rfl⟩
      · have hd : ¬ ((((⟨#[48, 49, 50, 51, 52, 53, 54, 55, 56, 57, 97, 98, 99, 100, 101, 102]⟩ : ByteArray)[k]'hlt).toNat : Int) = (b : Int)) := by omega
        have HNN := Lib.hid hc
        clear hc
        go_wp2
        go_roundw
        case rel => exact ⟨k + 1, by omega, by go_num, Lib.hid (fun j hj h => by
          by_cases e : j = k
          · subst e; exact HNN.out
          · exact hN.out j (by omega) h), trivial⟩
        case measure => simp [intOf]; omega
    · obtain rfl : k = 16 := by omega
      have HQ := Lib.hid (HNO.out (fun j hj => hN.out j hj hj))
      go_wp2
      go_ret
      exact ⟨by rw [HQ.out]; rfl, rfl⟩
end Go.Proofs.YthcahjnniendnacGreatDoor
