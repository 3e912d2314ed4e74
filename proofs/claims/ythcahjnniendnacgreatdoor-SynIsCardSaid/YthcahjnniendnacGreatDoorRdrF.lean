/-
  The walk of the document's ParseOf.
-/
import Derived.Test.YthcahjnniendnacGreatDoorPrb
import Derived.Test.YthcahjnniendnacGreatDoorRdrE
namespace Go.Proofs.YthcahjnniendnacGreatDoor
open Go.RowKit Wf

theorem rall_c {rb : Nat} {s : ByteArray} (hs : s.size ≤ 200) : ∀ (n i : Nat) (W : World), s.size - i < n → RW W rb s i none W → i ≤ s.size →
    Calls Tryz.prog 39 #[.pointer (some ⟨rb, 0, none⟩)] W (RRdIs (orS s.data.toList i) rb s i 1 W) := by
  intro n
  induction n with
  | zero => intro i W hn; omega
  | succ n ih =>
    intro i W hn h hi
    exact rall_w W h hs hi fun j W' hij hj hw => ratom_c W' hw hs hj fun W'' hw' hj1 => ih (j + 1) W'' (by omega) hw' hj1

/-- What the document tells of a text: its nodes, or where it stops, or that it is too long. -/
def RParseIs (s : ByteArray) (w : World) (e : Ending) (w' : World) : Prop := Below w.heap.size w w' ∧
  ((200 < s.size ∧ e = .returned (.tuple #[.slice none 0 0, .int .i64 0, .int .i64 3])) ∨
   (s.size ≤ 200 ∧ ∃ t, orS s.data.toList 0 = .ok t s.size ∧ 60 < (flat t).length ∧ e = .returned (.tuple #[.slice none 0 0, .int .i64 0, .int .i64 3])) ∨
   (s.size ≤ 200 ∧ ∃ t g cap, orS s.data.toList 0 = .ok t s.size ∧ (flat t).length ≤ 60 ∧ e = .returned (.tuple #[.slice (some ⟨g, 0, none⟩) (flat t).length cap, .int .i64 0, .int .i64 0]) ∧ RowIn w' w.heap.size (.slice (some ⟨g, 0, none⟩) (flat t).length cap) (flat t)) ∨
   (s.size ≤ 200 ∧ ∃ k : Nat, (orS s.data.toList 0 = .bad k ∨ ∃ t, orS s.data.toList 0 = .ok t k ∧ k ≠ s.size) ∧ k ≤ s.size ∧ e = .returned (.tuple #[.slice none 0 0, .int .i64 (k : Int), .int .i64 5])))

theorem RW.out {w w' : World} {o : Obj} {i : Nat} {bad : Option Nat} {s : ByteArray} (h : RW (w.alloc o) w.heap.size s i bad w') : Below w.heap.size w w' := by
  have hg := h.grow
  have hb : Below w.heap.size w (w.alloc o) := (Below.refl _ _).alloc (Nat.le_refl _) _
  exact ⟨hg.os.trans hb.os, hg.tape.trans hb.tape, hg.output.trans hb.output, Nat.le_trans hb.size hg.size, fun q hq => (hg.block q (by simp; omega) (fun e => by have := Option.some.inj e; omega)).trans (hb.block q hq)⟩

set_option maxRecDepth 100000 in
set_option maxHeartbeats 4000000 in
theorem RParse_c (s : ByteArray) (w : World) (hs63 : s.size ≤ 9223372036854775807) : Calls Tryz.prog 12 #[.string s] w (RParseIs s w) := by
  by_cases hs : 200 < s.size
  · have hd : decide ((200 : Int) < (s.size : Int)) = true := by simp; omega
    have hd2 : (200 : Int) < (s.size : Int) := by omega
    unfold RParseIs
    go_enter Tryz.func12, Tryz.ntmps12
    go_wp2
    go_ret3
    exact ⟨Below.refl _ _, .inl ⟨hs, rfl⟩⟩
  · have hd : decide ((200 : Int) < (s.size : Int)) = false := by simp; omega
    have hs2 : s.size ≤ 200 := by omega
    have h0 : RW (w.alloc (.cells #[.string s, .int .i64 0, .int .i64 (-1)] 98)) w.heap.size s 0 none (w.alloc (.cells #[.string s, .int .i64 0, .int .i64 (-1)] 98)) := RW.start (Blk.new w _ _)
    have HAL := Lib.hid (rall_c hs2 (s.size + 1) 0 _ (by omega) h0 (by omega))
    have hLZ : s.data.toList.length = s.size := by simp
    have HLZ := Lib.hid hLZ
    have HFL : Hid (∀ (j k : Nat) W, RW (w.alloc (.cells #[.string s, .int .i64 0, .int .i64 (-1)] 98)) w.heap.size s j none W → Calls Tryz.prog 40 #[.pointer (some ⟨w.heap.size, 0, none⟩), .int .i64 (k : Int)] W (RFailIs w.heap.size s j (some k) W)) := Lib.hid fun j k W hw => rfail_good W hw.here k
    obtain ⟨W0, hW0⟩ : ∃ W0, W0 = w.alloc (.cells #[.string s, .int .i64 0, .int .i64 (-1)] 98) := ⟨_, rfl⟩
    have HOUT : Hid (∀ i bad w', RW W0 w.heap.size s i bad w' → Below w.heap.size w w') := Lib.hid (by rw [hW0]; exact fun i bad w' h => h.out)
    have hsz0 : Hid (w.heap.size ≤ W0.heap.size) := Lib.hid (by rw [hW0]; simp)
    have HW0 := Lib.hid hW0
    unfold RRdIs at HAL
    unfold RFailIs at HFL
    unfold RParseIs
    rw [← hW0] at HAL HFL
    clear h0 hLZ hs hW0
    go_enter Tryz.func12, Tryz.ntmps12
    go_wp2_with fail
    rw [← HW0.out]
    refine HAL.out.mono ?_
    rintro e w1 ⟨g, cap, l, j, bad, rfl, hrow, hrw, ho⟩
    have HX := Lib.hid hrw
    have HRow := Lib.hid (hrow.lower hsz0.out)
    have HO := Lib.hid ho
    have r1 := hrw.c1
    clear hrow hrw ho HAL
    cases bad with
    | some k =>
      have q2 : w1.cell? ⟨w.heap.size, 2, none⟩ = some (.int .i64 (k : Int)) := HX.out.c2
      have dk : decide ((k : Int) < 0) = false := by simp
      have dk2 : decide ((0 : Int) ≤ (k : Int)) = true := by simp
      have hks : k ≤ s.size := by have := orS_badle HO.out.2.1; rwa [HLZ.out] at this
      go_wp2_with fail
      go_region
      go_wp2_with fail
      go_ret3
      exact ⟨(HOUT.out _ _ _ HX.out).drew, .inr (.inr (.inr ⟨hs2, k, .inl HO.out.2.1, hks, rfl⟩))⟩
    | none =>
      have q2 : w1.cell? ⟨w.heap.size, 2, none⟩ = some (.int .i64 (-1)) := HX.out.c2
      obtain ⟨t, hr, hl, h1, h2, h3⟩ := HO.out.2
      have h2' := h2
      rw [HLZ.out] at h2'
      have HR := Lib.hid hr
      have HL := Lib.hid hl
      clear hr hl h2 HO
      by_cases hj : j = s.size
      · have d1 : decide ((j : Int) < (s.size : Int)) = false := by simp; omega
        have d2 : decide (j < s.size) = false := by simp; omega
        obtain ⟨N, hN⟩ : ∃ N, N = l.length := ⟨_, rfl⟩
        rw [← hN] at HRow ⊢
        have HN := Lib.hid hN
        have HRow' : Hid (RowIn w1 w.heap.size (.slice (some ⟨g, 0, none⟩) N cap) (flat t)) := Lib.hid (by have := HRow.out; rwa [HL.out] at this)
        have HJ := Lib.hid hj
        clear hN HRow hj
        by_cases h60 : 60 < N
        · have d3 : decide ((60 : Int) < (N : Int)) = true := by simp; omega
          go_wp2_with fail
          go_ret3
          exact ⟨HOUT.out _ _ _ HX.out, .inr (.inl ⟨hs2, t, by rw [HR.out, HJ.out], by rw [← HL.out, ← HN.out]; exact h60, rfl⟩)⟩
        · have d3 : decide ((60 : Int) < (N : Int)) = false := by simp; omega
          go_wp2_with fail
          go_ret3
          refine ⟨HOUT.out _ _ _ HX.out, .inr (.inr (.inl ⟨hs2, t, g, cap, by rw [HR.out, HJ.out], by rw [← HL.out, ← HN.out]; omega, by rw [← HL.out, ← HN.out]; rfl, ?_⟩))⟩
          have h5 := HRow'.out
          rw [HN.out, HL.out] at h5
          exact h5
      · have d1 : decide ((j : Int) < (s.size : Int)) = true := by simp; omega
        have d2 : decide (j < s.size) = true := by simp; omega
        have HJ := Lib.hid hj
        clear hj
        go_wp2_with fail
        refine (HFL.out j j _ HX.out).mono ?_
        rintro e w2 ⟨rfl, hw2⟩
        have HX2 := Lib.hid (HX.out.trans hw2)
        have q3 : w2.cell? ⟨w.heap.size, 2, none⟩ = some (.int .i64 (j : Int)) := hw2.c2
        have dk2 : decide ((0 : Int) ≤ (j : Int)) = true := by simp
        clear hw2
        go_wp2_with fail
        go_region
        go_wp2_with fail
        go_ret3
        exact ⟨(HOUT.out _ _ _ HX2.out).drew, .inr (.inr (.inr ⟨hs2, j, .inr ⟨t, HR.out, HJ.out⟩, h2', rfl⟩))⟩
end Go.Proofs.YthcahjnniendnacGreatDoor
