/-
  Proved: winnowfanlaw2.FindIs returns true for every pattern, text and place, and changes nothing that was there.
-/
import Derived.Test.YthcahjnniendnacDoorAs
import Derived.Test.YthcahjnniendnacDoorEmptyNo
import Derived.Test.YthcahjnniendnacDoorFindE
import Derived.Test.YthcahjnniendnacDoorFindR
import Derived.Test.YthcahjnniendnacDoorGRef
import Derived.Test.YthcahjnniendnacDoorLaid
import Derived.Test.YthcahjnniendnacDoorLaw
import Derived.Test.YthcahjnniendnacDoorOpen
import Derived.Test.YthcahjnniendnacDoorSpans
import Derived.Test.YthcahjnniendnacDoorTie
import Derived.Test.YthcahjnniendnacDoorCards
namespace Go.Proofs.YthcahjnniendnacDoor.findIs
open Go.ChangeShapes Go.WideShapes Go.ChangeAt Go.RowKit Wf
open Go.ChangeMaps (open_string shut_string)
open law (own laidOut LawIs laidL laidWorld laidWorld_met handle_of_laid)
set_option linter.unusedVariables false

set_option maxRecDepth 100000 in
set_option maxHeartbeats 16000000 in
theorem walk (l : List Nd) (v : Value) (s : ByteArray) (f : Int) (w : World) (hr : RdN w v l) (hok : ∀ n ∈ l, okNd n) (hs : s.size ≤ maxLen) (hg : ErrT w) :
    Calls Tryd.prog 5 #[v, .string s, .int .i64 f] w (LawIs w) := by
  have hokc : ∀ n ∈ l, okC n.cls := fun n hn => (hok n hn).2.2
  unfold maxLen at hs
  obtain ⟨t, ht⟩ := tree_of l
  obtain ⟨A, cap, rfl, hcap, hcap2, hmem⟩ := hr.open_
  have HFD := Lib.hid (fun W h => find_any l t ht hokc s hs f (.slice A l.length cap) W h)
  have HAD := Lib.hid (fun W h => all_any l t ht hokc s hs (.slice A l.length cap) W h)
  have HF := Lib.hid (RFault_any l _ w hr hokc)
  unfold RFaultIs at HF
  have HR := Lib.hid hr
  have HG := Lib.hid hg
  have HS := Lib.hid (fun n W h => SErr_any n n W h)
  have HSZ : Hid (s.data.toList.length = s.size) := Lib.hid (by simp)
  by_cases hcf : chkF l s.size = 0
  · obtain ⟨hc2, hs4⟩ := chkF_zero hcf
    have hlen := (chk_tree hc2).1
    have htt := ht hc2
    have hpos : 0 < l.length := by rw [htt]; exact flat_pos t
    obtain ⟨b, off, rfl, _⟩ := hmem hpos
    have HRA := Lib.hid (fun W h => RAll_ok l t htt hokc hlen b off cap s hs4 W h)
    have har : allR l t s = (0, spansO s.data.toList t 0) := by unfold allR; rw [if_neg (by simp [hcf])]
    rw [har] at HAD
    unfold RAllIs at HRA
    generalize spansO s.data.toList t 0 = sp at HAD HRA
    have d1 : decide ((400 : Int) < (s.size : Int)) = false := by simp; omega
    rw [hc2] at HF
    by_cases hc : chkFd l s.size f = 0
    · obtain ⟨_, hf0, hf1⟩ := chkFd_zero hc
      obtain ⟨f0, rfl⟩ := Int.eq_ofNat_of_zero_le hf0
      have HRF := Lib.hid (fun W h => RFind_ok l t htt hokc hlen b off cap s hs4 f0 (by omega) W h)
      have hfr : findR l t s (f0 : Int) = match foundO s.data.toList t f0 with | some (x, y) => (0, x, y) | none => (4, 0, 0) := by
        unfold findR
        rw [if_neg (by simp [hc]), Int.toNat_natCast]
        cases foundO s.data.toList t f0 <;> rfl
      have d2 : decide (f0 < 0) = false := by simp
      have d2' : decide ((f0 : Int) < 0) = false := by simp
      have d3 : decide (s.size < f0) = false := by simp; omega
      have d4 : decide ((s.size : Int) < (f0 : Int)) = false := by simp; omega
      clear hr hg hok hokc ht htt hmem hcf hc hc2 har hf0 hf1
      go_enter Tryd.func5, Tryd.ntmps5
      go_wp2_with fail
      refine HF.out.mono ?_
      rintro e w1 ⟨rfl, hb1⟩
      have HB1 := Lib.hid hb1
      clear hb1
      go_wp2_with fail
      refine (HRA.out w1 (HR.out.below HB1.out)).mono ?_
      rintro e w2 ⟨A1, c1, rfl, hrd1, hb2⟩
      have HB2 := Lib.hid (HB1.out.trans (hb2.mono HB1.out.size))
      have HP := Lib.hid hrd1
      clear hb2 hrd1 HB1
      have HB2' := Lib.hid (HB2.out.alloc HB2.out.size (.cells #[.int .i64 0, .int .i64 0] 46))
      have HK2 := Lib.hid (Blk.new w2 46 #[.int .i64 0, .int .i64 0])
      have HP2 := Lib.hid (HP.out.below ((Below.refl _ _).alloc (Nat.le_refl _) (.cells #[.int .i64 0, .int .i64 0] 46)))
      go_wp2_with fail
      refine (HRF.out _ (HR.out.below HB2'.out)).mono ?_
      rintro e w3 (⟨x, y, hfo, rfl, hb3⟩ | ⟨hfo, rfl, hb3⟩)
      · rw [hfo] at hfr
        rw [hfr] at HFD
        have hsz2 := hb3.size
        simp at hsz2
        have hlt23 : w2.heap.size < w3.heap.size := by omega
        have hk3 := HK2.out.kept hb3
        have s0 : w3.cell? ⟨w2.heap.size, 0, none⟩ = some (.int .i64 0) := hk3.cell 0
        have s1 : w3.cell? ⟨w2.heap.size, 1, none⟩ = some (.int .i64 0) := hk3.cell 1
        have z0 : w3.frozen? ⟨w2.heap.size, 0, none⟩ = false := hk3.frozen 0
        have z1 : w3.frozen? ⟨w2.heap.size, 1, none⟩ = false := hk3.frozen 1
        have hw2 : w.heap.size ≤ w2.heap.size := HB2.out.size
        have HB3 := Lib.hid (((HB2'.out.trans (hb3.mono HB2'.out.size)).setCell (p := ⟨w2.heap.size, 0, none⟩) hw2 (.int .i64 (x : Int))).setCell (p := ⟨w2.heap.size, 1, none⟩) hw2 (.int .i64 (y : Int)))
        have HK3 := Lib.hid ((hk3.set_ 0 (.int .i64 (x : Int))).set_ 1 (.int .i64 (y : Int)))
        have hrd3 : Rd ((w3.setCell ⟨w2.heap.size, 0, none⟩ (.int .i64 (x : Int))).setCell ⟨w2.heap.size, 1, none⟩ (.int .i64 (y : Int))) 2 (.slice A1 sp.length c1) (spanVals sp) := HP.out.keep fun b' o hlt' => by
          have h1 := hb3.cell (p := ⟨b', o, none⟩) (by simp; omega)
          have h2 : (w2.alloc (.cells #[.int .i64 0, .int .i64 0] 46)).cell? ⟨b', o, none⟩ = w2.cell? ⟨b', o, none⟩ := World.cell?_of_block (Below.heap_alloc w2 _ b' hlt')
          rw [← h2, ← h1, World.cell?_of_block (Below.heap_setCell _ _ _ b' (by show b' ≠ w2.heap.size; omega)), World.cell?_of_block (Below.heap_setCell _ _ _ b' (by show b' ≠ w2.heap.size; omega))]
        have HPW0 := Lib.hid hrd3
        obtain ⟨W0, hW0⟩ : ∃ W0, W0 = (w3.setCell ⟨w2.heap.size, 0, none⟩ (.int .i64 (x : Int))).setCell ⟨w2.heap.size, 1, none⟩ (.int .i64 (y : Int)) := ⟨_, rfl⟩
        have hsW : W0.heap.size = w3.heap.size := by rw [hW0]; simp
        rw [← hW0] at HB3 HK3 HPW0
        have HBW := Lib.hid (HB3.out.alloc (by rw [hsW]; exact Nat.le_trans hw2 (by omega)) (.cells #[.int .i64 (x : Int), .int .i64 (y : Int)] 46))
        have HKW := Lib.hid (HK3.out.alloc (.cells #[.int .i64 (x : Int), .int .i64 (y : Int)] 46))
        have HPW := Lib.hid (HPW0.out.below ((Below.refl _ _).alloc (Nat.le_refl _) (.cells #[.int .i64 (x : Int), .int .i64 (y : Int)] 46)))
        have HWQ := Lib.hid hW0
        clear hb3 hk3 hW0 hrd3 hfr hfo hsW
        go_wp2_with fail
        rw [← HWQ.out]
        clear HWQ
        refine (HFD.out _ (HR.out.below HBW.out)).mono ?_
        rintro e w5 ⟨rfl, hb5⟩
        have HB5 := Lib.hid ((HBW.out.trans (hb5.mono HBW.out.size)).alloc (Nat.le_trans HBW.out.size hb5.size) (.cells #[.int .i64 (x : Int), .int .i64 (y : Int)] 46))
        have HK5 := Lib.hid ((HKW.out.kept hb5).alloc (.cells #[.int .i64 (x : Int), .int .i64 (y : Int)] 46))
        have HN5 := Lib.hid (Blk.new w5 46 #[.int .i64 (x : Int), .int .i64 (y : Int)])
        have HP5 := Lib.hid ((HPW.out.below hb5).below ((Below.refl _ _).alloc (Nat.le_refl _) (.cells #[.int .i64 (x : Int), .int .i64 (y : Int)] 46)))
        clear hb5
        dsimp only
        go_wp2_with fail
        refine (HS.out 0 _ (HG.out.below HB5.out)).mono ?_
        rintro e w6 ⟨r6, rfl, hr6, hb6⟩
        obtain rfl : r6 = true := hr6.2 rfl
        have HB6 := Lib.hid (HB5.out.trans (hb6.mono HB5.out.size))
        have HK6 := Lib.hid (HK5.out.kept hb6)
        have HN6 := Lib.hid (HN5.out.kept hb6)
        have HP6 := Lib.hid (HP5.out.below hb6)
        clear hb6 hr6
        go_wp2_with fail
        refine (HAD.out _ (HR.out.below HB6.out)).mono ?_
        rintro e w7 ⟨A7, c7, rfl, hrd7, hb7⟩
        have HB7 := Lib.hid (HB6.out.trans (hb7.mono HB6.out.size))
        have HK7 := Lib.hid (HK6.out.kept hb7)
        have HN7 := Lib.hid (HN6.out.kept hb7)
        have HP7 := Lib.hid (HP6.out.below hb7)
        have HQ7 := Lib.hid hrd7
        clear hb7 hrd7
        dsimp only at HQ7 ⊢
        go_wp2_with fail
        refine (HS.out 0 _ (HG.out.below HB7.out)).mono ?_
        rintro e w8 ⟨r8, rfl, hr8, hb8⟩
        obtain rfl : r8 = true := hr8.2 rfl
        have HB8 := Lib.hid (HB7.out.trans (hb8.mono HB7.out.size))
        have HK8 := Lib.hid (HK7.out.kept hb8)
        have HN8 := Lib.hid (HN7.out.kept hb8)
        have HP8 := Lib.hid (HP7.out.below hb8)
        have HQ8 := Lib.hid (HQ7.out.below hb8)
        clear hb8 hr8
        go_wp2_with fail
        refine (Spans_any _ _ _ _ _ HQ8.out HP8.out).mono ?_
        rintro e w9 ⟨r9, rfl, hr9, hb9⟩
        obtain rfl : r9 = true := hr9.2 rfl
        have HB9 := Lib.hid (HB8.out.trans (hb9.mono HB8.out.size))
        have hk9 := HK8.out.kept hb9
        have hn9 := HN8.out.kept hb9
        have q0 : w9.cell? ⟨w2.heap.size, 0, none⟩ = some (.int .i64 (x : Int)) := hk9.cell 0
        have q1 : w9.cell? ⟨w2.heap.size, 1, none⟩ = some (.int .i64 (y : Int)) := hk9.cell 1
        have p0 : w9.cell? ⟨w5.heap.size, 0, none⟩ = some (.int .i64 (x : Int)) := hn9.cell 0
        have p1 : w9.cell? ⟨w5.heap.size, 1, none⟩ = some (.int .i64 (y : Int)) := hn9.cell 1
        have hsp : sp2 (x : Int) (y : Int) (x : Int) (y : Int) = true := sp2_self _ _
        clear hb9 hr9 hk9 hn9
        go_wp2_with fail
        go_ret
        exact ⟨rfl, HB9.out⟩
      · rw [hfo] at hfr
        rw [hfr] at HFD
        have hsz2 := hb3.size
        simp at hsz2
        have hlt23 : w2.heap.size < w3.heap.size := by omega
        have hk3 := HK2.out.kept hb3
        have s0 : w3.cell? ⟨w2.heap.size, 0, none⟩ = some (.int .i64 0) := hk3.cell 0
        have s1 : w3.cell? ⟨w2.heap.size, 1, none⟩ = some (.int .i64 0) := hk3.cell 1
        have z0 : w3.frozen? ⟨w2.heap.size, 0, none⟩ = false := hk3.frozen 0
        have z1 : w3.frozen? ⟨w2.heap.size, 1, none⟩ = false := hk3.frozen 1
        have hw2 : w.heap.size ≤ w2.heap.size := HB2.out.size
        have HB3 := Lib.hid (((((HB2'.out.trans (hb3.mono HB2'.out.size)).setCell (p := ⟨w2.heap.size, 0, none⟩) hw2 (.int .i64 0)).setCell (p := ⟨w2.heap.size, 1, none⟩) hw2 (.int .i64 0)).setCell (p := ⟨w2.heap.size, 0, none⟩) hw2 (.int .i64 0)).setCell (p := ⟨w2.heap.size, 1, none⟩) hw2 (.int .i64 0))
        have HK3 := Lib.hid ((((hk3.set_ 0 (.int .i64 0)).set_ 1 (.int .i64 0)).set_ 0 (.int .i64 0)).set_ 1 (.int .i64 0))
        have hrd3 : Rd ((((w3.setCell ⟨w2.heap.size, 0, none⟩ (.int .i64 0)).setCell ⟨w2.heap.size, 1, none⟩ (.int .i64 0)).setCell ⟨w2.heap.size, 0, none⟩ (.int .i64 0)).setCell ⟨w2.heap.size, 1, none⟩ (.int .i64 0)) 2 (.slice A1 sp.length c1) (spanVals sp) := HP.out.keep fun b' o hlt' => by
          have h1 := hb3.cell (p := ⟨b', o, none⟩) (by simp; omega)
          have h2 : (w2.alloc (.cells #[.int .i64 0, .int .i64 0] 46)).cell? ⟨b', o, none⟩ = w2.cell? ⟨b', o, none⟩ := World.cell?_of_block (Below.heap_alloc w2 _ b' hlt')
          rw [← h2, ← h1, World.cell?_of_block (Below.heap_setCell _ _ _ b' (by show b' ≠ w2.heap.size; omega)), World.cell?_of_block (Below.heap_setCell _ _ _ b' (by show b' ≠ w2.heap.size; omega)), World.cell?_of_block (Below.heap_setCell _ _ _ b' (by show b' ≠ w2.heap.size; omega)), World.cell?_of_block (Below.heap_setCell _ _ _ b' (by show b' ≠ w2.heap.size; omega))]
        have HPW0 := Lib.hid hrd3
        obtain ⟨W0, hW0⟩ : ∃ W0, W0 = (((w3.setCell ⟨w2.heap.size, 0, none⟩ (.int .i64 0)).setCell ⟨w2.heap.size, 1, none⟩ (.int .i64 0)).setCell ⟨w2.heap.size, 0, none⟩ (.int .i64 0)).setCell ⟨w2.heap.size, 1, none⟩ (.int .i64 0) := ⟨_, rfl⟩
        have hsW : W0.heap.size = w3.heap.size := by rw [hW0]; simp
        rw [← hW0] at HB3 HK3 HPW0
        have HBW := Lib.hid (HB3.out.alloc (by rw [hsW]; exact Nat.le_trans hw2 (by omega)) (.cells #[.int .i64 0, .int .i64 0] 46))
        have HKW := Lib.hid (HK3.out.alloc (.cells #[.int .i64 0, .int .i64 0] 46))
        have HPW := Lib.hid (HPW0.out.below ((Below.refl _ _).alloc (Nat.le_refl _) (.cells #[.int .i64 0, .int .i64 0] 46)))
        have HWQ := Lib.hid hW0
        clear hb3 hk3 hW0 hrd3 hfr hfo hsW
        go_wp2_with fail
        rw [← HWQ.out]
        clear HWQ
        refine (HFD.out _ (HR.out.below HBW.out)).mono ?_
        rintro e w5 ⟨rfl, hb5⟩
        have HB5 := Lib.hid ((HBW.out.trans (hb5.mono HBW.out.size)).alloc (Nat.le_trans HBW.out.size hb5.size) (.cells #[.int .i64 0, .int .i64 0] 46))
        have HK5 := Lib.hid ((HKW.out.kept hb5).alloc (.cells #[.int .i64 0, .int .i64 0] 46))
        have HN5 := Lib.hid (Blk.new w5 46 #[.int .i64 0, .int .i64 0])
        have HP5 := Lib.hid ((HPW.out.below hb5).below ((Below.refl _ _).alloc (Nat.le_refl _) (.cells #[.int .i64 0, .int .i64 0] 46)))
        clear hb5
        dsimp only
        go_wp2_with fail
        refine (HS.out 4 _ (HG.out.below HB5.out)).mono ?_
        rintro e w6 ⟨r6, rfl, hr6, hb6⟩
        obtain rfl : r6 = true := hr6.2 rfl
        have HB6 := Lib.hid (HB5.out.trans (hb6.mono HB5.out.size))
        have HK6 := Lib.hid (HK5.out.kept hb6)
        have HN6 := Lib.hid (HN5.out.kept hb6)
        have HP6 := Lib.hid (HP5.out.below hb6)
        clear hb6 hr6
        go_wp2_with fail
        refine (HAD.out _ (HR.out.below HB6.out)).mono ?_
        rintro e w7 ⟨A7, c7, rfl, hrd7, hb7⟩
        have HB7 := Lib.hid (HB6.out.trans (hb7.mono HB6.out.size))
        have HK7 := Lib.hid (HK6.out.kept hb7)
        have HN7 := Lib.hid (HN6.out.kept hb7)
        have HP7 := Lib.hid (HP6.out.below hb7)
        have HQ7 := Lib.hid hrd7
        clear hb7 hrd7
        dsimp only at HQ7 ⊢
        go_wp2_with fail
        refine (HS.out 0 _ (HG.out.below HB7.out)).mono ?_
        rintro e w8 ⟨r8, rfl, hr8, hb8⟩
        obtain rfl : r8 = true := hr8.2 rfl
        have HB8 := Lib.hid (HB7.out.trans (hb8.mono HB7.out.size))
        have HK8 := Lib.hid (HK7.out.kept hb8)
        have HN8 := Lib.hid (HN7.out.kept hb8)
        have HP8 := Lib.hid (HP7.out.below hb8)
        have HQ8 := Lib.hid (HQ7.out.below hb8)
        clear hb8 hr8
        go_wp2_with fail
        refine (Spans_any _ _ _ _ _ HQ8.out HP8.out).mono ?_
        rintro e w9 ⟨r9, rfl, hr9, hb9⟩
        obtain rfl : r9 = true := hr9.2 rfl
        have HB9 := Lib.hid (HB8.out.trans (hb9.mono HB8.out.size))
        have hk9 := HK8.out.kept hb9
        have hn9 := HN8.out.kept hb9
        have q0 : w9.cell? ⟨w2.heap.size, 0, none⟩ = some (.int .i64 0) := hk9.cell 0
        have q1 : w9.cell? ⟨w2.heap.size, 1, none⟩ = some (.int .i64 0) := hk9.cell 1
        have p0 : w9.cell? ⟨w5.heap.size, 0, none⟩ = some (.int .i64 0) := hn9.cell 0
        have p1 : w9.cell? ⟨w5.heap.size, 1, none⟩ = some (.int .i64 0) := hn9.cell 1
        have hsp : sp2 0 0 0 0 = true := sp2_self _ _
        clear hb9 hr9 hk9 hn9
        go_wp2_with fail
        go_ret
        exact ⟨rfl, HB9.out⟩
    · have hfr : findR l t s f = (chkFd l s.size f, 0, 0) := by unfold findR; rw [if_pos hc]
      have hrg : f < 0 ∨ (s.size : Int) < f := by
        unfold chkFd at hc
        rw [if_neg (by simp [hcf])] at hc
        split at hc
        · assumption
        · exact absurd rfl hc
      have hone : chkFd l s.size f = 1 := by unfold chkFd; rw [if_neg (by simp [hcf]), if_pos hrg]
      rw [hfr, hone] at HFD
      clear hr hg hok hokc ht htt hmem hcf hc hc2 har hfr hone
      rcases hrg with h | h
      · have d2 : decide (f < 0) = true := by simpa using h
        clear h
        go_enter Tryd.func5, Tryd.ntmps5
        go_wp2_with fail
        refine HF.out.mono ?_
        rintro e w1 ⟨rfl, hb1⟩
        have HB1 := Lib.hid hb1
        clear hb1
        go_wp2_with fail
        refine (HRA.out w1 (HR.out.below HB1.out)).mono ?_
        rintro e w2 ⟨A1, c1, rfl, hrd1, hb2⟩
        have HB2 := Lib.hid (HB1.out.trans (hb2.mono HB1.out.size))
        have HP := Lib.hid hrd1
        clear hb2 hrd1 HB1
        have HBW := Lib.hid (HB2.out.alloc HB2.out.size (.cells #[.int .i64 0, .int .i64 0] 46))
        have HKW := Lib.hid (Blk.new w2 46 #[.int .i64 0, .int .i64 0])
        have HPW := Lib.hid (HP.out.below ((Below.refl _ _).alloc (Nat.le_refl _) (.cells #[.int .i64 0, .int .i64 0] 46)))
        go_wp2_with fail
        refine (HFD.out _ (HR.out.below HBW.out)).mono ?_
        rintro e w5 ⟨rfl, hb5⟩
        have HB5 := Lib.hid ((HBW.out.trans (hb5.mono HBW.out.size)).alloc (Nat.le_trans HBW.out.size hb5.size) (.cells #[.int .i64 0, .int .i64 0] 46))
        have HK5 := Lib.hid ((HKW.out.kept hb5).alloc (.cells #[.int .i64 0, .int .i64 0] 46))
        have HN5 := Lib.hid (Blk.new w5 46 #[.int .i64 0, .int .i64 0])
        have HP5 := Lib.hid ((HPW.out.below hb5).below ((Below.refl _ _).alloc (Nat.le_refl _) (.cells #[.int .i64 0, .int .i64 0] 46)))
        clear hb5
        dsimp only
        go_wp2_with fail
        refine (HS.out 1 _ (HG.out.below HB5.out)).mono ?_
        rintro e w6 ⟨r6, rfl, hr6, hb6⟩
        obtain rfl : r6 = true := hr6.2 rfl
        have HB6 := Lib.hid (HB5.out.trans (hb6.mono HB5.out.size))
        have HK6 := Lib.hid (HK5.out.kept hb6)
        have HN6 := Lib.hid (HN5.out.kept hb6)
        have HP6 := Lib.hid (HP5.out.below hb6)
        clear hb6 hr6
        go_wp2_with fail
        refine (HAD.out _ (HR.out.below HB6.out)).mono ?_
        rintro e w7 ⟨A7, c7, rfl, hrd7, hb7⟩
        have HB7 := Lib.hid (HB6.out.trans (hb7.mono HB6.out.size))
        have HK7 := Lib.hid (HK6.out.kept hb7)
        have HN7 := Lib.hid (HN6.out.kept hb7)
        have HP7 := Lib.hid (HP6.out.below hb7)
        have HQ7 := Lib.hid hrd7
        clear hb7 hrd7
        dsimp only at HQ7 ⊢
        go_wp2_with fail
        refine (HS.out 0 _ (HG.out.below HB7.out)).mono ?_
        rintro e w8 ⟨r8, rfl, hr8, hb8⟩
        obtain rfl : r8 = true := hr8.2 rfl
        have HB8 := Lib.hid (HB7.out.trans (hb8.mono HB7.out.size))
        have HK8 := Lib.hid (HK7.out.kept hb8)
        have HN8 := Lib.hid (HN7.out.kept hb8)
        have HP8 := Lib.hid (HP7.out.below hb8)
        have HQ8 := Lib.hid (HQ7.out.below hb8)
        clear hb8 hr8
        go_wp2_with fail
        refine (Spans_any _ _ _ _ _ HQ8.out HP8.out).mono ?_
        rintro e w9 ⟨r9, rfl, hr9, hb9⟩
        obtain rfl : r9 = true := hr9.2 rfl
        have HB9 := Lib.hid (HB8.out.trans (hb9.mono HB8.out.size))
        have hk9 := HK8.out.kept hb9
        have hn9 := HN8.out.kept hb9
        have q0 : w9.cell? ⟨w2.heap.size, 0, none⟩ = some (.int .i64 0) := hk9.cell 0
        have q1 : w9.cell? ⟨w2.heap.size, 1, none⟩ = some (.int .i64 0) := hk9.cell 1
        have p0 : w9.cell? ⟨w5.heap.size, 0, none⟩ = some (.int .i64 0) := hn9.cell 0
        have p1 : w9.cell? ⟨w5.heap.size, 1, none⟩ = some (.int .i64 0) := hn9.cell 1
        have hsp : sp2 0 0 0 0 = true := sp2_self _ _
        clear hb9 hr9 hk9 hn9
        go_wp2_with fail
        go_ret
        exact ⟨rfl, HB9.out⟩
      · have d2 : decide (f < 0) = false := by simp; omega
        have d3 : decide ((s.size : Int) < f) = true := by simpa using h
        clear h
        go_enter Tryd.func5, Tryd.ntmps5
        go_wp2_with fail
        refine HF.out.mono ?_
        rintro e w1 ⟨rfl, hb1⟩
        have HB1 := Lib.hid hb1
        clear hb1
        go_wp2_with fail
        refine (HRA.out w1 (HR.out.below HB1.out)).mono ?_
        rintro e w2 ⟨A1, c1, rfl, hrd1, hb2⟩
        have HB2 := Lib.hid (HB1.out.trans (hb2.mono HB1.out.size))
        have HP := Lib.hid hrd1
        clear hb2 hrd1 HB1
        have HBW := Lib.hid (HB2.out.alloc HB2.out.size (.cells #[.int .i64 0, .int .i64 0] 46))
        have HKW := Lib.hid (Blk.new w2 46 #[.int .i64 0, .int .i64 0])
        have HPW := Lib.hid (HP.out.below ((Below.refl _ _).alloc (Nat.le_refl _) (.cells #[.int .i64 0, .int .i64 0] 46)))
        go_wp2_with fail
        refine (HFD.out _ (HR.out.below HBW.out)).mono ?_
        rintro e w5 ⟨rfl, hb5⟩
        have HB5 := Lib.hid ((HBW.out.trans (hb5.mono HBW.out.size)).alloc (Nat.le_trans HBW.out.size hb5.size) (.cells #[.int .i64 0, .int .i64 0] 46))
        have HK5 := Lib.hid ((HKW.out.kept hb5).alloc (.cells #[.int .i64 0, .int .i64 0] 46))
        have HN5 := Lib.hid (Blk.new w5 46 #[.int .i64 0, .int .i64 0])
        have HP5 := Lib.hid ((HPW.out.below hb5).below ((Below.refl _ _).alloc (Nat.le_refl _) (.cells #[.int .i64 0, .int .i64 0] 46)))
        clear hb5
        dsimp only
        go_wp2_with fail
        refine (HS.out 1 _ (HG.out.below HB5.out)).mono ?_
        rintro e w6 ⟨r6, rfl, hr6, hb6⟩
        obtain rfl : r6 = true := hr6.2 rfl
        have HB6 := Lib.hid (HB5.out.trans (hb6.mono HB5.out.size))
        have HK6 := Lib.hid (HK5.out.kept hb6)
        have HN6 := Lib.hid (HN5.out.kept hb6)
        have HP6 := Lib.hid (HP5.out.below hb6)
        clear hb6 hr6
        go_wp2_with fail
        refine (HAD.out _ (HR.out.below HB6.out)).mono ?_
        rintro e w7 ⟨A7, c7, rfl, hrd7, hb7⟩
        have HB7 := Lib.hid (HB6.out.trans (hb7.mono HB6.out.size))
        have HK7 := Lib.hid (HK6.out.kept hb7)
        have HN7 := Lib.hid (HN6.out.kept hb7)
        have HP7 := Lib.hid (HP6.out.below hb7)
        have HQ7 := Lib.hid hrd7
        clear hb7 hrd7
        dsimp only at HQ7 ⊢
        go_wp2_with fail
        refine (HS.out 0 _ (HG.out.below HB7.out)).mono ?_
        rintro e w8 ⟨r8, rfl, hr8, hb8⟩
        obtain rfl : r8 = true := hr8.2 rfl
        have HB8 := Lib.hid (HB7.out.trans (hb8.mono HB7.out.size))
        have HK8 := Lib.hid (HK7.out.kept hb8)
        have HN8 := Lib.hid (HN7.out.kept hb8)
        have HP8 := Lib.hid (HP7.out.below hb8)
        have HQ8 := Lib.hid (HQ7.out.below hb8)
        clear hb8 hr8
        go_wp2_with fail
        refine (Spans_any _ _ _ _ _ HQ8.out HP8.out).mono ?_
        rintro e w9 ⟨r9, rfl, hr9, hb9⟩
        obtain rfl : r9 = true := hr9.2 rfl
        have HB9 := Lib.hid (HB8.out.trans (hb9.mono HB8.out.size))
        have hk9 := HK8.out.kept hb9
        have hn9 := HN8.out.kept hb9
        have q0 : w9.cell? ⟨w2.heap.size, 0, none⟩ = some (.int .i64 0) := hk9.cell 0
        have q1 : w9.cell? ⟨w2.heap.size, 1, none⟩ = some (.int .i64 0) := hk9.cell 1
        have p0 : w9.cell? ⟨w5.heap.size, 0, none⟩ = some (.int .i64 0) := hn9.cell 0
        have p1 : w9.cell? ⟨w5.heap.size, 1, none⟩ = some (.int .i64 0) := hn9.cell 1
        have hsp : sp2 0 0 0 0 = true := sp2_self _ _
        clear hb9 hr9 hk9 hn9
        go_wp2_with fail
        go_ret
        exact ⟨rfl, HB9.out⟩
  · have har : allR l t s = (chkF l s.size, []) := by unfold allR; rw [if_pos hcf]
    have hcd : chkFd l s.size f = chkF l s.size := by unfold chkFd; rw [if_pos hcf]
    have hfr : findR l t s f = (chkF l s.size, 0, 0) := by unfold findR; rw [hcd, if_pos hcf]
    rw [hfr] at HFD
    rw [har] at HAD
    by_cases hc : chk l = 0
    · have hbig : 400 < s.size := by
        unfold chkF at hcf
        rw [if_neg (by simp [hc])] at hcf
        split at hcf
        · assumption
        · exact absurd rfl hcf
      have h3 : chkF l s.size = 3 := by unfold chkF; rw [if_neg (by simp [hc]), if_pos hbig]
      rw [h3] at HFD HAD
      rw [hc] at HF
      have d1 : decide ((400 : Int) < (s.size : Int)) = true := by simp; omega
      clear hr hg hok hokc ht hmem hcf hc har hfr hcd h3 hbig
      go_enter Tryd.func5, Tryd.ntmps5
      go_wp2_with fail
      refine HF.out.mono ?_
      rintro e w2 ⟨rfl, hb1⟩
      have HB2 := Lib.hid hb1
      have HP : Hid (Rd w2 2 (.slice none 0 0) (spanVals [])) := Lib.hid (Rd.nil _ _)
      obtain ⟨A1, c1, hA1⟩ : ∃ (A1 : Option Addr) (c1 : Nat), A1 = none ∧ c1 = 0 := ⟨none, 0, rfl, rfl⟩
      clear hb1 hA1
      have HBW := Lib.hid (HB2.out.alloc HB2.out.size (.cells #[.int .i64 0, .int .i64 0] 46))
      have HKW := Lib.hid (Blk.new w2 46 #[.int .i64 0, .int .i64 0])
      have HPW := Lib.hid (HP.out.below ((Below.refl _ _).alloc (Nat.le_refl _) (.cells #[.int .i64 0, .int .i64 0] 46)))
      go_wp2_with fail
      refine (HFD.out _ (HR.out.below HBW.out)).mono ?_
      rintro e w5 ⟨rfl, hb5⟩
      have HB5 := Lib.hid ((HBW.out.trans (hb5.mono HBW.out.size)).alloc (Nat.le_trans HBW.out.size hb5.size) (.cells #[.int .i64 0, .int .i64 0] 46))
      have HK5 := Lib.hid ((HKW.out.kept hb5).alloc (.cells #[.int .i64 0, .int .i64 0] 46))
      have HN5 := Lib.hid (Blk.new w5 46 #[.int .i64 0, .int .i64 0])
      have HP5 := Lib.hid ((HPW.out.below hb5).below ((Below.refl _ _).alloc (Nat.le_refl _) (.cells #[.int .i64 0, .int .i64 0] 46)))
      clear hb5
      dsimp only
      go_wp2_with fail
      refine (HS.out 3 _ (HG.out.below HB5.out)).mono ?_
      rintro e w6 ⟨r6, rfl, hr6, hb6⟩
      obtain rfl : r6 = true := hr6.2 rfl
      have HB6 := Lib.hid (HB5.out.trans (hb6.mono HB5.out.size))
      have HK6 := Lib.hid (HK5.out.kept hb6)
      have HN6 := Lib.hid (HN5.out.kept hb6)
      have HP6 := Lib.hid (HP5.out.below hb6)
      clear hb6 hr6
      go_wp2_with fail
      refine (HAD.out _ (HR.out.below HB6.out)).mono ?_
      rintro e w7 ⟨A7, c7, rfl, hrd7, hb7⟩
      have HB7 := Lib.hid (HB6.out.trans (hb7.mono HB6.out.size))
      have HK7 := Lib.hid (HK6.out.kept hb7)
      have HN7 := Lib.hid (HN6.out.kept hb7)
      have HP7 := Lib.hid (HP6.out.below hb7)
      have HQ7 := Lib.hid hrd7
      clear hb7 hrd7
      dsimp only at HQ7 ⊢
      go_wp2_with fail
      refine (HS.out 3 _ (HG.out.below HB7.out)).mono ?_
      rintro e w8 ⟨r8, rfl, hr8, hb8⟩
      obtain rfl : r8 = true := hr8.2 rfl
      have HB8 := Lib.hid (HB7.out.trans (hb8.mono HB7.out.size))
      have HK8 := Lib.hid (HK7.out.kept hb8)
      have HN8 := Lib.hid (HN7.out.kept hb8)
      have HP8 := Lib.hid (HP7.out.below hb8)
      have HQ8 := Lib.hid (HQ7.out.below hb8)
      clear hb8 hr8
      go_wp2_with fail
      refine (Spans_any _ _ _ _ _ HQ8.out HP8.out).mono ?_
      rintro e w9 ⟨r9, rfl, hr9, hb9⟩
      obtain rfl : r9 = true := hr9.2 rfl
      have HB9 := Lib.hid (HB8.out.trans (hb9.mono HB8.out.size))
      have hk9 := HK8.out.kept hb9
      have hn9 := HN8.out.kept hb9
      have q0 : w9.cell? ⟨w2.heap.size, 0, none⟩ = some (.int .i64 0) := hk9.cell 0
      have q1 : w9.cell? ⟨w2.heap.size, 1, none⟩ = some (.int .i64 0) := hk9.cell 1
      have p0 : w9.cell? ⟨w5.heap.size, 0, none⟩ = some (.int .i64 0) := hn9.cell 0
      have p1 : w9.cell? ⟨w5.heap.size, 1, none⟩ = some (.int .i64 0) := hn9.cell 1
      have hsp : sp2 0 0 0 0 = true := sp2_self _ _
      clear hb9 hr9 hk9 hn9
      go_wp2_with fail
      go_ret
      exact ⟨rfl, HB9.out⟩
    · have h3 : chkF l s.size = chk l := by unfold chkF; rw [if_pos hc]
      rw [h3] at HFD HAD
      generalize chk l = n at *
      have hb0 : (n == 0) = false := by simpa using hc
      clear hr hg hok hokc ht hmem hcf hc har hfr hcd h3
      go_enter Tryd.func5, Tryd.ntmps5
      go_wp2_with fail
      refine HF.out.mono ?_
      rintro e w2 ⟨rfl, hb1⟩
      have HB2 := Lib.hid hb1
      have HP : Hid (Rd w2 2 (.slice none 0 0) (spanVals [])) := Lib.hid (Rd.nil _ _)
      clear hb1
      have HBW := Lib.hid (HB2.out.alloc HB2.out.size (.cells #[.int .i64 0, .int .i64 0] 46))
      have HKW := Lib.hid (Blk.new w2 46 #[.int .i64 0, .int .i64 0])
      have HPW := Lib.hid (HP.out.below ((Below.refl _ _).alloc (Nat.le_refl _) (.cells #[.int .i64 0, .int .i64 0] 46)))
      go_wp2_with fail
      refine (HFD.out _ (HR.out.below HBW.out)).mono ?_
      rintro e w5 ⟨rfl, hb5⟩
      have HB5 := Lib.hid ((HBW.out.trans (hb5.mono HBW.out.size)).alloc (Nat.le_trans HBW.out.size hb5.size) (.cells #[.int .i64 0, .int .i64 0] 46))
      have HK5 := Lib.hid ((HKW.out.kept hb5).alloc (.cells #[.int .i64 0, .int .i64 0] 46))
      have HN5 := Lib.hid (Blk.new w5 46 #[.int .i64 0, .int .i64 0])
      have HP5 := Lib.hid ((HPW.out.below hb5).below ((Below.refl _ _).alloc (Nat.le_refl _) (.cells #[.int .i64 0, .int .i64 0] 46)))
      clear hb5
      dsimp only
      go_wp2_with fail
      refine (HS.out n _ (HG.out.below HB5.out)).mono ?_
      rintro e w6 ⟨r6, rfl, hr6, hb6⟩
      obtain rfl : r6 = true := hr6.2 rfl
      have HB6 := Lib.hid (HB5.out.trans (hb6.mono HB5.out.size))
      have HK6 := Lib.hid (HK5.out.kept hb6)
      have HN6 := Lib.hid (HN5.out.kept hb6)
      have HP6 := Lib.hid (HP5.out.below hb6)
      clear hb6 hr6
      go_wp2_with fail
      refine (HAD.out _ (HR.out.below HB6.out)).mono ?_
      rintro e w7 ⟨A7, c7, rfl, hrd7, hb7⟩
      have HB7 := Lib.hid (HB6.out.trans (hb7.mono HB6.out.size))
      have HK7 := Lib.hid (HK6.out.kept hb7)
      have HN7 := Lib.hid (HN6.out.kept hb7)
      have HP7 := Lib.hid (HP6.out.below hb7)
      have HQ7 := Lib.hid hrd7
      clear hb7 hrd7
      dsimp only at HQ7 ⊢
      go_wp2_with fail
      refine (HS.out n _ (HG.out.below HB7.out)).mono ?_
      rintro e w8 ⟨r8, rfl, hr8, hb8⟩
      obtain rfl : r8 = true := hr8.2 rfl
      have HB8 := Lib.hid (HB7.out.trans (hb8.mono HB7.out.size))
      have HK8 := Lib.hid (HK7.out.kept hb8)
      have HN8 := Lib.hid (HN7.out.kept hb8)
      have HP8 := Lib.hid (HP7.out.below hb8)
      have HQ8 := Lib.hid (HQ7.out.below hb8)
      clear hb8 hr8
      go_wp2_with fail
      refine (Spans_any _ _ _ _ _ HQ8.out HP8.out).mono ?_
      rintro e w9 ⟨r9, rfl, hr9, hb9⟩
      obtain rfl : r9 = true := hr9.2 rfl
      have HB9 := Lib.hid (HB8.out.trans (hb9.mono HB8.out.size))
      have hk9 := HK8.out.kept hb9
      have hn9 := HN8.out.kept hb9
      have q0 : w9.cell? ⟨w2.heap.size, 0, none⟩ = some (.int .i64 0) := hk9.cell 0
      have q1 : w9.cell? ⟨w2.heap.size, 1, none⟩ = some (.int .i64 0) := hk9.cell 1
      have p0 : w9.cell? ⟨w5.heap.size, 0, none⟩ = some (.int .i64 0) := hn9.cell 0
      have p1 : w9.cell? ⟨w5.heap.size, 1, none⟩ = some (.int .i64 0) := hn9.cell 1
      have hsp : sp2 0 0 0 0 = true := sp2_self _ _
      clear hb9 hr9 hk9 hn9
      go_wp2_with fail
      go_ret
      exact ⟨rfl, HB9.out⟩


/-! ### THE ROW's STEP -/
set_option maxRecDepth 100000 in
theorem lifted (os : Os) (started : os.Started) (H : Type) (enc : TypeId × Value → H) :
    ReturnsInHanded {} Tryd.checked os 5 .any (fun w args => (Rows.findIsSpec.pre enc Tryd.prog Tryd.f5 [] false w args ∧ laidMetH Tryd.prog laidL w) ∧ sizedMet enc Tryd.prog Tryd.f5 (OpenSpec.ofChange Rows.findIsSpec) false w args)
      (Rows.findIsSpec.post enc Tryd.prog Tryd.f5 false true false false) := by
  refine returnsInHanded_of_change_and (C := Tryd.checked) (X := fun w _ => laidMetH Tryd.prog laidL w) (fun _ _ _ hh h => h.of_heap hh) own started (by kernel_rfl) Tryd.func5
    (ChangeSpec.witness_at (enc := enc) (C := Tryd.checked) (os := os) (X := fun w _ => laidMetH Tryd.prog laidL w) false (laidWorld os) #[.slice none 0 0, .string ByteArray.empty, .int .i64 0] 8 rfl (by kernel_rfl) (by kernel_rfl) (by kernel_rfl) (by kernel_rfl) (by kernel_rfl) (laidWorld_met os _)) ?_
  intro W base args ds gs before hval0 hW hcnd _ hL _
  have hval : ∀ (j : Nat) t v, Tryd.f5.params[j]? = some t → args[j]? = some v → Value.okWide Tryd.prog W .any base t v := hval0
  have hW' := hW
  obtain ⟨p, q, hA0, hV, rfl, hfz, hnd⟩ := hW
  have hA : DataW.TrodAll enc Tryd.prog W 0 (fun _ => true) true Tryd.f5.params.toList args.toList ds p := hA0
  rw [Tryd.params5] at hA hval
  obtain ⟨v0, vs0, d0, ds0, p0, q0, hargs, rfl, rfl, h0, r0⟩ := trodAll_cons hA
  obtain ⟨v1, vs1, d1, ds1, p1, q1, rfl, rfl, rfl, h1, r1⟩ := trodAll_cons r0
  obtain ⟨v2, vs2, d2, ds2, p2, q2, rfl, rfl, rfl, h2, r2⟩ := trodAll_cons r1
  obtain ⟨rfl, rfl, rfl⟩ := trodAll_nil r2
  obtain rfl : args = #[v0, v1, v2] := by cases args; simp_all
  obtain ⟨rfl, rfl⟩ := trodVars_none hV
  have hg := handle_of_laid hL
  obtain ⟨a0, len0, cap0, rfl⟩ := okWide_slice Tryd.underlying44 (hval 0 44 v0 rfl rfl)
  have k0 := h0
  have lt0 : ∀ x ∈ p0, x.block < W.heap.size := by obtain ⟨m, hm⟩ := k0; exact DataW.trod_lt m _ _ _ hm
  obtain ⟨z0, w0, ok0⟩ : ∃ l, RdN W (.slice a0 len0 cap0) l ∧ ∀ nd ∈ l, okNd nd := by obtain ⟨fuel, hf⟩ := h0; exact open_nodes (by simpa [Value.cells] using hf)
  have k1 := h1
  have lt1 : ∀ x ∈ p1, x.block < W.heap.size := by obtain ⟨m, hm⟩ := k1; exact DataW.trod_lt m _ _ _ hm
  obtain ⟨s1, rfl, rfl, rfl, ws1⟩ := open_string Tryd.underlying9 (hval 1 9 v1 rfl rfl) h1
  have k2 := h2
  have lt2 : ∀ x ∈ p2, x.block < W.heap.size := by obtain ⟨m, hm⟩ := k2; exact DataW.trod_lt m _ _ _ hm
  obtain ⟨x2, rfl, rfl, rfl, wx2⟩ := open_int Tryd.underlying3 (hval 2 3 v2 rfl rfl) h2
  clear hA0 hval0
  refine (walk z0 _ s1 x2 W w0 ok0 (by simpa using ws1) hg).mono fun e W' ⟨he, bel⟩ => ?_
  subst he
  exact ⟨_, rfl, _, _, _, [], _, [], hW', trodAll_mk1 (shut_bool Tryd.underlying4 _), (trodAll_cons_mk (Below.trod laidOut (by kernel_rfl) (of_decide_eq_true (by kernel_rfl)) k0 bel lt0) (trodAll_cons_mk (shut_string Tryd.underlying9 ws1) (trodAll_cons_mk (shut_int Tryd.underlying3 wx2) trodAll_mk0))), rfl, bel.frame _, fun h => by cases h⟩

theorem over : Rows.findIsRow.holds Tryd.pinned (OpenSpec.ofChange Rows.findIsSpec) :=
  OpenClaim.holds_of_wide 5 Tryd.f5 rfl rfl rfl rfl rfl rfl rfl ⟨rfl, rfl, rfl, rfl, rfl⟩ rfl rfl rfl rfl rfl (by kernel_rfl) Tryd.func5 (by kernel_rfl)
    (of_decide_eq_true (by kernel_rfl)) (by unfold Func.isWrapper; first | (rw [if_pos (by decide +kernel)]; kernel_rfl) | (rw [if_neg (by decide +kernel)]; exact ⟨rfl, rfl⟩))
    (fun os started H enc _ => lifted os started H enc)

/-- THE STATEMENT: the tied card. -/
theorem proved : Rows.FindIsCardSaid :=
  Claim7.holds_tied_plain_at .later [] [.handle] true (true, "b22f7a0eec186ffb4fb754ff472bcf2adfba2dcccb0cc862029e99de2a9820c8") true
    over (fun _ h => by cases h) (by kernel_rfl) (fun _ h => by cases h) findIs_row_tie rfl ⟨rfl, rfl⟩ (by kernel_rfl) rfl
    (fun f fn hf hfn => by
      obtain rfl : f = 5 := Option.some.inj ((show Tryd.prog.funcNamed "winnowfan/winnowfanlaw2.FindIs" = some 5 by kernel_rfl).symm.trans hf) |>.symm
      obtain rfl : fn = Tryd.f5 := (Option.some.inj (Tryd.func5.symm.trans hfn)).symm
      exact ⟨by kernel_rfl, fun j t ht => by
        rw [Tryd.params5] at ht
        match j, ht with
        | 0, ht =>
          have e : t = 44 := by simpa using ht.symm
          subst e
          exact (show Tryd.prog.wantsStandIn 44 = false by kernel_rfl)
        | 1, ht =>
          have e : t = 9 := by simpa using ht.symm
          subst e
          exact (show Tryd.prog.wantsStandIn 9 = false by kernel_rfl)
        | 2, ht =>
          have e : t = 3 := by simpa using ht.symm
          subst e
          exact (show Tryd.prog.wantsStandIn 3 = false by kernel_rfl)
        | j + 3, ht => simp at ht⟩)
    (by kernel_rfl)


end Go.Proofs.YthcahjnniendnacDoor.findIs
