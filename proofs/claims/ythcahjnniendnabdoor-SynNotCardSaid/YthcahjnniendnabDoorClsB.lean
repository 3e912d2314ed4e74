/-
  Walks of package class: each, Not, Both, Either.
-/
import Derived.Test.YthcahjnniendnabDoorClsA
namespace Go.Proofs.YthcahjnniendnabDoor
open Go.RowKit Wf

def U2Is (n : Nat) (w : World) (e : Ending) (w' : World) : Prop := e = .returned (.int .u64 (n : Int)) ∧ w = w'

theorem not_nat (x : Nat) (hx : x < 18446744073709551616) : 18446744073709551615 ^^^ x = 18446744073709551615 - x := by
  have h := BitVec.toNat_not (x := BitVec.ofNat 64 x)
  rw [BitVec.not_def, BitVec.toNat_xor] at h
  simp at h
  rw [Nat.mod_eq_of_lt (by omega)] at h
  exact h

theorem both1 (x y : Nat) (w : World) (hx : x < 18446744073709551616) (hy : y < 18446744073709551616) : Calls Tryd.prog 72 #[.int .u64 (x : Int), .int .u64 (y : Int)] w (U2Is (x &&& y) w) := by
  go_enter Tryd.func72, Tryd.ntmps72
  go_wp2
  go_ret
  refine ⟨?_, rfl⟩
  rw [← u64_and_nat x y hx hy]
  rfl

theorem either1 (x y : Nat) (w : World) (hx : x < 18446744073709551616) (hy : y < 18446744073709551616) : Calls Tryd.prog 73 #[.int .u64 (x : Int), .int .u64 (y : Int)] w (U2Is (x ||| y) w) := by
  go_enter Tryd.func73, Tryd.ntmps73
  go_wp2
  go_ret
  refine ⟨?_, rfl⟩
  rw [← u64_or_nat x y hx hy]
  rfl

theorem not1 (x y : Nat) (w : World) (hx : x < 18446744073709551616) (hy : y < 18446744073709551616) : Calls Tryd.prog 62 #[.int .u64 (x : Int), .int .u64 (y : Int)] w (U2Is (18446744073709551615 - x) w) := by
  go_enter Tryd.func62, Tryd.ntmps62
  go_wp2
  go_ret
  refine ⟨?_, rfl⟩
  have e : bits .xor .u64 IntKind.u64.max (x : Int) = ((18446744073709551615 - x : Nat) : Int) := by
    rw [show IntKind.u64.max = ((18446744073709551615 : Nat) : Int) from rfl, u64_xor_nat _ _ (by decide) hx, not_nat x hx]
  rw [← e]
  rfl

theorem Blk4u {w : World} {g : Nat} {t : TypeId} {c0 c1 c2 c3 : Nat} (h : Blk w g t #[.int .u64 (c0 : Int), .int .u64 (c1 : Int), .int .u64 (c2 : Int), .int .u64 (c3 : Int)]) : True := trivial

set_option maxRecDepth 100000 in
set_option maxHeartbeats 8000000 in
theorem each_both (a0 a1 a2 a3 b0 b1 b2 b3 : Nat) (w : World) (ha : okC (a0, a1, a2, a3)) (hb : okC (b0, b1, b2, b3)) :
    Calls Tryd.prog 61 #[.agg #[.int .u64 (a0 : Int), .int .u64 (a1 : Int), .int .u64 (a2 : Int), .int .u64 (a3 : Int)], .agg #[.int .u64 (b0 : Int), .int .u64 (b1 : Int), .int .u64 (b2 : Int), .int .u64 (b3 : Int)], .func (.func 72) #[] #[]] w
      (ClsIs ((a0 &&& b0), (a1 &&& b1), (a2 &&& b2), (a3 &&& b3)) w) := by
  obtain ⟨ha0, ha1, ha2, ha3⟩ := ha
  obtain ⟨hb0, hb1, hb2, hb3⟩ := hb
  obtain ⟨r0, hr0⟩ : ∃ r, r = (a0 &&& b0) := ⟨_, rfl⟩
  have hc0 := fun W => both1 a0 b0 W ha0 hb0
  rw [← hr0] at hc0 ⊢
  have HC0 := Lib.hid hc0
  clear hc0 hr0
  obtain ⟨r1, hr1⟩ : ∃ r, r = (a1 &&& b1) := ⟨_, rfl⟩
  have hc1 := fun W => both1 a1 b1 W ha1 hb1
  rw [← hr1] at hc1 ⊢
  have HC1 := Lib.hid hc1
  clear hc1 hr1
  obtain ⟨r2, hr2⟩ : ∃ r, r = (a2 &&& b2) := ⟨_, rfl⟩
  have hc2 := fun W => both1 a2 b2 W ha2 hb2
  rw [← hr2] at hc2 ⊢
  have HC2 := Lib.hid hc2
  clear hc2 hr2
  obtain ⟨r3, hr3⟩ : ∃ r, r = (a3 &&& b3) := ⟨_, rfl⟩
  have hc3 := fun W => both1 a3 b3 W ha3 hb3
  rw [← hr3] at hc3 ⊢
  have HC3 := Lib.hid hc3
  clear hc3 hr3
  have hA := ((Blk.new w 54 #[.int .u64 (a0 : Int), .int .u64 (a1 : Int), .int .u64 (a2 : Int), .int .u64 (a3 : Int)]).kept ((Below.refl _ _).alloc (Nat.le_refl _) (.cells #[.int .u64 (b0 : Int), .int .u64 (b1 : Int), .int .u64 (b2 : Int), .int .u64 (b3 : Int)] 54))).kept ((Below.refl _ _).alloc (Nat.le_refl _) (.cells #[.int .u64 0, .int .u64 0, .int .u64 0, .int .u64 0] 54))
  have hB := (Blk.new (w.alloc (.cells #[.int .u64 (a0 : Int), .int .u64 (a1 : Int), .int .u64 (a2 : Int), .int .u64 (a3 : Int)] 54)) 54 #[.int .u64 (b0 : Int), .int .u64 (b1 : Int), .int .u64 (b2 : Int), .int .u64 (b3 : Int)]).kept ((Below.refl _ _).alloc (Nat.le_refl _) (.cells #[.int .u64 0, .int .u64 0, .int .u64 0, .int .u64 0] 54))
  have hZ := Blk.new ((w.alloc (.cells #[.int .u64 (a0 : Int), .int .u64 (a1 : Int), .int .u64 (a2 : Int), .int .u64 (a3 : Int)] 54)).alloc (.cells #[.int .u64 (b0 : Int), .int .u64 (b1 : Int), .int .u64 (b2 : Int), .int .u64 (b3 : Int)] 54)) 54 #[.int .u64 0, .int .u64 0, .int .u64 0, .int .u64 0]
  have hsz1 : (w.alloc (.cells #[.int .u64 (a0 : Int), .int .u64 (a1 : Int), .int .u64 (a2 : Int), .int .u64 (a3 : Int)] 54)).heap.size = w.heap.size + 1 := by simp
  have hsz2 : ((w.alloc (.cells #[.int .u64 (a0 : Int), .int .u64 (a1 : Int), .int .u64 (a2 : Int), .int .u64 (a3 : Int)] 54)).alloc (.cells #[.int .u64 (b0 : Int), .int .u64 (b1 : Int), .int .u64 (b2 : Int), .int .u64 (b3 : Int)] 54)).heap.size = w.heap.size + 1 + 1 := by simp
  rw [hsz1] at hB
  rw [hsz2] at hZ
  have HA := Lib.hid hA
  have HB := Lib.hid hB
  have HZ := Lib.hid hZ
  have HBL : Hid (∀ o o' o'' : Obj, Below w.heap.size w (((w.alloc o).alloc o').alloc o'')) := Lib.hid fun o o' o'' => (((Below.refl _ _).alloc (Nat.le_refl _) _).alloc (by simp) _).alloc (by simp; omega) _
  clear hA hB hZ hsz1 hsz2
  go_enter Tryd.func61, Tryd.ntmps61
  go_wp2
  go_loopw [8] (fun v8 wr => ∃ (k c0 c1 c2 c3 : Nat), k ≤ 4 ∧ v8 = .int .i64 (k : Int) ∧ Hid (c0 = (if 0 < k then r0 else a0) ∧ c1 = (if 1 < k then r1 else a1) ∧ c2 = (if 2 < k then r2 else a2) ∧ c3 = (if 3 < k then r3 else a3)) ∧
      Hid (Blk wr w.heap.size 54 #[.int .u64 (c0 : Int), .int .u64 (c1 : Int), .int .u64 (c2 : Int), .int .u64 (c3 : Int)]) ∧ Hid (Blk wr (w.heap.size + 1) 54 #[.int .u64 (b0 : Int), .int .u64 (b1 : Int), .int .u64 (b2 : Int), .int .u64 (b3 : Int)]) ∧ Hid (Blk wr (w.heap.size + 1 + 1) 54 #[.int .u64 0, .int .u64 0, .int .u64 0, .int .u64 0]) ∧ Hid (Below w.heap.size w wr)) (fun i _ => 4 - (intOf i).toNat)
  case atStart => exact ⟨0, a0, a1, a2, a3, by omega, rfl, Lib.hid ⟨rfl, rfl, rfl, rfl⟩, HA, HB, HZ, Lib.hid (HBL.out _ _ _)⟩
  case round =>
    obtain ⟨k, c0, c1, c2, c3, hk, rfl, hc, hA, hB, hZ, hbl⟩ := hrel
    have hcc := hc.out
    have h4 : k = 0 ∨ k = 1 ∨ k = 2 ∨ k = 3 ∨ k = 4 := by omega
    clear hc
    obtain ⟨⟨x0, x1, x2, x3⟩, y0, y1, y2, y3⟩ := Blk4 hA.out
    obtain ⟨⟨z0, z1, z2, z3⟩, _⟩ := Blk4 hB.out
    obtain ⟨⟨t0, t1, t2, t3⟩, u0, u1, u2, u3⟩ := Blk4 hZ.out
    rcases h4 with rfl | rfl | rfl | rfl | rfl
    · have hq : c0 = a0 ∧ c1 = a1 ∧ c2 = a2 ∧ c3 = a3 := by simpa using hcc
      obtain rfl := hq.1.symm
      obtain rfl := hq.2.1.symm
      obtain rfl := hq.2.2.1.symm
      obtain rfl := hq.2.2.2.symm
      clear hq
      clear hcc
      go_wp2_with fail
      go_region_with (first
          | (go_at_call 72; refine (HC0.out _).mono ?_; rintro e w1 ⟨rfl, rfl⟩))
      all_goals (
        go_wp2
        go_roundw
        case rel =>
          refine ⟨1, r0, a1, a2, a3, by omega, by first | rfl | go_num, Lib.hid (by simp), Lib.hid ?_, Lib.hid ?_, Lib.hid ?_, Lib.hid ?_⟩
          · exact hA.out.drew.set_ 0 _
          · exact (hB.out.drew).far (by show _ ≠ w.heap.size; omega) _
          · exact (hZ.out.drew).far (by show _ ≠ w.heap.size; omega) _
          · exact hbl.out.drew.setCell (Nat.le_refl _) _
        case measure => simp [intOf])
    · have hq : c0 = r0 ∧ c1 = a1 ∧ c2 = a2 ∧ c3 = a3 := by simpa using hcc
      obtain rfl := hq.1.symm
      obtain rfl := hq.2.1.symm
      obtain rfl := hq.2.2.1.symm
      obtain rfl := hq.2.2.2.symm
      clear hq
      clear hcc
      go_wp2_with fail
      go_region_with (first
          | (go_at_call 72; refine (HC1.out _).mono ?_; rintro e w1 ⟨rfl, rfl⟩))
      all_goals (
        go_wp2
        go_roundw
        case rel =>
          refine ⟨2, r0, r1, a2, a3, by omega, by first | rfl | go_num, Lib.hid (by simp), Lib.hid ?_, Lib.hid ?_, Lib.hid ?_, Lib.hid ?_⟩
          · exact hA.out.drew.set_ 1 _
          · exact (hB.out.drew).far (by show _ ≠ w.heap.size; omega) _
          · exact (hZ.out.drew).far (by show _ ≠ w.heap.size; omega) _
          · exact hbl.out.drew.setCell (Nat.le_refl _) _
        case measure => simp [intOf])
    · have hq : c0 = r0 ∧ c1 = r1 ∧ c2 = a2 ∧ c3 = a3 := by simpa using hcc
      obtain rfl := hq.1.symm
      obtain rfl := hq.2.1.symm
      obtain rfl := hq.2.2.1.symm
      obtain rfl := hq.2.2.2.symm
      clear hq
      clear hcc
      go_wp2_with fail
      go_region_with (first
          | (go_at_call 72; refine (HC2.out _).mono ?_; rintro e w1 ⟨rfl, rfl⟩))
      all_goals (
        go_wp2
        go_roundw
        case rel =>
          refine ⟨3, r0, r1, r2, a3, by omega, by first | rfl | go_num, Lib.hid (by simp), Lib.hid ?_, Lib.hid ?_, Lib.hid ?_, Lib.hid ?_⟩
          · exact hA.out.drew.set_ 2 _
          · exact (hB.out.drew).far (by show _ ≠ w.heap.size; omega) _
          · exact (hZ.out.drew).far (by show _ ≠ w.heap.size; omega) _
          · exact hbl.out.drew.setCell (Nat.le_refl _) _
        case measure => simp [intOf])
    · have hq : c0 = r0 ∧ c1 = r1 ∧ c2 = r2 ∧ c3 = a3 := by simpa using hcc
      obtain rfl := hq.1.symm
      obtain rfl := hq.2.1.symm
      obtain rfl := hq.2.2.1.symm
      obtain rfl := hq.2.2.2.symm
      clear hq
      clear hcc
      go_wp2_with fail
      go_region_with (first
          | (go_at_call 72; refine (HC3.out _).mono ?_; rintro e w1 ⟨rfl, rfl⟩))
      all_goals (
        go_wp2
        go_roundw
        case rel =>
          refine ⟨4, r0, r1, r2, r3, by omega, by first | rfl | go_num, Lib.hid (by simp), Lib.hid ?_, Lib.hid ?_, Lib.hid ?_, Lib.hid ?_⟩
          · exact hA.out.drew.set_ 3 _
          · exact (hB.out.drew).far (by show _ ≠ w.heap.size; omega) _
          · exact (hZ.out.drew).far (by show _ ≠ w.heap.size; omega) _
          · exact hbl.out.drew.setCell (Nat.le_refl _) _
        case measure => simp [intOf])
    · have hq : c0 = r0 ∧ c1 = r1 ∧ c2 = r2 ∧ c3 = r3 := by simpa using hcc
      obtain rfl := hq.1.symm
      obtain rfl := hq.2.1.symm
      obtain rfl := hq.2.2.1.symm
      obtain rfl := hq.2.2.2.symm
      clear hq hcc
      go_wp2
      refine bodyPost_ret (v := clsV (r0, r1, r2, r3)) ?_ rfl (ClsIs.of ?_)
      · have h4 := (Blk4 (Blk4_set hZ.out (.int .u64 r0) (.int .u64 r1) (.int .u64 r2) (.int .u64 r3))).1
        obtain ⟨h0, h1, h2, h3⟩ := h4
        simp [results, Tryd.results61, go_sem, clsV, h0, h1, h2, h3]
      · have hle : w.heap.size ≤ w.heap.size + 1 + 1 := by omega
        exact (((hbl.out.setCell hle _).setCell hle _).setCell hle _).setCell hle _

set_option maxRecDepth 100000 in
set_option maxHeartbeats 8000000 in
theorem each_either (a0 a1 a2 a3 b0 b1 b2 b3 : Nat) (w : World) (ha : okC (a0, a1, a2, a3)) (hb : okC (b0, b1, b2, b3)) :
    Calls Tryd.prog 61 #[.agg #[.int .u64 (a0 : Int), .int .u64 (a1 : Int), .int .u64 (a2 : Int), .int .u64 (a3 : Int)], .agg #[.int .u64 (b0 : Int), .int .u64 (b1 : Int), .int .u64 (b2 : Int), .int .u64 (b3 : Int)], .func (.func 73) #[] #[]] w
      (ClsIs ((a0 ||| b0), (a1 ||| b1), (a2 ||| b2), (a3 ||| b3)) w) := by
  obtain ⟨ha0, ha1, ha2, ha3⟩ := ha
  obtain ⟨hb0, hb1, hb2, hb3⟩ := hb
  obtain ⟨r0, hr0⟩ : ∃ r, r = (a0 ||| b0) := ⟨_, rfl⟩
  have hc0 := fun W => either1 a0 b0 W ha0 hb0
  rw [← hr0] at hc0 ⊢
  have HC0 := Lib.hid hc0
  clear hc0 hr0
  obtain ⟨r1, hr1⟩ : ∃ r, r = (a1 ||| b1) := ⟨_, rfl⟩
  have hc1 := fun W => either1 a1 b1 W ha1 hb1
  rw [← hr1] at hc1 ⊢
  have HC1 := Lib.hid hc1
  clear hc1 hr1
  obtain ⟨r2, hr2⟩ : ∃ r, r = (a2 ||| b2) := ⟨_, rfl⟩
  have hc2 := fun W => either1 a2 b2 W ha2 hb2
  rw [← hr2] at hc2 ⊢
  have HC2 := Lib.hid hc2
  clear hc2 hr2
  obtain ⟨r3, hr3⟩ : ∃ r, r = (a3 ||| b3) := ⟨_, rfl⟩
  have hc3 := fun W => either1 a3 b3 W ha3 hb3
  rw [← hr3] at hc3 ⊢
  have HC3 := Lib.hid hc3
  clear hc3 hr3
  have hA := ((Blk.new w 54 #[.int .u64 (a0 : Int), .int .u64 (a1 : Int), .int .u64 (a2 : Int), .int .u64 (a3 : Int)]).kept ((Below.refl _ _).alloc (Nat.le_refl _) (.cells #[.int .u64 (b0 : Int), .int .u64 (b1 : Int), .int .u64 (b2 : Int), .int .u64 (b3 : Int)] 54))).kept ((Below.refl _ _).alloc (Nat.le_refl _) (.cells #[.int .u64 0, .int .u64 0, .int .u64 0, .int .u64 0] 54))
  have hB := (Blk.new (w.alloc (.cells #[.int .u64 (a0 : Int), .int .u64 (a1 : Int), .int .u64 (a2 : Int), .int .u64 (a3 : Int)] 54)) 54 #[.int .u64 (b0 : Int), .int .u64 (b1 : Int), .int .u64 (b2 : Int), .int .u64 (b3 : Int)]).kept ((Below.refl _ _).alloc (Nat.le_refl _) (.cells #[.int .u64 0, .int .u64 0, .int .u64 0, .int .u64 0] 54))
  have hZ := Blk.new ((w.alloc (.cells #[.int .u64 (a0 : Int), .int .u64 (a1 : Int), .int .u64 (a2 : Int), .int .u64 (a3 : Int)] 54)).alloc (.cells #[.int .u64 (b0 : Int), .int .u64 (b1 : Int), .int .u64 (b2 : Int), .int .u64 (b3 : Int)] 54)) 54 #[.int .u64 0, .int .u64 0, .int .u64 0, .int .u64 0]
  have hsz1 : (w.alloc (.cells #[.int .u64 (a0 : Int), .int .u64 (a1 : Int), .int .u64 (a2 : Int), .int .u64 (a3 : Int)] 54)).heap.size = w.heap.size + 1 := by simp
  have hsz2 : ((w.alloc (.cells #[.int .u64 (a0 : Int), .int .u64 (a1 : Int), .int .u64 (a2 : Int), .int .u64 (a3 : Int)] 54)).alloc (.cells #[.int .u64 (b0 : Int), .int .u64 (b1 : Int), .int .u64 (b2 : Int), .int .u64 (b3 : Int)] 54)).heap.size = w.heap.size + 1 + 1 := by simp
  rw [hsz1] at hB
  rw [hsz2] at hZ
  have HA := Lib.hid hA
  have HB := Lib.hid hB
  have HZ := Lib.hid hZ
  have HBL : Hid (∀ o o' o'' : Obj, Below w.heap.size w (((w.alloc o).alloc o').alloc o'')) := Lib.hid fun o o' o'' => (((Below.refl _ _).alloc (Nat.le_refl _) _).alloc (by simp) _).alloc (by simp; omega) _
  clear hA hB hZ hsz1 hsz2
  go_enter Tryd.func61, Tryd.ntmps61
  go_wp2
  go_loopw [8] (fun v8 wr => ∃ (k c0 c1 c2 c3 : Nat), k ≤ 4 ∧ v8 = .int .i64 (k : Int) ∧ Hid (c0 = (if 0 < k then r0 else a0) ∧ c1 = (if 1 < k then r1 else a1) ∧ c2 = (if 2 < k then r2 else a2) ∧ c3 = (if 3 < k then r3 else a3)) ∧
      Hid (Blk wr w.heap.size 54 #[.int .u64 (c0 : Int), .int .u64 (c1 : Int), .int .u64 (c2 : Int), .int .u64 (c3 : Int)]) ∧ Hid (Blk wr (w.heap.size + 1) 54 #[.int .u64 (b0 : Int), .int .u64 (b1 : Int), .int .u64 (b2 : Int), .int .u64 (b3 : Int)]) ∧ Hid (Blk wr (w.heap.size + 1 + 1) 54 #[.int .u64 0, .int .u64 0, .int .u64 0, .int .u64 0]) ∧ Hid (Below w.heap.size w wr)) (fun i _ => 4 - (intOf i).toNat)
  case atStart => exact ⟨0, a0, a1, a2, a3, by omega, rfl, Lib.hid ⟨rfl, rfl, rfl, rfl⟩, HA, HB, HZ, Lib.hid (HBL.out _ _ _)⟩
  case round =>
    obtain ⟨k, c0, c1, c2, c3, hk, rfl, hc, hA, hB, hZ, hbl⟩ := hrel
    have hcc := hc.out
    have h4 : k = 0 ∨ k = 1 ∨ k = 2 ∨ k = 3 ∨ k = 4 := by omega
    clear hc
    obtain ⟨⟨x0, x1, x2, x3⟩, y0, y1, y2, y3⟩ := Blk4 hA.out
    obtain ⟨⟨z0, z1, z2, z3⟩, _⟩ := Blk4 hB.out
    obtain ⟨⟨t0, t1, t2, t3⟩, u0, u1, u2, u3⟩ := Blk4 hZ.out
    rcases h4 with rfl | rfl | rfl | rfl | rfl
    · have hq : c0 = a0 ∧ c1 = a1 ∧ c2 = a2 ∧ c3 = a3 := by simpa using hcc
      obtain rfl := hq.1.symm
      obtain rfl := hq.2.1.symm
      obtain rfl := hq.2.2.1.symm
      obtain rfl := hq.2.2.2.symm
      clear hq
      clear hcc
      go_wp2_with fail
      go_region_with (first
          | (go_at_call 73; refine (HC0.out _).mono ?_; rintro e w1 ⟨rfl, rfl⟩))
      all_goals (
        go_wp2
        go_roundw
        case rel =>
          refine ⟨1, r0, a1, a2, a3, by omega, by first | rfl | go_num, Lib.hid (by simp), Lib.hid ?_, Lib.hid ?_, Lib.hid ?_, Lib.hid ?_⟩
          · exact hA.out.drew.set_ 0 _
          · exact (hB.out.drew).far (by show _ ≠ w.heap.size; omega) _
          · exact (hZ.out.drew).far (by show _ ≠ w.heap.size; omega) _
          · exact hbl.out.drew.setCell (Nat.le_refl _) _
        case measure => simp [intOf])
    · have hq : c0 = r0 ∧ c1 = a1 ∧ c2 = a2 ∧ c3 = a3 := by simpa using hcc
      obtain rfl := hq.1.symm
      obtain rfl := hq.2.1.symm
      obtain rfl := hq.2.2.1.symm
      obtain rfl := hq.2.2.2.symm
      clear hq
      clear hcc
      go_wp2_with fail
      go_region_with (first
          | (go_at_call 73; refine (HC1.out _).mono ?_; rintro e w1 ⟨rfl, rfl⟩))
      all_goals (
        go_wp2
        go_roundw
        case rel =>
          refine ⟨2, r0, r1, a2, a3, by omega, by first | rfl | go_num, Lib.hid (by simp), Lib.hid ?_, Lib.hid ?_, Lib.hid ?_, Lib.hid ?_⟩
          · exact hA.out.drew.set_ 1 _
          · exact (hB.out.drew).far (by show _ ≠ w.heap.size; omega) _
          · exact (hZ.out.drew).far (by show _ ≠ w.heap.size; omega) _
          · exact hbl.out.drew.setCell (Nat.le_refl _) _
        case measure => simp [intOf])
    · have hq : c0 = r0 ∧ c1 = r1 ∧ c2 = a2 ∧ c3 = a3 := by simpa using hcc
      obtain rfl := hq.1.symm
      obtain rfl := hq.2.1.symm
      obtain rfl := hq.2.2.1.symm
      obtain rfl := hq.2.2.2.symm
      clear hq
      clear hcc
      go_wp2_with fail
      go_region_with (first
          | (go_at_call 73; refine (HC2.out _).mono ?_; rintro e w1 ⟨rfl, rfl⟩))
      all_goals (
        go_wp2
        go_roundw
        case rel =>
          refine ⟨3, r0, r1, r2, a3, by omega, by first | rfl | go_num, Lib.hid (by simp), Lib.hid ?_, Lib.hid ?_, Lib.hid ?_, Lib.hid ?_⟩
          · exact hA.out.drew.set_ 2 _
          · exact (hB.out.drew).far (by show _ ≠ w.heap.size; omega) _
          · exact (hZ.out.drew).far (by show _ ≠ w.heap.size; omega) _
          · exact hbl.out.drew.setCell (Nat.le_refl _) _
        case measure => simp [intOf])
    · have hq : c0 = r0 ∧ c1 = r1 ∧ c2 = r2 ∧ c3 = a3 := by simpa using hcc
      obtain rfl := hq.1.symm
      obtain rfl := hq.2.1.symm
      obtain rfl := hq.2.2.1.symm
      obtain rfl := hq.2.2.2.symm
      clear hq
      clear hcc
      go_wp2_with fail
      go_region_with (first
          | (go_at_call 73; refine (HC3.out _).mono ?_; rintro e w1 ⟨rfl, rfl⟩))
      all_goals (
        go_wp2
        go_roundw
        case rel =>
          refine ⟨4, r0, r1, r2, r3, by omega, by first | rfl | go_num, Lib.hid (by simp), Lib.hid ?_, Lib.hid ?_, Lib.hid ?_, Lib.hid ?_⟩
          · exact hA.out.drew.set_ 3 _
          · exact (hB.out.drew).far (by show _ ≠ w.heap.size; omega) _
          · exact (hZ.out.drew).far (by show _ ≠ w.heap.size; omega) _
          · exact hbl.out.drew.setCell (Nat.le_refl _) _
        case measure => simp [intOf])
    · have hq : c0 = r0 ∧ c1 = r1 ∧ c2 = r2 ∧ c3 = r3 := by simpa using hcc
      obtain rfl := hq.1.symm
      obtain rfl := hq.2.1.symm
      obtain rfl := hq.2.2.1.symm
      obtain rfl := hq.2.2.2.symm
      clear hq hcc
      go_wp2
      refine bodyPost_ret (v := clsV (r0, r1, r2, r3)) ?_ rfl (ClsIs.of ?_)
      · have h4 := (Blk4 (Blk4_set hZ.out (.int .u64 r0) (.int .u64 r1) (.int .u64 r2) (.int .u64 r3))).1
        obtain ⟨h0, h1, h2, h3⟩ := h4
        simp [results, Tryd.results61, go_sem, clsV, h0, h1, h2, h3]
      · have hle : w.heap.size ≤ w.heap.size + 1 + 1 := by omega
        exact (((hbl.out.setCell hle _).setCell hle _).setCell hle _).setCell hle _

set_option maxRecDepth 100000 in
set_option maxHeartbeats 8000000 in
theorem each_not (a0 a1 a2 a3 b0 b1 b2 b3 : Nat) (w : World) (ha : okC (a0, a1, a2, a3)) (hb : okC (b0, b1, b2, b3)) :
    Calls Tryd.prog 61 #[.agg #[.int .u64 (a0 : Int), .int .u64 (a1 : Int), .int .u64 (a2 : Int), .int .u64 (a3 : Int)], .agg #[.int .u64 (b0 : Int), .int .u64 (b1 : Int), .int .u64 (b2 : Int), .int .u64 (b3 : Int)], .func (.func 62) #[] #[]] w
      (ClsIs ((18446744073709551615 - a0), (18446744073709551615 - a1), (18446744073709551615 - a2), (18446744073709551615 - a3)) w) := by
  obtain ⟨ha0, ha1, ha2, ha3⟩ := ha
  obtain ⟨hb0, hb1, hb2, hb3⟩ := hb
  obtain ⟨r0, hr0⟩ : ∃ r, r = (18446744073709551615 - a0) := ⟨_, rfl⟩
  have hc0 := fun W => not1 a0 b0 W ha0 hb0
  rw [← hr0] at hc0 ⊢
  have HC0 := Lib.hid hc0
  clear hc0 hr0
  obtain ⟨r1, hr1⟩ : ∃ r, r = (18446744073709551615 - a1) := ⟨_, rfl⟩
  have hc1 := fun W => not1 a1 b1 W ha1 hb1
  rw [← hr1] at hc1 ⊢
  have HC1 := Lib.hid hc1
  clear hc1 hr1
  obtain ⟨r2, hr2⟩ : ∃ r, r = (18446744073709551615 - a2) := ⟨_, rfl⟩
  have hc2 := fun W => not1 a2 b2 W ha2 hb2
  rw [← hr2] at hc2 ⊢
  have HC2 := Lib.hid hc2
  clear hc2 hr2
  obtain ⟨r3, hr3⟩ : ∃ r, r = (18446744073709551615 - a3) := ⟨_, rfl⟩
  have hc3 := fun W => not1 a3 b3 W ha3 hb3
  rw [← hr3] at hc3 ⊢
  have HC3 := Lib.hid hc3
  clear hc3 hr3
  have hA := ((Blk.new w 54 #[.int .u64 (a0 : Int), .int .u64 (a1 : Int), .int .u64 (a2 : Int), .int .u64 (a3 : Int)]).kept ((Below.refl _ _).alloc (Nat.le_refl _) (.cells #[.int .u64 (b0 : Int), .int .u64 (b1 : Int), .int .u64 (b2 : Int), .int .u64 (b3 : Int)] 54))).kept ((Below.refl _ _).alloc (Nat.le_refl _) (.cells #[.int .u64 0, .int .u64 0, .int .u64 0, .int .u64 0] 54))
  have hB := (Blk.new (w.alloc (.cells #[.int .u64 (a0 : Int), .int .u64 (a1 : Int), .int .u64 (a2 : Int), .int .u64 (a3 : Int)] 54)) 54 #[.int .u64 (b0 : Int), .int .u64 (b1 : Int), .int .u64 (b2 : Int), .int .u64 (b3 : Int)]).kept ((Below.refl _ _).alloc (Nat.le_refl _) (.cells #[.int .u64 0, .int .u64 0, .int .u64 0, .int .u64 0] 54))
  have hZ := Blk.new ((w.alloc (.cells #[.int .u64 (a0 : Int), .int .u64 (a1 : Int), .int .u64 (a2 : Int), .int .u64 (a3 : Int)] 54)).alloc (.cells #[.int .u64 (b0 : Int), .int .u64 (b1 : Int), .int .u64 (b2 : Int), .int .u64 (b3 : Int)] 54)) 54 #[.int .u64 0, .int .u64 0, .int .u64 0, .int .u64 0]
  have hsz1 : (w.alloc (.cells #[.int .u64 (a0 : Int), .int .u64 (a1 : Int), .int .u64 (a2 : Int), .int .u64 (a3 : Int)] 54)).heap.size = w.heap.size + 1 := by simp
  have hsz2 : ((w.alloc (.cells #[.int .u64 (a0 : Int), .int .u64 (a1 : Int), .int .u64 (a2 : Int), .int .u64 (a3 : Int)] 54)).alloc (.cells #[.int .u64 (b0 : Int), .int .u64 (b1 : Int), .int .u64 (b2 : Int), .int .u64 (b3 : Int)] 54)).heap.size = w.heap.size + 1 + 1 := by simp
  rw [hsz1] at hB
  rw [hsz2] at hZ
  have HA := Lib.hid hA
  have HB := Lib.hid hB
  have HZ := Lib.hid hZ
  have HBL : Hid (∀ o o' o'' : Obj, Below w.heap.size w (((w.alloc o).alloc o').alloc o'')) := Lib.hid fun o o' o'' => (((Below.refl _ _).alloc (Nat.le_refl _) _).alloc (by simp) _).alloc (by simp; omega) _
  clear hA hB hZ hsz1 hsz2
  go_enter Tryd.func61, Tryd.ntmps61
  go_wp2
  go_loopw [8] (fun v8 wr => ∃ (k c0 c1 c2 c3 : Nat), k ≤ 4 ∧ v8 = .int .i64 (k : Int) ∧ Hid (c0 = (if 0 < k then r0 else a0) ∧ c1 = (if 1 < k then r1 else a1) ∧ c2 = (if 2 < k then r2 else a2) ∧ c3 = (if 3 < k then r3 else a3)) ∧
      Hid (Blk wr w.heap.size 54 #[.int .u64 (c0 : Int), .int .u64 (c1 : Int), .int .u64 (c2 : Int), .int .u64 (c3 : Int)]) ∧ Hid (Blk wr (w.heap.size + 1) 54 #[.int .u64 (b0 : Int), .int .u64 (b1 : Int), .int .u64 (b2 : Int), .int .u64 (b3 : Int)]) ∧ Hid (Blk wr (w.heap.size + 1 + 1) 54 #[.int .u64 0, .int .u64 0, .int .u64 0, .int .u64 0]) ∧ Hid (Below w.heap.size w wr)) (fun i _ => 4 - (intOf i).toNat)
  case atStart => exact ⟨0, a0, a1, a2, a3, by omega, rfl, Lib.hid ⟨rfl, rfl, rfl, rfl⟩, HA, HB, HZ, Lib.hid (HBL.out _ _ _)⟩
  case round =>
    obtain ⟨k, c0, c1, c2, c3, hk, rfl, hc, hA, hB, hZ, hbl⟩ := hrel
    have hcc := hc.out
    have h4 : k = 0 ∨ k = 1 ∨ k = 2 ∨ k = 3 ∨ k = 4 := by omega
    clear hc
    obtain ⟨⟨x0, x1, x2, x3⟩, y0, y1, y2, y3⟩ := Blk4 hA.out
    obtain ⟨⟨z0, z1, z2, z3⟩, _⟩ := Blk4 hB.out
    obtain ⟨⟨t0, t1, t2, t3⟩, u0, u1, u2, u3⟩ := Blk4 hZ.out
    rcases h4 with rfl | rfl | rfl | rfl | rfl
    · have hq : c0 = a0 ∧ c1 = a1 ∧ c2 = a2 ∧ c3 = a3 := by simpa using hcc
      obtain rfl := hq.1.symm
      obtain rfl := hq.2.1.symm
      obtain rfl := hq.2.2.1.symm
      obtain rfl := hq.2.2.2.symm
      clear hq
      clear hcc
      go_wp2_with fail
      go_region_with (first
          | (go_at_call 62; refine (HC0.out _).mono ?_; rintro e w1 ⟨rfl, rfl⟩))
      all_goals (
        go_wp2
        go_roundw
        case rel =>
          refine ⟨1, r0, a1, a2, a3, by omega, by first | rfl | go_num, Lib.hid (by simp), Lib.hid ?_, Lib.hid ?_, Lib.hid ?_, Lib.hid ?_⟩
          · exact hA.out.drew.set_ 0 _
          · exact (hB.out.drew).far (by show _ ≠ w.heap.size; omega) _
          · exact (hZ.out.drew).far (by show _ ≠ w.heap.size; omega) _
          · exact hbl.out.drew.setCell (Nat.le_refl _) _
        case measure => simp [intOf])
    · have hq : c0 = r0 ∧ c1 = a1 ∧ c2 = a2 ∧ c3 = a3 := by simpa using hcc
      obtain rfl := hq.1.symm
      obtain rfl := hq.2.1.symm
      obtain rfl := hq.2.2.1.symm
      obtain rfl := hq.2.2.2.symm
      clear hq
      clear hcc
      go_wp2_with fail
      go_region_with (first
          | (go_at_call 62; refine (HC1.out _).mono ?_; rintro e w1 ⟨rfl, rfl⟩))
      all_goals (
        go_wp2
        go_roundw
        case rel =>
          refine ⟨2, r0, r1, a2, a3, by omega, by first | rfl | go_num, Lib.hid (by simp), Lib.hid ?_, Lib.hid ?_, Lib.hid ?_, Lib.hid ?_⟩
          · exact hA.out.drew.set_ 1 _
          · exact (hB.out.drew).far (by show _ ≠ w.heap.size; omega) _
          · exact (hZ.out.drew).far (by show _ ≠ w.heap.size; omega) _
          · exact hbl.out.drew.setCell (Nat.le_refl _) _
        case measure => simp [intOf])
    · have hq : c0 = r0 ∧ c1 = r1 ∧ c2 = a2 ∧ c3 = a3 := by simpa using hcc
      obtain rfl := hq.1.symm
      obtain rfl := hq.2.1.symm
      obtain rfl := hq.2.2.1.symm
      obtain rfl := hq.2.2.2.symm
      clear hq
      clear hcc
      go_wp2_with fail
      go_region_with (first
          | (go_at_call 62; refine (HC2.out _).mono ?_; rintro e w1 ⟨rfl, rfl⟩))
      all_goals (
        go_wp2
        go_roundw
        case rel =>
          refine ⟨3, r0, r1, r2, a3, by omega, by first | rfl | go_num, Lib.hid (by simp), Lib.hid ?_, Lib.hid ?_, Lib.hid ?_, Lib.hid ?_⟩
          · exact hA.out.drew.set_ 2 _
          · exact (hB.out.drew).far (by show _ ≠ w.heap.size; omega) _
          · exact (hZ.out.drew).far (by show _ ≠ w.heap.size; omega) _
          · exact hbl.out.drew.setCell (Nat.le_refl _) _
        case measure => simp [intOf])
    · have hq : c0 = r0 ∧ c1 = r1 ∧ c2 = r2 ∧ c3 = a3 := by simpa using hcc
      obtain rfl := hq.1.symm
      obtain rfl := hq.2.1.symm
      obtain rfl := hq.2.2.1.symm
      obtain rfl := hq.2.2.2.symm
      clear hq
      clear hcc
      go_wp2_with fail
      go_region_with (first
          | (go_at_call 62; refine (HC3.out _).mono ?_; rintro e w1 ⟨rfl, rfl⟩))
      all_goals (
        go_wp2
        go_roundw
        case rel =>
          refine ⟨4, r0, r1, r2, r3, by omega, by first | rfl | go_num, Lib.hid (by simp), Lib.hid ?_, Lib.hid ?_, Lib.hid ?_, Lib.hid ?_⟩
          · exact hA.out.drew.set_ 3 _
          · exact (hB.out.drew).far (by show _ ≠ w.heap.size; omega) _
          · exact (hZ.out.drew).far (by show _ ≠ w.heap.size; omega) _
          · exact hbl.out.drew.setCell (Nat.le_refl _) _
        case measure => simp [intOf])
    · have hq : c0 = r0 ∧ c1 = r1 ∧ c2 = r2 ∧ c3 = r3 := by simpa using hcc
      obtain rfl := hq.1.symm
      obtain rfl := hq.2.1.symm
      obtain rfl := hq.2.2.1.symm
      obtain rfl := hq.2.2.2.symm
      clear hq hcc
      go_wp2
      refine bodyPost_ret (v := clsV (r0, r1, r2, r3)) ?_ rfl (ClsIs.of ?_)
      · have h4 := (Blk4 (Blk4_set hZ.out (.int .u64 r0) (.int .u64 r1) (.int .u64 r2) (.int .u64 r3))).1
        obtain ⟨h0, h1, h2, h3⟩ := h4
        simp [results, Tryd.results61, go_sem, clsV, h0, h1, h2, h3]
      · have hle : w.heap.size ≤ w.heap.size + 1 + 1 := by omega
        exact (((hbl.out.setCell hle _).setCell hle _).setCell hle _).setCell hle _

end Go.Proofs.YthcahjnniendnabDoor
