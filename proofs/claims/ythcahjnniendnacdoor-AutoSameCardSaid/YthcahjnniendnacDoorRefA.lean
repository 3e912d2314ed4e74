/-
  Walks of the document's answers: In, Count, Parts.
-/
import Derived.Test.YthcahjnniendnacDoorClsA
import Derived.Test.YthcahjnniendnacDoorGPl
namespace Go.Proofs.YthcahjnniendnacDoor
open Go.RowKit Wf

theorem half_bit (n i : Nat) : (n / 2 ^ i % 2 == 1) = n.testBit i := by
  rw [Nat.testBit_eq_decide_div_mod_eq]
  by_cases h : n / 2 ^ i % 2 = 1 <;> simp [h]

def RInIs (c : Cls) (b : Nat) (w : World) (e : Ending) (w' : World) : Prop := e = .returned (.bool (has c b)) ∧ Below w.heap.size w w'
set_option maxRecDepth 100000 in
set_option maxHeartbeats 2000000 in
theorem RIn_any (c0 c1 c2 c3 b : Nat) (w : World) (hok : okC (c0, c1, c2, c3)) (hb : b < 256) :
    Calls Tryd.prog 53 #[.agg #[.int .u64 (c0 : Int), .int .u64 (c1 : Int), .int .u64 (c2 : Int), .int .u64 (c3 : Int)], .int .i64 (b : Int)] w (RInIs (c0, c1, c2, c3) b w) := by
  have hw := word_lt hok (b / 64)
  have hbl := Blk.new w 27 #[.int .u64 (c0 : Int), .int .u64 (c1 : Int), .int .u64 (c2 : Int), .int .u64 (c3 : Int)]
  have hq : b / 64 < 4 := by omega
  have hcell : (w.alloc (.cells #[.int .u64 (c0 : Int), .int .u64 (c1 : Int), .int .u64 (c2 : Int), .int .u64 (c3 : Int)] 27)).cell? ⟨w.heap.size, b / 64, none⟩ = some (.int .u64 (word (c0, c1, c2, c3) (b / 64) : Int)) := by
    rw [hbl.cell]
    unfold word
    obtain h | h | h | h : b / 64 = 0 ∨ b / 64 = 1 ∨ b / 64 = 2 ∨ b / 64 = 3 := by omega
    all_goals (rw [h]; simp)
  have hH : Hid (∀ n, n = word (c0, c1, c2, c3) (b / 64) / 2 ^ (b % 64) → (n % 2 == 1) = has (c0, c1, c2, c3) b) := Lib.hid (by rintro n rfl; rw [half_bit]; rfl)
  generalize word (c0, c1, c2, c3) (b / 64) = W at *
  have hW2 : W < 18446744073709551616 := hw
  clear hbl hok hw
  go_enter Tryd.func53, Tryd.ntmps53
  go_wp2
  go_loopw [5, 6] (fun v5 v6 wr => ∃ k x : Nat, k ≤ b % 64 ∧ v6 = .int .i64 (k : Int) ∧ v5 = .int .u64 (x : Int) ∧ x < 18446744073709551616 ∧ Hid (x = W / 2 ^ k) ∧ Hid (Below w.heap.size w wr)) (fun _ i _ => b % 64 - (intOf i).toNat)
  case atStart => exact ⟨0, W, by omega, rfl, rfl, hW2, Lib.hid (by simp), Lib.hid ((Below.refl _ _).alloc (Nat.le_refl _) _)⟩
  case round =>
    obtain ⟨k, x, hk, rfl, rfl, hx, HX, HB⟩ := hrel
    have hb64 : b % 64 < 64 := by omega
    by_cases hlt : k < b % 64
    · have d1 : decide (k < b % 64) = true := by simpa using hlt
      have d2 : decide ((k : Int) < (b : Int) % 64) = true := by simp; omega
      have i2 : (k : Int) < (b : Int) % 64 := by omega
      go_wp2
      go_roundw
      case rel => exact ⟨k + 1, x / 2, by omega, by go_num, by go_num, by omega, Lib.hid (by rw [HX.out, Nat.div_div_eq_div_mul, Nat.pow_succ]), HB⟩
      case measure => simp [intOf]; omega
    · obtain rfl : k = b % 64 := by omega
      have d1 : decide (b % 64 < b % 64) = false := by simp
      have d2 : decide (((b % 64 : Nat) : Int) < (b : Int) % 64) = false := by simp
      have hres := hH.out x HX.out
      have HRES : Hid (((x : Int) % 2 == 1) = has (c0, c1, c2, c3) b) := Lib.hid (by
        rw [← hres, Bool.eq_iff_iff]; simp; omega)
      clear hres
      go_wp2
      go_ret
      refine ⟨?_, HB.out⟩
      rw [← HRES.out]
      rfl

/-- How many bytes below a number a class has. -/
def cntR (c : Cls) (k : Nat) : Nat := (List.range k).countP fun x => has c x
theorem cntR_succ (c : Cls) (k : Nat) : cntR c (k + 1) = cntR c k + if has c k then 1 else 0 := by
  unfold cntR
  rw [List.range_succ, List.countP_append]
  simp [List.countP_cons]
theorem cntR_le (c : Cls) (k : Nat) : cntR c k ≤ k := by
  have := List.countP_le_length (p := fun x => has c x) (l := List.range k)
  simpa [cntR] using this
theorem cntR_pos (c : Cls) (h : okC c) : 0 < cntR c 256 ↔ c ≠ zc := by
  unfold cntR
  rw [List.countP_pos_iff]
  constructor
  · rintro ⟨x, _, hx⟩ rfl
    rw [has_zc] at hx
    cases hx
  · intro hne
    refine Classical.byContradiction fun hno => hne ?_
    refine cls_ext h okC_zc fun x hx => ?_
    rw [has_zc]
    cases hh : has c x with
    | false => rfl
    | true => exact absurd ⟨x, by simp; exact hx, hh⟩ hno

def RCountIs (c : Cls) (w : World) (e : Ending) (w' : World) : Prop := e = .returned (.int .i64 (cntR c 256 : Int)) ∧ Below w.heap.size w w'
set_option maxRecDepth 100000 in
set_option maxHeartbeats 2000000 in
theorem RCount_any (c0 c1 c2 c3 : Nat) (w : World) (hok : okC (c0, c1, c2, c3)) :
    Calls Tryd.prog 35 #[.agg #[.int .u64 (c0 : Int), .int .u64 (c1 : Int), .int .u64 (c2 : Int), .int .u64 (c3 : Int)]] w (RCountIs (c0, c1, c2, c3) w) := by
  have HBL := Lib.hid (Blk.new w 27 #[.int .u64 (c0 : Int), .int .u64 (c1 : Int), .int .u64 (c2 : Int), .int .u64 (c3 : Int)])
  have HIN := Lib.hid (fun (b : Nat) (hb : b < 256) (W : World) => RIn_any c0 c1 c2 c3 b W hok hb)
  clear hok
  generalize hc : (c0, c1, c2, c3) = c at *
  have HC := Lib.hid hc
  clear hc
  go_enter Tryd.func35, Tryd.ntmps35
  go_wp2
  go_loopw [3, 4] (fun v3 v4 wr => ∃ k m : Nat, k ≤ 256 ∧ m ≤ k ∧ v4 = .int .i64 (k : Int) ∧ v3 = .int .i64 (m : Int) ∧ Hid (m = cntR c k) ∧ Hid (Below (w.heap.size + 1) (w.alloc (.cells #[.int .u64 (c0 : Int), .int .u64 (c1 : Int), .int .u64 (c2 : Int), .int .u64 (c3 : Int)] 27)) wr)) (fun _ i _ => 256 - (intOf i).toNat)
  case atStart => exact ⟨0, 0, by omega, by omega, rfl, rfl, Lib.hid (by simp [cntR]), Lib.hid (Below.refl _ _)⟩
  case round =>
    obtain ⟨k, m, hk, hm, rfl, rfl, HM, HB⟩ := hrel
    by_cases hlt : k < 256
    · have hbl := HBL.out.below HB.out (Nat.lt_succ_self _)
      have q0 := hbl.cell 0
      have q1 := hbl.cell 1
      have q2 := hbl.cell 2
      have q3 := hbl.cell 3
      simp only [List.getElem?_toArray, List.getElem?_cons_succ, List.getElem?_cons_zero] at q0 q1 q2 q3
      have hk1 : (k : Int) < 256 := by omega
      have hsz : w.heap.size + 1 ≤ wr.heap.size := by have := HB.out.size; simpa using this
      clear hbl
      go_wp2_with fail
      refine (HIN.out k hlt _).mono ?_
      rintro e w1 ⟨he, hb1⟩
      have HB1 := Lib.hid (HB.out.trans (hb1.mono hsz))
      clear hb1
      cases hh : has c k with
      | true =>
        rw [hh] at he
        subst he
        have HH := Lib.hid hh
        clear hh
        go_wp2_with fail
        go_roundw
        case rel => exact ⟨k + 1, m + 1, by omega, by omega, by go_num, by go_num, Lib.hid (by rw [cntR_succ, HH.out, HM.out]; rfl), HB1⟩
        case measure => simp [intOf]; omega
      | false =>
        rw [hh] at he
        subst he
        have HH := Lib.hid hh
        clear hh
        go_wp2_with fail
        go_roundw
        case rel => exact ⟨k + 1, m, by omega, by omega, by go_num, rfl, Lib.hid (by rw [cntR_succ, HH.out, HM.out]; rfl), HB1⟩
        case measure => simp [intOf]; omega
    · obtain rfl : k = 256 := by omega
      go_wp2_with fail
      go_ret
      refine ⟨?_, ?_⟩
      · rw [← HM.out]; rfl
      · exact ((Below.refl w.heap.size w).alloc (Nat.le_refl _) _).trans (HB.out.mono (Nat.le_succ _))

theorem RParts_any (op : Int) (w : World) : Calls Tryd.prog 56 #[.int .i64 op] w (fun e w' => e = .returned (.int .i64 (parts op : Int)) ∧ w = w') := by
  by_cases h2 : op = 3 ∨ op = 4
  · have hp : parts op = 2 := by simp [parts, h2]
    rw [hp]
    rcases h2 with rfl | rfl
    · go_enter Tryd.func56, Tryd.ntmps56
      go_wp2
      go_ret
      exact ⟨rfl, rfl⟩
    · go_enter Tryd.func56, Tryd.ntmps56
      go_wp2
      go_ret
      exact ⟨rfl, rfl⟩
  · by_cases h1 : op = 5 ∨ op = 6 ∨ op = 7
    · have hp : parts op = 1 := by unfold parts; rw [if_neg h2, if_pos h1]
      rw [hp]
      rcases h1 with rfl | rfl | rfl
      all_goals (
        go_enter Tryd.func56, Tryd.ntmps56
        go_wp2
        go_ret
        exact ⟨rfl, rfl⟩)
    · have hp : parts op = 0 := by unfold parts; rw [if_neg h2, if_neg h1]
      rw [hp]
      have n3 : (op == 3) = false := by simp; omega
      have n4 : (op == 4) = false := by simp; omega
      have n5 : (op == 5) = false := by simp; omega
      have n6 : (op == 6) = false := by simp; omega
      have n7 : (op == 7) = false := by simp; omega
      clear h1 h2 hp
      go_enter Tryd.func56, Tryd.ntmps56
      go_wp2
      go_ret
      exact ⟨rfl, rfl⟩

end Go.Proofs.YthcahjnniendnacDoor
