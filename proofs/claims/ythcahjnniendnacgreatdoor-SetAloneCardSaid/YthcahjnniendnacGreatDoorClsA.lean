/-
  Walks of package class: Has, with, Of.
-/
import Derived.Test.YthcahjnniendnacGreatDoorGPl
import Derived.Test.YthcahjnniendnacGreatDoorGRex
import Derived.WalkSmall
import Derived.Deep.RegionHeld3
namespace Go.Proofs.YthcahjnniendnacGreatDoor
open Go.RowKit Wf

/-- A class as a value. -/
def clsV (c : Cls) : Value := .agg #[.int .u64 (c.1 : Int), .int .u64 (c.2.1 : Int), .int .u64 (c.2.2.1 : Int), .int .u64 (c.2.2.2 : Int)]

theorem word_get (c : Cls) (q : Nat) (h : q < 4) : [Value.int .u64 (c.1 : Int), .int .u64 (c.2.1 : Int), .int .u64 (c.2.2.1 : Int), .int .u64 (c.2.2.2 : Int)][q]? = some (.int .u64 (word c q : Int)) := by
  match q, h with
  | 0, _ => rfl
  | 1, _ => rfl
  | 2, _ => rfl
  | 3, _ => rfl

theorem bit_has (n k : Nat) (hn : n < 18446744073709551616) : (bits .and .u64 ((n : Int) / 2 ^ k) 1 == 1) = n.testBit k := by
  have e : (n : Int) / 2 ^ k = ((n / 2 ^ k : Nat) : Int) := by simp
  have hle : n / 2 ^ k ≤ n := Nat.div_le_self _ _
  rw [e, Nat.testBit_eq_decide_div_mod_eq]
  generalize n / 2 ^ k = m at *
  rw [and_one_u64 _ (by omega) (by omega)]
  rw [Bool.eq_iff_iff]
  simp
  omega

def HasIs (c : Cls) (b : Nat) (w : World) (e : Ending) (w' : World) : Prop := e = .returned (.bool (has c b)) ∧ Below w.heap.size w w'

set_option maxRecDepth 100000 in
theorem Has_any (c0 c1 c2 c3 b : Nat) (w : World) (hok : okC (c0, c1, c2, c3)) (hb : b < 256) :
    Calls Tryz.prog 85 #[.agg #[.int .u64 (c0 : Int), .int .u64 (c1 : Int), .int .u64 (c2 : Int), .int .u64 (c3 : Int)], .int .u8 (b : Int)] w (HasIs (c0, c1, c2, c3) b w) := by
  have hget := word_get (c0, c1, c2, c3) (b / 64) (by omega)
  have hcw := word_lt hok (b / 64)
  have hbit := bit_has (word (c0, c1, c2, c3) (b / 64)) (b % 64) hcw
  have hfin : has (c0, c1, c2, c3) b = (word (c0, c1, c2, c3) (b / 64)).testBit (b % 64) := rfl
  rw [← hbit] at hfin
  dsimp only at hget
  have HF := Lib.hid hfin
  clear hfin hbit hok
  generalize word (c0, c1, c2, c3) (b / 64) = cw at *
  go_enter Tryz.func85, Tryz.ntmps85
  go_wp2
  go_ret
  exact ⟨by rw [HF.out]; rfl, (Below.refl _ _).alloc (Nat.le_refl _) _⟩

/-- The call hands back the class c. -/
def ClsIs (c : Cls) (w : World) (e : Ending) (w' : World) : Prop := ∃ d0 d1 d2 d3 : Nat, e = .returned (.agg #[.int .u64 (d0 : Int), .int .u64 (d1 : Int), .int .u64 (d2 : Int), .int .u64 (d3 : Int)]) ∧ (d0, d1, d2, d3) = c ∧ Below w.heap.size w w'
theorem ClsIs.of {c : Cls} {w w' : World} (h : Below w.heap.size w w') : ClsIs c w (.returned (clsV c)) w' := ⟨c.1, c.2.1, c.2.2.1, c.2.2.2, rfl, rfl, h⟩

theorem or_pow (a b : Nat) (ha : a < 18446744073709551616) : bits .or .u64 (a : Int) (IntKind.u64.wrap (2 ^ (b % 64))) = ((a ||| 2 ^ (b % 64) : Nat) : Int) := by
  have hp := pow_lt64 b
  have e : IntKind.u64.wrap (2 ^ (b % 64)) = ((2 ^ (b % 64) : Nat) : Int) := by
    rw [IntKind.wrap_u64]
    have : (2 : Int) ^ (b % 64) = ((2 ^ (b % 64) : Nat) : Int) := by simp
    rw [this]
    generalize 2 ^ (b % 64) = p at *
    omega
  rw [e, u64_or_nat _ _ ha hp]

set_option maxRecDepth 100000 in
set_option maxHeartbeats 1000000 in
theorem with_any (c0 c1 c2 c3 b : Nat) (w : World) (hok : okC (c0, c1, c2, c3)) (hb : b < 256) :
    Calls Tryz.prog 42 #[.agg #[.int .u64 (c0 : Int), .int .u64 (c1 : Int), .int .u64 (c2 : Int), .int .u64 (c3 : Int)], .int .u8 (b : Int)] w (ClsIs (withB (c0, c1, c2, c3) b) w) := by
  obtain ⟨h0, h1, h2, h3⟩ := hok
  have q4 : b / 64 = 0 ∨ b / 64 = 1 ∨ b / 64 = 2 ∨ b / 64 = 3 := by omega
  have e0 := or_pow c0 b h0
  have e1 := or_pow c1 b h1
  have e2 := or_pow c2 b h2
  have e3 := or_pow c3 b h3
  have E0 := Lib.hid e0
  have E1 := Lib.hid e1
  have E2 := Lib.hid e2
  have E3 := Lib.hid e3
  clear e0 e1 e2 e3 h0 h1 h2 h3
  rcases q4 with hq | hq | hq | hq
  all_goals
    have hfin : clsV (withB (c0, c1, c2, c3) b) = clsV (withB (c0, c1, c2, c3) b) := rfl
    conv at hfin => rhs; unfold clsV withB; simp only [hq]
    simp at hfin
    have HF := Lib.hid hfin
    clear hfin
    go_enter Tryz.func42, Tryz.ntmps42
    go_wp2
    refine bodyPost_ret (v := clsV (withB (c0, c1, c2, c3) b)) ?_ rfl (ClsIs.of (((Below.refl _ _).alloc (Nat.le_refl _) _).alloc (by simp) _))
    rw [HF.out]
    simp [results, Tryz.results42, go_sem, E0.out, E1.out, E2.out, E3.out]

def clsA (c : Cls) : Array Value := #[.int .u64 (c.1 : Int), .int .u64 (c.2.1 : Int), .int .u64 (c.2.2.1 : Int), .int .u64 (c.2.2.2 : Int)]

theorem bytes_take (s : ByteArray) (k : Nat) (h : k < s.size) : s.data.toList.take (k + 1) = s.data.toList.take k ++ [s[k]] := by
  rw [List.take_succ_eq_append_getElem (by simpa using h)]; rfl

theorem Blk4 {w : World} {g : Nat} {t : TypeId} {a b c d : Value} (h : Blk w g t #[a, b, c, d]) :
    (w.cell? ⟨g, 0, none⟩ = some a ∧ w.cell? ⟨g, 1, none⟩ = some b ∧ w.cell? ⟨g, 2, none⟩ = some c ∧ w.cell? ⟨g, 3, none⟩ = some d) ∧
      (w.frozen? ⟨g, 0, none⟩ = false ∧ w.frozen? ⟨g, 1, none⟩ = false ∧ w.frozen? ⟨g, 2, none⟩ = false ∧ w.frozen? ⟨g, 3, none⟩ = false) :=
  ⟨⟨h.cell 0, h.cell 1, h.cell 2, h.cell 3⟩, h.frozen 0, h.frozen 1, h.frozen 2, h.frozen 3⟩

theorem Blk4_set {w : World} {g : Nat} {t : TypeId} {a b c d : Value} (h : Blk w g t #[a, b, c, d]) (a' b' c' d' : Value) :
    Blk ((((w.setCell ⟨g, 0, none⟩ a').setCell ⟨g, 1, none⟩ b').setCell ⟨g, 2, none⟩ c').setCell ⟨g, 3, none⟩ d') g t #[a', b', c', d'] :=
  (((h.set_ 0 a').set_ 1 b').set_ 2 c').set_ 3 d'

set_option maxRecDepth 100000 in
set_option maxHeartbeats 4000000 in
theorem Of_any (s : ByteArray) (w : World) (hs : s.size ≤ 9223372036854775807) :
    Calls Tryz.prog 15 #[.string s] w (ClsIs (ofL s.data.toList zc) w) := by
  go_enter Tryz.func15, Tryz.ntmps15
  go_wp2
  go_loopw [7] (fun v7 wr => ∃ (k : Nat) (c0 c1 c2 c3 : Nat), k ≤ s.size ∧ v7 = .int .i64 (k : Int) ∧ okC (c0, c1, c2, c3) ∧ Hid ((c0, c1, c2, c3) = ofL (s.data.toList.take k) zc) ∧
      Blk wr (w.heap.size + 1) 39 #[.int .u64 (c0 : Int), .int .u64 (c1 : Int), .int .u64 (c2 : Int), .int .u64 (c3 : Int)] ∧ (∃ d, Blk wr w.heap.size 39 #[.int .u64 0, .int .u64 0, .int .u64 0, .int .u64 d]) ∧ Below w.heap.size w wr) (fun i _ => s.size - (intOf i).toNat)
  case atStart => exact ⟨0, 0, 0, 0, 0, by omega, rfl, okC_zc, Lib.hid rfl, by have h := Blk.new (w.alloc (.cells #[.int .u64 0, .int .u64 0, .int .u64 0, .int .u64 0] 39)) 39 #[.int .u64 0, .int .u64 0, .int .u64 0, .int .u64 0]; simpa using h, ⟨0, (Blk.new _ _ _).alloc _⟩, ((Below.refl _ _).alloc (Nat.le_refl _) _).alloc (by simp) _⟩
  case round =>
    obtain ⟨k, c0, c1, c2, c3, hk, rfl, hok, hc, hblk, ⟨d, hblk0⟩, hb⟩ := hrel
    by_cases hlt : k < s.size
    · have hsz := hblk.lt
      have hbyte : (s[k].toNat : Int) < 256 := by have := s[k].toNat_lt; omega
      have hbyte' : s[k].toNat < 256 := s[k].toNat_lt
      obtain ⟨⟨x0, x1, x2, x3⟩, y0, y1, y2, y3⟩ := Blk4 hblk
      have hnext : withB (c0, c1, c2, c3) s[k].toNat = ofL (s.data.toList.take (k + 1)) zc := by rw [bytes_take s k hlt, ofL_snoc, hc.out]
      have HN := Lib.hid hnext
      have hokn := Lib.hid (okC_with hok s[k].toNat)
      have HOK := Lib.hid hok
      have HB := Lib.hid hblk
      have HB0 := Lib.hid hblk0
      have HBB := Lib.hid hb
      have hsz2 := hb.size
      clear hnext hok hblk hblk0 hb hc
      have hk0 : (0 : Int) ≤ (k : Int) := by omega
      have hk1 : (k : Int) < (s.size : Int) := by omega
      go_wp2_with fail
      go_region_with (first
          | (go_at_call 42; refine (with_any c0 c1 c2 c3 s[k].toNat _ HOK.out hbyte').mono ?_; rintro e w1 ⟨d0, d1, d2, d3, rfl, hd, hb1⟩; have HD := Lib.hid hd; have hbx : Below wr.heap.size wr w1 := ((Below.refl wr.heap.size wr).drew).trans hb1; have hblk1 := HB.out.kept hbx; obtain ⟨⟨x0, x1, x2, x3⟩, y0, y1, y2, y3⟩ := Blk4 hblk1; have HB1 := Lib.hid hblk1; have hsz1 := hbx.size; have HBL := Lib.hid hbx; clear hd hblk1 hb1 hbx))
      all_goals (
        go_wp2
        go_roundw
        case rel =>
          have hok' := hokn.out
          rw [← HD.out] at hok'
          refine ⟨k + 1, d0, d1, d2, d3, by omega, by go_num, hok', Lib.hid (by rw [HD.out, HN.out]), Blk4_set HB1.out _ _ _ _, ?_, ?_⟩
          · refine ⟨d, ((((HB0.out.kept HBL.out).far ?_ _).far ?_ _).far ?_ _).far ?_ _⟩ <;> simp
          · exact ((((HBB.out.trans (HBL.out.mono hsz2)).setCell (by simp) _).setCell (by simp) _).setCell (by simp) _).setCell (by simp) _
        case measure => simp [intOf]; omega)
    · obtain rfl : k = s.size := by omega
      obtain ⟨⟨x0, x1, x2, x3⟩, y0, y1, y2, y3⟩ := Blk4 hblk
      obtain ⟨⟨z0, z1, z2, z3⟩, t0, t1, t2, t3⟩ := Blk4 hblk0
      have hfin : (c0, c1, c2, c3) = ofL s.data.toList zc := by rw [hc.out, List.take_of_length_le (by simp)]
      have HF := Lib.hid hfin
      have HB := Lib.hid hb
      have HB0 := Lib.hid hblk0
      clear hfin hc hb hblk hblk0 hok
      go_wp2
      refine bodyPost_ret (v := clsV (ofL s.data.toList zc)) ?_ rfl (ClsIs.of ?_)
      · rw [← HF.out]
        have h4 := (Blk4 (Blk4_set HB0.out (.int .u64 c0) (.int .u64 c1) (.int .u64 c2) (.int .u64 c3))).1
        obtain ⟨h0, h1, h2, h3⟩ := h4
        simp [results, Tryz.results15, go_sem, clsV, h0, h1, h2, h3]
      · exact (((HB.out.setCell (Nat.le_refl _) _).setCell (Nat.le_refl _) _).setCell (Nat.le_refl _) _).setCell (Nat.le_refl _) _

end Go.Proofs.YthcahjnniendnacGreatDoor
