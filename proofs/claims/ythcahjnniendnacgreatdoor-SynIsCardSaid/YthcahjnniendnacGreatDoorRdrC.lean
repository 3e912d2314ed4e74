/-
  Walks of the document's reader: a class behind its bracket. (Printed by gen-rdrc.py.)
-/
import Derived.Test.YthcahjnniendnacGreatDoorRdrB
namespace Wf
/-- A class and n bytes more, from lo on. -/
def withs (c : Cls) (lo : Nat) : Nat → Cls
  | 0 => c
  | n + 1 => withB (withs c lo n) (lo + n)
theorem okC_withs {c : Cls} (h : okC c) (lo : Nat) : ∀ n, okC (withs c lo n)
  | 0 => h
  | n + 1 => okC_with (okC_withs h lo n) _
theorem has_withs (c : Cls) (lo x : Nat) (hx : x < 256) : ∀ n, lo + n ≤ 256 → has (withs c lo n) x = (has c x || decide (lo ≤ x ∧ x < lo + n))
  | 0, _ => by
    have : decide (lo ≤ x ∧ x < lo + 0) = false := by simp
    rw [this]; simp [withs]
  | n + 1, h => by
    rw [withs, has_with _ _ _ (by omega) hx, has_withs c lo x hx n (by omega), Bool.eq_iff_iff]
    simp
    constructor
    · rintro ((h1 | h1) | h1)
      · exact .inl h1
      · exact .inr (by omega)
      · exact .inr (by omega)
    · rintro (h1 | h1)
      · exact .inl (.inl h1)
      · by_cases e : x = lo + n
        · exact .inr e
        · exact .inl (.inr (by omega))
theorem withs_span {c : Cls} (h : okC c) {lo hi : Nat} (h1 : lo ≤ hi) (h2 : hi < 256) : withs c lo (hi + 1 - lo) = eitherC c (spanC lo hi) := by
  refine cls_ext (okC_withs h _ _) (okC_either h (okC_span _ _)) fun x hx => ?_
  rw [has_withs c lo x hx _ (by omega), has_either, has_span h2 hx, Bool.eq_iff_iff]
  simp
  constructor
  · rintro (h3 | h3)
    · exact .inl h3
    · exact .inr (by omega)
  · rintro (h3 | h3)
    · exact .inl h3
    · exact .inr (by omega)
def badM (bad : Option Nat) (n : Nat) : Nat := match bad with
  | none => n + 1
  | some _ => 0
/-- Where the items of a class are being read. -/
def BrIn (s : List UInt8) (i j : Nat) (c : Cls) : Option Nat → Prop
  | none => itemsS s i zc = itemsS s j c ∧ i ≤ j ∧ j ≤ s.length
  | some k => itemsS s i zc = .bad k ∧ i ≤ j ∧ j ≤ s.length + 1
theorem badM_none (n : Nat) : badM none n = n + 1 := rfl
theorem BrIn.end_ {s : List UInt8} {i j : Nat} {c : Cls} (h : BrIn s i j c none) (hg : s[j]? = some 93) : itemsS s i zc = .ok c (j + 1) := by rw [h.1, itemsS_end c hg]
theorem itemS_bad1 {s : List UInt8} {j k : Nat} (h : oneS s j = .bad k) : itemS s j = .bad k := by unfold itemS; rw [h]
theorem itemS_one {s : List UInt8} {j j1 a : Nat} (h : oneS s j = .ok a j1) (h45 : s[j1]? ≠ some 45) : itemS s j = .ok (a, a) j1 := by unfold itemS; rw [h]; simp only [if_neg h45]
theorem itemS_bad2 {s : List UInt8} {j j1 a k : Nat} (h : oneS s j = .ok a j1) (h45 : s[j1]? = some 45) (h2 : oneS s (j1 + 1) = .bad k) : itemS s j = .bad k := by unfold itemS; rw [h]; simp only [if_pos h45]; rw [h2]
theorem itemS_low {s : List UInt8} {j j1 a b j2 : Nat} (h : oneS s j = .ok a j1) (h45 : s[j1]? = some 45) (h2 : oneS s (j1 + 1) = .ok b j2) (hl : b < a) : itemS s j = .bad j := by unfold itemS; rw [h]; simp only [if_pos h45]; rw [h2]; simp only [if_pos hl]
theorem itemS_two {s : List UInt8} {j j1 a b j2 : Nat} (h : oneS s j = .ok a j1) (h45 : s[j1]? = some 45) (h2 : oneS s (j1 + 1) = .ok b j2) (hl : ¬ b < a) : itemS s j = .ok (a, b) j2 := by unfold itemS; rw [h]; simp only [if_pos h45]; rw [h2]; simp only [if_neg hl]
theorem BrIn.bad {s : List UInt8} {i j j' k : Nat} {c c' : Cls} (h : BrIn s i j c none) (hg : s[j]? ≠ some 93) (hi : itemS s j = .bad k) (h1 : j ≤ j') (h2 : j' ≤ s.length + 1) : BrIn s i j' c' (some k) :=
  ⟨by rw [h.1, itemsS_bad c hg hi], by have := h.2.1; omega, h2⟩
theorem BrIn.more {s : List UInt8} {i j j' a b : Nat} {c : Cls} (h : BrIn s i j c none) (hc : okC c) (hg : s[j]? ≠ some 93) (hi : itemS s j = .ok (a, b) j') : BrIn s i j' (withs c a (b + 1 - a)) none := by
  obtain ⟨h1, h2, h3, h4⟩ := itemS_ok hi
  exact ⟨by rw [h.1, itemsS_more c hg hi, withs_span hc h3 h4], by have := h.2.1; omega, h2⟩
end Wf
namespace Go.Proofs.YthcahjnniendnacGreatDoor
open Go.RowKit Wf

theorem RW.local {w0 w : World} {rb i : Nat} {bad : Option Nat} {s : ByteArray} (h : RW w0 rb s i bad w) {p : Addr} (hp : w0.heap.size ≤ p.block) (u : Value) : RW w0 rb s i bad (w.setCell p u) := by
  have hlt := h.lt
  exact ⟨h.par.far (by omega) u, ⟨h.grow.os, h.grow.tape, h.grow.output, by simpa using h.grow.size, fun q hq hn => (Below.heap_setCell w p u q (by omega)).trans (h.grow.block q hq hn)⟩, h.lt⟩
theorem Blk.grown {w w' : World} {g rb : Nat} {t : TypeId} {cs : Array Value} (h : Blk w g t cs) (hg : w.grownBy w' (some rb)) (hne : g ≠ rb) : Blk w' g t cs := (hg.block g (Blk.lt h) (fun e => hne (Option.some.inj e))).trans h
/-- What reading a class comes to. -/
def RBrIs (r : PR Cls) (rb : Nat) (s : ByteArray) (i : Nat) (w : World) (e : Ending) (w' : World) : Prop :=
  ∃ d0 d1 d2 d3 j : Nat, ∃ bad, e = .returned (.agg #[.int .u64 (d0 : Int), .int .u64 (d1 : Int), .int .u64 (d2 : Int), .int .u64 (d3 : Int)]) ∧ okC (d0, d1, d2, d3) ∧ RW w rb s j bad w' ∧
    ((bad = none ∧ r = .ok (d0, d1, d2, d3) j ∧ i < j ∧ j ≤ s.size) ∨ (∃ k, bad = some k ∧ r = .bad k ∧ i ≤ j ∧ j ≤ s.size + 1))
structure BrAt (w : World) (rb : Nat) (s : ByteArray) (c0 c1 c2 c3 : Nat) (j : Nat) (bad : Option Nat) (wr : World) : Prop where
  rd : RW w rb s j bad wr
  b2 : Blk wr w.heap.size 39 #[.int .u64 0, .int .u64 0, .int .u64 0, .int .u64 0]
  b3 : Blk wr (w.heap.size + 1) 39 #[.int .u64 (c0 : Int), .int .u64 (c1 : Int), .int .u64 (c2 : Int), .int .u64 (c3 : Int)]
section
variable {w wr w' : World} {rb j j' c0 c1 c2 c3 : Nat} {bad bad' : Option Nat} {s : ByteArray}
theorem BrAt.call (h : BrAt w rb s c0 c1 c2 c3 j bad wr) (h' : RW wr rb s j' bad' w') : BrAt w rb s c0 c1 c2 c3 j' bad' w' :=
  ⟨h.rd.trans h', Blk.grown h.b2 h'.grow (by have := h.rd.lt; omega), Blk.grown h.b3 h'.grow (by have := h.rd.lt; omega)⟩
theorem BrAt.below (h : BrAt w rb s c0 c1 c2 c3 j bad wr) (hb : Below wr.heap.size wr w') : BrAt w rb s c0 c1 c2 c3 j bad w' :=
  ⟨h.rd.below hb, h.b2.kept hb, h.b3.kept hb⟩
theorem BrAt.at (h : BrAt w rb s c0 c1 c2 c3 j bad wr) (j' : Nat) : BrAt w rb s c0 c1 c2 c3 j' bad (wr.setCell ⟨rb, 1, none⟩ (.int .i64 (j' : Int))) :=
  h.call (h.rd.here.at j')
theorem BrAt.put (h : BrAt w rb s c0 c1 c2 c3 j bad wr) (d0 d1 d2 d3 : Nat) : BrAt w rb s d0 d1 d2 d3 j bad ((((wr.setCell ⟨w.heap.size + 1, 0, none⟩ (.int .u64 (d0 : Int))).setCell ⟨w.heap.size + 1, 1, none⟩ (.int .u64 (d1 : Int))).setCell ⟨w.heap.size + 1, 2, none⟩ (.int .u64 (d2 : Int))).setCell ⟨w.heap.size + 1, 3, none⟩ (.int .u64 (d3 : Int))) :=
  ⟨(((h.rd.local (by simp) _).local (by simp) _).local (by simp) _).local (by simp) _, (((h.b2.far (by simp) _).far (by simp) _).far (by simp) _).far (by simp) _, Blk4_set h.b3 _ _ _ _⟩
theorem BrAt.res (h : BrAt w rb s c0 c1 c2 c3 j bad wr) (d0 d1 d2 d3 : Value) : Blk ((((wr.setCell ⟨w.heap.size, 0, none⟩ d0).setCell ⟨w.heap.size, 1, none⟩ d1).setCell ⟨w.heap.size, 2, none⟩ d2).setCell ⟨w.heap.size, 3, none⟩ d3) w.heap.size 39 #[d0, d1, d2, d3] ∧
    RW w rb s j bad ((((wr.setCell ⟨w.heap.size, 0, none⟩ d0).setCell ⟨w.heap.size, 1, none⟩ d1).setCell ⟨w.heap.size, 2, none⟩ d2).setCell ⟨w.heap.size, 3, none⟩ d3) :=
  ⟨Blk4_set h.b2 _ _ _ _, (((h.rd.local (by simp) _).local (by simp) _).local (by simp) _).local (by simp) _⟩
theorem BrAt.facts (h : BrAt w rb s c0 c1 c2 c3 j bad wr) : (wr.cell? ⟨rb, 0, none⟩ = some (.string s) ∧ wr.cell? ⟨rb, 1, none⟩ = some (.int .i64 (j : Int)) ∧ wr.frozen? ⟨rb, 1, none⟩ = false) ∧
    (wr.cell? ⟨w.heap.size + 1, 0, none⟩ = some (.int .u64 (c0 : Int)) ∧ wr.cell? ⟨w.heap.size + 1, 1, none⟩ = some (.int .u64 (c1 : Int)) ∧ wr.cell? ⟨w.heap.size + 1, 2, none⟩ = some (.int .u64 (c2 : Int)) ∧ wr.cell? ⟨w.heap.size + 1, 3, none⟩ = some (.int .u64 (c3 : Int))) ∧
    (wr.frozen? ⟨w.heap.size + 1, 0, none⟩ = false ∧ wr.frozen? ⟨w.heap.size + 1, 1, none⟩ = false ∧ wr.frozen? ⟨w.heap.size + 1, 2, none⟩ = false ∧ wr.frozen? ⟨w.heap.size + 1, 3, none⟩ = false) ∧
    (wr.cell? ⟨w.heap.size, 0, none⟩ = some (.int .u64 0) ∧ wr.cell? ⟨w.heap.size, 1, none⟩ = some (.int .u64 0) ∧ wr.cell? ⟨w.heap.size, 2, none⟩ = some (.int .u64 0) ∧ wr.cell? ⟨w.heap.size, 3, none⟩ = some (.int .u64 0)) ∧ (wr.frozen? ⟨w.heap.size, 0, none⟩ = false ∧ wr.frozen? ⟨w.heap.size, 1, none⟩ = false ∧ wr.frozen? ⟨w.heap.size, 2, none⟩ = false ∧ wr.frozen? ⟨w.heap.size, 3, none⟩ = false) :=
  ⟨⟨h.rd.c0, h.rd.c1, h.rd.f1⟩, (Blk4 h.b3).1, (Blk4 h.b3).2, (Blk4 h.b2).1, (Blk4 h.b2).2⟩
theorem BrAt.bad2 {k : Nat} (h : BrAt w rb s c0 c1 c2 c3 j (some k) wr) : wr.cell? ⟨rb, 2, none⟩ = some (.int .i64 (k : Int)) := h.rd.c2
theorem BrAt.good2 (h : BrAt w rb s c0 c1 c2 c3 j none wr) : wr.cell? ⟨rb, 2, none⟩ = some (.int .i64 (-1)) := h.rd.c2
end
theorem BrAt.start {w : World} {rb i : Nat} {s : ByteArray} (h : RW w rb s i none w) : BrAt w rb s 0 0 0 0 i none ((w.alloc (.cells #[.int .u64 0, .int .u64 0, .int .u64 0, .int .u64 0] 39)).alloc (.cells #[.int .u64 0, .int .u64 0, .int .u64 0, .int .u64 0] 39)) :=
  ⟨(h.below ((Below.refl _ _).alloc (Nat.le_refl _) _)).below ((Below.refl _ _).alloc (Nat.le_refl _) _), (Blk.new _ _ _).alloc _, by have h := Blk.new (w.alloc (.cells #[.int .u64 0, .int .u64 0, .int .u64 0, .int .u64 0] 39)) 39 #[.int .u64 0, .int .u64 0, .int .u64 0, .int .u64 0]; rw [World.size_alloc] at h; exact h⟩

set_option maxRecDepth 100000 in
set_option maxHeartbeats 8000000 in
theorem rbr_not {rb : Nat} {s : ByteArray} {i : Nat} (w : World) (h : RW w rb s i none w) (hs : s.size ≤ 200) (hi : i ≤ s.size) (h94 : s.data.toList[i]? = some 94) :
    Calls Tryz.prog 92 #[.pointer (some ⟨rb, 0, none⟩)] w (RBrIs (bracketS s.data.toList i) rb s i w) := by
  obtain ⟨L, hL⟩ : ∃ L, L = s.data.toList := ⟨_, rfl⟩
  have hLZ : L.length = s.size := by rw [hL]; simp
  have HLZ := Lib.hid hLZ
  have HSY : Hid (∀ (c : UInt8) (j : Nat) W, L[j]? = some c → RW W rb s j none W → Calls Tryz.prog 64 #[.pointer (some ⟨rb, 0, none⟩), .int .u8 (c.toNat : Int)] W (RSeesIs true W)) := Lib.hid fun c j W hc hw => rsees_yes W hw hs (by rw [← hL]; exact hc)
  have HSN : Hid (∀ (c : UInt8) (j : Nat) W, j ≤ s.size → L[j]? ≠ some c → RW W rb s j none W → Calls Tryz.prog 64 #[.pointer (some ⟨rb, 0, none⟩), .int .u8 (c.toNat : Int)] W (RSeesIs false W)) := Lib.hid fun c j W hj hc hw => rsees_no W hw hs hj (by rw [← hL]; exact hc)
  have HSB : Hid (∀ (c j k : Nat) W, RW W rb s j (some k) W → Calls Tryz.prog 64 #[.pointer (some ⟨rb, 0, none⟩), .int .u8 (c : Int)] W (RSeesIs false W)) := Lib.hid fun c j k W hw => rsees_bad c W hw
  have HON : Hid (∀ j W, j ≤ s.size → RW W rb s j none W → Calls Tryz.prog 94 #[.pointer (some ⟨rb, 0, none⟩)] W (ROneIs (oneS L j) rb s j W)) := Lib.hid fun j W hj hw => by rw [hL]; exact rone_c W hw hs hj
  have HFL : Hid (∀ j (k : Nat) W, RW W rb s j none W → Calls Tryz.prog 40 #[.pointer (some ⟨rb, 0, none⟩), .int .i64 (k : Int)] W (RFailIs rb s j (some k) W)) := Lib.hid fun j k W hw => rfail_good W hw k
  have HWT : Hid (∀ (c0 c1 c2 c3 b : Nat) (W : World), okC (c0, c1, c2, c3) → b < 256 → Calls Tryz.prog 79 #[.agg #[.int .u64 (c0 : Int), .int .u64 (c1 : Int), .int .u64 (c2 : Int), .int .u64 (c3 : Int)], .int .i64 (b : Int)] W (ClsIs (withB (c0, c1, c2, c3) b) W)) := Lib.hid fun c0 c1 c2 c3 b W h1 h2 => RWith_any c0 c1 c2 c3 b W h1 h2
  have HOT : Hid (∀ (c0 c1 c2 c3 : Nat) (W : World), okC (c0, c1, c2, c3) → Calls Tryz.prog 55 #[.agg #[.int .u64 (c0 : Int), .int .u64 (c1 : Int), .int .u64 (c2 : Int), .int .u64 (c3 : Int)]] W (ClsIs (notC (c0, c1, c2, c3)) W)) := Lib.hid fun c0 c1 c2 c3 W h1 => ROthers_any c0 c1 c2 c3 W h1
  unfold RSeesIs at HSY HSN HSB
  unfold ROneIs ROneAt at HON
  unfold RFailIs at HFL
  unfold ClsIs at HWT HOT
  have HB0 := Lib.hid (BrAt.start h)
  have hrb := h.lt
  have h94' : L[i]? = some 94 := by rw [hL]; exact h94
  have hqo : ∀ c j, itemsS L (i + 1) zc = .ok c j → bracketS s.data.toList i = .ok (notC c) j := by
    intro c j hq
    unfold bracketS
    rw [if_pos h94, ← hL, hq]
  have hqb : ∀ k, itemsS L (i + 1) zc = .bad k → bracketS s.data.toList i = .bad k := by
    intro k hq
    unfold bracketS
    rw [if_pos h94, ← hL, hq]
  obtain ⟨Q, hQ⟩ : ∃ Q, Q = bracketS s.data.toList i := ⟨_, rfl⟩
  rw [← hQ] at hqo hqb ⊢
  obtain ⟨i0, hi0⟩ : ∃ i0, i0 = i + 1 := ⟨_, rfl⟩
  have hi0s : i ≤ i0 ∧ i0 ≤ i + 1 ∧ i0 ≤ s.size := by (have := getE_lt h94'; omega)
  have HI0 := Lib.hid hi0
  rw [← hi0] at hqo hqb
  have HQO := Lib.hid hqo
  have HQB := Lib.hid hqb
  have H94 := Lib.hid h94'
  obtain ⟨hi0a, hi0b, hi0c⟩ := hi0s
  clear h h94 h94' hL hLZ hQ hi0 hqo hqb
  unfold RBrIs
  go_enter Tryz.func92, Tryz.ntmps92
  go_wp2_with fail
  refine (HSY.out 94 i _ H94.out HB0.out.rd.here).mono ?_
  rintro e w1 ⟨rfl, hb1⟩
  have HB1 := Lib.hid (HB0.out.below hb1)
  clear hb1
  obtain ⟨⟨r0, r1, rf⟩, ⟨x0, x1, x2, x3⟩, ⟨y0, y1, y2, y3⟩, ⟨p0, p1, p2, p3⟩, z0, z1, z2, z3⟩ := HB1.out.facts
  go_wp2_with fail
  clear r0 r1 rf x0 x1 x2 x3 y0 y1 y2 y3 z0 z1 z2 z3 p0 p1 p2 p3
  have HB2 : Hid (BrAt w rb s 0 0 0 0 i0 none (w1.setCell ⟨rb, 1, none⟩ (.int .i64 ((i : Int) + 1)))) := Lib.hid (by rw [HI0.out]; have := HB1.out.at (i + 1); push_cast at this; exact this)
  go_loopg [5] (s.size + 2) (fun gk _ wr => ∃ (j c0 c1 c2 c3 : Nat) (bad : Option Nat), okC (c0, c1, c2, c3) ∧ Hid (BrIn L i0 j (c0, c1, c2, c3) bad) ∧ Hid (BrAt w rb s c0 c1 c2 c3 j bad wr) ∧ Hid (badM bad (s.size - j) < gk))
  case atStart => exact ⟨i0, 0, 0, 0, 0, none, okC_zc, Lib.hid ⟨rfl, Nat.le_refl _, by rw [HLZ.out]; exact hi0c⟩, HB2, Lib.hid (by rw [badM_none]; omega)⟩
  case round =>
    obtain ⟨j, c0, c1, c2, c3, bad, hok, HST, HB, HG⟩ := hrel
    clear HB0 HB1 HB2
    cases bad with
    | some k =>
      have q2 := HB.out.bad2
      have dk : decide ((k : Int) < 0) = false := by simp
      have HE : Hid (Q = .bad k ∧ i ≤ j ∧ j ≤ s.size + 1) := Lib.hid ⟨HQB.out _ HST.out.1, by have := HST.out.2.1; omega, by have := HST.out.2.2; rw [HLZ.out] at this; exact this⟩
      clear HG HST
      obtain ⟨⟨r0, r1, rf⟩, ⟨x0, x1, x2, x3⟩, ⟨y0, y1, y2, y3⟩, ⟨p0, p1, p2, p3⟩, z0, z1, z2, z3⟩ := HB.out.facts
      go_wp2_with fail
      refine (HOT.out c0 c1 c2 c3 _ hok).mono ?_
      rintro e wt ⟨d0, d1, d2, d3, rfl, hd, hbt⟩
      have HD := Lib.hid hd
      have HBT := Lib.hid (HB.out.below hbt)
      clear hd hbt
      clear r0 r1 rf x0 x1 x2 x3 y0 y1 y2 y3 z0 z1 z2 z3 p0 p1 p2 p3
      obtain ⟨⟨r0, r1, rf⟩, ⟨x0, x1, x2, x3⟩, ⟨y0, y1, y2, y3⟩, ⟨p0, p1, p2, p3⟩, z0, z1, z2, z3⟩ := HBT.out.facts
      go_wp2_with fail
      obtain ⟨hres, hrw⟩ := HBT.out.res (.int .u64 (d0 : Int)) (.int .u64 (d1 : Int)) (.int .u64 (d2 : Int)) (.int .u64 (d3 : Int))
      refine bodyPost_ret (v := .agg #[.int .u64 (d0 : Int), .int .u64 (d1 : Int), .int .u64 (d2 : Int), .int .u64 (d3 : Int)]) ?_ rfl ?_
      · obtain ⟨h0, h1, h2, h3⟩ := (Blk4 hres).1
        simp [results, Tryz.results92, go_sem, h0, h1, h2, h3]
      · exact ⟨d0, d1, d2, d3, _, _, rfl, by rw [HD.out]; exact okC_not _, hrw, .inr ⟨k, rfl, HE.out.1, HE.out.2.1, HE.out.2.2⟩⟩
    | none =>
      have q2 := HB.out.good2
      have hjL := HST.out.2.2
      have hij := HST.out.2.1
      rw [HLZ.out] at hjL
      obtain ⟨⟨r0, r1, rf⟩, ⟨x0, x1, x2, x3⟩, ⟨y0, y1, y2, y3⟩, ⟨p0, p1, p2, p3⟩, z0, z1, z2, z3⟩ := HB.out.facts
      by_cases hg : L[j]? = some 93
      · have HE : Hid (Q = .ok (notC (c0, c1, c2, c3)) (j + 1)) := Lib.hid (HQO.out _ _ (HST.out.end_ hg))
        have hj1 : j + 1 ≤ s.size := by have := getE_lt hg; rw [HLZ.out] at this; omega
        go_wp2_with fail
        refine (HSY.out 93 j _ hg HB.out.rd.here).mono ?_
        rintro e w3 ⟨rfl, hb3⟩
        have HB3 := Lib.hid (HB.out.below hb3)
        clear hb3 q2 HG HST
        clear r0 r1 rf x0 x1 x2 x3 y0 y1 y2 y3 z0 z1 z2 z3 p0 p1 p2 p3
        obtain ⟨⟨r0, r1, rf⟩, ⟨x0, x1, x2, x3⟩, ⟨y0, y1, y2, y3⟩, ⟨p0, p1, p2, p3⟩, z0, z1, z2, z3⟩ := HB3.out.facts
        have HB4 : Hid (BrAt w rb s c0 c1 c2 c3 (j + 1) none (w3.setCell ⟨rb, 1, none⟩ (.int .i64 ((j : Int) + 1)))) := Lib.hid (by have := HB3.out.at (j + 1); push_cast at this; exact this)
        clear r0 r1 rf x0 x1 x2 x3 y0 y1 y2 y3 z0 z1 z2 z3 p0 p1 p2 p3
        obtain ⟨⟨r0, r1, rf⟩, ⟨x0, x1, x2, x3⟩, ⟨y0, y1, y2, y3⟩, ⟨p0, p1, p2, p3⟩, z0, z1, z2, z3⟩ := HB3.out.facts
        go_wp2_with fail
        refine (HOT.out c0 c1 c2 c3 _ hok).mono ?_
        rintro e wt ⟨d0, d1, d2, d3, rfl, hd, hbt⟩
        have HD := Lib.hid hd
        have HBT := Lib.hid (HB4.out.below hbt)
        clear hd hbt
        clear r0 r1 rf x0 x1 x2 x3 y0 y1 y2 y3 z0 z1 z2 z3 p0 p1 p2 p3
        obtain ⟨⟨r0, r1, rf⟩, ⟨x0, x1, x2, x3⟩, ⟨y0, y1, y2, y3⟩, ⟨p0, p1, p2, p3⟩, z0, z1, z2, z3⟩ := HBT.out.facts
        go_wp2_with fail
        obtain ⟨hres, hrw⟩ := HBT.out.res (.int .u64 (d0 : Int)) (.int .u64 (d1 : Int)) (.int .u64 (d2 : Int)) (.int .u64 (d3 : Int))
        refine bodyPost_ret (v := .agg #[.int .u64 (d0 : Int), .int .u64 (d1 : Int), .int .u64 (d2 : Int), .int .u64 (d3 : Int)]) ?_ rfl ?_
        · obtain ⟨h0, h1, h2, h3⟩ := (Blk4 hres).1
          simp [results, Tryz.results92, go_sem, h0, h1, h2, h3]
        · exact ⟨d0, d1, d2, d3, _, _, rfl, by rw [HD.out]; exact okC_not _, hrw, .inl ⟨rfl, by rw [HD.out]; exact HE.out, by omega, hj1⟩⟩
      · go_wp2_with fail
        refine (HSN.out 93 j _ hjL hg HB.out.rd.here).mono ?_
        rintro e w3 ⟨rfl, hb3⟩
        have HB3 := Lib.hid (HB.out.below hb3)
        clear hb3 q2
        clear r0 r1 rf x0 x1 x2 x3 y0 y1 y2 y3 z0 z1 z2 z3 p0 p1 p2 p3
        obtain ⟨⟨r0, r1, rf⟩, ⟨x0, x1, x2, x3⟩, ⟨y0, y1, y2, y3⟩, ⟨p0, p1, p2, p3⟩, z0, z1, z2, z3⟩ := HB3.out.facts
        go_wp2_with fail
        refine (HON.out j _ hjL HB3.out.rd.here).mono ?_
        rintro e w4 (⟨a, j1, ho, ha, hj1, hjs1, rfl, hw4⟩ | ⟨k, a, j1, ho, ha, hj1, hj2, rfl, hw4⟩)
        · have HB4 := Lib.hid (HB3.out.call hw4)
          clear hw4
          clear r0 r1 rf x0 x1 x2 x3 y0 y1 y2 y3 z0 z1 z2 z3 p0 p1 p2 p3
          by_cases h45 : L[j1]? = some 45
          · have hj11 : j1 + 1 ≤ s.size := by have := getE_lt h45; rw [HLZ.out] at this; omega
            go_wp2_with fail
            refine (HSY.out 45 j1 _ h45 HB4.out.rd.here).mono ?_
            rintro e w5 ⟨rfl, hb5⟩
            have HB5 := Lib.hid (HB4.out.below hb5)
            clear hb5
            obtain ⟨⟨r0, r1, rf⟩, ⟨x0, x1, x2, x3⟩, ⟨y0, y1, y2, y3⟩, ⟨p0, p1, p2, p3⟩, z0, z1, z2, z3⟩ := HB5.out.facts
            have HB6 : Hid (BrAt w rb s c0 c1 c2 c3 (j1 + 1) none (w5.setCell ⟨rb, 1, none⟩ (.int .i64 ((j1 : Int) + 1)))) := Lib.hid (by have := HB5.out.at (j1 + 1); push_cast at this; exact this)
            go_wp2_with fail
            refine (HON.out (j1 + 1) _ hj11 HB6.out.rd.here).mono ?_
            rintro e w7 (⟨b, j2, ho2, hb2, hj3, hjs2, rfl, hw7⟩ | ⟨k, b, j2, ho2, hb2, hj3, hj4, rfl, hw7⟩)
            · have HB7 := Lib.hid (HB6.out.call hw7)
              clear hw7
              clear r0 r1 rf x0 x1 x2 x3 y0 y1 y2 y3 z0 z1 z2 z3 p0 p1 p2 p3
              by_cases hlow : b < a
              · have dg : decide ((b : Int) < (a : Int)) = true := by simp; omega
                have q2 := HB7.out.good2
                obtain ⟨⟨r0, r1, rf⟩, ⟨x0, x1, x2, x3⟩, ⟨y0, y1, y2, y3⟩, ⟨p0, p1, p2, p3⟩, z0, z1, z2, z3⟩ := HB7.out.facts
                go_wp2_with fail
                refine (HFL.out j2 j _ HB7.out.rd.here).mono ?_
                rintro e w8 ⟨rfl, hw8⟩
                have HB8 := Lib.hid (HB7.out.call hw8)
                clear hw8 q2
                clear r0 r1 rf x0 x1 x2 x3 y0 y1 y2 y3 z0 z1 z2 z3 p0 p1 p2 p3
                have HI : Hid (BrIn L i0 (j2) (c0, c1, c2, c3) (some (j))) := Lib.hid (HST.out.bad hg (itemS_low ho h45 ho2 hlow) (by omega) (by rw [HLZ.out]; omega))
                have HG2 : Hid (0 < gk - 1) := Lib.hid (by have := HG.out; rw [badM_none] at this; omega)
                clear HST HG
                have dk : decide ((j : Int) < 0) = false := by simp
                have q2 := HB8.out.bad2
                obtain ⟨⟨r0, r1, rf⟩, ⟨x0, x1, x2, x3⟩, ⟨y0, y1, y2, y3⟩, ⟨p0, p1, p2, p3⟩, z0, z1, z2, z3⟩ := HB8.out.facts
                go_wp2_with fail
                clear r0 r1 rf x0 x1 x2 x3 y0 y1 y2 y3 z0 z1 z2 z3 p0 p1 p2 p3
                clear q2
                go_loopw [10] (fun v10 wx => v10 = .int .i64 (a : Int) ∧ Hid (BrAt w rb s c0 c1 c2 c3 j2 (some (j)) wx)) (fun _ _ => 0)
                case atStart => exact ⟨rfl, HB8⟩
                case round =>
                  obtain ⟨rfl, HX⟩ := hrel
                  have q2 := HX.out.bad2
                  obtain ⟨⟨r0, r1, rf⟩, ⟨x0, x1, x2, x3⟩, ⟨y0, y1, y2, y3⟩, ⟨p0, p1, p2, p3⟩, z0, z1, z2, z3⟩ := HX.out.facts
                  have dab : decide ((a : Int) ≤ (b : Int)) = false := by simp; omega
                  go_wp2_with fail
                  go_roundg (gk - 1)
                  case rel => exact ⟨j2, c0, c1, c2, c3, some (j), hok, HI, HX, HG2⟩
                  all_goals (have := HG2.out; omega)
              · obtain ⟨⟨r0, r1, rf⟩, ⟨x0, x1, x2, x3⟩, ⟨y0, y1, y2, y3⟩, ⟨p0, p1, p2, p3⟩, z0, z1, z2, z3⟩ := HB7.out.facts
                have q2 := HB7.out.good2
                have dg : decide ((b : Int) < (a : Int)) = false := by simp <;> omega
                have HG2 : Hid (s.size - j2 + 1 < gk - 1) := Lib.hid (by have := HG.out; rw [badM_none] at this; omega)
                clear HG
                go_wp2_with fail
                clear r0 r1 rf x0 x1 x2 x3 y0 y1 y2 y3 z0 z1 z2 z3 p0 p1 p2 p3
                clear q2 dg
                go_loopw [10] (fun v10 wx => ∃ (t e0 e1 e2 e3 : Nat), a ≤ t ∧ t ≤ b + 1 ∧ v10 = .int .i64 (t : Int) ∧ okC (e0, e1, e2, e3) ∧ Hid ((e0, e1, e2, e3) = withs (c0, c1, c2, c3) a (t - a)) ∧ Hid (BrAt w rb s e0 e1 e2 e3 j2 none wx)) (fun v _ => b + 1 - (intOf v).toNat)
                case atStart => exact ⟨a, c0, c1, c2, c3, by omega, by omega, by go_num, hok, Lib.hid (by rw [Nat.sub_self]; rfl), HB7⟩
                case round =>
                  obtain ⟨t, e0, e1, e2, e3, ht1, ht2, rfl, hoke, HE, HBE⟩ := hrel
                  have q2 := HBE.out.good2
                  obtain ⟨⟨r0, r1, rf⟩, ⟨x0, x1, x2, x3⟩, ⟨y0, y1, y2, y3⟩, ⟨p0, p1, p2, p3⟩, z0, z1, z2, z3⟩ := HBE.out.facts
                  by_cases hlt : t < b + 1
                  · have dt : decide ((t : Int) ≤ (b : Int)) = true := by simp; omega
                    have ht8 : t < 256 := by omega
                    have HN : Hid (withB (e0, e1, e2, e3) t = withs (c0, c1, c2, c3) a (t + 1 - a)) := Lib.hid (by rw [HE.out, show t + 1 - a = (t - a) + 1 by omega, withs, show a + (t - a) = t by omega])
                    go_wp2_with fail
                    refine (HWT.out e0 e1 e2 e3 t _ hoke ht8).mono ?_
                    rintro e wy ⟨d0, d1, d2, d3, rfl, hd, hby⟩
                    have HD := Lib.hid hd
                    have HBY := Lib.hid (HBE.out.below hby)
                    clear hd hby q2
                    clear r0 r1 rf x0 x1 x2 x3 y0 y1 y2 y3 z0 z1 z2 z3 p0 p1 p2 p3
                    obtain ⟨⟨r0, r1, rf⟩, ⟨x0, x1, x2, x3⟩, ⟨y0, y1, y2, y3⟩, ⟨p0, p1, p2, p3⟩, z0, z1, z2, z3⟩ := HBY.out.facts
                    go_wp2_with fail
                    go_roundw
                    case rel =>
                      have hokd : okC (d0, d1, d2, d3) := by rw [HD.out]; exact okC_with hoke _
                      exact ⟨t + 1, d0, d1, d2, d3, by omega, by omega, by go_num, hokd, Lib.hid (by rw [HD.out, HN.out]), Lib.hid (HBY.out.put d0 d1 d2 d3)⟩
                    case measure => simp [intOf]; omega
                  · obtain rfl : t = b + 1 := by omega
                    have dt : decide (((b + 1 : Nat) : Int) ≤ (b : Int)) = false := by simp <;> omega
                    have HI : Hid (BrIn L i0 j2 (e0, e1, e2, e3) none) := Lib.hid (by rw [HE.out]; exact HST.out.more hok hg (itemS_two ho h45 ho2 hlow))
                    clear HST
                    go_wp2_with fail
                    go_roundg (gk - 1)
                    case rel => exact ⟨j2, e0, e1, e2, e3, none, hoke, HI, HBE, Lib.hid (by rw [badM_none]; exact HG2.out)⟩
                    all_goals (have := HG2.out; omega)
            · have HB7 := Lib.hid (HB6.out.call hw7)
              clear hw7
              clear r0 r1 rf x0 x1 x2 x3 y0 y1 y2 y3 z0 z1 z2 z3 p0 p1 p2 p3
              have HI : Hid (BrIn L i0 (j2) (c0, c1, c2, c3) (some (k))) := Lib.hid (HST.out.bad hg (itemS_bad2 ho h45 ho2) (by omega) (by rw [HLZ.out]; omega))
              have HG2 : Hid (0 < gk - 1) := Lib.hid (by have := HG.out; rw [badM_none] at this; omega)
              clear HST HG
              have dk : decide ((k : Int) < 0) = false := by simp
              have q2 := HB7.out.bad2
              obtain ⟨⟨r0, r1, rf⟩, ⟨x0, x1, x2, x3⟩, ⟨y0, y1, y2, y3⟩, ⟨p0, p1, p2, p3⟩, z0, z1, z2, z3⟩ := HB7.out.facts
              go_wp2_with fail
              clear r0 r1 rf x0 x1 x2 x3 y0 y1 y2 y3 z0 z1 z2 z3 p0 p1 p2 p3
              clear q2
              go_loopw [10] (fun v10 wx => v10 = .int .i64 (a : Int) ∧ Hid (BrAt w rb s c0 c1 c2 c3 j2 (some (k)) wx)) (fun _ _ => 0)
              case atStart => exact ⟨rfl, HB7⟩
              case round =>
                obtain ⟨rfl, HX⟩ := hrel
                have q2 := HX.out.bad2
                obtain ⟨⟨r0, r1, rf⟩, ⟨x0, x1, x2, x3⟩, ⟨y0, y1, y2, y3⟩, ⟨p0, p1, p2, p3⟩, z0, z1, z2, z3⟩ := HX.out.facts
                by_cases hab : a ≤ b
                · have dab : decide ((a : Int) ≤ (b : Int)) = true := by simp; omega
                  go_wp2_with fail
                  go_roundg (gk - 1)
                  case rel => exact ⟨j2, c0, c1, c2, c3, some (k), hok, HI, HX, HG2⟩
                  all_goals (have := HG2.out; omega)
                · have dab : decide ((a : Int) ≤ (b : Int)) = false := by simp; omega
                  go_wp2_with fail
                  go_roundg (gk - 1)
                  case rel => exact ⟨j2, c0, c1, c2, c3, some (k), hok, HI, HX, HG2⟩
                  all_goals (have := HG2.out; omega)
          · go_wp2_with fail
            refine (HSN.out 45 j1 _ hjs1 h45 HB4.out.rd.here).mono ?_
            rintro e w5 ⟨rfl, hb5⟩
            have HB5 := Lib.hid (HB4.out.below hb5)
            clear hb5
            obtain ⟨⟨r0, r1, rf⟩, ⟨x0, x1, x2, x3⟩, ⟨y0, y1, y2, y3⟩, ⟨p0, p1, p2, p3⟩, z0, z1, z2, z3⟩ := HB5.out.facts
            have q2 := HB5.out.good2
            have dg : decide ((a : Int) < (a : Int)) = false := by simp <;> omega
            have HG2 : Hid (s.size - j1 + 1 < gk - 1) := Lib.hid (by have := HG.out; rw [badM_none] at this; omega)
            clear HG
            go_wp2_with fail
            clear r0 r1 rf x0 x1 x2 x3 y0 y1 y2 y3 z0 z1 z2 z3 p0 p1 p2 p3
            clear q2 dg
            go_loopw [10] (fun v10 wx => ∃ (t e0 e1 e2 e3 : Nat), a ≤ t ∧ t ≤ a + 1 ∧ v10 = .int .i64 (t : Int) ∧ okC (e0, e1, e2, e3) ∧ Hid ((e0, e1, e2, e3) = withs (c0, c1, c2, c3) a (t - a)) ∧ Hid (BrAt w rb s e0 e1 e2 e3 j1 none wx)) (fun v _ => a + 1 - (intOf v).toNat)
            case atStart => exact ⟨a, c0, c1, c2, c3, by omega, by omega, by go_num, hok, Lib.hid (by rw [Nat.sub_self]; rfl), HB5⟩
            case round =>
              obtain ⟨t, e0, e1, e2, e3, ht1, ht2, rfl, hoke, HE, HBE⟩ := hrel
              have q2 := HBE.out.good2
              obtain ⟨⟨r0, r1, rf⟩, ⟨x0, x1, x2, x3⟩, ⟨y0, y1, y2, y3⟩, ⟨p0, p1, p2, p3⟩, z0, z1, z2, z3⟩ := HBE.out.facts
              by_cases hlt : t < a + 1
              · have dt : decide ((t : Int) ≤ (a : Int)) = true := by simp; omega
                have ht8 : t < 256 := by omega
                have HN : Hid (withB (e0, e1, e2, e3) t = withs (c0, c1, c2, c3) a (t + 1 - a)) := Lib.hid (by rw [HE.out, show t + 1 - a = (t - a) + 1 by omega, withs, show a + (t - a) = t by omega])
                go_wp2_with fail
                refine (HWT.out e0 e1 e2 e3 t _ hoke ht8).mono ?_
                rintro e wy ⟨d0, d1, d2, d3, rfl, hd, hby⟩
                have HD := Lib.hid hd
                have HBY := Lib.hid (HBE.out.below hby)
                clear hd hby q2
                clear r0 r1 rf x0 x1 x2 x3 y0 y1 y2 y3 z0 z1 z2 z3 p0 p1 p2 p3
                obtain ⟨⟨r0, r1, rf⟩, ⟨x0, x1, x2, x3⟩, ⟨y0, y1, y2, y3⟩, ⟨p0, p1, p2, p3⟩, z0, z1, z2, z3⟩ := HBY.out.facts
                go_wp2_with fail
                go_roundw
                case rel =>
                  have hokd : okC (d0, d1, d2, d3) := by rw [HD.out]; exact okC_with hoke _
                  exact ⟨t + 1, d0, d1, d2, d3, by omega, by omega, by go_num, hokd, Lib.hid (by rw [HD.out, HN.out]), Lib.hid (HBY.out.put d0 d1 d2 d3)⟩
                case measure => simp [intOf]; omega
              · obtain rfl : t = a + 1 := by omega
                have dt : decide (((a + 1 : Nat) : Int) ≤ (a : Int)) = false := by simp <;> omega
                have HI : Hid (BrIn L i0 j1 (e0, e1, e2, e3) none) := Lib.hid (by rw [HE.out]; exact HST.out.more hok hg (itemS_one ho h45))
                clear HST
                go_wp2_with fail
                go_roundg (gk - 1)
                case rel => exact ⟨j1, e0, e1, e2, e3, none, hoke, HI, HBE, Lib.hid (by rw [badM_none]; exact HG2.out)⟩
                all_goals (have := HG2.out; omega)
        · have HB4 := Lib.hid (HB3.out.call hw4)
          clear hw4
          clear r0 r1 rf x0 x1 x2 x3 y0 y1 y2 y3 z0 z1 z2 z3 p0 p1 p2 p3
          go_wp2_with fail
          refine (HSB.out 45 j1 k _ HB4.out.rd.here).mono ?_
          rintro e w5 ⟨rfl, hb5⟩
          have HB5 := Lib.hid (HB4.out.below hb5)
          clear hb5
          have HI : Hid (BrIn L i0 (j1) (c0, c1, c2, c3) (some (k))) := Lib.hid (HST.out.bad hg (itemS_bad1 ho) (by omega) (by rw [HLZ.out]; omega))
          have HG2 : Hid (0 < gk - 1) := Lib.hid (by have := HG.out; rw [badM_none] at this; omega)
          clear HST HG
          have dk : decide ((k : Int) < 0) = false := by simp
          have q2 := HB5.out.bad2
          obtain ⟨⟨r0, r1, rf⟩, ⟨x0, x1, x2, x3⟩, ⟨y0, y1, y2, y3⟩, ⟨p0, p1, p2, p3⟩, z0, z1, z2, z3⟩ := HB5.out.facts
          go_wp2_with fail
          clear r0 r1 rf x0 x1 x2 x3 y0 y1 y2 y3 z0 z1 z2 z3 p0 p1 p2 p3
          clear q2
          go_loopw [10] (fun v10 wx => v10 = .int .i64 (a : Int) ∧ Hid (BrAt w rb s c0 c1 c2 c3 j1 (some (k)) wx)) (fun _ _ => 0)
          case atStart => exact ⟨rfl, HB5⟩
          case round =>
            obtain ⟨rfl, HX⟩ := hrel
            have q2 := HX.out.bad2
            obtain ⟨⟨r0, r1, rf⟩, ⟨x0, x1, x2, x3⟩, ⟨y0, y1, y2, y3⟩, ⟨p0, p1, p2, p3⟩, z0, z1, z2, z3⟩ := HX.out.facts
            have dab : decide ((a : Int) ≤ (a : Int)) = true := by simp
            go_wp2_with fail
            go_roundg (gk - 1)
            case rel => exact ⟨j1, c0, c1, c2, c3, some (k), hok, HI, HX, HG2⟩
            all_goals (have := HG2.out; omega)

set_option maxRecDepth 100000 in
set_option maxHeartbeats 8000000 in
theorem rbr_is {rb : Nat} {s : ByteArray} {i : Nat} (w : World) (h : RW w rb s i none w) (hs : s.size ≤ 200) (hi : i ≤ s.size) (h94 : s.data.toList[i]? ≠ some 94) :
    Calls Tryz.prog 92 #[.pointer (some ⟨rb, 0, none⟩)] w (RBrIs (bracketS s.data.toList i) rb s i w) := by
  obtain ⟨L, hL⟩ : ∃ L, L = s.data.toList := ⟨_, rfl⟩
  have hLZ : L.length = s.size := by rw [hL]; simp
  have HLZ := Lib.hid hLZ
  have HSY : Hid (∀ (c : UInt8) (j : Nat) W, L[j]? = some c → RW W rb s j none W → Calls Tryz.prog 64 #[.pointer (some ⟨rb, 0, none⟩), .int .u8 (c.toNat : Int)] W (RSeesIs true W)) := Lib.hid fun c j W hc hw => rsees_yes W hw hs (by rw [← hL]; exact hc)
  have HSN : Hid (∀ (c : UInt8) (j : Nat) W, j ≤ s.size → L[j]? ≠ some c → RW W rb s j none W → Calls Tryz.prog 64 #[.pointer (some ⟨rb, 0, none⟩), .int .u8 (c.toNat : Int)] W (RSeesIs false W)) := Lib.hid fun c j W hj hc hw => rsees_no W hw hs hj (by rw [← hL]; exact hc)
  have HSB : Hid (∀ (c j k : Nat) W, RW W rb s j (some k) W → Calls Tryz.prog 64 #[.pointer (some ⟨rb, 0, none⟩), .int .u8 (c : Int)] W (RSeesIs false W)) := Lib.hid fun c j k W hw => rsees_bad c W hw
  have HON : Hid (∀ j W, j ≤ s.size → RW W rb s j none W → Calls Tryz.prog 94 #[.pointer (some ⟨rb, 0, none⟩)] W (ROneIs (oneS L j) rb s j W)) := Lib.hid fun j W hj hw => by rw [hL]; exact rone_c W hw hs hj
  have HFL : Hid (∀ j (k : Nat) W, RW W rb s j none W → Calls Tryz.prog 40 #[.pointer (some ⟨rb, 0, none⟩), .int .i64 (k : Int)] W (RFailIs rb s j (some k) W)) := Lib.hid fun j k W hw => rfail_good W hw k
  have HWT : Hid (∀ (c0 c1 c2 c3 b : Nat) (W : World), okC (c0, c1, c2, c3) → b < 256 → Calls Tryz.prog 79 #[.agg #[.int .u64 (c0 : Int), .int .u64 (c1 : Int), .int .u64 (c2 : Int), .int .u64 (c3 : Int)], .int .i64 (b : Int)] W (ClsIs (withB (c0, c1, c2, c3) b) W)) := Lib.hid fun c0 c1 c2 c3 b W h1 h2 => RWith_any c0 c1 c2 c3 b W h1 h2
  unfold RSeesIs at HSY HSN HSB
  unfold ROneIs ROneAt at HON
  unfold RFailIs at HFL
  unfold ClsIs at HWT
  have HB0 := Lib.hid (BrAt.start h)
  have hrb := h.lt
  have h94' : L[i]? ≠ some 94 := by rw [hL]; exact h94
  have hqo : ∀ c j, itemsS L i zc = .ok c j → bracketS s.data.toList i = .ok (c) j := by
    intro c j hq
    unfold bracketS
    rw [if_neg h94, ← hL, hq]
  have hqb : ∀ k, itemsS L i zc = .bad k → bracketS s.data.toList i = .bad k := by
    intro k hq
    unfold bracketS
    rw [if_neg h94, ← hL, hq]
  obtain ⟨Q, hQ⟩ : ∃ Q, Q = bracketS s.data.toList i := ⟨_, rfl⟩
  rw [← hQ] at hqo hqb ⊢
  obtain ⟨i0, hi0⟩ : ∃ i0, i0 = i := ⟨_, rfl⟩
  have hi0s : i ≤ i0 ∧ i0 ≤ i + 1 ∧ i0 ≤ s.size := by omega
  have HI0 := Lib.hid hi0
  rw [← hi0] at hqo hqb
  have HQO := Lib.hid hqo
  have HQB := Lib.hid hqb
  have H94 := Lib.hid h94'
  obtain ⟨hi0a, hi0b, hi0c⟩ := hi0s
  clear h h94 h94' hL hLZ hQ hi0 hqo hqb
  unfold RBrIs
  go_enter Tryz.func92, Tryz.ntmps92
  go_wp2_with fail
  refine (HSN.out 94 i _ (by omega) H94.out HB0.out.rd.here).mono ?_
  rintro e w1 ⟨rfl, hb1⟩
  have HB1 := Lib.hid (HB0.out.below hb1)
  clear hb1
  go_wp2_with fail
  have HB2 : Hid (BrAt w rb s 0 0 0 0 i0 none w1) := Lib.hid (by rw [HI0.out]; exact HB1.out)
  go_loopg [5] (s.size + 2) (fun gk _ wr => ∃ (j c0 c1 c2 c3 : Nat) (bad : Option Nat), okC (c0, c1, c2, c3) ∧ Hid (BrIn L i0 j (c0, c1, c2, c3) bad) ∧ Hid (BrAt w rb s c0 c1 c2 c3 j bad wr) ∧ Hid (badM bad (s.size - j) < gk))
  case atStart => exact ⟨i0, 0, 0, 0, 0, none, okC_zc, Lib.hid ⟨rfl, Nat.le_refl _, by rw [HLZ.out]; exact hi0c⟩, HB2, Lib.hid (by rw [badM_none]; omega)⟩
  case round =>
    obtain ⟨j, c0, c1, c2, c3, bad, hok, HST, HB, HG⟩ := hrel
    clear HB0 HB1 HB2
    cases bad with
    | some k =>
      have q2 := HB.out.bad2
      have dk : decide ((k : Int) < 0) = false := by simp
      have HE : Hid (Q = .bad k ∧ i ≤ j ∧ j ≤ s.size + 1) := Lib.hid ⟨HQB.out _ HST.out.1, by have := HST.out.2.1; omega, by have := HST.out.2.2; rw [HLZ.out] at this; exact this⟩
      clear HG HST
      obtain ⟨⟨r0, r1, rf⟩, ⟨x0, x1, x2, x3⟩, ⟨y0, y1, y2, y3⟩, ⟨p0, p1, p2, p3⟩, z0, z1, z2, z3⟩ := HB.out.facts
      go_wp2_with fail
      obtain ⟨hres, hrw⟩ := HB.out.res (.int .u64 (c0 : Int)) (.int .u64 (c1 : Int)) (.int .u64 (c2 : Int)) (.int .u64 (c3 : Int))
      refine bodyPost_ret (v := .agg #[.int .u64 (c0 : Int), .int .u64 (c1 : Int), .int .u64 (c2 : Int), .int .u64 (c3 : Int)]) ?_ rfl ?_
      · obtain ⟨h0, h1, h2, h3⟩ := (Blk4 hres).1
        simp [results, Tryz.results92, go_sem, h0, h1, h2, h3]
      · exact ⟨c0, c1, c2, c3, _, _, rfl, hok, hrw, .inr ⟨k, rfl, HE.out.1, HE.out.2.1, HE.out.2.2⟩⟩
    | none =>
      have q2 := HB.out.good2
      have hjL := HST.out.2.2
      have hij := HST.out.2.1
      rw [HLZ.out] at hjL
      obtain ⟨⟨r0, r1, rf⟩, ⟨x0, x1, x2, x3⟩, ⟨y0, y1, y2, y3⟩, ⟨p0, p1, p2, p3⟩, z0, z1, z2, z3⟩ := HB.out.facts
      by_cases hg : L[j]? = some 93
      · have HE : Hid (Q = .ok ((c0, c1, c2, c3)) (j + 1)) := Lib.hid (HQO.out _ _ (HST.out.end_ hg))
        have hj1 : j + 1 ≤ s.size := by have := getE_lt hg; rw [HLZ.out] at this; omega
        go_wp2_with fail
        refine (HSY.out 93 j _ hg HB.out.rd.here).mono ?_
        rintro e w3 ⟨rfl, hb3⟩
        have HB3 := Lib.hid (HB.out.below hb3)
        clear hb3 q2 HG HST
        clear r0 r1 rf x0 x1 x2 x3 y0 y1 y2 y3 z0 z1 z2 z3 p0 p1 p2 p3
        obtain ⟨⟨r0, r1, rf⟩, ⟨x0, x1, x2, x3⟩, ⟨y0, y1, y2, y3⟩, ⟨p0, p1, p2, p3⟩, z0, z1, z2, z3⟩ := HB3.out.facts
        have HB4 : Hid (BrAt w rb s c0 c1 c2 c3 (j + 1) none (w3.setCell ⟨rb, 1, none⟩ (.int .i64 ((j : Int) + 1)))) := Lib.hid (by have := HB3.out.at (j + 1); push_cast at this; exact this)
        clear r0 r1 rf x0 x1 x2 x3 y0 y1 y2 y3 z0 z1 z2 z3 p0 p1 p2 p3
        obtain ⟨⟨r0, r1, rf⟩, ⟨x0, x1, x2, x3⟩, ⟨y0, y1, y2, y3⟩, ⟨p0, p1, p2, p3⟩, z0, z1, z2, z3⟩ := HB3.out.facts
        go_wp2_with fail
        obtain ⟨hres, hrw⟩ := HB4.out.res (.int .u64 (c0 : Int)) (.int .u64 (c1 : Int)) (.int .u64 (c2 : Int)) (.int .u64 (c3 : Int))
        refine bodyPost_ret (v := .agg #[.int .u64 (c0 : Int), .int .u64 (c1 : Int), .int .u64 (c2 : Int), .int .u64 (c3 : Int)]) ?_ rfl ?_
        · obtain ⟨h0, h1, h2, h3⟩ := (Blk4 hres).1
          simp [results, Tryz.results92, go_sem, h0, h1, h2, h3]
        · exact ⟨c0, c1, c2, c3, _, _, rfl, hok, hrw, .inl ⟨rfl, by exact HE.out, by omega, hj1⟩⟩
      · go_wp2_with fail
        refine (HSN.out 93 j _ hjL hg HB.out.rd.here).mono ?_
        rintro e w3 ⟨rfl, hb3⟩
        have HB3 := Lib.hid (HB.out.below hb3)
        clear hb3 q2
        clear r0 r1 rf x0 x1 x2 x3 y0 y1 y2 y3 z0 z1 z2 z3 p0 p1 p2 p3
        obtain ⟨⟨r0, r1, rf⟩, ⟨x0, x1, x2, x3⟩, ⟨y0, y1, y2, y3⟩, ⟨p0, p1, p2, p3⟩, z0, z1, z2, z3⟩ := HB3.out.facts
        go_wp2_with fail
        refine (HON.out j _ hjL HB3.out.rd.here).mono ?_
        rintro e w4 (⟨a, j1, ho, ha, hj1, hjs1, rfl, hw4⟩ | ⟨k, a, j1, ho, ha, hj1, hj2, rfl, hw4⟩)
        · have HB4 := Lib.hid (HB3.out.call hw4)
          clear hw4
          clear r0 r1 rf x0 x1 x2 x3 y0 y1 y2 y3 z0 z1 z2 z3 p0 p1 p2 p3
          by_cases h45 : L[j1]? = some 45
          · have hj11 : j1 + 1 ≤ s.size := by have := getE_lt h45; rw [HLZ.out] at this; omega
            go_wp2_with fail
            refine (HSY.out 45 j1 _ h45 HB4.out.rd.here).mono ?_
            rintro e w5 ⟨rfl, hb5⟩
            have HB5 := Lib.hid (HB4.out.below hb5)
            clear hb5
            obtain ⟨⟨r0, r1, rf⟩, ⟨x0, x1, x2, x3⟩, ⟨y0, y1, y2, y3⟩, ⟨p0, p1, p2, p3⟩, z0, z1, z2, z3⟩ := HB5.out.facts
            have HB6 : Hid (BrAt w rb s c0 c1 c2 c3 (j1 + 1) none (w5.setCell ⟨rb, 1, none⟩ (.int .i64 ((j1 : Int) + 1)))) := Lib.hid (by have := HB5.out.at (j1 + 1); push_cast at this; exact this)
            go_wp2_with fail
            refine (HON.out (j1 + 1) _ hj11 HB6.out.rd.here).mono ?_
            rintro e w7 (⟨b, j2, ho2, hb2, hj3, hjs2, rfl, hw7⟩ | ⟨k, b, j2, ho2, hb2, hj3, hj4, rfl, hw7⟩)
            · have HB7 := Lib.hid (HB6.out.call hw7)
              clear hw7
              clear r0 r1 rf x0 x1 x2 x3 y0 y1 y2 y3 z0 z1 z2 z3 p0 p1 p2 p3
              by_cases hlow : b < a
              · have dg : decide ((b : Int) < (a : Int)) = true := by simp; omega
                have q2 := HB7.out.good2
                obtain ⟨⟨r0, r1, rf⟩, ⟨x0, x1, x2, x3⟩, ⟨y0, y1, y2, y3⟩, ⟨p0, p1, p2, p3⟩, z0, z1, z2, z3⟩ := HB7.out.facts
                go_wp2_with fail
                refine (HFL.out j2 j _ HB7.out.rd.here).mono ?_
                rintro e w8 ⟨rfl, hw8⟩
                have HB8 := Lib.hid (HB7.out.call hw8)
                clear hw8 q2
                clear r0 r1 rf x0 x1 x2 x3 y0 y1 y2 y3 z0 z1 z2 z3 p0 p1 p2 p3
                have HI : Hid (BrIn L i0 (j2) (c0, c1, c2, c3) (some (j))) := Lib.hid (HST.out.bad hg (itemS_low ho h45 ho2 hlow) (by omega) (by rw [HLZ.out]; omega))
                have HG2 : Hid (0 < gk - 1) := Lib.hid (by have := HG.out; rw [badM_none] at this; omega)
                clear HST HG
                have dk : decide ((j : Int) < 0) = false := by simp
                have q2 := HB8.out.bad2
                obtain ⟨⟨r0, r1, rf⟩, ⟨x0, x1, x2, x3⟩, ⟨y0, y1, y2, y3⟩, ⟨p0, p1, p2, p3⟩, z0, z1, z2, z3⟩ := HB8.out.facts
                go_wp2_with fail
                clear r0 r1 rf x0 x1 x2 x3 y0 y1 y2 y3 z0 z1 z2 z3 p0 p1 p2 p3
                clear q2
                go_loopw [10] (fun v10 wx => v10 = .int .i64 (a : Int) ∧ Hid (BrAt w rb s c0 c1 c2 c3 j2 (some (j)) wx)) (fun _ _ => 0)
                case atStart => exact ⟨rfl, HB8⟩
                case round =>
                  obtain ⟨rfl, HX⟩ := hrel
                  have q2 := HX.out.bad2
                  obtain ⟨⟨r0, r1, rf⟩, ⟨x0, x1, x2, x3⟩, ⟨y0, y1, y2, y3⟩, ⟨p0, p1, p2, p3⟩, z0, z1, z2, z3⟩ := HX.out.facts
                  have dab : decide ((a : Int) ≤ (b : Int)) = false := by simp; omega
                  go_wp2_with fail
                  go_roundg (gk - 1)
                  case rel => exact ⟨j2, c0, c1, c2, c3, some (j), hok, HI, HX, HG2⟩
                  all_goals (have := HG2.out; omega)
              · obtain ⟨⟨r0, r1, rf⟩, ⟨x0, x1, x2, x3⟩, ⟨y0, y1, y2, y3⟩, ⟨p0, p1, p2, p3⟩, z0, z1, z2, z3⟩ := HB7.out.facts
                have q2 := HB7.out.good2
                have dg : decide ((b : Int) < (a : Int)) = false := by simp <;> omega
                have HG2 : Hid (s.size - j2 + 1 < gk - 1) := Lib.hid (by have := HG.out; rw [badM_none] at this; omega)
                clear HG
                go_wp2_with fail
                clear r0 r1 rf x0 x1 x2 x3 y0 y1 y2 y3 z0 z1 z2 z3 p0 p1 p2 p3
                clear q2 dg
                go_loopw [10] (fun v10 wx => ∃ (t e0 e1 e2 e3 : Nat), a ≤ t ∧ t ≤ b + 1 ∧ v10 = .int .i64 (t : Int) ∧ okC (e0, e1, e2, e3) ∧ Hid ((e0, e1, e2, e3) = withs (c0, c1, c2, c3) a (t - a)) ∧ Hid (BrAt w rb s e0 e1 e2 e3 j2 none wx)) (fun v _ => b + 1 - (intOf v).toNat)
                case atStart => exact ⟨a, c0, c1, c2, c3, by omega, by omega, by go_num, hok, Lib.hid (by rw [Nat.sub_self]; rfl), HB7⟩
                case round =>
                  obtain ⟨t, e0, e1, e2, e3, ht1, ht2, rfl, hoke, HE, HBE⟩ := hrel
                  have q2 := HBE.out.good2
                  obtain ⟨⟨r0, r1, rf⟩, ⟨x0, x1, x2, x3⟩, ⟨y0, y1, y2, y3⟩, ⟨p0, p1, p2, p3⟩, z0, z1, z2, z3⟩ := HBE.out.facts
                  by_cases hlt : t < b + 1
                  · have dt : decide ((t : Int) ≤ (b : Int)) = true := by simp; omega
                    have ht8 : t < 256 := by omega
                    have HN : Hid (withB (e0, e1, e2, e3) t = withs (c0, c1, c2, c3) a (t + 1 - a)) := Lib.hid (by rw [HE.out, show t + 1 - a = (t - a) + 1 by omega, withs, show a + (t - a) = t by omega])
                    go_wp2_with fail
                    refine (HWT.out e0 e1 e2 e3 t _ hoke ht8).mono ?_
                    rintro e wy ⟨d0, d1, d2, d3, rfl, hd, hby⟩
                    have HD := Lib.hid hd
                    have HBY := Lib.hid (HBE.out.below hby)
                    clear hd hby q2
                    clear r0 r1 rf x0 x1 x2 x3 y0 y1 y2 y3 z0 z1 z2 z3 p0 p1 p2 p3
                    obtain ⟨⟨r0, r1, rf⟩, ⟨x0, x1, x2, x3⟩, ⟨y0, y1, y2, y3⟩, ⟨p0, p1, p2, p3⟩, z0, z1, z2, z3⟩ := HBY.out.facts
                    go_wp2_with fail
                    go_roundw
                    case rel =>
                      have hokd : okC (d0, d1, d2, d3) := by rw [HD.out]; exact okC_with hoke _
                      exact ⟨t + 1, d0, d1, d2, d3, by omega, by omega, by go_num, hokd, Lib.hid (by rw [HD.out, HN.out]), Lib.hid (HBY.out.put d0 d1 d2 d3)⟩
                    case measure => simp [intOf]; omega
                  · obtain rfl : t = b + 1 := by omega
                    have dt : decide (((b + 1 : Nat) : Int) ≤ (b : Int)) = false := by simp <;> omega
                    have HI : Hid (BrIn L i0 j2 (e0, e1, e2, e3) none) := Lib.hid (by rw [HE.out]; exact HST.out.more hok hg (itemS_two ho h45 ho2 hlow))
                    clear HST
                    go_wp2_with fail
                    go_roundg (gk - 1)
                    case rel => exact ⟨j2, e0, e1, e2, e3, none, hoke, HI, HBE, Lib.hid (by rw [badM_none]; exact HG2.out)⟩
                    all_goals (have := HG2.out; omega)
            · have HB7 := Lib.hid (HB6.out.call hw7)
              clear hw7
              clear r0 r1 rf x0 x1 x2 x3 y0 y1 y2 y3 z0 z1 z2 z3 p0 p1 p2 p3
              have HI : Hid (BrIn L i0 (j2) (c0, c1, c2, c3) (some (k))) := Lib.hid (HST.out.bad hg (itemS_bad2 ho h45 ho2) (by omega) (by rw [HLZ.out]; omega))
              have HG2 : Hid (0 < gk - 1) := Lib.hid (by have := HG.out; rw [badM_none] at this; omega)
              clear HST HG
              have dk : decide ((k : Int) < 0) = false := by simp
              have q2 := HB7.out.bad2
              obtain ⟨⟨r0, r1, rf⟩, ⟨x0, x1, x2, x3⟩, ⟨y0, y1, y2, y3⟩, ⟨p0, p1, p2, p3⟩, z0, z1, z2, z3⟩ := HB7.out.facts
              go_wp2_with fail
              clear r0 r1 rf x0 x1 x2 x3 y0 y1 y2 y3 z0 z1 z2 z3 p0 p1 p2 p3
              clear q2
              go_loopw [10] (fun v10 wx => v10 = .int .i64 (a : Int) ∧ Hid (BrAt w rb s c0 c1 c2 c3 j2 (some (k)) wx)) (fun _ _ => 0)
              case atStart => exact ⟨rfl, HB7⟩
              case round =>
                obtain ⟨rfl, HX⟩ := hrel
                have q2 := HX.out.bad2
                obtain ⟨⟨r0, r1, rf⟩, ⟨x0, x1, x2, x3⟩, ⟨y0, y1, y2, y3⟩, ⟨p0, p1, p2, p3⟩, z0, z1, z2, z3⟩ := HX.out.facts
                by_cases hab : a ≤ b
                · have dab : decide ((a : Int) ≤ (b : Int)) = true := by simp; omega
                  go_wp2_with fail
                  go_roundg (gk - 1)
                  case rel => exact ⟨j2, c0, c1, c2, c3, some (k), hok, HI, HX, HG2⟩
                  all_goals (have := HG2.out; omega)
                · have dab : decide ((a : Int) ≤ (b : Int)) = false := by simp; omega
                  go_wp2_with fail
                  go_roundg (gk - 1)
                  case rel => exact ⟨j2, c0, c1, c2, c3, some (k), hok, HI, HX, HG2⟩
                  all_goals (have := HG2.out; omega)
          · go_wp2_with fail
            refine (HSN.out 45 j1 _ hjs1 h45 HB4.out.rd.here).mono ?_
            rintro e w5 ⟨rfl, hb5⟩
            have HB5 := Lib.hid (HB4.out.below hb5)
            clear hb5
            obtain ⟨⟨r0, r1, rf⟩, ⟨x0, x1, x2, x3⟩, ⟨y0, y1, y2, y3⟩, ⟨p0, p1, p2, p3⟩, z0, z1, z2, z3⟩ := HB5.out.facts
            have q2 := HB5.out.good2
            have dg : decide ((a : Int) < (a : Int)) = false := by simp <;> omega
            have HG2 : Hid (s.size - j1 + 1 < gk - 1) := Lib.hid (by have := HG.out; rw [badM_none] at this; omega)
            clear HG
            go_wp2_with fail
            clear r0 r1 rf x0 x1 x2 x3 y0 y1 y2 y3 z0 z1 z2 z3 p0 p1 p2 p3
            clear q2 dg
            go_loopw [10] (fun v10 wx => ∃ (t e0 e1 e2 e3 : Nat), a ≤ t ∧ t ≤ a + 1 ∧ v10 = .int .i64 (t : Int) ∧ okC (e0, e1, e2, e3) ∧ Hid ((e0, e1, e2, e3) = withs (c0, c1, c2, c3) a (t - a)) ∧ Hid (BrAt w rb s e0 e1 e2 e3 j1 none wx)) (fun v _ => a + 1 - (intOf v).toNat)
            case atStart => exact ⟨a, c0, c1, c2, c3, by omega, by omega, by go_num, hok, Lib.hid (by rw [Nat.sub_self]; rfl), HB5⟩
            case round =>
              obtain ⟨t, e0, e1, e2, e3, ht1, ht2, rfl, hoke, HE, HBE⟩ := hrel
              have q2 := HBE.out.good2
              obtain ⟨⟨r0, r1, rf⟩, ⟨x0, x1, x2, x3⟩, ⟨y0, y1, y2, y3⟩, ⟨p0, p1, p2, p3⟩, z0, z1, z2, z3⟩ := HBE.out.facts
              by_cases hlt : t < a + 1
              · have dt : decide ((t : Int) ≤ (a : Int)) = true := by simp; omega
                have ht8 : t < 256 := by omega
                have HN : Hid (withB (e0, e1, e2, e3) t = withs (c0, c1, c2, c3) a (t + 1 - a)) := Lib.hid (by rw [HE.out, show t + 1 - a = (t - a) + 1 by omega, withs, show a + (t - a) = t by omega])
                go_wp2_with fail
                refine (HWT.out e0 e1 e2 e3 t _ hoke ht8).mono ?_
                rintro e wy ⟨d0, d1, d2, d3, rfl, hd, hby⟩
                have HD := Lib.hid hd
                have HBY := Lib.hid (HBE.out.below hby)
                clear hd hby q2
                clear r0 r1 rf x0 x1 x2 x3 y0 y1 y2 y3 z0 z1 z2 z3 p0 p1 p2 p3
                obtain ⟨⟨r0, r1, rf⟩, ⟨x0, x1, x2, x3⟩, ⟨y0, y1, y2, y3⟩, ⟨p0, p1, p2, p3⟩, z0, z1, z2, z3⟩ := HBY.out.facts
                go_wp2_with fail
                go_roundw
                case rel =>
                  have hokd : okC (d0, d1, d2, d3) := by rw [HD.out]; exact okC_with hoke _
                  exact ⟨t + 1, d0, d1, d2, d3, by omega, by omega, by go_num, hokd, Lib.hid (by rw [HD.out, HN.out]), Lib.hid (HBY.out.put d0 d1 d2 d3)⟩
                case measure => simp [intOf]; omega
              · obtain rfl : t = a + 1 := by omega
                have dt : decide (((a + 1 : Nat) : Int) ≤ (a : Int)) = false := by simp <;> omega
                have HI : Hid (BrIn L i0 j1 (e0, e1, e2, e3) none) := Lib.hid (by rw [HE.out]; exact HST.out.more hok hg (itemS_one ho h45))
                clear HST
                go_wp2_with fail
                go_roundg (gk - 1)
                case rel => exact ⟨j1, e0, e1, e2, e3, none, hoke, HI, HBE, Lib.hid (by rw [badM_none]; exact HG2.out)⟩
                all_goals (have := HG2.out; omega)
        · have HB4 := Lib.hid (HB3.out.call hw4)
          clear hw4
          clear r0 r1 rf x0 x1 x2 x3 y0 y1 y2 y3 z0 z1 z2 z3 p0 p1 p2 p3
          go_wp2_with fail
          refine (HSB.out 45 j1 k _ HB4.out.rd.here).mono ?_
          rintro e w5 ⟨rfl, hb5⟩
          have HB5 := Lib.hid (HB4.out.below hb5)
          clear hb5
          have HI : Hid (BrIn L i0 (j1) (c0, c1, c2, c3) (some (k))) := Lib.hid (HST.out.bad hg (itemS_bad1 ho) (by omega) (by rw [HLZ.out]; omega))
          have HG2 : Hid (0 < gk - 1) := Lib.hid (by have := HG.out; rw [badM_none] at this; omega)
          clear HST HG
          have dk : decide ((k : Int) < 0) = false := by simp
          have q2 := HB5.out.bad2
          obtain ⟨⟨r0, r1, rf⟩, ⟨x0, x1, x2, x3⟩, ⟨y0, y1, y2, y3⟩, ⟨p0, p1, p2, p3⟩, z0, z1, z2, z3⟩ := HB5.out.facts
          go_wp2_with fail
          clear r0 r1 rf x0 x1 x2 x3 y0 y1 y2 y3 z0 z1 z2 z3 p0 p1 p2 p3
          clear q2
          go_loopw [10] (fun v10 wx => v10 = .int .i64 (a : Int) ∧ Hid (BrAt w rb s c0 c1 c2 c3 j1 (some (k)) wx)) (fun _ _ => 0)
          case atStart => exact ⟨rfl, HB5⟩
          case round =>
            obtain ⟨rfl, HX⟩ := hrel
            have q2 := HX.out.bad2
            obtain ⟨⟨r0, r1, rf⟩, ⟨x0, x1, x2, x3⟩, ⟨y0, y1, y2, y3⟩, ⟨p0, p1, p2, p3⟩, z0, z1, z2, z3⟩ := HX.out.facts
            have dab : decide ((a : Int) ≤ (a : Int)) = true := by simp
            go_wp2_with fail
            go_roundg (gk - 1)
            case rel => exact ⟨j1, c0, c1, c2, c3, some (k), hok, HI, HX, HG2⟩
            all_goals (have := HG2.out; omega)
theorem rbr_c {rb : Nat} {s : ByteArray} {i : Nat} (w : World) (h : RW w rb s i none w) (hs : s.size ≤ 200) (hi : i ≤ s.size) :
    Calls Tryz.prog 92 #[.pointer (some ⟨rb, 0, none⟩)] w (RBrIs (bracketS s.data.toList i) rb s i w) := by
  by_cases h94 : s.data.toList[i]? = some 94
  · exact rbr_not w h hs hi h94
  · exact rbr_is w h hs hi h94
end Go.Proofs.YthcahjnniendnacGreatDoor
