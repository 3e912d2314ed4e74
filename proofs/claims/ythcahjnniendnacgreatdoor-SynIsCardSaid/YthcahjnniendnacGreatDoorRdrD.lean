/-
  Walks of the document's reader: an atom with its signs. (Printed by gen-rdrd.py.)
-/
import Derived.Test.YthcahjnniendnacGreatDoorGWd
import Derived.Test.YthcahjnniendnacGreatDoorRdrC
import Derived.Deep.CutBlock
import Derived.Deep.CutRange
import Derived.Deep.DeepCutAuto
namespace Wf
/-- Where the signs of an atom are being read. -/
def SgIn (s : List UInt8) (i j : Nat) (bad : Option Nat) (l : List Nd) : Prop := match bad with
  | none => ∃ u, l = flat u ∧ okT u ∧ atomR s i = .ok (signsS s j u).1 (signsS s j u).2 ∧ i < j ∧ j ≤ s.length ∧ l.length + 1 + 2 * i ≤ 2 * j
  | some k => OutIs (atomR s i) s i 0 j (some k) l
theorem SgIn.of_ok {s : List UInt8} {i j : Nat} {u : Rx} (hi : i ≤ s.length) (h : atomS s i = .ok u j) : SgIn s i j none (flat u) := by
  obtain ⟨g1, g2, g3, g4⟩ := (read_ok _ i (Nat.le_refl _) hi).1 _ _ h
  exact ⟨u, rfl, g3, by unfold atomR; rw [h], g1, g2, g4⟩
theorem SgIn.of_bad {s : List UInt8} {i j k : Nat} {l : List Nd} (h : atomS s i = .bad k) (hl : 0 < l.length) (h1 : l.length + 2 * i ≤ 2 * s.length) (h2 : j + i ≤ 2 * s.length + 3) : SgIn s i j (some k) l :=
  ⟨hl, by unfold atomR; rw [h], h1, h2⟩
theorem SgIn.len {s : List UInt8} {i j : Nat} {bad : Option Nat} {l : List Nd} (h : SgIn s i j bad l) : l.length ≤ 2 * s.length ∧ j ≤ 2 * s.length + 3 := by
  cases bad with
  | none => obtain ⟨u, _, _, _, h1, h2, h3⟩ := h; omega
  | some k => obtain ⟨_, _, h1, h2⟩ := h; omega
theorem SgIn.out {s : List UInt8} {i j : Nat} {l : List Nd} (h : SgIn s i j none l) (hg : ∀ c, s[j]? = some c → c ≠ 42 ∧ c ≠ 43 ∧ c ≠ 63) : OutIs (atomR s i) s i 0 j none l := by
  obtain ⟨u, rfl, hok, ha, h1, h2, h3⟩ := h
  rw [signsS_end u hg] at ha
  exact ⟨flat_pos u, u, ha, rfl, by omega, h2, by omega⟩
theorem atomS_atR {s : List UInt8} {i : Nat} {c : UInt8} (h : s[i]? = some c) : atomS s i =
    if c = 40 then
      match orS s (i + 1) with
      | .bad k => .bad k
      | .ok t j => if s[j]? = some 41 then .ok t (j + 1) else .bad j
    else if c = 91 then
      match bracketS s (i + 1) with
      | .bad k => .bad k
      | .ok c j => .ok (.byte c) j
    else if c = 46 then .ok (.byte dotC) (i + 1)
    else if c = 94 then .ok .bgn (i + 1)
    else if c = 36 then .ok .fin (i + 1)
    else match oneS s i with
      | .bad k => .bad k
      | .ok b j => .ok (.byte (withB zc b)) j := by
  obtain ⟨hi, he⟩ := List.getElem?_eq_some_iff.1 h
  rw [atomS, dif_pos hi, he]
  rfl
theorem atomS_oneR {s : List UInt8} {i : Nat} (h1 : s[i]? ≠ some 40) (h2 : s[i]? ≠ some 91) (h3 : s[i]? ≠ some 46) (h4 : s[i]? ≠ some 94) (h5 : s[i]? ≠ some 36) : atomS s i = match oneS s i with
      | .bad k => .bad k
      | .ok b j => .ok (.byte (withB zc b)) j := by
  cases h : s[i]? with
  | none =>
    have := List.getElem?_eq_none_iff.1 h
    rw [atomS, dif_neg (by omega)]
    unfold oneS
    rw [h]
  | some c =>
    rw [h] at h1 h2 h3 h4 h5
    rw [atomS_atR h, if_neg (fun e => h1 (by rw [e])), if_neg (fun e => h2 (by rw [e])), if_neg (fun e => h3 (by rw [e])), if_neg (fun e => h4 (by rw [e])), if_neg (fun e => h5 (by rw [e]))]
theorem okT_un {u v : Rx} {op : Int} (e : flat v = ⟨op, zc⟩ :: flat u) (h : okT u) : okT v := by
  intro n hn
  rw [e] at hn
  rcases List.mem_cons.1 hn with rfl | hn
  · exact okC_zc
  · exact h n hn
theorem SgIn.more {s : List UInt8} {i j : Nat} {l : List Nd} (h : SgIn s i j none l) (op : Int) (hg : (s[j]? = some 42 ∧ op = 5) ∨ (s[j]? = some 43 ∧ op = 6) ∨ (s[j]? = some 63 ∧ op = 7)) : SgIn s i (j + 1) none (⟨op, zc⟩ :: l) := by
  obtain ⟨u, rfl, hok, ha, h1, h2, h3⟩ := h
  rcases hg with ⟨hg, rfl⟩ | ⟨hg, rfl⟩ | ⟨hg, rfl⟩
  · have := getE_lt hg
    exact ⟨.star u, rfl, okT_un rfl hok, by rw [ha, signsS_star u hg], by omega, by omega, by simp only [List.length_cons]; omega⟩
  · have := getE_lt hg
    exact ⟨.plus u, rfl, okT_un rfl hok, by rw [ha, signsS_plus u hg], by omega, by omega, by simp only [List.length_cons]; omega⟩
  · have := getE_lt hg
    exact ⟨.opt u, rfl, okT_un rfl hok, by rw [ha, signsS_opt u hg], by omega, by omega, by simp only [List.length_cons]; omega⟩
end Wf
namespace Go.Proofs.YthcahjnniendnacGreatDoor
open Go.RowKit Wf

/-- A row of nodes in a block from lo on. -/
def RowIn (w : World) (lo : Nat) (v : Value) (l : List Nd) : Prop :=
  ∃ g cap cur, v = .slice (some ⟨g, 0, none⟩) l.length cap ∧ 0 < l.length ∧ l.length ≤ cap ∧ cap ≤ 9223372036854775807 ∧ lo ≤ g ∧ Blk w g 41 cur ∧ ∀ (j : Nat) (u : Value), (l.flatMap ndCells)[j]? = some u → cur[j]? = some u
theorem RowIn.of_own {w : World} {lo g cap : Nat} {l : List Nd} (h : w.ownsRow lo 41 5 (.slice (some ⟨g, 0, none⟩) l.length cap) l.length (l.flatMap ndCells)) (hl : 0 < l.length) : RowIn w lo (.slice (some ⟨g, 0, none⟩) l.length cap) l := by
  rcases h.2 with ⟨h0, _⟩ | ⟨g', cap', cur, hv, h1, h2, h3, h4, h5, h6⟩
  · cases h0
  · injection hv with e1 e2 e3
    injection e1 with e1
    injection e1 with e1
    subst e1
    subst e3
    refine ⟨g, cap, cur, rfl, hl, h3, by unfold maxLen at h4; omega, h1, h2, fun j u hu => ?_⟩
    rw [← Array.getElem?_toList]
    rw [← h6, List.getElem?_take] at hu
    split at hu
    · exact hu
    · cases hu
theorem RowIn.keep {w w' : World} {lo : Nat} {v : Value} {l : List Nd} (h : RowIn w lo v l) (hk : ∀ q, lo ≤ q → q < w.heap.size → w'.heap[q]? = w.heap[q]?) : RowIn w' lo v l := by
  obtain ⟨g, cap, cur, hv, h1, h2, h3, h4, h5, h6⟩ := h
  exact ⟨g, cap, cur, hv, h1, h2, h3, h4, (hk g h4 (Blk.lt h5)).trans h5, h6⟩
theorem RowIn.below {w w' : World} {lo : Nat} {v : Value} {l : List Nd} (h : RowIn w lo v l) (hb : Below w.heap.size w w') : RowIn w' lo v l := h.keep fun q _ hq => hb.block q hq
theorem RowIn.grown {w w' : World} {lo rb : Nat} {v : Value} {l : List Nd} (h : RowIn w lo v l) (hg : w.grownBy w' (some rb)) (hr : rb < lo) : RowIn w' lo v l := h.keep fun q h1 hq => hg.block q hq (fun e => by have := Option.some.inj e; omega)
theorem RowIn.lower {w : World} {lo lo' : Nat} {v : Value} {l : List Nd} (h : RowIn w lo v l) (hl : lo' ≤ lo) : RowIn w lo' v l := by
  obtain ⟨g, cap, cur, hv, h1, h2, h3, h4, h5⟩ := h
  exact ⟨g, cap, cur, hv, h1, h2, h3, by omega, h5⟩
theorem RowIn.form {w : World} {lo : Nat} {v : Value} {l : List Nd} (h : RowIn w lo v l) : ∃ g cap, v = .slice (some ⟨g, 0, none⟩) l.length cap ∧ 0 < l.length ∧ l.length ≤ cap ∧ cap ≤ 9223372036854775807 ∧ lo ≤ g ∧ g < w.heap.size ∧
    ∀ (W : World), W.heap[g]? = w.heap[g]? → ∀ (j : Nat) (u : Value), (l.flatMap ndCells)[j]? = some u → W.cell? ((⟨g, 0, none⟩ : Addr).add j) = some u := by
  obtain ⟨g, cap, cur, hv, h1, h2, h3, h4, h5, h6⟩ := h
  refine ⟨g, cap, hv, h1, h2, h3, h4, Blk.lt h5, fun W hW j u hu => ?_⟩
  have hB : Blk W g 41 cur := hW.trans h5
  rw [add_mk, Nat.zero_add, hB.cell]
  exact h6 j u hu
theorem own_blk {w : World} {g base : Nat} {a b c d e : Value} (h : Blk w g 41 #[a, b, c, d, e]) (hb : base ≤ g) : w.ownsRow base 41 5 (.slice (some ⟨g, 0, none⟩) 1 1) 1 [a, b, c, d, e] :=
  ⟨rfl, .inr ⟨g, 1, _, rfl, hb, h, by omega, by unfold maxLen; omega, rfl, rfl⟩⟩
theorem RowIn.node {w : World} {g lo : Nat} {op : Int} {c0 c1 c2 c3 : Nat} (h : Blk w g 41 #[.int .i64 op, .int .u64 (c0 : Int), .int .u64 (c1 : Int), .int .u64 (c2 : Int), .int .u64 (c3 : Int)]) (hb : lo ≤ g) : RowIn w lo (.slice (some ⟨g, 0, none⟩) 1 1) [⟨op, c0, c1, c2, c3⟩] :=
  RowIn.of_own (l := [⟨op, c0, c1, c2, c3⟩]) (own_blk h hb) (by simp)

theorem new_node (W : World) (B : Nat) (hB : W.heap.size = B) {lo : Nat} (hlo : lo ≤ B) (op : Int) (c0 c1 c2 c3 : Nat) : RowIn (W.alloc (.cells #[.int .i64 op, .int .u64 (c0 : Int), .int .u64 (c1 : Int), .int .u64 (c2 : Int), .int .u64 (c3 : Int)] 41)) lo (.slice (some ⟨B, 0, none⟩) 1 1) [⟨op, c0, c1, c2, c3⟩] := by
  subst hB
  exact RowIn.node (Blk.new _ _ _) hlo
theorem RW.step {w0 w : World} {rb i : Nat} {bad : Option Nat} {s : ByteArray} (h : RW w0 rb s i bad w) : RW w0 rb s (i + 1) bad (w.setCell ⟨rb, 1, none⟩ (.int .i64 ((i : Int) + 1))) := by
  have := h.at (i + 1)
  push_cast at this
  exact this
theorem RowIn.step {w : World} {lo rb : Nat} {v u : Value} {l : List Nd} {o : Nat} (h : RowIn w lo v l) (hr : rb < lo) : RowIn (w.setCell ⟨rb, o, none⟩ u) lo v l := h.keep fun q h1 _ => Below.heap_setCell w _ _ q (by show q ≠ rb; omega)
theorem RW.alloc {w0 w : World} {rb i : Nat} {bad : Option Nat} {s : ByteArray} (h : RW w0 rb s i bad w) (o : Obj) : RW w0 rb s i bad (w.alloc o) := h.below ((Below.refl _ _).alloc (Nat.le_refl _) o)
theorem RW.app {w0 w w' : World} {rb i b : Nat} {bad : Option Nat} {s : ByteArray} (h : RW w0 rb s i bad w) (hg : w.grownBy w' (some b)) (hb : w0.heap.size ≤ b) : RW w0 rb s i bad w' := by
  have hlt := h.lt
  have hsz := h.grow.size
  exact ⟨(hg.block rb (Blk.lt h.par) (fun e => by have := Option.some.inj e; omega)).trans h.par,
    ⟨hg.os.trans h.grow.os, hg.tape.trans h.grow.tape, hg.output.trans h.grow.output, Nat.le_trans hsz hg.size, fun q hq hn => (hg.block q (by omega) (fun e => by have := Option.some.inj e; omega)).trans (h.grow.block q hq hn)⟩, h.lt⟩
theorem ite_some {α : Type} {a b : α} {o : Option UInt8} {x : UInt8} (h : o = some x) : (if o = some x then a else b) = a := if_pos h

/-- What reading rows comes to. -/
def RRdIs (r : PR Rx) (rb : Nat) (s : ByteArray) (i m : Nat) (w : World) (e : Ending) (w' : World) : Prop :=
  ∃ g cap l j bad, e = .returned (.slice (some ⟨g, 0, none⟩) l.length cap) ∧ RowIn w' w.heap.size (.slice (some ⟨g, 0, none⟩) l.length cap) l ∧ RW w rb s j bad w' ∧ OutIs r s.data.toList i m j bad l

set_option maxRecDepth 100000 in
set_option maxHeartbeats 8000000 in
theorem ratom_c {rb : Nat} {s : ByteArray} {i : Nat} (w : World) (h : RW w rb s i none w) (hs : s.size ≤ 200) (hi0 : i < s.size) (hall : ∀ W, RW W rb s (i + 1) none W → i + 1 ≤ s.size → Calls Tryz.prog 39 #[.pointer (some ⟨rb, 0, none⟩)] W (RRdIs (orS s.data.toList (i + 1)) rb s (i + 1) 1 W)) :
    Calls Tryz.prog 63 #[.pointer (some ⟨rb, 0, none⟩)] w (RRdIs (atomR s.data.toList i) rb s i 0 w) := by
  obtain ⟨L, hL⟩ : ∃ L, L = s.data.toList := ⟨_, rfl⟩
  have hLZ : L.length = s.size := by rw [hL]; simp
  have HLZ := Lib.hid hLZ
  have HSY : Hid (∀ (c : UInt8) (j : Nat) W, L[j]? = some c → RW w rb s j none W → Calls Tryz.prog 64 #[.pointer (some ⟨rb, 0, none⟩), .int .u8 (c.toNat : Int)] W (RSeesIs true W)) := Lib.hid fun c j W hc hw => rsees_yes W hw.here hs (by rw [← hL]; exact hc)
  have HSN : Hid (∀ (c : UInt8) (j : Nat) W, j ≤ s.size → L[j]? ≠ some c → RW w rb s j none W → Calls Tryz.prog 64 #[.pointer (some ⟨rb, 0, none⟩), .int .u8 (c.toNat : Int)] W (RSeesIs false W)) := Lib.hid fun c j W hj hc hw => rsees_no W hw.here hs hj (by rw [← hL]; exact hc)
  have HSB : Hid (∀ (c j k : Nat) W, RW w rb s j (some k) W → Calls Tryz.prog 64 #[.pointer (some ⟨rb, 0, none⟩), .int .u8 (c : Int)] W (RSeesIs false W)) := Lib.hid fun c j k W hw => rsees_bad c W hw.here
  have HFL : Hid (∀ (j k : Nat) W, RW w rb s j none W → Calls Tryz.prog 40 #[.pointer (some ⟨rb, 0, none⟩), .int .i64 (k : Int)] W (RFailIs rb s j (some k) W)) := Lib.hid fun j k W hw => rfail_good W hw.here k
  have HFB : Hid (∀ (j k k' : Nat) W, RW w rb s j (some k) W → Calls Tryz.prog 40 #[.pointer (some ⟨rb, 0, none⟩), .int .i64 (k' : Int)] W (RFailIs rb s j (some k) W)) := Lib.hid fun j k k' W hw => rfail_bad W hw.here k'
  have HP := Lib.hid h
  have hrb := h.lt
  have hi : i ≤ s.size := by omega
  have hi' : i ≤ L.length := by omega
  unfold RSeesIs at HSY HSN HSB
  unfold RFailIs at HFL HFB
  obtain ⟨i0, hi0, hz0, hz1, hz2⟩ := info_parts info_node
  have HAL := Lib.hid fun W (hw : RW w rb s (i + 1) none W) (h1 : i + 1 ≤ s.size) => hall W hw.here h1
  unfold RRdIs at HAL
  have HBR := Lib.hid fun W (hw : RW w rb s (i + 1) none W) (h1 : i + 1 ≤ s.size) => rbr_c W hw.here hs h1
  have HON := Lib.hid fun W (hw : RW w rb s i none W) => rone_c W hw.here hs hi
  have HOF := Lib.hid fun W => ROfText_any ⟨#[10]⟩ W (by decide)
  have HOT : Hid (∀ (c0 c1 c2 c3 : Nat) (W : World), okC (c0, c1, c2, c3) → Calls Tryz.prog 55 #[.agg #[.int .u64 (c0 : Int), .int .u64 (c1 : Int), .int .u64 (c2 : Int), .int .u64 (c3 : Int)]] W (ClsIs (notC (c0, c1, c2, c3)) W)) := Lib.hid fun c0 c1 c2 c3 W h1 => ROthers_any c0 c1 c2 c3 W h1
  have HWT : Hid (∀ (a : Nat) (W : World), a < 256 → Calls Tryz.prog 79 #[.agg #[.int .u64 0, .int .u64 0, .int .u64 0, .int .u64 0], .int .i64 (a : Int)] W (ClsIs (withB zc a) W)) := Lib.hid fun a W h1 => RWith_any 0 0 0 0 a W okC_zc h1
  rw [← hL] at HBR HON
  unfold RBrIs at HBR
  unfold ROneIs ROneAt at HON
  unfold ClsIs at HOF HOT HWT
  unfold RRdIs
  rw [← hL] at HAL ⊢
  clear hL hLZ h hall
  go_enter Tryz.func63, Tryz.ntmps63
  go_upto_block 0 with fail
  go_cut [3] (fun v3 wx => ∃ (j : Nat) (l : List Nd) (bad : Option Nat), Hid (RowIn wx w.heap.size v3 l) ∧ Hid (RW w rb s j bad wx) ∧ Hid (SgIn L i j bad l))
  case first =>
    by_cases hc : L[i]? = some 40
    · have H0 := Lib.hid hc
      clear hc
      go_wp2_with fail
      refine (HSY.out 40 i _ H0.out HP.out).mono ?_
      rintro e z ⟨rfl, hb⟩
      have Z := Lib.hid (HP.out.below hb)
      clear hb
      have hi1 : i + 1 ≤ s.size := by have := getE_lt H0.out; rw [HLZ.out] at this; omega
      have r0 := Z.out.c0
      have r1 := Z.out.c1
      have rf := Z.out.f1
      go_wp2_with fail
      clear r0 r1 rf
      have HZ := Lib.hid Z.out.step
      refine (HAL.out _ HZ.out hi1).mono ?_
      rintro e w1 ⟨g, cap, l, j, bad, rfl, hrow, hrw, ho⟩
      have hsz1 := HZ.out.grow.size
      have HRow := Lib.hid (hrow.lower hsz1)
      have HRW := Lib.hid (HZ.out.trans hrw)
      have HO := Lib.hid ho
      clear hrow hrw ho
      cases bad with
      | some k =>
        have hjj : j ≤ 2 * s.size + 3 := by have := HO.out.2.2.2; rw [HLZ.out] at this; omega
        have q2 : _ = some (Value.int .i64 ((k : Nat) : Int)) := HRW.out.c2
        have dk : decide (((k : Nat) : Int) < 0) = false := by simp
        go_wp2_with fail
        refine (HSB.out 41 j k _ HRW.out).mono ?_
        rintro e x1 ⟨rfl, hb⟩
        have HRow1 := Lib.hid (HRow.out.below hb)
        have HRW1 := Lib.hid (HRW.out.below hb)
        clear hb q2
        have r0 := HRW1.out.c0
        have r1 := HRW1.out.c1
        have rf := HRW1.out.f1
        go_wp2_with fail
        refine (HFB.out j k j _ HRW1.out).mono ?_
        rintro e x2 ⟨rfl, hw2⟩
        have HRow2 := Lib.hid (HRow1.out.grown hw2.grow hrb)
        have HRW2 := Lib.hid (HRW1.out.trans hw2)
        clear r0 r1 rf hw2
        have r0 := HRW2.out.c0
        have r1 := HRW2.out.c1
        have rf := HRW2.out.f1
        go_wp2_with fail
        go_meet
        have hA : atomS L i = .bad k := by rw [atomS_atR H0.out, if_pos rfl, HO.out.2.1]
        have h1 := HO.out.1
        have h2 := HO.out.2.2.1
        have h3 := HO.out.2.2.2
        exact ⟨j + 1, l, some k, Lib.hid (HRow2.out.step hrb), Lib.hid HRW2.out.step, Lib.hid (SgIn.of_bad hA h1 (by omega) (by omega))⟩
      | none =>
        obtain ⟨t, hr, hl, h1, h2, h3⟩ := HO.out.2
        have hl0 := HO.out.1
        have HT : Hid (orS L (i + 1) = .ok t j ∧ l = flat t) := Lib.hid ⟨hr, hl⟩
        have hjL : j ≤ s.size := by rw [HLZ.out] at h2; exact h2
        clear hr hl HO
        by_cases h41 : L[j]? = some 41
        · go_wp2_with fail
          refine (HSY.out 41 j _ h41 HRW.out).mono ?_
          rintro e x1 ⟨rfl, hb⟩
          have HRow1 := Lib.hid (HRow.out.below hb)
          have HRW1 := Lib.hid (HRW.out.below hb)
          clear hb
          have r0 := HRW1.out.c0
          have r1 := HRW1.out.c1
          have rf := HRW1.out.f1
          go_wp2_with fail
          go_meet
          have hA : atomS L i = .ok t (j + 1) := by rw [atomS_atR H0.out, if_pos rfl, HT.out.1]; exact ite_some h41
          exact ⟨j + 1, l, none, Lib.hid (HRow1.out.step hrb), Lib.hid HRW1.out.step, Lib.hid (by rw [HT.out.2]; exact SgIn.of_ok (by rw [HLZ.out]; omega) hA)⟩
        · go_wp2_with fail
          refine (HSN.out 41 j _ hjL h41 HRW.out).mono ?_
          rintro e x1 ⟨rfl, hb⟩
          have HRow1 := Lib.hid (HRow.out.below hb)
          have HRW1 := Lib.hid (HRW.out.below hb)
          clear hb
          have r0 := HRW1.out.c0
          have r1 := HRW1.out.c1
          have rf := HRW1.out.f1
          go_wp2_with fail
          refine (HFL.out j j _ HRW1.out).mono ?_
          rintro e x2 ⟨rfl, hw2⟩
          have HRow2 := Lib.hid (HRow1.out.grown hw2.grow hrb)
          have HRW2 := Lib.hid (HRW1.out.trans hw2)
          clear r0 r1 rf hw2
          have r0 := HRW2.out.c0
          have r1 := HRW2.out.c1
          have rf := HRW2.out.f1
          go_wp2_with fail
          go_meet
          have hA : atomS L i = .bad j := by rw [atomS_atR H0.out, if_pos rfl, HT.out.1]; simp only [if_neg h41]
          have h3' : l.length + 2 * (i + 1) ≤ 2 * j + 1 := h3
          exact ⟨j + 1, l, some j, Lib.hid (HRow2.out.step hrb), Lib.hid HRW2.out.step, Lib.hid (SgIn.of_bad hA hl0 (by rw [HLZ.out]; omega) (by rw [HLZ.out]; omega))⟩
    · have N40 := Lib.hid hc
      clear hc
      by_cases hc : L[i]? = some 91
      · have H0 := Lib.hid hc
        clear hc
        go_wp2_with fail
        refine (HSN.out 40 i _ hi (by rw [H0.out]; decide) HP.out).mono ?_
        rintro e y1 ⟨rfl, hb⟩
        have Y1 := Lib.hid (HP.out.below hb)
        clear hb
        go_wp2_with fail
        refine (HSY.out 91 i _ H0.out Y1.out).mono ?_
        rintro e z ⟨rfl, hb⟩
        have Z := Lib.hid (Y1.out.below hb)
        clear hb
        have hi1 : i + 1 ≤ s.size := by have := getE_lt H0.out; rw [HLZ.out] at this; omega
        have r0 := Z.out.c0
        have r1 := Z.out.c1
        have rf := Z.out.f1
        go_wp2_with fail
        clear r0 r1 rf
        have HZ := Lib.hid Z.out.step
        refine (HBR.out _ HZ.out hi1).mono ?_
        rintro e w1 ⟨d0, d1, d2, d3, j, bad, rfl, hok, hrw, ho⟩
        have hsz1 := (HZ.out.trans hrw).grow.size
        have HRW := Lib.hid (HZ.out.trans hrw)
        have HO := Lib.hid ho
        clear hrw ho
        go_wp2_with fail
        go_meet
        rcases HO.out with ⟨rfl, hr, hj1, hj2⟩ | ⟨k, rfl, hr, hj1, hj2⟩
        · have hA : atomS L i = .ok (.byte (d0, d1, d2, d3)) j := by rw [atomS_atR H0.out, if_neg (by decide), if_pos rfl, hr]
          exact ⟨j, [⟨1, d0, d1, d2, d3⟩], none, Lib.hid (new_node _ _ (by simp) (by omega) 1 d0 d1 d2 d3), Lib.hid ((HRW.out.alloc _).alloc _), Lib.hid (SgIn.of_ok (by rw [HLZ.out]; omega) hA)⟩
        · have hA : atomS L i = .bad k := by rw [atomS_atR H0.out, if_neg (by decide), if_pos rfl, hr]
          exact ⟨j, [⟨1, d0, d1, d2, d3⟩], some k, Lib.hid (new_node _ _ (by simp) (by omega) 1 d0 d1 d2 d3), Lib.hid ((HRW.out.alloc _).alloc _), Lib.hid (SgIn.of_bad hA (by simp) (by simp; rw [HLZ.out]; omega) (by rw [HLZ.out]; omega))⟩
      · have N91 := Lib.hid hc
        clear hc
        by_cases hc : L[i]? = some 46
        · have H0 := Lib.hid hc
          clear hc
          go_wp2_with fail
          refine (HSN.out 40 i _ hi (by rw [H0.out]; decide) HP.out).mono ?_
          rintro e y1 ⟨rfl, hb⟩
          have Y1 := Lib.hid (HP.out.below hb)
          clear hb
          go_wp2_with fail
          refine (HSN.out 91 i _ hi (by rw [H0.out]; decide) Y1.out).mono ?_
          rintro e y2 ⟨rfl, hb⟩
          have Y2 := Lib.hid (Y1.out.below hb)
          clear hb
          go_wp2_with fail
          refine (HSY.out 46 i _ H0.out Y2.out).mono ?_
          rintro e z ⟨rfl, hb⟩
          have Z := Lib.hid (Y2.out.below hb)
          clear hb
          have hi1 : i + 1 ≤ s.size := by have := getE_lt H0.out; rw [HLZ.out] at this; omega
          have r0 := Z.out.c0
          have r1 := Z.out.c1
          have rf := Z.out.f1
          go_wp2_with fail
          clear r0 r1 rf
          have HZ := Lib.hid Z.out.step
          refine (HOF.out _).mono ?_
          rintro e w1 ⟨d0, d1, d2, d3, rfl, hd, hb1⟩
          have HZ1 := Lib.hid (HZ.out.below hb1)
          have HD := Lib.hid hd
          have hdok : okC (d0, d1, d2, d3) := by rw [hd]; exact okC_ofL _ _ okC_zc
          clear hb1 hd
          go_wp2_with fail
          refine (HOT.out d0 d1 d2 d3 _ hdok).mono ?_
          rintro e w2 ⟨f0, f1, f2, f3, rfl, hf, hb2⟩
          have HZ2 := Lib.hid (HZ1.out.below hb2)
          have HF : Hid ((f0, f1, f2, f3) = dotC) := Lib.hid (by rw [hf, HD.out]; rfl)
          have hsz2 := HZ2.out.grow.size
          clear hb2 hf
          go_wp2_with fail
          go_meet
          have hA : atomS L i = .ok (.byte (f0, f1, f2, f3)) (i + 1) := by rw [atomS_atR H0.out, if_neg (by decide), if_neg (by decide), if_pos rfl, HF.out]
          exact ⟨i + 1, [⟨1, f0, f1, f2, f3⟩], none, Lib.hid (new_node _ _ rfl hsz2 1 f0 f1 f2 f3), Lib.hid (HZ2.out.alloc _), Lib.hid (SgIn.of_ok (by rw [HLZ.out]; omega) hA)⟩
        · have N46 := Lib.hid hc
          clear hc
          by_cases hc : L[i]? = some 94
          · have H0 := Lib.hid hc
            clear hc
            go_wp2_with fail
            refine (HSN.out 40 i _ hi (by rw [H0.out]; decide) HP.out).mono ?_
            rintro e y1 ⟨rfl, hb⟩
            have Y1 := Lib.hid (HP.out.below hb)
            clear hb
            go_wp2_with fail
            refine (HSN.out 91 i _ hi (by rw [H0.out]; decide) Y1.out).mono ?_
            rintro e y2 ⟨rfl, hb⟩
            have Y2 := Lib.hid (Y1.out.below hb)
            clear hb
            go_wp2_with fail
            refine (HSN.out 46 i _ hi (by rw [H0.out]; decide) Y2.out).mono ?_
            rintro e y3 ⟨rfl, hb⟩
            have Y3 := Lib.hid (Y2.out.below hb)
            clear hb
            go_wp2_with fail
            refine (HSY.out 94 i _ H0.out Y3.out).mono ?_
            rintro e z ⟨rfl, hb⟩
            have Z := Lib.hid (Y3.out.below hb)
            clear hb
            have hi1 : i + 1 ≤ s.size := by have := getE_lt H0.out; rw [HLZ.out] at this; omega
            have r0 := Z.out.c0
            have r1 := Z.out.c1
            have rf := Z.out.f1
            have hszZ := Z.out.grow.size
            go_wp2_with fail
            go_meet
            have hA : atomS L i = .ok .bgn (i + 1) := by rw [atomS_atR H0.out, if_neg (by decide), if_neg (by decide), if_neg (by decide), if_pos rfl]
            exact ⟨i + 1, [⟨8, 0, 0, 0, 0⟩], none, Lib.hid (new_node _ _ (by simp) (by omega) 8 0 0 0 0), Lib.hid (Z.out.step.alloc _), Lib.hid (SgIn.of_ok (by rw [HLZ.out]; omega) hA)⟩
          · have N94 := Lib.hid hc
            clear hc
            by_cases hc : L[i]? = some 36
            · have H0 := Lib.hid hc
              clear hc
              go_wp2_with fail
              refine (HSN.out 40 i _ hi (by rw [H0.out]; decide) HP.out).mono ?_
              rintro e y1 ⟨rfl, hb⟩
              have Y1 := Lib.hid (HP.out.below hb)
              clear hb
              go_wp2_with fail
              refine (HSN.out 91 i _ hi (by rw [H0.out]; decide) Y1.out).mono ?_
              rintro e y2 ⟨rfl, hb⟩
              have Y2 := Lib.hid (Y1.out.below hb)
              clear hb
              go_wp2_with fail
              refine (HSN.out 46 i _ hi (by rw [H0.out]; decide) Y2.out).mono ?_
              rintro e y3 ⟨rfl, hb⟩
              have Y3 := Lib.hid (Y2.out.below hb)
              clear hb
              go_wp2_with fail
              refine (HSN.out 94 i _ hi (by rw [H0.out]; decide) Y3.out).mono ?_
              rintro e y4 ⟨rfl, hb⟩
              have Y4 := Lib.hid (Y3.out.below hb)
              clear hb
              go_wp2_with fail
              refine (HSY.out 36 i _ H0.out Y4.out).mono ?_
              rintro e z ⟨rfl, hb⟩
              have Z := Lib.hid (Y4.out.below hb)
              clear hb
              have hi1 : i + 1 ≤ s.size := by have := getE_lt H0.out; rw [HLZ.out] at this; omega
              have r0 := Z.out.c0
              have r1 := Z.out.c1
              have rf := Z.out.f1
              have hszZ := Z.out.grow.size
              go_wp2_with fail
              go_meet
              have hA : atomS L i = .ok .fin (i + 1) := by rw [atomS_atR H0.out, if_neg (by decide), if_neg (by decide), if_neg (by decide), if_neg (by decide), if_pos rfl]
              exact ⟨i + 1, [⟨9, 0, 0, 0, 0⟩], none, Lib.hid (new_node _ _ (by simp) (by omega) 9 0 0 0 0), Lib.hid (Z.out.step.alloc _), Lib.hid (SgIn.of_ok (by rw [HLZ.out]; omega) hA)⟩
            · have N36 := Lib.hid hc
              clear hc
              go_wp2_with fail
              refine (HSN.out 40 i _ hi N40.out HP.out).mono ?_
              rintro e y1 ⟨rfl, hb⟩
              have Y1 := Lib.hid (HP.out.below hb)
              clear hb
              go_wp2_with fail
              refine (HSN.out 91 i _ hi N91.out Y1.out).mono ?_
              rintro e y2 ⟨rfl, hb⟩
              have Y2 := Lib.hid (Y1.out.below hb)
              clear hb
              go_wp2_with fail
              refine (HSN.out 46 i _ hi N46.out Y2.out).mono ?_
              rintro e y3 ⟨rfl, hb⟩
              have Y3 := Lib.hid (Y2.out.below hb)
              clear hb
              go_wp2_with fail
              refine (HSN.out 94 i _ hi N94.out Y3.out).mono ?_
              rintro e y4 ⟨rfl, hb⟩
              have Y4 := Lib.hid (Y3.out.below hb)
              clear hb
              go_wp2_with fail
              refine (HSN.out 36 i _ hi N36.out Y4.out).mono ?_
              rintro e y5 ⟨rfl, hb⟩
              have Y5 := Lib.hid (Y4.out.below hb)
              clear hb
              go_wp2_with fail
              refine (HON.out _ Y5.out).mono ?_
              rintro e w1 hone
              have hone' : ∃ a j bad, e = .returned (.int .i64 ((a : Nat) : Int)) ∧ a < 256 ∧ RW y5 rb s j bad w1 ∧ ((bad = none ∧ oneS L i = .ok a j) ∨ (∃ k, bad = some k ∧ oneS L i = .bad k ∧ j ≤ i + 1)) := by
                rcases hone with ⟨a, j, h1, h2, h3, h4, h5, h6⟩ | ⟨k, a, j, h1, h2, h3, h4, h5, h6⟩
                · exact ⟨a, j, none, h5, h2, h6, .inl ⟨rfl, h1⟩⟩
                · exact ⟨a, j, some k, h5, h2, h6, .inr ⟨k, rfl, h1, h4⟩⟩
              obtain ⟨a, j, bad, rfl, ha, hrw, ho⟩ := hone'
              have HRW := Lib.hid (Y5.out.trans hrw)
              have HO := Lib.hid ho
              clear hone hrw ho
              go_wp2_with fail
              refine (HWT.out a _ ha).mono ?_
              rintro e w2 ⟨d0, d1, d2, d3, rfl, hd, hb2⟩
              have HD := Lib.hid hd
              have HRW2 := Lib.hid (HRW.out.below hb2)
              have hsz2 := HRW2.out.grow.size
              clear hd hb2
              go_wp2_with fail
              go_meet
              have hA0 := atomS_oneR N40.out N91.out N46.out N94.out N36.out
              rcases HO.out with ⟨rfl, hr⟩ | ⟨k, rfl, hr, hj1⟩
              · have hA : atomS L i = .ok (.byte (d0, d1, d2, d3)) j := by rw [hA0, hr, HD.out]
                exact ⟨j, [⟨1, d0, d1, d2, d3⟩], none, Lib.hid (new_node _ _ rfl hsz2 1 d0 d1 d2 d3), Lib.hid (HRW2.out.alloc _), Lib.hid (SgIn.of_ok (by rw [HLZ.out]; omega) hA)⟩
              · have hA : atomS L i = .bad k := by rw [hA0, hr]
                exact ⟨j, [⟨1, d0, d1, d2, d3⟩], some k, Lib.hid (new_node _ _ rfl hsz2 1 d0 d1 d2 d3), Lib.hid (HRW2.out.alloc _), Lib.hid (SgIn.of_bad hA (by simp) (by simp; rw [HLZ.out]; omega) (by rw [HLZ.out]; omega))⟩
  case rest =>
    obtain ⟨j, l, bad, HRow, HRW, HSg⟩ := hcut
    go_wp2_with fail
    go_loopg [3] (s.size + 2) (fun gk v3 wr => ∃ (j : Nat) (l : List Nd) (bad : Option Nat), Hid (RowIn wr w.heap.size v3 l) ∧ Hid (RW w rb s j bad wr) ∧ Hid (SgIn L i j bad l) ∧ Hid (badM bad (s.size - j) < gk))
    case atStart => exact ⟨_, _, _, HRow, HRW, HSg, Lib.hid (by unfold badM; first | omega | (split <;> omega))⟩
    case round =>
      clear HRW HRow HSg
      obtain ⟨j, l, bad, HRow, HRW, HSg, HG⟩ := hrel
      obtain ⟨g, cap, rfl, hl0, hlc, hcap, hlo, hgl, hcs⟩ := HRow.out.form
      have hlen := HSg.out.len
      rw [HLZ.out] at hlen
      obtain ⟨hlen, hj2⟩ := hlen
      have HCS := Lib.hid hcs
      clear hcs
      cases bad with
      | some k =>
        have q2 : _ = some (Value.int .i64 ((k : Nat) : Int)) := HRW.out.c2
        have dk : decide (((k : Nat) : Int) < 0) = false := by simp
        go_wp2_with fail
        go_ret
        exact ⟨g, cap, l, j, some k, rfl, HRow.out, HRW.out, HSg.out⟩
      | none =>
        have q2 : _ = some (Value.int .i64 (-1)) := HRW.out.c2
        have r0 := HRW.out.c0
        have r1 := HRW.out.c1
        have rf := HRW.out.f1
        have hjL : j ≤ s.size := by
          obtain ⟨_, _, _, _, _, h2, _⟩ := HSg.out
          rw [HLZ.out] at h2
          exact h2
        by_cases h42 : L[j]? = some 42
        · go_wp2_with fail
          refine (HSY.out 42 j _ h42 HRW.out).mono ?_
          rintro e x1 ⟨rfl, hb⟩
          have H1 := Lib.hid (HRW.out.below hb)
          have HK1 := Lib.hid hb
          clear hb
          go_wp2_with fail
          refine (HSN.out 43 j _ hjL (by rw [h42]; decide) H1.out).mono ?_
          rintro e x2 ⟨rfl, hb⟩
          have H2 := Lib.hid (H1.out.below hb)
          have HK2 := Lib.hid hb
          clear hb
          go_wp2_with fail
          refine (HSN.out 63 j _ hjL (by rw [h42]; decide) H2.out).mono ?_
          rintro e x3 ⟨rfl, hb⟩
          have H3 := Lib.hid (H2.out.below hb)
          have HK3 := Lib.hid hb
          clear hb
          clear r0 r1 rf q2
          have r0 := H3.out.c0
          have r1 := H3.out.c1
          have rf := H3.out.f1
          have hx3 := H3.out.grow.size
          have HO : Hid ((((x3.setCell ⟨rb, 1, none⟩ (.int .i64 ((j : Int) + 1))).alloc (.cells #[.int .i64 5, .int .u64 0, .int .u64 0, .int .u64 0, .int .u64 0] 41))).ownsRow w.heap.size 41 5 (.slice (some ⟨x3.heap.size, 0, none⟩) 1 1) 1 [.int .i64 5, .int .u64 0, .int .u64 0, .int .u64 0, .int .u64 0]) := Lib.hid (by
            have hB := Blk.new (x3.setCell ⟨rb, 1, none⟩ (.int .i64 ((j : Int) + 1))) 41 #[.int .i64 5, .int .u64 0, .int .u64 0, .int .u64 0, .int .u64 0]
            rw [World.size_setCell] at hB
            exact own_blk hB hx3)
          have HSRC := Lib.hid (HCS.out ((x3.setCell ⟨rb, 1, none⟩ (.int .i64 ((j : Int) + 1))).alloc (.cells #[.int .i64 5, .int .u64 0, .int .u64 0, .int .u64 0, .int .u64 0] 41)) (by
            have s1 := HK1.out.size
            have s2 := HK2.out.size
            have s3 := HK3.out.size
            exact (Below.heap_alloc _ _ _ (by simp; omega)).trans ((Below.heap_setCell _ _ _ _ (by show g ≠ rb; omega)).trans ((HK3.out.block g (by omega)).trans ((HK2.out.block g (by omega)).trans (HK1.out.block g hgl))))))
          have HNL : Hid ((l.flatMap ndCells).length = l.length * 5) := Lib.hid (flatMap_len l)
          have HON := Lib.hid (ndCells_one l)
          have hlen4 : l.length ≤ 400 := by omega
          clear hlen hj2
          go_wp2_with (at_builtin; refine wpList_append_lies _ rfl (.tmp 138) (.tmp 139) _ rfl w.heap.size 41 i0 _ 5 40 Tryz.underlying22 hi0 hz0 hz1 hz2 rfl (by omega) _ 1 _ rfl HO.out ⟨g, 0, none⟩ l.length _ (l.flatMap ndCells) rfl HNL.out HSRC.out HON.out hl0 (by unfold maxLen; omega) (by omega) (by simp; omega) _ rfl ?_)
          intro g5 cap5 x5 hown5 hgrow5 _ _
          have HR5 : Hid (RowIn x5 w.heap.size (.slice (some ⟨g5, 0, none⟩) (1 + l.length) cap5) (⟨5, zc⟩ :: l)) := Lib.hid (by
            have e : 1 + l.length = (⟨5, zc⟩ :: l : List Nd).length := by simp; omega
            rw [e] at hown5 ⊢
            exact RowIn.of_own hown5 (by simp))
          have HW5 : Hid (RW w rb s (j + 1) none x5) := Lib.hid ((H3.out.step.alloc _).app hgrow5 hx3)
          have HS5 : Hid (SgIn L i (j + 1) none (⟨5, zc⟩ :: l)) := Lib.hid (HSg.out.more 5 (.inl ⟨h42, rfl⟩))
          have HG5 : Hid (badM none (s.size - (j + 1)) < gk - 1 ∧ 0 < gk) := Lib.hid (by
            have h1 := HG.out
            have h2 := getE_lt h42
            rw [HLZ.out] at h2
            unfold badM at h1 ⊢
            dsimp only at h1 ⊢
            omega)
          clear hown5 hgrow5 HG HSg
          go_wp2_with fail
          go_roundg (gk - 1)
          case rel => exact ⟨j + 1, ⟨5, zc⟩ :: l, none, HR5, HW5, HS5, Lib.hid HG5.out.1⟩
          all_goals (have := HG5.out.2; omega)
        · by_cases h43 : L[j]? = some 43
          · go_wp2_with fail
            refine (HSN.out 42 j _ hjL h42 HRW.out).mono ?_
            rintro e x1 ⟨rfl, hb⟩
            have H1 := Lib.hid (HRW.out.below hb)
            have HK1 := Lib.hid hb
            clear hb
            go_wp2_with fail
            refine (HSY.out 43 j _ h43 H1.out).mono ?_
            rintro e x2 ⟨rfl, hb⟩
            have H2 := Lib.hid (H1.out.below hb)
            have HK2 := Lib.hid hb
            clear hb
            go_wp2_with fail
            refine (HSN.out 63 j _ hjL (by rw [h43]; decide) H2.out).mono ?_
            rintro e x3 ⟨rfl, hb⟩
            have H3 := Lib.hid (H2.out.below hb)
            have HK3 := Lib.hid hb
            clear hb
            clear r0 r1 rf q2
            have r0 := H3.out.c0
            have r1 := H3.out.c1
            have rf := H3.out.f1
            have hx3 := H3.out.grow.size
            have HO : Hid ((((x3.setCell ⟨rb, 1, none⟩ (.int .i64 ((j : Int) + 1))).alloc (.cells #[.int .i64 6, .int .u64 0, .int .u64 0, .int .u64 0, .int .u64 0] 41))).ownsRow w.heap.size 41 5 (.slice (some ⟨x3.heap.size, 0, none⟩) 1 1) 1 [.int .i64 6, .int .u64 0, .int .u64 0, .int .u64 0, .int .u64 0]) := Lib.hid (by
              have hB := Blk.new (x3.setCell ⟨rb, 1, none⟩ (.int .i64 ((j : Int) + 1))) 41 #[.int .i64 6, .int .u64 0, .int .u64 0, .int .u64 0, .int .u64 0]
              rw [World.size_setCell] at hB
              exact own_blk hB hx3)
            have HSRC := Lib.hid (HCS.out ((x3.setCell ⟨rb, 1, none⟩ (.int .i64 ((j : Int) + 1))).alloc (.cells #[.int .i64 6, .int .u64 0, .int .u64 0, .int .u64 0, .int .u64 0] 41)) (by
              have s1 := HK1.out.size
              have s2 := HK2.out.size
              have s3 := HK3.out.size
              exact (Below.heap_alloc _ _ _ (by simp; omega)).trans ((Below.heap_setCell _ _ _ _ (by show g ≠ rb; omega)).trans ((HK3.out.block g (by omega)).trans ((HK2.out.block g (by omega)).trans (HK1.out.block g hgl))))))
            have HNL : Hid ((l.flatMap ndCells).length = l.length * 5) := Lib.hid (flatMap_len l)
            have HON := Lib.hid (ndCells_one l)
            have hlen4 : l.length ≤ 400 := by omega
            clear hlen hj2
            go_wp2_with (at_builtin; refine wpList_append_lies _ rfl (.tmp 138) (.tmp 139) _ rfl w.heap.size 41 i0 _ 5 40 Tryz.underlying22 hi0 hz0 hz1 hz2 rfl (by omega) _ 1 _ rfl HO.out ⟨g, 0, none⟩ l.length _ (l.flatMap ndCells) rfl HNL.out HSRC.out HON.out hl0 (by unfold maxLen; omega) (by omega) (by simp; omega) _ rfl ?_)
            intro g5 cap5 x5 hown5 hgrow5 _ _
            have HR5 : Hid (RowIn x5 w.heap.size (.slice (some ⟨g5, 0, none⟩) (1 + l.length) cap5) (⟨6, zc⟩ :: l)) := Lib.hid (by
              have e : 1 + l.length = (⟨6, zc⟩ :: l : List Nd).length := by simp; omega
              rw [e] at hown5 ⊢
              exact RowIn.of_own hown5 (by simp))
            have HW5 : Hid (RW w rb s (j + 1) none x5) := Lib.hid ((H3.out.step.alloc _).app hgrow5 hx3)
            have HS5 : Hid (SgIn L i (j + 1) none (⟨6, zc⟩ :: l)) := Lib.hid (HSg.out.more 6 (.inr (.inl ⟨h43, rfl⟩)))
            have HG5 : Hid (badM none (s.size - (j + 1)) < gk - 1 ∧ 0 < gk) := Lib.hid (by
              have h1 := HG.out
              have h2 := getE_lt h43
              rw [HLZ.out] at h2
              unfold badM at h1 ⊢
              dsimp only at h1 ⊢
              omega)
            clear hown5 hgrow5 HG HSg
            go_wp2_with fail
            go_roundg (gk - 1)
            case rel => exact ⟨j + 1, ⟨6, zc⟩ :: l, none, HR5, HW5, HS5, Lib.hid HG5.out.1⟩
            all_goals (have := HG5.out.2; omega)
          · by_cases h63 : L[j]? = some 63
            · go_wp2_with fail
              refine (HSN.out 42 j _ hjL h42 HRW.out).mono ?_
              rintro e x1 ⟨rfl, hb⟩
              have H1 := Lib.hid (HRW.out.below hb)
              have HK1 := Lib.hid hb
              clear hb
              go_wp2_with fail
              refine (HSN.out 43 j _ hjL h43 H1.out).mono ?_
              rintro e x2 ⟨rfl, hb⟩
              have H2 := Lib.hid (H1.out.below hb)
              have HK2 := Lib.hid hb
              clear hb
              go_wp2_with fail
              refine (HSY.out 63 j _ h63 H2.out).mono ?_
              rintro e x3 ⟨rfl, hb⟩
              have H3 := Lib.hid (H2.out.below hb)
              have HK3 := Lib.hid hb
              clear hb
              clear r0 r1 rf q2
              have r0 := H3.out.c0
              have r1 := H3.out.c1
              have rf := H3.out.f1
              have hx3 := H3.out.grow.size
              have HO : Hid ((((x3.setCell ⟨rb, 1, none⟩ (.int .i64 ((j : Int) + 1))).alloc (.cells #[.int .i64 7, .int .u64 0, .int .u64 0, .int .u64 0, .int .u64 0] 41))).ownsRow w.heap.size 41 5 (.slice (some ⟨x3.heap.size, 0, none⟩) 1 1) 1 [.int .i64 7, .int .u64 0, .int .u64 0, .int .u64 0, .int .u64 0]) := Lib.hid (by
                have hB := Blk.new (x3.setCell ⟨rb, 1, none⟩ (.int .i64 ((j : Int) + 1))) 41 #[.int .i64 7, .int .u64 0, .int .u64 0, .int .u64 0, .int .u64 0]
                rw [World.size_setCell] at hB
                exact own_blk hB hx3)
              have HSRC := Lib.hid (HCS.out ((x3.setCell ⟨rb, 1, none⟩ (.int .i64 ((j : Int) + 1))).alloc (.cells #[.int .i64 7, .int .u64 0, .int .u64 0, .int .u64 0, .int .u64 0] 41)) (by
                have s1 := HK1.out.size
                have s2 := HK2.out.size
                have s3 := HK3.out.size
                exact (Below.heap_alloc _ _ _ (by simp; omega)).trans ((Below.heap_setCell _ _ _ _ (by show g ≠ rb; omega)).trans ((HK3.out.block g (by omega)).trans ((HK2.out.block g (by omega)).trans (HK1.out.block g hgl))))))
              have HNL : Hid ((l.flatMap ndCells).length = l.length * 5) := Lib.hid (flatMap_len l)
              have HON := Lib.hid (ndCells_one l)
              have hlen4 : l.length ≤ 400 := by omega
              clear hlen hj2
              go_wp2_with (at_builtin; refine wpList_append_lies _ rfl (.tmp 138) (.tmp 139) _ rfl w.heap.size 41 i0 _ 5 40 Tryz.underlying22 hi0 hz0 hz1 hz2 rfl (by omega) _ 1 _ rfl HO.out ⟨g, 0, none⟩ l.length _ (l.flatMap ndCells) rfl HNL.out HSRC.out HON.out hl0 (by unfold maxLen; omega) (by omega) (by simp; omega) _ rfl ?_)
              intro g5 cap5 x5 hown5 hgrow5 _ _
              have HR5 : Hid (RowIn x5 w.heap.size (.slice (some ⟨g5, 0, none⟩) (1 + l.length) cap5) (⟨7, zc⟩ :: l)) := Lib.hid (by
                have e : 1 + l.length = (⟨7, zc⟩ :: l : List Nd).length := by simp; omega
                rw [e] at hown5 ⊢
                exact RowIn.of_own hown5 (by simp))
              have HW5 : Hid (RW w rb s (j + 1) none x5) := Lib.hid ((H3.out.step.alloc _).app hgrow5 hx3)
              have HS5 : Hid (SgIn L i (j + 1) none (⟨7, zc⟩ :: l)) := Lib.hid (HSg.out.more 7 (.inr (.inr ⟨h63, rfl⟩)))
              have HG5 : Hid (badM none (s.size - (j + 1)) < gk - 1 ∧ 0 < gk) := Lib.hid (by
                have h1 := HG.out
                have h2 := getE_lt h63
                rw [HLZ.out] at h2
                unfold badM at h1 ⊢
                dsimp only at h1 ⊢
                omega)
              clear hown5 hgrow5 HG HSg
              go_wp2_with fail
              go_roundg (gk - 1)
              case rel => exact ⟨j + 1, ⟨7, zc⟩ :: l, none, HR5, HW5, HS5, Lib.hid HG5.out.1⟩
              all_goals (have := HG5.out.2; omega)
            · go_wp2_with fail
              refine (HSN.out 42 j _ hjL h42 HRW.out).mono ?_
              rintro e x1 ⟨rfl, hb⟩
              have H1 := Lib.hid (HRW.out.below hb)
              have HK1 := Lib.hid hb
              clear hb
              go_wp2_with fail
              refine (HSN.out 43 j _ hjL h43 H1.out).mono ?_
              rintro e x2 ⟨rfl, hb⟩
              have H2 := Lib.hid (H1.out.below hb)
              have HK2 := Lib.hid hb
              clear hb
              go_wp2_with fail
              refine (HSN.out 63 j _ hjL h63 H2.out).mono ?_
              rintro e x3 ⟨rfl, hb⟩
              have H3 := Lib.hid (H2.out.below hb)
              have HK3 := Lib.hid hb
              clear hb
              have HO : Hid (OutIs (atomR L i) L i 0 j none l) := Lib.hid (HSg.out.out fun c hc => ⟨fun e => h42 (by rw [hc, e]), fun e => h43 (by rw [hc, e]), fun e => h63 (by rw [hc, e])⟩)
              have HR3 : Hid (RowIn x3 w.heap.size (.slice (some ⟨g, 0, none⟩) l.length cap) l) := Lib.hid (((HRow.out.below HK1.out).below HK2.out).below HK3.out)
              go_wp2_with fail
              go_ret
              exact ⟨g, cap, l, j, none, rfl, HR3.out, H3.out, HO.out⟩
end Go.Proofs.YthcahjnniendnacGreatDoor
