/-
  Walks of the document's reader: one byte. (Printed by gen-rdrb.py.)
-/
import Derived.Test.YthcahjnniendnacGreatDoorRdrA
namespace Go.Proofs.YthcahjnniendnacGreatDoor
open Go.RowKit Wf

/-- A byte, and the reader behind it. -/
def ROneAt (rb : Nat) (s : ByteArray) (j a : Nat) (bad : Option Nat) (w : World) (e : Ending) (w' : World) : Prop := e = .returned (.int .i64 (a : Int)) ∧ RW w rb s j bad w'
/-- What one byte comes to. -/
def ROneIs (r : PR Nat) (rb : Nat) (s : ByteArray) (i : Nat) (w : World) (e : Ending) (w' : World) : Prop :=
  (∃ a j, r = .ok a j ∧ a < 256 ∧ i < j ∧ j ≤ s.size ∧ ROneAt rb s j a none w e w') ∨ (∃ k a j, r = .bad k ∧ a < 256 ∧ i ≤ j ∧ j ≤ i + 1 ∧ ROneAt rb s j a (some k) w e w')

/-- The first digits of two are read. -/
def HexIn (s : List UInt8) (i m n : Nat) : Prop := (m = 2 ∧ n = 0) ∨ (m = 3 ∧ n < 16 ∧ ∃ h, s[i + 2]? = some h ∧ hexV h = some n) ∨ (m = 4 ∧ n < 256 ∧ hexS s i = .ok n (i + 4))
theorem HexIn.lt {s : List UInt8} {i m n : Nat} (h : HexIn s i m n) : 2 ≤ m ∧ m ≤ 4 ∧ n < 256 ∧ (m < 4 → n < 16) := by
  rcases h with ⟨h1, h2⟩ | ⟨h1, h2, _⟩ | ⟨h1, h2, _⟩ <;> omega
theorem HexIn.none {s : List UInt8} {i m n : Nat} (h : HexIn s i m n) (h4 : m < 4) (hg : s[i + m]? = none) : hexS s i = .bad s.length := by
  rcases h with ⟨h1, h2⟩ | ⟨h1, h2, x, h3, h5⟩ | ⟨h1, h2, _⟩
  · subst h1; unfold hexS; rw [hg]
  · subst h1; unfold hexS; rw [h3]; simp only [h5]; rw [hg]
  · omega
theorem HexIn.bad {s : List UInt8} {i m n : Nat} (h : HexIn s i m n) (h4 : m < 4) {c : UInt8} (hg : s[i + m]? = some c) (hc : hexV c = .none) : hexS s i = .bad i := by
  rcases h with ⟨h1, h2⟩ | ⟨h1, h2, x, h3, h5⟩ | ⟨h1, h2, _⟩
  · subst h1; unfold hexS; rw [hg]; simp only [hc]
  · subst h1; unfold hexS; rw [h3]; simp only [h5]; rw [hg]; simp only [hc]
  · omega
theorem HexIn.next {s : List UInt8} {i m n a : Nat} (h : HexIn s i m n) (h4 : m < 4) {c : UInt8} (hg : s[i + m]? = some c) (hc : hexV c = some a) : HexIn s i (m + 1) (n * 16 + a) := by
  have ha := hexV_lt hc
  rcases h with ⟨h1, h2⟩ | ⟨h1, h2, x, h3, h5⟩ | ⟨h1, h2, _⟩
  · subst h1; subst h2; exact .inr (.inl ⟨rfl, by omega, c, hg, by rw [hc]; congr 1; omega⟩)
  · subst h1; exact .inr (.inr ⟨rfl, by omega, by unfold hexS; rw [h3]; simp only [h5]; rw [hg]; simp only [hc]⟩)
  · omega
theorem hexI_toNat (c : UInt8) : hexI c.toNat = match hexV c with
    | some a => (a : Int)
    | .none => -1 := by
  unfold hexI
  rw [show UInt8.ofNat c.toNat = c by simp]
  cases hexV c <;> rfl
theorem RW.drew {w0 w : World} {rb i : Nat} {bad : Option Nat} {s : ByteArray} (h : RW w0 rb s i bad w) : RW w0 rb s i bad w.drew := h.below (Below.refl _ _).drew
theorem RW.failing {w0 : World} {rb i : Nat} {s : ByteArray} (k : Nat) : Hid (∀ W, RW w0 rb s i none W → Calls Tryz.prog 40 #[.pointer (some ⟨rb, 0, none⟩), .int .i64 (k : Int)] W (RFailIs rb s i (some k) w0)) :=
  Lib.hid fun W hW => (rfail_good W hW.here k).mono fun e w' hh => ⟨hh.1, hW.trans hh.2⟩
theorem cast_or {a b c : Bool} : (a || (b || c)) = (a || b || c) := by cases a <;> rfl

set_option maxRecDepth 100000 in
set_option maxHeartbeats 4000000 in
theorem rone_none {rb : Nat} {s : ByteArray} {i : Nat} (w : World) (h : RW w rb s i none w) (hs : s.size ≤ 200) (hi : s.size = i) :
    Calls Tryz.prog 94 #[.pointer (some ⟨rb, 0, none⟩)] w (ROneAt rb s i 0 (some s.size) w) := by
  have a0 := h.c0
  have a1 := h.c1
  have HF := RW.failing (w0 := w) (rb := rb) (i := i) (s := s) s.size
  have H0 := Lib.hid h
  have d : decide ((s.size : Int) ≤ (i : Int)) = true := by simp; omega
  have d2 : decide (s.size ≤ i) = true := by simp; omega
  clear h hi
  unfold ROneAt RFailIs at *
  go_enter Tryz.func94, Tryz.ntmps94
  go_wp2_with fail
  go_region
  go_wp2_with fail
  refine (HF.out _ H0.out.drew).mono ?_
  rintro e w1 ⟨rfl, h1⟩
  have b2 : w1.cell? ⟨rb, 2, none⟩ = some (.int .i64 (s.size : Int)) := h1.c2
  have d3 : decide ((0 : Int) ≤ (s.size : Int)) = true := by simp
  have H1 := Lib.hid h1
  clear h1
  go_wp2_with fail
  go_ret
  exact ⟨rfl, H1.out⟩

set_option maxRecDepth 100000 in
set_option maxHeartbeats 4000000 in
theorem rone_low {rb : Nat} {s : ByteArray} {i : Nat} (w : World) (h : RW w rb s i none w) (hs : s.size ≤ 200) {c : UInt8} (hc : s.data.toList[i]? = some c) (h92 : c ≠ 92) (hb0 : decide ((c.toNat : Int) < 32) = true) :
    Calls Tryz.prog 94 #[.pointer (some ⟨rb, 0, none⟩)] w (ROneAt rb s (i + 1) c.toNat (some i) w) := by
  have a0 := h.c0
  have a1 := h.c1
  have a2 : w.cell? ⟨rb, 2, none⟩ = some (.int .i64 (-1)) := h.c2
  obtain ⟨hi, he⟩ := at_getR hc
  have hn : i < s.size := hi
  have hz : (0 : Int) ≤ (i : Int) := by omega
  have hlt : (i : Int) < (s.size : Int) := by omega
  have d : decide ((s.size : Int) ≤ (i : Int)) = false := by simp; omega
  have d2 : decide (s.size ≤ i) = false := by simp; omega
  have hb1 : ((c.toNat : Int) != 92) = true := by
    have : c.toNat ≠ 92 := fun e => h92 (UInt8.toNat_inj.1 e)
    simp; omega
  have HSG : Hid (∀ W, Calls Tryz.prog 80 #[.int .u8 (c.toNat : Int)] W (fun e w' => e = .returned (.bool (decide (c ∈ specialL))) ∧ w' = W)) := Lib.hid fun W => by
    have := RSigned_any c.toNat c.toNat_lt W
    rwa [show UInt8.ofNat c.toNat = c by simp] at this
  have HF := RW.failing (w0 := w) (rb := rb) (i := i) (s := s) i
  have H0 := Lib.hid h
  have hm := c.toNat_lt
  have hE : (s[i].toNat : Int) = (c.toNat : Int) := by rw [he]
  clear h hc h92 he
  generalize decide (c ∈ specialL) = sg at *
  generalize c.toNat = n at *
  unfold ROneAt at *
  unfold RFailIs at *
  go_enter Tryz.func94, Tryz.ntmps94
  go_wp2_with fail
  go_region
  go_wp2_with fail
  go_region
  go_wp2_with fail
  refine (HSG.out _).mono ?_
  rintro e w1 ⟨rfl, rfl⟩
  go_wp2_with fail
  refine (HF.out _ H0.out.drew.drew).mono ?_
  rintro e w1 ⟨rfl, h1⟩
  have b1 := h1.c1
  have bf := h1.f1
  have H1 := Lib.hid (h1.at (i + 1))
  clear h1
  go_wp2_with fail
  go_ret
  exact ⟨rfl, by have := H1.out; push_cast at this; exact this⟩

set_option maxRecDepth 100000 in
set_option maxHeartbeats 4000000 in
theorem rone_high {rb : Nat} {s : ByteArray} {i : Nat} (w : World) (h : RW w rb s i none w) (hs : s.size ≤ 200) {c : UInt8} (hc : s.data.toList[i]? = some c) (h92 : c ≠ 92) (hb0 : decide ((c.toNat : Int) < 32) = false) (hb1 : decide ((126 : Int) < (c.toNat : Int)) = true) :
    Calls Tryz.prog 94 #[.pointer (some ⟨rb, 0, none⟩)] w (ROneAt rb s (i + 1) c.toNat (some i) w) := by
  have a0 := h.c0
  have a1 := h.c1
  have a2 : w.cell? ⟨rb, 2, none⟩ = some (.int .i64 (-1)) := h.c2
  obtain ⟨hi, he⟩ := at_getR hc
  have hn : i < s.size := hi
  have hz : (0 : Int) ≤ (i : Int) := by omega
  have hlt : (i : Int) < (s.size : Int) := by omega
  have d : decide ((s.size : Int) ≤ (i : Int)) = false := by simp; omega
  have d2 : decide (s.size ≤ i) = false := by simp; omega
  have hb1 : ((c.toNat : Int) != 92) = true := by
    have : c.toNat ≠ 92 := fun e => h92 (UInt8.toNat_inj.1 e)
    simp; omega
  have HSG : Hid (∀ W, Calls Tryz.prog 80 #[.int .u8 (c.toNat : Int)] W (fun e w' => e = .returned (.bool (decide (c ∈ specialL))) ∧ w' = W)) := Lib.hid fun W => by
    have := RSigned_any c.toNat c.toNat_lt W
    rwa [show UInt8.ofNat c.toNat = c by simp] at this
  have HF := RW.failing (w0 := w) (rb := rb) (i := i) (s := s) i
  have H0 := Lib.hid h
  have hm := c.toNat_lt
  have hE : (s[i].toNat : Int) = (c.toNat : Int) := by rw [he]
  clear h hc h92 he
  generalize decide (c ∈ specialL) = sg at *
  generalize c.toNat = n at *
  unfold ROneAt at *
  unfold RFailIs at *
  go_enter Tryz.func94, Tryz.ntmps94
  go_wp2_with fail
  go_region
  go_wp2_with fail
  go_region
  go_wp2_with fail
  refine (HSG.out _).mono ?_
  rintro e w1 ⟨rfl, rfl⟩
  go_wp2_with fail
  refine (HF.out _ H0.out.drew.drew).mono ?_
  rintro e w1 ⟨rfl, h1⟩
  have b1 := h1.c1
  have bf := h1.f1
  have H1 := Lib.hid (h1.at (i + 1))
  clear h1
  go_wp2_with fail
  go_ret
  exact ⟨rfl, by have := H1.out; push_cast at this; exact this⟩

set_option maxRecDepth 100000 in
set_option maxHeartbeats 4000000 in
theorem rone_special {rb : Nat} {s : ByteArray} {i : Nat} (w : World) (h : RW w rb s i none w) (hs : s.size ≤ 200) {c : UInt8} (hc : s.data.toList[i]? = some c) (h92 : c ≠ 92) (hb0 : decide ((c.toNat : Int) < 32) = false) (hb1 : decide ((126 : Int) < (c.toNat : Int)) = false) (hb2 : decide (c ∈ specialL) = true) :
    Calls Tryz.prog 94 #[.pointer (some ⟨rb, 0, none⟩)] w (ROneAt rb s (i + 1) c.toNat (some i) w) := by
  have a0 := h.c0
  have a1 := h.c1
  have a2 : w.cell? ⟨rb, 2, none⟩ = some (.int .i64 (-1)) := h.c2
  obtain ⟨hi, he⟩ := at_getR hc
  have hn : i < s.size := hi
  have hz : (0 : Int) ≤ (i : Int) := by omega
  have hlt : (i : Int) < (s.size : Int) := by omega
  have d : decide ((s.size : Int) ≤ (i : Int)) = false := by simp; omega
  have d2 : decide (s.size ≤ i) = false := by simp; omega
  have hb1 : ((c.toNat : Int) != 92) = true := by
    have : c.toNat ≠ 92 := fun e => h92 (UInt8.toNat_inj.1 e)
    simp; omega
  have HSG : Hid (∀ W, Calls Tryz.prog 80 #[.int .u8 (c.toNat : Int)] W (fun e w' => e = .returned (.bool (decide (c ∈ specialL))) ∧ w' = W)) := Lib.hid fun W => by
    have := RSigned_any c.toNat c.toNat_lt W
    rwa [show UInt8.ofNat c.toNat = c by simp] at this
  have HF := RW.failing (w0 := w) (rb := rb) (i := i) (s := s) i
  have H0 := Lib.hid h
  have hm := c.toNat_lt
  have hE : (s[i].toNat : Int) = (c.toNat : Int) := by rw [he]
  clear h hc h92 he
  rw [hb2] at HSG
  clear hb2
  generalize c.toNat = n at *
  unfold ROneAt at *
  unfold RFailIs at *
  go_enter Tryz.func94, Tryz.ntmps94
  go_wp2_with fail
  go_region
  go_wp2_with fail
  go_region
  go_wp2_with fail
  refine (HSG.out _).mono ?_
  rintro e w1 ⟨rfl, rfl⟩
  go_wp2_with fail
  refine (HF.out _ H0.out.drew.drew).mono ?_
  rintro e w1 ⟨rfl, h1⟩
  have b1 := h1.c1
  have bf := h1.f1
  have H1 := Lib.hid (h1.at (i + 1))
  clear h1
  go_wp2_with fail
  go_ret
  exact ⟨rfl, by have := H1.out; push_cast at this; exact this⟩

set_option maxRecDepth 100000 in
set_option maxHeartbeats 4000000 in
theorem rone_plain {rb : Nat} {s : ByteArray} {i : Nat} (w : World) (h : RW w rb s i none w) (hs : s.size ≤ 200) {c : UInt8} (hc : s.data.toList[i]? = some c) (h92 : c ≠ 92) (hb0 : decide ((c.toNat : Int) < 32) = false) (hb1 : decide ((126 : Int) < (c.toNat : Int)) = false) (hb2 : decide (c ∈ specialL) = false) :
    Calls Tryz.prog 94 #[.pointer (some ⟨rb, 0, none⟩)] w (ROneAt rb s (i + 1) c.toNat none w) := by
  have a0 := h.c0
  have a1 := h.c1
  have a2 : w.cell? ⟨rb, 2, none⟩ = some (.int .i64 (-1)) := h.c2
  obtain ⟨hi, he⟩ := at_getR hc
  have hn : i < s.size := hi
  have hz : (0 : Int) ≤ (i : Int) := by omega
  have hlt : (i : Int) < (s.size : Int) := by omega
  have d : decide ((s.size : Int) ≤ (i : Int)) = false := by simp; omega
  have d2 : decide (s.size ≤ i) = false := by simp; omega
  have hb1 : ((c.toNat : Int) != 92) = true := by
    have : c.toNat ≠ 92 := fun e => h92 (UInt8.toNat_inj.1 e)
    simp; omega
  have HSG : Hid (∀ W, Calls Tryz.prog 80 #[.int .u8 (c.toNat : Int)] W (fun e w' => e = .returned (.bool (decide (c ∈ specialL))) ∧ w' = W)) := Lib.hid fun W => by
    have := RSigned_any c.toNat c.toNat_lt W
    rwa [show UInt8.ofNat c.toNat = c by simp] at this
  have H0 := Lib.hid h
  have f1 := h.f1
  have hm := c.toNat_lt
  have hE : (s[i].toNat : Int) = (c.toNat : Int) := by rw [he]
  clear h hc h92 he
  rw [hb2] at HSG
  clear hb2
  generalize c.toNat = n at *
  unfold ROneAt at *
  go_enter Tryz.func94, Tryz.ntmps94
  go_wp2_with fail
  go_region
  go_wp2_with fail
  go_region
  go_wp2_with fail
  refine (HSG.out _).mono ?_
  rintro e w1 ⟨rfl, rfl⟩
  go_wp2_with fail
  go_ret
  exact ⟨rfl, by have := H0.out.drew.drew.at (i + 1); push_cast at this; exact this⟩

set_option maxRecDepth 100000 in
set_option maxHeartbeats 4000000 in
theorem rone_b_none {rb : Nat} {s : ByteArray} {i : Nat} (w : World) (h : RW w rb s i none w) (hs : s.size ≤ 200) (hc : s.data.toList[i]? = some 92) (hd : s.size = i + 1) :
    Calls Tryz.prog 94 #[.pointer (some ⟨rb, 0, none⟩)] w (ROneAt rb s i 0 (some s.size) w) := by
  have a0 := h.c0
  have a1 := h.c1
  have a2 : w.cell? ⟨rb, 2, none⟩ = some (.int .i64 (-1)) := h.c2
  obtain ⟨hi, he⟩ := at_getR hc
  have hn : i < s.size := hi
  have hz : (0 : Int) ≤ (i : Int) := by omega
  have hlt : (i : Int) < (s.size : Int) := by omega
  have d : decide ((s.size : Int) ≤ (i : Int)) = false := by simp; omega
  have d2 : decide (s.size ≤ i) = false := by simp; omega
  have hb1 : ((92 : Int) != 92) = false := by decide
  have HSG : Hid (∀ W, Calls Tryz.prog 80 #[.int .u8 92] W (fun e w' => e = .returned (.bool true) ∧ w' = W)) := Lib.hid fun W => RSigned_any 92 (by omega) W
  have hE : (s[i].toNat : Int) = 92 := by rw [he]; rfl
  have HF := RW.failing (w0 := w) (rb := rb) (i := i) (s := s) s.size
  have H0 := Lib.hid h
  have d3 : decide ((s.size : Int) ≤ (i : Int) + 1) = true := by simp; omega
  have d4 : decide (s.size ≤ i + 1) = true := by simp; omega
  clear h hc he hd
  unfold ROneAt RFailIs at *
  go_enter Tryz.func94, Tryz.ntmps94
  go_wp2_with fail
  go_region
  go_wp2_with fail
  go_region
  go_wp2_with fail
  refine (HSG.out _).mono ?_
  rintro e w1 ⟨rfl, rfl⟩
  go_wp2_with fail
  go_region
  go_wp2_with fail
  refine (HF.out _ H0.out.drew.drew.drew).mono ?_
  rintro e w1 ⟨rfl, h1⟩
  have H1 := Lib.hid h1
  clear h1
  go_wp2_with fail
  go_ret
  exact ⟨rfl, H1.out⟩

set_option maxRecDepth 100000 in
set_option maxHeartbeats 4000000 in
theorem rone_b_special {rb : Nat} {s : ByteArray} {i : Nat} (w : World) (h : RW w rb s i none w) (hs : s.size ≤ 200) (hc : s.data.toList[i]? = some 92) {x : UInt8} (hd : s.data.toList[i + 1]? = some x) (hx : decide (x ∈ specialL) = true) :
    Calls Tryz.prog 94 #[.pointer (some ⟨rb, 0, none⟩)] w (ROneAt rb s (i + 2) x.toNat none w) := by
  have a0 := h.c0
  have a1 := h.c1
  have a2 : w.cell? ⟨rb, 2, none⟩ = some (.int .i64 (-1)) := h.c2
  obtain ⟨hi, he⟩ := at_getR hc
  have hn : i < s.size := hi
  have hz : (0 : Int) ≤ (i : Int) := by omega
  have hlt : (i : Int) < (s.size : Int) := by omega
  have d : decide ((s.size : Int) ≤ (i : Int)) = false := by simp; omega
  have d2 : decide (s.size ≤ i) = false := by simp; omega
  have hb1 : ((92 : Int) != 92) = false := by decide
  have HSG : Hid (∀ W, Calls Tryz.prog 80 #[.int .u8 92] W (fun e w' => e = .returned (.bool true) ∧ w' = W)) := Lib.hid fun W => RSigned_any 92 (by omega) W
  have hE : (s[i].toNat : Int) = 92 := by rw [he]; rfl
  obtain ⟨hi1, hf⟩ := at_getR hd
  have hn1 : i + 1 < s.size := hi1
  have hlt1 : (i : Int) + 1 < (s.size : Int) := by omega
  have hz1 : (0 : Int) ≤ (i : Int) + 1 := by omega
  have d3 : decide ((s.size : Int) ≤ (i : Int) + 1) = false := by simp; omega
  have d4 : decide (s.size ≤ i + 1) = false := by simp; omega
  have hm := x.toNat_lt
  have hG : (s[i + 1].toNat : Int) = (x.toNat : Int) := by rw [hf]
  have H0 := Lib.hid h
  have HS2 : Hid (∀ W, Calls Tryz.prog 80 #[.int .u8 (x.toNat : Int)] W (fun e w' => e = .returned (.bool true) ∧ w' = W)) := Lib.hid fun W => by
    have := RSigned_any x.toNat x.toNat_lt W
    rw [show UInt8.ofNat x.toNat = x by simp] at this
    rwa [hx] at this
  have f1 := h.f1
  clear h hc he hd hf hx
  generalize x.toNat = n at *
  unfold ROneAt at *
  go_enter Tryz.func94, Tryz.ntmps94
  go_wp2_with fail
  go_region
  go_wp2_with fail
  go_region
  go_wp2_with fail
  refine (HSG.out _).mono ?_
  rintro e w1 ⟨rfl, rfl⟩
  go_wp2_with fail
  go_region
  go_wp2_with fail
  go_region
  go_wp2_with fail
  refine (HS2.out _).mono ?_
  rintro e w1 ⟨rfl, rfl⟩
  go_wp2_with fail
  go_ret
  exact ⟨rfl, by have := H0.out.drew.drew.drew.drew.at (i + 2); push_cast at this; exact this⟩

set_option maxRecDepth 100000 in
set_option maxHeartbeats 4000000 in
theorem rone_b_bad {rb : Nat} {s : ByteArray} {i : Nat} (w : World) (h : RW w rb s i none w) (hs : s.size ≤ 200) (hc : s.data.toList[i]? = some 92) {x : UInt8} (hd : s.data.toList[i + 1]? = some x) (hx : decide (x ∈ specialL) = false) (h120 : x ≠ 120) :
    Calls Tryz.prog 94 #[.pointer (some ⟨rb, 0, none⟩)] w (ROneAt rb s i 0 (some i) w) := by
  have a0 := h.c0
  have a1 := h.c1
  have a2 : w.cell? ⟨rb, 2, none⟩ = some (.int .i64 (-1)) := h.c2
  obtain ⟨hi, he⟩ := at_getR hc
  have hn : i < s.size := hi
  have hz : (0 : Int) ≤ (i : Int) := by omega
  have hlt : (i : Int) < (s.size : Int) := by omega
  have d : decide ((s.size : Int) ≤ (i : Int)) = false := by simp; omega
  have d2 : decide (s.size ≤ i) = false := by simp; omega
  have hb1 : ((92 : Int) != 92) = false := by decide
  have HSG : Hid (∀ W, Calls Tryz.prog 80 #[.int .u8 92] W (fun e w' => e = .returned (.bool true) ∧ w' = W)) := Lib.hid fun W => RSigned_any 92 (by omega) W
  have hE : (s[i].toNat : Int) = 92 := by rw [he]; rfl
  obtain ⟨hi1, hf⟩ := at_getR hd
  have hn1 : i + 1 < s.size := hi1
  have hlt1 : (i : Int) + 1 < (s.size : Int) := by omega
  have hz1 : (0 : Int) ≤ (i : Int) + 1 := by omega
  have d3 : decide ((s.size : Int) ≤ (i : Int) + 1) = false := by simp; omega
  have d4 : decide (s.size ≤ i + 1) = false := by simp; omega
  have hm := x.toNat_lt
  have hG : (s[i + 1].toNat : Int) = (x.toNat : Int) := by rw [hf]
  have H0 := Lib.hid h
  have HS2 : Hid (∀ W, Calls Tryz.prog 80 #[.int .u8 (x.toNat : Int)] W (fun e w' => e = .returned (.bool false) ∧ w' = W)) := Lib.hid fun W => by
    have := RSigned_any x.toNat x.toNat_lt W
    rw [show UInt8.ofNat x.toNat = x by simp] at this
    rwa [hx] at this
  have HF := RW.failing (w0 := w) (rb := rb) (i := i) (s := s) i
  have hb2 : ((x.toNat : Int) != 120) = true := by
    have : x.toNat ≠ 120 := fun e => h120 (UInt8.toNat_inj.1 e)
    simp; omega
  clear h hc he hd hf hx h120
  generalize x.toNat = n at *
  unfold ROneAt RFailIs at *
  go_enter Tryz.func94, Tryz.ntmps94
  go_wp2_with fail
  go_region
  go_wp2_with fail
  go_region
  go_wp2_with fail
  refine (HSG.out _).mono ?_
  rintro e w1 ⟨rfl, rfl⟩
  go_wp2_with fail
  go_region
  go_wp2_with fail
  go_region
  go_wp2_with fail
  refine (HS2.out _).mono ?_
  rintro e w1 ⟨rfl, rfl⟩
  go_wp2_with fail
  refine (HF.out _ H0.out.drew.drew.drew.drew).mono ?_
  rintro e w1 ⟨rfl, h1⟩
  have H1 := Lib.hid h1
  clear h1
  go_wp2_with fail
  go_ret
  exact ⟨rfl, H1.out⟩

set_option maxRecDepth 100000 in
set_option maxHeartbeats 4000000 in
theorem rone_hex {rb : Nat} {s : ByteArray} {i : Nat} (w : World) (h : RW w rb s i none w) (hs : s.size ≤ 200) (hc : s.data.toList[i]? = some 92) (hd : s.data.toList[i + 1]? = some 120) :
    Calls Tryz.prog 94 #[.pointer (some ⟨rb, 0, none⟩)] w (ROneIs (hexS s.data.toList i) rb s i w) := by
  have a0 := h.c0
  have a1 := h.c1
  have a2 : w.cell? ⟨rb, 2, none⟩ = some (.int .i64 (-1)) := h.c2
  obtain ⟨hi, he⟩ := at_getR hc
  have hn : i < s.size := hi
  have hz : (0 : Int) ≤ (i : Int) := by omega
  have hlt : (i : Int) < (s.size : Int) := by omega
  have d : decide ((s.size : Int) ≤ (i : Int)) = false := by simp; omega
  have d2 : decide (s.size ≤ i) = false := by simp; omega
  have hb1 : ((92 : Int) != 92) = false := by decide
  have HSG : Hid (∀ W, Calls Tryz.prog 80 #[.int .u8 92] W (fun e w' => e = .returned (.bool true) ∧ w' = W)) := Lib.hid fun W => RSigned_any 92 (by omega) W
  have hE : (s[i].toNat : Int) = 92 := by rw [he]; rfl
  obtain ⟨hi1, hf⟩ := at_getR hd
  have hn1 : i + 1 < s.size := hi1
  have hlt1 : (i : Int) + 1 < (s.size : Int) := by omega
  have hz1 : (0 : Int) ≤ (i : Int) + 1 := by omega
  have d3 : decide ((s.size : Int) ≤ (i : Int) + 1) = false := by simp; omega
  have d4 : decide (s.size ≤ i + 1) = false := by simp; omega
  have hG : (s[i + 1].toNat : Int) = 120 := by rw [hf]; rfl
  have H0 := Lib.hid h
  have HS2 : Hid (∀ W, Calls Tryz.prog 80 #[.int .u8 120] W (fun e w' => e = .returned (.bool false) ∧ w' = W)) := Lib.hid fun W => RSigned_any 120 (by omega) W
  have hb2 : ((120 : Int) != 120) = false := by decide
  clear h hc he hd hf
  obtain ⟨L, hL⟩ : ∃ L, L = s.data.toList := ⟨_, rfl⟩
  have HLZ : Hid (L.length = s.size) := Lib.hid (by rw [hL]; simp)
  have HGL : Hid (∀ k c, L[k]? = some c → ∃ hk : k < s.size, s[k] = c) := Lib.hid (by rw [hL]; exact fun k c => at_getR)
  rw [← hL]
  clear hL
  unfold ROneIs ROneAt at *
  go_enter Tryz.func94, Tryz.ntmps94
  go_wp2_with fail
  go_region
  go_wp2_with fail
  go_region
  go_wp2_with fail
  refine (HSG.out _).mono ?_
  rintro e w1 ⟨rfl, rfl⟩
  go_wp2_with fail
  go_region
  go_wp2_with fail
  go_region
  go_wp2_with fail
  refine (HS2.out _).mono ?_
  rintro e w1 ⟨rfl, rfl⟩
  go_wp2_with fail
  go_loopw [7, 8] (fun v7 v8 wr => ∃ (m n : Nat), v8 = .int .i64 (m : Int) ∧ v7 = .int .i64 (n : Int) ∧ Hid (HexIn L i m n) ∧ Hid (RW w rb s i none wr)) (fun _ v8 _ => 4 - (intOf v8).toNat)
  case atStart => exact ⟨2, 0, rfl, rfl, Lib.hid (.inl ⟨rfl, rfl⟩), Lib.hid H0.out.drew.drew.drew.drew⟩
  case round =>
    obtain ⟨m, n, rfl, rfl, HX, HR⟩ := hrel
    obtain ⟨hm2, hm4, hn256, hn16⟩ := HX.out.lt
    have r0 := HR.out.c0
    have r1 := HR.out.c1
    by_cases hlt4 : m < 4
    · have hn16' := hn16 hlt4
      clear hn16
      have dm : decide ((m : Int) < 4) = true := by simp; omega
      cases hg : L[i + m]? with
      | none =>
        have hge := List.getElem?_eq_none_iff.1 hg
        rw [HLZ.out] at hge
        have d5 : decide ((s.size : Int) ≤ (i : Int) + (m : Int)) = true := by simp; omega
        have d6 : decide (s.size ≤ i + m) = true := by simp; omega
        have HF := RW.failing (w0 := w) (rb := rb) (i := i) (s := s) s.size
        have HB : Hid (hexS L i = .bad s.size) := Lib.hid (by rw [HX.out.none hlt4 hg, HLZ.out])
        unfold RFailIs at HF
        clear hg hge
        go_wp2_with fail
        go_quiet (fail)
        go_wp2_with fail
        refine (HF.out _ (HR.out.below (below_drewN (Below.refl _ _) _))).mono ?_
        rintro e w1 ⟨rfl, h1⟩
        have H1 := Lib.hid h1
        clear h1
        go_wp2_with fail
        go_ret
        exact .inr ⟨s.size, 0, i, HB.out, by omega, by omega, by omega, rfl, H1.out⟩
      | some c =>
        obtain ⟨hik, hek⟩ := HGL.out _ _ hg
        have hnk : i + m < s.size := hik
        have hltk : (i : Int) + (m : Int) < (s.size : Int) := by omega
        have hzk : (0 : Int) ≤ (i : Int) + (m : Int) := by omega
        have d5 : decide ((s.size : Int) ≤ (i : Int) + (m : Int)) = false := by simp; omega
        have d6 : decide (s.size ≤ i + m) = false := by simp; omega
        have hGk : (s[i + m].toNat : Int) = (c.toNat : Int) := by rw [hek]
        have hcm := c.toNat_lt
        have HHX := Lib.hid fun W => rhex_any c.toNat hcm W
        cases hv : hexV c with
        | none =>
          have HB : Hid (hexS L i = .bad i) := Lib.hid (HX.out.bad hlt4 hg hv)
          have HF := RW.failing (w0 := w) (rb := rb) (i := i) (s := s) i
          unfold RFailIs at HF
          rw [hexI_toNat, hv] at HHX
          clear hg hek hv
          generalize c.toNat = cn at *
          go_wp2_with fail
          go_quiet (fail)
          go_wp2_with fail
          go_quiet (first | (go_at_call 120; refine (HHX.out _).mono ?_; rintro e w1 ⟨rfl, rfl⟩; exact ⟨rfl, _, rfl⟩))
          go_wp2_with fail
          refine (HF.out _ (HR.out.below (below_drewN (Below.refl _ _) _))).mono ?_
          rintro e w1 ⟨rfl, h1⟩
          have H1 := Lib.hid h1
          clear h1
          go_wp2_with fail
          go_ret
          exact .inr ⟨i, 0, i, HB.out, by omega, by omega, by omega, rfl, H1.out⟩
        | some a =>
          have HN : Hid (HexIn L i (m + 1) (n * 16 + a)) := Lib.hid (HX.out.next hlt4 hg hv)
          have ha := hexV_lt hv
          rw [hexI_toNat, hv] at HHX
          have da : decide ((a : Int) < 0) = false := by simp
          have hmul : Go.RowKit.wrap64 ((n : Int) * 16) = (n : Int) * 16 := Go.IntWalk.wrap64_in _ (by omega)
          clear hg hek hv
          generalize c.toNat = cn at *
          go_wp2_with fail
          go_quiet (fail)
          go_wp2_with fail
          go_quiet (first | (go_at_call 120; refine (HHX.out _).mono ?_; rintro e w1 ⟨rfl, rfl⟩; exact ⟨rfl, _, rfl⟩))
          go_wp2_with fail
          go_roundw
          case rel => exact ⟨m + 1, n * 16 + a, by go_num, by go_num, HN, Lib.hid (HR.out.below (below_drewN (Below.refl _ _) _))⟩
          case measure => simp [intOf]; omega
    · obtain rfl : m = 4 := by omega
      have f1 := HR.out.f1
      have HB : Hid (hexS L i = .ok n (i + 4)) := Lib.hid (by
        rcases HX.out with ⟨h1, _⟩ | ⟨h1, _⟩ | ⟨_, _, h3⟩
        · omega
        · omega
        · exact h3)
      have hfit : Hid (i + 4 ≤ s.size) := Lib.hid (by
        have := (hexS_ok HB.out).2.1
        rw [HLZ.out] at this
        exact this)
      clear hn16
      go_wp2_with fail
      go_ret
      exact .inl ⟨n, i + 4, HB.out, hn256, by omega, hfit.out, rfl, by have := HR.out.at (i + 4); push_cast at this; exact this⟩

theorem rone_c {rb : Nat} {s : ByteArray} {i : Nat} (w : World) (h : RW w rb s i none w) (hs : s.size ≤ 200) (hi : i ≤ s.size) :
    Calls Tryz.prog 94 #[.pointer (some ⟨rb, 0, none⟩)] w (ROneIs (oneS s.data.toList i) rb s i w) := by
  have hend : s.data.toList.length = s.size := by simp
  have good : ∀ a j, oneS s.data.toList i = .ok a j → Calls Tryz.prog 94 #[.pointer (some ⟨rb, 0, none⟩)] w (ROneAt rb s j a none w) → Calls Tryz.prog 94 #[.pointer (some ⟨rb, 0, none⟩)] w (ROneIs (oneS s.data.toList i) rb s i w) := fun a j h1 h2 => h2.mono fun e w' hh => .inl ⟨a, j, h1, (oneS_ok h1).2.2, (oneS_ok h1).1, by have := (oneS_ok h1).2.1; omega, hh⟩
  have bad : ∀ k a j, oneS s.data.toList i = .bad k → a < 256 → i ≤ j → j ≤ i + 1 → Calls Tryz.prog 94 #[.pointer (some ⟨rb, 0, none⟩)] w (ROneAt rb s j a (some k) w) → Calls Tryz.prog 94 #[.pointer (some ⟨rb, 0, none⟩)] w (ROneIs (oneS s.data.toList i) rb s i w) := fun k a j h1 h2 h3 h4 h5 => h5.mono fun e w' hh => .inr ⟨k, a, j, h1, h2, h3, h4, hh⟩
  cases hc : s.data.toList[i]? with
  | none => exact bad _ 0 i (by unfold oneS; rw [hc, hend]) (by omega) (by omega) (by omega) (rone_none w h hs (by have := at_noneR hc; omega))
  | some c =>
    by_cases h92 : c = 92
    · subst h92
      obtain ⟨hi2, _⟩ := at_getR hc
      cases hd : s.data.toList[i + 1]? with
      | none => exact bad _ 0 i (by unfold oneS; rw [hc]; simp only [if_true]; rw [hd, hend]) (by omega) (by omega) (by omega) (rone_b_none w h hs hc (by have := at_noneR hd; omega))
      | some d =>
        by_cases hx : d = 120
        · subst hx
          have hone : oneS s.data.toList i = hexS s.data.toList i := by unfold oneS; rw [hc]; simp only [if_true]; rw [hd]; simp only [if_true]
          rw [hone]
          exact rone_hex w h hs hc hd
        · by_cases h3 : d ∈ specialL
          · exact good _ _ (by unfold oneS; rw [hc]; simp only [if_true]; rw [hd]; simp only [if_neg hx, if_pos h3]) (rone_b_special w h hs hc hd (by simpa using h3))
          · exact bad _ 0 i (by unfold oneS; rw [hc]; simp only [if_true]; rw [hd]; simp only [if_neg hx, if_neg h3]) (by omega) (by omega) (by omega) (rone_b_bad w h hs hc hd (by simpa using h3) hx)
    · have hm := c.toNat_lt
      by_cases h1 : c.toNat < 32
      · exact bad _ c.toNat (i + 1) (by unfold oneS; rw [hc]; simp only [if_neg h92, if_pos (show c.toNat < 32 ∨ 126 < c.toNat ∨ c ∈ specialL from .inl h1)]) hm (by omega) (by omega) (rone_low w h hs hc h92 (by simp; omega))
      · by_cases h2 : 126 < c.toNat
        · exact bad _ c.toNat (i + 1) (by unfold oneS; rw [hc]; simp only [if_neg h92, if_pos (show c.toNat < 32 ∨ 126 < c.toNat ∨ c ∈ specialL from .inr (.inl h2))]) hm (by omega) (by omega) (rone_high w h hs hc h92 (by simp; omega) (by simp; omega))
        · by_cases h3 : c ∈ specialL
          · exact bad _ c.toNat (i + 1) (by unfold oneS; rw [hc]; simp only [if_neg h92, if_pos (show c.toNat < 32 ∨ 126 < c.toNat ∨ c ∈ specialL from .inr (.inr h3))]) hm (by omega) (by omega) (rone_special w h hs hc h92 (by simp; omega) (by simp; omega) (by simpa using h3))
          · exact good _ _ (by unfold oneS; rw [hc]; simp only [if_neg h92]; rw [if_neg (by rintro (q | q | q); exact h1 q; exact h2 q; exact h3 q)]) (rone_plain w h hs hc h92 (by simp; omega) (by simp; omega) (by simpa using h3))
end Go.Proofs.YthcahjnniendnacGreatDoor
