/-
  Walks of package syn: one byte.
-/
import Derived.Test.YthcahjnniendnabDoorSynC
namespace Go.Proofs.YthcahjnniendnabDoor
open Go.RowKit Wf

/-- A parser's call that reads something: it hands the value back and stands behind it, or it stops. -/
def RdB (r : PR Nat) (pb : Nat) (s : ByteArray) (w : World) (e : Ending) (w' : World) : Prop :=
  (∃ a j, r = .ok a j ∧ e = .returned (.int .u8 (a : Int)) ∧ PW w pb s j w') ∨ (∃ k, r = .bad k ∧ PS w pb k e w')

theorem RdB.ok {r : PR Nat} {pb : Nat} {s : ByteArray} {w w' : World} {e : Ending} {a j : Nat} (hr : r = .ok a j) (h : RdB r pb s w e w') : e = .returned (.int .u8 (a : Int)) ∧ PW w pb s j w' := by
  rcases h with ⟨a', j', h1, h2, h3⟩ | ⟨k, h1, _⟩
  · rw [hr] at h1; cases h1; exact ⟨h2, h3⟩
  · rw [hr] at h1; cases h1
theorem RdB.bad {r : PR Nat} {pb : Nat} {s : ByteArray} {w w' : World} {e : Ending} {k : Nat} (hr : r = .bad k) (h : RdB r pb s w e w') : PS w pb k e w' := by
  rcases h with ⟨a', j', h1, h2, h3⟩ | ⟨k', h1, h2⟩
  · rw [hr] at h1; cases h1
  · rw [hr] at h1; cases h1; exact h2

/-- The bounds and the memory that a parser walks on. -/
structure PIn (ev : Value) (pb : Nat) (s : ByteArray) (i : Nat) (w : World) : Prop where
  pw : PW w pb s i w
  sz : s.size ≤ 200
  le : i ≤ s.size
  ev : SynE ev w
  ne : 5 ≠ pb
theorem PIn.next {ev : Value} {pb : Nat} {s : ByteArray} {i j : Nat} {w w' : World} (h : PIn ev pb s i w) (h' : PW w pb s j w') (hj : j ≤ s.size) : PIn ev pb s j w' :=
  ⟨h'.here, h.sz, hj, ⟨(World.grownBy.cell_far h'.grow ⟨5, 0, none⟩ (World.block_lt_of_cell? w _ h.ev.1) (fun e => h.ne (Option.some.inj e))).trans h.ev.1, h.ev.2⟩, h.ne⟩
theorem PIn.below {ev : Value} {pb : Nat} {s : ByteArray} {i : Nat} {w w' : World} (h : PIn ev pb s i w) (hb : Below w.heap.size w w') : PIn ev pb s i w' := h.next (h.pw.below hb) h.le

theorem shl_or : ∀ (a b : Fin 16), bits .or .u8 ((a.val : Int) * 16) ((b.val : Nat) : Int) = ((a.val * 16 + b.val : Nat) : Int) := by decide +kernel

/-- A byte, and the parser behind it. -/
def ByteAt (pb : Nat) (s : ByteArray) (j a : Nat) (w : World) (e : Ending) (w' : World) : Prop := e = .returned (.int .u8 (a : Int)) ∧ PW w pb s j w'
theorem Spec_c (n : Nat) (hn : n < 256) : ∃ q : Int, Hid (∀ W, Calls Tryd.prog 92 #[.string ⟨#[92, 46, 91, 93, 40, 41, 124, 42, 43, 63, 94, 36, 45]⟩, .int .u8 (n : Int)] W (fun e w' => e = .returned (.int .i64 q) ∧ W = w')) ∧ (0 ≤ q ↔ UInt8.ofNat n ∈ specialL) := by
  refine ⟨_, Lib.hid (fun W => (IndexB_c _ _ W).mono ?_), specIdx ⟨n, hn⟩⟩
  rintro e w' ⟨rfl, rfl⟩
  exact ⟨rfl, rfl⟩

set_option maxRecDepth 100000 in
set_option maxHeartbeats 4000000 in
theorem one_none {ev : Value} {pb : Nat} {s : ByteArray} {i : Nat} (w : World) (h : PIn ev pb s i w) (hc : s.data.toList[i]? = none) :
    Calls Tryd.prog 155 #[.pointer (some ⟨pb, 0, none⟩)] w (PS w pb s.size) := by
  have c1 := h.pw.c1
  have HN1 := Lib.hid (next_none w h.pw h.sz h.le hc)
  clear h hc
  unfold PS at *
  go_enter Tryd.func155, Tryd.ntmps155
  go_wp2_with (first
    | (go_at_call 165; refine HN1.out.mono ?_; rintro e w1 ⟨rfl, hp1⟩))
  exact ⟨rfl, rfl, hp1⟩

set_option maxRecDepth 100000 in
set_option maxHeartbeats 4000000 in
theorem one_plain {ev : Value} {pb : Nat} {s : ByteArray} {i : Nat} (w : World) (h : PIn ev pb s i w) {c : UInt8} (hc : s.data.toList[i]? = some c) (h92 : c ≠ 92) (h1 : 32 ≤ c.toNat) (h2 : c.toNat ≤ 126) (h3 : c ∉ specialL) :
    Calls Tryd.prog 155 #[.pointer (some ⟨pb, 0, none⟩)] w (ByteAt pb s (i + 1) c.toNat w) := by
  have c1 := h.pw.c1
  have HN1 := Lib.hid (next_some w h.pw h.sz hc)
  obtain ⟨q, HQ, hq⟩ := Spec_c c.toNat c.toNat_lt
  have hq2 : q < 0 := by
    have h4 : ¬ (0 ≤ q) := fun h => h3 (by simpa using hq.1 h)
    omega
  have hb : ((c.toNat : Int) != 92) = true := by
    have : c.toNat ≠ 92 := fun e => h92 (UInt8.toNat_inj.1 e)
    simp; omega
  clear h hc h92 h3 hq
  generalize c.toNat = n at *
  unfold ByteAt
  go_enter Tryd.func155, Tryd.ntmps155
  go_wp2_with (first
    | (go_at_call 165; refine HN1.out.mono ?_; rintro e w1 ⟨rfl, hp1⟩)
    | (go_at_call 92; refine (HQ.out _).mono ?_; rintro e w' ⟨rfl, rfl⟩))
  go_ret
  exact ⟨rfl, hp1⟩

set_option maxRecDepth 100000 in
set_option maxHeartbeats 4000000 in
theorem one_low {ev : Value} {pb : Nat} {s : ByteArray} {i : Nat} (w : World) (h : PIn ev pb s i w) {c : UInt8} (hc : s.data.toList[i]? = some c) (h1 : c.toNat < 32) :
    Calls Tryd.prog 155 #[.pointer (some ⟨pb, 0, none⟩)] w (PS w pb i) := by
  have c1 := h.pw.c1
  have HN1 := Lib.hid (next_some w h.pw h.sz hc)
  have hb : ((c.toNat : Int) != 92) = true := by
    have : c.toNat ≠ 92 := by omega
    simp; omega
  have hl : (c.toNat : Int) < 32 := by omega
  clear h hc
  generalize c.toNat = n at *
  unfold PS stopV
  go_enter Tryd.func155, Tryd.ntmps155
  go_wp2_with (first
    | (go_at_call 165; refine HN1.out.mono ?_; rintro e w1 ⟨rfl, hp1⟩))
  exact ⟨rfl, rfl, hp1.grow⟩

set_option maxRecDepth 100000 in
set_option maxHeartbeats 4000000 in
theorem one_high {ev : Value} {pb : Nat} {s : ByteArray} {i : Nat} (w : World) (h : PIn ev pb s i w) {c : UInt8} (hc : s.data.toList[i]? = some c) (h1 : 126 < c.toNat) :
    Calls Tryd.prog 155 #[.pointer (some ⟨pb, 0, none⟩)] w (PS w pb i) := by
  have c1 := h.pw.c1
  have HN1 := Lib.hid (next_some w h.pw h.sz hc)
  have hb : ((c.toNat : Int) != 92) = true := by
    have : c.toNat ≠ 92 := by omega
    simp; omega
  have hl : (126 : Int) < (c.toNat : Int) := by omega
  clear h hc
  generalize c.toNat = n at *
  unfold PS stopV
  go_enter Tryd.func155, Tryd.ntmps155
  go_wp2_with (first
    | (go_at_call 165; refine HN1.out.mono ?_; rintro e w1 ⟨rfl, hp1⟩))
  exact ⟨rfl, rfl, hp1.grow⟩

set_option maxRecDepth 100000 in
set_option maxHeartbeats 4000000 in
theorem one_special {ev : Value} {pb : Nat} {s : ByteArray} {i : Nat} (w : World) (h : PIn ev pb s i w) {c : UInt8} (hc : s.data.toList[i]? = some c) (h92 : c ≠ 92) (h1 : 32 ≤ c.toNat) (h2 : c.toNat ≤ 126) (h3 : c ∈ specialL) :
    Calls Tryd.prog 155 #[.pointer (some ⟨pb, 0, none⟩)] w (PS w pb i) := by
  have c1 := h.pw.c1
  have HN1 := Lib.hid (next_some w h.pw h.sz hc)
  obtain ⟨q, HQ, hq⟩ := Spec_c c.toNat c.toNat_lt
  have hq2 : 0 ≤ q := hq.2 (by simpa using h3)
  have hb : ((c.toNat : Int) != 92) = true := by
    have : c.toNat ≠ 92 := fun e => h92 (UInt8.toNat_inj.1 e)
    simp; omega
  clear h92 h3 hq
  clear h hc
  generalize c.toNat = n at *
  unfold PS stopV
  go_enter Tryd.func155, Tryd.ntmps155
  go_wp2_with (first
    | (go_at_call 165; refine HN1.out.mono ?_; rintro e w1 ⟨rfl, hp1⟩)
    | (go_at_call 92; refine (HQ.out _).mono ?_; rintro e w' ⟨rfl, rfl⟩))
  exact ⟨rfl, rfl, hp1.grow⟩

theorem PIn.at {ev : Value} {pb : Nat} {s : ByteArray} {i j : Nat} {w w' : World} (h : PIn ev pb s i w) (h' : PW w pb s j w') : PW w' pb s j w' := h'.here

set_option maxRecDepth 100000 in
set_option maxHeartbeats 4000000 in
theorem one_b_none {ev : Value} {pb : Nat} {s : ByteArray} {i : Nat} (w : World) (h : PIn ev pb s i w) (hc : s.data.toList[i]? = some 92) (hd : s.data.toList[i + 1]? = none) :
    Calls Tryd.prog 155 #[.pointer (some ⟨pb, 0, none⟩)] w (PS w pb s.size) := by
  have c1 := h.pw.c1
  obtain ⟨hi, _⟩ := at_get hc
  have HN1 : Hid (Calls Tryd.prog 165 #[.pointer (some ⟨pb, 0, none⟩)] w (NextIs8 pb s i 92 w)) := Lib.hid (next_some w h.pw h.sz hc)
  have HN2 := Lib.hid (fun w1 (h1 : PW w pb s (i + 1) w1) => next_none w1 h1.here h.sz (by omega) hd)
  clear h hc hd
  unfold PS at *
  go_enter Tryd.func155, Tryd.ntmps155
  go_wp2_with (first
    | (go_at_call 165; refine HN1.out.mono ?_; rintro e w1 ⟨rfl, hp1⟩)
    | (go_at_call 165; refine (HN2.out w1 hp1).mono ?_; rintro e w2 ⟨rfl, hp2⟩))
  exact ⟨rfl, rfl, hp1.grow.trans hp2⟩

set_option maxRecDepth 100000 in
set_option maxHeartbeats 4000000 in
theorem one_b_special {ev : Value} {pb : Nat} {s : ByteArray} {i : Nat} (w : World) (h : PIn ev pb s i w) (hc : s.data.toList[i]? = some 92) {d : UInt8} (hd : s.data.toList[i + 1]? = some d) (hx : d ≠ 120) (h3 : d ∈ specialL) :
    Calls Tryd.prog 155 #[.pointer (some ⟨pb, 0, none⟩)] w (ByteAt pb s (i + 2) d.toNat w) := by
  have c1 := h.pw.c1
  obtain ⟨hi, _⟩ := at_get hc
  have HN1 : Hid (Calls Tryd.prog 165 #[.pointer (some ⟨pb, 0, none⟩)] w (NextIs8 pb s i 92 w)) := Lib.hid (next_some w h.pw h.sz hc)
  have HN2 := Lib.hid (fun w1 (h1 : PW w pb s (i + 1) w1) => next_some w1 h1.here h.sz hd)
  obtain ⟨q, HQ, hq⟩ := Spec_c d.toNat d.toNat_lt
  have hq2 : 0 ≤ q := hq.2 (by simpa using h3)
  have hb : ((d.toNat : Int) == 120) = false := by
    have : d.toNat ≠ 120 := fun e => hx (UInt8.toNat_inj.1 e)
    simp; omega
  clear h hc hd hx h3 hq
  generalize d.toNat = n at *
  unfold ByteAt
  go_enter Tryd.func155, Tryd.ntmps155
  go_wp2_with (first
    | (go_at_call 165; refine HN1.out.mono ?_; rintro e w1 ⟨rfl, hp1⟩)
    | (go_at_call 165; refine (HN2.out w1 hp1).mono ?_; rintro e w2 ⟨rfl, hp2⟩)
    | (go_at_call 92; refine (HQ.out _).mono ?_; rintro e w' ⟨rfl, rfl⟩))
  go_ret
  exact ⟨rfl, hp1.trans hp2⟩

set_option maxRecDepth 100000 in
set_option maxHeartbeats 4000000 in
theorem one_b_bad {ev : Value} {pb : Nat} {s : ByteArray} {i : Nat} (w : World) (h : PIn ev pb s i w) (hc : s.data.toList[i]? = some 92) {d : UInt8} (hd : s.data.toList[i + 1]? = some d) (hx : d ≠ 120) (h3 : d ∉ specialL) :
    Calls Tryd.prog 155 #[.pointer (some ⟨pb, 0, none⟩)] w (PS w pb i) := by
  have c1 := h.pw.c1
  obtain ⟨hi, _⟩ := at_get hc
  have HN1 : Hid (Calls Tryd.prog 165 #[.pointer (some ⟨pb, 0, none⟩)] w (NextIs8 pb s i 92 w)) := Lib.hid (next_some w h.pw h.sz hc)
  have HN2 := Lib.hid (fun w1 (h1 : PW w pb s (i + 1) w1) => next_some w1 h1.here h.sz hd)
  obtain ⟨q, HQ, hq⟩ := Spec_c d.toNat d.toNat_lt
  have hq2 : q < 0 := by
    have h4 : ¬ (0 ≤ q) := fun h => h3 (by simpa using hq.1 h)
    omega
  have hb : ((d.toNat : Int) == 120) = false := by
    have : d.toNat ≠ 120 := fun e => hx (UInt8.toNat_inj.1 e)
    simp; omega
  clear h hc hd hx h3 hq
  generalize d.toNat = n at *
  unfold PS stopV
  go_enter Tryd.func155, Tryd.ntmps155
  go_wp2_with (first
    | (go_at_call 165; refine HN1.out.mono ?_; rintro e w1 ⟨rfl, hp1⟩)
    | (go_at_call 165; refine (HN2.out w1 hp1).mono ?_; rintro e w2 ⟨rfl, hp2⟩)
    | (go_at_call 92; refine (HQ.out _).mono ?_; rintro e w' ⟨rfl, rfl⟩))
  exact ⟨rfl, rfl, (hp1.trans hp2).grow⟩

set_option maxRecDepth 100000 in
set_option maxHeartbeats 4000000 in
theorem one_x_bad1 {ev : Value} {pb : Nat} {s : ByteArray} {i : Nat} (w : World) (h : PIn ev pb s i w) (hc : s.data.toList[i]? = some 92) (hd : s.data.toList[i + 1]? = some 120) {k : Nat} (hx1 : ∀ w2, PW w pb s (i + 2) w2 → Calls Tryd.prog 166 #[.pointer (some ⟨pb, 0, none⟩), .int .i64 (i : Int)] w2 (PS w2 pb k)) :
    Calls Tryd.prog 155 #[.pointer (some ⟨pb, 0, none⟩)] w (PS w pb k) := by
  have c1 := h.pw.c1
  obtain ⟨hi, _⟩ := at_get hc
  have HN1 : Hid (Calls Tryd.prog 165 #[.pointer (some ⟨pb, 0, none⟩)] w (NextIs8 pb s i 92 w)) := Lib.hid (next_some w h.pw h.sz hc)
  have HN2 : Hid (∀ w1, PW w pb s (i + 1) w1 → Calls Tryd.prog 165 #[.pointer (some ⟨pb, 0, none⟩)] w1 (NextIs8 pb s (i + 1) 120 w1)) := Lib.hid (fun w1 h1 => next_some w1 h1.here h.sz hd)
  have HX1 := Lib.hid hx1
  clear h hc hd hx1
  unfold PS at *
  go_enter Tryd.func155, Tryd.ntmps155
  go_wp2_with (first
    | (go_at_call 165; refine HN1.out.mono ?_; rintro e w1 ⟨rfl, hp1⟩)
    | (go_at_call 165; refine (HN2.out w1 hp1).mono ?_; rintro e w2 ⟨rfl, hp2⟩)
    | (go_at_call 166; refine (HX1.out w2 (hp1.trans hp2)).mono ?_; rintro e w3 ⟨rfl, hp3⟩))
  exact ⟨rfl, rfl, (hp1.trans hp2).grow.trans hp3⟩

set_option maxRecDepth 100000 in
set_option maxHeartbeats 4000000 in
theorem one_x_bad2 {ev : Value} {pb : Nat} {s : ByteArray} {i : Nat} (w : World) (h : PIn ev pb s i w) (hc : s.data.toList[i]? = some 92) (hd : s.data.toList[i + 1]? = some 120) {k : Nat} {a : Nat} (hx1 : ∀ w2, PW w pb s (i + 2) w2 → Calls Tryd.prog 166 #[.pointer (some ⟨pb, 0, none⟩), .int .i64 (i : Int)] w2 (HexIs pb s (i + 2) a w2)) (hx2 : ∀ w3, PW w pb s (i + 3) w3 → Calls Tryd.prog 166 #[.pointer (some ⟨pb, 0, none⟩), .int .i64 (i : Int)] w3 (PS w3 pb k)) :
    Calls Tryd.prog 155 #[.pointer (some ⟨pb, 0, none⟩)] w (PS w pb k) := by
  have c1 := h.pw.c1
  obtain ⟨hi, _⟩ := at_get hc
  have HN1 : Hid (Calls Tryd.prog 165 #[.pointer (some ⟨pb, 0, none⟩)] w (NextIs8 pb s i 92 w)) := Lib.hid (next_some w h.pw h.sz hc)
  have HN2 : Hid (∀ w1, PW w pb s (i + 1) w1 → Calls Tryd.prog 165 #[.pointer (some ⟨pb, 0, none⟩)] w1 (NextIs8 pb s (i + 1) 120 w1)) := Lib.hid (fun w1 h1 => next_some w1 h1.here h.sz hd)
  have HX1 := Lib.hid hx1
  have HX2 := Lib.hid hx2
  clear h hc hd hx1 hx2
  unfold PS at *
  go_enter Tryd.func155, Tryd.ntmps155
  go_wp2_with (first
    | (go_at_call 165; refine HN1.out.mono ?_; rintro e w1 ⟨rfl, hp1⟩)
    | (go_at_call 165; refine (HN2.out w1 hp1).mono ?_; rintro e w2 ⟨rfl, hp2⟩)
    | (go_at_call 166; refine (HX1.out w2 (hp1.trans hp2)).mono ?_; rintro e w3 ⟨rfl, hp3⟩)
    | (go_at_call 166; refine (HX2.out w3 ((hp1.trans hp2).trans hp3)).mono ?_; rintro e w4 ⟨rfl, hp4⟩))
  exact ⟨rfl, rfl, ((hp1.trans hp2).trans hp3).grow.trans hp4⟩

set_option maxRecDepth 100000 in
set_option maxHeartbeats 4000000 in
theorem one_x_ok {ev : Value} {pb : Nat} {s : ByteArray} {i : Nat} (w : World) (h : PIn ev pb s i w) (hc : s.data.toList[i]? = some 92) (hd : s.data.toList[i + 1]? = some 120) {b : Nat} {a : Nat} (hx1 : ∀ w2, PW w pb s (i + 2) w2 → Calls Tryd.prog 166 #[.pointer (some ⟨pb, 0, none⟩), .int .i64 (i : Int)] w2 (HexIs pb s (i + 2) a w2)) (hx2 : ∀ w3, PW w pb s (i + 3) w3 → Calls Tryd.prog 166 #[.pointer (some ⟨pb, 0, none⟩), .int .i64 (i : Int)] w3 (HexIs pb s (i + 3) b w3)) (ha : a < 16) (hb : b < 16) :
    Calls Tryd.prog 155 #[.pointer (some ⟨pb, 0, none⟩)] w (ByteAt pb s (i + 4) (a * 16 + b) w) := by
  have c1 := h.pw.c1
  obtain ⟨hi, _⟩ := at_get hc
  have HN1 : Hid (Calls Tryd.prog 165 #[.pointer (some ⟨pb, 0, none⟩)] w (NextIs8 pb s i 92 w)) := Lib.hid (next_some w h.pw h.sz hc)
  have HN2 : Hid (∀ w1, PW w pb s (i + 1) w1 → Calls Tryd.prog 165 #[.pointer (some ⟨pb, 0, none⟩)] w1 (NextIs8 pb s (i + 1) 120 w1)) := Lib.hid (fun w1 h1 => next_some w1 h1.here h.sz hd)
  have HX1 := Lib.hid hx1
  have HX2 := Lib.hid hx2
  have hsh := shl_or ⟨a, ha⟩ ⟨b, hb⟩
  clear h hc hd hx1 hx2
  unfold ByteAt
  go_enter Tryd.func155, Tryd.ntmps155
  go_wp2_with (first
    | (go_at_call 165; refine HN1.out.mono ?_; rintro e w1 ⟨rfl, hp1⟩)
    | (go_at_call 165; refine (HN2.out w1 hp1).mono ?_; rintro e w2 ⟨rfl, hp2⟩)
    | (go_at_call 166; refine (HX1.out w2 (hp1.trans hp2)).mono ?_; rintro e w3 ⟨rfl, hp3⟩)
    | (go_at_call 166; refine (HX2.out w3 ((hp1.trans hp2).trans hp3)).mono ?_; rintro e w4 ⟨rfl, hp4⟩))
  go_ret
  exact ⟨by rw [Int.natCast_add, Int.natCast_mul]; rfl, ((hp1.trans hp2).trans hp3).trans hp4⟩


theorem one_c {ev : Value} {pb : Nat} {s : ByteArray} {i : Nat} (w : World) (h : PIn ev pb s i w) :
    Calls Tryd.prog 155 #[.pointer (some ⟨pb, 0, none⟩)] w (RdB (oneS s.data.toList i) pb s w) := by
  have good : ∀ a j, oneS s.data.toList i = .ok a j → Calls Tryd.prog 155 #[.pointer (some ⟨pb, 0, none⟩)] w (ByteAt pb s j a w) → Calls Tryd.prog 155 #[.pointer (some ⟨pb, 0, none⟩)] w (RdB (oneS s.data.toList i) pb s w) := fun a j h1 h2 => h2.mono fun e w' hh => .inl ⟨a, j, h1, hh.1, hh.2⟩
  have bad : ∀ k, oneS s.data.toList i = .bad k → Calls Tryd.prog 155 #[.pointer (some ⟨pb, 0, none⟩)] w (PS w pb k) → Calls Tryd.prog 155 #[.pointer (some ⟨pb, 0, none⟩)] w (RdB (oneS s.data.toList i) pb s w) := fun k h1 h2 => h2.mono fun e w' hh => .inr ⟨k, h1, hh⟩
  have hend : s.data.toList.length = s.size := at_end s
  cases hc : s.data.toList[i]? with
  | none => exact bad _ (by unfold oneS; rw [hc, hend]) (one_none w h hc)
  | some c =>
    by_cases h92 : c = 92
    · subst h92
      cases hd : s.data.toList[i + 1]? with
      | none => exact bad _ (by unfold oneS; rw [hc]; simp only [if_true]; rw [hd, hend]) (one_b_none w h hc hd)
      | some d =>
        by_cases hx : d = 120
        · subst hx
          have hone : oneS s.data.toList i = hexS s.data.toList i := by unfold oneS; rw [hc]; simp only [if_true]; rw [hd]; simp only [if_true]
          have hi3 := at_get hd
          have hi3' : i + 1 < s.size := hi3.1
          cases h2 : s.data.toList[i + 2]? with
          | none => exact bad _ (by rw [hone]; unfold hexS; rw [h2, hend]) (one_x_bad1 w h hc hd fun w2 hw => hex_none w2 hw.here h.sz (by omega) h2 i)
          | some x =>
            obtain ⟨hi2, _⟩ := at_get h2
            cases hv : hexV x with
            | none => exact bad i (by rw [hone]; unfold hexS; rw [h2]; simp only [hv]) (one_x_bad1 w h hc hd fun w2 hw => hex_bad w2 hw.here h.sz h2 hv i ev (h.next hw (by omega)).ev h.ne)
            | some a =>
              cases h3 : s.data.toList[i + 3]? with
              | none => exact bad _ (by rw [hone]; unfold hexS; rw [h2]; simp only [hv]; rw [h3, hend]) (one_x_bad2 w h hc hd (fun w2 hw => hex_ok w2 hw.here h.sz h2 hv i) fun w3 hw => hex_none w3 hw.here h.sz (by omega) h3 i)
              | some y =>
                obtain ⟨hi3, _⟩ := at_get h3
                cases hv2 : hexV y with
                | none => exact bad i (by rw [hone]; unfold hexS; rw [h2]; simp only [hv]; rw [h3]; simp only [hv2]) (one_x_bad2 w h hc hd (fun w2 hw => hex_ok w2 hw.here h.sz h2 hv i) fun w3 hw => hex_bad w3 hw.here h.sz h3 hv2 i ev (h.next hw (by omega)).ev h.ne)
                | some b => exact good _ _ (by rw [hone]; unfold hexS; rw [h2]; simp only [hv]; rw [h3]; simp only [hv2]) (one_x_ok w h hc hd (fun w2 hw => hex_ok w2 hw.here h.sz h2 hv i) (fun w3 hw => hex_ok w3 hw.here h.sz h3 hv2 i) (hexV_lt hv) (hexV_lt hv2))
        · by_cases h3 : d ∈ specialL
          · exact good _ _ (by unfold oneS; rw [hc]; simp only [if_true]; rw [hd]; simp only [if_neg hx, if_pos h3]) (one_b_special w h hc hd hx h3)
          · exact bad _ (by unfold oneS; rw [hc]; simp only [if_true]; rw [hd]; simp only [if_neg hx, if_neg h3]) (one_b_bad w h hc hd hx h3)
    · by_cases h1 : c.toNat < 32
      · exact bad _ (by unfold oneS; rw [hc]; simp only [if_neg h92, if_pos (show c.toNat < 32 ∨ 126 < c.toNat ∨ c ∈ specialL from .inl h1)]) (one_low w h hc h1)
      · by_cases h2 : 126 < c.toNat
        · exact bad _ (by unfold oneS; rw [hc]; simp only [if_neg h92, if_pos (show c.toNat < 32 ∨ 126 < c.toNat ∨ c ∈ specialL from .inr (.inl h2))]) (one_high w h hc h2)
        · by_cases h3 : c ∈ specialL
          · exact bad _ (by unfold oneS; rw [hc]; simp only [if_neg h92, if_pos (show c.toNat < 32 ∨ 126 < c.toNat ∨ c ∈ specialL from .inr (.inr h3))]) (one_special w h hc h92 (by omega) (by omega) h3)
          · exact good _ _ (by unfold oneS; rw [hc]; simp only [if_neg h92]; rw [if_neg (by rintro (q | q | q); exact h1 q; exact h2 q; exact h3 q)]) (one_plain w h hc h92 (by omega) (by omega) h3)
end Go.Proofs.YthcahjnniendnabDoor
