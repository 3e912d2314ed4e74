/-
  Walks of package syn: an item of a class.
-/
import Derived.Test.YthcahjnniendnabDoorSynD
import Derived.Test.YthcahjnniendnabDoorClsR
import Derived.Test.YthcahjnniendnabDoorClsD
namespace Go.Proofs.YthcahjnniendnabDoor
open Go.RowKit Wf

theorem rng_span (lo hi : Nat) (h : lo ≤ hi) : rngC lo (hi + 1 - lo) = spanC lo hi := by
  have h0 : ∀ k, k ≤ lo → selC (fun x => decide (lo ≤ x)) k = zc := by
    intro k
    induction k with
    | zero => intro _; rfl
    | succ k ih =>
      intro hk
      unfold selC
      rw [if_neg (by simp; omega), ih (by omega)]
  have h1 : ∀ k, rngC lo k = selC (fun x => decide (lo ≤ x)) (lo + k) := by
    intro k
    induction k with
    | zero => rw [Nat.add_zero, h0 lo (Nat.le_refl _)]; rfl
    | succ k ih =>
      rw [← Nat.add_assoc]
      unfold selC
      rw [if_pos (by simp)]
      simp only [rngC]
      rw [ih]
  rw [h1, show lo + (hi + 1 - lo) = hi + 1 by omega]
  rfl

/-- The parser beside a class that is handed back. -/
structure RB (w : World) (pb : Nat) (s : ByteArray) (i : Nat) (W : World) : Prop where
  pw : PW w pb s i W
  blk : Blk W w.heap.size 54 #[.int .u64 0, .int .u64 0, .int .u64 0, .int .u64 0]
theorem RB.start {w : World} {pb i : Nat} {s : ByteArray} (h : PW w pb s i w) (t : TypeId) (ht : t = 54 := by rfl) : RB w pb s i (w.alloc (.cells #[.int .u64 0, .int .u64 0, .int .u64 0, .int .u64 0] t)) := by
  subst ht
  exact ⟨h.below ((Below.refl _ _).alloc (Nat.le_refl _) _), Blk.new w _ _⟩
theorem RB.step {w W W' : World} {pb i j : Nat} {s : ByteArray} (h : RB w pb s i W) (h' : PW W pb s j W') : RB w pb s j W' :=
  ⟨h.pw.trans h', (h'.grow.block _ h.blk.lt (fun e => by have := h.pw.lt; rw [← Option.some.inj e] at this; omega)).trans h.blk⟩
theorem RB.below {w W W' : World} {pb i : Nat} {s : ByteArray} (h : RB w pb s i W) (hb : Below W.heap.size W W') : RB w pb s i W' := ⟨h.pw.below hb, h.blk.kept hb⟩

/-- A class that is handed back, or the parser has stopped. -/
def RdC (r : PR (Nat × Nat)) (pb : Nat) (s : ByteArray) (w : World) (e : Ending) (w' : World) : Prop :=
  (∃ d0 d1 d2 d3 : Nat, ∃ p j, r = .ok p j ∧ e = .returned (.agg #[.int .u64 (d0 : Int), .int .u64 (d1 : Int), .int .u64 (d2 : Int), .int .u64 (d3 : Int)]) ∧ (d0, d1, d2, d3) = spanC p.1 p.2 ∧ PW w pb s j w') ∨ (∃ k, r = .bad k ∧ PS w pb k e w')
def ClsAt (pb : Nat) (s : ByteArray) (j : Nat) (c : Cls) (w : World) (e : Ending) (w' : World) : Prop :=
  ∃ d0 d1 d2 d3 : Nat, e = .returned (.agg #[.int .u64 (d0 : Int), .int .u64 (d1 : Int), .int .u64 (d2 : Int), .int .u64 (d3 : Int)]) ∧ (d0, d1, d2, d3) = c ∧ PW w pb s j w'

theorem set4_far {W : World} {g k : Nat} {t : TypeId} {cs : Array Value} (h : Blk W k t cs) (hne : k ≠ g) (a b c d : Value) : Blk ((((W.setCell ⟨g, 0, none⟩ a).setCell ⟨g, 1, none⟩ b).setCell ⟨g, 2, none⟩ c).setCell ⟨g, 3, none⟩ d) k t cs :=
  (((h.far hne _).far hne _).far hne _).far hne _
theorem PW.set4 {w W : World} {pb i g : Nat} {s : ByteArray} (h : PW w pb s i W) (hg : w.heap.size ≤ g) (a b c d : Value) : PW w pb s i ((((W.setCell ⟨g, 0, none⟩ a).setCell ⟨g, 1, none⟩ b).setCell ⟨g, 2, none⟩ c).setCell ⟨g, 3, none⟩ d) := by
  have hlt := h.lt
  refine ⟨set4_far h.par (by omega) _ _ _ _, ?_, h.lt⟩
  have h1 := h.grow
  refine ⟨h1.os, h1.tape, h1.output, by have := h1.size; simpa using this, fun q hq hn => ?_⟩
  have hqg : q ≠ g := by omega
  rw [Below.heap_setCell _ _ _ q hqg, Below.heap_setCell _ _ _ q hqg, Below.heap_setCell _ _ _ q hqg, Below.heap_setCell _ _ _ q hqg]
  exact h1.block q hq hn

set_option maxRecDepth 100000 in
set_option maxHeartbeats 4000000 in
theorem item_bad1 {ev : Value} {pb : Nat} {s : ByteArray} {i : Nat} (w : World) (h : PIn ev pb s i w) {k : Nat} (hO : oneS s.data.toList i = .bad k) :
    Calls Tryd.prog 164 #[.pointer (some ⟨pb, 0, none⟩)] w (PS w pb k) := by
  have h0 := h.pw
  have c1 : (w.alloc (.cells #[.int .u64 0, .int .u64 0, .int .u64 0, .int .u64 0] 54)).cell? ⟨pb, 1, none⟩ = some (.int .i64 (i : Int)) := (h.pw.below ((Below.refl _ _).alloc (Nat.le_refl _) _)).c1
  have HO1 : Hid (∀ W, Below w.heap.size w W → Calls Tryd.prog 155 #[.pointer (some ⟨pb, 0, none⟩)] W (PS W pb k)) := Lib.hid fun W hb => (one_c W (h.below hb)).mono fun e w' hh => hh.bad hO
  clear h hO
  unfold PS at *
  go_enter Tryd.func164, Tryd.ntmps164
  go_wp2_with (first
    | (go_at_call 155; refine (HO1.out _ ((Below.refl _ _).alloc (Nat.le_refl _) _)).mono ?_; rintro e w1 ⟨rfl, hp1⟩; have HB1 := Lib.hid ((RB.start h0 _).pw.grow.trans hp1)))
  exact ⟨rfl, rfl, HB1.out⟩

set_option maxRecDepth 100000 in
set_option maxHeartbeats 4000000 in
theorem item_one {ev : Value} {pb : Nat} {s : ByteArray} {i : Nat} (w : World) (h : PIn ev pb s i w) {lo j : Nat} (hO : oneS s.data.toList i = .ok lo j) (hm : s.data.toList[j]? ≠ some 45) :
    Calls Tryd.prog 164 #[.pointer (some ⟨pb, 0, none⟩)] w (ClsAt pb s j (spanC lo lo) w) := by
  have h0 := h.pw
  have c1 : (w.alloc (.cells #[.int .u64 0, .int .u64 0, .int .u64 0, .int .u64 0] 54)).cell? ⟨pb, 1, none⟩ = some (.int .i64 (i : Int)) := (h.pw.below ((Below.refl _ _).alloc (Nat.le_refl _) _)).c1
  have HO1 : Hid (∀ W, Below w.heap.size w W → Calls Tryd.prog 155 #[.pointer (some ⟨pb, 0, none⟩)] W (ByteAt pb s j lo W)) := Lib.hid fun W hb => (one_c W (h.below hb)).mono fun e w' hh => hh.ok hO
  obtain ⟨hij, hjs, hlo⟩ := oneS_ok hO
  rw [at_end] at hjs
  have HI : Hid (∀ W, PW w pb s j W → Calls Tryd.prog 117 #[.pointer (some ⟨pb, 0, none⟩), .int .u8 45] W (IsNo W)) := Lib.hid fun W hw => is_no (c := 45) W hw.here h.sz hjs hm
  have HR := Lib.hid fun W => Range_ok lo lo W (Nat.le_refl _) hlo
  have HX := Lib.hid (rng_span lo lo (Nat.le_refl _))
  clear h hO hm
  unfold ClsAt
  go_enter Tryd.func164, Tryd.ntmps164
  go_wp2_with (first
    | (go_at_call 155; refine (HO1.out _ ((Below.refl _ _).alloc (Nat.le_refl _) _)).mono ?_; rintro e w1 ⟨rfl, hp1⟩; have HB1 := Lib.hid ((RB.start h0 _).step hp1))
    | (go_at_call 117; refine (HI.out w1 HB1.out.pw).mono ?_; rintro e w2 ⟨rfl, hb2⟩; have HB3 := Lib.hid (HB1.out.below hb2))
    | (go_at_call 26; refine (HR.out _).mono ?_; rintro e w4 ⟨d0, d1, d2, d3, rfl, hd, hb4⟩; have HB4 := Lib.hid (HB3.out.below hb4); have HD := Lib.hid hd; clear hd hb4; obtain ⟨⟨x0, x1, x2, x3⟩, y0, y1, y2, y3⟩ := Blk4 HB4.out.blk; have hsz := HB4.out.blk.lt))
  refine bodyPost_ret (v := clsV (d0, d1, d2, d3)) ?_ rfl ⟨d0, d1, d2, d3, rfl, by rw [HD.out, HX.out], ?_⟩
  · obtain ⟨h0, h1, h2, h3⟩ := (Blk4 ((Blk4_set HB4.out.blk (.int .u64 d0) (.int .u64 d1) (.int .u64 d2) (.int .u64 d3)).alloc (.cells #[.int .u64 (d0 : Int), .int .u64 (d1 : Int), .int .u64 (d2 : Int), .int .u64 (d3 : Int)] 54))).1
    simp [results, Tryd.results164, go_sem, clsV, h0, h1, h2, h3]
  · exact (HB4.out.pw.set4 (Nat.le_refl _) _ _ _ _).below ((Below.refl _ _).alloc (Nat.le_refl _) _)

set_option maxRecDepth 100000 in
set_option maxHeartbeats 4000000 in
theorem item_bad2 {ev : Value} {pb : Nat} {s : ByteArray} {i : Nat} (w : World) (h : PIn ev pb s i w) {lo j k : Nat} (hO : oneS s.data.toList i = .ok lo j) (hm : s.data.toList[j]? = some 45) (hO2 : oneS s.data.toList (j + 1) = .bad k) :
    Calls Tryd.prog 164 #[.pointer (some ⟨pb, 0, none⟩)] w (PS w pb k) := by
  have h0 := h.pw
  have c1 : (w.alloc (.cells #[.int .u64 0, .int .u64 0, .int .u64 0, .int .u64 0] 54)).cell? ⟨pb, 1, none⟩ = some (.int .i64 (i : Int)) := (h.pw.below ((Below.refl _ _).alloc (Nat.le_refl _) _)).c1
  have HO1 : Hid (∀ W, Below w.heap.size w W → Calls Tryd.prog 155 #[.pointer (some ⟨pb, 0, none⟩)] W (ByteAt pb s j lo W)) := Lib.hid fun W hb => (one_c W (h.below hb)).mono fun e w' hh => hh.ok hO
  obtain ⟨hij, hjs, hlo⟩ := oneS_ok hO
  rw [at_end] at hjs
  have HI : Hid (∀ W, PW w pb s j W → Calls Tryd.prog 117 #[.pointer (some ⟨pb, 0, none⟩), .int .u8 45] W (IsYes pb s j W)) := Lib.hid fun W hw => is_yes (c := 45) W hw.here h.sz hm
  have hj2 := getE_lt hm
  rw [at_end] at hj2
  have HO2 : Hid (∀ W, PW w pb s (j + 1) W → Calls Tryd.prog 155 #[.pointer (some ⟨pb, 0, none⟩)] W (PS W pb k)) := Lib.hid fun W hw => (one_c W (h.next hw (by omega))).mono fun e w' hh => hh.bad hO2
  clear h hO hm hO2
  unfold PS at *
  go_enter Tryd.func164, Tryd.ntmps164
  go_wp2_with (first
    | (go_at_call 155; refine (HO1.out _ ((Below.refl _ _).alloc (Nat.le_refl _) _)).mono ?_; rintro e w1 ⟨rfl, hp1⟩; have HB1 := Lib.hid ((RB.start h0 _).step hp1))
    | (go_at_call 117; refine (HI.out w1 HB1.out.pw).mono ?_; rintro e w2 ⟨rfl, hp2⟩; have HB2 := Lib.hid (HB1.out.step hp2))
    | (go_at_call 155; refine (HO2.out w2 HB2.out.pw).mono ?_; rintro e w3 ⟨rfl, hp3⟩; have HB3 := Lib.hid (HB2.out.pw.grow.trans hp3)))
  exact ⟨rfl, rfl, HB3.out⟩

set_option maxRecDepth 100000 in
set_option maxHeartbeats 4000000 in
theorem item_bad3 {ev : Value} {pb : Nat} {s : ByteArray} {i : Nat} (w : World) (h : PIn ev pb s i w) {lo j hi j' : Nat} (hO : oneS s.data.toList i = .ok lo j) (hm : s.data.toList[j]? = some 45) (hO2 : oneS s.data.toList (j + 1) = .ok hi j') (hlt : hi < lo) :
    Calls Tryd.prog 164 #[.pointer (some ⟨pb, 0, none⟩)] w (PS w pb i) := by
  have h0 := h.pw
  have c1 : (w.alloc (.cells #[.int .u64 0, .int .u64 0, .int .u64 0, .int .u64 0] 54)).cell? ⟨pb, 1, none⟩ = some (.int .i64 (i : Int)) := (h.pw.below ((Below.refl _ _).alloc (Nat.le_refl _) _)).c1
  have HO1 : Hid (∀ W, Below w.heap.size w W → Calls Tryd.prog 155 #[.pointer (some ⟨pb, 0, none⟩)] W (ByteAt pb s j lo W)) := Lib.hid fun W hb => (one_c W (h.below hb)).mono fun e w' hh => hh.ok hO
  obtain ⟨hij, hjs, hlo⟩ := oneS_ok hO
  rw [at_end] at hjs
  have HI : Hid (∀ W, PW w pb s j W → Calls Tryd.prog 117 #[.pointer (some ⟨pb, 0, none⟩), .int .u8 45] W (IsYes pb s j W)) := Lib.hid fun W hw => is_yes (c := 45) W hw.here h.sz hm
  have hj2 := getE_lt hm
  rw [at_end] at hj2
  have HO2 : Hid (∀ W, PW w pb s (j + 1) W → Calls Tryd.prog 155 #[.pointer (some ⟨pb, 0, none⟩)] W (ByteAt pb s j' hi W)) := Lib.hid fun W hw => (one_c W (h.next hw (by omega))).mono fun e w' hh => hh.ok hO2
  have HR := Lib.hid fun W => Range_no lo hi W hlt
  clear h hO hm hO2
  unfold RangeNo errV at HR
  simp only [show ¬ ((1 : Int) = 0) by decide, if_false] at HR
  unfold PS stopV
  go_enter Tryd.func164, Tryd.ntmps164
  go_wp2_with (first
    | (go_at_call 155; refine (HO1.out _ ((Below.refl _ _).alloc (Nat.le_refl _) _)).mono ?_; rintro e w1 ⟨rfl, hp1⟩; have HB1 := Lib.hid ((RB.start h0 _).step hp1))
    | (go_at_call 117; refine (HI.out w1 HB1.out.pw).mono ?_; rintro e w2 ⟨rfl, hp2⟩; have HB2 := Lib.hid (HB1.out.step hp2))
    | (go_at_call 155; refine (HO2.out w2 HB2.out.pw).mono ?_; rintro e w3 ⟨rfl, hp3⟩; have HB3 := Lib.hid (HB2.out.step hp3))
    | (go_at_call 26; refine (HR.out _).mono ?_; rintro e w4 ⟨rfl, hb4⟩; have HB4 := Lib.hid (HB3.out.below hb4); clear hb4))
  exact ⟨rfl, rfl, (HB4.out.pw.below ((Below.refl _ _).alloc (Nat.le_refl _) _)).grow⟩

set_option maxRecDepth 100000 in
set_option maxHeartbeats 4000000 in
theorem item_two {ev : Value} {pb : Nat} {s : ByteArray} {i : Nat} (w : World) (h : PIn ev pb s i w) {lo j hi j' : Nat} (hO : oneS s.data.toList i = .ok lo j) (hm : s.data.toList[j]? = some 45) (hO2 : oneS s.data.toList (j + 1) = .ok hi j') (hle : lo ≤ hi) :
    Calls Tryd.prog 164 #[.pointer (some ⟨pb, 0, none⟩)] w (ClsAt pb s j' (spanC lo hi) w) := by
  have h0 := h.pw
  have c1 : (w.alloc (.cells #[.int .u64 0, .int .u64 0, .int .u64 0, .int .u64 0] 54)).cell? ⟨pb, 1, none⟩ = some (.int .i64 (i : Int)) := (h.pw.below ((Below.refl _ _).alloc (Nat.le_refl _) _)).c1
  have HO1 : Hid (∀ W, Below w.heap.size w W → Calls Tryd.prog 155 #[.pointer (some ⟨pb, 0, none⟩)] W (ByteAt pb s j lo W)) := Lib.hid fun W hb => (one_c W (h.below hb)).mono fun e w' hh => hh.ok hO
  obtain ⟨hij, hjs, hlo⟩ := oneS_ok hO
  rw [at_end] at hjs
  have HI : Hid (∀ W, PW w pb s j W → Calls Tryd.prog 117 #[.pointer (some ⟨pb, 0, none⟩), .int .u8 45] W (IsYes pb s j W)) := Lib.hid fun W hw => is_yes (c := 45) W hw.here h.sz hm
  have hj2 := getE_lt hm
  rw [at_end] at hj2
  have HO2 : Hid (∀ W, PW w pb s (j + 1) W → Calls Tryd.prog 155 #[.pointer (some ⟨pb, 0, none⟩)] W (ByteAt pb s j' hi W)) := Lib.hid fun W hw => (one_c W (h.next hw (by omega))).mono fun e w' hh => hh.ok hO2
  obtain ⟨_, _, hhi⟩ := oneS_ok hO2
  have HR := Lib.hid fun W => Range_ok lo hi W hle hhi
  have HX := Lib.hid (rng_span lo hi hle)
  clear h hO hm hO2
  unfold ClsAt
  go_enter Tryd.func164, Tryd.ntmps164
  go_wp2_with (first
    | (go_at_call 155; refine (HO1.out _ ((Below.refl _ _).alloc (Nat.le_refl _) _)).mono ?_; rintro e w1 ⟨rfl, hp1⟩; have HB1 := Lib.hid ((RB.start h0 _).step hp1))
    | (go_at_call 117; refine (HI.out w1 HB1.out.pw).mono ?_; rintro e w2 ⟨rfl, hp2⟩; have HB2 := Lib.hid (HB1.out.step hp2))
    | (go_at_call 155; refine (HO2.out w2 HB2.out.pw).mono ?_; rintro e w3 ⟨rfl, hp3⟩; have HB3 := Lib.hid (HB2.out.step hp3))
    | (go_at_call 26; refine (HR.out _).mono ?_; rintro e w4 ⟨d0, d1, d2, d3, rfl, hd, hb4⟩; have HB4 := Lib.hid (HB3.out.below hb4); have HD := Lib.hid hd; clear hd hb4; obtain ⟨⟨x0, x1, x2, x3⟩, y0, y1, y2, y3⟩ := Blk4 HB4.out.blk; have hsz := HB4.out.blk.lt))
  refine bodyPost_ret (v := clsV (d0, d1, d2, d3)) ?_ rfl ⟨d0, d1, d2, d3, rfl, by rw [HD.out, HX.out], ?_⟩
  · obtain ⟨h0, h1, h2, h3⟩ := (Blk4 ((Blk4_set HB4.out.blk (.int .u64 d0) (.int .u64 d1) (.int .u64 d2) (.int .u64 d3)).alloc (.cells #[.int .u64 (d0 : Int), .int .u64 (d1 : Int), .int .u64 (d2 : Int), .int .u64 (d3 : Int)] 54))).1
    simp [results, Tryd.results164, go_sem, clsV, h0, h1, h2, h3]
  · exact (HB4.out.pw.set4 (Nat.le_refl _) _ _ _ _).below ((Below.refl _ _).alloc (Nat.le_refl _) _)


theorem item_c {ev : Value} {pb : Nat} {s : ByteArray} {i : Nat} (w : World) (h : PIn ev pb s i w) :
    Calls Tryd.prog 164 #[.pointer (some ⟨pb, 0, none⟩)] w (RdC (itemS s.data.toList i) pb s w) := by
  have good : ∀ p j, itemS s.data.toList i = .ok p j → Calls Tryd.prog 164 #[.pointer (some ⟨pb, 0, none⟩)] w (ClsAt pb s j (spanC p.1 p.2) w) → Calls Tryd.prog 164 #[.pointer (some ⟨pb, 0, none⟩)] w (RdC (itemS s.data.toList i) pb s w) := fun p j h1 h2 => h2.mono fun e w' ⟨d0, d1, d2, d3, q1, q2, q3⟩ => .inl ⟨d0, d1, d2, d3, p, j, h1, q1, q2, q3⟩
  have bad : ∀ k, itemS s.data.toList i = .bad k → Calls Tryd.prog 164 #[.pointer (some ⟨pb, 0, none⟩)] w (PS w pb k) → Calls Tryd.prog 164 #[.pointer (some ⟨pb, 0, none⟩)] w (RdC (itemS s.data.toList i) pb s w) := fun k h1 h2 => h2.mono fun e w' hh => .inr ⟨k, h1, hh⟩
  cases hO : oneS s.data.toList i with
  | bad k => exact bad k (by unfold itemS; rw [hO]) (item_bad1 w h hO)
  | ok lo j =>
    by_cases hm : s.data.toList[j]? = some 45
    · cases hO2 : oneS s.data.toList (j + 1) with
      | bad k => exact bad k (by unfold itemS; rw [hO]; simp only [if_pos hm]; rw [hO2]) (item_bad2 w h hO hm hO2)
      | ok hi j' =>
        by_cases hlt : hi < lo
        · exact bad i (by unfold itemS; rw [hO]; simp only [if_pos hm]; rw [hO2]; simp only [if_pos hlt]) (item_bad3 w h hO hm hO2 hlt)
        · exact good (lo, hi) j' (by unfold itemS; rw [hO]; simp only [if_pos hm]; rw [hO2]; simp only [if_neg hlt]) (item_two w h hO hm hO2 (by omega))
    · exact good (lo, lo) j (by unfold itemS; rw [hO]; simp only [if_neg hm]) (item_one w h hO hm)
end Go.Proofs.YthcahjnniendnabDoor
