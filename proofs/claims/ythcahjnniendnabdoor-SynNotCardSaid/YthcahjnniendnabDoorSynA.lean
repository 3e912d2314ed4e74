/-
  Walks of package syn: peek, is, next.
-/
import Derived.Test.YthcahjnniendnabDoorPz
import Derived.Test.YthcahjnniendnabDoorClsC
namespace Go.Proofs.YthcahjnniendnabDoor
open Go.RowKit Wf

/-- What is thrown where a byte cannot stand. -/
def stopV (k : Nat) : Value := .iface 161 (.agg #[.int .i64 (k : Int)])

/-- The parser at place i; nothing but its own block has turned since w0. -/
structure PW (w0 : World) (pb : Nat) (s : ByteArray) (i : Nat) (w : World) : Prop where
  par : Blk w pb 130 #[.string s, .int .i64 (i : Int)]
  grow : w0.grownBy w (some pb)
  lt : pb < w0.heap.size
/-- It has stopped. -/
def PS (w0 : World) (pb k : Nat) (e : Ending) (w : World) : Prop := e = .panicked [{ v := stopV k, recovered := false }] ∧ w0.grownBy w (some pb)

section
variable {w0 w w' : World} {pb i j k : Nat} {s : ByteArray}
theorem PW.start (h : Blk w pb 130 #[.string s, .int .i64 (i : Int)]) : PW w pb s i w := ⟨h, ⟨rfl, rfl, rfl, Nat.le_refl _, fun _ _ _ => rfl⟩, h.lt⟩
theorem PW.trans (h : PW w0 pb s i w) (h' : PW w pb s j w') : PW w0 pb s j w' := ⟨h'.par, h.grow.trans h'.grow, h.lt⟩
theorem PW.here (h : PW w0 pb s i w) : PW w pb s i w := PW.start h.par
theorem PW.stop {e : Ending} (h : PW w0 pb s i w) (h' : PS w pb k e w') : PS w0 pb k e w' := ⟨h'.1, h.grow.trans h'.2⟩
theorem PW.below (h : PW w0 pb s i w) (hb : Below w.heap.size w w') : PW w0 pb s i w' := ⟨h.par.kept hb, h.grow.trans ⟨hb.os, hb.tape, hb.output, hb.size, fun q hq _ => hb.block q hq⟩, h.lt⟩
theorem PW.one (h : PW w0 pb s i w) (j : Nat) : PW w0 pb s j (w.setCell ⟨pb, 1, none⟩ (.int .i64 (j : Int))) :=
  ⟨h.par.set_ 1 _, h.grow.trans ⟨rfl, rfl, rfl, by simp, fun q _ hn => Below.heap_setCell w _ _ q (fun e => hn (by rw [e]))⟩, h.lt⟩
theorem PW.c0 (h : PW w0 pb s i w) : w.cell? ⟨pb, 0, none⟩ = some (.string s) := h.par.cell 0
theorem PW.c1 (h : PW w0 pb s i w) : w.cell? ⟨pb, 1, none⟩ = some (.int .i64 (i : Int)) := h.par.cell 1
theorem PW.f1 (h : PW w0 pb s i w) : w.frozen? ⟨pb, 1, none⟩ = false := h.par.frozen 1
end

def PeekIs (c : Nat) (b : Bool) (w : World) (e : Ending) (w' : World) : Prop := e = .returned (.tuple #[.int .u8 (c : Int), .bool b]) ∧ Below w.heap.size w w'

theorem at_get {s : ByteArray} {i : Nat} {c : UInt8} (h : s.data.toList[i]? = some c) : ∃ hi : i < s.size, s[i] = c := by
  obtain ⟨hi, he⟩ := List.getElem?_eq_some_iff.1 h
  have hs : i < s.size := by simpa using hi
  exact ⟨hs, by rw [← he]; simp [ByteArray.getElem_eq_getElem_data]⟩
theorem at_none {s : ByteArray} {i : Nat} (h : s.data.toList[i]? = none) : s.size ≤ i := by
  have := List.getElem?_eq_none_iff.1 h
  simpa using this
theorem at_end (s : ByteArray) : s.data.toList.length = s.size := by simp

set_option maxRecDepth 100000 in
set_option maxHeartbeats 1000000 in
theorem peek_some {pb : Nat} {s : ByteArray} {i : Nat} {c : UInt8} (w : World) (h : PW w pb s i w) (hs : s.size ≤ 200) (hc : s.data.toList[i]? = some c) :
    Calls Tryd.prog 128 #[.pointer (some ⟨pb, 0, none⟩)] w (PeekIs c.toNat true w) := by
  obtain ⟨hi, he⟩ := at_get hc
  have c0 := h.c0
  have c1 := h.c1
  have hcond : decide ((i : Int) < (s.size : Int)) = true := by simp; omega
  have hz : (0 : Int) ≤ (i : Int) := by omega
  have hn : i < s.size := hi
  have HE := Lib.hid he
  clear h hc he
  unfold PeekIs
  go_enter Tryd.func128, Tryd.ntmps128
  go_wp2
  go_quiet (fail)
  go_wp2
  go_quiet (fail)
  go_wp2
  go_ret2
  exact ⟨by rw [HE.out]; rfl, below_drewN (below_drewN (Below.refl _ _) _) _⟩

set_option maxRecDepth 100000 in
set_option maxHeartbeats 1000000 in
theorem peek_none {pb : Nat} {s : ByteArray} {i : Nat} (w : World) (h : PW w pb s i w) (hs : s.size ≤ 200) (hi2 : i ≤ s.size) (hc : s.data.toList[i]? = none) :
    Calls Tryd.prog 128 #[.pointer (some ⟨pb, 0, none⟩)] w (PeekIs 0 false w) := by
  have hi := at_none hc
  have c0 := h.c0
  have c1 := h.c1
  have hcond : decide ((i : Int) < (s.size : Int)) = false := by simp; omega
  clear h hc
  unfold PeekIs
  go_enter Tryd.func128, Tryd.ntmps128
  go_wp2
  go_quiet (fail)
  go_wp2
  go_ret2
  exact ⟨rfl, below_drewN (Below.refl _ _) _⟩

def IsYes (pb : Nat) (s : ByteArray) (i : Nat) (w : World) (e : Ending) (w' : World) : Prop := e = .returned (.bool true) ∧ PW w pb s (i + 1) w'
def IsNo (w : World) (e : Ending) (w' : World) : Prop := e = .returned (.bool false) ∧ Below w.heap.size w w'

set_option maxRecDepth 100000 in
set_option maxHeartbeats 1000000 in
theorem is_yes {pb : Nat} {s : ByteArray} {i : Nat} {c : UInt8} (w : World) (h : PW w pb s i w) (hs : s.size ≤ 200) (hc : s.data.toList[i]? = some c) :
    Calls Tryd.prog 117 #[.pointer (some ⟨pb, 0, none⟩), .int .u8 (c.toNat : Int)] w (IsYes pb s i w) := by
  obtain ⟨hi, he⟩ := at_get hc
  have H := Lib.hid (fun w' (hb : Below w.heap.size w w') => h.below hb)
  have HP := Lib.hid (peek_some w h hs hc)
  have hbd : i + 1 ≤ 200 := by omega
  have hb : ((c.toNat : Int) != (c.toNat : Int)) = false := by simp
  clear h hc he
  unfold IsYes
  go_enter Tryd.func117, Tryd.ntmps117
  go_wp2_with (go_at_call 128; refine HP.out.mono ?_; rintro e w1 ⟨rfl, hb1⟩; have c0 := (H.out w1 hb1).c0; have c1 := (H.out w1 hb1).c1; have f1 := (H.out w1 hb1).f1; have HB := Lib.hid hb1; clear hb1)
  go_wp2
  go_ret
  refine ⟨rfl, ?_⟩
  have := (H.out w1 HB.out).one (i + 1)
  push_cast at this
  exact this

set_option maxRecDepth 100000 in
set_option maxHeartbeats 1000000 in
theorem is_no {pb : Nat} {s : ByteArray} {i : Nat} {c : UInt8} (w : World) (h : PW w pb s i w) (hs : s.size ≤ 200) (hi2 : i ≤ s.size) (hc : s.data.toList[i]? ≠ some c) :
    Calls Tryd.prog 117 #[.pointer (some ⟨pb, 0, none⟩), .int .u8 (c.toNat : Int)] w (IsNo w) := by
  cases hg : s.data.toList[i]? with
  | none =>
    have H := Lib.hid (fun w' (hb : Below w.heap.size w w') => h.below hb)
    have HP := Lib.hid (peek_none w h hs hi2 hg)
    clear h hc hg
    unfold IsNo
    go_enter Tryd.func117, Tryd.ntmps117
    go_wp2_with (go_at_call 128; refine HP.out.mono ?_; rintro e w1 ⟨rfl, hb1⟩; have c0 := (H.out w1 hb1).c0; have c1 := (H.out w1 hb1).c1; have f1 := (H.out w1 hb1).f1; have HB := Lib.hid hb1; clear hb1)
    go_ret
    exact ⟨rfl, HB.out⟩
  | some d =>
    have H := Lib.hid (fun w' (hb : Below w.heap.size w w') => h.below hb)
    have HP := Lib.hid (peek_some w h hs hg)
    have hne : d.toNat ≠ c.toNat := fun e => hc (by rw [hg, UInt8.toNat_inj.1 e])
    have hb : ((d.toNat : Int) != (c.toNat : Int)) = true := by simp; omega
    clear h hc hg
    unfold IsNo
    go_enter Tryd.func117, Tryd.ntmps117
    go_wp2_with (go_at_call 128; refine HP.out.mono ?_; rintro e w1 ⟨rfl, hb1⟩; have c0 := (H.out w1 hb1).c0; have c1 := (H.out w1 hb1).c1; have f1 := (H.out w1 hb1).f1; have HB := Lib.hid hb1; clear hb1)
    go_ret
    exact ⟨rfl, HB.out⟩

def NextIs8 (pb : Nat) (s : ByteArray) (i c : Nat) (w : World) (e : Ending) (w' : World) : Prop := e = .returned (.int .u8 (c : Int)) ∧ PW w pb s (i + 1) w'

set_option maxRecDepth 100000 in
set_option maxHeartbeats 1000000 in
theorem next_some {pb : Nat} {s : ByteArray} {i : Nat} {c : UInt8} (w : World) (h : PW w pb s i w) (hs : s.size ≤ 200) (hc : s.data.toList[i]? = some c) :
    Calls Tryd.prog 165 #[.pointer (some ⟨pb, 0, none⟩)] w (NextIs8 pb s i c.toNat w) := by
  obtain ⟨hi, he⟩ := at_get hc
  have H := Lib.hid (fun w' (hb : Below w.heap.size w w') => h.below hb)
  have HP := Lib.hid (peek_some w h hs hc)
  have hbd : i + 1 ≤ 200 := by omega
  clear h hc he
  unfold NextIs8
  go_enter Tryd.func165, Tryd.ntmps165
  go_wp2_with (go_at_call 128; refine HP.out.mono ?_; rintro e w1 ⟨rfl, hb1⟩; have c0 := (H.out w1 hb1).c0; have c1 := (H.out w1 hb1).c1; have f1 := (H.out w1 hb1).f1; have HB := Lib.hid hb1; clear hb1)
  go_ret
  refine ⟨rfl, ?_⟩
  have := (H.out w1 HB.out).one (i + 1)
  push_cast at this
  exact this
set_option maxRecDepth 100000 in
set_option maxHeartbeats 1000000 in
theorem next_none {pb : Nat} {s : ByteArray} {i : Nat} (w : World) (h : PW w pb s i w) (hs : s.size ≤ 200) (hi2 : i ≤ s.size) (hc : s.data.toList[i]? = none) :
    Calls Tryd.prog 165 #[.pointer (some ⟨pb, 0, none⟩)] w (PS w pb s.size) := by
  have H := Lib.hid (fun w' (hb : Below w.heap.size w w') => h.below hb)
  have HP := Lib.hid (peek_none w h hs hi2 hc)
  clear h hc
  unfold PS stopV
  go_enter Tryd.func165, Tryd.ntmps165
  go_wp2_with (go_at_call 128; refine HP.out.mono ?_; rintro e w1 ⟨rfl, hb1⟩; have c0 := (H.out w1 hb1).c0; have c1 := (H.out w1 hb1).c1; have f1 := (H.out w1 hb1).f1; have HB := Lib.hid hb1; clear hb1)
  exact ⟨rfl, rfl, (H.out w1 HB.out).grow⟩
end Go.Proofs.YthcahjnniendnabDoor
