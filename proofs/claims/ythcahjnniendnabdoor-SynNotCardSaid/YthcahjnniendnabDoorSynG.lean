/-
  Walks of package syn: node, atom. (Printed by gen-syng.py.)
-/
import Derived.Test.YthcahjnniendnabDoorSynF
import Derived.Laws.OwnMore
namespace Go.Proofs.YthcahjnniendnabDoor
open Go.RowKit Wf

/-- A row of nodes of one's own. -/
def OwnT (w : World) (base : Nat) (v : Value) (l : List Nd) : Prop := w.ownsRow base 69 5 v l.length (l.flatMap ndCells)
theorem OwnT.grown {w w' : World} {base pb : Nat} {v : Value} {l : List Nd} (h : OwnT w base v l) (hg : w.grownBy w' (some pb)) (hb : pb < base) : OwnT w' base v l :=
  World.ownsRow.kept h hg (.inr (fun e => by have := (h.lt pb e).1; omega))
theorem OwnT.below {w w' : World} {base : Nat} {v : Value} {l : List Nd} (h : OwnT w base v l) (hb : Below w.heap.size w w') : OwnT w' base v l :=
  World.ownsRow.kept (row := none) h ⟨hb.os, hb.tape, hb.output, hb.size, fun q hq _ => hb.block q hq⟩ (by cases v.ownBlock <;> simp)
theorem OwnT.base {w : World} {base base' : Nat} {v : Value} {l : List Nd} (h : OwnT w base v l) (hb : base' ≤ base) : OwnT w base' v l := by
  refine ⟨h.1, ?_⟩
  rcases h.2 with hn | ⟨g, cap, cur, hv, h1, rest⟩
  · exact .inl hn
  · exact .inr ⟨g, cap, cur, hv, Nat.le_trans hb h1, rest⟩
theorem own_node (w : World) (B : Nat) (hB : w.heap.size = B) (base : Nat) (hb : base ≤ w.heap.size) (op : Int) (c0 c1 c2 c3 : Nat) : OwnT (w.alloc (.cells #[.int .i64 op, .int .u64 (c0 : Int), .int .u64 (c1 : Int), .int .u64 (c2 : Int), .int .u64 (c3 : Int)] 69)) base (.slice (some ⟨B, 0, none⟩) 1 1) [⟨op, c0, c1, c2, c3⟩] := by
  subst hB
  exact World.ownsRow_lit w _ 1 hb (by unfold maxLen; omega) rfl

/-- A tree, and the parser behind it. -/
def TreeAt (pb : Nat) (s : ByteArray) (t : Rx) (j : Nat) (w : World) (e : Ending) (w' : World) : Prop :=
  ∃ g cap, e = .returned (.slice (some ⟨g, 0, none⟩) (flat t).length cap) ∧ OwnT w' w.heap.size (.slice (some ⟨g, 0, none⟩) (flat t).length cap) (flat t) ∧ PW w pb s j w'
def RdT (r : PR Rx) (pb : Nat) (s : ByteArray) (w : World) (e : Ending) (w' : World) : Prop :=
  (∃ t j, r = .ok t j ∧ TreeAt pb s t j w e w') ∨ (∃ k, r = .bad k ∧ PS w pb k e w')
theorem RdT.ok {r : PR Rx} {pb : Nat} {s : ByteArray} {w w' : World} {e : Ending} {t : Rx} {j : Nat} (hr : r = .ok t j) (h : RdT r pb s w e w') : TreeAt pb s t j w e w' := by
  rcases h with ⟨t', j', h1, h2⟩ | ⟨k, h1, _⟩
  · rw [hr] at h1; cases h1; exact h2
  · rw [hr] at h1; cases h1
theorem RdT.bad {r : PR Rx} {pb : Nat} {s : ByteArray} {w w' : World} {e : Ending} {k : Nat} (hr : r = .bad k) (h : RdT r pb s w e w') : PS w pb k e w' := by
  rcases h with ⟨t', j', h1, h2⟩ | ⟨k', h1, h2⟩
  · rw [hr] at h1; cases h1
  · rw [hr] at h1; cases h1; exact h2
theorem RdK.ok {r : PR Cls} {pb : Nat} {s : ByteArray} {w w' : World} {e : Ending} {c : Cls} {j : Nat} (hr : r = .ok c j) (h : RdK r pb s w e w') : ClsAt pb s j c w e w' := by
  rcases h with ⟨t', j', h1, h2⟩ | ⟨k, h1, _⟩
  · rw [hr] at h1; cases h1; exact h2
  · rw [hr] at h1; cases h1
theorem RdK.bad {r : PR Cls} {pb : Nat} {s : ByteArray} {w w' : World} {e : Ending} {k : Nat} (hr : r = .bad k) (h : RdK r pb s w e w') : PS w pb k e w' := by
  rcases h with ⟨t', j', h1, h2⟩ | ⟨k', h1, h2⟩
  · rw [hr] at h1; cases h1
  · rw [hr] at h1; cases h1; exact h2

def NodeIs (op : Int) (w : World) (e : Ending) (w' : World) : Prop := e = .returned (.slice (some ⟨w.heap.size, 0, none⟩) 1 1) ∧ OwnT w' w.heap.size (.slice (some ⟨w.heap.size, 0, none⟩) 1 1) [⟨op, zc⟩] ∧ Below w.heap.size w w'
theorem node_c (op : Int) (w : World) : Calls Tryd.prog 118 #[.int .i64 op] w (NodeIs op w) := by
  unfold NodeIs
  go_enter Tryd.func118, Tryd.ntmps118
  go_wp2
  go_ret
  exact ⟨rfl, own_node w _ rfl _ (Nat.le_refl _) op 0 0 0 0, (Below.refl _ _).alloc (Nat.le_refl _) _⟩

theorem atomS_at {s : List UInt8} {i : Nat} {c : UInt8} (h : s[i]? = some c) : atomS s i =
    if c = 40 then
      match orS s (i + 1) with
      | .bad k => .bad k
      | .ok t j => if s[j]? = some 41 then .ok t (j + 1) else .bad j
    else if c = 91 then
      match bracketS s (i + 1) with
      | .bad k => .bad k
      | .ok c j => .ok (.byte c) j
    else if c = 46 then .ok (.byte dotC) (i + 1)
    else if c = 94 then .ok .bgn (i + 1)
    else if c = 36 then .ok .fin (i + 1)
    else match oneS s i with
      | .bad k => .bad k
      | .ok b j => .ok (.byte (withB zc b)) j := by
  obtain ⟨hi, he⟩ := List.getElem?_eq_some_iff.1 h
  rw [atomS, dif_pos hi, he]
  rfl
theorem atomS_none {s : List UInt8} {i : Nat} (h : s[i]? = none) : atomS s i = .bad s.length := by
  have := List.getElem?_eq_none_iff.1 h
  rw [atomS, dif_neg (by omega)]
theorem oneS_none {s : List UInt8} {i : Nat} (h : s[i]? = none) : oneS s i = .bad s.length := by unfold oneS; rw [h]
/-- A byte that is no sign of an atom's. -/
theorem atomS_one {s : List UInt8} {i : Nat} (h1 : s[i]? ≠ some 40) (h2 : s[i]? ≠ some 91) (h3 : s[i]? ≠ some 46) (h4 : s[i]? ≠ some 94) (h5 : s[i]? ≠ some 36) : atomS s i = match oneS s i with
      | .bad k => .bad k
      | .ok b j => .ok (.byte (withB zc b)) j := by
  cases h : s[i]? with
  | none => rw [atomS_none h, oneS_none h]
  | some c =>
    rw [h] at h1 h2 h3 h4 h5
    rw [atomS_at h, if_neg (fun e => h1 (by rw [e])), if_neg (fun e => h2 (by rw [e])), if_neg (fun e => h3 (by rw [e])), if_neg (fun e => h4 (by rw [e])), if_neg (fun e => h5 (by rw [e]))]

theorem convS_byte (bb : Nat) (hb : bb < 256) (w : World) : (convert 91 9 (.slice (some ⟨w.heap.size, 0, none⟩) 1 1)).run Tryd.prog (w.alloc (.cells #[.int .u8 (bb : Int)] 5)) = .ok (.string ⟨#[UInt8.ofNat bb]⟩) (w.alloc (.cells #[.int .u8 (bb : Int)] 5)) := by
  have h := run_convert_bytes_back (P := Tryd.prog) (w.alloc (.cells #[.int .u8 (bb : Int)] 5)) 91 9 5 ⟨w.heap.size, 0, none⟩ 1 [UInt8.ofNat bb] Tryd.underlying91 Tryd.underlying5 Tryd.underlying9 (by
    intro j hj
    have : j = 0 := by simpa using hj
    subst this
    have e : (UInt8.ofNat bb).toNat = bb := by simp; omega
    rw [add_mk, Nat.add_zero, (Blk.new w 5 #[.int .u8 (bb : Int)]).cell 0]
    simp [Nat.mod_eq_of_lt hb])
  exact h

section
variable {ev : Value} {pb : Nat} {s : ByteArray} {i : Nat} {w : World}
theorem PIn.no (h : PIn ev pb s i w) {c : UInt8} (hc : s.data.toList[i]? ≠ some c) : Hid (∀ W, PW w pb s i W → Calls Tryd.prog 117 #[.pointer (some ⟨pb, 0, none⟩), .int .u8 (c.toNat : Int)] W (IsNo W)) := Lib.hid fun W hw => is_no W hw.here h.sz h.le hc
theorem PIn.yes (h : PIn ev pb s i w) {c : UInt8} (hc : s.data.toList[i]? = some c) : Hid (∀ W, PW w pb s i W → Calls Tryd.prog 117 #[.pointer (some ⟨pb, 0, none⟩), .int .u8 (c.toNat : Int)] W (IsYes pb s i W)) := Lib.hid fun W hw => is_yes W hw.here h.sz hc
end

set_option maxRecDepth 100000 in
set_option maxHeartbeats 8000000 in
theorem atom_bgn {ev : Value} {pb : Nat} {s : ByteArray} {i : Nat} (w : World) (h : PIn ev pb s i w) (hc : s.data.toList[i]? = some 94) :
    Calls Tryd.prog 138 #[.pointer (some ⟨pb, 0, none⟩)] w (TreeAt pb s .bgn (i + 1) w) := by
  have NO0 : Hid (∀ W, PW w pb s i W → Calls Tryd.prog 117 #[.pointer (some ⟨pb, 0, none⟩), .int .u8 40] W (IsNo W)) := h.no (c := 40) (by rw [hc]; decide)
  have NO1 : Hid (∀ W, PW w pb s i W → Calls Tryd.prog 117 #[.pointer (some ⟨pb, 0, none⟩), .int .u8 91] W (IsNo W)) := h.no (c := 91) (by rw [hc]; decide)
  have NO2 : Hid (∀ W, PW w pb s i W → Calls Tryd.prog 117 #[.pointer (some ⟨pb, 0, none⟩), .int .u8 46] W (IsNo W)) := h.no (c := 46) (by rw [hc]; decide)
  have YES : Hid (∀ W, PW w pb s i W → Calls Tryd.prog 117 #[.pointer (some ⟨pb, 0, none⟩), .int .u8 94] W (IsYes pb s i W)) := h.yes (c := 94) hc
  have HN := Lib.hid fun W => node_c 8 W
  unfold NodeIs at HN
  have HP0 := Lib.hid h.pw
  clear h hc
  unfold TreeAt
  go_enter Tryd.func138, Tryd.ntmps138
  go_wp2_with fail
  refine (NO0.out _ HP0.out).mono ?_
  rintro e x1 ⟨rfl, hb⟩
  have HP1 := Lib.hid (HP0.out.below hb)
  clear hb
  go_wp2_with fail
  refine (NO1.out _ HP1.out).mono ?_
  rintro e x2 ⟨rfl, hb⟩
  have HP2 := Lib.hid (HP1.out.below hb)
  clear hb
  go_wp2_with fail
  refine (NO2.out _ HP2.out).mono ?_
  rintro e x3 ⟨rfl, hb⟩
  have HP3 := Lib.hid (HP2.out.below hb)
  clear hb
  go_wp2_with fail
  refine (YES.out _ HP3.out).mono ?_
  rintro e y ⟨rfl, hp⟩
  have HY := Lib.hid (HP3.out.trans hp)
  clear hp
  go_wp2_with fail
  refine (HN.out _).mono ?_
  rintro e z ⟨rfl, ho, hb⟩
  have HZ := Lib.hid (HY.out.below hb)
  have HO := Lib.hid ho
  clear ho hb
  go_wp2_with fail
  go_ret
  exact ⟨_, _, rfl, HO.out.base HY.out.grow.size, HZ.out⟩

set_option maxRecDepth 100000 in
set_option maxHeartbeats 8000000 in
theorem atom_fin {ev : Value} {pb : Nat} {s : ByteArray} {i : Nat} (w : World) (h : PIn ev pb s i w) (hc : s.data.toList[i]? = some 36) :
    Calls Tryd.prog 138 #[.pointer (some ⟨pb, 0, none⟩)] w (TreeAt pb s .fin (i + 1) w) := by
  have NO0 : Hid (∀ W, PW w pb s i W → Calls Tryd.prog 117 #[.pointer (some ⟨pb, 0, none⟩), .int .u8 40] W (IsNo W)) := h.no (c := 40) (by rw [hc]; decide)
  have NO1 : Hid (∀ W, PW w pb s i W → Calls Tryd.prog 117 #[.pointer (some ⟨pb, 0, none⟩), .int .u8 91] W (IsNo W)) := h.no (c := 91) (by rw [hc]; decide)
  have NO2 : Hid (∀ W, PW w pb s i W → Calls Tryd.prog 117 #[.pointer (some ⟨pb, 0, none⟩), .int .u8 46] W (IsNo W)) := h.no (c := 46) (by rw [hc]; decide)
  have NO3 : Hid (∀ W, PW w pb s i W → Calls Tryd.prog 117 #[.pointer (some ⟨pb, 0, none⟩), .int .u8 94] W (IsNo W)) := h.no (c := 94) (by rw [hc]; decide)
  have YES : Hid (∀ W, PW w pb s i W → Calls Tryd.prog 117 #[.pointer (some ⟨pb, 0, none⟩), .int .u8 36] W (IsYes pb s i W)) := h.yes (c := 36) hc
  have HN := Lib.hid fun W => node_c 9 W
  unfold NodeIs at HN
  have HP0 := Lib.hid h.pw
  clear h hc
  unfold TreeAt
  go_enter Tryd.func138, Tryd.ntmps138
  go_wp2_with fail
  refine (NO0.out _ HP0.out).mono ?_
  rintro e x1 ⟨rfl, hb⟩
  have HP1 := Lib.hid (HP0.out.below hb)
  clear hb
  go_wp2_with fail
  refine (NO1.out _ HP1.out).mono ?_
  rintro e x2 ⟨rfl, hb⟩
  have HP2 := Lib.hid (HP1.out.below hb)
  clear hb
  go_wp2_with fail
  refine (NO2.out _ HP2.out).mono ?_
  rintro e x3 ⟨rfl, hb⟩
  have HP3 := Lib.hid (HP2.out.below hb)
  clear hb
  go_wp2_with fail
  refine (NO3.out _ HP3.out).mono ?_
  rintro e x4 ⟨rfl, hb⟩
  have HP4 := Lib.hid (HP3.out.below hb)
  clear hb
  go_wp2_with fail
  refine (YES.out _ HP4.out).mono ?_
  rintro e y ⟨rfl, hp⟩
  have HY := Lib.hid (HP4.out.trans hp)
  clear hp
  go_wp2_with fail
  refine (HN.out _).mono ?_
  rintro e z ⟨rfl, ho, hb⟩
  have HZ := Lib.hid (HY.out.below hb)
  have HO := Lib.hid ho
  clear ho hb
  go_wp2_with fail
  go_ret
  exact ⟨_, _, rfl, HO.out.base HY.out.grow.size, HZ.out⟩

set_option maxRecDepth 100000 in
set_option maxHeartbeats 8000000 in
theorem atom_dot {ev : Value} {pb : Nat} {s : ByteArray} {i : Nat} (w : World) (h : PIn ev pb s i w) (hc : s.data.toList[i]? = some 46) :
    Calls Tryd.prog 138 #[.pointer (some ⟨pb, 0, none⟩)] w (TreeAt pb s (.byte dotC) (i + 1) w) := by
  have NO0 : Hid (∀ W, PW w pb s i W → Calls Tryd.prog 117 #[.pointer (some ⟨pb, 0, none⟩), .int .u8 40] W (IsNo W)) := h.no (c := 40) (by rw [hc]; decide)
  have NO1 : Hid (∀ W, PW w pb s i W → Calls Tryd.prog 117 #[.pointer (some ⟨pb, 0, none⟩), .int .u8 91] W (IsNo W)) := h.no (c := 91) (by rw [hc]; decide)
  have YES : Hid (∀ W, PW w pb s i W → Calls Tryd.prog 117 #[.pointer (some ⟨pb, 0, none⟩), .int .u8 46] W (IsYes pb s i W)) := h.yes (c := 46) hc
  have HN := Lib.hid fun W => Dot_any W
  unfold ClsIs at HN
  have HP0 := Lib.hid h.pw
  clear h hc
  unfold TreeAt
  go_enter Tryd.func138, Tryd.ntmps138
  go_wp2_with fail
  refine (NO0.out _ HP0.out).mono ?_
  rintro e x1 ⟨rfl, hb⟩
  have HP1 := Lib.hid (HP0.out.below hb)
  clear hb
  go_wp2_with fail
  refine (NO1.out _ HP1.out).mono ?_
  rintro e x2 ⟨rfl, hb⟩
  have HP2 := Lib.hid (HP1.out.below hb)
  clear hb
  go_wp2_with fail
  refine (YES.out _ HP2.out).mono ?_
  rintro e y ⟨rfl, hp⟩
  have HY := Lib.hid (HP2.out.trans hp)
  clear hp
  go_wp2_with fail
  refine (HN.out _).mono ?_
  rintro e z ⟨d0, d1, d2, d3, rfl, hd, hb⟩
  have HZ := Lib.hid (HY.out.below hb)
  have HD := Lib.hid hd
  clear hd hb
  go_wp2_with fail
  go_ret
  refine ⟨z.heap.size, 1, rfl, ?_, HZ.out.below ((Below.refl _ _).alloc (Nat.le_refl _) _)⟩
  have := own_node z _ rfl w.heap.size HZ.out.grow.size 1 d0 d1 d2 d3
  rw [HD.out] at this
  exact this

set_option maxRecDepth 100000 in
set_option maxHeartbeats 8000000 in
theorem atom_cls {ev : Value} {pb : Nat} {s : ByteArray} {i : Nat} (w : World) (h : PIn ev pb s i w) (hc : s.data.toList[i]? = some 91) {c : Cls} {j : Nat} (hr : bracketS s.data.toList (i + 1) = .ok c j) :
    Calls Tryd.prog 138 #[.pointer (some ⟨pb, 0, none⟩)] w (TreeAt pb s (.byte c) j w) := by
  have NO0 : Hid (∀ W, PW w pb s i W → Calls Tryd.prog 117 #[.pointer (some ⟨pb, 0, none⟩), .int .u8 40] W (IsNo W)) := h.no (c := 40) (by rw [hc]; decide)
  have YES : Hid (∀ W, PW w pb s i W → Calls Tryd.prog 117 #[.pointer (some ⟨pb, 0, none⟩), .int .u8 91] W (IsYes pb s i W)) := h.yes (c := 91) hc
  have hi2 := getE_lt hc
  rw [at_end] at hi2
  have HI : Hid (∀ W, PW w pb s (i + 1) W → Calls Tryd.prog 154 #[.pointer (some ⟨pb, 0, none⟩)] W (ClsAt pb s j c W)) := Lib.hid fun W hw => (items_c W (h.next hw (by omega))).mono fun e w' hh => hh.ok hr
  have HP0 := Lib.hid h.pw
  unfold ClsAt at HI
  clear h hc hr
  unfold TreeAt
  go_enter Tryd.func138, Tryd.ntmps138
  go_wp2_with fail
  refine (NO0.out _ HP0.out).mono ?_
  rintro e x1 ⟨rfl, hb⟩
  have HP1 := Lib.hid (HP0.out.below hb)
  clear hb
  go_wp2_with fail
  refine (YES.out _ HP1.out).mono ?_
  rintro e y ⟨rfl, hp⟩
  have HY := Lib.hid (HP1.out.trans hp)
  clear hp
  go_wp2_with fail
  refine (HI.out _ HY.out).mono ?_
  rintro e z ⟨d0, d1, d2, d3, rfl, hd, hp⟩
  have HZ := Lib.hid (HY.out.trans hp)
  have HD := Lib.hid hd
  clear hd hp
  go_wp2_with fail
  go_ret
  refine ⟨z.heap.size, 1, rfl, ?_, HZ.out.below ((Below.refl _ _).alloc (Nat.le_refl _) _)⟩
  have := own_node z _ rfl w.heap.size HZ.out.grow.size 1 d0 d1 d2 d3
  rw [HD.out] at this
  exact this

set_option maxRecDepth 100000 in
set_option maxHeartbeats 8000000 in
theorem atom_clsbad {ev : Value} {pb : Nat} {s : ByteArray} {i : Nat} (w : World) (h : PIn ev pb s i w) (hc : s.data.toList[i]? = some 91) {k : Nat} (hr : bracketS s.data.toList (i + 1) = .bad k) :
    Calls Tryd.prog 138 #[.pointer (some ⟨pb, 0, none⟩)] w (PS w pb k) := by
  have NO0 : Hid (∀ W, PW w pb s i W → Calls Tryd.prog 117 #[.pointer (some ⟨pb, 0, none⟩), .int .u8 40] W (IsNo W)) := h.no (c := 40) (by rw [hc]; decide)
  have YES : Hid (∀ W, PW w pb s i W → Calls Tryd.prog 117 #[.pointer (some ⟨pb, 0, none⟩), .int .u8 91] W (IsYes pb s i W)) := h.yes (c := 91) hc
  have hi2 := getE_lt hc
  rw [at_end] at hi2
  have HI : Hid (∀ W, PW w pb s (i + 1) W → Calls Tryd.prog 154 #[.pointer (some ⟨pb, 0, none⟩)] W (PS W pb k)) := Lib.hid fun W hw => (items_c W (h.next hw (by omega))).mono fun e w' hh => hh.bad hr
  have HP0 := Lib.hid h.pw
  clear h hc hr
  unfold PS at *
  go_enter Tryd.func138, Tryd.ntmps138
  go_wp2_with fail
  refine (NO0.out _ HP0.out).mono ?_
  rintro e x1 ⟨rfl, hb⟩
  have HP1 := Lib.hid (HP0.out.below hb)
  clear hb
  go_wp2_with fail
  refine (YES.out _ HP1.out).mono ?_
  rintro e y ⟨rfl, hp⟩
  have HY := Lib.hid (HP1.out.trans hp)
  clear hp
  go_wp2_with fail
  refine (HI.out _ HY.out).mono ?_
  rintro e z ⟨rfl, hp⟩
  exact ⟨rfl, rfl, HY.out.grow.trans hp⟩

set_option maxRecDepth 100000 in
set_option maxHeartbeats 8000000 in
theorem atom_onebad {ev : Value} {pb : Nat} {s : ByteArray} {i : Nat} (w : World) (h : PIn ev pb s i w) (h1 : s.data.toList[i]? ≠ some 40) (h2 : s.data.toList[i]? ≠ some 91) (h3 : s.data.toList[i]? ≠ some 46) (h4 : s.data.toList[i]? ≠ some 94) (h5 : s.data.toList[i]? ≠ some 36) {k : Nat} (hr : oneS s.data.toList i = .bad k) :
    Calls Tryd.prog 138 #[.pointer (some ⟨pb, 0, none⟩)] w (PS w pb k) := by
  have NO0 : Hid (∀ W, PW w pb s i W → Calls Tryd.prog 117 #[.pointer (some ⟨pb, 0, none⟩), .int .u8 40] W (IsNo W)) := h.no (c := 40) h1
  have NO1 : Hid (∀ W, PW w pb s i W → Calls Tryd.prog 117 #[.pointer (some ⟨pb, 0, none⟩), .int .u8 91] W (IsNo W)) := h.no (c := 91) h2
  have NO2 : Hid (∀ W, PW w pb s i W → Calls Tryd.prog 117 #[.pointer (some ⟨pb, 0, none⟩), .int .u8 46] W (IsNo W)) := h.no (c := 46) h3
  have NO3 : Hid (∀ W, PW w pb s i W → Calls Tryd.prog 117 #[.pointer (some ⟨pb, 0, none⟩), .int .u8 94] W (IsNo W)) := h.no (c := 94) h4
  have NO4 : Hid (∀ W, PW w pb s i W → Calls Tryd.prog 117 #[.pointer (some ⟨pb, 0, none⟩), .int .u8 36] W (IsNo W)) := h.no (c := 36) h5
  have HI : Hid (∀ W, PW w pb s i W → Calls Tryd.prog 155 #[.pointer (some ⟨pb, 0, none⟩)] W (PS W pb k)) := Lib.hid fun W hw => (one_c W (h.next hw h.le)).mono fun e w' hh => hh.bad hr
  have HP0 := Lib.hid h.pw
  clear h h1 h2 h3 h4 h5 hr
  unfold PS at *
  go_enter Tryd.func138, Tryd.ntmps138
  go_wp2_with fail
  refine (NO0.out _ HP0.out).mono ?_
  rintro e x1 ⟨rfl, hb⟩
  have HP1 := Lib.hid (HP0.out.below hb)
  clear hb
  go_wp2_with fail
  refine (NO1.out _ HP1.out).mono ?_
  rintro e x2 ⟨rfl, hb⟩
  have HP2 := Lib.hid (HP1.out.below hb)
  clear hb
  go_wp2_with fail
  refine (NO2.out _ HP2.out).mono ?_
  rintro e x3 ⟨rfl, hb⟩
  have HP3 := Lib.hid (HP2.out.below hb)
  clear hb
  go_wp2_with fail
  refine (NO3.out _ HP3.out).mono ?_
  rintro e x4 ⟨rfl, hb⟩
  have HP4 := Lib.hid (HP3.out.below hb)
  clear hb
  go_wp2_with fail
  refine (NO4.out _ HP4.out).mono ?_
  rintro e x5 ⟨rfl, hb⟩
  have HP5 := Lib.hid (HP4.out.below hb)
  clear hb
  go_wp2_with fail
  refine (HI.out _ HP5.out).mono ?_
  rintro e z ⟨rfl, hp⟩
  exact ⟨rfl, rfl, HP5.out.grow.trans hp⟩

set_option maxRecDepth 100000 in
set_option maxHeartbeats 8000000 in
theorem atom_one {ev : Value} {pb : Nat} {s : ByteArray} {i : Nat} (w : World) (h : PIn ev pb s i w) (h1 : s.data.toList[i]? ≠ some 40) (h2 : s.data.toList[i]? ≠ some 91) (h3 : s.data.toList[i]? ≠ some 46) (h4 : s.data.toList[i]? ≠ some 94) (h5 : s.data.toList[i]? ≠ some 36) {b j : Nat} (hr : oneS s.data.toList i = .ok b j) :
    Calls Tryd.prog 138 #[.pointer (some ⟨pb, 0, none⟩)] w (TreeAt pb s (.byte (withB zc b)) j w) := by
  have NO0 : Hid (∀ W, PW w pb s i W → Calls Tryd.prog 117 #[.pointer (some ⟨pb, 0, none⟩), .int .u8 40] W (IsNo W)) := h.no (c := 40) h1
  have NO1 : Hid (∀ W, PW w pb s i W → Calls Tryd.prog 117 #[.pointer (some ⟨pb, 0, none⟩), .int .u8 91] W (IsNo W)) := h.no (c := 91) h2
  have NO2 : Hid (∀ W, PW w pb s i W → Calls Tryd.prog 117 #[.pointer (some ⟨pb, 0, none⟩), .int .u8 46] W (IsNo W)) := h.no (c := 46) h3
  have NO3 : Hid (∀ W, PW w pb s i W → Calls Tryd.prog 117 #[.pointer (some ⟨pb, 0, none⟩), .int .u8 94] W (IsNo W)) := h.no (c := 94) h4
  have NO4 : Hid (∀ W, PW w pb s i W → Calls Tryd.prog 117 #[.pointer (some ⟨pb, 0, none⟩), .int .u8 36] W (IsNo W)) := h.no (c := 36) h5
  have HI : Hid (∀ W, PW w pb s i W → Calls Tryd.prog 155 #[.pointer (some ⟨pb, 0, none⟩)] W (ByteAt pb s j b W)) := Lib.hid fun W hw => (one_c W (h.next hw h.le)).mono fun e w' hh => hh.ok hr
  have hb256 := (oneS_ok hr).2.2
  have hof : ofL (ByteArray.mk #[UInt8.ofNat b]).data.toList zc = withB zc b := by
    simp [ofL, Nat.mod_eq_of_lt hb256]
  have HC := Lib.hid fun W => Of_any ⟨#[UInt8.ofNat b]⟩ W (by show 1 ≤ _; decide)
  rw [hof] at HC
  unfold ClsIs at HC
  unfold ByteAt at HI
  have hcv := fun W => convS_byte b hb256 W
  have HP0 := Lib.hid h.pw
  clear h h1 h2 h3 h4 h5 hr hof
  unfold TreeAt
  go_enter Tryd.func138, Tryd.ntmps138
  go_wp2_with fail
  refine (NO0.out _ HP0.out).mono ?_
  rintro e x1 ⟨rfl, hb⟩
  have HP1 := Lib.hid (HP0.out.below hb)
  clear hb
  go_wp2_with fail
  refine (NO1.out _ HP1.out).mono ?_
  rintro e x2 ⟨rfl, hb⟩
  have HP2 := Lib.hid (HP1.out.below hb)
  clear hb
  go_wp2_with fail
  refine (NO2.out _ HP2.out).mono ?_
  rintro e x3 ⟨rfl, hb⟩
  have HP3 := Lib.hid (HP2.out.below hb)
  clear hb
  go_wp2_with fail
  refine (NO3.out _ HP3.out).mono ?_
  rintro e x4 ⟨rfl, hb⟩
  have HP4 := Lib.hid (HP3.out.below hb)
  clear hb
  go_wp2_with fail
  refine (NO4.out _ HP4.out).mono ?_
  rintro e x5 ⟨rfl, hb⟩
  have HP5 := Lib.hid (HP4.out.below hb)
  clear hb
  go_wp2_with fail
  refine (HI.out _ HP5.out).mono ?_
  rintro e z ⟨rfl, hp⟩
  have HZ := Lib.hid (HP5.out.trans hp)
  clear hp
  go_wp2_with fail
  refine (HC.out _).mono ?_
  rintro e z2 ⟨d0, d1, d2, d3, rfl, hd, hb⟩
  have HZ2 := Lib.hid ((HZ.out.below ((Below.refl _ _).alloc (Nat.le_refl _) _)).below hb)
  have HD := Lib.hid hd
  clear hd hb
  go_wp2_with fail
  go_ret
  refine ⟨z2.heap.size, 1, rfl, ?_, HZ2.out.below ((Below.refl _ _).alloc (Nat.le_refl _) _)⟩
  have := own_node z2 _ rfl w.heap.size HZ2.out.grow.size 1 d0 d1 d2 d3
  rw [HD.out] at this
  exact this
end Go.Proofs.YthcahjnniendnabDoor
