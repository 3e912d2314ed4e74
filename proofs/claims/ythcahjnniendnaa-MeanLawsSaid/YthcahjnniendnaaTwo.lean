/-
  Walks of the statements' under and two: patterns under a node.
-/
import Derived.Test.YthcahjnniendnaaTurn
namespace Go.Proofs.Ythcahjnniendnaa
open Go.RowKit Wf

theorem rd_news {w w' : World} {A : Option Addr} {n cap : Nat} {l : List Nd} (h : RdN w (.slice A n cap) l) (hl : 0 < l.length) (hb : Below w.heap.size w w') :
    n = l.length ∧ ∃ ad, A = some ad ∧ ∀ (j : Nat) (u : Value), (l.flatMap ndCells)[j]? = some u → w'.cell? (ad.add j) = some u := by
  obtain ⟨A', n', cap', hv, h1, h2, h3, h4⟩ := Rd.below h hb
  cases hv
  rw [flatMap_len] at h3
  obtain rfl : n = l.length := by omega
  obtain ⟨b, off, rfl, hc⟩ := h4 hl
  exact ⟨rfl, _, rfl, fun j u hu => by rw [add_mk]; exact hc j u hu⟩

theorem own_form {w : World} {base : Nat} {v : Value} {l : List Nd} (h : OwnN w base v l) (hn : 0 < l.length) : ∃ g cap, v = .slice (some ⟨g, 0, none⟩) l.length cap := by
  obtain ⟨_, h2⟩ := h
  rcases h2 with ⟨_, h0⟩ | ⟨g, cap, cur, hv, _⟩
  · omega
  · exact ⟨g, cap, hv⟩

theorem below_own {B : Nat} {a w w' : World} {e : TypeId} {size n : Nat} {v : Value} {xs : List Value} (h : Below B a w) (hB : B ≤ w.heap.size) (ho : w.ownsRow B e size v n xs) (hg : w.grownBy w' v.ownBlock) : Below B a w' :=
  ⟨hg.os.trans h.os, hg.tape.trans h.tape, hg.output.trans h.output, Nat.le_trans h.size hg.size, fun i hi =>
    (hg.block i (by omega) (fun e => by have := (ho.lt i e.symm).1; omega)).trans (h.block i hi)⟩

set_option maxRecDepth 100000 in
set_option maxHeartbeats 4000000 in
theorem under_any (op : Int) (a : List Nd) (va : Value) (w : World) (h0 : 0 < a.length) (h1 : a.length ≤ 10000) (ha : RdN w va a) :
    Calls Try.prog 25 #[.int .i64 op, va] w (ConcatIs (⟨op, zc⟩ :: a) w) := by
  obtain ⟨i0, hi0, hz0, hz1, hz2⟩ := info_parts info_node
  obtain ⟨A, cap, rfl, hcap, hcap2, _⟩ := ha.open_
  have hal : Below w.heap.size w (w.alloc (.cells #[.int .i64 op, .int .u64 0, .int .u64 0, .int .u64 0, .int .u64 0] 34)) := (Below.refl _ _).alloc (Nat.le_refl _) _
  obtain ⟨_, ad, rfl, hnews⟩ := rd_news ha h0 hal
  have HN := Lib.hid hnews
  have HO := Lib.hid (own_lit w w.heap.size rfl w.heap.size (Nat.le_refl _) op 0 0 0 0)
  have HAL := Lib.hid hal
  clear hnews ha hal
  go_enter Try.func25, Try.ntmps25
  go_wp2_with (at_builtin; refine wpList_append_own _ rfl (.tmp 9) (.tmp 10) _ rfl w.heap.size 34 i0 _ 5 40 Try.underlying25 hi0 hz0 hz1 hz2 rfl (by omega) _ 1 (ndCells ⟨op, 0, 0, 0, 0⟩) rfl HO.out ad a.length cap (a.flatMap ndCells) rfl (flatMap_len a) HN.out (ndCells_one a) (by unfold maxLen; omega) (by omega) (by simp) ?_; intro v' w' hown' hg' _)
  have hown : OwnN w' w.heap.size v' (⟨op, zc⟩ :: a) := by
    unfold OwnN
    have e : (⟨op, zc⟩ :: a : List Nd).length = 1 + a.length := by simp; omega
    rw [e]
    exact hown'
  obtain ⟨g, cap', rfl⟩ := own_form hown (by simp)
  have hbl := below_own HAL.out (by simp) HO.out hg'
  have HOW := Lib.hid hown
  have HBL := Lib.hid hbl
  clear hown hown' hbl hg'
  go_wp2
  go_ret
  exact ⟨g, cap', rfl, HOW.out, HBL.out⟩

set_option maxRecDepth 100000 in
set_option maxHeartbeats 4000000 in
theorem two_any (op : Int) (a c : List Nd) (va vc : Value) (w : World) (h0 : 0 < a.length) (h1 : a.length ≤ 10000) (k0 : 0 < c.length) (k1 : c.length ≤ 10000) (ha : RdN w va a) (hc : RdN w vc c) :
    Calls Try.prog 26 #[.int .i64 op, va, vc] w (ConcatIs (⟨op, zc⟩ :: (a ++ c)) w) := by
  obtain ⟨i0, hi0, hz0, hz1, hz2⟩ := info_parts info_node
  obtain ⟨A, cap, rfl, hcap, hcap2, _⟩ := ha.open_
  obtain ⟨C, capc, rfl, hcapc, hcapc2, _⟩ := hc.open_
  have hal : Below w.heap.size w (w.alloc (.cells #[.int .i64 op, .int .u64 0, .int .u64 0, .int .u64 0, .int .u64 0] 34)) := (Below.refl _ _).alloc (Nat.le_refl _) _
  obtain ⟨_, ad, rfl, hnews⟩ := rd_news ha h0 hal
  have HN := Lib.hid hnews
  have HO := Lib.hid (own_lit w w.heap.size rfl w.heap.size (Nat.le_refl _) op 0 0 0 0)
  have HAL := Lib.hid hal
  obtain ⟨_, adc, rfl, _⟩ := rd_news hc k0 hal
  have HC := Lib.hid hc
  clear hnews ha hal hc
  go_enter Try.func26, Try.ntmps26
  go_wp2_with (first
    | (at_builtin; refine wpList_append_own _ rfl (.tmp 11) (.tmp 12) _ rfl w.heap.size 34 i0 _ 5 40 Try.underlying25 hi0 hz0 hz1 hz2 rfl (by omega) _ 1 (ndCells ⟨op, 0, 0, 0, 0⟩) rfl HO.out ad a.length cap (a.flatMap ndCells) rfl (flatMap_len a) HN.out (ndCells_one a) (by unfold maxLen; omega) (by omega) (by simp) ?_; intro v' w' hown' hg' _
       have hbl := below_own HAL.out (by simp) HO.out hg'
       obtain ⟨_, adc', hadc, hnewc⟩ := rd_news HC.out k0 hbl
       rw [← Option.some.inj hadc] at hnewc
       have HOW := Lib.hid hown'
       have HNC := Lib.hid hnewc
       have HBL := Lib.hid hbl
       have HSZ := Lib.hid hbl.size
       clear hown' hbl hg' hnewc hadc)
    | (at_builtin; refine wpList_append_own _ rfl (.tmp 14) (.tmp 15) _ rfl w.heap.size 34 i0 _ 5 40 Try.underlying25 hi0 hz0 hz1 hz2 rfl (by omega) _ (1 + a.length) (ndCells ⟨op, 0, 0, 0, 0⟩ ++ a.flatMap ndCells) rfl HOW.out adc c.length capc (c.flatMap ndCells) rfl (flatMap_len c) HNC.out (ndCells_one c) (by unfold maxLen; omega) (by omega) HSZ.out ?_; intro v2 w2 hown2 hg2 _))
  have hown : OwnN w2 w.heap.size v2 (⟨op, zc⟩ :: (a ++ c)) := by
    unfold OwnN
    have e : (⟨op, zc⟩ :: (a ++ c) : List Nd).length = 1 + a.length + c.length := by simp; omega
    have e2 : (⟨op, zc⟩ :: (a ++ c) : List Nd).flatMap ndCells = ndCells ⟨op, 0, 0, 0, 0⟩ ++ a.flatMap ndCells ++ c.flatMap ndCells := by simp [zc]
    rw [e, e2]
    exact hown2
  obtain ⟨g, cap', rfl⟩ := own_form hown (by simp)
  have hbl2 := below_own HBL.out HSZ.out HOW.out hg2
  have HOW2 := Lib.hid hown
  have HBL2 := Lib.hid hbl2
  clear hown hown2 hbl2 hg2
  go_wp2
  go_ret
  exact ⟨g, cap', rfl, HOW2.out, HBL2.out⟩

end Go.Proofs.Ythcahjnniendnaa
