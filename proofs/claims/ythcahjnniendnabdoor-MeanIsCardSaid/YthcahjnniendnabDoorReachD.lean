/-
  The walk of the document's Reach: the places without a part of their own.
-/
import Derived.Test.YthcahjnniendnabDoorReachC
namespace Go.Proofs.YthcahjnniendnabDoor
open Go.RowKit Wf

set_option maxRecDepth 100000 in
set_option maxHeartbeats 16000000 in
theorem Reach_empty (l : List Nd) (hg : ∀ n ∈ l, good n) (hok : ∀ n ∈ l, okC n.cls) (hlen : l.length ≤ 60) (b off cap : Nat) (s : ByteArray) (hs : s.size ≤ 400) (i : Nat) (hat : At l i (.empty)) : ReachAt l b off cap s (.empty) i := by
  have HM : Hid (∀ (w : World), RdN w (.slice (some ⟨b, off, none⟩) l.length cap) l → ∀ k n, l[k]? = some n →
      w.cell? ⟨b, off + k * 5, none⟩ = some (.int .i64 n.op) ∧ w.cell? ⟨b, off + k * 5 + 1, none⟩ = some (.int .u64 (n.cls.1 : Int)) ∧ w.cell? ⟨b, off + k * 5 + 2, none⟩ = some (.int .u64 (n.cls.2.1 : Int)) ∧
      w.cell? ⟨b, off + k * 5 + 3, none⟩ = some (.int .u64 (n.cls.2.2.1 : Int)) ∧ w.cell? ⟨b, off + k * 5 + 4, none⟩ = some (.int .u64 (n.cls.2.2.2 : Int))) := Lib.hid (fun w hr k n hk => by
    obtain ⟨A', cap', hv, hcap, hcap2, hmem⟩ := hr.open_
    injection hv with e1 _ e2
    obtain ⟨b', off', hA, _, hc⟩ := hmem (by have := (List.getElem?_eq_some_iff.1 hk).1; omega)
    rw [hA] at e1
    cases e1
    exact hc w (fun _ => rfl) k n hk)
  have HBL : Hid (∀ (w : World), RdN w (.slice (some ⟨b, off, none⟩) l.length cap) l → 0 < l.length → b < w.heap.size) := Lib.hid (fun w hr hk => by
    obtain ⟨A', cap', hv, hcap, hcap2, hmem⟩ := hr.open_
    injection hv with e1 _ e2
    obtain ⟨b', off', hA, hb, _⟩ := hmem hk
    rw [hA] at e1
    cases e1
    exact hb)
  have HEND := Lib.hid (fun (i : Nat) (hi : i ≤ l.length) (w : World) (hr : RdN w (.slice (some ⟨b, off, none⟩) l.length cap) l) => REnd_all l hg hlen (some ⟨b, off, none⟩) cap l.length i w (by omega) hi hr)
  have HOK := Lib.hid hok
  have HSL := Lib.hid (show s.data.toList.length = s.size by simp)
  have HCLO := Lib.hid (fun (u : Rx) (i : Nat) (h : ReachAt l b off cap s u i) => closed_any l b off cap s hs u i h)
  have HBW : Hid (∀ (w : World) (o o' : Obj), Below w.heap.size w ((w.alloc o).alloc o')) := Lib.hid fun w o o' => ((Below.refl _ _).alloc (Nat.le_refl _) _).alloc (by simp) _
  have hmk0 := fun W => mk_bools (s.size + 1) (by omega) W
  have hmk := hmk0
  rw [show ((s.size + 1 : Nat) : Int) = (s.size : Int) + 1 by omega] at hmk
  have hrg := fun f (hf : f < s.size + 1) => repA_get (s.size + 1) (.bool false) f hf
  have HRG := Lib.hid hrg
  clear hg hok hrg
  · intro w g D hr hD
    obtain ⟨q0, q1, q2, q3, q4⟩ := HM.out w hr i _ hat.empty
    have hlt := hat.lt
    have hpos := flat_pos (.empty)
    have hi1 : (i : Int) < (l.length : Int) := by omega
    have hgl := hD.lt
    have hbl := HBL.out w hr (by omega)
    have HR := Lib.hid hr
    have HD := Lib.hid hD
    dsimp only [zc] at q0 q1 q2 q3 q4
    have hcp := run_copy_row (P := Tryd.prog) ((w.alloc (.cells (repA (s.size + 1) (.bool false)) 4)).alloc (.cells #[.int .i64 2, .int .u64 0, .int .u64 0, .int .u64 0, .int .u64 0] 69)) 103 103 3 4 w.heap.size 0 (s.size + 1) (s.size + 1) ⟨g, 0, none⟩ (s.size + 1) (s.size + 1) (repA (s.size + 1) (.bool false)) 4 (rowOf (s.size + 1) D) Tryd.underlying103 (by kernel_rfl) ((Blk.new w 4 (repA (s.size + 1) (.bool false))).alloc _) (rowOf_min _ _) ((HD.out.below (HBW.out w _ _)).src) (rowOf_fit _ _) (rowOf_one _ _)
    clear hat hr hD
    go_enter Tryd.func57, Tryd.ntmps57
    go_wp2
    go_ret
    exact ⟨w.heap.size, D, rfl, RB.copied ((Blk.new w 4 (repA (s.size + 1) (.bool false))).alloc _) (repA_size _ _), to_empty _ _ _, below_setRow (HBW.out w _ _) (Nat.le_refl _) _⟩
set_option maxRecDepth 100000 in
set_option maxHeartbeats 16000000 in
theorem Reach_bgn (l : List Nd) (hg : ∀ n ∈ l, good n) (hok : ∀ n ∈ l, okC n.cls) (hlen : l.length ≤ 60) (b off cap : Nat) (s : ByteArray) (hs : s.size ≤ 400) (i : Nat) (hat : At l i (.bgn)) : ReachAt l b off cap s (.bgn) i := by
  have HM : Hid (∀ (w : World), RdN w (.slice (some ⟨b, off, none⟩) l.length cap) l → ∀ k n, l[k]? = some n →
      w.cell? ⟨b, off + k * 5, none⟩ = some (.int .i64 n.op) ∧ w.cell? ⟨b, off + k * 5 + 1, none⟩ = some (.int .u64 (n.cls.1 : Int)) ∧ w.cell? ⟨b, off + k * 5 + 2, none⟩ = some (.int .u64 (n.cls.2.1 : Int)) ∧
      w.cell? ⟨b, off + k * 5 + 3, none⟩ = some (.int .u64 (n.cls.2.2.1 : Int)) ∧ w.cell? ⟨b, off + k * 5 + 4, none⟩ = some (.int .u64 (n.cls.2.2.2 : Int))) := Lib.hid (fun w hr k n hk => by
    obtain ⟨A', cap', hv, hcap, hcap2, hmem⟩ := hr.open_
    injection hv with e1 _ e2
    obtain ⟨b', off', hA, _, hc⟩ := hmem (by have := (List.getElem?_eq_some_iff.1 hk).1; omega)
    rw [hA] at e1
    cases e1
    exact hc w (fun _ => rfl) k n hk)
  have HBL : Hid (∀ (w : World), RdN w (.slice (some ⟨b, off, none⟩) l.length cap) l → 0 < l.length → b < w.heap.size) := Lib.hid (fun w hr hk => by
    obtain ⟨A', cap', hv, hcap, hcap2, hmem⟩ := hr.open_
    injection hv with e1 _ e2
    obtain ⟨b', off', hA, hb, _⟩ := hmem hk
    rw [hA] at e1
    cases e1
    exact hb)
  have HEND := Lib.hid (fun (i : Nat) (hi : i ≤ l.length) (w : World) (hr : RdN w (.slice (some ⟨b, off, none⟩) l.length cap) l) => REnd_all l hg hlen (some ⟨b, off, none⟩) cap l.length i w (by omega) hi hr)
  have HOK := Lib.hid hok
  have HSL := Lib.hid (show s.data.toList.length = s.size by simp)
  have HCLO := Lib.hid (fun (u : Rx) (i : Nat) (h : ReachAt l b off cap s u i) => closed_any l b off cap s hs u i h)
  have HBW : Hid (∀ (w : World) (o o' : Obj), Below w.heap.size w ((w.alloc o).alloc o')) := Lib.hid fun w o o' => ((Below.refl _ _).alloc (Nat.le_refl _) _).alloc (by simp) _
  have hmk0 := fun W => mk_bools (s.size + 1) (by omega) W
  have hmk := hmk0
  rw [show ((s.size + 1 : Nat) : Int) = (s.size : Int) + 1 by omega] at hmk
  have hrg := fun f (hf : f < s.size + 1) => repA_get (s.size + 1) (.bool false) f hf
  have HRG := Lib.hid hrg
  clear hg hok hrg
  · intro w g D hr hD
    obtain ⟨q0, q1, q2, q3, q4⟩ := HM.out w hr i _ hat.bgn
    have hlt := hat.lt
    have hpos := flat_pos (.bgn)
    have hi1 : (i : Int) < (l.length : Int) := by omega
    have hgl := hD.lt
    have hbl := HBL.out w hr (by omega)
    have HR := Lib.hid hr
    have HD := Lib.hid hD
    dsimp only [zc] at q0 q1 q2 q3 q4
    have hc := HD.out.cell (k := 0) (by omega)
    have hrg := HRG.out 0 (by omega)
    have hz0 : (0 : Int) < (s.size : Int) + 1 := by omega
    clear hat hr hD
    obtain ⟨x, hx⟩ : ∃ x, x = D 0 := ⟨_, rfl⟩
    rw [← hx] at hc
    have HX := Lib.hid hx
    clear hx
    go_enter Tryd.func57, Tryd.ntmps57
    go_wp2
    go_ret
    have hto := to_bgn s.data.toList (s.size + 1) D
    refine ⟨w.heap.size, setD (fun _ => false) 0 (D 0), rfl, by rw [← HX.out]; exact (repA_set w (s.size + 1) 0 x).alloc _, ?_, HBW.out w _ _⟩
    exact hto
set_option maxRecDepth 100000 in
set_option maxHeartbeats 16000000 in
theorem Reach_fin (l : List Nd) (hg : ∀ n ∈ l, good n) (hok : ∀ n ∈ l, okC n.cls) (hlen : l.length ≤ 60) (b off cap : Nat) (s : ByteArray) (hs : s.size ≤ 400) (i : Nat) (hat : At l i (.fin)) : ReachAt l b off cap s (.fin) i := by
  have HM : Hid (∀ (w : World), RdN w (.slice (some ⟨b, off, none⟩) l.length cap) l → ∀ k n, l[k]? = some n →
      w.cell? ⟨b, off + k * 5, none⟩ = some (.int .i64 n.op) ∧ w.cell? ⟨b, off + k * 5 + 1, none⟩ = some (.int .u64 (n.cls.1 : Int)) ∧ w.cell? ⟨b, off + k * 5 + 2, none⟩ = some (.int .u64 (n.cls.2.1 : Int)) ∧
      w.cell? ⟨b, off + k * 5 + 3, none⟩ = some (.int .u64 (n.cls.2.2.1 : Int)) ∧ w.cell? ⟨b, off + k * 5 + 4, none⟩ = some (.int .u64 (n.cls.2.2.2 : Int))) := Lib.hid (fun w hr k n hk => by
    obtain ⟨A', cap', hv, hcap, hcap2, hmem⟩ := hr.open_
    injection hv with e1 _ e2
    obtain ⟨b', off', hA, _, hc⟩ := hmem (by have := (List.getElem?_eq_some_iff.1 hk).1; omega)
    rw [hA] at e1
    cases e1
    exact hc w (fun _ => rfl) k n hk)
  have HBL : Hid (∀ (w : World), RdN w (.slice (some ⟨b, off, none⟩) l.length cap) l → 0 < l.length → b < w.heap.size) := Lib.hid (fun w hr hk => by
    obtain ⟨A', cap', hv, hcap, hcap2, hmem⟩ := hr.open_
    injection hv with e1 _ e2
    obtain ⟨b', off', hA, hb, _⟩ := hmem hk
    rw [hA] at e1
    cases e1
    exact hb)
  have HEND := Lib.hid (fun (i : Nat) (hi : i ≤ l.length) (w : World) (hr : RdN w (.slice (some ⟨b, off, none⟩) l.length cap) l) => REnd_all l hg hlen (some ⟨b, off, none⟩) cap l.length i w (by omega) hi hr)
  have HOK := Lib.hid hok
  have HSL := Lib.hid (show s.data.toList.length = s.size by simp)
  have HCLO := Lib.hid (fun (u : Rx) (i : Nat) (h : ReachAt l b off cap s u i) => closed_any l b off cap s hs u i h)
  have HBW : Hid (∀ (w : World) (o o' : Obj), Below w.heap.size w ((w.alloc o).alloc o')) := Lib.hid fun w o o' => ((Below.refl _ _).alloc (Nat.le_refl _) _).alloc (by simp) _
  have hmk0 := fun W => mk_bools (s.size + 1) (by omega) W
  have hmk := hmk0
  rw [show ((s.size + 1 : Nat) : Int) = (s.size : Int) + 1 by omega] at hmk
  have hrg := fun f (hf : f < s.size + 1) => repA_get (s.size + 1) (.bool false) f hf
  have HRG := Lib.hid hrg
  clear hg hok hrg
  · intro w g D hr hD
    obtain ⟨q0, q1, q2, q3, q4⟩ := HM.out w hr i _ hat.fin
    have hlt := hat.lt
    have hpos := flat_pos (.fin)
    have hi1 : (i : Int) < (l.length : Int) := by omega
    have hgl := hD.lt
    have hbl := HBL.out w hr (by omega)
    have HR := Lib.hid hr
    have HD := Lib.hid hD
    dsimp only [zc] at q0 q1 q2 q3 q4
    have hc := HD.out.cell (k := s.size) (by omega)
    have hrg := HRG.out s.size (by omega)
    have hz0 : (0 : Int) < (s.size : Int) + 1 := by omega
    clear hat hr hD
    obtain ⟨x, hx⟩ : ∃ x, x = D s.size := ⟨_, rfl⟩
    rw [← hx] at hc
    have HX := Lib.hid hx
    clear hx
    go_enter Tryd.func57, Tryd.ntmps57
    go_wp2
    go_ret
    have hto := to_fin s.data.toList D
    refine ⟨w.heap.size, setD (fun _ => false) s.size (D s.size), rfl, by rw [← HX.out]; exact (repA_set w (s.size + 1) s.size x).alloc _, ?_, HBW.out w _ _⟩
    rw [HSL.out] at hto; exact hto
end Go.Proofs.YthcahjnniendnabDoor
