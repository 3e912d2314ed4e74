/-
  The walk of the document's Reach: one part.
-/
import Derived.Test.YthcahjnniendnabDoorReachC
namespace Go.Proofs.YthcahjnniendnabDoor
open Go.RowKit Wf

set_option maxRecDepth 100000 in
set_option maxHeartbeats 16000000 in
theorem Reach_star (l : List Nd) (hg : ∀ n ∈ l, good n) (hok : ∀ n ∈ l, okC n.cls) (hlen : l.length ≤ 60) (b off cap : Nat) (s : ByteArray) (hs : s.size ≤ 400) (a : Rx) (iha : ∀ i, At l i a → ReachAt l b off cap s a i) (i : Nat) (hat : At l i (.star a)) : ReachAt l b off cap s (.star a) i := by
  have HM : Hid (∀ (w : World), RdN w (.slice (some ⟨b, off, none⟩) l.length cap) l → ∀ k n, l[k]? = some n →
      w.cell? ⟨b, off + k * 5, none⟩ = some (.int .i64 n.op) ∧ w.cell? ⟨b, off + k * 5 + 1, none⟩ = some (.int .u64 (n.cls.1 : Int)) ∧ w.cell? ⟨b, off + k * 5 + 2, none⟩ = some (.int .u64 (n.cls.2.1 : Int)) ∧
      w.cell? ⟨b, off + k * 5 + 3, none⟩ = some (.int .u64 (n.cls.2.2.1 : Int)) ∧ w.cell? ⟨b, off + k * 5 + 4, none⟩ = some (.int .u64 (n.cls.2.2.2 : Int))) := Lib.hid (fun w hr k n hk => by
    obtain ⟨A', cap', hv, hcap, hcap2, hmem⟩ := hr.open_
    injection hv with e1 _ e2
    obtain ⟨b', off', hA, _, hc⟩ := hmem (by have := (List.getElem?_eq_some_iff.1 hk).1; omega)
    rw [hA] at e1
    cases e1
    exact hc w (fun _ => rfl) k n hk)
  have HBL : Hid (∀ (w : World), RdN w (.slice (some ⟨b, off, none⟩) l.length cap) l → 0 < l.length → b < w.heap.size) := Lib.hid (fun w hr hk => by
    obtain ⟨A', cap', hv, hcap, hcap2, hmem⟩ := hr.open_
    injection hv with e1 _ e2
    obtain ⟨b', off', hA, hb, _⟩ := hmem hk
    rw [hA] at e1
    cases e1
    exact hb)
  have HEND := Lib.hid (fun (i : Nat) (hi : i ≤ l.length) (w : World) (hr : RdN w (.slice (some ⟨b, off, none⟩) l.length cap) l) => REnd_all l hg hlen (some ⟨b, off, none⟩) cap l.length i w (by omega) hi hr)
  have HOK := Lib.hid hok
  have HSL := Lib.hid (show s.data.toList.length = s.size by simp)
  have HCLO := Lib.hid (fun (u : Rx) (i : Nat) (h : ReachAt l b off cap s u i) => closed_any l b off cap s hs u i h)
  have HBW : Hid (∀ (w : World) (o o' : Obj), Below w.heap.size w ((w.alloc o).alloc o')) := Lib.hid fun w o o' => ((Below.refl _ _).alloc (Nat.le_refl _) _).alloc (by simp) _
  have hmk0 := fun W => mk_bools (s.size + 1) (by omega) W
  have hmk := hmk0
  rw [show ((s.size + 1 : Nat) : Int) = (s.size : Int) + 1 by omega] at hmk
  have hrg := fun f (hf : f < s.size + 1) => repA_get (s.size + 1) (.bool false) f hf
  have HRG := Lib.hid hrg
  clear hg hok hrg
  · intro w g D hr hD
    obtain ⟨q0, q1, q2, q3, q4⟩ := HM.out w hr i _ hat.star.1
    have hlt := hat.lt
    have hpos := flat_pos (.star a)
    have hi1 : (i : Int) < (l.length : Int) := by omega
    have hgl := hD.lt
    have hbl := HBL.out w hr (by omega)
    have HR := Lib.hid hr
    have HD := Lib.hid hD
    dsimp only [zc] at q0 q1 q2 q3 q4
    have HCL := Lib.hid (HCLO.out a (i + 1) (iha (i + 1) hat.star.2))
    clear hat hr hD iha
    go_enter Tryd.func57, Tryd.ntmps57
    go_wp2_with fail
    refine (HCL.out _ g D (HR.out.below (HBW.out w _ _)) (HD.out.below (HBW.out w _ _))).mono ?_
    rintro e w1 ⟨g1, D1, rfl, hg1, hto1, hb1⟩
    have HG1 := Lib.hid hg1
    have HTO1 := Lib.hid hto1
    have HB1 := Lib.hid (((HBW.out w _ _)).trans (hb1.mono ((HBW.out w _ _)).size))
    clear hg1 hto1 hb1
    go_wp2_with fail
    go_ret
    exact ⟨g1, D1, rfl, HG1.out, to_star HTO1.out, HB1.out⟩
set_option maxRecDepth 100000 in
set_option maxHeartbeats 16000000 in
theorem Reach_plus (l : List Nd) (hg : ∀ n ∈ l, good n) (hok : ∀ n ∈ l, okC n.cls) (hlen : l.length ≤ 60) (b off cap : Nat) (s : ByteArray) (hs : s.size ≤ 400) (a : Rx) (iha : ∀ i, At l i a → ReachAt l b off cap s a i) (i : Nat) (hat : At l i (.plus a)) : ReachAt l b off cap s (.plus a) i := by
  have HM : Hid (∀ (w : World), RdN w (.slice (some ⟨b, off, none⟩) l.length cap) l → ∀ k n, l[k]? = some n →
      w.cell? ⟨b, off + k * 5, none⟩ = some (.int .i64 n.op) ∧ w.cell? ⟨b, off + k * 5 + 1, none⟩ = some (.int .u64 (n.cls.1 : Int)) ∧ w.cell? ⟨b, off + k * 5 + 2, none⟩ = some (.int .u64 (n.cls.2.1 : Int)) ∧
      w.cell? ⟨b, off + k * 5 + 3, none⟩ = some (.int .u64 (n.cls.2.2.1 : Int)) ∧ w.cell? ⟨b, off + k * 5 + 4, none⟩ = some (.int .u64 (n.cls.2.2.2 : Int))) := Lib.hid (fun w hr k n hk => by
    obtain ⟨A', cap', hv, hcap, hcap2, hmem⟩ := hr.open_
    injection hv with e1 _ e2
    obtain ⟨b', off', hA, _, hc⟩ := hmem (by have := (List.getElem?_eq_some_iff.1 hk).1; omega)
    rw [hA] at e1
    cases e1
    exact hc w (fun _ => rfl) k n hk)
  have HBL : Hid (∀ (w : World), RdN w (.slice (some ⟨b, off, none⟩) l.length cap) l → 0 < l.length → b < w.heap.size) := Lib.hid (fun w hr hk => by
    obtain ⟨A', cap', hv, hcap, hcap2, hmem⟩ := hr.open_
    injection hv with e1 _ e2
    obtain ⟨b', off', hA, hb, _⟩ := hmem hk
    rw [hA] at e1
    cases e1
    exact hb)
  have HEND := Lib.hid (fun (i : Nat) (hi : i ≤ l.length) (w : World) (hr : RdN w (.slice (some ⟨b, off, none⟩) l.length cap) l) => REnd_all l hg hlen (some ⟨b, off, none⟩) cap l.length i w (by omega) hi hr)
  have HOK := Lib.hid hok
  have HSL := Lib.hid (show s.data.toList.length = s.size by simp)
  have HCLO := Lib.hid (fun (u : Rx) (i : Nat) (h : ReachAt l b off cap s u i) => closed_any l b off cap s hs u i h)
  have HBW : Hid (∀ (w : World) (o o' : Obj), Below w.heap.size w ((w.alloc o).alloc o')) := Lib.hid fun w o o' => ((Below.refl _ _).alloc (Nat.le_refl _) _).alloc (by simp) _
  have hmk0 := fun W => mk_bools (s.size + 1) (by omega) W
  have hmk := hmk0
  rw [show ((s.size + 1 : Nat) : Int) = (s.size : Int) + 1 by omega] at hmk
  have hrg := fun f (hf : f < s.size + 1) => repA_get (s.size + 1) (.bool false) f hf
  have HRG := Lib.hid hrg
  clear hg hok hrg
  · intro w g D hr hD
    obtain ⟨q0, q1, q2, q3, q4⟩ := HM.out w hr i _ hat.plus.1
    have hlt := hat.lt
    have hpos := flat_pos (.plus a)
    have hi1 : (i : Int) < (l.length : Int) := by omega
    have hgl := hD.lt
    have hbl := HBL.out w hr (by omega)
    have HR := Lib.hid hr
    have HD := Lib.hid hD
    dsimp only [zc] at q0 q1 q2 q3 q4
    have HCL := Lib.hid (HCLO.out a (i + 1) (iha (i + 1) hat.plus.2))
    have hRA := iha (i + 1) hat.plus.2
    unfold ReachAt at hRA
    have HRA := Lib.hid hRA
    clear hat hr hD iha hRA
    go_enter Tryd.func57, Tryd.ntmps57
    go_wp2_with fail
    refine (HRA.out _ g D (HR.out.below (HBW.out w _ _)) (HD.out.below (HBW.out w _ _))).mono ?_
    rintro e w1 ⟨g1, D1, rfl, hg1, hto1, hb1⟩
    have HG1 := Lib.hid hg1
    have HTO1 := Lib.hid hto1
    have HB1 := Lib.hid (((HBW.out w _ _)).trans (hb1.mono ((HBW.out w _ _)).size))
    clear hg1 hto1 hb1
    go_wp2_with fail
    refine (HCL.out _ g1 D1 (HR.out.below HB1.out) (HG1.out)).mono ?_
    rintro e w2 ⟨g2, D2, rfl, hg2, hto2, hb2⟩
    have HG2 := Lib.hid hg2
    have HTO2 := Lib.hid hto2
    have HB2 := Lib.hid ((HB1.out).trans (hb2.mono (HB1.out).size))
    clear hg2 hto2 hb2
    go_wp2_with fail
    go_ret
    exact ⟨g2, D2, rfl, HG2.out, by have h1 := HTO1.out; have h2 := HTO2.out; rw [← HSL.out] at h1 h2 ⊢; exact to_plus h1 h2, HB2.out⟩
set_option maxRecDepth 100000 in
set_option maxHeartbeats 16000000 in
theorem Reach_opt (l : List Nd) (hg : ∀ n ∈ l, good n) (hok : ∀ n ∈ l, okC n.cls) (hlen : l.length ≤ 60) (b off cap : Nat) (s : ByteArray) (hs : s.size ≤ 400) (a : Rx) (iha : ∀ i, At l i a → ReachAt l b off cap s a i) (i : Nat) (hat : At l i (.opt a)) : ReachAt l b off cap s (.opt a) i := by
  have HM : Hid (∀ (w : World), RdN w (.slice (some ⟨b, off, none⟩) l.length cap) l → ∀ k n, l[k]? = some n →
      w.cell? ⟨b, off + k * 5, none⟩ = some (.int .i64 n.op) ∧ w.cell? ⟨b, off + k * 5 + 1, none⟩ = some (.int .u64 (n.cls.1 : Int)) ∧ w.cell? ⟨b, off + k * 5 + 2, none⟩ = some (.int .u64 (n.cls.2.1 : Int)) ∧
      w.cell? ⟨b, off + k * 5 + 3, none⟩ = some (.int .u64 (n.cls.2.2.1 : Int)) ∧ w.cell? ⟨b, off + k * 5 + 4, none⟩ = some (.int .u64 (n.cls.2.2.2 : Int))) := Lib.hid (fun w hr k n hk => by
    obtain ⟨A', cap', hv, hcap, hcap2, hmem⟩ := hr.open_
    injection hv with e1 _ e2
    obtain ⟨b', off', hA, _, hc⟩ := hmem (by have := (List.getElem?_eq_some_iff.1 hk).1; omega)
    rw [hA] at e1
    cases e1
    exact hc w (fun _ => rfl) k n hk)
  have HBL : Hid (∀ (w : World), RdN w (.slice (some ⟨b, off, none⟩) l.length cap) l → 0 < l.length → b < w.heap.size) := Lib.hid (fun w hr hk => by
    obtain ⟨A', cap', hv, hcap, hcap2, hmem⟩ := hr.open_
    injection hv with e1 _ e2
    obtain ⟨b', off', hA, hb, _⟩ := hmem hk
    rw [hA] at e1
    cases e1
    exact hb)
  have HEND := Lib.hid (fun (i : Nat) (hi : i ≤ l.length) (w : World) (hr : RdN w (.slice (some ⟨b, off, none⟩) l.length cap) l) => REnd_all l hg hlen (some ⟨b, off, none⟩) cap l.length i w (by omega) hi hr)
  have HOK := Lib.hid hok
  have HSL := Lib.hid (show s.data.toList.length = s.size by simp)
  have HCLO := Lib.hid (fun (u : Rx) (i : Nat) (h : ReachAt l b off cap s u i) => closed_any l b off cap s hs u i h)
  have HBW : Hid (∀ (w : World) (o o' : Obj), Below w.heap.size w ((w.alloc o).alloc o')) := Lib.hid fun w o o' => ((Below.refl _ _).alloc (Nat.le_refl _) _).alloc (by simp) _
  have hmk0 := fun W => mk_bools (s.size + 1) (by omega) W
  have hmk := hmk0
  rw [show ((s.size + 1 : Nat) : Int) = (s.size : Int) + 1 by omega] at hmk
  have hrg := fun f (hf : f < s.size + 1) => repA_get (s.size + 1) (.bool false) f hf
  have HRG := Lib.hid hrg
  clear hg hok hrg
  · intro w g D hr hD
    obtain ⟨q0, q1, q2, q3, q4⟩ := HM.out w hr i _ hat.opt.1
    have hlt := hat.lt
    have hpos := flat_pos (.opt a)
    have hi1 : (i : Int) < (l.length : Int) := by omega
    have hgl := hD.lt
    have hbl := HBL.out w hr (by omega)
    have HR := Lib.hid hr
    have HD := Lib.hid hD
    dsimp only [zc] at q0 q1 q2 q3 q4
    have hRA := iha (i + 1) hat.opt.2
    unfold ReachAt at hRA
    have HRA := Lib.hid hRA
    clear hat hr hD iha hRA
    go_enter Tryd.func57, Tryd.ntmps57
    go_wp2_with fail
    refine (HRA.out _ g D (HR.out.below (HBW.out w _ _)) (HD.out.below (HBW.out w _ _))).mono ?_
    rintro e w1 ⟨g1, D1, rfl, hg1, hto1, hb1⟩
    have HG1 := Lib.hid hg1
    have HTO1 := Lib.hid hto1
    have HB1 := Lib.hid (((HBW.out w _ _)).trans (hb1.mono ((HBW.out w _ _)).size))
    have HD1 := Lib.hid ((HD.out.below (HBW.out w _ _)).below hb1)
    clear hg1 hto1 hb1
    go_wp2_with fail
    refine (joined_any g g1 (s.size + 1) (by omega) D D1 _ (HD1.out) (HG1.out)).mono ?_
    rintro e w2 ⟨g2, rfl, hg2, hb2⟩
    have HG2 := Lib.hid hg2
    have HB2 := Lib.hid ((HB1.out).trans (hb2.mono (HB1.out).size))
    clear hg2 hb2
    go_wp2_with fail
    go_ret
    exact ⟨g2, _, rfl, HG2.out, to_opt HTO1.out, HB2.out⟩
end Go.Proofs.YthcahjnniendnabDoor
