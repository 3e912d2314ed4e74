/-
  The walk of the document's Reach: two parts.
-/
import Derived.Test.YthcahjnniendnabDoorReachC
namespace Go.Proofs.YthcahjnniendnabDoor
open Go.RowKit Wf

set_option maxRecDepth 100000 in
set_option maxHeartbeats 16000000 in
theorem Reach_cat (l : List Nd) (hg : ∀ n ∈ l, good n) (hok : ∀ n ∈ l, okC n.cls) (hlen : l.length ≤ 60) (b off cap : Nat) (s : ByteArray) (hs : s.size ≤ 400) (a c : Rx) (iha : ∀ i, At l i a → ReachAt l b off cap s a i) (ihc : ∀ i, At l i c → ReachAt l b off cap s c i) (i : Nat) (hat : At l i (.cat a c)) : ReachAt l b off cap s (.cat a c) i := by
  have HM : Hid (∀ (w : World), RdN w (.slice (some ⟨b, off, none⟩) l.length cap) l → ∀ k n, l[k]? = some n →
      w.cell? ⟨b, off + k * 5, none⟩ = some (.int .i64 n.op) ∧ w.cell? ⟨b, off + k * 5 + 1, none⟩ = some (.int .u64 (n.cls.1 : Int)) ∧ w.cell? ⟨b, off + k * 5 + 2, none⟩ = some (.int .u64 (n.cls.2.1 : Int)) ∧
      w.cell? ⟨b, off + k * 5 + 3, none⟩ = some (.int .u64 (n.cls.2.2.1 : Int)) ∧ w.cell? ⟨b, off + k * 5 + 4, none⟩ = some (.int .u64 (n.cls.2.2.2 : Int))) := Lib.hid (fun w hr k n hk => by
    obtain ⟨A', cap', hv, hcap, hcap2, hmem⟩ := hr.open_
    injection hv with e1 _ e2
    obtain ⟨b', off', hA, _, hc⟩ := hmem (by have := (List.getElem?_eq_some_iff.1 hk).1; omega)
    rw [hA] at e1
    cases e1
    exact hc w (fun _ => rfl) k n hk)
  have HBL : Hid (∀ (w : World), RdN w (.slice (some ⟨b, off, none⟩) l.length cap) l → 0 < l.length → b < w.heap.size) := Lib.hid (fun w hr hk => by
    obtain ⟨A', cap', hv, hcap, hcap2, hmem⟩ := hr.open_
    injection hv with e1 _ e2
    obtain ⟨b', off', hA, hb, _⟩ := hmem hk
    rw [hA] at e1
    cases e1
    exact hb)
  have HEND := Lib.hid (fun (i : Nat) (hi : i ≤ l.length) (w : World) (hr : RdN w (.slice (some ⟨b, off, none⟩) l.length cap) l) => REnd_all l hg hlen (some ⟨b, off, none⟩) cap l.length i w (by omega) hi hr)
  have HOK := Lib.hid hok
  have HSL := Lib.hid (show s.data.toList.length = s.size by simp)
  have HCLO := Lib.hid (fun (u : Rx) (i : Nat) (h : ReachAt l b off cap s u i) => closed_any l b off cap s hs u i h)
  have HBW : Hid (∀ (w : World) (o o' : Obj), Below w.heap.size w ((w.alloc o).alloc o')) := Lib.hid fun w o o' => ((Below.refl _ _).alloc (Nat.le_refl _) _).alloc (by simp) _
  have hmk0 := fun W => mk_bools (s.size + 1) (by omega) W
  have hmk := hmk0
  rw [show ((s.size + 1 : Nat) : Int) = (s.size : Int) + 1 by omega] at hmk
  have hrg := fun f (hf : f < s.size + 1) => repA_get (s.size + 1) (.bool false) f hf
  have HRG := Lib.hid hrg
  clear hg hok hrg
  · intro w g D hr hD
    obtain ⟨q0, q1, q2, q3, q4⟩ := HM.out w hr i _ hat.cat.1
    have hlt := hat.lt
    have hpos := flat_pos (.cat a c)
    have hi1 : (i : Int) < (l.length : Int) := by omega
    have hgl := hD.lt
    have hbl := HBL.out w hr (by omega)
    have HR := Lib.hid hr
    have HD := Lib.hid hD
    dsimp only [zc] at q0 q1 q2 q3 q4
    obtain ⟨_, hata, hatc⟩ := hat.cat
    have hRA := iha (i + 1) hata
    have hRC := ihc (i + 1 + (flat a).length) hatc
    unfold ReachAt at hRA hRC
    have hpa := flat_pos a
    have hla := hata.lt
    have HE := Lib.hid (fun W h => HEND.out (i + 1) (by omega) W h)
    rw [eo_at hata] at HE
    generalize i + 1 + (flat a).length = e2 at *
    have HRA := Lib.hid hRA
    have HRC := Lib.hid hRC
    clear hat hr hD iha ihc hRA hRC hata hatc
    go_enter Tryd.func57, Tryd.ntmps57
    go_wp2_with fail
    refine (HE.out _ (HR.out.below (HBW.out w _ _))).mono ?_
    rintro e w1' ⟨rfl, rfl⟩
    go_wp2_with fail
    refine (HRA.out _ g D (HR.out.below (HBW.out w _ _)) (HD.out.below (HBW.out w _ _))).mono ?_
    rintro e w1 ⟨g1, D1, rfl, hg1, hto1, hb1⟩
    have HG1 := Lib.hid hg1
    have HTO1 := Lib.hid hto1
    have HB1 := Lib.hid (((HBW.out w _ _)).trans (hb1.mono ((HBW.out w _ _)).size))
    clear hg1 hto1 hb1
    go_wp2_with fail
    refine (HRC.out _ g1 D1 (HR.out.below HB1.out) (HG1.out)).mono ?_
    rintro e w2 ⟨g2, D2, rfl, hg2, hto2, hb2⟩
    have HG2 := Lib.hid hg2
    have HTO2 := Lib.hid hto2
    have HB2 := Lib.hid ((HB1.out).trans (hb2.mono (HB1.out).size))
    clear hg2 hto2 hb2
    go_wp2_with fail
    go_ret
    exact ⟨g2, D2, rfl, HG2.out, by have h1 := HTO1.out; have h2 := HTO2.out; rw [← HSL.out] at h1 h2 ⊢; exact to_cat h1 h2, HB2.out⟩
set_option maxRecDepth 100000 in
set_option maxHeartbeats 16000000 in
theorem Reach_alt (l : List Nd) (hg : ∀ n ∈ l, good n) (hok : ∀ n ∈ l, okC n.cls) (hlen : l.length ≤ 60) (b off cap : Nat) (s : ByteArray) (hs : s.size ≤ 400) (a c : Rx) (iha : ∀ i, At l i a → ReachAt l b off cap s a i) (ihc : ∀ i, At l i c → ReachAt l b off cap s c i) (i : Nat) (hat : At l i (.alt a c)) : ReachAt l b off cap s (.alt a c) i := by
  have HM : Hid (∀ (w : World), RdN w (.slice (some ⟨b, off, none⟩) l.length cap) l → ∀ k n, l[k]? = some n →
      w.cell? ⟨b, off + k * 5, none⟩ = some (.int .i64 n.op) ∧ w.cell? ⟨b, off + k * 5 + 1, none⟩ = some (.int .u64 (n.cls.1 : Int)) ∧ w.cell? ⟨b, off + k * 5 + 2, none⟩ = some (.int .u64 (n.cls.2.1 : Int)) ∧
      w.cell? ⟨b, off + k * 5 + 3, none⟩ = some (.int .u64 (n.cls.2.2.1 : Int)) ∧ w.cell? ⟨b, off + k * 5 + 4, none⟩ = some (.int .u64 (n.cls.2.2.2 : Int))) := Lib.hid (fun w hr k n hk => by
    obtain ⟨A', cap', hv, hcap, hcap2, hmem⟩ := hr.open_
    injection hv with e1 _ e2
    obtain ⟨b', off', hA, _, hc⟩ := hmem (by have := (List.getElem?_eq_some_iff.1 hk).1; omega)
    rw [hA] at e1
    cases e1
    exact hc w (fun _ => rfl) k n hk)
  have HBL : Hid (∀ (w : World), RdN w (.slice (some ⟨b, off, none⟩) l.length cap) l → 0 < l.length → b < w.heap.size) := Lib.hid (fun w hr hk => by
    obtain ⟨A', cap', hv, hcap, hcap2, hmem⟩ := hr.open_
    injection hv with e1 _ e2
    obtain ⟨b', off', hA, hb, _⟩ := hmem hk
    rw [hA] at e1
    cases e1
    exact hb)
  have HEND := Lib.hid (fun (i : Nat) (hi : i ≤ l.length) (w : World) (hr : RdN w (.slice (some ⟨b, off, none⟩) l.length cap) l) => REnd_all l hg hlen (some ⟨b, off, none⟩) cap l.length i w (by omega) hi hr)
  have HOK := Lib.hid hok
  have HSL := Lib.hid (show s.data.toList.length = s.size by simp)
  have HCLO := Lib.hid (fun (u : Rx) (i : Nat) (h : ReachAt l b off cap s u i) => closed_any l b off cap s hs u i h)
  have HBW : Hid (∀ (w : World) (o o' : Obj), Below w.heap.size w ((w.alloc o).alloc o')) := Lib.hid fun w o o' => ((Below.refl _ _).alloc (Nat.le_refl _) _).alloc (by simp) _
  have hmk0 := fun W => mk_bools (s.size + 1) (by omega) W
  have hmk := hmk0
  rw [show ((s.size + 1 : Nat) : Int) = (s.size : Int) + 1 by omega] at hmk
  have hrg := fun f (hf : f < s.size + 1) => repA_get (s.size + 1) (.bool false) f hf
  have HRG := Lib.hid hrg
  clear hg hok hrg
  · intro w g D hr hD
    obtain ⟨q0, q1, q2, q3, q4⟩ := HM.out w hr i _ hat.alt.1
    have hlt := hat.lt
    have hpos := flat_pos (.alt a c)
    have hi1 : (i : Int) < (l.length : Int) := by omega
    have hgl := hD.lt
    have hbl := HBL.out w hr (by omega)
    have HR := Lib.hid hr
    have HD := Lib.hid hD
    dsimp only [zc] at q0 q1 q2 q3 q4
    obtain ⟨_, hata, hatc⟩ := hat.alt
    have hRA := iha (i + 1) hata
    have hRC := ihc (i + 1 + (flat a).length) hatc
    unfold ReachAt at hRA hRC
    have hpa := flat_pos a
    have hla := hata.lt
    have HE := Lib.hid (fun W h => HEND.out (i + 1) (by omega) W h)
    rw [eo_at hata] at HE
    generalize i + 1 + (flat a).length = e2 at *
    have HRA := Lib.hid hRA
    have HRC := Lib.hid hRC
    clear hat hr hD iha ihc hRA hRC hata hatc
    go_enter Tryd.func57, Tryd.ntmps57
    go_wp2_with fail
    refine (HRA.out _ g D (HR.out.below (HBW.out w _ _)) (HD.out.below (HBW.out w _ _))).mono ?_
    rintro e w1 ⟨g1, D1, rfl, hg1, hto1, hb1⟩
    have HG1 := Lib.hid hg1
    have HTO1 := Lib.hid hto1
    have HB1 := Lib.hid (((HBW.out w _ _)).trans (hb1.mono ((HBW.out w _ _)).size))
    have HD1 := Lib.hid ((HD.out.below (HBW.out w _ _)).below hb1)
    clear hg1 hto1 hb1
    go_wp2_with fail
    refine (HE.out _ (HR.out.below HB1.out)).mono ?_
    rintro e w1' ⟨rfl, rfl⟩
    go_wp2_with fail
    refine (HRC.out _ g D (HR.out.below HB1.out) (HD1.out)).mono ?_
    rintro e w2 ⟨g2, D2, rfl, hg2, hto2, hb2⟩
    have HG2 := Lib.hid hg2
    have HTO2 := Lib.hid hto2
    have HB2 := Lib.hid ((HB1.out).trans (hb2.mono (HB1.out).size))
    have HG1b := Lib.hid (HG1.out.below hb2)
    clear hg2 hto2 hb2
    go_wp2_with fail
    refine (joined_any g1 g2 (s.size + 1) (by omega) D1 D2 _ (HG1b.out) (HG2.out)).mono ?_
    rintro e w3 ⟨g3, rfl, hg3, hb3⟩
    have HG3 := Lib.hid hg3
    have HB3 := Lib.hid ((HB2.out).trans (hb3.mono (HB2.out).size))
    clear hg3 hb3
    go_wp2_with fail
    go_ret
    exact ⟨g3, _, rfl, HG3.out, to_alt HTO1.out HTO2.out, HB3.out⟩
end Go.Proofs.YthcahjnniendnabDoor
