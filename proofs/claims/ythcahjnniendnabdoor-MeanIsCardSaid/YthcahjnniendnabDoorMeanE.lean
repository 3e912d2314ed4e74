/-
  Walks of the fitter's from; by joint induction, from at every part.
-/
import Derived.Test.YthcahjnniendnabDoorMeanD
import Derived.Deep.RegionHeld3
namespace Go.Proofs.YthcahjnniendnabDoor
open Go.RowKit Wf

theorem grown_setMap (w : World) (M : Nat) (es : Array MapEntry) (c : Nat) : w.grownBy (setMap w M es c) (some M) :=
  ⟨rfl, rfl, rfl, by simp [setMap], fun i _ hi => by
    simp only [setMap]
    rw [Array.getElem?_setIfInBounds, if_neg (fun e => hi (by rw [e]))]⟩

theorem cell_map {w : World} {M : Nat} {es : Array MapEntry} {c : Nat} (h : w.heap[M]? = some (.map es c)) (j : Nat) : w.cell? ⟨M, j, none⟩ = none := by
  simp [World.cell?, h]

section
variable {l : List Nd} {s : ByteArray} {b off cap ge F M : Nat} {O : Nat → Prop} {w w' : World}

theorem FEnv.mapped (h : FEnv l s b off cap ge F M O w) {i k g : Nat} {u : Rx} (hu : At l i u) (hk : k ≤ s.size) (hO : ¬ O g) (hp : Pl w g s.size (Fits s.data.toList u k))
    {es es' : Array MapEntry} {c c' : Nat} (hm : w.heap[M]? = some (.map es c)) (hes : ∀ e ∈ es'.toList, e ∈ es.toList ∨ (e.key = spotV i k ∧ e.val = .slice (some ⟨g, 0, none⟩) (s.size + 1) (s.size + 1))) :
    FEnv l s b off cap ge F M O (setMap w M es' c') := by
  have hlt := h.ltM
  have hFM := h.neFM
  have hgr := grown_setMap w M es' c'
  have hbM : M ≠ b := by
    rintro rfl
    obtain ⟨n, h1, _⟩ := hu.node
    have h2 := (h.tenv.node h1).1
    rw [cell_map hm] at h2
    cases h2
  have hgM : M ≠ ge := by
    rintro rfl
    have h2 := h.tenv.hx i u hu
    rw [cell_map hm] at h2
    cases h2
  have hneg := h.neM hp
  obtain ⟨h1, h2, ⟨es0, c0, h3, h4⟩, h5⟩ := h
  rw [hm] at h3
  cases h3
  refine ⟨h1.grown hgr hbM hgM, (hgr.block F h2.lt (fun e => hFM (Option.some.inj e))).trans h2, ⟨es', c', by simp [setMap, Array.getElem?_setIfInBounds, hlt], fun e he => ?_⟩, fun x hx => ?_⟩
  · rcases hes e he with he | ⟨e1, e2⟩
    · obtain ⟨i, k, u, g, q1, q2, q3, q4, q5, q6⟩ := h4 e he
      refine ⟨i, k, u, g, q1, q2, q3, q4, q5, q6.kept hgr (fun e => ?_)⟩
      have e := Option.some.inj e
      subst e
      obtain ⟨cs, hb, _⟩ := q6
      unfold Blk at hb
      rw [hm] at hb
      cases hb
    · exact ⟨i, k, u, g, e1, hk, hu, e2, hO, hp.kept hgr (fun e => hneg (Option.some.inj e))⟩
  · obtain ⟨a1, a2, a3, a4, a5⟩ := h5 x hx
    exact ⟨a1, a2, a3, a4, Nat.lt_of_lt_of_le a5 hgr.size⟩

theorem spotV_inj {a b c d : Nat} (h : spotV (a : Int) (b : Int) = spotV (c : Int) (d : Int)) : a = c ∧ b = d := by
  unfold spotV at h
  simp at h
  omega

theorem FEnv.spots (h : FEnv l s b off cap ge F M O w) {es : Array MapEntry} {c : Nat} (hm : w.heap[M]? = some (.map es c)) : Spots es.toList := by
  obtain ⟨_, _, ⟨es0, c0, h3, h4⟩, _⟩ := h
  rw [hm] at h3
  cases h3
  intro e he
  obtain ⟨i, k, u, g, q1, _⟩ := h4 e he
  exact ⟨i, k, q1⟩

theorem FEnv.known (h : FEnv l s b off cap ge F M O w) {es : Array MapEntry} {c : Nat} (hm : w.heap[M]? = some (.map es c)) {i k : Nat} {u : Rx} (hu : At l i u) {e : MapEntry} (he : e ∈ es.toList) (hk : e.key = spotV i k) :
    ∃ g, e.val = .slice (some ⟨g, 0, none⟩) (s.size + 1) (s.size + 1) ∧ ¬ O g ∧ Pl w g s.size (Fits s.data.toList u k) := by
  obtain ⟨_, _, ⟨es0, c0, h3, h4⟩, _⟩ := h
  rw [hm] at h3
  cases h3
  obtain ⟨i', k', u', g, q1, q2, q3, q4, q5, q6⟩ := h4 e he
  rw [hk] at q1
  obtain ⟨rfl, rfl⟩ := spotV_inj q1
  obtain rfl := q3.inj hu
  exact ⟨g, q4, q5, q6⟩

set_option maxRecDepth 100000 in
set_option maxHeartbeats 8000000 in
theorem from_of_fit (u : Rx) (hfit : FitC l s b off cap ge F M u) : FromC l s b off cap ge F M u := by
  intro O i k w hu hk henv
  have hB : ∀ o : Obj, Below w.heap.size w (w.alloc o) := fun o => (Below.refl _ _).alloc (Nat.le_refl _) _
  have HB := Lib.hid (hB (.cells #[.int .i64 (i : Int), .int .i64 (k : Int)] 154))
  have HE := Lib.hid (henv.grow HB.out)
  have HK := Lib.hid (Blk.new w 154 #[.int .i64 (i : Int), .int .i64 (k : Int)])
  have f3 := henv.cellm
  have hFlt := henv.ltF
  have hMlt := henv.ltM
  obtain ⟨W, hW⟩ : ∃ W, W = w.alloc (.cells #[.int .i64 (i : Int), .int .i64 (k : Int)] 154) := ⟨_, rfl⟩
  rw [← hW] at HB HE HK
  have HFIT := Lib.hid hfit
  have HU := Lib.hid hu
  have HW := Lib.hid hW
  clear hfit hu henv hB
  obtain ⟨es, c, hm, _⟩ := HE.out.hm
  have hlook := lookup_spot i k M es c W.drew hm (HE.out.spots hm)
  have f3' := HE.out.cellm
  have k0 := HK.out.cell 0
  have k1 := HK.out.cell 1
  go_enter Tryd.func59, Tryd.ntmps59
  go_wp2_with fail
  rw [← hW]
  clear hW
  rcases hlook with ⟨e, he, hke, hrun⟩ | ⟨hne, hrun⟩
  · obtain ⟨g, hg1, hg2, hg3⟩ := HE.out.known hm HU.out he hke
    rw [hg1] at hrun
    unfold spotV at hrun
    have HG2 := Lib.hid hg2
    have HG3 := Lib.hid hg3
    clear he hke hg1 hg2 hg3
    have hS : ∀ w', Hid (w' = W.drew) → (w'.cell? ⟨F, 3, none⟩ = some (.map (some M)) ∧ w'.cell? ⟨w.heap.size, 0, none⟩ = some (.int .i64 (i : Int)) ∧ w'.cell? ⟨w.heap.size, 1, none⟩ = some (.int .i64 (k : Int)) ∧ (Instr.lookup 107 (.map (some M)) (.agg #[.int .i64 (i : Int), .int .i64 (k : Int)]) true).run Tryd.prog w' = .ok (.tuple #[.slice (some ⟨g, 0, none⟩) (s.size + 1) (s.size + 1), .bool true]) w' ∧ Hid (w' = W.drew)) := fun w' h => by
      have e := h.out
      subst e
      exact ⟨f3', k0, k1, hrun, h⟩
    have HS := Lib.hid hS
    have HQ : Hid (W.drew = W.drew) := Lib.hid rfl
    clear hS hrun
    go_region_held3 (fun w' => w'.cell? ⟨F, 3, none⟩ = some (.map (some M)) ∧ w'.cell? ⟨w.heap.size, 0, none⟩ = some (.int .i64 (i : Int)) ∧ w'.cell? ⟨w.heap.size, 1, none⟩ = some (.int .i64 (k : Int)) ∧ (Instr.lookup 107 (.map (some M)) (.agg #[.int .i64 (i : Int), .int .i64 (k : Int)]) true).run Tryd.prog w' = .ok (.tuple #[.slice (some ⟨g, 0, none⟩) (s.size + 1) (s.size + 1), .bool true]) w' ∧ Hid (w' = W.drew))
      (exact HS.out _ (by assumption))
      (fail)
    go_wp2_with fail
    go_ret
    have hbl := HB.out.drew
    exact ⟨g, rfl, HG2.out, HG3.out.below (Below.refl _ _).drew, HE.out.grow (Below.refl _ _).drew, grown_of_below hbl _⟩
  · unfold spotV at hrun
    have hS : ∀ w', Hid (w' = W.drew) → (w'.cell? ⟨F, 3, none⟩ = some (.map (some M)) ∧ w'.cell? ⟨w.heap.size, 0, none⟩ = some (.int .i64 (i : Int)) ∧ w'.cell? ⟨w.heap.size, 1, none⟩ = some (.int .i64 (k : Int)) ∧ (Instr.lookup 107 (.map (some M)) (.agg #[.int .i64 (i : Int), .int .i64 (k : Int)]) true).run Tryd.prog w' = .ok (.tuple #[.slice none 0 0, .bool false]) w' ∧ Hid (w' = W.drew)) := fun w' h => by
      have e := h.out
      subst e
      exact ⟨f3', k0, k1, hrun, h⟩
    have HS := Lib.hid hS
    have HQ : Hid (W.drew = W.drew) := Lib.hid rfl
    clear hS hrun
    go_region_held3 (fun w' => w'.cell? ⟨F, 3, none⟩ = some (.map (some M)) ∧ w'.cell? ⟨w.heap.size, 0, none⟩ = some (.int .i64 (i : Int)) ∧ w'.cell? ⟨w.heap.size, 1, none⟩ = some (.int .i64 (k : Int)) ∧ (Instr.lookup 107 (.map (some M)) (.agg #[.int .i64 (i : Int), .int .i64 (k : Int)]) true).run Tryd.prog w' = .ok (.tuple #[.slice none 0 0, .bool false]) w' ∧ Hid (w' = W.drew))
      (exact HS.out _ (by assumption))
      (fail)
    go_wp2_with fail
    refine (HFIT.out O i k _ HU.out hk (HE.out.grow (Below.refl _ _).drew)).mono ?_
    rintro e w2 ⟨g2, rfl, hge2, hp2, he2, hg2⟩
    have hne : w.heap.size ≠ M := by omega
    have hblk := hg2.block w.heap.size (by have := HK.out.lt; exact this) (fun e => hne (Option.some.inj e))
    have hk2 : Blk w2 w.heap.size 154 #[.int .i64 (i : Int), .int .i64 (k : Int)] := hblk.trans HK.out
    have k0' := hk2.cell 0
    have k1' := hk2.cell 1
    have f3'' := he2.cellm
    have hO2 : ¬ O g2 := fun h => by
      have h1 := (HE.out.hO g2 h).2.2.2.2
      have h2 : W.heap.size ≤ g2 := hge2
      omega
    have he3 := he2.grow (Below.refl _ _).drew
    have hp3 := hp2.below (Below.refl _ _).drew
    obtain ⟨es2, c2, hm2, _⟩ := he3.hm
    obtain ⟨es3, c3, hrun3, hes3⟩ := update_spot i k (.slice (some ⟨g2, 0, none⟩) (s.size + 1) (s.size + 1)) M es2 c2 _ hm2 (he3.spots hm2)
    have hE4 := he3.mapped (c' := c3) HU.out hk hO2 hp3 hm2 hes3
    have hP4 := hp3.kept (grown_setMap w2.drew M es3 c3) (fun e => he3.neM hp3 (Option.some.inj e))
    have hG4 : w.grownBy (setMap w2.drew M es3 c3) (some M) := ((grown_of_below HB.out.drew _).trans (hg2.trans (grown_of_below (Below.refl _ _).drew _))).trans (grown_setMap _ _ _ _)
    have hk3 : Blk (setMap w2.drew M es3 c3) w.heap.size 154 #[.int .i64 (i : Int), .int .i64 (k : Int)] := ((grown_setMap w2.drew M es3 c3).block w.heap.size hk2.lt (fun e => hne (Option.some.inj e))).trans hk2
    have hS : ∀ w', (w' = w2.drew ∨ w' = setMap w2.drew M es3 c3) → (w'.cell? ⟨F, 3, none⟩ = some (.map (some M)) ∧ w'.cell? ⟨w.heap.size, 0, none⟩ = some (.int .i64 (i : Int)) ∧ w'.cell? ⟨w.heap.size, 1, none⟩ = some (.int .i64 (k : Int))) := fun w' h => by
      rcases h with rfl | rfl
      · exact ⟨f3'', k0', k1'⟩
      · exact ⟨hE4.cellm, hk3.cell 0, hk3.cell 1⟩
    have HS := Lib.hid hS
    have HE4 := Lib.hid hE4
    have HP4 := Lib.hid hP4
    have HG4 := Lib.hid hG4
    have HO2 := Lib.hid hO2
    unfold spotV at hrun3
    clear hS hE4 hP4 hG4 hk3 hes3 he3 hp3 hp2 he2 hg2 hO2 hm2 hk2 hblk
    go_wp2_with fail
    go_region_held3 (fun w' => w'.cell? ⟨F, 3, none⟩ = some (.map (some M)) ∧ w'.cell? ⟨w.heap.size, 0, none⟩ = some (.int .i64 (i : Int)) ∧ w'.cell? ⟨w.heap.size, 1, none⟩ = some (.int .i64 (k : Int)))
      (exact HS.out _ (by first | exact .inl rfl | exact .inr rfl))
      (fail)
    go_wp2_with fail
    go_ret
    exact ⟨g2, rfl, HO2.out, HP4.out, HE4.out, HG4.out⟩

theorem from_all (hs : s.size ≤ 400) (hl : l.length ≤ cap) (hcap : cap ≤ 9223372036854775807) (hok : ∀ n ∈ l, okC n.cls) :
    ∀ (u : Rx) (i : Nat), At l i u → FromC l s b off cap ge F M u := by
  intro u
  induction u with
  | byte c =>
    intro i hu
    have := hok ⟨1, c⟩ (List.mem_of_getElem? hu.byte)
    exact from_of_fit _ (fit_byte c this hs hl hcap)
  | empty => intro i hu; exact from_of_fit _ (fit_empty hs hl hcap)
  | bgn => intro i hu; exact from_of_fit _ (fit_bgn hs hl hcap)
  | fin => intro i hu; exact from_of_fit _ (fit_fin hs hl hcap)
  | cat a c iha ihc => intro i hu; exact from_of_fit _ (fit_cat a c (iha _ hu.cat.2.1) (ihc _ hu.cat.2.2) hs hl hcap)
  | alt a c iha ihc => intro i hu; exact from_of_fit _ (fit_alt a c (iha _ hu.alt.2.1) (ihc _ hu.alt.2.2) hs hl hcap)
  | star a ih => intro i hu; exact from_of_fit _ (fit_star a (ih _ hu.star.2) hs hl hcap)
  | plus a ih => intro i hu; exact from_of_fit _ (fit_plus a (ih _ hu.plus.2) hs hl hcap)
  | opt a ih => intro i hu; exact from_of_fit _ (fit_opt a (ih _ hu.opt.2) hs hl hcap)
end

end Go.Proofs.YthcahjnniendnabDoor
