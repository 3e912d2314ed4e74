/-
  The walk of the closure in Spread.
-/
import Derived.Test.YthcahjnniendnaaDoorSimA
namespace Go.Proofs.YthcahjnniendnaaDoor
open Go.RowKit Wf

theorem own_succ {w : World} {base size n : Nat} {e : TypeId} {v : Value} {xs : List Value} (h : w.ownsRow base e size v (n + 1) xs) : ∃ g cap, v = .slice (some ⟨g, 0, none⟩) (n + 1) cap := by
  rcases h.2 with ⟨_, h0⟩ | ⟨g, cap, cur, hv, _⟩
  · omega
  · exact ⟨g, cap, hv⟩

theorem mark_is (S : Nat → Bool) (i : Nat) : (fun j => S j = true ∨ j = i) = (fun j => Wf.mark S i j = true) := by
  funext j
  simp [Wf.mark]
  constructor
  · rintro (h | h)
    · exact .inr h
    · exact .inl h
  · rintro (h | h)
    · exact .inr h
    · exact .inl h

theorem new_one (W : World) (t : TypeId) (x : Value) (g : Nat) (hg : g = W.heap.size) : ∀ (j : Nat) (u : Value), [x][j]? = some u → (W.alloc (.cells #[x] t)).cell? ((⟨g, 0, none⟩ : Addr).add j) = some u := by
  intro j u hu
  subst hg
  rw [add_mk, Nat.zero_add, (Blk.new W t #[x]).cell]
  simpa using hu

def WalkIs (w0 : World) (p : List St) (pv : Value) (f l : Bool) (S : Nat → Bool) (L : List Nat) (d : Bool) (i : Nat) (w : World) (e : Ending) (w' : World) : Prop :=
  e = .returned (.tuple #[]) ∧ ∃ (S' : Nat → Bool) (L' : List Nat) (d' : Bool) (D : Prop) (v' : Value), Walked p f l (fun j => S j = true) (fun j => S' j = true) i L' D ∧ (d' = true ↔ d = true ∨ D) ∧
    SEnv w0 p.length pv f l S' (L ++ L') d' v' w' ∧ Fk w0.heap.size w w' ∧ (L ++ L').length + cnt S' p.length ≤ 1000

set_option maxRecDepth 100000 in
set_option maxHeartbeats 8000000 in
theorem walk_all (w0 : World) (p : List St) (hp : okP p) (b off cap : Nat) (hcap : p.length ≤ cap) (hcap2 : cap ≤ 9223372036854775807) (f l : Bool)
    (hcell : ∀ (w' : World), Below w0.heap.size w0 w' → ∀ k n, p[k]? = some n →
      w'.cell? ⟨b, off + k * 7, none⟩ = some (.int .i64 n.op) ∧ w'.cell? ⟨b, off + k * 7 + 1, none⟩ = some (.int .u64 (n.cls.1 : Int)) ∧ w'.cell? ⟨b, off + k * 7 + 2, none⟩ = some (.int .u64 (n.cls.2.1 : Int)) ∧
      w'.cell? ⟨b, off + k * 7 + 3, none⟩ = some (.int .u64 (n.cls.2.2.1 : Int)) ∧ w'.cell? ⟨b, off + k * 7 + 4, none⟩ = some (.int .u64 (n.cls.2.2.2 : Int)) ∧
      w'.cell? ⟨b, off + k * 7 + 5, none⟩ = some (.int .i64 n.x) ∧ w'.cell? ⟨b, off + k * 7 + 6, none⟩ = some (.int .i64 n.y)) :
    ∀ (m : Nat) (S : Nat → Bool) (L : List Nat) (d : Bool) (v : Value) (w : World) (i : Nat), cnt S p.length ≤ m → i < p.length → L.length + cnt S p.length ≤ 1000 →
      SEnv w0 p.length (.slice (some ⟨b, off, none⟩) p.length cap) f l S L d v w →
      Calls Tryd.prog 36 #[.int .i64 (i : Int), .pointer (some ⟨w0.heap.size + 6, 0, none⟩), .pointer (some ⟨w0.heap.size, 0, none⟩), .pointer (some ⟨w0.heap.size + 4, 0, none⟩), .pointer (some ⟨w0.heap.size + 7, 0, none⟩), .pointer (some ⟨w0.heap.size + 1, 0, none⟩), .pointer (some ⟨w0.heap.size + 2, 0, none⟩)] w (WalkIs w0 p (.slice (some ⟨b, off, none⟩) p.length cap) f l S L d i w) := by
  obtain ⟨i0, hi0, hz0, hz1, hz2⟩ := info_parts info_int
  have HP := Lib.hid hp
  have HCELL := Lib.hid hcell
  clear hp hcell
  have hn200 : p.length ≤ 200 := HP.out.2.1
  intro m
  induction m with
  | zero =>
    intro S L d v w i hm hi hL h
    have c0 := h.sb.cell 0
    have hs : S i = true := by
      cases hS : S i with
      | true => rfl
      | false => have := cnt_mark S i hS p.length (by omega); omega
    have c1 : w.cell? ⟨w0.heap.size + 5, i, none⟩ = some (.bool true) := by rw [h.seen.cell, seenA_get _ _ _ hi, hs]
    have hi1 : (i : Int) < (p.length : Int) := by omega
    have H := Lib.hid h
    have HSI := Lib.hid hs
    clear h hm hs
    go_enter Tryd.func36, Tryd.ntmps36
    go_wp2
    refine bodyPost_ret (results_none rfl _ _ _) rfl ⟨rfl, S, [], d, False, v, Walked.seen HSI.out, by simp, by rw [List.append_nil]; exact H.out, Fk.refl _ _, by rw [List.append_nil]; exact hL⟩
  | succ m ih =>
    intro S L d v w i hm hi hL h
    have c0 := h.sb.cell 0
    have hi1 : (i : Int) < (p.length : Int) := by omega
    by_cases hs : S i = true
    · have c1 : w.cell? ⟨w0.heap.size + 5, i, none⟩ = some (.bool true) := by rw [h.seen.cell, seenA_get _ _ _ hi, hs]
      have H := Lib.hid h
      have HSI := Lib.hid hs
      clear h hm hs ih
      go_enter Tryd.func36, Tryd.ntmps36
      go_wp2
      refine bodyPost_ret (results_none rfl _ _ _) rfl ⟨rfl, S, [], d, False, v, Walked.seen HSI.out, by simp, by rw [List.append_nil]; exact H.out, Fk.refl _ _, by rw [List.append_nil]; exact hL⟩
    · have hs0 : S i = false := by simpa using hs
      have c1 : w.cell? ⟨w0.heap.size + 5, i, none⟩ = some (.bool false) := by rw [h.seen.cell, seenA_get _ _ _ hi, hs0]
      have z1 := h.seen.frozen i
      have hcm := cnt_mark S i hs0 p.length (by omega)
      have HM := Lib.hid (h.mark i hi)
      have HM2 : Hid (∀ o, SEnv w0 p.length (.slice (some ⟨b, off, none⟩) p.length cap) f l (Wf.mark S i) L d v ((w.setCell ⟨w0.heap.size + 5, i, none⟩ (.bool true)).alloc o)) := Lib.hid fun o => HM.out.alloc o
      have hsp : p[i]? = some (p[i]'hi) := List.getElem?_eq_getElem hi
      generalize p[i]'hi = s at hsp
      have m0 := HM.out.bp.cell 0
      have m4 := fun o => (HM2.out o).fr.cell 0
      obtain ⟨q0, q1, q2, q3, q4, q5, q6⟩ := HCELL.out _ HM.out.bel i s hsp
      have hone := oneP_zero (HP.out.2.2 s (List.mem_of_getElem? hsp))
      obtain ⟨op, ⟨k0, k1, k2, k3⟩, x, y⟩ := s
      dsimp only at q0 q1 q2 q3 q4 q5 q6 hone
      have HSP := Lib.hid hsp
      have HS0 := Lib.hid hs
      have HSF := Lib.hid hs0
      have HIH := Lib.hid ih
      obtain ⟨⟨o1, o5⟩, ox, oy, _, _, _⟩ := hone
      clear h ih hsp hs hs0
      have hop : op = 1 ∨ op = 2 ∨ op = 3 ∨ op = 4 ∨ op = 5 := by omega
      rcases hop with rfl | rfl | rfl | rfl | rfl
      · have hw := Walked.leaf (p := p) (f := f) (l := l) (S := fun j => S j = true) HSP.out HS0.out (by
          rintro k ⟨s, hs, hh⟩
          rw [HSP.out] at hs
          cases hs
          simp at hh)
        rw [mark_is] at hw
        have HW : Hid (Walked p f l (fun j => S j = true) (fun j => Wf.mark S i j = true) i [i] False) := Lib.hid (by simpa using hw)
        have hLm : L.length ≤ 1000 := by omega
        clear hw ox oy o1 o5
        go_enter Tryd.func36, Tryd.ntmps36
        go_wp2_with (at_builtin; refine wpList_append_own _ rfl (.tmp 25) (.tmp 27) _ rfl (w0.heap.size + 8) 3 i0 _ 1 8 Tryd.underlying25 hi0 hz0 hz1 hz2 rfl (by omega) _ L.length (natVals L) rfl ((HM2.out _).own.alloc _) ⟨w.heap.size + 1, 0, none⟩ 1 1 [.int .i64 (i : Int)] rfl rfl (new_one _ _ _ _ (by simp)) (by intro u hu; simp at hu; subst hu; rfl) (by unfold maxLen; omega) (by omega) (by have := HM.out.wb.lt; simp at this ⊢; omega) ?_)
        intro v' w' hown' hg' _
        obtain ⟨g', cap', rfl⟩ := own_succ hown'
        obtain ⟨hf4, henv⟩ := ((HM2.out _).alloc _).take hown' hg'
        have g4 := hf4.cell 0
        have z4 := hf4.frozen 0
        have HENV := Lib.hid henv
        have HFK := Lib.hid (((((Fk.refl w0.heap.size w).set5 i (.bool true)).alloc _).alloc _).grown ((HM2.out _).own.alloc _) hg')
        clear henv hown' hg' hf4 m4 m0 q0 q1 q2 q3 q4 q5 q6 c0 c1 z1
        go_wp2
        go_end0
        refine ⟨rfl, Wf.mark S i, [i], d, False, _, HW.out, by simp, HENV.out, HFK.out.set4 _ _, ?_⟩
        simp; omega
      · have ⟨hx0, hx1⟩ := ox (by omega)
        have ⟨hy0, hy1⟩ := oy rfl
        obtain ⟨xn, rfl⟩ : ∃ n : Nat, x = (n : Int) := ⟨x.toNat, by omega⟩
        obtain ⟨yn, rfl⟩ : ∃ n : Nat, y = (n : Int) := ⟨y.toNat, by omega⟩
        have hxn : xn < p.length := by omega
        have hyn : yn < p.length := by omega
        have hC1 : cnt (Wf.mark S i) p.length ≤ m := by omega
        have hC2 : L.length + cnt (Wf.mark S i) p.length ≤ 1000 := by omega
        have HEPS : Hid (∀ k, Eps p f l i k ↔ k = xn ∨ k = yn) := Lib.hid (by
          intro k
          constructor
          · rintro ⟨s, hs, hh⟩
            rw [HSP.out] at hs
            cases hs
            simp at hh
            omega
          · intro h
            exact ⟨_, HSP.out, .inl ⟨rfl, by simp; omega⟩⟩)
        have mw := fun o => (HM2.out o).wb.cell 0
        unfold walkV at mw
        simp only [List.getElem?_toArray, List.getElem?_cons_zero] at mw
        clear ox oy o1 o5 hx0 hx1 hy0 hy1
        go_enter Tryd.func36, Tryd.ntmps36
        have hszw : w0.heap.size + 7 < w.heap.size := by have := HM.out.wb.lt; simpa using this
        go_wp2_with fail
        refine (HIH.out _ _ _ _ _ xn hC1 hxn hC2 (HM2.out _)).mono ?_
        rintro e w1 ⟨rfl, S1, L1, d1, D1, v1, hw1, hd1, henv1, hfk1, hb1⟩
        have hsb := Blk.new (w.setCell ⟨w0.heap.size + 5, i, none⟩ (.bool true)) 52 #[.int .i64 2, .int .u64 (k0 : Int), .int .u64 (k1 : Int), .int .u64 (k2 : Int), .int .u64 (k3 : Int), .int .i64 (xn : Int), .int .i64 (yn : Int)]
        have hsz : (w.setCell ⟨w0.heap.size + 5, i, none⟩ (.bool true)).heap.size = w.heap.size := by simp
        rw [hsz] at hsb
        have hsb1 := (Blk.fk (B := w0.heap.size) (show Blk _ _ _ _ from hsb) hfk1 (by decide) (by omega) (by omega)).cell 6
        simp only [List.getElem?_toArray, List.getElem?_cons_succ, List.getElem?_cons_zero] at hsb1
        have mw1 := henv1.wb.cell 0
        unfold walkV at mw1
        simp only [List.getElem?_toArray, List.getElem?_cons_zero] at mw1
        have hC3 : cnt S1 p.length ≤ m := Nat.le_trans (cnt_mono (fun j hj => hw1.mono j hj) _) hC1
        rw [← mark_is] at hw1
        have HW1 := Lib.hid hw1
        have HD1 := Lib.hid hd1
        have HENV1 := Lib.hid henv1
        have HFK1 := Lib.hid ((((Fk.refl w0.heap.size w).set5 i (.bool true)).alloc _).trans hfk1)
        clear hw1 hd1 henv1 hfk1 hsb m4 m0 q0 q1 q2 q3 q4 q5 q6 c0 c1 z1 mw
        go_wp2_with fail
        refine (HIH.out _ _ _ _ _ yn hC3 hyn hb1 HENV1.out).mono ?_
        rintro e w2 ⟨rfl, S2, L2, d2, D2, v2, hw2, hd2, henv2, hfk2, hb2⟩
        have HW := Lib.hid (Walked.two HSP.out HS0.out (by simp) (by simp) HEPS.out HW1.out hw2)
        have HD : Hid (d2 = true ↔ d = true ∨ (D1 ∨ D2)) := Lib.hid (by rw [hd2, HD1.out, or_assoc])
        rw [List.append_assoc] at henv2 hb2
        have HENV := Lib.hid henv2
        have HFK := Lib.hid (HFK1.out.trans hfk2)
        have HB := Lib.hid hb2
        clear hw2 hd2 henv2 hfk2 hb2 mw1 hsb1
        go_wp2
        go_end0
        exact ⟨rfl, S2, L1 ++ L2, d2, D1 ∨ D2, v2, HW.out, HD.out, HENV.out, HFK.out, HB.out⟩
      · have ⟨hx0, hx1⟩ := ox (by omega)
        obtain ⟨xn, rfl⟩ : ∃ n : Nat, x = (n : Int) := ⟨x.toNat, by omega⟩
        have hxn : xn < p.length := by omega
        have hC1 : cnt (Wf.mark S i) p.length ≤ m := by omega
        have hC2 : L.length + cnt (Wf.mark S i) p.length ≤ 1000 := by omega
        have mw := fun o => (HM2.out o).wb.cell 0
        unfold walkV at mw
        simp only [List.getElem?_toArray, List.getElem?_cons_zero] at mw
        have mf := fun o => (HM2.out o).bf.cell 0
        clear ox oy o1 o5 hx0 hx1
        cases f with
        | true =>
          have HEPS : Hid (∀ k, Eps p true l i k ↔ k = xn) := Lib.hid (by
            intro k
            constructor
            · rintro ⟨s, hs, hh⟩
              rw [HSP.out] at hs
              cases hs
              simp at hh
              omega
            · intro h
              exact ⟨_, HSP.out, .inr (.inl ⟨rfl, rfl, by simp; omega⟩)⟩)
          go_enter Tryd.func36, Tryd.ntmps36
          go_wp2_with fail
          refine (HIH.out _ _ _ _ _ xn hC1 hxn hC2 (HM2.out _)).mono ?_
          rintro e w1 ⟨rfl, S1, L1, d1, D1, v1, hw1, hd1, henv1, hfk1, hb1⟩
          rw [← mark_is] at hw1
          have HW := Lib.hid (Walked.one HSP.out HS0.out (by simp) (by simp) HEPS.out hw1)
          have HD := Lib.hid hd1
          have HENV := Lib.hid henv1
          have HFK := Lib.hid (((Fk.refl w0.heap.size w).set5 i (.bool true)).alloc _ |>.trans hfk1)
          have HB := Lib.hid hb1
          clear hw1 hd1 henv1 hfk1 hb1 m4 m0 q0 q1 q2 q3 q4 q5 q6 c0 c1 z1 mw mf
          go_wp2
          go_end0
          exact ⟨rfl, S1, L1, d1, D1, v1, HW.out, HD.out, HENV.out, HFK.out, HB.out⟩
        | false =>
          have hw := Walked.leaf (p := p) (f := false) (l := l) (S := fun j => S j = true) HSP.out HS0.out (by
            rintro k ⟨s, hs, hh⟩
            rw [HSP.out] at hs
            cases hs
            simp at hh)
          rw [mark_is] at hw
          have HW := Lib.hid hw
          clear hw
          go_enter Tryd.func36, Tryd.ntmps36
          go_wp2
          go_end0
          refine ⟨rfl, Wf.mark S i, [], d, False, v, by simpa using HW.out, by simp, by rw [List.append_nil]; exact HM2.out _, ((Fk.refl w0.heap.size w).set5 i (.bool true)).alloc _, ?_⟩
          simp; omega
      · have ⟨hx0, hx1⟩ := ox (by omega)
        obtain ⟨xn, rfl⟩ : ∃ n : Nat, x = (n : Int) := ⟨x.toNat, by omega⟩
        have hxn : xn < p.length := by omega
        have hC1 : cnt (Wf.mark S i) p.length ≤ m := by omega
        have hC2 : L.length + cnt (Wf.mark S i) p.length ≤ 1000 := by omega
        have mw := fun o => (HM2.out o).wb.cell 0
        unfold walkV at mw
        simp only [List.getElem?_toArray, List.getElem?_cons_zero] at mw
        have mf := fun o => (HM2.out o).bl.cell 0
        clear ox oy o1 o5 hx0 hx1
        cases l with
        | true =>
          have HEPS : Hid (∀ k, Eps p f true i k ↔ k = xn) := Lib.hid (by
            intro k
            constructor
            · rintro ⟨s, hs, hh⟩
              rw [HSP.out] at hs
              cases hs
              simp at hh
              omega
            · intro h
              exact ⟨_, HSP.out, .inr (.inr ⟨rfl, rfl, by simp; omega⟩)⟩)
          go_enter Tryd.func36, Tryd.ntmps36
          go_wp2_with fail
          refine (HIH.out _ _ _ _ _ xn hC1 hxn hC2 (HM2.out _)).mono ?_
          rintro e w1 ⟨rfl, S1, L1, d1, D1, v1, hw1, hd1, henv1, hfk1, hb1⟩
          rw [← mark_is] at hw1
          have HW := Lib.hid (Walked.one HSP.out HS0.out (by simp) (by simp) HEPS.out hw1)
          have HD := Lib.hid hd1
          have HENV := Lib.hid henv1
          have HFK := Lib.hid (((Fk.refl w0.heap.size w).set5 i (.bool true)).alloc _ |>.trans hfk1)
          have HB := Lib.hid hb1
          clear hw1 hd1 henv1 hfk1 hb1 m4 m0 q0 q1 q2 q3 q4 q5 q6 c0 c1 z1 mw mf
          go_wp2
          go_end0
          exact ⟨rfl, S1, L1, d1, D1, v1, HW.out, HD.out, HENV.out, HFK.out, HB.out⟩
        | false =>
          have hw := Walked.leaf (p := p) (f := f) (l := false) (S := fun j => S j = true) HSP.out HS0.out (by
            rintro k ⟨s, hs, hh⟩
            rw [HSP.out] at hs
            cases hs
            simp at hh)
          rw [mark_is] at hw
          have HW := Lib.hid hw
          clear hw
          go_enter Tryd.func36, Tryd.ntmps36
          go_wp2
          go_end0
          refine ⟨rfl, Wf.mark S i, [], d, False, v, by simpa using HW.out, by simp, by rw [List.append_nil]; exact HM2.out _, ((Fk.refl w0.heap.size w).set5 i (.bool true)).alloc _, ?_⟩
          simp; omega
      · have hw := Walked.leaf (p := p) (f := f) (l := l) (S := fun j => S j = true) HSP.out HS0.out (by
          rintro k ⟨s, hs, hh⟩
          rw [HSP.out] at hs
          cases hs
          simp at hh)
        rw [mark_is] at hw
        have HW := Lib.hid hw
        have m41 := fun o => (HM2.out o).fr.cell 1
        have z41 := fun o => (HM2.out o).fr.frozen 1
        clear ox oy o1 o5 hw
        go_enter Tryd.func36, Tryd.ntmps36
        go_wp2
        go_end0
        refine ⟨rfl, Wf.mark S i, [], true, True, v, by simpa using HW.out, by simp, by rw [List.append_nil]; exact (HM2.out _).end_, (((Fk.refl w0.heap.size w).set5 i (.bool true)).alloc _).set4 _ _, ?_⟩
        simp; omega

end Go.Proofs.YthcahjnniendnaaDoor
