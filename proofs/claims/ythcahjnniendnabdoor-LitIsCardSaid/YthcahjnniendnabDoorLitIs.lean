/-
  Proved: winnowfanlaw2.LitIs returns true for every pattern, and changes nothing that was there.
-/
import Derived.Test.YthcahjnniendnabDoorLaw
import Derived.Test.YthcahjnniendnabDoorAs
import Derived.Test.YthcahjnniendnabDoorEmptyNo
import Derived.Test.YthcahjnniendnabDoorLitNo
import Derived.Test.YthcahjnniendnabDoorRefL
import Derived.Test.YthcahjnniendnabDoorLaid
import Derived.Test.YthcahjnniendnabDoorTie
import Derived.Test.YthcahjnniendnabDoorCards
namespace Go.Proofs.YthcahjnniendnabDoor.litIs
open Go.ChangeShapes Go.WideShapes Go.ChangeAt Go.RowKit Wf
open Go.ChangeMaps (open_string shut_string)
open law (own laidOut LawIs laidL laidWorld laidWorld_met handle_of_laid)
set_option linter.unusedVariables false

theorem bytes_eq {a b : ByteArray} (h : a.data.toList = b.data.toList) : a = b := ByteArray.ext (Array.toList_inj.1 h)

set_option maxRecDepth 100000 in
set_option maxHeartbeats 8000000 in
theorem walk (l : List Nd) (v : Value) (w : World) (hr : RdN w v l) (hok : ∀ n ∈ l, okNd n) (hg : ErrT w) : Calls Tryd.prog 3 #[v] w (LawIs w) := by
  obtain ⟨A, cap, rfl, hcap, hcap2, hmem⟩ := hr.open_
  have HR := Lib.hid hr
  have HG := Lib.hid hg
  have hokc : ∀ n ∈ l, okC n.cls := fun n hn => (hok n hn).2.2
  have HF := Lib.hid (RFault_any l _ w hr hokc)
  by_cases hc : chk l = 0
  · obtain ⟨hlen, t, ht⟩ := chk_tree hc
    have hpos : 0 < l.length := by rw [ht]; exact flat_pos t
    have hgood : ∀ n ∈ l, good n := by rw [ht]; exact flat_good t
    have hwhole : At l 0 t := by rw [ht]; exact At.whole t
    obtain ⟨b, off, rfl, _⟩ := hmem hpos
    have HWL := Lib.hid (fun W h => RWhole_all l hgood hokc hlen b off cap t 0 W hwhole h)
    have HND := Lib.hid (fun W h => RNeed_all l hgood hokc hlen b off cap t 0 W hwhole h)
    have HW := Lib.hid (fun W h => Whole_ok l t ht hokc (.slice (some ⟨b, off, none⟩) l.length cap) W hlen h)
    have HN := Lib.hid (fun W h => Needed_ok l t ht hokc (.slice (some ⟨b, off, none⟩) l.length cap) W hlen h)
    have HS := Lib.hid (fun W h => SErr_any 0 0 W h)
    unfold RFaultIs at HF
    unfold RWholeIs at HWL
    unfold RNeedIs at HND
    unfold WholeIs at HW
    unfold NeededIs at HN
    rw [hc] at HF
    rw [errV_zero] at HS
    clear hr hg hok hokc hmem hc hgood hwhole ht
    generalize litL t = n at *
    obtain ⟨tx, x⟩ := n
    dsimp only at HWL HND HW HN
    cases x with
    | true =>
      go_enter Tryd.func3, Tryd.ntmps3
      go_wp2_with fail
      refine HF.out.mono ?_
      rintro e w1 ⟨rfl, hb1⟩
      have HB1 := Lib.hid hb1
      clear hb1
      go_wp2_with fail
      refine (HWL.out _ (HR.out.below HB1.out)).mono ?_
      rintro e w2 ⟨s1, rfl, hy1, hn1, hz1, hb2⟩
      have HB2 := Lib.hid (HB1.out.trans (hb2.mono HB1.out.size))
      clear hb2
      go_wp2_with fail
      refine (HND.out _ (HR.out.below HB2.out)).mono ?_
      rintro e w3 ⟨s2, rfl, hs2, hz2, hb3⟩
      have HB3 := Lib.hid (HB2.out.trans (hb3.mono HB2.out.size))
      clear hb3
      go_wp2_with fail
      refine (HW.out _ (HR.out.below HB3.out)).mono ?_
      rintro e w4 ⟨s3, x3, rfl, hx3, hy3, hn3, hb4⟩
      have HB4 := Lib.hid (HB3.out.trans (hb4.mono HB3.out.size))
      clear hb4
      obtain rfl : x3 = true := hx3
      obtain rfl : s3 = s1 := bytes_eq ((hy3 (by simp)).trans (hy1 (by simp)).symm)
      clear hy1 hn1 hy3 hn3
      go_wp2_with fail
      refine (HS.out _ (HG.out.below HB4.out)).mono ?_
      rintro e w5 ⟨r, rfl, hrr, hb5⟩
      obtain rfl : r = true := hrr.2 rfl
      have HB5 := Lib.hid (HB4.out.trans (hb5.mono HB4.out.size))
      clear hb5 hrr
      go_wp2_with fail
      refine (HN.out _ (HR.out.below HB5.out)).mono ?_
      rintro e w6 ⟨s4, rfl, hs4, hb6⟩
      have HB6 := Lib.hid (HB5.out.trans (hb6.mono HB5.out.size))
      clear hb6
      obtain rfl : s4 = s2 := bytes_eq (hs4.trans hs2.symm)
      clear hs4 hs2
      go_wp2_with fail
      refine (HS.out _ (HG.out.below HB6.out)).mono ?_
      rintro e w7 ⟨r, rfl, hrr, hb7⟩
      obtain rfl : r = true := hrr.2 rfl
      have HB7 := Lib.hid (HB6.out.trans (hb7.mono HB6.out.size))
      clear hb7 hrr
      go_wp2_with fail
      go_ret
      exact ⟨by simp, HB7.out⟩
    | false =>
      go_enter Tryd.func3, Tryd.ntmps3
      go_wp2_with fail
      refine HF.out.mono ?_
      rintro e w1 ⟨rfl, hb1⟩
      have HB1 := Lib.hid hb1
      clear hb1
      go_wp2_with fail
      refine (HWL.out _ (HR.out.below HB1.out)).mono ?_
      rintro e w2 ⟨s1, rfl, hy1, hn1, hz1, hb2⟩
      have HB2 := Lib.hid (HB1.out.trans (hb2.mono HB1.out.size))
      clear hb2
      obtain rfl : s1 = ⟨#[]⟩ := hn1 (by simp)
      clear hy1 hn1
      go_wp2_with fail
      refine (HND.out _ (HR.out.below HB2.out)).mono ?_
      rintro e w3 ⟨s2, rfl, hs2, hz2, hb3⟩
      have HB3 := Lib.hid (HB2.out.trans (hb3.mono HB2.out.size))
      clear hb3
      go_wp2_with fail
      refine (HW.out _ (HR.out.below HB3.out)).mono ?_
      rintro e w4 ⟨s3, x3, rfl, hx3, hy3, hn3, hb4⟩
      have HB4 := Lib.hid (HB3.out.trans (hb4.mono HB3.out.size))
      clear hb4
      obtain rfl : x3 = false := hx3
      obtain rfl : s3 = ⟨#[]⟩ := hn3 (by simp)
      clear hy3 hn3
      go_wp2_with fail
      refine (HS.out _ (HG.out.below HB4.out)).mono ?_
      rintro e w5 ⟨r, rfl, hrr, hb5⟩
      obtain rfl : r = true := hrr.2 rfl
      have HB5 := Lib.hid (HB4.out.trans (hb5.mono HB4.out.size))
      clear hb5 hrr
      go_wp2_with fail
      refine (HN.out _ (HR.out.below HB5.out)).mono ?_
      rintro e w6 ⟨s4, rfl, hs4, hb6⟩
      have HB6 := Lib.hid (HB5.out.trans (hb6.mono HB5.out.size))
      clear hb6
      obtain rfl : s4 = s2 := bytes_eq (hs4.trans hs2.symm)
      clear hs4 hs2
      go_wp2_with fail
      refine (HS.out _ (HG.out.below HB6.out)).mono ?_
      rintro e w7 ⟨r, rfl, hrr, hb7⟩
      obtain rfl : r = true := hrr.2 rfl
      have HB7 := Lib.hid (HB6.out.trans (hb7.mono HB6.out.size))
      clear hb7 hrr
      go_wp2_with fail
      go_ret
      exact ⟨by simp, HB7.out⟩
  · have HE := Lib.hid (errV_ne hc)
    have hc0 : (chk l == 0) = false := by simpa using hc
    have HW := Lib.hid (fun W h => Whole_not l (.slice A l.length cap) W h hc)
    have HN := Lib.hid (fun W h => Needed_not l (.slice A l.length cap) W h hc)
    have HS := Lib.hid (fun W h => SErr_any (chk l) (chk l) W h)
    unfold RFaultIs at HF
    unfold WholeNot at HW
    unfold NeededNot at HN
    clear hr hg hok hokc hmem hc
    generalize chk l = n at *
    go_enter Tryd.func3, Tryd.ntmps3
    go_wp2_with fail
    refine HF.out.mono ?_
    rintro e w1 ⟨rfl, hb1⟩
    have HB1 := Lib.hid hb1
    clear hb1
    go_wp2_with fail
    refine (HW.out _ (HR.out.below HB1.out)).mono ?_
    rintro e w2 ⟨rfl, hb2⟩
    have HB2 := Lib.hid (HB1.out.trans (hb2.mono HB1.out.size))
    clear hb2
    go_wp2_with fail
    refine (HS.out _ (HG.out.below HB2.out)).mono ?_
    rintro e w3 ⟨r, rfl, hrr, hb3⟩
    obtain rfl : r = true := hrr.2 rfl
    have HB3 := Lib.hid (HB2.out.trans (hb3.mono HB2.out.size))
    clear hb3 hrr
    go_wp2_with fail
    refine (HN.out _ (HR.out.below HB3.out)).mono ?_
    rintro e w4 ⟨rfl, hb4⟩
    have HB4 := Lib.hid (HB3.out.trans (hb4.mono HB3.out.size))
    clear hb4
    go_wp2_with fail
    refine (HS.out _ (HG.out.below HB4.out)).mono ?_
    rintro e w5 ⟨r, rfl, hrr, hb5⟩
    obtain rfl : r = true := hrr.2 rfl
    have HB5 := Lib.hid (HB4.out.trans (hb5.mono HB4.out.size))
    clear hb5 hrr
    go_wp2_with fail
    go_ret
    exact ⟨rfl, HB5.out⟩

/-! ### THE ROW's STEP -/
set_option maxRecDepth 100000 in
theorem lifted (os : Os) (started : os.Started) (H : Type) (enc : TypeId × Value → H) :
    ReturnsInHanded {} Tryd.checked os 3 .any (fun w args => (Rows.litIsSpec.pre enc Tryd.prog Tryd.f3 [] false w args ∧ laidMetH Tryd.prog laidL w) ∧ sizedMet enc Tryd.prog Tryd.f3 (OpenSpec.ofChange Rows.litIsSpec) false w args)
      (Rows.litIsSpec.post enc Tryd.prog Tryd.f3 false true false false) := by
  refine returnsInHanded_of_change_and (C := Tryd.checked) (X := fun w _ => laidMetH Tryd.prog laidL w) (fun _ _ _ hh h => h.of_heap hh) own started (by kernel_rfl) Tryd.func3
    (ChangeSpec.witness_at (enc := enc) (C := Tryd.checked) (os := os) (X := fun w _ => laidMetH Tryd.prog laidL w) false (laidWorld os) #[.slice none 0 0] 8 rfl (by kernel_rfl) (by kernel_rfl) (by kernel_rfl) (by kernel_rfl) (by kernel_rfl) (laidWorld_met os _)) ?_
  intro W base args ds gs before hval0 hW hcnd _ hL _
  have hval : ∀ (j : Nat) t v, Tryd.f3.params[j]? = some t → args[j]? = some v → Value.okWide Tryd.prog W .any base t v := hval0
  have hW' := hW
  obtain ⟨p, q, hA0, hV, rfl, hfz, hnd⟩ := hW
  have hA : DataW.TrodAll enc Tryd.prog W 0 (fun _ => true) true Tryd.f3.params.toList args.toList ds p := hA0
  rw [Tryd.params3] at hA hval
  obtain ⟨v0, vs0, d0, ds0, p0, q0, hargs, rfl, rfl, h0, r0⟩ := trodAll_cons hA
  obtain ⟨rfl, rfl, rfl⟩ := trodAll_nil r0
  obtain rfl : args = #[v0] := by cases args; simp_all
  obtain ⟨rfl, rfl⟩ := trodVars_none hV
  have hg := handle_of_laid hL
  obtain ⟨a0, len0, cap0, rfl⟩ := okWide_slice Tryd.underlying22 (hval 0 22 v0 rfl rfl)
  have k0 := h0
  have lt0 : ∀ x ∈ p0, x.block < W.heap.size := by obtain ⟨m, hm⟩ := k0; exact DataW.trod_lt m _ _ _ hm
  obtain ⟨z0, w0, ok0⟩ : ∃ l, RdN W (.slice a0 len0 cap0) l ∧ ∀ nd ∈ l, okNd nd := by obtain ⟨fuel, hf⟩ := h0; exact open_nodes (by simpa [Value.cells] using hf)
  clear hA0 hval0
  refine (walk z0 _ W w0 ok0 hg).mono fun e W' ⟨he, bel⟩ => ?_
  subst he
  exact ⟨_, rfl, _, _, _, [], _, [], hW', trodAll_mk1 (shut_bool Tryd.underlying4 _), (trodAll_cons_mk (Below.trod laidOut (by kernel_rfl) (of_decide_eq_true (by kernel_rfl)) k0 bel lt0) trodAll_mk0), rfl, bel.frame _, fun h => by cases h⟩

theorem over : Rows.litIsRow.holds Tryd.pinned (OpenSpec.ofChange Rows.litIsSpec) :=
  OpenClaim.holds_of_wide 3 Tryd.f3 rfl rfl rfl rfl rfl rfl rfl ⟨rfl, rfl, rfl, rfl, rfl⟩ rfl rfl rfl rfl rfl (by kernel_rfl) Tryd.func3 (by kernel_rfl)
    (of_decide_eq_true (by kernel_rfl)) (by unfold Func.isWrapper; first | (rw [if_pos (by decide +kernel)]; kernel_rfl) | (rw [if_neg (by decide +kernel)]; exact ⟨rfl, rfl⟩))
    (fun os started H enc _ => lifted os started H enc)

/-- THE STATEMENT: the tied card. -/
theorem proved : Rows.LitIsCardSaid :=
  Claim7.holds_tied_plain_at .later [] [.handle] true (true, "f45a1604785a151641de101bbe54cc07bb79ece424cdf2959cfd764ef295316a") true
    over (fun _ h => by cases h) (by kernel_rfl) (fun _ h => by cases h) litIs_row_tie rfl ⟨rfl, rfl⟩ (by kernel_rfl) rfl
    (fun f fn hf hfn => by
      obtain rfl : f = 3 := Option.some.inj ((show Tryd.prog.funcNamed "winnowfan/winnowfanlaw2.LitIs" = some 3 by kernel_rfl).symm.trans hf) |>.symm
      obtain rfl : fn = Tryd.f3 := (Option.some.inj (Tryd.func3.symm.trans hfn)).symm
      exact ⟨by kernel_rfl, fun j t ht => by
        rw [Tryd.params3] at ht
        match j, ht with
        | 0, ht =>
          have e : t = 22 := by simpa using ht.symm
          subst e
          exact (show Tryd.prog.wantsStandIn 22 = false by kernel_rfl)
        | j + 1, ht => simp at ht⟩)
    (by kernel_rfl)


end Go.Proofs.YthcahjnniendnabDoor.litIs
