/-
  Proved: winnowfanlaw1.MeanIs returns true for every pattern, text and place, and changes nothing that was there.
-/
import Derived.Test.YthcahjnniendnabDoorLaw
import Derived.Test.YthcahjnniendnabDoorAs
import Derived.Test.YthcahjnniendnabDoorEmptyNo
import Derived.Test.YthcahjnniendnabDoorEndsOf
import Derived.Test.YthcahjnniendnabDoorMeanF
import Derived.Test.YthcahjnniendnabDoorOpen
import Derived.Test.YthcahjnniendnabDoorRefD
import Derived.Test.YthcahjnniendnabDoorLaid
import Derived.Test.YthcahjnniendnabDoorTie
import Derived.Test.YthcahjnniendnabDoorCards
namespace Go.Proofs.YthcahjnniendnabDoor.meanIs
open Go.ChangeShapes Go.WideShapes Go.ChangeAt Go.RowKit Wf
open Go.ChangeMaps (open_string shut_string)
open law (own laidOut LawIs laidL laidWorld laidWorld_met handle_of_laid)
set_option linter.unusedVariables false

/-- Of the list of ends from the head: it is empty, or its last one is the text's length just if the whole is fitted. -/
theorem last_or (s : List UInt8) (t : Rx) (N : Nat) (hN : s.length = N) : endsL s t 0 = [] ∧ ¬ Fits s t 0 N ∨ ∃ n x, (endsL s t 0).length = n + 1 ∧ (endsL s t 0)[n]? = some x ∧ (x = N ↔ Fits s t 0 N) ∧ n ≤ N := by
  have hdef : endsL s t 0 = upTo_ (Fits s t 0) (N + 1) := by unfold endsL; rw [hN]
  have hlen := upTo_len (Fits s t 0) (N + 1)
  rw [← hdef] at hlen
  rcases Nat.eq_zero_or_pos (endsL s t 0).length with h0 | h0
  · have hks := List.eq_nil_of_length_eq_zero h0
    refine .inl ⟨hks, fun h => ?_⟩
    have : N ∈ endsL s t 0 := by rw [hdef]; exact upTo_mem.2 ⟨by omega, h⟩
    rw [hks] at this
    cases this
  · obtain ⟨n, hn⟩ : ∃ n, (endsL s t 0).length = n + 1 := ⟨(endsL s t 0).length - 1, by omega⟩
    obtain ⟨x, hx⟩ : ∃ x, (endsL s t 0)[n]? = some x := ⟨_, List.getElem?_eq_getElem (by omega)⟩
    refine .inr ⟨n, x, hn, hx, ?_, by omega⟩
    rw [hdef] at hn hx
    exact upTo_last hn hx

set_option maxRecDepth 100000 in
set_option maxHeartbeats 16000000 in
theorem walk (l : List Nd) (v : Value) (s : ByteArray) (x : Int) (w : World) (hr : RdN w v l) (hok : ∀ n ∈ l, okNd n) (hg : ErrT w) : Calls Tryd.prog 5 #[v, .string s, .int .i64 x] w (LawIs w) := by
  obtain ⟨A, cap, rfl, hcap, hcap2, hmem⟩ := hr.open_
  have HR := Lib.hid hr
  have HG := Lib.hid hg
  have hokc : ∀ n ∈ l, okC n.cls := fun n hn => (hok n hn).2.2
  have HF := Lib.hid (RFault_any l _ w hr hokc)
  unfold RFaultIs at HF
  by_cases hc : chk l = 0
  · obtain ⟨hlen, t, ht⟩ := chk_tree hc
    have hpos : 0 < l.length := by rw [ht]; exact flat_pos t
    obtain ⟨b, off, rfl, _⟩ := hmem hpos
    by_cases hs : s.size ≤ 400
    · have HE0 := Lib.hid (fun W h => REndsOf_ok l t ht hokc hlen b off cap s hs 0 (by omega) W h)
      have HS := Lib.hid (fun W h => SErr_any 0 0 W h)
      have HY := Lib.hid (fun W h => MYes_ok l t ht hokc (.slice (some ⟨b, off, none⟩) l.length cap) s W hlen h hs)
      have HL := Lib.hid (last_or s.data.toList t s.size (by simp))
      have hgt : decide ((400 : Int) < (s.size : Int)) = false := by simp; omega
      unfold REndsOfIs at HE0
      unfold MYesIs at HY
      rw [hc] at HF
      rw [errV_zero] at HS
      by_cases hx : 0 ≤ x ∧ x ≤ (s.size : Int)
      · obtain ⟨hx0, hx1⟩ := hx
        obtain ⟨f, rfl⟩ := Int.eq_ofNat_of_zero_le hx0
        have HE1 := Lib.hid (fun W h => REndsOf_ok l t ht hokc hlen b off cap s hs f (by omega) W h)
        have HM := Lib.hid (fun W h => MEnds_ok l t ht hokc (.slice (some ⟨b, off, none⟩) l.length cap) s f W hlen h hs (by omega))
        unfold REndsOfIs at HE1
        unfold MEndsIs at HM
        have hd1 : decide (f < 0) = false := by simp
        have hd2 : decide (s.size < f) = false := by simp; omega
        clear hr hg hok hokc hmem hc ht
        generalize endsL s.data.toList t f = L1 at *
        generalize endsL s.data.toList t 0 = L0 at *
        have hways : (L0 = [] ∧ ¬ Fits s.data.toList t 0 s.size) ∨ (∃ n y, L0.length = n + 1 ∧ L0[n]? = some y ∧ y = s.size ∧ Fits s.data.toList t 0 s.size) ∨ (∃ n y, L0.length = n + 1 ∧ L0[n]? = some y ∧ y ≠ s.size ∧ ¬ Fits s.data.toList t 0 s.size) := by
          rcases HL.out with ⟨h1, h2⟩ | ⟨n, y, hn, hy, hyF, hnN⟩
          · exact .inl ⟨h1, h2⟩
          · by_cases e : y = s.size
            · exact .inr (.inl ⟨n, y, hn, hy, e, hyF.1 e⟩)
            · exact .inr (.inr ⟨n, y, hn, hy, e, fun h => e (hyF.2 h)⟩)
        clear HL
        rcases hways with ⟨rfl, hno⟩ | ⟨n, y, hn, hy, hne, hno⟩ | ⟨n, y, hn, hy, hne, hno⟩
        · have HNO := Lib.hid hno
          clear hno
          go_enter Tryd.func5, Tryd.ntmps5
          go_wp2_with fail
          refine (HF.out).mono ?_
          rintro e w1 ⟨rfl, hb1⟩
          have HB1 := Lib.hid hb1
          clear hb1
          go_wp2_with fail
          refine (HE0.out _ (HR.out.below HB1.out)).mono ?_
          rintro e w2 ⟨A2, c2, rfl, hr2, hb2⟩
          have HB2 := Lib.hid (HB1.out.trans (hb2.mono HB1.out.size))
          clear hb2
          clear hr2
          go_wp2_with fail
          refine (HE1.out _ (HR.out.below HB2.out)).mono ?_
          rintro e w3 ⟨A3, c3, rfl, hr3, hb3⟩
          have HB3 := Lib.hid (HB2.out.trans (hb3.mono HB2.out.size))
          rw [natVals_ints] at hr3
          have HX3 : Hid (RdI w3 _ (toInts L1)) := Lib.hid hr3
          clear hr3
          clear hb3
          go_wp2_with fail
          refine (HM.out _ (HR.out.below HB3.out)).mono ?_
          rintro e w4 ⟨v4, rfl, hr4, hb4⟩
          have HB4 := Lib.hid (HB3.out.trans (hb4.mono HB3.out.size))
          rw [natVals_ints] at hr4
          have HX4 : Hid (RdI w4 v4 (toInts L1)) := Lib.hid hr4
          have HX3b := Lib.hid (RdI.below HX3.out hb4)
          clear hr4
          clear hb4
          go_wp2_with fail
          refine (HS.out _ (HG.out.below HB4.out)).mono ?_
          rintro e w5 ⟨r, rfl, hrr, hb5⟩
          have HB5 := Lib.hid (HB4.out.trans (hb5.mono HB4.out.size))
          obtain rfl : r = true := hrr.2 rfl
          clear hrr
          have HBL5 := Lib.hid hb5
          clear hb5
          have HX5a := Lib.hid (RdI.below HX4.out HBL5.out)
          have HX5b := Lib.hid (RdI.below HX3b.out HBL5.out)
          go_wp2_with fail
          refine ((Ints_any (toInts L1) (toInts L1) _ _ _ HX5a.out HX5b.out)).mono ?_
          rintro e w6 ⟨r, rfl, hrr, hb6⟩
          have HB6 := Lib.hid (HB5.out.trans (hb6.mono HB5.out.size))
          obtain rfl : r = true := hrr.2 rfl
          clear hrr
          clear hb6
          go_wp2_with fail
          refine (HY.out _ (HR.out.below HB6.out)).mono ?_
          rintro e w7 ⟨z, rfl, hz, hb7⟩
          have HB7 := Lib.hid (HB6.out.trans (hb7.mono HB6.out.size))
          clear hb7
          obtain rfl : z = false := by cases z with | false => rfl | true => exact absurd (hz.1 rfl) HNO.out
          clear hz
          go_wp2_with fail
          refine (HS.out _ (HG.out.below HB7.out)).mono ?_
          rintro e w8 ⟨r, rfl, hrr, hb8⟩
          have HB8 := Lib.hid (HB7.out.trans (hb8.mono HB7.out.size))
          obtain rfl : r = true := hrr.2 rfl
          clear hrr
          clear hb8
          go_wp2_with fail
          go_ret
          exact ⟨by simp, HB8.out⟩

        · have HNO := Lib.hid hno
          clear hno
          have HYG := Lib.hid hy
          clear hy
          go_enter Tryd.func5, Tryd.ntmps5
          go_wp2_with fail
          refine (HF.out).mono ?_
          rintro e w1 ⟨rfl, hb1⟩
          have HB1 := Lib.hid hb1
          clear hb1
          go_wp2_with fail
          refine (HE0.out _ (HR.out.below HB1.out)).mono ?_
          rintro e w2 ⟨A2, c2, rfl, hr2, hb2⟩
          have HB2 := Lib.hid (HB1.out.trans (hb2.mono HB1.out.size))
          clear hb2
          rw [natVals_ints] at hr2
          obtain ⟨A2', cap2', hv2, hcc1, hcc2, hm2⟩ := RdI.open_ hr2
          have htl := toInts_len L0
          rw [htl, hn] at hm2 hcc1
          rw [htl, hn] at hv2
          rw [hn]
          injection hv2 with e1 _ e2
          subst e1
          subst e2
          obtain ⟨b2, off2, rfl, hb2', hcells⟩ := hm2 (by omega)
          have hcell := hcells w2 (fun _ => rfl) n (y : Int) (by rw [toInts_get, HYG.out]; rfl)
          have hd : ((y : Int) == (s.size : Int)) = true := by simp; omega
          clear hne
          clear hcells hm2 hr2 htl hn
          go_wp2_with fail
          refine (HE1.out _ (HR.out.below HB2.out)).mono ?_
          rintro e w3 ⟨A3, c3, rfl, hr3, hb3⟩
          have HB3 := Lib.hid (HB2.out.trans (hb3.mono HB2.out.size))
          rw [natVals_ints] at hr3
          have HX3 : Hid (RdI w3 _ (toInts L1)) := Lib.hid hr3
          clear hr3
          clear hb3
          go_wp2_with fail
          refine (HM.out _ (HR.out.below HB3.out)).mono ?_
          rintro e w4 ⟨v4, rfl, hr4, hb4⟩
          have HB4 := Lib.hid (HB3.out.trans (hb4.mono HB3.out.size))
          rw [natVals_ints] at hr4
          have HX4 : Hid (RdI w4 v4 (toInts L1)) := Lib.hid hr4
          have HX3b := Lib.hid (RdI.below HX3.out hb4)
          clear hr4
          clear hb4
          go_wp2_with fail
          refine (HS.out _ (HG.out.below HB4.out)).mono ?_
          rintro e w5 ⟨r, rfl, hrr, hb5⟩
          have HB5 := Lib.hid (HB4.out.trans (hb5.mono HB4.out.size))
          obtain rfl : r = true := hrr.2 rfl
          clear hrr
          have HBL5 := Lib.hid hb5
          clear hb5
          have HX5a := Lib.hid (RdI.below HX4.out HBL5.out)
          have HX5b := Lib.hid (RdI.below HX3b.out HBL5.out)
          go_wp2_with fail
          refine ((Ints_any (toInts L1) (toInts L1) _ _ _ HX5a.out HX5b.out)).mono ?_
          rintro e w6 ⟨r, rfl, hrr, hb6⟩
          have HB6 := Lib.hid (HB5.out.trans (hb6.mono HB5.out.size))
          obtain rfl : r = true := hrr.2 rfl
          clear hrr
          clear hb6
          go_wp2_with fail
          refine (HY.out _ (HR.out.below HB6.out)).mono ?_
          rintro e w7 ⟨z, rfl, hz, hb7⟩
          have HB7 := Lib.hid (HB6.out.trans (hb7.mono HB6.out.size))
          clear hb7
          obtain rfl : z = true := hz.2 HNO.out
          clear hz
          go_wp2_with fail
          refine (HS.out _ (HG.out.below HB7.out)).mono ?_
          rintro e w8 ⟨r, rfl, hrr, hb8⟩
          have HB8 := Lib.hid (HB7.out.trans (hb8.mono HB7.out.size))
          obtain rfl : r = true := hrr.2 rfl
          clear hrr
          clear hb8
          go_wp2_with fail
          go_ret
          exact ⟨by simp, HB8.out⟩

        · have HNO := Lib.hid hno
          clear hno
          have HYG := Lib.hid hy
          clear hy
          go_enter Tryd.func5, Tryd.ntmps5
          go_wp2_with fail
          refine (HF.out).mono ?_
          rintro e w1 ⟨rfl, hb1⟩
          have HB1 := Lib.hid hb1
          clear hb1
          go_wp2_with fail
          refine (HE0.out _ (HR.out.below HB1.out)).mono ?_
          rintro e w2 ⟨A2, c2, rfl, hr2, hb2⟩
          have HB2 := Lib.hid (HB1.out.trans (hb2.mono HB1.out.size))
          clear hb2
          rw [natVals_ints] at hr2
          obtain ⟨A2', cap2', hv2, hcc1, hcc2, hm2⟩ := RdI.open_ hr2
          have htl := toInts_len L0
          rw [htl, hn] at hm2 hcc1
          rw [htl, hn] at hv2
          rw [hn]
          injection hv2 with e1 _ e2
          subst e1
          subst e2
          obtain ⟨b2, off2, rfl, hb2', hcells⟩ := hm2 (by omega)
          have hcell := hcells w2 (fun _ => rfl) n (y : Int) (by rw [toInts_get, HYG.out]; rfl)
          have hd : ((y : Int) == (s.size : Int)) = false := by simp; omega
          clear hne
          clear hcells hm2 hr2 htl hn
          go_wp2_with fail
          refine (HE1.out _ (HR.out.below HB2.out)).mono ?_
          rintro e w3 ⟨A3, c3, rfl, hr3, hb3⟩
          have HB3 := Lib.hid (HB2.out.trans (hb3.mono HB2.out.size))
          rw [natVals_ints] at hr3
          have HX3 : Hid (RdI w3 _ (toInts L1)) := Lib.hid hr3
          clear hr3
          clear hb3
          go_wp2_with fail
          refine (HM.out _ (HR.out.below HB3.out)).mono ?_
          rintro e w4 ⟨v4, rfl, hr4, hb4⟩
          have HB4 := Lib.hid (HB3.out.trans (hb4.mono HB3.out.size))
          rw [natVals_ints] at hr4
          have HX4 : Hid (RdI w4 v4 (toInts L1)) := Lib.hid hr4
          have HX3b := Lib.hid (RdI.below HX3.out hb4)
          clear hr4
          clear hb4
          go_wp2_with fail
          refine (HS.out _ (HG.out.below HB4.out)).mono ?_
          rintro e w5 ⟨r, rfl, hrr, hb5⟩
          have HB5 := Lib.hid (HB4.out.trans (hb5.mono HB4.out.size))
          obtain rfl : r = true := hrr.2 rfl
          clear hrr
          have HBL5 := Lib.hid hb5
          clear hb5
          have HX5a := Lib.hid (RdI.below HX4.out HBL5.out)
          have HX5b := Lib.hid (RdI.below HX3b.out HBL5.out)
          go_wp2_with fail
          refine ((Ints_any (toInts L1) (toInts L1) _ _ _ HX5a.out HX5b.out)).mono ?_
          rintro e w6 ⟨r, rfl, hrr, hb6⟩
          have HB6 := Lib.hid (HB5.out.trans (hb6.mono HB5.out.size))
          obtain rfl : r = true := hrr.2 rfl
          clear hrr
          clear hb6
          go_wp2_with fail
          refine (HY.out _ (HR.out.below HB6.out)).mono ?_
          rintro e w7 ⟨z, rfl, hz, hb7⟩
          have HB7 := Lib.hid (HB6.out.trans (hb7.mono HB6.out.size))
          clear hb7
          obtain rfl : z = false := by cases z with | false => rfl | true => exact absurd (hz.1 rfl) HNO.out
          clear hz
          go_wp2_with fail
          refine (HS.out _ (HG.out.below HB7.out)).mono ?_
          rintro e w8 ⟨r, rfl, hrr, hb8⟩
          have HB8 := Lib.hid (HB7.out.trans (hb8.mono HB7.out.size))
          obtain rfl : r = true := hrr.2 rfl
          clear hrr
          clear hb8
          go_wp2_with fail
          go_ret
          exact ⟨by simp, HB8.out⟩


      · have hm1 : mErr l s x = 1 := by
          unfold mErr
          rw [if_neg (by simpa using hc), if_neg (by omega), if_pos (by omega)]
        have HM := Lib.hid (fun W h => MEnds_no l (.slice (some ⟨b, off, none⟩) l.length cap) s x W h (by rw [hm1]; decide))
        have HS1 := Lib.hid (fun W h => SErr_any 1 1 W h)
        have HEV := Lib.hid (errV_ne (n := 1) (by decide))
        unfold MEndsNo at HM
        rw [hm1] at HM
        clear hr hg hok hokc hmem hc ht hm1
        generalize endsL s.data.toList t 0 = L0 at *
        rcases (show x < 0 ∨ (0 ≤ x ∧ (s.size : Int) < x) by omega) with hx2 | ⟨hx2, hx3⟩
        all_goals clear hx
        · have hways : (L0 = [] ∧ ¬ Fits s.data.toList t 0 s.size) ∨ (∃ n y, L0.length = n + 1 ∧ L0[n]? = some y ∧ y = s.size ∧ Fits s.data.toList t 0 s.size) ∨ (∃ n y, L0.length = n + 1 ∧ L0[n]? = some y ∧ y ≠ s.size ∧ ¬ Fits s.data.toList t 0 s.size) := by
            rcases HL.out with ⟨h1, h2⟩ | ⟨n, y, hn, hy, hyF, hnN⟩
            · exact .inl ⟨h1, h2⟩
            · by_cases e : y = s.size
              · exact .inr (.inl ⟨n, y, hn, hy, e, hyF.1 e⟩)
              · exact .inr (.inr ⟨n, y, hn, hy, e, fun h => e (hyF.2 h)⟩)
          clear HL
          rcases hways with ⟨rfl, hno⟩ | ⟨n, y, hn, hy, hne, hno⟩ | ⟨n, y, hn, hy, hne, hno⟩
          · have HNO := Lib.hid hno
            clear hno
            go_enter Tryd.func5, Tryd.ntmps5
            go_wp2_with fail
            refine (HF.out).mono ?_
            rintro e w1 ⟨rfl, hb1⟩
            have HB1 := Lib.hid hb1
            clear hb1
            go_wp2_with fail
            refine (HE0.out _ (HR.out.below HB1.out)).mono ?_
            rintro e w2 ⟨A2, c2, rfl, hr2, hb2⟩
            have HB2 := Lib.hid (HB1.out.trans (hb2.mono HB1.out.size))
            clear hb2
            clear hr2
            go_wp2_with fail
            refine (HM.out _ (HR.out.below HB2.out)).mono ?_
            rintro e w3 ⟨rfl, hb3⟩
            have HB3 := Lib.hid (HB2.out.trans (hb3.mono HB2.out.size))
            clear hb3
            go_wp2_with fail
            refine (HS1.out _ (HG.out.below HB3.out)).mono ?_
            rintro e w4 ⟨r, rfl, hrr, hb4⟩
            have HB4 := Lib.hid (HB3.out.trans (hb4.mono HB3.out.size))
            obtain rfl : r = true := hrr.2 rfl
            clear hrr
            clear hb4
            go_wp2_with fail
            refine ((Ints_any [] [] _ _ _ (RdI.nil _) (RdI.nil _))).mono ?_
            rintro e w5 ⟨r, rfl, hrr, hb5⟩
            have HB5 := Lib.hid (HB4.out.trans (hb5.mono HB4.out.size))
            obtain rfl : r = true := hrr.2 rfl
            clear hrr
            clear hb5
            go_wp2_with fail
            refine (HY.out _ (HR.out.below HB5.out)).mono ?_
            rintro e w6 ⟨z, rfl, hz, hb6⟩
            have HB6 := Lib.hid (HB5.out.trans (hb6.mono HB5.out.size))
            clear hb6
            obtain rfl : z = false := by cases z with | false => rfl | true => exact absurd (hz.1 rfl) HNO.out
            clear hz
            go_wp2_with fail
            refine (HS.out _ (HG.out.below HB6.out)).mono ?_
            rintro e w7 ⟨r, rfl, hrr, hb7⟩
            have HB7 := Lib.hid (HB6.out.trans (hb7.mono HB6.out.size))
            obtain rfl : r = true := hrr.2 rfl
            clear hrr
            clear hb7
            go_wp2_with fail
            go_ret
            exact ⟨by simp, HB7.out⟩

          · have HNO := Lib.hid hno
            clear hno
            have HYG := Lib.hid hy
            clear hy
            go_enter Tryd.func5, Tryd.ntmps5
            go_wp2_with fail
            refine (HF.out).mono ?_
            rintro e w1 ⟨rfl, hb1⟩
            have HB1 := Lib.hid hb1
            clear hb1
            go_wp2_with fail
            refine (HE0.out _ (HR.out.below HB1.out)).mono ?_
            rintro e w2 ⟨A2, c2, rfl, hr2, hb2⟩
            have HB2 := Lib.hid (HB1.out.trans (hb2.mono HB1.out.size))
            clear hb2
            rw [natVals_ints] at hr2
            obtain ⟨A2', cap2', hv2, hcc1, hcc2, hm2⟩ := RdI.open_ hr2
            have htl := toInts_len L0
            rw [htl, hn] at hm2 hcc1
            rw [htl, hn] at hv2
            rw [hn]
            injection hv2 with e1 _ e2
            subst e1
            subst e2
            obtain ⟨b2, off2, rfl, hb2', hcells⟩ := hm2 (by omega)
            have hcell := hcells w2 (fun _ => rfl) n (y : Int) (by rw [toInts_get, HYG.out]; rfl)
            have hd : ((y : Int) == (s.size : Int)) = true := by simp; omega
            clear hne
            clear hcells hm2 hr2 htl hn
            go_wp2_with fail
            refine (HM.out _ (HR.out.below HB2.out)).mono ?_
            rintro e w3 ⟨rfl, hb3⟩
            have HB3 := Lib.hid (HB2.out.trans (hb3.mono HB2.out.size))
            clear hb3
            go_wp2_with fail
            refine (HS1.out _ (HG.out.below HB3.out)).mono ?_
            rintro e w4 ⟨r, rfl, hrr, hb4⟩
            have HB4 := Lib.hid (HB3.out.trans (hb4.mono HB3.out.size))
            obtain rfl : r = true := hrr.2 rfl
            clear hrr
            clear hb4
            go_wp2_with fail
            refine ((Ints_any [] [] _ _ _ (RdI.nil _) (RdI.nil _))).mono ?_
            rintro e w5 ⟨r, rfl, hrr, hb5⟩
            have HB5 := Lib.hid (HB4.out.trans (hb5.mono HB4.out.size))
            obtain rfl : r = true := hrr.2 rfl
            clear hrr
            clear hb5
            go_wp2_with fail
            refine (HY.out _ (HR.out.below HB5.out)).mono ?_
            rintro e w6 ⟨z, rfl, hz, hb6⟩
            have HB6 := Lib.hid (HB5.out.trans (hb6.mono HB5.out.size))
            clear hb6
            obtain rfl : z = true := hz.2 HNO.out
            clear hz
            go_wp2_with fail
            refine (HS.out _ (HG.out.below HB6.out)).mono ?_
            rintro e w7 ⟨r, rfl, hrr, hb7⟩
            have HB7 := Lib.hid (HB6.out.trans (hb7.mono HB6.out.size))
            obtain rfl : r = true := hrr.2 rfl
            clear hrr
            clear hb7
            go_wp2_with fail
            go_ret
            exact ⟨by simp, HB7.out⟩

          · have HNO := Lib.hid hno
            clear hno
            have HYG := Lib.hid hy
            clear hy
            go_enter Tryd.func5, Tryd.ntmps5
            go_wp2_with fail
            refine (HF.out).mono ?_
            rintro e w1 ⟨rfl, hb1⟩
            have HB1 := Lib.hid hb1
            clear hb1
            go_wp2_with fail
            refine (HE0.out _ (HR.out.below HB1.out)).mono ?_
            rintro e w2 ⟨A2, c2, rfl, hr2, hb2⟩
            have HB2 := Lib.hid (HB1.out.trans (hb2.mono HB1.out.size))
            clear hb2
            rw [natVals_ints] at hr2
            obtain ⟨A2', cap2', hv2, hcc1, hcc2, hm2⟩ := RdI.open_ hr2
            have htl := toInts_len L0
            rw [htl, hn] at hm2 hcc1
            rw [htl, hn] at hv2
            rw [hn]
            injection hv2 with e1 _ e2
            subst e1
            subst e2
            obtain ⟨b2, off2, rfl, hb2', hcells⟩ := hm2 (by omega)
            have hcell := hcells w2 (fun _ => rfl) n (y : Int) (by rw [toInts_get, HYG.out]; rfl)
            have hd : ((y : Int) == (s.size : Int)) = false := by simp; omega
            clear hne
            clear hcells hm2 hr2 htl hn
            go_wp2_with fail
            refine (HM.out _ (HR.out.below HB2.out)).mono ?_
            rintro e w3 ⟨rfl, hb3⟩
            have HB3 := Lib.hid (HB2.out.trans (hb3.mono HB2.out.size))
            clear hb3
            go_wp2_with fail
            refine (HS1.out _ (HG.out.below HB3.out)).mono ?_
            rintro e w4 ⟨r, rfl, hrr, hb4⟩
            have HB4 := Lib.hid (HB3.out.trans (hb4.mono HB3.out.size))
            obtain rfl : r = true := hrr.2 rfl
            clear hrr
            clear hb4
            go_wp2_with fail
            refine ((Ints_any [] [] _ _ _ (RdI.nil _) (RdI.nil _))).mono ?_
            rintro e w5 ⟨r, rfl, hrr, hb5⟩
            have HB5 := Lib.hid (HB4.out.trans (hb5.mono HB4.out.size))
            obtain rfl : r = true := hrr.2 rfl
            clear hrr
            clear hb5
            go_wp2_with fail
            refine (HY.out _ (HR.out.below HB5.out)).mono ?_
            rintro e w6 ⟨z, rfl, hz, hb6⟩
            have HB6 := Lib.hid (HB5.out.trans (hb6.mono HB5.out.size))
            clear hb6
            obtain rfl : z = false := by cases z with | false => rfl | true => exact absurd (hz.1 rfl) HNO.out
            clear hz
            go_wp2_with fail
            refine (HS.out _ (HG.out.below HB6.out)).mono ?_
            rintro e w7 ⟨r, rfl, hrr, hb7⟩
            have HB7 := Lib.hid (HB6.out.trans (hb7.mono HB6.out.size))
            obtain rfl : r = true := hrr.2 rfl
            clear hrr
            clear hb7
            go_wp2_with fail
            go_ret
            exact ⟨by simp, HB7.out⟩


        · have hways : (L0 = [] ∧ ¬ Fits s.data.toList t 0 s.size) ∨ (∃ n y, L0.length = n + 1 ∧ L0[n]? = some y ∧ y = s.size ∧ Fits s.data.toList t 0 s.size) ∨ (∃ n y, L0.length = n + 1 ∧ L0[n]? = some y ∧ y ≠ s.size ∧ ¬ Fits s.data.toList t 0 s.size) := by
            rcases HL.out with ⟨h1, h2⟩ | ⟨n, y, hn, hy, hyF, hnN⟩
            · exact .inl ⟨h1, h2⟩
            · by_cases e : y = s.size
              · exact .inr (.inl ⟨n, y, hn, hy, e, hyF.1 e⟩)
              · exact .inr (.inr ⟨n, y, hn, hy, e, fun h => e (hyF.2 h)⟩)
          clear HL
          rcases hways with ⟨rfl, hno⟩ | ⟨n, y, hn, hy, hne, hno⟩ | ⟨n, y, hn, hy, hne, hno⟩
          · have HNO := Lib.hid hno
            clear hno
            go_enter Tryd.func5, Tryd.ntmps5
            go_wp2_with fail
            refine (HF.out).mono ?_
            rintro e w1 ⟨rfl, hb1⟩
            have HB1 := Lib.hid hb1
            clear hb1
            go_wp2_with fail
            refine (HE0.out _ (HR.out.below HB1.out)).mono ?_
            rintro e w2 ⟨A2, c2, rfl, hr2, hb2⟩
            have HB2 := Lib.hid (HB1.out.trans (hb2.mono HB1.out.size))
            clear hb2
            clear hr2
            go_wp2_with fail
            refine (HM.out _ (HR.out.below HB2.out)).mono ?_
            rintro e w3 ⟨rfl, hb3⟩
            have HB3 := Lib.hid (HB2.out.trans (hb3.mono HB2.out.size))
            clear hb3
            go_wp2_with fail
            refine (HS1.out _ (HG.out.below HB3.out)).mono ?_
            rintro e w4 ⟨r, rfl, hrr, hb4⟩
            have HB4 := Lib.hid (HB3.out.trans (hb4.mono HB3.out.size))
            obtain rfl : r = true := hrr.2 rfl
            clear hrr
            clear hb4
            go_wp2_with fail
            refine ((Ints_any [] [] _ _ _ (RdI.nil _) (RdI.nil _))).mono ?_
            rintro e w5 ⟨r, rfl, hrr, hb5⟩
            have HB5 := Lib.hid (HB4.out.trans (hb5.mono HB4.out.size))
            obtain rfl : r = true := hrr.2 rfl
            clear hrr
            clear hb5
            go_wp2_with fail
            refine (HY.out _ (HR.out.below HB5.out)).mono ?_
            rintro e w6 ⟨z, rfl, hz, hb6⟩
            have HB6 := Lib.hid (HB5.out.trans (hb6.mono HB5.out.size))
            clear hb6
            obtain rfl : z = false := by cases z with | false => rfl | true => exact absurd (hz.1 rfl) HNO.out
            clear hz
            go_wp2_with fail
            refine (HS.out _ (HG.out.below HB6.out)).mono ?_
            rintro e w7 ⟨r, rfl, hrr, hb7⟩
            have HB7 := Lib.hid (HB6.out.trans (hb7.mono HB6.out.size))
            obtain rfl : r = true := hrr.2 rfl
            clear hrr
            clear hb7
            go_wp2_with fail
            go_ret
            exact ⟨by simp, HB7.out⟩

          · have HNO := Lib.hid hno
            clear hno
            have HYG := Lib.hid hy
            clear hy
            go_enter Tryd.func5, Tryd.ntmps5
            go_wp2_with fail
            refine (HF.out).mono ?_
            rintro e w1 ⟨rfl, hb1⟩
            have HB1 := Lib.hid hb1
            clear hb1
            go_wp2_with fail
            refine (HE0.out _ (HR.out.below HB1.out)).mono ?_
            rintro e w2 ⟨A2, c2, rfl, hr2, hb2⟩
            have HB2 := Lib.hid (HB1.out.trans (hb2.mono HB1.out.size))
            clear hb2
            rw [natVals_ints] at hr2
            obtain ⟨A2', cap2', hv2, hcc1, hcc2, hm2⟩ := RdI.open_ hr2
            have htl := toInts_len L0
            rw [htl, hn] at hm2 hcc1
            rw [htl, hn] at hv2
            rw [hn]
            injection hv2 with e1 _ e2
            subst e1
            subst e2
            obtain ⟨b2, off2, rfl, hb2', hcells⟩ := hm2 (by omega)
            have hcell := hcells w2 (fun _ => rfl) n (y : Int) (by rw [toInts_get, HYG.out]; rfl)
            have hd : ((y : Int) == (s.size : Int)) = true := by simp; omega
            clear hne
            clear hcells hm2 hr2 htl hn
            go_wp2_with fail
            refine (HM.out _ (HR.out.below HB2.out)).mono ?_
            rintro e w3 ⟨rfl, hb3⟩
            have HB3 := Lib.hid (HB2.out.trans (hb3.mono HB2.out.size))
            clear hb3
            go_wp2_with fail
            refine (HS1.out _ (HG.out.below HB3.out)).mono ?_
            rintro e w4 ⟨r, rfl, hrr, hb4⟩
            have HB4 := Lib.hid (HB3.out.trans (hb4.mono HB3.out.size))
            obtain rfl : r = true := hrr.2 rfl
            clear hrr
            clear hb4
            go_wp2_with fail
            refine ((Ints_any [] [] _ _ _ (RdI.nil _) (RdI.nil _))).mono ?_
            rintro e w5 ⟨r, rfl, hrr, hb5⟩
            have HB5 := Lib.hid (HB4.out.trans (hb5.mono HB4.out.size))
            obtain rfl : r = true := hrr.2 rfl
            clear hrr
            clear hb5
            go_wp2_with fail
            refine (HY.out _ (HR.out.below HB5.out)).mono ?_
            rintro e w6 ⟨z, rfl, hz, hb6⟩
            have HB6 := Lib.hid (HB5.out.trans (hb6.mono HB5.out.size))
            clear hb6
            obtain rfl : z = true := hz.2 HNO.out
            clear hz
            go_wp2_with fail
            refine (HS.out _ (HG.out.below HB6.out)).mono ?_
            rintro e w7 ⟨r, rfl, hrr, hb7⟩
            have HB7 := Lib.hid (HB6.out.trans (hb7.mono HB6.out.size))
            obtain rfl : r = true := hrr.2 rfl
            clear hrr
            clear hb7
            go_wp2_with fail
            go_ret
            exact ⟨by simp, HB7.out⟩

          · have HNO := Lib.hid hno
            clear hno
            have HYG := Lib.hid hy
            clear hy
            go_enter Tryd.func5, Tryd.ntmps5
            go_wp2_with fail
            refine (HF.out).mono ?_
            rintro e w1 ⟨rfl, hb1⟩
            have HB1 := Lib.hid hb1
            clear hb1
            go_wp2_with fail
            refine (HE0.out _ (HR.out.below HB1.out)).mono ?_
            rintro e w2 ⟨A2, c2, rfl, hr2, hb2⟩
            have HB2 := Lib.hid (HB1.out.trans (hb2.mono HB1.out.size))
            clear hb2
            rw [natVals_ints] at hr2
            obtain ⟨A2', cap2', hv2, hcc1, hcc2, hm2⟩ := RdI.open_ hr2
            have htl := toInts_len L0
            rw [htl, hn] at hm2 hcc1
            rw [htl, hn] at hv2
            rw [hn]
            injection hv2 with e1 _ e2
            subst e1
            subst e2
            obtain ⟨b2, off2, rfl, hb2', hcells⟩ := hm2 (by omega)
            have hcell := hcells w2 (fun _ => rfl) n (y : Int) (by rw [toInts_get, HYG.out]; rfl)
            have hd : ((y : Int) == (s.size : Int)) = false := by simp; omega
            clear hne
            clear hcells hm2 hr2 htl hn
            go_wp2_with fail
            refine (HM.out _ (HR.out.below HB2.out)).mono ?_
            rintro e w3 ⟨rfl, hb3⟩
            have HB3 := Lib.hid (HB2.out.trans (hb3.mono HB2.out.size))
            clear hb3
            go_wp2_with fail
            refine (HS1.out _ (HG.out.below HB3.out)).mono ?_
            rintro e w4 ⟨r, rfl, hrr, hb4⟩
            have HB4 := Lib.hid (HB3.out.trans (hb4.mono HB3.out.size))
            obtain rfl : r = true := hrr.2 rfl
            clear hrr
            clear hb4
            go_wp2_with fail
            refine ((Ints_any [] [] _ _ _ (RdI.nil _) (RdI.nil _))).mono ?_
            rintro e w5 ⟨r, rfl, hrr, hb5⟩
            have HB5 := Lib.hid (HB4.out.trans (hb5.mono HB4.out.size))
            obtain rfl : r = true := hrr.2 rfl
            clear hrr
            clear hb5
            go_wp2_with fail
            refine (HY.out _ (HR.out.below HB5.out)).mono ?_
            rintro e w6 ⟨z, rfl, hz, hb6⟩
            have HB6 := Lib.hid (HB5.out.trans (hb6.mono HB5.out.size))
            clear hb6
            obtain rfl : z = false := by cases z with | false => rfl | true => exact absurd (hz.1 rfl) HNO.out
            clear hz
            go_wp2_with fail
            refine (HS.out _ (HG.out.below HB6.out)).mono ?_
            rintro e w7 ⟨r, rfl, hrr, hb7⟩
            have HB7 := Lib.hid (HB6.out.trans (hb7.mono HB6.out.size))
            obtain rfl : r = true := hrr.2 rfl
            clear hrr
            clear hb7
            go_wp2_with fail
            go_ret
            exact ⟨by simp, HB7.out⟩


    · have hm : mErr l s x = 3 := by
        unfold mErr
        rw [if_neg (by simpa using hc), if_pos (by omega)]
      have hy : mErr l s 0 = 3 := by
        unfold mErr
        rw [if_neg (by simpa using hc), if_pos (by omega)]
      have HM := Lib.hid (fun W h => MEnds_no l (.slice (some ⟨b, off, none⟩) l.length cap) s x W h (by rw [hm]; decide))
      have HY := Lib.hid (fun W h => MYes_no l (.slice (some ⟨b, off, none⟩) l.length cap) s W h (by rw [hy]; decide))
      have HS := Lib.hid (fun W h => SErr_any 3 3 W h)
      unfold MEndsNo at HM
      unfold MYesNo at HY
      rw [hm] at HM
      rw [hy] at HY
      rw [hc] at HF
      have hgt : decide ((400 : Int) < (s.size : Int)) = true := by simp; omega
      clear hr hg hok hokc hmem hc ht hm hy
      go_enter Tryd.func5, Tryd.ntmps5
      go_wp2_with fail
      refine (HF.out).mono ?_
      rintro e w1 ⟨rfl, hb1⟩
      have HB1 := Lib.hid hb1
      clear hb1
      go_wp2_with fail
      refine (HM.out _ (HR.out.below HB1.out)).mono ?_
      rintro e w2 ⟨rfl, hb2⟩
      have HB2 := Lib.hid (HB1.out.trans (hb2.mono HB1.out.size))
      clear hb2
      go_wp2_with fail
      refine (HS.out _ (HG.out.below HB2.out)).mono ?_
      rintro e w3 ⟨r, rfl, hrr, hb3⟩
      have HB3 := Lib.hid (HB2.out.trans (hb3.mono HB2.out.size))
      obtain rfl : r = true := hrr.2 rfl
      clear hrr
      clear hb3
      go_wp2_with fail
      refine ((Ints_any [] [] _ _ _ (RdI.nil _) (RdI.nil _))).mono ?_
      rintro e w4 ⟨r, rfl, hrr, hb4⟩
      have HB4 := Lib.hid (HB3.out.trans (hb4.mono HB3.out.size))
      obtain rfl : r = true := hrr.2 rfl
      clear hrr
      clear hb4
      go_wp2_with fail
      refine (HY.out _ (HR.out.below HB4.out)).mono ?_
      rintro e w5 ⟨rfl, hb5⟩
      have HB5 := Lib.hid (HB4.out.trans (hb5.mono HB4.out.size))
      clear hb5
      go_wp2_with fail
      refine (HS.out _ (HG.out.below HB5.out)).mono ?_
      rintro e w6 ⟨r, rfl, hrr, hb6⟩
      have HB6 := Lib.hid (HB5.out.trans (hb6.mono HB5.out.size))
      obtain rfl : r = true := hrr.2 rfl
      clear hrr
      clear hb6
      go_wp2_with fail
      go_ret
      exact ⟨rfl, HB6.out⟩

  · have hm : mErr l s x = chk l := by
      unfold mErr
      rw [if_pos hc]
    have hy : mErr l s 0 = chk l := by
      unfold mErr
      rw [if_pos hc]
    have HM := Lib.hid (fun W h => MEnds_no l (.slice A l.length cap) s x W h (by rw [hm]; exact hc))
    have HY := Lib.hid (fun W h => MYes_no l (.slice A l.length cap) s W h (by rw [hy]; exact hc))
    have HS := Lib.hid (fun W h => SErr_any (chk l) (chk l) W h)
    have hc0 : (chk l == 0) = false := by simpa using hc
    unfold MEndsNo at HM
    unfold MYesNo at HY
    rw [hm] at HM
    rw [hy] at HY
    clear hr hg hok hokc hmem hc hm hy
    generalize chk l = n at *
    go_enter Tryd.func5, Tryd.ntmps5
    go_wp2_with fail
    refine (HF.out).mono ?_
    rintro e w1 ⟨rfl, hb1⟩
    have HB1 := Lib.hid hb1
    clear hb1
    go_wp2_with fail
    refine (HM.out _ (HR.out.below HB1.out)).mono ?_
    rintro e w2 ⟨rfl, hb2⟩
    have HB2 := Lib.hid (HB1.out.trans (hb2.mono HB1.out.size))
    clear hb2
    go_wp2_with fail
    refine (HS.out _ (HG.out.below HB2.out)).mono ?_
    rintro e w3 ⟨r, rfl, hrr, hb3⟩
    have HB3 := Lib.hid (HB2.out.trans (hb3.mono HB2.out.size))
    obtain rfl : r = true := hrr.2 rfl
    clear hrr
    clear hb3
    go_wp2_with fail
    refine ((Ints_any [] [] _ _ _ (RdI.nil _) (RdI.nil _))).mono ?_
    rintro e w4 ⟨r, rfl, hrr, hb4⟩
    have HB4 := Lib.hid (HB3.out.trans (hb4.mono HB3.out.size))
    obtain rfl : r = true := hrr.2 rfl
    clear hrr
    clear hb4
    go_wp2_with fail
    refine (HY.out _ (HR.out.below HB4.out)).mono ?_
    rintro e w5 ⟨rfl, hb5⟩
    have HB5 := Lib.hid (HB4.out.trans (hb5.mono HB4.out.size))
    clear hb5
    go_wp2_with fail
    refine (HS.out _ (HG.out.below HB5.out)).mono ?_
    rintro e w6 ⟨r, rfl, hrr, hb6⟩
    have HB6 := Lib.hid (HB5.out.trans (hb6.mono HB5.out.size))
    obtain rfl : r = true := hrr.2 rfl
    clear hrr
    clear hb6
    go_wp2_with fail
    go_ret
    exact ⟨rfl, HB6.out⟩


/-! ### THE ROW's STEP -/
set_option maxRecDepth 100000 in
theorem lifted (os : Os) (started : os.Started) (H : Type) (enc : TypeId × Value → H) :
    ReturnsInHanded {} Tryd.checked os 5 .any (fun w args => (Rows.meanIsSpec.pre enc Tryd.prog Tryd.f5 [] false w args ∧ laidMetH Tryd.prog laidL w) ∧ sizedMet enc Tryd.prog Tryd.f5 (OpenSpec.ofChange Rows.meanIsSpec) false w args)
      (Rows.meanIsSpec.post enc Tryd.prog Tryd.f5 false true false false) := by
  refine returnsInHanded_of_change_and (C := Tryd.checked) (X := fun w _ => laidMetH Tryd.prog laidL w) (fun _ _ _ hh h => h.of_heap hh) own started (by kernel_rfl) Tryd.func5
    (ChangeSpec.witness_at (enc := enc) (C := Tryd.checked) (os := os) (X := fun w _ => laidMetH Tryd.prog laidL w) false (laidWorld os) #[.slice none 0 0, .string ByteArray.empty, .int .i64 0] 8 rfl (by kernel_rfl) (by kernel_rfl) (by kernel_rfl) (by kernel_rfl) (by kernel_rfl) (laidWorld_met os _)) ?_
  intro W base args ds gs before hval0 hW hcnd _ hL _
  have hval : ∀ (j : Nat) t v, Tryd.f5.params[j]? = some t → args[j]? = some v → Value.okWide Tryd.prog W .any base t v := hval0
  have hW' := hW
  obtain ⟨p, q, hA0, hV, rfl, hfz, hnd⟩ := hW
  have hA : DataW.TrodAll enc Tryd.prog W 0 (fun _ => true) true Tryd.f5.params.toList args.toList ds p := hA0
  rw [Tryd.params5] at hA hval
  obtain ⟨v0, vs0, d0, ds0, p0, q0, hargs, rfl, rfl, h0, r0⟩ := trodAll_cons hA
  obtain ⟨v1, vs1, d1, ds1, p1, q1, rfl, rfl, rfl, h1, r1⟩ := trodAll_cons r0
  obtain ⟨v2, vs2, d2, ds2, p2, q2, rfl, rfl, rfl, h2, r2⟩ := trodAll_cons r1
  obtain ⟨rfl, rfl, rfl⟩ := trodAll_nil r2
  obtain rfl : args = #[v0, v1, v2] := by cases args; simp_all
  obtain ⟨rfl, rfl⟩ := trodVars_none hV
  have hg := handle_of_laid hL
  obtain ⟨a0, len0, cap0, rfl⟩ := okWide_slice Tryd.underlying22 (hval 0 22 v0 rfl rfl)
  have k0 := h0
  have lt0 : ∀ x ∈ p0, x.block < W.heap.size := by obtain ⟨m, hm⟩ := k0; exact DataW.trod_lt m _ _ _ hm
  obtain ⟨z0, w0, ok0⟩ : ∃ l, RdN W (.slice a0 len0 cap0) l ∧ ∀ nd ∈ l, okNd nd := by obtain ⟨fuel, hf⟩ := h0; exact open_nodes (by simpa [Value.cells] using hf)
  have k1 := h1
  have lt1 : ∀ x ∈ p1, x.block < W.heap.size := by obtain ⟨m, hm⟩ := k1; exact DataW.trod_lt m _ _ _ hm
  obtain ⟨s1, rfl, rfl, rfl, ws1⟩ := open_string Tryd.underlying9 (hval 1 9 v1 rfl rfl) h1
  have k2 := h2
  have lt2 : ∀ x ∈ p2, x.block < W.heap.size := by obtain ⟨m, hm⟩ := k2; exact DataW.trod_lt m _ _ _ hm
  obtain ⟨x2, rfl, rfl, rfl, wx2⟩ := open_int Tryd.underlying3 (hval 2 3 v2 rfl rfl) h2
  clear hA0 hval0
  refine (walk z0 _ s1 x2 W w0 ok0 hg).mono fun e W' ⟨he, bel⟩ => ?_
  subst he
  exact ⟨_, rfl, _, _, _, [], _, [], hW', trodAll_mk1 (shut_bool Tryd.underlying4 _), (trodAll_cons_mk (Below.trod laidOut (by kernel_rfl) (of_decide_eq_true (by kernel_rfl)) k0 bel lt0) (trodAll_cons_mk (shut_string Tryd.underlying9 ws1) (trodAll_cons_mk (shut_int Tryd.underlying3 wx2) trodAll_mk0))), rfl, bel.frame _, fun h => by cases h⟩

theorem over : Rows.meanIsRow.holds Tryd.pinned (OpenSpec.ofChange Rows.meanIsSpec) :=
  OpenClaim.holds_of_wide 5 Tryd.f5 rfl rfl rfl rfl rfl rfl rfl ⟨rfl, rfl, rfl, rfl, rfl⟩ rfl rfl rfl rfl rfl (by kernel_rfl) Tryd.func5 (by kernel_rfl)
    (of_decide_eq_true (by kernel_rfl)) (by unfold Func.isWrapper; first | (rw [if_pos (by decide +kernel)]; kernel_rfl) | (rw [if_neg (by decide +kernel)]; exact ⟨rfl, rfl⟩))
    (fun os started H enc _ => lifted os started H enc)

/-- THE STATEMENT: the tied card. -/
theorem proved : Rows.MeanIsCardSaid :=
  Claim7.holds_tied_plain_at .later [] [.handle] true (true, "f45a1604785a151641de101bbe54cc07bb79ece424cdf2959cfd764ef295316a") true
    over (fun _ h => by cases h) (by kernel_rfl) (fun _ h => by cases h) meanIs_row_tie rfl ⟨rfl, rfl⟩ (by kernel_rfl) rfl
    (fun f fn hf hfn => by
      obtain rfl : f = 5 := Option.some.inj ((show Tryd.prog.funcNamed "winnowfan/winnowfanlaw1.MeanIs" = some 5 by kernel_rfl).symm.trans hf) |>.symm
      obtain rfl : fn = Tryd.f5 := (Option.some.inj (Tryd.func5.symm.trans hfn)).symm
      exact ⟨by kernel_rfl, fun j t ht => by
        rw [Tryd.params5] at ht
        match j, ht with
        | 0, ht =>
          have e : t = 22 := by simpa using ht.symm
          subst e
          exact (show Tryd.prog.wantsStandIn 22 = false by kernel_rfl)
        | 1, ht =>
          have e : t = 9 := by simpa using ht.symm
          subst e
          exact (show Tryd.prog.wantsStandIn 9 = false by kernel_rfl)
        | 2, ht =>
          have e : t = 3 := by simpa using ht.symm
          subst e
          exact (show Tryd.prog.wantsStandIn 3 = false by kernel_rfl)
        | j + 3, ht => simp at ht⟩)
    (by kernel_rfl)


end Go.Proofs.YthcahjnniendnabDoor.meanIs
