/-
  Proved: winnowfanlaw2.SimIs returns true for every program, text and place, and changes nothing that was there.
-/
import Derived.Test.YthcahjnniendnaaDoorLaw
import Derived.Test.YthcahjnniendnaaDoorAs
import Derived.Test.YthcahjnniendnaaDoorEmptyNo
import Derived.Test.YthcahjnniendnaaDoorOpenS
import Derived.Test.YthcahjnniendnaaDoorInts
import Derived.Test.YthcahjnniendnaaDoorSimF
import Derived.Test.YthcahjnniendnaaDoorRefS
import Derived.Test.YthcahjnniendnaaDoorRunOf
import Derived.Test.YthcahjnniendnaaDoorLaid
import Derived.Test.YthcahjnniendnaaDoorTie
import Derived.Test.YthcahjnniendnaaDoorCards
namespace Go.Proofs.YthcahjnniendnaaDoor.simIs
open Go.ChangeShapes Go.WideShapes Go.ChangeAt Go.RowKit Wf
open Go.ChangeMaps (open_string shut_string)
open law (own laidOut LawIs laidL laidWorld laidWorld_met handle_of_laid)
set_option linter.unusedVariables false

theorem chkRun_zero {p : List St} {n : Nat} {f : Int} (h : chkRun p n f = 0) : chkP p = 0 ∧ n ≤ 400 ∧ 0 ≤ f ∧ f ≤ n := by
  unfold chkRun at h
  by_cases h1 : chkP p = 0
  · rw [if_neg (by simpa using h1)] at h
    by_cases h2 : 400 < n
    · rw [if_pos h2] at h; cases h
    · rw [if_neg h2] at h
      by_cases h3 : f < 0 ∨ (n : Int) < f
      · rw [if_pos h3] at h; cases h
      · exact ⟨h1, by omega, by omega, by omega⟩
  · rw [if_pos h1] at h; exact absurd h h1
theorem chkRun_one {p : List St} {n : Nat} {f : Int} (h1 : chkP p = 0) (h2 : ¬ 400 < n) (h : chkRun p n f ≠ 0) : chkRun p n f = 1 ∧ (f < 0 ∨ (n : Int) < f) := by
  unfold chkRun at h ⊢
  rw [if_neg (by simpa using h1), if_neg h2] at h ⊢
  by_cases h3 : f < 0 ∨ (n : Int) < f
  · exact ⟨if_pos h3, h3⟩
  · exact absurd (if_neg h3) h

set_option maxRecDepth 100000 in
set_option maxHeartbeats 16000000 in
theorem walk (p : List St) (v : Value) (s : ByteArray) (x : Int) (w : World) (hr : RdS w v p) (hok : ∀ t ∈ p, okSt t) (hg : ErrT w) : Calls Tryd.prog 3 #[v, .string s, .int .i64 x] w (LawIs w) := by
  have hokc : ∀ t ∈ p, okC t.cls := fun t ht => (hok t ht).1
  obtain ⟨A, cap, rfl, hcap, hcap2, hmem⟩ := hr.open_
  have HR := Lib.hid hr
  have HG := Lib.hid hg
  have HF := Lib.hid (RSFault_any p _ w hr (by omega) hokc)
  unfold RSFaultIs at HF
  by_cases hc : chkRun p s.size x = 0
  · obtain ⟨hc1, hc2⟩ := chkRun_zero hc
    obtain ⟨hs, hx0, hx1⟩ := hc2
    obtain ⟨f, rfl⟩ := Int.eq_ofNat_of_zero_le hx0
    have hp := chkP_ok.1 hc1
    have hf : f ≤ s.size := by omega
    have HRUN := Lib.hid (fun W h => RRun_any p hp hokc (.slice A p.length cap) s hs f hf W h)
    have HE := Lib.hid (fun W h => REnds_ok p hp hokc (.slice A p.length cap) s hs f hf W h)
    have HL := Lib.hid (fun W h => RLong_ok p hp hokc (.slice A p.length cap) s hs f hf W h)
    have HS := Lib.hid (fun W h => SErr_any 0 0 W h)
    have hrl := runL_len p s.data.toList f
    have hsl : s.data.toList.length = s.size := by simp
    rw [hsl] at hrl
    unfold RRunIs at HRUN
    unfold EndsRun at HE
    unfold LongRun at HL
    rw [hc1] at HF
    rw [errV_zero] at HS
    have d1 : decide ((400 : Int) < (s.size : Int)) = false := by simp; omega
    have d2 : decide (400 < s.size) = false := by simp; omega
    have d3 : decide ((f : Int) < 0) = false := by simp
    have d4 : decide ((s.size : Int) < (f : Int)) = false := by simp; omega
    have d5 : decide (s.size < f) = false := by simp; omega
    clear hr hg hok hokc hmem hc hc1 hp hsl
    generalize runL p s.data.toList f = xs at *
    go_enter Tryd.func3, Tryd.ntmps3
    go_wp2_with fail
    refine HF.out.mono ?_
    rintro e w1 ⟨rfl, hb1⟩
    have HB1 := Lib.hid hb1
    clear hb1
    go_wp2_with fail
    refine (HRUN.out _ (HR.out.below HB1.out)).mono ?_
    rintro e w2 ⟨v2, rfl, hv2, ⟨A2, cap2, rfl⟩, hb2⟩
    have HB2 := Lib.hid (HB1.out.trans (hb2.mono HB1.out.size))
    rw [natVals_ints] at hv2
    have HV2 := Lib.hid hv2
    clear hv2
    clear hb2
    obtain ⟨A2', cap2', hva, hc1, hc2, hm1⟩ := RdI.open_ HV2.out
    rw [toInts_len] at hva
    injection hva with e1 e2 e3
    subst e1
    subst e3
    rw [toInts_len] at hm1 hc1
    rcases List.eq_nil_or_concat xs with hx | ⟨ys, y, hx⟩
    · skip
      subst hx
      have HLA : Hid (lastL [] = -1) := Lib.hid rfl
      clear hm1 hc1 hc2
      rw [show ([] : List Nat).length = 0 from rfl] at *
      go_wp2_with fail
      refine (HE.out _ (HR.out.below HB2.out)).mono ?_
      rintro e w3 ⟨A3, cap3, rfl, hv3, hb3⟩
      have HB3 := Lib.hid (HB2.out.trans (hb3.mono HB2.out.size))
      have HW3 := Lib.hid (HV2.out.below hb3)
      rw [natVals_ints] at hv3
      have HV3 := Lib.hid hv3
      clear hv3 HV2
      clear hb3
      go_wp2_with fail
      refine (HS.out _ (HG.out.below HB3.out)).mono ?_
      rintro e w4 ⟨r, rfl, hrr, hb4⟩
      obtain rfl : r = true := hrr.2 rfl
      have HB4 := Lib.hid (HB3.out.trans (hb4.mono HB3.out.size))
      have HW4 := Lib.hid (HW3.out.below hb4)
      have HV4 := Lib.hid (HV3.out.below hb4)
      clear HW3 HV3
      clear hb4 hrr
      go_wp2_with fail
      refine (Ints_any (toInts []) (toInts []) _ _ _ HV4.out HW4.out).mono ?_
      rintro e w5 ⟨r, rfl, hrr, hb5⟩
      obtain rfl : r = true := hrr.2 rfl
      have HB5 := Lib.hid (HB4.out.trans (hb5.mono HB4.out.size))
      clear hb5 hrr HV4 HW4
      go_wp2_with fail
      refine (HL.out _ (HR.out.below HB5.out)).mono ?_
      rintro e w6 ⟨rfl, hb6⟩
      have HB6 := Lib.hid (HB5.out.trans (hb6.mono HB5.out.size))
      clear hb6
      go_wp2_with fail
      refine (HS.out _ (HG.out.below HB6.out)).mono ?_
      rintro e w7 ⟨r, rfl, hrr, hb7⟩
      obtain rfl : r = true := hrr.2 rfl
      have HB7 := Lib.hid (HB6.out.trans (hb7.mono HB6.out.size))
      clear hb7 hrr
      go_wp2_with fail
      go_ret
      exact ⟨by rw [HLA.out]; simp, HB7.out⟩
    · skip
      have hn : xs.length = ys.length + 1 := by rw [hx]; simp
      have HLA : Hid (lastL xs = (y : Int)) := Lib.hid (by rw [hx, List.concat_eq_append, lastL_snoc])
      obtain ⟨b2, off2, rfl, hbl2, hcells⟩ := hm1 (by omega)
      have hc := hcells w2 (fun _ => rfl) ys.length (y : Int) (by rw [toInts_get, hx, List.concat_eq_append]; simp)
      clear hcells hx hm1
      generalize ys.length = m at *
      rw [hn] at hc1 hrl HV2 ⊢
      have hm1 : m ≤ 400 := by omega
      have hbd : (m : Int) + 1 ≤ 9223372036854775807 := by omega
      clear hn
      go_wp2_with fail
      refine (HE.out _ (HR.out.below HB2.out)).mono ?_
      rintro e w3 ⟨A3, cap3, rfl, hv3, hb3⟩
      have HB3 := Lib.hid (HB2.out.trans (hb3.mono HB2.out.size))
      have HW3 := Lib.hid (HV2.out.below hb3)
      rw [natVals_ints] at hv3
      have HV3 := Lib.hid hv3
      clear hv3 HV2
      clear hb3
      go_wp2_with fail
      refine (HS.out _ (HG.out.below HB3.out)).mono ?_
      rintro e w4 ⟨r, rfl, hrr, hb4⟩
      obtain rfl : r = true := hrr.2 rfl
      have HB4 := Lib.hid (HB3.out.trans (hb4.mono HB3.out.size))
      have HW4 := Lib.hid (HW3.out.below hb4)
      have HV4 := Lib.hid (HV3.out.below hb4)
      clear HW3 HV3
      clear hb4 hrr
      go_wp2_with fail
      refine (Ints_any (toInts xs) (toInts xs) _ _ _ HV4.out HW4.out).mono ?_
      rintro e w5 ⟨r, rfl, hrr, hb5⟩
      obtain rfl : r = true := hrr.2 rfl
      have HB5 := Lib.hid (HB4.out.trans (hb5.mono HB4.out.size))
      clear hb5 hrr HV4 HW4
      go_wp2_with fail
      refine (HL.out _ (HR.out.below HB5.out)).mono ?_
      rintro e w6 ⟨rfl, hb6⟩
      have HB6 := Lib.hid (HB5.out.trans (hb6.mono HB5.out.size))
      clear hb6
      go_wp2_with fail
      refine (HS.out _ (HG.out.below HB6.out)).mono ?_
      rintro e w7 ⟨r, rfl, hrr, hb7⟩
      obtain rfl : r = true := hrr.2 rfl
      have HB7 := Lib.hid (HB6.out.trans (hb7.mono HB6.out.size))
      clear hb7 hrr
      go_wp2_with fail
      go_ret
      exact ⟨by rw [HLA.out]; simp, HB7.out⟩
  · have hcx := hc
    have HE := Lib.hid (fun W h => REnds_no p (.slice A p.length cap) s x W h (by omega) hc)
    have HL := Lib.hid (fun W h => RLong_no p (.slice A p.length cap) s x W h (by omega) hc)
    have HS := Lib.hid (fun W h => SErr_any (chkRun p s.size x) (chkRun p s.size x) W h)
    unfold EndsRunNo at HE
    unfold LongRunNo at HL
    clear hr hg hok hokc hmem hc
    by_cases h1 : chkP p = 0
    · by_cases h2 : 400 < s.size
      · have e3 : chkRun p s.size x = 3 := by unfold chkRun; rw [if_neg (by simpa using h1), if_pos h2]
        rw [e3] at HE HL HS
        rw [h1] at HF
        have d1 : decide ((400 : Int) < (s.size : Int)) = true := by simp; omega
        have d2 : decide (400 < s.size) = true := by simp; omega
        clear e3 h1 hcx
        go_enter Tryd.func3, Tryd.ntmps3
        go_wp2_with fail
        refine HF.out.mono ?_
        rintro e w1 ⟨rfl, hb1⟩
        have HB1 := Lib.hid hb1
        clear hb1
        go_wp2_with fail
        refine (HE.out _ (HR.out.below HB1.out)).mono ?_
        rintro e w2 ⟨rfl, hb2⟩
        have HB2 := Lib.hid (HB1.out.trans (hb2.mono HB1.out.size))
        clear hb2
        go_wp2_with fail
        refine (HS.out _ (HG.out.below HB2.out)).mono ?_
        rintro e w3 ⟨r, rfl, hrr, hb3⟩
        obtain rfl : r = true := hrr.2 rfl
        have HB3 := Lib.hid (HB2.out.trans (hb3.mono HB2.out.size))
        clear hb3 hrr
        go_wp2_with fail
        refine (Ints_any [] [] _ _ _ (RdI.nil _) (RdI.nil _)).mono ?_
        rintro e w4 ⟨r, rfl, hrr, hb4⟩
        obtain rfl : r = true := hrr.2 rfl
        have HB4 := Lib.hid (HB3.out.trans (hb4.mono HB3.out.size))
        clear hb4 hrr
        go_wp2_with fail
        refine (HL.out _ (HR.out.below HB4.out)).mono ?_
        rintro e w5 ⟨rfl, hb5⟩
        have HB5 := Lib.hid (HB4.out.trans (hb5.mono HB4.out.size))
        clear hb5
        go_wp2_with fail
        refine (HS.out _ (HG.out.below HB5.out)).mono ?_
        rintro e w6 ⟨r, rfl, hrr, hb6⟩
        obtain rfl : r = true := hrr.2 rfl
        have HB6 := Lib.hid (HB5.out.trans (hb6.mono HB5.out.size))
        clear hb6 hrr
        go_wp2_with fail
        go_ret
        exact ⟨rfl, HB6.out⟩
      · obtain ⟨e1, h3⟩ := chkRun_one h1 h2 hcx
        rw [e1] at HE HL HS
        rw [h1] at HF
        have d1 : decide ((400 : Int) < (s.size : Int)) = false := by simp; omega
        have d2 : decide (400 < s.size) = false := by simp; omega
        clear e1 h1 hcx
        by_cases h4 : x < 0
        · have d3 : decide (x < 0) = true := by simpa using h4
          clear h3
          go_enter Tryd.func3, Tryd.ntmps3
          go_wp2_with fail
          refine HF.out.mono ?_
          rintro e w1 ⟨rfl, hb1⟩
          have HB1 := Lib.hid hb1
          clear hb1
          go_wp2_with fail
          refine (HE.out _ (HR.out.below HB1.out)).mono ?_
          rintro e w2 ⟨rfl, hb2⟩
          have HB2 := Lib.hid (HB1.out.trans (hb2.mono HB1.out.size))
          clear hb2
          go_wp2_with fail
          refine (HS.out _ (HG.out.below HB2.out)).mono ?_
          rintro e w3 ⟨r, rfl, hrr, hb3⟩
          obtain rfl : r = true := hrr.2 rfl
          have HB3 := Lib.hid (HB2.out.trans (hb3.mono HB2.out.size))
          clear hb3 hrr
          go_wp2_with fail
          refine (Ints_any [] [] _ _ _ (RdI.nil _) (RdI.nil _)).mono ?_
          rintro e w4 ⟨r, rfl, hrr, hb4⟩
          obtain rfl : r = true := hrr.2 rfl
          have HB4 := Lib.hid (HB3.out.trans (hb4.mono HB3.out.size))
          clear hb4 hrr
          go_wp2_with fail
          refine (HL.out _ (HR.out.below HB4.out)).mono ?_
          rintro e w5 ⟨rfl, hb5⟩
          have HB5 := Lib.hid (HB4.out.trans (hb5.mono HB4.out.size))
          clear hb5
          go_wp2_with fail
          refine (HS.out _ (HG.out.below HB5.out)).mono ?_
          rintro e w6 ⟨r, rfl, hrr, hb6⟩
          obtain rfl : r = true := hrr.2 rfl
          have HB6 := Lib.hid (HB5.out.trans (hb6.mono HB5.out.size))
          clear hb6 hrr
          go_wp2_with fail
          go_ret
          exact ⟨rfl, HB6.out⟩
        · have d3 : decide (x < 0) = false := by simpa using h4
          have d4 : decide ((s.size : Int) < x) = true := by simp; omega
          clear h3
          go_enter Tryd.func3, Tryd.ntmps3
          go_wp2_with fail
          refine HF.out.mono ?_
          rintro e w1 ⟨rfl, hb1⟩
          have HB1 := Lib.hid hb1
          clear hb1
          go_wp2_with fail
          refine (HE.out _ (HR.out.below HB1.out)).mono ?_
          rintro e w2 ⟨rfl, hb2⟩
          have HB2 := Lib.hid (HB1.out.trans (hb2.mono HB1.out.size))
          clear hb2
          go_wp2_with fail
          refine (HS.out _ (HG.out.below HB2.out)).mono ?_
          rintro e w3 ⟨r, rfl, hrr, hb3⟩
          obtain rfl : r = true := hrr.2 rfl
          have HB3 := Lib.hid (HB2.out.trans (hb3.mono HB2.out.size))
          clear hb3 hrr
          go_wp2_with fail
          refine (Ints_any [] [] _ _ _ (RdI.nil _) (RdI.nil _)).mono ?_
          rintro e w4 ⟨r, rfl, hrr, hb4⟩
          obtain rfl : r = true := hrr.2 rfl
          have HB4 := Lib.hid (HB3.out.trans (hb4.mono HB3.out.size))
          clear hb4 hrr
          go_wp2_with fail
          refine (HL.out _ (HR.out.below HB4.out)).mono ?_
          rintro e w5 ⟨rfl, hb5⟩
          have HB5 := Lib.hid (HB4.out.trans (hb5.mono HB4.out.size))
          clear hb5
          go_wp2_with fail
          refine (HS.out _ (HG.out.below HB5.out)).mono ?_
          rintro e w6 ⟨r, rfl, hrr, hb6⟩
          obtain rfl : r = true := hrr.2 rfl
          have HB6 := Lib.hid (HB5.out.trans (hb6.mono HB5.out.size))
          clear hb6 hrr
          go_wp2_with fail
          go_ret
          exact ⟨rfl, HB6.out⟩
    · have e0 : chkRun p s.size x = chkP p := by unfold chkRun; rw [if_pos h1]
      rw [e0] at HE HL HS
      have d0 : (chkP p == 0) = false := by simpa using h1
      clear e0 h1 hcx
      generalize chkP p = n at *
      go_enter Tryd.func3, Tryd.ntmps3
      go_wp2_with fail
      refine HF.out.mono ?_
      rintro e w1 ⟨rfl, hb1⟩
      have HB1 := Lib.hid hb1
      clear hb1
      go_wp2_with fail
      refine (HE.out _ (HR.out.below HB1.out)).mono ?_
      rintro e w2 ⟨rfl, hb2⟩
      have HB2 := Lib.hid (HB1.out.trans (hb2.mono HB1.out.size))
      clear hb2
      go_wp2_with fail
      refine (HS.out _ (HG.out.below HB2.out)).mono ?_
      rintro e w3 ⟨r, rfl, hrr, hb3⟩
      obtain rfl : r = true := hrr.2 rfl
      have HB3 := Lib.hid (HB2.out.trans (hb3.mono HB2.out.size))
      clear hb3 hrr
      go_wp2_with fail
      refine (Ints_any [] [] _ _ _ (RdI.nil _) (RdI.nil _)).mono ?_
      rintro e w4 ⟨r, rfl, hrr, hb4⟩
      obtain rfl : r = true := hrr.2 rfl
      have HB4 := Lib.hid (HB3.out.trans (hb4.mono HB3.out.size))
      clear hb4 hrr
      go_wp2_with fail
      refine (HL.out _ (HR.out.below HB4.out)).mono ?_
      rintro e w5 ⟨rfl, hb5⟩
      have HB5 := Lib.hid (HB4.out.trans (hb5.mono HB4.out.size))
      clear hb5
      go_wp2_with fail
      refine (HS.out _ (HG.out.below HB5.out)).mono ?_
      rintro e w6 ⟨r, rfl, hrr, hb6⟩
      obtain rfl : r = true := hrr.2 rfl
      have HB6 := Lib.hid (HB5.out.trans (hb6.mono HB5.out.size))
      clear hb6 hrr
      go_wp2_with fail
      go_ret
      exact ⟨rfl, HB6.out⟩

/-! ### THE ROW's STEP -/
set_option maxRecDepth 100000 in
theorem lifted (os : Os) (started : os.Started) (H : Type) (enc : TypeId × Value → H) :
    ReturnsInHanded {} Tryd.checked os 3 .any (fun w args => (Rows.simIsSpec.pre enc Tryd.prog Tryd.f3 [] false w args ∧ laidMetH Tryd.prog laidL w) ∧ sizedMet enc Tryd.prog Tryd.f3 (OpenSpec.ofChange Rows.simIsSpec) false w args)
      (Rows.simIsSpec.post enc Tryd.prog Tryd.f3 false true false false) := by
  refine returnsInHanded_of_change_and (C := Tryd.checked) (X := fun w _ => laidMetH Tryd.prog laidL w) (fun _ _ _ hh h => h.of_heap hh) own started (by kernel_rfl) Tryd.func3
    (ChangeSpec.witness_at (enc := enc) (C := Tryd.checked) (os := os) (X := fun w _ => laidMetH Tryd.prog laidL w) false (laidWorld os) #[.slice none 0 0, .string ByteArray.empty, .int .i64 0] 8 rfl (by kernel_rfl) (by kernel_rfl) (by kernel_rfl) (by kernel_rfl) (by kernel_rfl) (laidWorld_met os _)) ?_
  intro W base args ds gs before hval0 hW hcnd _ hL _
  have hval : ∀ (j : Nat) t v, Tryd.f3.params[j]? = some t → args[j]? = some v → Value.okWide Tryd.prog W .any base t v := hval0
  have hW' := hW
  obtain ⟨p, q, hA0, hV, rfl, hfz, hnd⟩ := hW
  have hA : DataW.TrodAll enc Tryd.prog W 0 (fun _ => true) true Tryd.f3.params.toList args.toList ds p := hA0
  rw [Tryd.params3] at hA hval
  obtain ⟨v0, vs0, d0, ds0, p0, q0, hargs, rfl, rfl, h0, r0⟩ := trodAll_cons hA
  obtain ⟨v1, vs1, d1, ds1, p1, q1, rfl, rfl, rfl, h1, r1⟩ := trodAll_cons r0
  obtain ⟨v2, vs2, d2, ds2, p2, q2, rfl, rfl, rfl, h2, r2⟩ := trodAll_cons r1
  obtain ⟨rfl, rfl, rfl⟩ := trodAll_nil r2
  obtain rfl : args = #[v0, v1, v2] := by cases args; simp_all
  obtain ⟨rfl, rfl⟩ := trodVars_none hV
  have hg := handle_of_laid hL
  obtain ⟨a0, len0, cap0, rfl⟩ := okWide_slice Tryd.underlying22 (hval 0 22 v0 rfl rfl)
  have k0 := h0
  have lt0 : ∀ x ∈ p0, x.block < W.heap.size := by obtain ⟨m, hm⟩ := k0; exact DataW.trod_lt m _ _ _ hm
  obtain ⟨z0, w0, ok0⟩ : ∃ l, RdS W (.slice a0 len0 cap0) l ∧ ∀ nd ∈ l, okSt nd := by obtain ⟨fuel, hf⟩ := h0; exact open_steps (by simpa [Value.cells] using hf)
  have k1 := h1
  have lt1 : ∀ x ∈ p1, x.block < W.heap.size := by obtain ⟨m, hm⟩ := k1; exact DataW.trod_lt m _ _ _ hm
  obtain ⟨s1, rfl, rfl, rfl, ws1⟩ := open_string Tryd.underlying9 (hval 1 9 v1 rfl rfl) h1
  have k2 := h2
  have lt2 : ∀ x ∈ p2, x.block < W.heap.size := by obtain ⟨m, hm⟩ := k2; exact DataW.trod_lt m _ _ _ hm
  obtain ⟨x2, rfl, rfl, rfl, wx2⟩ := open_int Tryd.underlying3 (hval 2 3 v2 rfl rfl) h2
  clear hA0 hval0
  refine (walk z0 _ s1 x2 W w0 ok0 hg).mono fun e W' ⟨he, bel⟩ => ?_
  subst he
  exact ⟨_, rfl, _, _, _, [], _, [], hW', trodAll_mk1 (shut_bool Tryd.underlying4 _), (trodAll_cons_mk (Below.trod laidOut (by kernel_rfl) (of_decide_eq_true (by kernel_rfl)) k0 bel lt0) (trodAll_cons_mk (shut_string Tryd.underlying9 ws1) (trodAll_cons_mk (shut_int Tryd.underlying3 wx2) trodAll_mk0))), rfl, bel.frame _, fun h => by cases h⟩

theorem over : Rows.simIsRow.holds Tryd.pinned (OpenSpec.ofChange Rows.simIsSpec) :=
  OpenClaim.holds_of_wide 3 Tryd.f3 rfl rfl rfl rfl rfl rfl rfl ⟨rfl, rfl, rfl, rfl, rfl⟩ rfl rfl rfl rfl rfl (by kernel_rfl) Tryd.func3 (by kernel_rfl)
    (of_decide_eq_true (by kernel_rfl)) (by unfold Func.isWrapper; first | (rw [if_pos (by decide +kernel)]; kernel_rfl) | (rw [if_neg (by decide +kernel)]; exact ⟨rfl, rfl⟩))
    (fun os started H enc _ => lifted os started H enc)

/-- THE STATEMENT: the tied card. -/
theorem proved : Rows.SimIsCardSaid :=
  Claim7.holds_tied_plain_at .later [] [.handle] true (true, "19d29f0fa0f4144cee4122b0326765d945e17b95e021dfde4bc6bf17c7bd6e34") true
    over (fun _ h => by cases h) (by kernel_rfl) (fun _ h => by cases h) simIs_row_tie rfl ⟨rfl, rfl⟩ (by kernel_rfl) rfl
    (fun f fn hf hfn => by
      obtain rfl : f = 3 := Option.some.inj ((show Tryd.prog.funcNamed "winnowfan/winnowfanlaw2.SimIs" = some 3 by kernel_rfl).symm.trans hf) |>.symm
      obtain rfl : fn = Tryd.f3 := (Option.some.inj (Tryd.func3.symm.trans hfn)).symm
      exact ⟨by kernel_rfl, fun j t ht => by
        rw [Tryd.params3] at ht
        match j, ht with
        | 0, ht =>
          have e : t = 22 := by simpa using ht.symm
          subst e
          exact (show Tryd.prog.wantsStandIn 22 = false by kernel_rfl)
        | 1, ht =>
          have e : t = 9 := by simpa using ht.symm
          subst e
          exact (show Tryd.prog.wantsStandIn 9 = false by kernel_rfl)
        | 2, ht =>
          have e : t = 3 := by simpa using ht.symm
          subst e
          exact (show Tryd.prog.wantsStandIn 3 = false by kernel_rfl)
        | j + 3, ht => simp at ht⟩)
    (by kernel_rfl)


end Go.Proofs.YthcahjnniendnaaDoor.simIs
