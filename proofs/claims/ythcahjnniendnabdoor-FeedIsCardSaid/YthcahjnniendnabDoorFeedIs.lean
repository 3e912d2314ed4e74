/-
  Proved: winnowfanlaw3.FeedIs returns true for every pattern and all pieces, and changes nothing that was there.
-/
import Derived.Test.YthcahjnniendnabDoorAs
import Derived.Test.YthcahjnniendnabDoorEmptyNo
import Derived.Test.YthcahjnniendnabDoorEndsOf
import Derived.Test.YthcahjnniendnabDoorGFeed
import Derived.Test.YthcahjnniendnabDoorGRef
import Derived.Test.YthcahjnniendnabDoorLaid
import Derived.Test.YthcahjnniendnabDoorLastOr
import Derived.Test.YthcahjnniendnabDoorLaw
import Derived.Test.YthcahjnniendnabDoorOpen
import Derived.Test.YthcahjnniendnabDoorOpenT
import Derived.Test.YthcahjnniendnabDoorTie
import Derived.Test.YthcahjnniendnabDoorCards
namespace Go.Proofs.YthcahjnniendnabDoor.feedIs
open Go.ChangeShapes Go.WideShapes Go.ChangeAt Go.RowKit Wf
open Go.ChangeMaps (open_string shut_string)
open law (own laidOut LawIs laidL laidWorld laidWorld_met handle_of_laid)
set_option linter.unusedVariables false

set_option maxRecDepth 100000 in
set_option maxHeartbeats 16000000 in
theorem walk (l : List Nd) (v : Value) (pl : List ByteArray) (pv : Value) (w : World) (hr : RdN w v l) (hok : ∀ n ∈ l, okNd n) (hpv : Rd1 w pv (pl.map Value.string)) (hps : ∀ s ∈ pl, s.size ≤ 140737488355328) (hg : ErrT w) : Calls Tryd.prog 4 #[v, pv] w (LawIs w) := by
  obtain ⟨A, cap, rfl, hcap, hcap2, hmem⟩ := hr.open_
  obtain ⟨PA, pcap, rfl, hpc, hpc2, hpm⟩ := Rd1.open_ hpv
  have hpl : (pl.map Value.string).length = pl.length := by simp
  rw [hpl] at hpc hpm ⊢
  have HR := Lib.hid hr
  have HG := Lib.hid hg
  have HPM := Lib.hid hpm
  have HPS := Lib.hid hps
  have hokc : ∀ n ∈ l, okC n.cls := fun n hn => (hok n hn).2.2
  have HOKC := Lib.hid hokc
  have HF := Lib.hid (RFault_any l _ w hr hokc)
  unfold RFaultIs at HF
  by_cases hc : chk l = 0
  · obtain ⟨hlen, t, ht⟩ := chk_tree hc
    have hpos : 0 < l.length := by rw [ht]; exact flat_pos t
    obtain ⟨b, off, rfl, _⟩ := hmem hpos
    have HTR := Lib.hid ht
    have HFN := Lib.hid (fun W h => FNew_ok l t ht (.slice (some ⟨b, off, none⟩) l.length cap) W hlen h)
    have HPO := Lib.hid (progL_ok t (by rw [← ht]; exact hlen))
    have HOK : Hid (∀ s ∈ progL t, okC s.cls) := Lib.hid (progL_cls okC okC_zc t (by rw [← ht]; exact hokc))
    have HEF := Lib.hid (fun (x : List UInt8) (i : Nat) => ends_fits t x 0 i)
    unfold FNewIs at HFN
    rw [hc] at HF
    clear hr hg hok hokc hmem hc ht hpm hps hpv hpl
    generalize progL t = P at *
    go_enter Tryd.func4, Tryd.ntmps4
    go_wp2_with fail
    refine HF.out.mono ?_
    rintro e w1 ⟨rfl, hb1⟩
    have HB1 := Lib.hid hb1
    clear hb1
    go_wp2_with fail
    refine (HFN.out _ (HR.out.below HB1.out)).mono ?_
    rintro e w2 ⟨F, fb, fo, fc, fA, fca, rfl, hF, hfe, hb2⟩
    have hf2 := hfe [F] (by intro f hf; simp at hf; exact .inr (.inr hf)) (by simp)
    have HE2 := Lib.hid hf2
    have hF2 : F < w2.heap.size := hf2.bx.lt
    have hFw : w.heap.size ≤ F := Nat.le_trans HB1.out.size hF
    have HB2 := Lib.hid (HB1.out.trans (hb2.mono HB1.out.size))
    clear hb2 hfe hf2 hF HFN HB1 HF
    go_wp2_with fail
    have hse := SErr_any 0 0 w2 (HG.out.below HB2.out)
    rw [errV_zero] at hse
    refine hse.mono ?_
    clear hse
    rintro e w3 ⟨r, rfl, hrr, hb3⟩
    obtain rfl : r = true := hrr.2 rfl
    have HE3 := Lib.hid (HE2.out.below hb3)
    have HB3 := Lib.hid (HB2.out.trans (hb3.mono HB2.out.size))
    have hF3 : F < w3.heap.size := Nat.lt_of_lt_of_le hF2 hb3.size
    clear hrr hb3 HE2 HB2
    go_wp2_with fail
    go_loopw [9, 10] (fun v9 v10 wr => ∃ (k : Nat) (S : ByteArray) (fs : List Nat) (A : Option Addr) (ca : Nat), k ≤ pl.length ∧ k ≤ 12 ∧ v10 = .int .i64 (k : Int) ∧ v9 = .string S ∧ S.size ≤ 400 ∧ Hid (FdE [F] P S.data.toList fs F fb fo fc A ca wr) ∧ Hid (Below w.heap.size w wr) ∧ F < wr.heap.size) (fun _ i _ => pl.length - (intOf i).toNat)
    case atStart => exact ⟨0, ⟨#[]⟩, [0], fA, fca, by omega, by omega, rfl, rfl, by show (0 : Nat) ≤ 400; omega, HE3, HB3, hF3⟩
    case round =>
      clear HE3 HB3
      obtain ⟨k, S, fs, A, ca, hk, hk12, rfl, rfl, hS, hE, hB, hFl⟩ := hrel
      have HSL := Lib.hid (show S.data.toList.length = S.size by simp)
      by_cases hlt : k < pl.length
      · by_cases h12 : k < 12
        · obtain ⟨pb, po, rfl, hpb, hpcell⟩ := HPM.out (by omega)
          have hq : pl[k]? = some (pl[k]'hlt) := List.getElem?_eq_getElem hlt
          have hqs := HPS.out _ (List.getElem_mem hlt)
          generalize pl[k]'hlt = q at hq hqs
          have g0 := hpcell wr (fun o => hB.out.cell (p := ⟨pb, o, none⟩) hpb) k (.string q) (by simp [hq])
          have hk1 : (k : Int) < (pl.length : Int) := by omega
          have hk2 : (k : Int) < 12 := by omega
          clear hpcell hq
          by_cases hfit : S.size + q.size ≤ 400
          · have dA : decide (400 < S.size + q.size) = false := by simp; omega
            have dB : decide ((400 : Int) < (S.size : Int) + (q.size : Int)) = false := by simp; omega
            go_wp2_with fail
            obtain ⟨T, hT⟩ : ∃ T, T = S ++ q := ⟨_, rfl⟩
            rw [← hT]
            have hTs : T.size ≤ 400 := by rw [hT]; simp; exact hfit
            have HT : Hid (T.data.toList = S.data.toList ++ q.data.toList) := Lib.hid (by rw [hT]; simp)
            clear hT
            refine (FPut_any [F] P HPO.out HOK.out S.data.toList q fs F fb fo fc A ca wr hE.out (by intro f hf; simp at hf; subst hf; exact hFl) (by rw [HSL.out]; exact hfit)).mono ?_
            rintro e w1 ⟨rfl, ⟨fs1, A1, ca1, he1⟩, hg1⟩
            rw [← HT.out] at he1
            have HE1 := Lib.hid he1
            have HB1 := Lib.hid (below_grown2 hB.out hFw hB.out.size hg1)
            have hF1 : F < w1.heap.size := Nat.lt_of_lt_of_le hFl hg1.size
            clear he1 hg1 hE
            go_wp2_with fail
            have hse := SErr_any 0 0 w1 (HG.out.below HB1.out)
            rw [errV_zero] at hse
            refine hse.mono ?_
            clear hse
            rintro e w2 ⟨r, rfl, hrr, hb2⟩
            obtain rfl : r = true := hrr.2 rfl
            have HE2 := Lib.hid (HE1.out.below hb2)
            have HB2 := Lib.hid (HB1.out.trans (hb2.mono HB1.out.size))
            have hF2 : F < w2.heap.size := Nat.lt_of_lt_of_le hF1 hb2.size
            clear hrr hb2 HE1 HB1
            go_wp2_with fail
            have hre := REndsOf_ok l t HTR.out HOKC.out hlen b off cap T hTs 0 (by omega) w2 (HR.out.below HB2.out)
            unfold REndsOfIs at hre
            have hways : (endsL T.data.toList t 0 = [] ∧ ¬ Fits T.data.toList t 0 T.size) ∨ (∃ n y, (endsL T.data.toList t 0).length = n + 1 ∧ (endsL T.data.toList t 0)[n]? = some y ∧ y = T.size ∧ Fits T.data.toList t 0 T.size) ∨ (∃ n y, (endsL T.data.toList t 0).length = n + 1 ∧ (endsL T.data.toList t 0)[n]? = some y ∧ y ≠ T.size ∧ ¬ Fits T.data.toList t 0 T.size) := by
              rcases last_or T.data.toList t T.size (by simp) with ⟨h1, h2⟩ | ⟨n, y, hn, hy, hyF, _⟩
              · exact .inl ⟨h1, h2⟩
              · by_cases e : y = T.size
                · exact .inr (.inl ⟨n, y, hn, hy, e, hyF.1 e⟩)
                · exact .inr (.inr ⟨n, y, hn, hy, e, fun h => e (hyF.2 h)⟩)
            generalize endsL T.data.toList t 0 = L0 at *
            have HRE := Lib.hid hre
            clear hre
            have HFL := Lib.hid (fun W (h : FdE [F] P T.data.toList fs1 F fb fo fc A1 ca1 W) => FLen_any [F] P T.data.toList fs1 F fb fo fc A1 ca1 W h)
            rw [show T.data.toList.length = T.size by simp] at HFL
            have HFY := Lib.hid (fun W (h : FdE [F] P T.data.toList fs1 F fb fo fc A1 ca1 W) => FYes_any [F] P HPO.out T.data.toList fs1 F fb fo fc A1 ca1 W h)
            unfold YesIs at HFY
            rw [show T.data.toList.length = T.size by simp] at HFY
            have HFD := Lib.hid (fun W (h : FdE [F] P T.data.toList fs1 F fb fo fc A1 ca1 W) => FDead_any [F] P T.data.toList fs1 F fb fo fc A1 ca1 W h)
            rcases hways with ⟨h0, hno⟩ | ⟨n, y, hn, hy, hne, hno⟩ | ⟨n, y, hn, hy, hne, hno⟩
            · have HNO := Lib.hid hno
              clear hno
              rw [h0] at HRE
              clear h0
              refine HRE.out.mono ?_
              rintro e w3 ⟨A3, c3, rfl, hr3, hb3⟩
              have HE3 := Lib.hid (HE2.out.below hb3)
              have HB3 := Lib.hid (HB2.out.trans (hb3.mono HB2.out.size))
              have hF3 : F < w3.heap.size := Nat.lt_of_lt_of_le hF2 hb3.size
              clear hb3 HRE HE2 HB2
              clear hr3
              go_wp2_with fail
              refine (HFL.out _ HE3.out).mono ?_
              rintro e w4 ⟨rfl, rfl⟩
              go_wp2_with fail
              refine (HFY.out _ HE3.out).mono ?_
              rintro e w4 ⟨r, rfl, hrr, hb4⟩
              obtain rfl : r = false := by
                have hw := (HEF.out T.data.toList T.size)
                cases r with
                | false => rfl
                | true => exact absurd (hw.1 (hrr.1 rfl)) HNO.out
              have HE4 := Lib.hid (HE3.out.below hb4)
              have HB4 := Lib.hid (HB3.out.trans (hb4.mono HB3.out.size))
              have hF4 : F < w4.heap.size := Nat.lt_of_lt_of_le hF3 hb4.size
              clear hrr hb4 HE3 HB3
              go_wp2_with fail
              go_roundw
              case rel => exact ⟨k + 1, T, fs1, A1, ca1, by omega, by omega, by go_num, rfl, hTs, HE4, HB4, hF4⟩
              case measure => simp [intOf]; omega

            · have HNO := Lib.hid hno
              clear hno
              have HYG := Lib.hid hy
              clear hy
              refine HRE.out.mono ?_
              rintro e w3 ⟨A3, c3, rfl, hr3, hb3⟩
              have HE3 := Lib.hid (HE2.out.below hb3)
              have HB3 := Lib.hid (HB2.out.trans (hb3.mono HB2.out.size))
              have hF3 : F < w3.heap.size := Nat.lt_of_lt_of_le hF2 hb3.size
              clear hb3 HRE HE2 HB2
              rw [natVals_ints] at hr3
              obtain ⟨A2', cap2', hv2, hcc1, hcc2, hm2⟩ := RdI.open_ hr3
              have htl := toInts_len L0
              rw [htl, hn] at hm2 hcc1
              rw [htl, hn] at hv2
              rw [hn]
              injection hv2 with e1 _ e2
              subst e1
              subst e2
              obtain ⟨b2, off2, rfl, hb2', hcells⟩ := hm2 (by omega)
              have hcell := hcells w3 (fun _ => rfl) n (y : Int) (by rw [toInts_get, HYG.out]; rfl)
              have hd : ((y : Int) == (T.size : Int)) = true := by simp; omega
              clear hne
              clear hcells hm2 hr3 htl hn
              go_wp2_with fail
              refine (HFL.out _ HE3.out).mono ?_
              rintro e w4 ⟨rfl, rfl⟩
              go_wp2_with fail
              refine (HFY.out _ HE3.out).mono ?_
              rintro e w4 ⟨r, rfl, hrr, hb4⟩
              obtain rfl : r = true := by
                have hw := (HEF.out T.data.toList T.size)
                exact hrr.2 (hw.2 HNO.out)
              have HE4 := Lib.hid (HE3.out.below hb4)
              have HB4 := Lib.hid (HB3.out.trans (hb4.mono HB3.out.size))
              have hF4 : F < w4.heap.size := Nat.lt_of_lt_of_le hF3 hb4.size
              clear hrr hb4 HE3 HB3
              go_wp2_with fail
              refine (HFD.out _ HE4.out).mono ?_
              rintro e w5 ⟨r, rfl, hrr, rfl⟩
              obtain rfl : r = false := by
                cases r with
                | false => rfl
                | true =>
                  have h0 := HE4.out.fed
                  rw [hrr.1 rfl] at h0
                  have hdd := (Fed.dead h0 (t := []) (by rw [List.append_nil]; exact h0)).2
                  rw [List.append_nil] at hdd
                  exact absurd ((HEF.out T.data.toList T.data.toList.length).2 (by rw [show T.data.toList.length = T.size by simp]; exact HNO.out)) hdd
              clear hrr
              go_wp2_with fail
              go_roundw
              case rel => exact ⟨k + 1, T, fs1, A1, ca1, by omega, by omega, by go_num, rfl, hTs, HE4, HB4, hF4⟩
              case measure => simp [intOf]; omega

            · have HNO := Lib.hid hno
              clear hno
              have HYG := Lib.hid hy
              clear hy
              refine HRE.out.mono ?_
              rintro e w3 ⟨A3, c3, rfl, hr3, hb3⟩
              have HE3 := Lib.hid (HE2.out.below hb3)
              have HB3 := Lib.hid (HB2.out.trans (hb3.mono HB2.out.size))
              have hF3 : F < w3.heap.size := Nat.lt_of_lt_of_le hF2 hb3.size
              clear hb3 HRE HE2 HB2
              rw [natVals_ints] at hr3
              obtain ⟨A2', cap2', hv2, hcc1, hcc2, hm2⟩ := RdI.open_ hr3
              have htl := toInts_len L0
              rw [htl, hn] at hm2 hcc1
              rw [htl, hn] at hv2
              rw [hn]
              injection hv2 with e1 _ e2
              subst e1
              subst e2
              obtain ⟨b2, off2, rfl, hb2', hcells⟩ := hm2 (by omega)
              have hcell := hcells w3 (fun _ => rfl) n (y : Int) (by rw [toInts_get, HYG.out]; rfl)
              have hd : ((y : Int) == (T.size : Int)) = false := by simp; omega
              clear hne
              clear hcells hm2 hr3 htl hn
              go_wp2_with fail
              refine (HFL.out _ HE3.out).mono ?_
              rintro e w4 ⟨rfl, rfl⟩
              go_wp2_with fail
              refine (HFY.out _ HE3.out).mono ?_
              rintro e w4 ⟨r, rfl, hrr, hb4⟩
              obtain rfl : r = false := by
                have hw := (HEF.out T.data.toList T.size)
                cases r with
                | false => rfl
                | true => exact absurd (hw.1 (hrr.1 rfl)) HNO.out
              have HE4 := Lib.hid (HE3.out.below hb4)
              have HB4 := Lib.hid (HB3.out.trans (hb4.mono HB3.out.size))
              have hF4 : F < w4.heap.size := Nat.lt_of_lt_of_le hF3 hb4.size
              clear hrr hb4 HE3 HB3
              go_wp2_with fail
              go_roundw
              case rel => exact ⟨k + 1, T, fs1, A1, ca1, by omega, by omega, by go_num, rfl, hTs, HE4, HB4, hF4⟩
              case measure => simp [intOf]; omega


          · have dA : decide (400 < S.size + q.size) = true := by simp; omega
            have dB : decide ((400 : Int) < (S.size : Int) + (q.size : Int)) = true := by simp; omega
            go_wp2_with fail
            refine (FPut_no [F] P S.data.toList q fs F fb fo fc A ca wr hE.out (by rw [HSL.out]; exact hS) (by rw [HSL.out]; omega)).mono ?_
            rintro e w1 ⟨rfl, hb1⟩
            have HE1 : Hid (FdE [F] P S.data.toList fs F fb fo fc A ca w1) := Lib.hid (hE.out.below hb1)
            have HB1 := Lib.hid (hB.out.trans (hb1.mono hB.out.size))
            have hF1 : F < w1.heap.size := Nat.lt_of_lt_of_le hFl hb1.size
            clear hb1 hE
            go_wp2_with fail
            refine ((SErr_any 3 3 _ (HG.out.below HB1.out)).mono ?_)
            rintro e w2 ⟨r, rfl, hrr, hb2⟩
            obtain rfl : r = true := hrr.2 rfl
            have HE2 := Lib.hid (HE1.out.below hb2)
            have HB2 := Lib.hid (HB1.out.trans (hb2.mono HB1.out.size))
            have hF2 : F < w2.heap.size := Nat.lt_of_lt_of_le hF1 hb2.size
            clear hrr hb2 HE1 HB1
            go_wp2_with fail
            have hre := REndsOf_ok l t HTR.out HOKC.out hlen b off cap S hS 0 (by omega) w2 (HR.out.below HB2.out)
            unfold REndsOfIs at hre
            have hways : (endsL S.data.toList t 0 = [] ∧ ¬ Fits S.data.toList t 0 S.size) ∨ (∃ n y, (endsL S.data.toList t 0).length = n + 1 ∧ (endsL S.data.toList t 0)[n]? = some y ∧ y = S.size ∧ Fits S.data.toList t 0 S.size) ∨ (∃ n y, (endsL S.data.toList t 0).length = n + 1 ∧ (endsL S.data.toList t 0)[n]? = some y ∧ y ≠ S.size ∧ ¬ Fits S.data.toList t 0 S.size) := by
              rcases last_or S.data.toList t S.size (by simp) with ⟨h1, h2⟩ | ⟨n, y, hn, hy, hyF, _⟩
              · exact .inl ⟨h1, h2⟩
              · by_cases e : y = S.size
                · exact .inr (.inl ⟨n, y, hn, hy, e, hyF.1 e⟩)
                · exact .inr (.inr ⟨n, y, hn, hy, e, fun h => e (hyF.2 h)⟩)
            generalize endsL S.data.toList t 0 = L0 at *
            have HRE := Lib.hid hre
            clear hre
            have HFL := Lib.hid (fun W (h : FdE [F] P S.data.toList fs F fb fo fc A ca W) => FLen_any [F] P S.data.toList fs F fb fo fc A ca W h)
            rw [show S.data.toList.length = S.size by simp] at HFL
            have HFY := Lib.hid (fun W (h : FdE [F] P S.data.toList fs F fb fo fc A ca W) => FYes_any [F] P HPO.out S.data.toList fs F fb fo fc A ca W h)
            unfold YesIs at HFY
            rw [show S.data.toList.length = S.size by simp] at HFY
            have HFD := Lib.hid (fun W (h : FdE [F] P S.data.toList fs F fb fo fc A ca W) => FDead_any [F] P S.data.toList fs F fb fo fc A ca W h)
            rcases hways with ⟨h0, hno⟩ | ⟨n, y, hn, hy, hne, hno⟩ | ⟨n, y, hn, hy, hne, hno⟩
            · have HNO := Lib.hid hno
              clear hno
              rw [h0] at HRE
              clear h0
              refine HRE.out.mono ?_
              rintro e w3 ⟨A3, c3, rfl, hr3, hb3⟩
              have HE3 := Lib.hid (HE2.out.below hb3)
              have HB3 := Lib.hid (HB2.out.trans (hb3.mono HB2.out.size))
              have hF3 : F < w3.heap.size := Nat.lt_of_lt_of_le hF2 hb3.size
              clear hb3 HRE HE2 HB2
              clear hr3
              go_wp2_with fail
              refine (HFL.out _ HE3.out).mono ?_
              rintro e w4 ⟨rfl, rfl⟩
              go_wp2_with fail
              refine (HFY.out _ HE3.out).mono ?_
              rintro e w4 ⟨r, rfl, hrr, hb4⟩
              obtain rfl : r = false := by
                have hw := (HEF.out S.data.toList S.size)
                cases r with
                | false => rfl
                | true => exact absurd (hw.1 (hrr.1 rfl)) HNO.out
              have HE4 := Lib.hid (HE3.out.below hb4)
              have HB4 := Lib.hid (HB3.out.trans (hb4.mono HB3.out.size))
              have hF4 : F < w4.heap.size := Nat.lt_of_lt_of_le hF3 hb4.size
              clear hrr hb4 HE3 HB3
              go_wp2_with fail
              go_roundw
              case rel => exact ⟨k + 1, S, fs, A, ca, by omega, by omega, by go_num, rfl, hS, HE4, HB4, hF4⟩
              case measure => simp [intOf]; omega

            · have HNO := Lib.hid hno
              clear hno
              have HYG := Lib.hid hy
              clear hy
              refine HRE.out.mono ?_
              rintro e w3 ⟨A3, c3, rfl, hr3, hb3⟩
              have HE3 := Lib.hid (HE2.out.below hb3)
              have HB3 := Lib.hid (HB2.out.trans (hb3.mono HB2.out.size))
              have hF3 : F < w3.heap.size := Nat.lt_of_lt_of_le hF2 hb3.size
              clear hb3 HRE HE2 HB2
              rw [natVals_ints] at hr3
              obtain ⟨A2', cap2', hv2, hcc1, hcc2, hm2⟩ := RdI.open_ hr3
              have htl := toInts_len L0
              rw [htl, hn] at hm2 hcc1
              rw [htl, hn] at hv2
              rw [hn]
              injection hv2 with e1 _ e2
              subst e1
              subst e2
              obtain ⟨b2, off2, rfl, hb2', hcells⟩ := hm2 (by omega)
              have hcell := hcells w3 (fun _ => rfl) n (y : Int) (by rw [toInts_get, HYG.out]; rfl)
              have hd : ((y : Int) == (S.size : Int)) = true := by simp; omega
              clear hne
              clear hcells hm2 hr3 htl hn
              go_wp2_with fail
              refine (HFL.out _ HE3.out).mono ?_
              rintro e w4 ⟨rfl, rfl⟩
              go_wp2_with fail
              refine (HFY.out _ HE3.out).mono ?_
              rintro e w4 ⟨r, rfl, hrr, hb4⟩
              obtain rfl : r = true := by
                have hw := (HEF.out S.data.toList S.size)
                exact hrr.2 (hw.2 HNO.out)
              have HE4 := Lib.hid (HE3.out.below hb4)
              have HB4 := Lib.hid (HB3.out.trans (hb4.mono HB3.out.size))
              have hF4 : F < w4.heap.size := Nat.lt_of_lt_of_le hF3 hb4.size
              clear hrr hb4 HE3 HB3
              go_wp2_with fail
              refine (HFD.out _ HE4.out).mono ?_
              rintro e w5 ⟨r, rfl, hrr, rfl⟩
              obtain rfl : r = false := by
                cases r with
                | false => rfl
                | true =>
                  have h0 := HE4.out.fed
                  rw [hrr.1 rfl] at h0
                  have hdd := (Fed.dead h0 (t := []) (by rw [List.append_nil]; exact h0)).2
                  rw [List.append_nil] at hdd
                  exact absurd ((HEF.out S.data.toList S.data.toList.length).2 (by rw [show S.data.toList.length = S.size by simp]; exact HNO.out)) hdd
              clear hrr
              go_wp2_with fail
              go_roundw
              case rel => exact ⟨k + 1, S, fs, A, ca, by omega, by omega, by go_num, rfl, hS, HE4, HB4, hF4⟩
              case measure => simp [intOf]; omega

            · have HNO := Lib.hid hno
              clear hno
              have HYG := Lib.hid hy
              clear hy
              refine HRE.out.mono ?_
              rintro e w3 ⟨A3, c3, rfl, hr3, hb3⟩
              have HE3 := Lib.hid (HE2.out.below hb3)
              have HB3 := Lib.hid (HB2.out.trans (hb3.mono HB2.out.size))
              have hF3 : F < w3.heap.size := Nat.lt_of_lt_of_le hF2 hb3.size
              clear hb3 HRE HE2 HB2
              rw [natVals_ints] at hr3
              obtain ⟨A2', cap2', hv2, hcc1, hcc2, hm2⟩ := RdI.open_ hr3
              have htl := toInts_len L0
              rw [htl, hn] at hm2 hcc1
              rw [htl, hn] at hv2
              rw [hn]
              injection hv2 with e1 _ e2
              subst e1
              subst e2
              obtain ⟨b2, off2, rfl, hb2', hcells⟩ := hm2 (by omega)
              have hcell := hcells w3 (fun _ => rfl) n (y : Int) (by rw [toInts_get, HYG.out]; rfl)
              have hd : ((y : Int) == (S.size : Int)) = false := by simp; omega
              clear hne
              clear hcells hm2 hr3 htl hn
              go_wp2_with fail
              refine (HFL.out _ HE3.out).mono ?_
              rintro e w4 ⟨rfl, rfl⟩
              go_wp2_with fail
              refine (HFY.out _ HE3.out).mono ?_
              rintro e w4 ⟨r, rfl, hrr, hb4⟩
              obtain rfl : r = false := by
                have hw := (HEF.out S.data.toList S.size)
                cases r with
                | false => rfl
                | true => exact absurd (hw.1 (hrr.1 rfl)) HNO.out
              have HE4 := Lib.hid (HE3.out.below hb4)
              have HB4 := Lib.hid (HB3.out.trans (hb4.mono HB3.out.size))
              have hF4 : F < w4.heap.size := Nat.lt_of_lt_of_le hF3 hb4.size
              clear hrr hb4 HE3 HB3
              go_wp2_with fail
              go_roundw
              case rel => exact ⟨k + 1, S, fs, A, ca, by omega, by omega, by go_num, rfl, hS, HE4, HB4, hF4⟩
              case measure => simp [intOf]; omega


        · have h12' : k = 12 := by omega
          have d12 : decide ((k : Int) < 12) = false := by simp; omega
          have hk1 : (k : Int) < (pl.length : Int) := by omega
          clear h12 h12' hE
          go_wp2
          go_ret
          exact ⟨rfl, hB.out⟩
      · obtain rfl : k = pl.length := by omega
        clear hE
        go_wp2
        go_ret
        exact ⟨rfl, hB.out⟩
  · have HE := Lib.hid (errV_ne hc)
    have hc0 : (chk l == 0) = false := by simpa using hc
    have HFN := Lib.hid (fun W h => FNew_no l (.slice A l.length cap) W h hc)
    have HS := Lib.hid (fun W h => SErr_any (chk l) (chk l) W h)
    unfold FNewNo at HFN
    clear hr hg hok hokc hmem hpm hps hpv hpl
    have HC := Lib.hid hc
    clear hc
    generalize chk l = n at *
    go_enter Tryd.func4, Tryd.ntmps4
    go_wp2_with fail
    refine HF.out.mono ?_
    rintro e w1 ⟨rfl, hb1⟩
    have HB1 := Lib.hid hb1
    clear hb1
    go_wp2_with fail
    refine (HFN.out _ (HR.out.below HB1.out)).mono ?_
    rintro e w2 ⟨rfl, hb2⟩
    have HB2 := Lib.hid (HB1.out.trans (hb2.mono HB1.out.size))
    clear hb2
    go_wp2_with fail
    refine (HS.out _ (HG.out.below HB2.out)).mono ?_
    rintro e w3 ⟨r, rfl, hrr, hb3⟩
    obtain rfl : r = true := hrr.2 rfl
    have HB3 := Lib.hid (HB2.out.trans (hb3.mono HB2.out.size))
    clear hb3 hrr
    go_wp2_with fail
    go_ret
    exact ⟨rfl, HB3.out⟩


/-! ### THE ROW's STEP -/
set_option maxRecDepth 100000 in
theorem lifted (os : Os) (started : os.Started) (H : Type) (enc : TypeId × Value → H) :
    ReturnsInHanded {} Tryd.checked os 4 .any (fun w args => (Rows.feedIsSpec.pre enc Tryd.prog Tryd.f4 [] false w args ∧ laidMetH Tryd.prog laidL w) ∧ sizedMet enc Tryd.prog Tryd.f4 (OpenSpec.ofChange Rows.feedIsSpec) false w args)
      (Rows.feedIsSpec.post enc Tryd.prog Tryd.f4 false true false false) := by
  refine returnsInHanded_of_change_and (C := Tryd.checked) (X := fun w _ => laidMetH Tryd.prog laidL w) (fun _ _ _ hh h => h.of_heap hh) own started (by kernel_rfl) Tryd.func4
    (ChangeSpec.witness_at (enc := enc) (C := Tryd.checked) (os := os) (X := fun w _ => laidMetH Tryd.prog laidL w) false (laidWorld os) #[.slice none 0 0, .slice none 0 0] 8 rfl (by kernel_rfl) (by kernel_rfl) (by kernel_rfl) (by kernel_rfl) (by kernel_rfl) (laidWorld_met os _)) ?_
  intro W base args ds gs before hval0 hW hcnd hsz0 hL _
  have hval : ∀ (j : Nat) t v, Tryd.f4.params[j]? = some t → args[j]? = some v → Value.okWide Tryd.prog W .any base t v := hval0
  have hW' := hW
  obtain ⟨p, q, hA0, hV, rfl, hfz, hnd⟩ := hW
  have hA : DataW.TrodAll enc Tryd.prog W 0 (fun _ => true) true Tryd.f4.params.toList args.toList ds p := hA0
  have hsz : (DataW.weightsEach Tryd.prog (Tryd.f4.params.toList ++ Rows.feedIsSpec.plain.varTypes Tryd.prog) (ds ++ gs)).all (· ≤ reachBytes) = true := hsz0
  rw [Tryd.params4] at hA hval hsz
  obtain ⟨v0, vs0, d0, ds0, p0, q0, hargs, rfl, rfl, h0, r0⟩ := trodAll_cons hA
  obtain ⟨v1, vs1, d1, ds1, p1, q1, rfl, rfl, rfl, h1, r1⟩ := trodAll_cons r0
  obtain ⟨rfl, rfl, rfl⟩ := trodAll_nil r1
  obtain rfl : args = #[v0, v1] := by cases args; simp_all
  obtain ⟨rfl, rfl⟩ := trodVars_none hV
  have hg := handle_of_laid hL
  obtain ⟨a0, len0, cap0, rfl⟩ := okWide_slice Tryd.underlying22 (hval 0 22 v0 rfl rfl)
  have k0 := h0
  have lt0 : ∀ x ∈ p0, x.block < W.heap.size := by obtain ⟨m, hm⟩ := k0; exact DataW.trod_lt m _ _ _ hm
  obtain ⟨z0, w0, ok0⟩ : ∃ l, RdN W (.slice a0 len0 cap0) l ∧ ∀ nd ∈ l, okNd nd := by obtain ⟨fuel, hf⟩ := h0; exact open_nodes (by simpa [Value.cells] using hf)
  obtain ⟨a1, len1, cap1, rfl⟩ := okWide_slice Tryd.underlying36 (hval 1 36 v1 rfl rfl)
  have k1 := h1
  have lt1 : ∀ x ∈ p1, x.block < W.heap.size := by obtain ⟨m, hm⟩ := k1; exact DataW.trod_lt m _ _ _ hm
  obtain ⟨z1, w1, ok1, dk1⟩ : ∃ l : List ByteArray, Rd1 W (.slice a1 len1 cap1) (l.map Value.string) ∧ (∀ s ∈ l, s.size ≤ maxLen) ∧ ∀ s ∈ l, ∃ elems sp, d1 = .slice elems sp ∧ DataW.lit (.string s.data.toList) ∈ elems := by obtain ⟨fuel, hf⟩ := h1; exact open_strs1 Tryd.underlying36 Tryd.underlying9 (by kernel_rfl) (by simpa [Value.cells] using hf)
  have rs1 : ∀ s ∈ z1, s.size ≤ 140737488355328 := fun s hs => by obtain ⟨el, sp, rfl, hm⟩ := dk1 s hs; have := sized_strs hsz (j := 1) (t := 36) rfl rfl Tryd.underlying36 hm; have hb := reachBytes_lt; simp at this; omega
  clear hA0 hval0 hsz0 hsz
  refine (walk z0 _ z1 _ W w0 ok0 w1 rs1 hg).mono fun e W' ⟨he, bel⟩ => ?_
  subst he
  exact ⟨_, rfl, _, _, _, [], _, [], hW', trodAll_mk1 (shut_bool Tryd.underlying4 _), (trodAll_cons_mk (Below.trod laidOut (by kernel_rfl) (of_decide_eq_true (by kernel_rfl)) k0 bel lt0) (trodAll_cons_mk (Below.trod laidOut (by kernel_rfl) (of_decide_eq_true (by kernel_rfl)) k1 bel lt1) trodAll_mk0)), rfl, bel.frame _, fun h => by cases h⟩

theorem over : Rows.feedIsRow.holds Tryd.pinned (OpenSpec.ofChange Rows.feedIsSpec) :=
  OpenClaim.holds_of_wide 4 Tryd.f4 rfl rfl rfl rfl rfl rfl rfl ⟨rfl, rfl, rfl, rfl, rfl⟩ rfl rfl rfl rfl rfl (by kernel_rfl) Tryd.func4 (by kernel_rfl)
    (of_decide_eq_true (by kernel_rfl)) (by unfold Func.isWrapper; first | (rw [if_pos (by decide +kernel)]; kernel_rfl) | (rw [if_neg (by decide +kernel)]; exact ⟨rfl, rfl⟩))
    (fun os started H enc _ => lifted os started H enc)

/-- THE STATEMENT: the tied card. -/
theorem proved : Rows.FeedIsCardSaid :=
  Claim7.holds_tied_plain_at .later [] [.handle] true (true, "f45a1604785a151641de101bbe54cc07bb79ece424cdf2959cfd764ef295316a") true
    over (fun _ h => by cases h) (by kernel_rfl) (fun _ h => by cases h) feedIs_row_tie rfl ⟨rfl, rfl⟩ (by kernel_rfl) rfl
    (fun f fn hf hfn => by
      obtain rfl : f = 4 := Option.some.inj ((show Tryd.prog.funcNamed "winnowfan/winnowfanlaw3.FeedIs" = some 4 by kernel_rfl).symm.trans hf) |>.symm
      obtain rfl : fn = Tryd.f4 := (Option.some.inj (Tryd.func4.symm.trans hfn)).symm
      exact ⟨by kernel_rfl, fun j t ht => by
        rw [Tryd.params4] at ht
        match j, ht with
        | 0, ht =>
          have e : t = 22 := by simpa using ht.symm
          subst e
          exact (show Tryd.prog.wantsStandIn 22 = false by kernel_rfl)
        | 1, ht =>
          have e : t = 36 := by simpa using ht.symm
          subst e
          exact (show Tryd.prog.wantsStandIn 36 = false by kernel_rfl)
        | j + 2, ht => simp at ht⟩)
    (by kernel_rfl)


end Go.Proofs.YthcahjnniendnabDoor.feedIs
