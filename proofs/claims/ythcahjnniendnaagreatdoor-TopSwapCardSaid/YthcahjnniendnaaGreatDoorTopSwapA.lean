/-
  winnowfantop.TopSwap: the walk.
-/
import Derived.Test.YthcahjnniendnaaGreatDoorAs
import Derived.Test.YthcahjnniendnaaGreatDoorFindE
import Derived.Test.YthcahjnniendnaaGreatDoorOne
import Derived.Test.YthcahjnniendnaaGreatDoorOpen
import Derived.Test.YthcahjnniendnaaGreatDoorPts
import Derived.Test.YthcahjnniendnaaGreatDoorTexts
import Derived.Test.YthcahjnniendnaaGreatDoorWordT
namespace Go.Proofs.YthcahjnniendnaaGreatDoor.topSwap
open Go.RowKit Wf
open law (own laidOut LawIs)
open wordT (word_c WordIs)
set_option linter.unusedVariables false

theorem letter {s : ByteArray} {j : Nat} (h : j < s.size) : s.data.toList[j]? = some s[j] := by
  rw [List.getElem?_eq_getElem (by simpa using h)]
  rfl
theorem take_letter {s : ByteArray} {k : Nat} (h : k < s.size) : s.data.toList.take (k + 1) = s.data.toList.take k ++ [s[k]] := take_more (letter h)

set_option maxRecDepth 100000 in
set_option maxHeartbeats 16000000 in
theorem walk {ev : Value} (l : List Nd) (v : Value) (s : ByteArray) (w : World) (hr : RdN w v l) (hok : ∀ n ∈ l, okNd n) (hs : s.size ≤ maxLen) (hg : ErrT w) (hev : SynE ev w) :
    Calls Tryz.prog 3 #[v, .string s] w (LawIs w) := by
  have hokc : ∀ n ∈ l, okC n.cls := fun n hn => (hok n hn).2.2
  unfold maxLen at hs
  obtain ⟨t, ht⟩ := tree_of l
  have HONE := Lib.hid (One_c w hev)
  unfold LawIs at HONE
  have HAL := Lib.hid (fun W h => all_any l t ht hokc s hs v W h)
  unfold AllAny at HAL
  have HR := Lib.hid hr
  have HG := Lib.hid hg
  clear hev
  by_cases hcf : chkF l s.size = 0
  · obtain ⟨hc2, hs4⟩ := chkF_zero hcf
    have hlen := (chk_tree hc2).1
    have htt := ht hc2
    have har : allR l t s = (0, spansO s.data.toList t 0) := by unfold allR; rw [if_neg (by simp [hcf])]
    rw [har] at HAL
    have HSP := Lib.hid (fun W h => split_ok l t htt hlen hokc s hs4 v W h)
    have HRE := Lib.hid (fun W h => repl_any l t htt hlen hokc s ⟨#[1]⟩ hs4 (by decide) v W h)
    unfold SplitIs at HSP
    unfold ReplIs ReplNo at HRE
    have hck : chkSw l s ⟨#[1]⟩ (spansO s.data.toList t 0) = 0 → (swapL s ⟨#[1]⟩ (spansO s.data.toList t 0)).length ≤ 400 := fun h => by
      unfold chkSw at h
      rw [if_neg (by simp [hcf]), if_neg (by decide)] at h
      split at h
      · cases h
      · omega
    have HCK := Lib.hid hck
    generalize spansO s.data.toList t 0 = sp at *
    dsimp only at HAL
    rw [errV_zero] at HAL
    clear hr hg hok hokc ht htt hcf hc2 har hck
    go_enter Tryz.func3, Tryz.ntmps3
    go_wp2_with fail
    refine HONE.out.mono ?_
    rintro e w1 ⟨rfl, hb1⟩
    have HB1 := Lib.hid hb1
    clear hb1 HONE
    go_wp2_with fail
    refine (HAL.out w1 (HR.out.below HB1.out)).mono ?_
    rintro e w2 ⟨A2, cap2, rfl, hrd2, hb2⟩
    have HB2 := Lib.hid (HB1.out.trans (hb2.mono HB1.out.size))
    clear hrd2 hb2 HAL
    go_wp2_with fail
    go_loopw [8] (fun v8 wr => ∃ k : Nat, k ≤ s.size ∧ v8 = .int .i64 (k : Int) ∧ Hid ((1 : UInt8) ∉ s.data.toList.take k) ∧ w2 = wr) (fun i _ => s.size - (intOf i).toNat)
    case atStart => exact ⟨0, by omega, rfl, Lib.hid (by simp), rfl⟩
    case round =>
      obtain ⟨k, hk, rfl, HN, rfl⟩ := hrel
      by_cases hlt : k < s.size
      · by_cases h1 : s[k] = 1
        · have e1 : ((s[k].toNat : Int) == 1) = true := by rw [h1]; rfl
          clear h1
          go_wp2_with fail
          go_ret
          exact ⟨rfl, HB2.out⟩
        · have e1 : ((s[k].toNat : Int) == 1) = false := by
            have : s[k].toNat ≠ 1 := fun h => h1 (UInt8.toNat_inj.1 h)
            rw [beq_eq_false_iff_ne]
            omega
          have HN1 : Hid ((1 : UInt8) ∉ s.data.toList.take (k + 1)) := Lib.hid (by
            rw [take_letter hlt]
            intro hm
            rcases List.mem_append.1 hm with hm | hm
            · exact HN.out hm
            · exact h1 (List.mem_singleton.1 hm).symm)
          clear h1
          go_wp2_with fail
          exact ⟨⟨k + 1, by omega, by go_num, HN1, trivial⟩, by simp [intOf]; omega⟩
      · obtain rfl : k = s.size := by omega
        have HNO : Hid ((1 : UInt8) ∉ s.data.toList) := Lib.hid (by
          have := HN.out
          rwa [List.take_of_length_le (by simp)] at this)
        clear HN
        go_wp2_with fail
        refine (HRE.out w2 (HR.out.below HB2.out)).mono ?_
        rintro e w3 (⟨hc, rfl, hb3⟩ | ⟨hc, rfl, hb3⟩)
        · have HB3 := Lib.hid (HB2.out.trans (hb3.mono HB2.out.size))
          have hT4 := HCK.out hc
          obtain ⟨T, hT⟩ : ∃ T : ByteArray, T = ⟨(swapL s ⟨#[1]⟩ sp).toArray⟩ := ⟨_, rfl⟩
          have hTl : T.data.toList = Go.Lib.join ((piecesB s sp).map (·.data.toList)) [1] := by rw [hT]; rfl
          have hTs : T.size ≤ 400 := by
            have : T.size = T.data.toList.length := by simp
            rw [this, hT]
            exact hT4
          have HNP := Lib.hid (pieces_no HNO.out sp)
          have hpj := pieces_join (b := 1) (tx := T) (pieces_ne s sp) hTl HNP.out
          have hcnt := count_join (b := (1 : UInt8)) (xs := (piecesB s sp).map (·.data.toList)) (by intro h; exact pieces_ne s sp (List.map_eq_nil_iff.1 h)) (by
            intro x hx
            obtain ⟨y, hy, rfl⟩ := List.mem_map.1 hx
            exact HNP.out y hy)
          rw [← hTl, List.length_map, piecesB_len] at hcnt
          have HCN : Hid (T.data.toList.count 1 = sp.length) := Lib.hid (by omega)
          have HS2 := Lib.hid (fun (L : List Nd) (hL : L = [⟨1, ofL [1] zc⟩]) v' W h => split_ok L (oneT 1) hL (by rw [hL]; simp) (by
            intro n hn
            rw [hL] at hn
            rw [List.mem_singleton.1 hn]
            exact okC_ofL _ _ okC_zc) T hTs v' W h)
          rw [hpj] at HS2
          unfold SplitIs at HS2
          obtain ⟨N, hN⟩ : ∃ N, N = sp.length := ⟨_, rfl⟩
          have hN4 : sp.length ≤ 100000 := by
            have h1 := hcnt
            have h2 := List.count_le_length (a := (1 : UInt8)) (l := T.data.toList)
            have h3 : T.data.toList.length = T.size := by simp
            omega
          generalize piecesB s sp = pc at *
          rw [← hT]
          clear hT hTl hT4 hpj hcnt hc hb3 HRE HNP
          go_wp2_with fail
          go_loopw [10, 11] (fun v10 v11 wr => ∃ k : Nat, k ≤ T.size ∧ v11 = .int .i64 (k : Int) ∧ v10 = .int .i64 ((T.data.toList.take k).count 1 : Int) ∧ w3 = wr) (fun _ i _ => T.size - (intOf i).toNat)
          case atStart => exact ⟨0, by omega, rfl, by simp, rfl⟩
          case round =>
            obtain ⟨k, hk, rfl, rfl, rfl⟩ := hrel
            by_cases hlt : k < T.size
            · have hcl : (T.data.toList.take k).count 1 ≤ 400 := by
                have h2 := List.count_le_length (a := (1 : UInt8)) (l := T.data.toList.take k)
                rw [List.length_take] at h2
                omega
              by_cases h1 : T[k] = 1
              · have e1 : ((T[k].toNat : Int) == 1) = true := by rw [h1]; rfl
                have hc1 : (T.data.toList.take (k + 1)).count 1 = (T.data.toList.take k).count 1 + 1 := by rw [take_letter hlt, List.count_append, h1]; rfl
                generalize (T.data.toList.take k).count 1 = c at *
                clear h1
                go_wp2_with fail
                refine ⟨⟨k + 1, by omega, by go_num, by rw [hc1]; go_num, trivial⟩, by simp [intOf]; omega⟩
              · have e1 : ((T[k].toNat : Int) == 1) = false := by
                  have : T[k].toNat ≠ 1 := fun h => h1 (UInt8.toNat_inj.1 h)
                  rw [beq_eq_false_iff_ne]
                  omega
                have hc1 : (T.data.toList.take (k + 1)).count 1 = (T.data.toList.take k).count 1 := by
                  rw [take_letter hlt, List.count_append]
                  have : List.count 1 [T[k]] = 0 := List.count_eq_zero.2 (fun hm => h1 (List.mem_singleton.1 hm).symm)
                  rw [this]
                  rfl
                generalize (T.data.toList.take k).count 1 = c at *
                clear h1
                go_wp2_with fail
                refine ⟨⟨k + 1, by omega, by go_num, by rw [hc1], trivial⟩, by simp [intOf]; omega⟩
            · obtain rfl : k = T.size := by omega
              have hcT : (T.data.toList.take T.size).count 1 = sp.length := by rw [List.take_of_length_le (by simp)]; exact HCN.out
              rw [hcT]
              clear hcT
              go_wp2_with fail
              refine (HSP.out w3 (HR.out.below HB3.out)).mono ?_
              rintro e w4 ⟨g4, cap4, rfl, ho4, hb4⟩
              have HB4 := Lib.hid (HB3.out.trans (hb4.mono HB3.out.size))
              have HO4 := Lib.hid (Rd.of_own ho4)
              clear ho4 hb4
              go_wp2_with fail
              refine (word_c ⟨#[1]⟩ w4 (by decide)).mono ?_
              rintro e w5 ⟨A5, cap5, rfl, ho5, hb5⟩
              have HB5 := Lib.hid (HB4.out.trans (hb5.mono HB4.out.size))
              have HO5 := Lib.hid (HO4.out.below hb5)
              have HS5 := Lib.hid (HS2.out _ rfl _ w5 (Rd.of_own ho5))
              clear ho5 hb5 HS2
              go_wp2_with fail
              refine HS5.out.mono ?_
              rintro e w6 ⟨g6, cap6, rfl, ho6, hb6⟩
              have HB6 := Lib.hid (HB5.out.trans (hb6.mono HB5.out.size))
              have HO6 := Lib.hid (HO5.out.below hb6)
              have HP6 := Lib.hid (Rd.of_own ho6)
              clear ho6 hb6 HS5
              go_wp2_with fail
              refine (Texts_same pc _ _ _ HO6.out HP6.out).mono ?_
              rintro e w7 ⟨rfl, hb7⟩
              have HB7 := Lib.hid (HB6.out.trans (hb7.mono HB6.out.size))
              clear hb7
              go_wp2_with fail
              go_ret
              exact ⟨rfl, HB7.out⟩
        · have HB3 := Lib.hid (HB2.out.trans (hb3.mono HB2.out.size))
          have HSE := Lib.hid (SErr_any 3 3 w3 (HG.out.below HB3.out))
          rw [errV_ne (by decide)]
          rw [errV_ne (by decide)] at HSE
          clear hc hb3 HRE
          go_wp2_with fail
          refine HSE.out.mono ?_
          rintro e w4 ⟨r4, rfl, hr4, hb4⟩
          obtain rfl : r4 = true := hr4.2 rfl
          have HB4 := Lib.hid (HB3.out.trans (hb4.mono HB3.out.size))
          clear hb4 hr4
          go_wp2_with fail
          go_ret
          exact ⟨rfl, HB4.out⟩
  · have har : allR l t s = (chkF l s.size, []) := by unfold allR; rw [if_pos hcf]
    rw [har] at HAL
    dsimp only at HAL
    rw [errV_ne hcf] at HAL
    clear hr hg hok hokc ht hcf har
    go_enter Tryz.func3, Tryz.ntmps3
    go_wp2_with fail
    refine HONE.out.mono ?_
    rintro e w1 ⟨rfl, hb1⟩
    have HB1 := Lib.hid hb1
    clear hb1 HONE
    go_wp2_with fail
    refine (HAL.out w1 (HR.out.below HB1.out)).mono ?_
    rintro e w2 ⟨A2, cap2, rfl, hrd2, hb2⟩
    have HB2 := Lib.hid (HB1.out.trans (hb2.mono HB1.out.size))
    clear hrd2 hb2 HAL
    go_wp2_with fail
    go_ret
    exact ⟨rfl, HB2.out⟩
end Go.Proofs.YthcahjnniendnaaGreatDoor.topSwap
