/-
  winnowfantop.TopTurn: the walk.
-/
import Derived.Test.YthcahjnniendnabGreatDoorAs
import Derived.Test.YthcahjnniendnabGreatDoorFindE
import Derived.Test.YthcahjnniendnabGreatDoorGPh
import Derived.Test.YthcahjnniendnabGreatDoorOne
import Derived.Test.YthcahjnniendnabGreatDoorOpen
import Derived.Test.YthcahjnniendnabGreatDoorTurn
namespace Go.Proofs.YthcahjnniendnabGreatDoor.topTurn
open Go.RowKit Wf
open law (own laidOut LawIs)
set_option linter.unusedVariables false

theorem turn_cls (t : Rx) : (∀ n ∈ flat t, okC n.cls) → ∀ n ∈ flat (turnT t), okC n.cls := by
  induction t with
  | byte c => intro h; exact h
  | empty => intro h; exact h
  | bgn => intro _ n hn; simp [turnT, flat] at hn; subst hn; exact okC_zc
  | fin => intro _ n hn; simp [turnT, flat] at hn; subst hn; exact okC_zc
  | cat a b iha ihb =>
    intro h n hn
    simp only [turnT, flat, List.mem_cons, List.mem_append] at hn h
    rcases hn with rfl | hn | hn
    · exact okC_zc
    · exact ihb (fun m hm => h m (.inr (.inr hm))) n hn
    · exact iha (fun m hm => h m (.inr (.inl hm))) n hn
  | alt a b iha ihb =>
    intro h n hn
    simp only [turnT, flat, List.mem_cons, List.mem_append] at hn h
    rcases hn with rfl | hn | hn
    · exact okC_zc
    · exact iha (fun m hm => h m (.inr (.inl hm))) n hn
    · exact ihb (fun m hm => h m (.inr (.inr hm))) n hn
  | star a ih =>
    intro h n hn
    simp only [turnT, flat, List.mem_cons] at hn h
    rcases hn with rfl | hn
    · exact okC_zc
    · exact ih (fun m hm => h m (.inr hm)) n hn
  | plus a ih =>
    intro h n hn
    simp only [turnT, flat, List.mem_cons] at hn h
    rcases hn with rfl | hn
    · exact okC_zc
    · exact ih (fun m hm => h m (.inr hm)) n hn
  | opt a ih =>
    intro h n hn
    simp only [turnT, flat, List.mem_cons] at hn h
    rcases hn with rfl | hn
    · exact okC_zc
    · exact ih (fun m hm => h m (.inr hm)) n hn


theorem letter {s : ByteArray} {j : Nat} (h : j < s.size) : s.data.toList[j]? = some s[j] := by
  rw [List.getElem?_eq_getElem (by simpa using h)]
  rfl

set_option maxRecDepth 100000 in
set_option maxHeartbeats 16000000 in
theorem walk {ev : Value} (l : List Nd) (v : Value) (s : ByteArray) (w : World) (hr : RdN w v l) (hok : ∀ n ∈ l, okNd n) (hs : s.size ≤ maxLen) (hg : ErrT w) (hev : SynE ev w) :
    Calls Tryz.prog 3 #[v, .string s] w (LawIs w) := by
  have hokc : ∀ n ∈ l, okC n.cls := fun n hn => (hok n hn).2.2
  unfold maxLen at hs
  obtain ⟨t, ht⟩ := tree_of l
  have HONE := Lib.hid (One_c w hev)
  unfold LawIs at HONE
  have HFI := Lib.hid (fun W h => find_any l t ht hokc s hs 0 v W h)
  unfold FindAny at HFI
  have HR := Lib.hid hr
  have HG := Lib.hid hg
  have HS4 := Lib.hid (fun n W h => SErr_any n 4 W h)
  clear hev
  by_cases hcf : chkFd l s.size 0 = 0
  · obtain ⟨hc1, _, _⟩ := chkFd_zero hcf
    obtain ⟨hc2, hs4⟩ := chkF_zero hc1
    have hlen := (chk_tree hc2).1
    have htt := ht hc2
    have HTU := Lib.hid (fun W h => Turn_ok l t htt v W hlen h)
    unfold TurnIs at HTU
    have hq0 : chk (flat (turnT t)) = 0 := chk_flat _ (by rw [turn_len, ← htt]; exact hlen)
    have hqc := turn_cls t (by rw [← htt]; exact hokc)
    have hfr : findR l t s 0 = match foundO s.data.toList t 0 with | some (x, y) => (0, x, y) | none => (4, 0, 0) := by
      unfold findR
      rw [if_neg (by simp [hcf])]
      rfl
    have hft := found_turn s.data.toList t
    have hfq : ∀ T : ByteArray, T.data.toList = s.data.toList.reverse → (findR (flat (turnT t)) (turnT t) T 0).1 = if foundO s.data.toList t 0 = none then 4 else 0 := by
      intro T hT
      have hTs : T.size = s.size := by
        have e1 : T.size = T.data.toList.length := by simp
        have e2 : s.size = s.data.toList.length := by simp
        rw [e1, e2, hT, List.length_reverse]
      have hc0 : chkFd (flat (turnT t)) T.size 0 = 0 := by
        unfold chkFd chkF
        rw [hq0, hTs]
        rw [if_neg (by simp; omega), if_neg (by omega)]
      unfold findR
      rw [if_neg (by simp [hc0]), hT]
      show Prod.fst (match foundO s.data.toList.reverse (turnT t) 0 with | some (x, y) => ((0 : Int), x, y) | none => (4, 0, 0)) = _
      cases hf : foundO s.data.toList.reverse (turnT t) 0 with
      | none => rw [if_pos (hft.1 hf)]
      | some p => rw [if_neg (fun h => by rw [hft.2 h] at hf; cases hf)]
    have HFQ := Lib.hid hfq
    have HFB := Lib.hid (fun (T : ByteArray) (hT : T.size ≤ 400) v' W h => find_any (flat (turnT t)) (turnT t) (fun _ => rfl) hqc T (by omega) 0 v' W h)
    unfold FindAny at HFB
    rw [hfr] at HFI
    have HSZ : Hid (s.data.toList.length = s.size) := Lib.hid (by simp)
    generalize hQ : flat (turnT t) = Q at *
    generalize turnT t = tq at *
    clear hr hg hok hokc ht htt hcf hc1 hc2 hq0 hqc hfr hft hfq hQ
    cases hfo : foundO s.data.toList t 0 with
    | some p =>
      obtain ⟨x, y⟩ := p
      rw [hfo] at HFI HFQ
      rw [if_neg (by simp)] at HFQ
      dsimp only at HFI
      rw [errV_zero] at HFI
      clear hfo
      go_enter Tryz.func3, Tryz.ntmps3
      go_wp2_with fail
      refine HONE.out.mono ?_
      rintro e w1 ⟨rfl, hb1⟩
      have HB1 := Lib.hid hb1
      clear hb1 HONE
      go_wp2_with fail
      refine (HFI.out w1 (HR.out.below HB1.out)).mono ?_
      rintro e w2 ⟨rfl, hb2⟩
      have HB2 := Lib.hid (HB1.out.trans (hb2.mono HB1.out.size))
      have HB2a := Lib.hid (HB2.out.alloc HB2.out.size (.cells #[.int .i64 (x : Int), .int .i64 (y : Int)] 25))
      have HS0 := Lib.hid (HS4.out 0 _ (HG.out.below HB2a.out))
      rw [errV_zero] at HS0
      clear hb2 HFI
      go_wp2_with fail
      refine HS0.out.mono ?_
      rintro e w3 ⟨r3, rfl, hr3, hb3⟩
      obtain rfl : r3 = false := by
        cases r3 with
        | false => rfl
        | true => exact absurd (hr3.1 rfl) (by decide)
      have HB3 := Lib.hid (HB2a.out.trans (hb3.mono HB2a.out.size))
      clear hb3 hr3 HS0
      go_wp2_with fail
      refine (HTU.out w3 (HR.out.below HB3.out)).mono ?_
      rintro e w4 ⟨g4, cap4, rfl, hrd4, hb4⟩
      have HB4 := Lib.hid (HB3.out.trans (hb4.mono HB3.out.size))
      have HQ4 := Lib.hid hrd4
      clear hrd4 hb4 HTU
      go_wp2_with fail
      go_loopw [11, 12] (fun v11 v12 wr => ∃ (k : Nat) (T : ByteArray), k ≤ s.size ∧ v12 = .int .i64 ((k : Int) - 1) ∧ v11 = .string T ∧ Hid (T.data.toList = (s.data.toList.drop k).reverse) ∧ T.size = s.size - k ∧ w4 = wr) (fun _ i _ => (intOf i + 1).toNat)
      case atStart => exact ⟨s.size, ByteArray.mk #[], by omega, rfl, rfl, Lib.hid (by rw [List.drop_of_length_le (by simp)]; rfl), by show 0 = _; omega, rfl⟩
      case round =>
        obtain ⟨k, T, hk, rfl, rfl, HT, hsz, rfl⟩ := hrel
        rcases k with _ | k
        · have HTR : Hid (T.data.toList = s.data.toList.reverse) := Lib.hid (by simpa using HT.out)
          have hT4 : T.size ≤ 400 := by omega
          have HF4 := Lib.hid (HFB.out T hT4 _ w4 HQ4.out)
          have hfe := HFQ.out T HTR.out
          generalize findR Q tq T 0 = R at *
          obtain ⟨c9, x9, y9⟩ := R
          have hfe2 : c9 = 0 := hfe
          subst hfe2
          dsimp only at HF4
          rw [errV_zero] at HF4
          clear hfe HFB HFQ
          go_wp2_with fail
          refine HF4.out.mono ?_
          rintro e w5 ⟨rfl, hb5⟩
          have HB5 := Lib.hid (HB4.out.trans (hb5.mono HB4.out.size))
          have HB5a := Lib.hid (HB5.out.alloc HB5.out.size (.cells #[.int .i64 (x9 : Int), .int .i64 (y9 : Int)] 25))
          have HS0 := Lib.hid (HS4.out 0 _ (HG.out.below HB5a.out))
          rw [errV_zero] at HS0
          clear hb5 HF4
          go_wp2_with fail
          refine HS0.out.mono ?_
          rintro e w7 ⟨r7, rfl, hr7, hb7⟩
          obtain rfl : r7 = false := by
            cases r7 with
            | false => rfl
            | true => exact absurd (hr7.1 rfl) (by decide)
          have HB7 := Lib.hid (HB5a.out.trans (hb7.mono HB5a.out.size))
          clear hb7 hr7
          go_wp2_with fail
          go_ret
          exact ⟨rfl, HB7.out⟩
        · have hlt : k < s.data.toList.length := by rw [HSZ.out]; omega
          have hex : (s.extract k (k + 1)).data.toList = [s.data.toList[k]] := by
            rw [ByteArray.data_extract, Array.toList_extract, List.extract_eq_take_drop, List.drop_eq_getElem_cons hlt, show k + 1 - k = 1 from by omega]
            rfl
          have hT1 : (T ++ s.extract k (k + 1)).data.toList = (s.data.toList.drop k).reverse := by
            rw [ByteArray.data_append, Array.toList_append, hex, HT.out, List.drop_eq_getElem_cons hlt, List.reverse_cons]
          have hT2 : (T ++ s.extract k (k + 1)).size = s.size - k := by
            rw [ByteArray.size_append, ByteArray.size_extract]
            omega
          have HT1 := Lib.hid hT1
          have HT2 := Lib.hid hT2
          clear hex hT1 hT2 hlt
          go_wp2_with fail
          refine ⟨⟨k, T ++ s.extract k (k + 1), by omega, rfl, rfl, HT1, HT2.out, trivial⟩, by simp [intOf]⟩
    | none =>
      rw [hfo] at HFI HFQ
      rw [if_pos rfl] at HFQ
      dsimp only at HFI
      rw [errV_ne (by decide)] at HFI
      clear hfo
      go_enter Tryz.func3, Tryz.ntmps3
      go_wp2_with fail
      refine HONE.out.mono ?_
      rintro e w1 ⟨rfl, hb1⟩
      have HB1 := Lib.hid hb1
      clear hb1 HONE
      go_wp2_with fail
      refine (HFI.out w1 (HR.out.below HB1.out)).mono ?_
      rintro e w2 ⟨rfl, hb2⟩
      have HB2 := Lib.hid (HB1.out.trans (hb2.mono HB1.out.size))
      have HB2a := Lib.hid (HB2.out.alloc HB2.out.size (.cells #[.int .i64 0, .int .i64 0] 25))
      have HS0 := Lib.hid (HS4.out 4 _ (HG.out.below HB2a.out))
      rw [errV_ne (by decide)] at HS0
      clear hb2 HFI
      go_wp2_with fail
      refine HS0.out.mono ?_
      rintro e w3 ⟨r3, rfl, hr3, hb3⟩
      obtain rfl : r3 = true := hr3.2 rfl
      have HB3 := Lib.hid (HB2a.out.trans (hb3.mono HB2a.out.size))
      clear hb3 hr3 HS0
      go_wp2_with fail
      refine (HTU.out w3 (HR.out.below HB3.out)).mono ?_
      rintro e w4 ⟨g4, cap4, rfl, hrd4, hb4⟩
      have HB4 := Lib.hid (HB3.out.trans (hb4.mono HB3.out.size))
      have HQ4 := Lib.hid hrd4
      clear hrd4 hb4 HTU
      go_wp2_with fail
      go_loopw [11, 12] (fun v11 v12 wr => ∃ (k : Nat) (T : ByteArray), k ≤ s.size ∧ v12 = .int .i64 ((k : Int) - 1) ∧ v11 = .string T ∧ Hid (T.data.toList = (s.data.toList.drop k).reverse) ∧ T.size = s.size - k ∧ w4 = wr) (fun _ i _ => (intOf i + 1).toNat)
      case atStart => exact ⟨s.size, ByteArray.mk #[], by omega, rfl, rfl, Lib.hid (by rw [List.drop_of_length_le (by simp)]; rfl), by show 0 = _; omega, rfl⟩
      case round =>
        obtain ⟨k, T, hk, rfl, rfl, HT, hsz, rfl⟩ := hrel
        rcases k with _ | k
        · have HTR : Hid (T.data.toList = s.data.toList.reverse) := Lib.hid (by simpa using HT.out)
          have hT4 : T.size ≤ 400 := by omega
          have HF4 := Lib.hid (HFB.out T hT4 _ w4 HQ4.out)
          have hfe := HFQ.out T HTR.out
          generalize findR Q tq T 0 = R at *
          obtain ⟨c9, x9, y9⟩ := R
          have hfe2 : c9 = 4 := hfe
          subst hfe2
          dsimp only at HF4
          rw [errV_ne (by decide)] at HF4
          clear hfe HFB HFQ
          go_wp2_with fail
          refine HF4.out.mono ?_
          rintro e w5 ⟨rfl, hb5⟩
          have HB5 := Lib.hid (HB4.out.trans (hb5.mono HB4.out.size))
          have HB5a := Lib.hid (HB5.out.alloc HB5.out.size (.cells #[.int .i64 (x9 : Int), .int .i64 (y9 : Int)] 25))
          have HS0 := Lib.hid (HS4.out 4 _ (HG.out.below HB5a.out))
          rw [errV_ne (by decide)] at HS0
          clear hb5 HF4
          go_wp2_with fail
          refine HS0.out.mono ?_
          rintro e w7 ⟨r7, rfl, hr7, hb7⟩
          obtain rfl : r7 = true := hr7.2 rfl
          have HB7 := Lib.hid (HB5a.out.trans (hb7.mono HB5a.out.size))
          clear hb7 hr7
          go_wp2_with fail
          go_ret
          exact ⟨rfl, HB7.out⟩
        · have hlt : k < s.data.toList.length := by rw [HSZ.out]; omega
          have hex : (s.extract k (k + 1)).data.toList = [s.data.toList[k]] := by
            rw [ByteArray.data_extract, Array.toList_extract, List.extract_eq_take_drop, List.drop_eq_getElem_cons hlt, show k + 1 - k = 1 from by omega]
            rfl
          have hT1 : (T ++ s.extract k (k + 1)).data.toList = (s.data.toList.drop k).reverse := by
            rw [ByteArray.data_append, Array.toList_append, hex, HT.out, List.drop_eq_getElem_cons hlt, List.reverse_cons]
          have hT2 : (T ++ s.extract k (k + 1)).size = s.size - k := by
            rw [ByteArray.size_append, ByteArray.size_extract]
            omega
          have HT1 := Lib.hid hT1
          have HT2 := Lib.hid hT2
          clear hex hT1 hT2 hlt
          go_wp2_with fail
          refine ⟨⟨k, T ++ s.extract k (k + 1), by omega, rfl, rfl, HT1, HT2.out, trivial⟩, by simp [intOf]⟩
  · have hfr : findR l t s 0 = (chkFd l s.size 0, 0, 0) := by unfold findR; rw [if_pos hcf]
    have h4 := chkFd_lt l s.size 0
    rw [hfr] at HFI
    dsimp only at HFI
    rw [errV_ne hcf] at HFI
    have HS5 := Lib.hid (fun W h => SErr_any (chkFd l s.size 0) 4 W h)
    rw [errV_ne hcf] at HS5
    clear hr hg hok hokc ht hcf hfr
    generalize chkFd l s.size 0 = c at *
    go_enter Tryz.func3, Tryz.ntmps3
    go_wp2_with fail
    refine HONE.out.mono ?_
    rintro e w1 ⟨rfl, hb1⟩
    have HB1 := Lib.hid hb1
    clear hb1 HONE
    go_wp2_with fail
    refine (HFI.out w1 (HR.out.below HB1.out)).mono ?_
    rintro e w2 ⟨rfl, hb2⟩
    have HB2 := Lib.hid (HB1.out.trans (hb2.mono HB1.out.size))
    have HB2a := Lib.hid (HB2.out.alloc HB2.out.size (.cells #[.int .i64 0, .int .i64 0] 25))
    clear hb2 HFI
    go_wp2_with fail
    refine (HS5.out _ (HG.out.below HB2a.out)).mono ?_
    rintro e w3 ⟨r3, rfl, hr3, hb3⟩
    obtain rfl : r3 = false := by
      cases r3 with
      | false => rfl
      | true => exact absurd (hr3.1 rfl) h4
    have HB3 := Lib.hid (HB2a.out.trans (hb3.mono HB2a.out.size))
    clear hb3 hr3
    go_wp2_with fail
    go_ret
    exact ⟨rfl, HB3.out⟩
end Go.Proofs.YthcahjnniendnabGreatDoor.topTurn
