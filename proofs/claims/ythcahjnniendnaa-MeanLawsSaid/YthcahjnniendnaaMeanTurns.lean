/-
  Proved: winnowfanlaw1.MeanTurns returns true for every pattern, text and two places, and changes nothing that was there. No condition beyond the row's own.
  (The frame behind the walk is the kit's proof-skeleton's.)
-/
import Derived.Test.YthcahjnniendnaaMeanEmpty
import Derived.Test.YthcahjnniendnaaTurned
import Derived.Test.YthcahjnniendnaaOpen
import Derived.Below
import Derived.ChangeOld
import Derived.ShutString
namespace Go.Proofs.Ythcahjnniendnaa.meanTurns
open Go.ChangeShapes Go.WideShapes Go.ChangeAt Go.RowKit Wf
open Go.ChangeMaps (open_string shut_string)
open meanEmpty (own laidOut LawIs mErr_zero)
set_option linter.unusedVariables false

theorem okC_zc : okC zc := by simp [okC, zc]

theorem turn_cls (t : Rx) : (∀ n ∈ flat t, okC n.cls) → ∀ n ∈ flat (turnT t), okC n.cls := by
  induction t with
  | byte c => intro h; exact h
  | empty => intro h; exact h
  | bgn => intro _ n hn; simp [turnT, flat] at hn; subst hn; exact okC_zc
  | fin => intro _ n hn; simp [turnT, flat] at hn; subst hn; exact okC_zc
  | cat a b iha ihb =>
    intro h n hn
    simp only [turnT, flat, List.mem_cons, List.mem_append] at hn h
    rcases hn with rfl | hn | hn
    · exact okC_zc
    · exact ihb (fun m hm => h m (.inr (.inr hm))) n hn
    · exact iha (fun m hm => h m (.inr (.inl hm))) n hn
  | alt a b iha ihb =>
    intro h n hn
    simp only [turnT, flat, List.mem_cons, List.mem_append] at hn h
    rcases hn with rfl | hn | hn
    · exact okC_zc
    · exact iha (fun m hm => h m (.inr (.inl hm))) n hn
    · exact ihb (fun m hm => h m (.inr (.inr hm))) n hn
  | star a ih =>
    intro h n hn
    simp only [turnT, flat, List.mem_cons] at hn h
    rcases hn with rfl | hn
    · exact okC_zc
    · exact ih (fun m hm => h m (.inr hm)) n hn
  | plus a ih =>
    intro h n hn
    simp only [turnT, flat, List.mem_cons] at hn h
    rcases hn with rfl | hn
    · exact okC_zc
    · exact ih (fun m hm => h m (.inr hm)) n hn
  | opt a ih =>
    intro h n hn
    simp only [turnT, flat, List.mem_cons] at hn h
    rcases hn with rfl | hn
    · exact okC_zc
    · exact ih (fun m hm => h m (.inr hm)) n hn

theorem fact_fits (c d : Cls) (hc : c = ofL [97] zc) (hd : d = ofL [98] zc) : Fits (ByteArray.mk #[97, 98]).data.toList (.cat (.byte c) (.byte d)) 0 (ByteArray.mk #[97, 98]).size := by
  subst hc hd
  show Fits [97, 98] _ 0 2
  simp only [Fits]
  refine ⟨1, ⟨rfl, 97, rfl, ?_⟩, rfl, 98, rfl, ?_⟩
  · rw [has_ofL _ _ _ (by decide)]; decide
  · rw [has_ofL _ _ _ (by decide)]; decide

theorem fact_rd (w : World) (B : Nat) (hB : w.heap.size = B) (a0 a1 a2 a3 b0 b1 b2 b3 : Nat) : RdN (w.alloc (.cells #[.int .i64 3, .int .u64 0, .int .u64 0, .int .u64 0, .int .u64 0, .int .i64 1, .int .u64 (a0 : Int), .int .u64 (a1 : Int), .int .u64 (a2 : Int), .int .u64 (a3 : Int), .int .i64 1, .int .u64 (b0 : Int), .int .u64 (b1 : Int), .int .u64 (b2 : Int), .int .u64 (b3 : Int)] 34)) (.slice (some ⟨B, 0, none⟩) 3 3) [⟨3, zc⟩, ⟨1, (a0, a1, a2, a3)⟩, ⟨1, (b0, b1, b2, b3)⟩] := by
  subst hB
  refine ⟨_, 3, 3, rfl, by omega, by omega, rfl, fun _ => ⟨_, 0, rfl, fun j u hu => ?_⟩⟩
  rw [Nat.zero_add, World.cell?_alloc_new, ← hu]
  simp [ndCells, zc]

set_option maxRecDepth 100000 in
set_option maxHeartbeats 16000000 in
theorem walk (l : List Nd) (v : Value) (s : ByteArray) (f g : Int) (w : World) (hr : RdN w v l) (hok : ∀ n ∈ l, okNd n) : Calls Try.prog 8 #[v, .string s, .int .i64 f, .int .i64 g] w (LawIs w) := by
  have hr0 := hr
  obtain ⟨A, cap, rfl, hcap, hcap2, hmem⟩ := hr.open_
  have HR := Lib.hid hr
  have HCLS := Lib.hid (show ∀ n ∈ l, okC n.cls from fun n hn => (hok n hn).2.2)
  clear hr hmem hok hr0
  go_enter Try.func8, Try.ntmps8
  go_wp2_with fail
  refine (Of_any _ _ (by decide)).mono ?_
  rintro e w1 ⟨a0, a1, a2, a3, rfl, ha, hb1⟩
  have HA := Lib.hid ha
  have HB1 := Lib.hid hb1
  clear ha hb1
  go_wp2_with fail
  refine (Of_any _ _ (by decide)).mono ?_
  rintro e w2 ⟨b0, b1, b2, b3, rfl, hb, hb2⟩
  have HBB := Lib.hid hb
  have HB2 := Lib.hid (HB1.out.trans (hb2.mono HB1.out.size))
  have HFF := Lib.hid (fact_fits _ _ HA.out hb)
  have HOK : Hid (∀ n ∈ [⟨3, zc⟩, ⟨1, (a0, a1, a2, a3)⟩, ⟨1, (b0, b1, b2, b3)⟩], okC (Nd.cls n)) := Lib.hid (by
    intro n hn
    simp only [List.mem_cons, List.not_mem_nil, or_false] at hn
    rcases hn with rfl | rfl | rfl
    · exact okC_zc
    · show okC (a0, a1, a2, a3)
      rw [HA.out]; exact okC_ofL _ _ okC_zc
    · show okC (b0, b1, b2, b3)
      rw [hb]; exact okC_ofL _ _ okC_zc)
  clear hb hb2
  go_wp2_with fail
  refine (MYes_ok [⟨3, zc⟩, ⟨1, (a0, a1, a2, a3)⟩, ⟨1, (b0, b1, b2, b3)⟩] (.cat (.byte (a0, a1, a2, a3)) (.byte (b0, b1, b2, b3))) rfl HOK.out _ _ _ (by simp) (fact_rd _ _ (by simp) a0 a1 a2 a3 b0 b1 b2 b3) (by decide)).mono ?_
  rintro e w3 ⟨y, rfl, hy, hb3⟩
  obtain rfl : y = true := hy.2 HFF.out
  have HB3 := Lib.hid ((HB2.out.alloc HB2.out.size _).trans (hb3.mono (Nat.le_trans HB2.out.size (by simp))))
  clear hy hb3
  go_wp2_with fail
  have HSL := Lib.hid (show s.data.toList.length = s.size by simp)
  by_cases hm : mErr l s f = 0
  · obtain ⟨hc, hs, hf0, hf1⟩ := mErr_zero hm
    obtain ⟨hlen, t, ht⟩ := chk_tree hc
    obtain ⟨at_, rfl⟩ : ∃ n : Nat, f = (n : Int) := ⟨f.toNat, by omega⟩
    have hat : at_ ≤ s.size := by omega
    have HT := Lib.hid ht
    have hlen2 : (flat (turnT t)).length ≤ 60 := by rw [turn_len, ← ht]; exact hlen
    have HCT := Lib.hid (turn_cls t (by rw [← ht]; exact HCLS.out))
    clear hm hc ht
    refine (MEnds_ok l t HT.out HCLS.out _ s at_ _ hlen (HR.out.below HB3.out) hs hat).mono ?_
    rintro e w4 ⟨v4, rfl, hv4, hb4⟩
    rw [natVals_ints] at hv4
    have HV4 := Lib.hid (show RdI w4 v4 _ from hv4)
    have HB4 := Lib.hid (HB3.out.trans (hb4.mono HB3.out.size))
    clear hv4 hb4
    go_wp2_with fail
    refine (Turn_ok l t HT.out _ _ hlen (HR.out.below HB4.out)).mono ?_
    rintro e w5 ⟨g5, cap5, rfl, hrd5, hb5⟩
    have HRD5 := Lib.hid hrd5
    have HV5 := Lib.hid (HV4.out.below hb5)
    have HB5 := Lib.hid (HB4.out.trans (hb5.mono HB4.out.size))
    clear hrd5 hb5
    by_cases h1 : g < 0
    · have hd : decide (g < 0) = true := by simp [h1]
      go_wp2_with fail
      go_ret
      exact ⟨rfl, HB5.out⟩
    · by_cases h2 : (s.size : Int) < g
      · have hd : decide (g < 0) = false := by simp; omega
        have hd2 : decide ((s.size : Int) < g) = true := by simp [h2]
        go_wp2_with fail
        go_ret
        exact ⟨rfl, HB5.out⟩
      · obtain ⟨tn, rfl⟩ : ∃ n : Nat, g = (n : Int) := ⟨g.toNat, by omega⟩
        have htn : tn ≤ s.size := by omega
        clear h1 h2
        go_wp2_with fail
        refine (turned_any s hs _).mono ?_
        rintro e w6 ⟨tt, rfl, htt, rfl⟩
        have hts : tt.size = s.size := by
          have : tt.data.toList.length = s.data.toList.length := by rw [htt, List.length_reverse]
          simpa using this
        have HTT := Lib.hid htt
        have e1 : (s.size : Int) - (tn : Int) = ((s.size - tn : Nat) : Int) := by omega
        have e2 : (s.size : Int) - (at_ : Int) = ((s.size - at_ : Nat) : Int) := by omega
        have hback := fits_turn_iff s.data.toList t at_ tn (by rw [HSL.out]; exact hat) (by rw [HSL.out]; exact htn)
        have hall := fits_turn_iff s.data.toList t 0 s.size (by omega) (by rw [HSL.out]; omega)
        rw [HSL.out, ← htt] at hback hall
        rw [Nat.sub_self, Nat.sub_zero] at hall
        have HBK := Lib.hid hback
        have HALL := Lib.hid hall
        have HE1 := Lib.hid e1
        have HE2 := Lib.hid e2
        have HTS := Lib.hid hts
        have hs6 : tt.size ≤ 400 := by omega
        clear htt hback hall e1 e2 hts
        go_wp2_with fail
        rw [HE1.out]
        refine (MEnds_ok (flat (turnT t)) (turnT t) rfl HCT.out _ tt (s.size - tn) _ hlen2 HRD5.out hs6 (by rw [HTS.out]; omega)).mono ?_
        rintro e w7 ⟨v7, rfl, hv7, hb7⟩
        rw [natVals_ints] at hv7
        have HV7 := Lib.hid (show RdI w7 v7 _ from hv7)
        have HRD7 := Lib.hid (HRD5.out.below hb7)
        have HV57 := Lib.hid (HV5.out.below hb7)
        have HB7 := Lib.hid (HB5.out.trans (hb7.mono HB5.out.size))
        clear hv7 hb7
        go_wp2_with fail
        refine (MYes_ok l t HT.out HCLS.out _ s _ hlen (HR.out.below HB7.out) hs).mono ?_
        rintro e w8 ⟨y8, rfl, hy8, hb8⟩
        have HY8 := Lib.hid hy8
        have HRD8 := Lib.hid (HRD7.out.below hb8)
        have HV58 := Lib.hid (HV57.out.below hb8)
        have HV78 := Lib.hid (HV7.out.below hb8)
        have HB8 := Lib.hid (HB7.out.trans (hb8.mono HB7.out.size))
        clear hy8 hb8
        go_wp2_with fail
        refine (MYes_ok (flat (turnT t)) (turnT t) rfl HCT.out _ tt _ hlen2 HRD8.out hs6).mono ?_
        rintro e w9 ⟨y9, rfl, hy9, hb9⟩
        have hyy : y8 = y9 := by
          rw [Bool.eq_iff_iff, HY8.out, hy9, HTS.out]
          exact HALL.out
        subst hyy
        have HV59 := Lib.hid (HV58.out.below hb9)
        have HV79 := Lib.hid (HV78.out.below hb9)
        have HB9 := Lib.hid (HB8.out.trans (hb9.mono HB8.out.size))
        clear hy9 hb9
        go_wp2_with fail
        refine (hasI_any _ (tn : Int) _ _ HV59.out).mono ?_
        rintro e w10 ⟨r10, rfl, hr10, hb10⟩
        have HR10 := Lib.hid hr10
        have HV710 := Lib.hid (HV79.out.below hb10)
        have HB10 := Lib.hid (HB9.out.trans (hb10.mono HB9.out.size))
        clear hr10 hb10
        go_wp2_with fail
        rw [HE2.out]
        refine (hasI_any _ ((s.size - at_ : Nat) : Int) _ _ HV710.out).mono ?_
        rintro e w11 ⟨r11, rfl, hr11, hb11⟩
        have hrr : r10 = r11 := by
          rw [Bool.eq_iff_iff, HR10.out, hr11, mem_toInts, mem_toInts]
          unfold endsL
          rw [upTo_mem, upTo_mem, ← HBK.out, HSL.out]
          have : tt.data.toList.length = s.size := by rw [HTT.out, List.length_reverse, HSL.out]
          rw [this]
          constructor
          · rintro ⟨_, h⟩; exact ⟨by omega, h⟩
          · rintro ⟨_, h⟩; exact ⟨by omega, h⟩
        subst hrr
        have HB11 := Lib.hid (HB10.out.trans (hb11.mono HB10.out.size))
        clear hr11 hb11
        cases r10 <;> cases y8
        all_goals
          go_wp2
          go_ret
          exact ⟨rfl, HB11.out⟩
  · have HN := Lib.hid (MEnds_no l (.slice A l.length cap) s f _ (HR.out.below HB3.out) hm)
    have HE := Lib.hid (errV_ne hm)
    clear hm
    refine HN.out.mono ?_
    rintro e w4 ⟨rfl, hb4⟩
    rw [HE.out]
    have HB4 := Lib.hid (HB3.out.trans (hb4.mono HB3.out.size))
    clear hb4
    by_cases hc : chk l = 0
    · obtain ⟨hlen, t, ht⟩ := chk_tree hc
      have HT := Lib.hid ht
      clear hc ht
      go_wp2_with fail
      refine (Turn_ok l t HT.out _ _ hlen (HR.out.below HB4.out)).mono ?_
      rintro e w5 ⟨g5, cap5, rfl, hrd5, hb5⟩
      have HB5 := Lib.hid (HB4.out.trans (hb5.mono HB4.out.size))
      clear hrd5 hb5
      go_wp2_with fail
      go_ret
      exact ⟨rfl, HB5.out⟩
    · have HC := Lib.hid hc
      have HE2 := Lib.hid (errV_ne hc)
      clear hc
      go_wp2_with fail
      refine (Turn_no l _ _ (HR.out.below HB4.out) HC.out).mono ?_
      rintro e w5 ⟨rfl, hb5⟩
      rw [HE2.out]
      have HB5 := Lib.hid (HB4.out.trans (hb5.mono HB4.out.size))
      clear hb5
      go_wp2_with fail
      go_ret
      exact ⟨rfl, HB5.out⟩

/-! ### THE ROW's STEP -/
set_option maxRecDepth 100000 in
theorem lifted (os : Os) (started : os.Started) (H : Type) (enc : TypeId × Value → H) :
    ReturnsInHanded {} Try.checked os 8 .any (Rows.meanTurnsSpec.pre6 enc Try.prog Try.f8 Rows.meanTurnsRow.domain false) (Rows.meanTurnsSpec.post enc Try.prog Try.f8 false true false false) := by
  refine returnsInHanded_of_change (C := Try.checked) own started (by kernel_rfl) Try.func8
    (ChangeSpec.witness6 (enc := enc) (C := Try.checked) false ⟨#[], #[.slice none 0 0, .string ByteArray.empty, .int .i64 0, .int .i64 0], []⟩ 8 (by kernel_rfl) (by kernel_rfl) (by kernel_rfl) (by kernel_rfl)) ?_
  intro W base args ds gs before hval0 hW hcnd _
  have hval : ∀ (j : Nat) t v, Try.f8.params[j]? = some t → args[j]? = some v → Value.okWide Try.prog W .any base t v := hval0
  have hW' := hW
  obtain ⟨p, q, hA0, hV, rfl, hfz, hnd⟩ := hW
  have hA : DataW.TrodAll enc Try.prog W 0 (fun _ => true) true Try.f8.params.toList args.toList ds p := hA0
  rw [Try.params8] at hA hval
  obtain ⟨v0, vs0, d0, ds0, p0, q0, hargs, rfl, rfl, h0, r0⟩ := trodAll_cons hA
  obtain ⟨v1, vs1, d1, ds1, p1, q1, rfl, rfl, rfl, h1, r1⟩ := trodAll_cons r0
  obtain ⟨v2, vs2, d2, ds2, p2, q2, rfl, rfl, rfl, h2, r2⟩ := trodAll_cons r1
  obtain ⟨v3, vs3, d3, ds3, p3, q3, rfl, rfl, rfl, h3, r3⟩ := trodAll_cons r2
  obtain ⟨rfl, rfl, rfl⟩ := trodAll_nil r3
  obtain rfl : args = #[v0, v1, v2, v3] := by cases args; simp_all
  obtain ⟨rfl, rfl⟩ := trodVars_none hV
  obtain ⟨a0, len0, cap0, rfl⟩ := okWide_slice Try.underlying25 (hval 0 25 v0 rfl rfl)
  have k0 := h0
  have lt0 : ∀ x ∈ p0, x.block < W.heap.size := by obtain ⟨m, hm⟩ := k0; exact DataW.trod_lt m _ _ _ hm
  obtain ⟨z0, w0, ok0⟩ : ∃ l, RdN W (.slice a0 len0 cap0) l ∧ ∀ nd ∈ l, okNd nd := by obtain ⟨fuel, hf⟩ := h0; exact open_nodes (by simpa [Value.cells] using hf)
  have k1 := h1
  have lt1 : ∀ x ∈ p1, x.block < W.heap.size := by obtain ⟨m, hm⟩ := k1; exact DataW.trod_lt m _ _ _ hm
  obtain ⟨s1, rfl, rfl, rfl, ws1⟩ := open_string Try.underlying9 (hval 1 9 v1 rfl rfl) h1
  have k2 := h2
  have lt2 : ∀ x ∈ p2, x.block < W.heap.size := by obtain ⟨m, hm⟩ := k2; exact DataW.trod_lt m _ _ _ hm
  obtain ⟨x2, rfl, rfl, rfl, wx2⟩ := open_int Try.underlying3 (hval 2 3 v2 rfl rfl) h2
  have k3 := h3
  have lt3 : ∀ x ∈ p3, x.block < W.heap.size := by obtain ⟨m, hm⟩ := k3; exact DataW.trod_lt m _ _ _ hm
  obtain ⟨x3, rfl, rfl, rfl, wx3⟩ := open_int Try.underlying3 (hval 3 3 v3 rfl rfl) h3
  clear hA0 hval0
  refine (walk z0 _ s1 x2 x3 W w0 ok0).mono fun e W' ⟨he, bel⟩ => ?_
  subst he
  exact ⟨_, rfl, _, _, _, [], _, [], hW', trodAll_mk1 (shut_bool Try.underlying4 _), (trodAll_cons_mk (Below.trod laidOut (by kernel_rfl) (of_decide_eq_true (by kernel_rfl)) k0 bel lt0) (trodAll_cons_mk (shut_string Try.underlying9 ws1) (trodAll_cons_mk (shut_int Try.underlying3 wx2) (trodAll_cons_mk (shut_int Try.underlying3 wx3) trodAll_mk0)))), rfl, bel.frame _, fun h => by cases h⟩

theorem over : Rows.meanTurnsRow.holds Try.pinned (OpenSpec.ofChange Rows.meanTurnsSpec) :=
  OpenClaim.holds_of_wide 8 Try.f8 rfl rfl rfl rfl rfl rfl rfl ⟨rfl, rfl, rfl, rfl, rfl⟩ rfl rfl rfl rfl rfl (by kernel_rfl) Try.func8 (by kernel_rfl)
    (of_decide_eq_true (by kernel_rfl)) (by unfold Func.isWrapper; first | (rw [if_pos (by decide +kernel)]; kernel_rfl) | (rw [if_neg (by decide +kernel)]; exact ⟨rfl, rfl⟩))
    (fun os started H enc _ => lifted os started H enc)

/-- THE STATEMENT -/
theorem proved : Rows.MeanTurnsSaid := over


end Go.Proofs.Ythcahjnniendnaa.meanTurns
