/-
  Proved: winnowfanlaw2.LitStands returns true for every pattern, text and place, and changes nothing that was there. No condition beyond the row's own.
  (The frame behind the walk is the kit's proof-skeleton's.)
-/
import Derived.Test.YthcahjnniendnaaMeanEmpty
import Derived.Test.YthcahjnniendnaaLit
import Derived.Lib.SlicesS
namespace Go.Proofs.Ythcahjnniendnaa.litStands
open Go.ChangeShapes Go.WideShapes Go.ChangeAt Go.RowKit Wf
open Go.ChangeMaps (open_string shut_string)
open meanEmpty (own laidOut LawIs mErr_zero)
set_option linter.unusedVariables false

theorem fact_rd (w : World) (B : Nat) (hB : w.heap.size = B) (a0 a1 a2 a3 b0 b1 b2 b3 : Nat) : RdN (w.alloc (.cells #[.int .i64 3, .int .u64 0, .int .u64 0, .int .u64 0, .int .u64 0, .int .i64 1, .int .u64 (a0 : Int), .int .u64 (a1 : Int), .int .u64 (a2 : Int), .int .u64 (a3 : Int), .int .i64 5, .int .u64 0, .int .u64 0, .int .u64 0, .int .u64 0, .int .i64 1, .int .u64 (b0 : Int), .int .u64 (b1 : Int), .int .u64 (b2 : Int), .int .u64 (b3 : Int)] 34)) (.slice (some ⟨B, 0, none⟩) 4 4) [⟨3, zc⟩, ⟨1, (a0, a1, a2, a3)⟩, ⟨5, zc⟩, ⟨1, (b0, b1, b2, b3)⟩] := by
  subst hB
  refine ⟨_, 4, 4, rfl, by omega, by omega, rfl, fun _ => ⟨_, 0, rfl, fun j u hu => ?_⟩⟩
  rw [Nat.zero_add, World.cell?_alloc_new, ← hu]
  simp [ndCells, zc]

theorem bytes_ext {s t : ByteArray} (h : s.data.toList = t.data.toList) : s = t := by
  cases s; cases t
  simp at h
  simp [h]

theorem fact_lit (a b : Cls) (ha : a = ofL [97] zc) : (litL (.cat (.byte a) (.star (.byte b)))).1 = [97] := by
  have h : ∀ x : Fin 256, (has (ofL [97] zc) x.val = true ↔ x.val = 97) := by decide +kernel
  have h1 : ∀ x, x < 256 → (has a x = true ↔ x = 97) := fun x hx => by rw [ha]; exact h ⟨x, hx⟩
  have hc := one_cnt (c := a) (b := 97) (by omega) h1
  have hl := least_of (c := a) (b := 97) (x := 0) (by omega) (by omega) h1
  simp only [litL, if_pos hc, hl, catL]
  rfl

theorem ext_list (t : ByteArray) (a b : Nat) : (t.extract a b).data.toList = sub t.data.toList a b := by
  unfold sub
  simp [List.take_drop]
theorem beq_yes {x y : ByteArray} (h : x = y) : (x.toList == y.toList) = true := (Lib.bytes_beq_iff x y).2 h
theorem beq_no {x y : ByteArray} (h : x ≠ y) : (x.toList == y.toList) = false := by
  cases hh : (x.toList == y.toList) with
  | false => rfl
  | true => exact absurd ((Lib.bytes_beq_iff x y).1 hh) h

def StandsIs (s : ByteArray) (at_ : Nat) (p : ByteArray) (w : World) (e : Ending) (w' : World) : Prop := ∃ r : Bool, e = .returned (.bool r) ∧ (r = true ↔ at_ + p.size ≤ s.size ∧ s.extract at_ (at_ + p.size) = p) ∧ w = w'
set_option maxRecDepth 100000 in
set_option maxHeartbeats 1000000 in
theorem Stands_any (s p : ByteArray) (at_ : Nat) (w : World) (hs : s.size ≤ 400) (hat : at_ ≤ 400) (hp : p.size ≤ 400) : Calls Try.prog 32 #[.string s, .int .i64 (at_ : Int), .string p] w (StandsIs s at_ p w) := by
  have i0 : (0 : Int) ≤ (at_ : Int) := by omega
  have d0 : decide ((0 : Int) ≤ (at_ : Int)) = true := by simp
  have hwr : IntKind.i64.wrap ((at_ : Int) + (p.size : Int)) = (at_ : Int) + (p.size : Int) := IntWalk.i64_in _ (by omega)
  by_cases h : at_ + p.size ≤ s.size
  · have d1 : decide ((at_ : Int) + (p.size : Int) ≤ (s.size : Int)) = true := by simp; omega
    have i1 : (at_ : Int) + (p.size : Int) ≤ (s.size : Int) := by omega
    have i2 : (at_ : Int) ≤ (at_ : Int) + (p.size : Int) := by omega
    go_enter Try.func32, Try.ntmps32
    go_wp2
    go_ret
    refine ⟨_, rfl, ?_, rfl⟩
    rw [Lib.bytes_beq_iff]
    exact ⟨fun h' => ⟨h, h'⟩, fun h' => h'.2⟩
  · have d1 : decide ((at_ : Int) + (p.size : Int) ≤ (s.size : Int)) = false := by simp; omega
    have d2 : decide (at_ + p.size ≤ s.size) = false := by simp; omega
    have H := Lib.hid h
    clear h
    go_enter Try.func32, Try.ntmps32
    go_wp2
    go_ret
    exact ⟨false, rfl, ⟨(fun h => by cases h), fun h => absurd h.1 H.out⟩, rfl⟩

set_option maxRecDepth 100000 in
set_option maxHeartbeats 4000000 in
theorem walk (l : List Nd) (v : Value) (s : ByteArray) (f : Int) (w : World) (hr : RdN w v l) (hok : ∀ n ∈ l, okNd n) : Calls Try.prog 9 #[v, .string s, .int .i64 f] w (LawIs w) := by
  obtain ⟨A, cap, rfl, hcap, hcap2, hmem⟩ := hr.open_
  have HR := Lib.hid hr
  have HCLS := Lib.hid (show ∀ n ∈ l, okC n.cls from fun n hn => (hok n hn).2.2)
  clear hr hmem hok
  go_enter Try.func9, Try.ntmps9
  go_wp2_with fail
  refine (Of_any _ _ (by decide)).mono ?_
  rintro e w1 ⟨a0, a1, a2, a3, rfl, ha, hb1⟩
  have HA := Lib.hid ha
  have HB1 := Lib.hid hb1
  clear ha hb1
  go_wp2_with fail
  refine (Of_any _ _ (by decide)).mono ?_
  rintro e w2 ⟨b0, b1, b2, b3, rfl, hb, hb2⟩
  have HBB := Lib.hid hb
  have HB2 := Lib.hid (HB1.out.trans (hb2.mono HB1.out.size))
  have HFL := Lib.hid (fact_lit (a0, a1, a2, a3) (b0, b1, b2, b3) HA.out)
  have HOK : Hid (∀ n ∈ [⟨3, zc⟩, ⟨1, (a0, a1, a2, a3)⟩, ⟨5, zc⟩, ⟨1, (b0, b1, b2, b3)⟩], okC (Nd.cls n)) := Lib.hid (by
    intro n hn
    simp only [List.mem_cons, List.not_mem_nil, or_false] at hn
    rcases hn with rfl | rfl | rfl | rfl
    · exact okC_zc
    · show okC (a0, a1, a2, a3)
      rw [HA.out]; exact okC_ofL _ _ okC_zc
    · exact okC_zc
    · show okC (b0, b1, b2, b3)
      rw [hb]; exact okC_ofL _ _ okC_zc)
  clear hb hb2
  go_wp2_with fail
  refine (Needed_ok [⟨3, zc⟩, ⟨1, (a0, a1, a2, a3)⟩, ⟨5, zc⟩, ⟨1, (b0, b1, b2, b3)⟩] (.cat (.byte (a0, a1, a2, a3)) (.star (.byte (b0, b1, b2, b3)))) rfl HOK.out _ _ (by simp) (fact_rd _ _ (by simp) a0 a1 a2 a3 b0 b1 b2 b3)).mono ?_
  rintro e w3 ⟨y, rfl, hy, hb3⟩
  obtain rfl : y = ⟨#[97]⟩ := bytes_ext (by rw [hy, HFL.out])
  have HB3 := Lib.hid ((HB2.out.alloc HB2.out.size _).trans (hb3.mono (Nat.le_trans HB2.out.size (by simp))))
  clear hy hb3
  go_wp2_with fail
  by_cases hm : mErr l s f = 0
  · obtain ⟨hc, hs, hf0, hf1⟩ := mErr_zero hm
    obtain ⟨hlen, t, ht⟩ := chk_tree hc
    obtain ⟨at_, rfl⟩ : ∃ n : Nat, f = (n : Int) := ⟨f.toNat, by omega⟩
    have hat : at_ ≤ s.size := by omega
    have HT := Lib.hid ht
    clear hm hc ht
    refine (MEnds_ok l t HT.out HCLS.out _ s at_ _ hlen (HR.out.below HB3.out) hs hat).mono ?_
    rintro e w4 ⟨v4, rfl, hv4, hb4⟩
    rw [natVals_ints] at hv4
    have HV4 := Lib.hid (show RdI w4 v4 _ from hv4)
    have HB4 := Lib.hid (HB3.out.trans (hb4.mono HB3.out.size))
    clear hv4 hb4
    go_wp2_with fail
    refine (Needed_ok l t HT.out HCLS.out _ _ hlen (HR.out.below HB4.out)).mono ?_
    rintro e w5 ⟨nd, rfl, hnd, hb5⟩
    have HND := Lib.hid hnd
    have HV5 := Lib.hid (HV4.out.below hb5)
    have HB5 := Lib.hid (HB4.out.trans (hb5.mono HB4.out.size))
    clear hnd hb5
    go_wp2_with fail
    refine (Whole_ok l t HT.out HCLS.out _ _ hlen (HR.out.below HB5.out)).mono ?_
    rintro e w6 ⟨wh, isw, rfl, hisw, hwh, hwe, hb6⟩
    have HISW := Lib.hid hisw
    have HWH := Lib.hid hwh
    have HV6 := Lib.hid (HV5.out.below hb6)
    have HB6 := Lib.hid (HB5.out.trans (hb6.mono HB5.out.size))
    clear hisw hwh hwe hb6 HV4 HV5 HB4 HB5 HB3 HB2 HB1
    have d1 : decide ((at_ : Int) < 0) = false := by simp
    have d2 : decide (s.size < at_) = false := by simp; omega
    have d3 : ¬ s.size < at_ := by omega
    have hfit : ∀ (k : Nat) (x : Int), (toInts (endsL s.data.toList t at_))[k]? = some x → ∃ e : Nat, x = (e : Int) ∧ at_ ≤ e ∧ e ≤ s.size ∧ Fits s.data.toList t at_ e := by
      intro k x hx
      rw [toInts_get] at hx
      cases hq : (endsL s.data.toList t at_)[k]? with
      | none => rw [hq] at hx; cases hx
      | some e =>
        rw [hq] at hx
        simp at hx
        have hmm := List.mem_of_getElem? hq
        unfold endsL at hmm
        rw [upTo_mem] at hmm
        have hb := fits_bound s.data.toList t at_ e hmm.2 (by simpa using hat)
        have : s.data.toList.length = s.size := by simp
        exact ⟨e, hx.symm, hb.1, by omega, hmm.2⟩
    have HFIT := Lib.hid hfit
    have hlx : (toInts (endsL s.data.toList t at_)).length ≤ 401 := by
      rw [toInts_len]
      have := upTo_len (Fits s.data.toList t at_) (s.data.toList.length + 1)
      unfold endsL
      have e : s.data.toList.length = s.size := by simp
      omega
    clear hfit
    have HXS : Hid (∃ ys, ys = endsL s.data.toList t at_ ∧ toInts (endsL s.data.toList t at_) = toInts ys) := Lib.hid ⟨_, rfl, rfl⟩
    generalize toInts (endsL s.data.toList t at_) = zs at *
    obtain ⟨A6, cap6, rfl, hca, hca2, hmem6⟩ := HV6.out.open_
    have HM6 := Lib.hid hmem6
    clear hmem6
    go_wp2_with fail
    go_loop [17] (fun v17 => ∃ k : Nat, k ≤ zs.length ∧ v17 = .int .i64 (k : Int)) (fun i => zs.length - (intOf i).toNat)
    case atStart => exact ⟨0, by omega, rfl⟩
    case round =>
      obtain ⟨k, hk, rfl⟩ := hrel
      by_cases hlt : k < zs.length
      · obtain ⟨b6, off6, rfl, hb6, hcell⟩ := HM6.out (by omega)
        obtain ⟨x, hx⟩ := getD_get hlt
        have g0 := hcell w6 (fun o => rfl) k x hx
        obtain ⟨ee, rfl, he1, he2, hfi⟩ := HFIT.out k x hx
        have HFI := Lib.hid hfi
        have n1 : ¬ ee < at_ := by omega
        have n2 : ¬ s.size < ee := by omega
        have m1 : decide (ee < at_) = false := by simp; omega
        have m2 : decide (s.size < ee) = false := by simp; omega
        have i1 : (at_ : Int) ≤ (ee : Int) := by omega
        have i2 : (ee : Int) ≤ (s.size : Int) := by omega
        have hk1 : (k : Int) < (zs.length : Int) := by omega
        clear hfi hcell hx
        go_wp2_with fail
        obtain ⟨tt, htt⟩ : ∃ tt, tt = s.extract at_ ee := ⟨_, rfl⟩
        rw [← htt]
        have htl : tt.data.toList = sub s.data.toList at_ ee := by rw [htt, ext_list]
        have hsl : s.data.toList.length = s.size := by simp
        have hts : tt.size = ee - at_ := by rw [sz_list, htl, sub_len _ _ _ (by omega)]
        have hnl : nd.size ≤ 60 := by
          rw [sz_list, HND.out]
          have h1 := litL_len t
          have h2 := congrArg List.length HT.out
          omega
        obtain ⟨⟨p, q, hpq⟩, hwhole⟩ := fits_lit s.data.toList t at_ ee HFI.out (by omega)
        rw [← htl] at hpq hwhole
        rw [← HND.out] at hpq
        have hk0 : ∃ k0, k0 + nd.size ≤ tt.size ∧ tt.extract k0 (k0 + nd.size) = nd := by
          refine ⟨p.length, ?_, bytes_ext ?_⟩
          · have h1 := congrArg List.length hpq
            rw [← sz_list] at h1
            simp only [List.length_append] at h1
            rw [← sz_list] at h1
            omega
          · rw [ext_list, hpq]
            unfold sub
            have : p.length + nd.size - p.length = nd.data.toList.length := by rw [sz_list]; omega
            rw [this]
            simp
        have hts4 : tt.size ≤ 400 := by omega
        have HK0 := Lib.hid hk0
        have HWT : Hid (isw = true → tt = wh) := Lib.hid (fun h => bytes_ext (by rw [hwhole (by rw [← HISW.out]; exact h), HWH.out h]))
        clear htt htl hsl hts hpq hwhole hk0 n1 n2 m1 m2 i1 i2 g0 HFI
        go_loop [19, 20] (fun v19 v20 => ∃ (q : Nat) (th : Bool), q ≤ tt.size + 1 ∧ v20 = .int .i64 (q : Int) ∧ v19 = .bool th ∧ Hid (th = true ↔ ∃ j, j < q ∧ j + nd.size ≤ tt.size ∧ tt.extract j (j + nd.size) = nd)) (fun _ i => tt.size + 1 - (intOf i).toNat)
        case atStart => exact ⟨0, false, by omega, rfl, rfl, Lib.hid ⟨(fun h => by cases h), (fun ⟨j, hj, _⟩ => by omega)⟩⟩
        case round =>
          obtain ⟨q, th, hq, rfl, rfl, HTH⟩ := hrel
          by_cases hin : q + nd.size ≤ tt.size
          · have d5 : decide (q + nd.size ≤ tt.size) = true := by simp; omega
            have d6 : decide ((q : Int) + (nd.size : Int) ≤ (tt.size : Int)) = true := by simp; omega
            have i3 : (q : Int) + (nd.size : Int) ≤ (tt.size : Int) := by omega
            have i4 : (q : Int) ≤ (q : Int) + (nd.size : Int) := by omega
            have i5 : (0 : Int) ≤ (q : Int) := by omega
            cases th with
            | true =>
              go_wp2
              go_round
              case rel => exact ⟨q + 1, true, by omega, by go_num, rfl, Lib.hid ⟨(fun _ => by obtain ⟨j, h1, h2⟩ := HTH.out.1 rfl; exact ⟨j, by omega, h2⟩), (fun _ => rfl)⟩⟩
              case measure => simp [intOf]; omega
            | false =>
              by_cases heq : tt.extract q (q + nd.size) = nd
              · have hb := beq_yes heq
                have HEQ := Lib.hid heq
                clear heq
                go_wp2
                go_round
                case rel => exact ⟨q + 1, true, by omega, by go_num, rfl, Lib.hid ⟨(fun _ => ⟨q, by omega, hin, HEQ.out⟩), (fun _ => rfl)⟩⟩
                case measure => simp [intOf]; omega
              · have hb := beq_no heq
                have HEQ := Lib.hid heq
                clear heq
                go_wp2
                go_round
                case rel =>
                  exact ⟨q + 1, false, by omega, by go_num, rfl, Lib.hid ⟨(fun h => by cases h), (fun ⟨j, h1, h2, h3⟩ => by
                    by_cases e : j = q
                    · rw [e] at h3; exact absurd h3 HEQ.out
                    · exact HTH.out.2 ⟨j, by omega, h2, h3⟩)⟩⟩
                case measure => simp [intOf]; omega
          · have d5 : decide (q + nd.size ≤ tt.size) = false := by simp; omega
            have d6 : decide ((q : Int) + (nd.size : Int) ≤ (tt.size : Int)) = false := by simp; omega
            obtain rfl : th = true := HTH.out.2 (by
              obtain ⟨k0, h1, h2⟩ := HK0.out
              exact ⟨k0, by omega, h1, h2⟩)
            cases isw with
            | false =>
              go_wp2
              go_round
              case rel => exact ⟨k + 1, by omega, by go_num⟩
              case measure => simp [intOf]; omega
            | true =>
              have hbw := beq_yes (HWT.out rfl)
              go_wp2
              go_round
              case rel => exact ⟨k + 1, by omega, by go_num⟩
              case measure => simp [intOf]; omega
      · obtain rfl : k = zs.length := by omega
        cases isw with
        | false =>
          go_wp2
          go_ret
          exact ⟨rfl, HB6.out⟩
        | true =>
          have hwl : wh.data.toList = (litL t).1 := HWH.out rfl
          have hwz : wh.size ≤ 60 := by
            rw [sz_list, hwl]
            have h1 := litL_len t
            have h2 := congrArg List.length HT.out
            omega
          have HWL := Lib.hid hwl
          have HST := Lib.hid fun W => Stands_any s wh at_ W hs (by omega) (by omega)
          have hkey : ∀ r : Bool, (r = true ↔ at_ + wh.size ≤ s.size ∧ s.extract at_ (at_ + wh.size) = wh) → ((zs.length : Int) == 1) = r := by
            intro r hr
            obtain ⟨ys, hys, hzs⟩ := HXS.out
            have hsl : s.data.toList.length = s.size := by simp
            have hz : zs.length = (endsL s.data.toList t at_).length := by rw [hzs, toInts_len, hys]
            have hnl : (litL t).1.length = wh.size := by rw [sz_list, HWL.out]
            have hw := whole_fits s.data.toList t HISW.out.symm at_
            rw [Bool.eq_iff_iff, hr, beq_iff_eq, hz]
            have hsub : ∀ j, j = at_ + wh.size → (sub s.data.toList at_ j = (litL t).1 ↔ s.extract at_ (at_ + wh.size) = wh) := by
              rintro j rfl
              rw [← ext_list, ← HWL.out]
              exact ⟨fun h => bytes_ext h, fun h => by rw [h]⟩
            constructor
            · intro h
              have h1 : (endsL s.data.toList t at_).length = 1 := by omega
              obtain ⟨m, hm⟩ := List.length_eq_one_iff.1 h1
              have hmem : m ∈ endsL s.data.toList t at_ := by rw [hm]; simp
              unfold endsL at hmem
              rw [upTo_mem] at hmem
              obtain ⟨q1, q2, q3⟩ := (hw m (by omega)).1 hmem.2
              rw [hnl] at q1
              exact ⟨by omega, (hsub m q1).1 q3⟩
            · rintro ⟨h1, h2⟩
              have hf := (hw (at_ + wh.size) (by omega)).2 ⟨by rw [hnl], by omega, (hsub _ rfl).2 h2⟩
              have hone : endsL s.data.toList t at_ = [at_ + wh.size] := by
                refine only_one ?_ ?_ ?_
                · unfold endsL upTo_
                  exact List.nodup_range.filter _
                · intro x hx
                  unfold endsL at hx
                  rw [upTo_mem] at hx
                  have := ((hw x (by omega)).1 hx.2).1
                  omega
                · unfold endsL
                  rw [upTo_mem]
                  exact ⟨by omega, hf⟩
              rw [hone]
              rfl
          have HKEY := Lib.hid hkey
          clear hkey hwl
          go_wp2_with fail
          refine (HST.out _).mono ?_
          rintro e w7 ⟨r, rfl, hr, rfl⟩
          have hzr := HKEY.out r hr
          clear hr
          go_wp2_with fail
          refine bodyPost_ret (v := .bool true) ?_ rfl ⟨rfl, HB6.out⟩
          simp [results, Try.results9, go_sem, hzr]
  · have HN := Lib.hid (MEnds_no l (.slice A l.length cap) s f _ (HR.out.below HB3.out) hm)
    have HE := Lib.hid (errV_ne hm)
    clear hm
    refine HN.out.mono ?_
    rintro e w4 ⟨rfl, hb4⟩
    rw [HE.out]
    have HB4 := Lib.hid (HB3.out.trans (hb4.mono HB3.out.size))
    clear hb4
    go_wp2_with fail
    go_ret
    exact ⟨rfl, HB4.out⟩

/-! ### THE ROW's STEP -/
set_option maxRecDepth 100000 in
theorem lifted (os : Os) (started : os.Started) (H : Type) (enc : TypeId × Value → H) :
    ReturnsInHanded {} Try.checked os 9 .any (Rows.litStandsSpec.pre6 enc Try.prog Try.f9 Rows.litStandsRow.domain false) (Rows.litStandsSpec.post enc Try.prog Try.f9 false true false false) := by
  refine returnsInHanded_of_change (C := Try.checked) own started (by kernel_rfl) Try.func9
    (ChangeSpec.witness6 (enc := enc) (C := Try.checked) false ⟨#[], #[.slice none 0 0, .string ByteArray.empty, .int .i64 0], []⟩ 8 (by kernel_rfl) (by kernel_rfl) (by kernel_rfl) (by kernel_rfl)) ?_
  intro W base args ds gs before hval0 hW hcnd _
  have hval : ∀ (j : Nat) t v, Try.f9.params[j]? = some t → args[j]? = some v → Value.okWide Try.prog W .any base t v := hval0
  have hW' := hW
  obtain ⟨p, q, hA0, hV, rfl, hfz, hnd⟩ := hW
  have hA : DataW.TrodAll enc Try.prog W 0 (fun _ => true) true Try.f9.params.toList args.toList ds p := hA0
  rw [Try.params9] at hA hval
  obtain ⟨v0, vs0, d0, ds0, p0, q0, hargs, rfl, rfl, h0, r0⟩ := trodAll_cons hA
  obtain ⟨v1, vs1, d1, ds1, p1, q1, rfl, rfl, rfl, h1, r1⟩ := trodAll_cons r0
  obtain ⟨v2, vs2, d2, ds2, p2, q2, rfl, rfl, rfl, h2, r2⟩ := trodAll_cons r1
  obtain ⟨rfl, rfl, rfl⟩ := trodAll_nil r2
  obtain rfl : args = #[v0, v1, v2] := by cases args; simp_all
  obtain ⟨rfl, rfl⟩ := trodVars_none hV
  obtain ⟨a0, len0, cap0, rfl⟩ := okWide_slice Try.underlying25 (hval 0 25 v0 rfl rfl)
  have k0 := h0
  have lt0 : ∀ x ∈ p0, x.block < W.heap.size := by obtain ⟨m, hm⟩ := k0; exact DataW.trod_lt m _ _ _ hm
  obtain ⟨z0, w0, ok0⟩ : ∃ l, RdN W (.slice a0 len0 cap0) l ∧ ∀ nd ∈ l, okNd nd := by obtain ⟨fuel, hf⟩ := h0; exact open_nodes (by simpa [Value.cells] using hf)
  have k1 := h1
  have lt1 : ∀ x ∈ p1, x.block < W.heap.size := by obtain ⟨m, hm⟩ := k1; exact DataW.trod_lt m _ _ _ hm
  obtain ⟨s1, rfl, rfl, rfl, ws1⟩ := open_string Try.underlying9 (hval 1 9 v1 rfl rfl) h1
  have k2 := h2
  have lt2 : ∀ x ∈ p2, x.block < W.heap.size := by obtain ⟨m, hm⟩ := k2; exact DataW.trod_lt m _ _ _ hm
  obtain ⟨x2, rfl, rfl, rfl, wx2⟩ := open_int Try.underlying3 (hval 2 3 v2 rfl rfl) h2
  clear hA0 hval0
  refine (walk z0 _ s1 x2 W w0 ok0).mono fun e W' ⟨he, bel⟩ => ?_
  subst he
  exact ⟨_, rfl, _, _, _, [], _, [], hW', trodAll_mk1 (shut_bool Try.underlying4 _), (trodAll_cons_mk (Below.trod laidOut (by kernel_rfl) (of_decide_eq_true (by kernel_rfl)) k0 bel lt0) (trodAll_cons_mk (shut_string Try.underlying9 ws1) (trodAll_cons_mk (shut_int Try.underlying3 wx2) trodAll_mk0))), rfl, bel.frame _, fun h => by cases h⟩

theorem over : Rows.litStandsRow.holds Try.pinned (OpenSpec.ofChange Rows.litStandsSpec) :=
  OpenClaim.holds_of_wide 9 Try.f9 rfl rfl rfl rfl rfl rfl rfl ⟨rfl, rfl, rfl, rfl, rfl⟩ rfl rfl rfl rfl rfl (by kernel_rfl) Try.func9 (by kernel_rfl)
    (of_decide_eq_true (by kernel_rfl)) (by unfold Func.isWrapper; first | (rw [if_pos (by decide +kernel)]; kernel_rfl) | (rw [if_neg (by decide +kernel)]; exact ⟨rfl, rfl⟩))
    (fun os started H enc _ => lifted os started H enc)

/-- THE STATEMENT -/
theorem proved : Rows.LitStandsSaid := over


end Go.Proofs.Ythcahjnniendnaa.litStands
