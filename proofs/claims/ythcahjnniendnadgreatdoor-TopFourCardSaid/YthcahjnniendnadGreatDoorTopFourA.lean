/-
  winnowfantop.TopFour: the walk.
-/
import Derived.Test.YthcahjnniendnadGreatDoorFindE
import Derived.Test.YthcahjnniendnadGreatDoorGAuto
import Derived.Test.YthcahjnniendnadGreatDoorGFeed
import Derived.Test.YthcahjnniendnadGreatDoorGMean
import Derived.Test.YthcahjnniendnadGreatDoorGPrt
import Derived.Test.YthcahjnniendnadGreatDoorOne
import Derived.Test.YthcahjnniendnadGreatDoorOpen
import Derived.Test.YthcahjnniendnadGreatDoorPick
import Derived.Test.YthcahjnniendnadGreatDoorSimF
namespace Go.Proofs.YthcahjnniendnadGreatDoor.topFour
open Go.RowKit Wf
open law (own laidOut LawIs)
set_option linter.unusedVariables false

theorem mErr_zero {l : List Nd} {s : ByteArray} (h : mErr l s 0 = 0) : chk l = 0 ∧ s.size ≤ 400 := by
  unfold mErr at h
  by_cases h1 : chk l = 0
  · rw [if_neg (by simpa using h1)] at h
    by_cases h2 : s.size > 400
    · rw [if_pos h2] at h; cases h
    · exact ⟨h1, by omega⟩
  · rw [if_pos h1] at h; exact absurd h h1
/-- The last end of a run from the beginning. -/
theorem run_last (t : Rx) (s : List UInt8) (E : List Nat) (hE : E = runL (progL t) s 0) :
    (∃ n x, E.length = n + 1 ∧ E[n]? = some x ∧ lastL E = (x : Int) ∧ (x = s.length ↔ Fits s t 0 s.length)) ∨ (E.length = 0 ∧ lastL E = -1 ∧ ¬ Fits s t 0 s.length) := by
  have he : E = upTo_ (Fits s t 0) (s.length + 1) := by rw [hE]; exact upTo_iff (fun i _ => ends_fits t s 0 i)
  rcases Nat.eq_zero_or_pos E.length with h0 | hp
  · refine .inr ⟨h0, ?_, fun hf => ?_⟩
    · rw [List.length_eq_zero_iff.1 h0]; rfl
    · have : s.length ∈ E := by rw [he]; exact upTo_mem.2 ⟨by omega, hf⟩
      rw [List.length_eq_zero_iff.1 h0] at this
      cases this
  · obtain ⟨n, hn⟩ : ∃ n, E.length = n + 1 := ⟨E.length - 1, by omega⟩
    have hg : E[n]? = some (E[n]'(by omega)) := List.getElem?_eq_getElem _
    generalize E[n]'(by omega) = x at hg
    refine .inl ⟨n, x, hn, hg, ?_, ?_⟩
    · unfold lastL
      rw [List.getLast?_eq_getElem?, hn, Nat.add_sub_cancel, hg]
    · rw [he] at hn hg
      exact upTo_last hn hg
theorem rd_opt {w w' : World} {size n cap : Nat} {A : Option Addr} {xs : List Value} (h : Rd w size (.slice A n cap) xs) (hA : 0 < n → ∀ a, A = some a → a.block < w.heap.size → w'.heap[a.block]? = w.heap[a.block]?) : Rd w' size (.slice A n cap) xs := by
  obtain ⟨A', n', cap', hv, h1, h2, h3, h4⟩ := h
  injection hv with e1 e2 e3
  subst e1
  subst e2
  subst e3
  refine ⟨A, n, cap, rfl, h1, h2, h3, fun hn => ?_⟩
  obtain ⟨b, off, ha, hc⟩ := h4 hn
  refine ⟨b, off, ha, fun j u hu => ?_⟩
  have hcu := hc j u hu
  have hlt : b < w.heap.size := World.block_lt_of_cell? w _ hcu
  rw [← hcu]
  have := hA hn _ ha hlt
  simp only [World.cell?, this]
theorem fd_gr {Fs : List Nat} {p : List St} {s : List UInt8} {fs : List Nat} {F b off cp : Nat} {A : Option Addr} {ca : Nat} {w w' : World} (h : FdE Fs p s fs F b off cp A ca w)
    (hk : ∀ k, k < w.heap.size → (k ∉ Fs ∨ k = F) → w'.heap[k]? = w.heap[k]?) : FdE Fs p s fs F b off cp A ca w' :=
  ⟨(hk F h.bx.lt (.inr rfl)).trans h.bx, rd_opt h.rp (fun _ a ha hlt => by cases ha; exact hk b hlt (.inl h.hb)), rd_opt h.ra (fun _ a ha hlt => hk a.block hlt (.inl (h.ha a ha))), h.hb, h.ha, h.fed, h.hF⟩
theorem readP_print {l : List Nd} {t : Rx} (ht : l = flat t) (hc : chk l = 0) (hok : ∀ n ∈ l, okC n.cls) {T : List UInt8} (h : printR l t = (T, 0)) : readP ⟨T.toArray⟩ = some l := by
  unfold printR at h
  rw [if_neg (by simp [hc])] at h
  split at h
  · rename_i hl
    have hT := (Prod.mk.inj h).1
    have hs : (ByteArray.mk T.toArray).size = T.length := by show T.toArray.size = _; simp
    have hw := print_whole t (by unfold okT; rw [← ht]; exact hok)
    rw [ht]
    refine readP_of (by rw [hs, ← hT]; exact hl) ?_ (by rw [← ht]; exact (chk_tree hc).1)
    rw [hs]
    show orS T 0 = _
    rw [← hT]
    exact hw
  · cases (Prod.mk.inj h).2

theorem ext_l (tx : ByteArray) (f a : Nat) : (tx.extract f a).data.toList = (tx.data.toList.take a).drop f := by
  rw [ByteArray.data_extract, Array.toList_extract]
  simp [List.extract_eq_take_drop, List.drop_take]
set_option maxRecDepth 100000 in
set_option maxHeartbeats 32000000 in
theorem walk {ev : Value} (l : List Nd) (v : Value) (s : ByteArray) (x : Int) (w : World) (hr : RdN w v l) (hok : ∀ n ∈ l, okNd n) (hs : s.size ≤ maxLen) (hx : (Lit.int .i64 x).wf = true) (hev : SynE ev w) :
    Calls Tryz.prog 6 #[v, .string s, .int .i64 x] w (LawIs w) := by
  have hokc : ∀ n ∈ l, okC n.cls := fun n hn => (hok n hn).2.2
  unfold maxLen at hs
  have hxr := wf_i64_bd hx
  obtain ⟨t, ht⟩ := tree_of l
  have HONE := Lib.hid (One_c w hev)
  unfold LawIs at HONE
  have HR := Lib.hid hr
  have HEV := Lib.hid hev
  by_cases hme : mErr l s 0 = 0
  · obtain ⟨hc2, hs4⟩ := mErr_zero hme
    have h60 := (chk_tree hc2).1
    have htt := ht hc2
    have h60t : (flat t).length ≤ 60 := by rw [← htt]; exact h60
    have HMY := Lib.hid (fun v' W h => MYes_ok l t htt hokc v' s W h60 h hs4)
    have HOF := Lib.hid (fun W h => Of_ok l t htt v W h60 h)
    have hP : okP (progL t) := progL_ok t h60t
    have hPC : ∀ st ∈ progL t, okC st.cls := progL_cls okC okC_zc t (by rw [← htt]; exact hokc)
    have HEN := Lib.hid (fun pv W h => REnds_ok (progL t) hP hPC pv s hs4 0 (Nat.zero_le _) W h)
    have HNW := Lib.hid (fun pv W h => New_ok (progL t) hP pv W h)
    have HFN := Lib.hid (fun W h => FNew_ok l t htt v W h60 h)
    have HLO := Lib.hid (fun a km pv Own Ss L W he => long_ok (progL t) hP hPC a km pv Own Ss L W he s hs4 0 (Nat.zero_le _))
    have HPU := Lib.hid (fun Fs s1 tx fs F b off cp A ca W h1 h2 h3 => FPut_any Fs (progL t) hP hPC s1 tx fs F b off cp A ca W h1 h2 h3)
    have HYE := Lib.hid (fun Fs s1 fs F b off cp A ca W h => FYes_any Fs (progL t) hP s1 fs F b off cp A ca W h)
    have HPR := Lib.hid (fun W h => Print_c l t (fun _ => htt) hokc v W h)
    have HEF : Hid (EndsAt (progL t) s.data.toList 0 s.data.toList.length ↔ Fits s.data.toList t 0 s.size) := Lib.hid (by
      rw [ends_fits, show s.data.toList.length = s.size by simp])
    obtain ⟨⟨T, c⟩, hR⟩ : ∃ R, R = printR l t := ⟨_, rfl⟩
    rw [← hR] at HPR
    obtain ⟨Tb, hTb⟩ : ∃ Tb : ByteArray, Tb = ⟨T.toArray⟩ := ⟨_, rfl⟩
    have HRD : Hid (c = 0 → readP Tb = some l) := Lib.hid fun h => by rw [hTb]; exact readP_print htt hc2 hokc (by rw [← hR, h])
    unfold PrintsIs at HPR
    dsimp only at HPR
    rw [← hTb] at HPR
    have hc0 : c = 0 ∨ c ≠ 0 := by omega
    obtain ⟨E, hE⟩ : ∃ E, E = runL (progL t) s.data.toList 0 := ⟨_, rfl⟩
    have hlast := run_last t s.data.toList E hE
    rw [show s.data.toList.length = s.size by simp] at hlast
    have hEl : E.length ≤ 401 := by rw [hE]; have := runL_len (progL t) s.data.toList 0; rw [show s.data.toList.length = s.size by simp] at this; omega
    have HLAST := Lib.hid hlast
    unfold EndsRun at HEN
    unfold LongAuto at HLO
    unfold MYesIs at HMY
    unfold OfIs at HOF
    unfold NewIs at HNW
    unfold FNewIs at HFN
    unfold PutIs at HPU
    unfold YesIs at HYE
    rw [← hE] at HEN HLO
    obtain ⟨Fp, hFp⟩ : ∃ Fp : Prop, Fp = Fits s.data.toList t 0 s.size := ⟨_, rfl⟩
    rw [← hFp] at HMY HEF HLAST
    obtain ⟨Le, hLe⟩ : ∃ Le, Le = lastL E := ⟨_, rfl⟩
    rw [← hLe] at HLO HLAST
    generalize progL t = P at *
    clear hr hok hokc hs hx hev ht hme hc2 htt h60t hP hPC hR hTb hE hlast hFp hLe h60
    go_enter Tryz.func6, Tryz.ntmps6
    go_wp2_with fail
    refine HONE.out.mono ?_
    rintro e w1 ⟨rfl, hb1⟩
    have HB1 := Lib.hid hb1
    clear hb1 HONE
    go_wp2_with fail
    refine (HMY.out v w1 (HR.out.below HB1.out)).mono ?_
    rintro e w2 ⟨y, rfl, hy, hb2⟩
    have HB2 := Lib.hid (HB1.out.trans (hb2.mono HB1.out.size))
    have HY := Lib.hid hy
    clear hb2 hy
    go_wp2_with fail
    refine (HOF.out w2 (HR.out.below HB2.out)).mono ?_
    rintro e w3 ⟨g3, cap3, rfl, hrs3, _, hb3⟩
    have HB3 := Lib.hid (HB2.out.trans (hb3.mono HB2.out.size))
    have HS3 := Lib.hid hrs3
    clear hb3 hrs3 HOF
    go_wp2_with fail
    refine (HEN.out _ w3 HS3.out).mono ?_
    rintro e w4 ⟨A4, cap4, rfl, hrd4, hb4⟩
    have HB4 := Lib.hid (HB3.out.trans (hb4.mono HB3.out.size))
    have HS4 := Lib.hid (Rd.below HS3.out hb4)
    have HE4 := Lib.hid hrd4
    clear hb4 hrd4 HEN HS3
    go_wp2_with fail
    refine (HNW.out _ w4 HS4.out).mono ?_
    rintro e w5 ⟨a5, km5, pv5, Own5, rfl, he5, hb5, ho5⟩
    have HB5 := Lib.hid (HB4.out.trans (hb5.mono HB4.out.size))
    have HA5 := Lib.hid he5
    have HO5 : Hid ((∀ k, Own5 k → w4.heap.size ≤ k) ∧ ∀ k, Own5 k → k < w5.heap.size) := Lib.hid ⟨ho5, he5.lt⟩
    have hs45 := hb5.size
    have hs4 := HB4.out.size
    have HB45 := Lib.hid hb5
    have HEB : Hid (0 < E.length → ∀ a, A4 = some a → a.block < w4.heap.size) := Lib.hid fun h0 a ha => by
      obtain ⟨A', n', cap', hv, _, _, h3, h4⟩ := HE4.out
      injection hv with e1 e2 e3
      subst e1
      subst e2
      obtain ⟨bb, off, hab, hcc⟩ := h4 h0
      rw [ha] at hab
      cases hab
      have h5 : (natVals E)[0]? = some ((natVals E)[0]'(by simp [natVals]; omega)) := List.getElem?_eq_getElem _
      exact World.block_lt_of_cell? w4 _ (hcc 0 _ h5)
    clear hb5 he5 ho5 HNW HS4
    go_wp2_with fail
    refine (HFN.out w5 (HR.out.below HB5.out)).mono ?_
    rintro e w6 ⟨F, fb, fo, fcp, FA, fca, rfl, hF, hfd, hb6⟩
    have HB6 := Lib.hid (HB5.out.trans (hb6.mono HB5.out.size))
    have HB56 := Lib.hid hb6
    have HA6 := Lib.hid (HA5.out.below hb6)
    have HF6 := Lib.hid (hfd (F :: List.range w5.heap.size) (by
      intro f hf
      rcases List.mem_cons.1 hf with rfl | hf
      · exact .inr (.inr rfl)
      · exact .inl (List.mem_range.1 hf)) (by simp))
    have hs56 := hb6.size
    clear hb6 hfd HFN HA5
    go_wp2_with fail
    refine (HLO.out a5 km5 pv5 Own5 [] [] w6 HA6.out).mono ?_
    rintro e w7 ⟨rfl, Own7, Ss7, L7, he7, hg7⟩
    have hb7 : Below w4.heap.size w6 w7 := hg7.below (by omega) HO5.out.1
    have HB7 := Lib.hid (HB6.out.trans (hb7.mono hs4))
    have HF7 := Lib.hid (fd_gr HF6.out (fun k hk hkf => hg7.kept k hk (fun hown => by
      have := HO5.out.2 k hown
      rcases hkf with h | h
      · exact h (by simp [this])
      · omega) (by simp)))
    have HE7 : Hid (Rd1 w7 (.slice A4 E.length cap4) (natVals E)) := Lib.hid (Rd.below HE4.out ((HB45.out.trans (HB56.out.mono hs45)).trans hb7))
    have hs67 := hg7.size
    have hF7 := HF7.out.bx.lt
    clear he7 hg7 hb7 HF6 HA6 HLO
    have hsz1 : IntKind.i64.wrap ((s.size : Int) + 1) = (s.size : Int) + 1 := by rw [IntKind.wrap_i64]; omega
    have HPK := Lib.hid (pickW.Pick_c x hxr (s.size + 1) (by omega) (by omega) w7)
    rw [show ((s.size + 1 : Nat) : Int) = (s.size : Int) + 1 by omega] at HPK
    go_wp2_with fail
    refine HPK.out.mono ?_
    rintro e w8 ⟨c0, hc0l, rfl, hb8⟩
    have HB8 := Lib.hid (HB7.out.trans (hb8.mono HB7.out.size))
    have HF8 := Lib.hid (HF7.out.below hb8)
    have HE8 := Lib.hid (Rd.below HE7.out hb8)
    have hs78 := hb8.size
    clear hb8 HPK HF7 HE7
    have hcs : c0 ≤ s.size := by omega
    have i1 : (0 : Int) ≤ (c0 : Int) := by omega
    have i2 : (c0 : Int) ≤ (s.size : Int) := by omega
    have hFs : ∀ f ∈ (F :: List.range w5.heap.size), f < w8.heap.size := fun f hf => by
      rcases List.mem_cons.1 hf with rfl | hf
      · omega
      · have := List.mem_range.1 hf; omega
    have hx1 : (s.extract 0 c0).size ≤ 400 := by rw [ByteArray.size_extract]; omega
    have HP1 := Lib.hid (HPU.out (F :: List.range w5.heap.size) [] (s.extract 0 c0) [0] F fb fo fcp FA fca w8 HF8.out hFs (by simpa using hx1))
    clear hFs HF8
    go_wp2_with fail
    refine HP1.out.mono ?_
    rintro e w9 ⟨rfl, ⟨fs9, A9, ca9, hfd9⟩, hg9⟩
    have hF0 : w.heap.size ≤ F := by have := HB5.out.size; omega
    have HB9 := Lib.hid (below_grown2 HB8.out hF0 HB8.out.size hg9)
    have HE9 : Hid (Rd1 w9 (.slice A4 E.length cap4) (natVals E)) := Lib.hid (rd_opt HE8.out (fun hn a ha hlt => hg9.block a.block hlt (fun e => by
      have h1 := HEB.out hn a ha
      have h2 := Option.some.inj e
      omega)))
    have HF9 := Lib.hid hfd9
    have hs89 := hg9.size
    have hFs : ∀ f ∈ (F :: List.range w5.heap.size), f < w9.heap.size := fun f hf => by
      rcases List.mem_cons.1 hf with rfl | hf
      · omega
      · have := List.mem_range.1 hf; omega
    have hx2 : ([] ++ (s.extract 0 c0).data.toList).length + (s.extract c0 s.size).size ≤ 400 := by
      have e1 : ([] ++ (s.extract 0 c0).data.toList).length = (s.extract 0 c0).size := by simp
      rw [e1, ByteArray.size_extract, ByteArray.size_extract]; omega
    have HP2 := Lib.hid (HPU.out (F :: List.range w5.heap.size) _ (s.extract c0 s.size) fs9 F fb fo fcp A9 ca9 w9 hfd9 hFs hx2)
    clear hfd9 hg9 hFs hx2 HP1 HF9 HE8
    go_wp2_with fail
    refine HP2.out.mono ?_
    rintro e w10 ⟨rfl, ⟨fs10, A10, ca10, hfd10⟩, hg10⟩
    have HB10 := Lib.hid (below_grown2 HB9.out hF0 HB9.out.size hg10)
    have HE10 : Hid (Rd1 w10 (.slice A4 E.length cap4) (natVals E)) := Lib.hid (rd_opt HE9.out (fun hn a ha hlt => hg10.block a.block hlt (fun e => by
      have h1 := HEB.out hn a ha
      have h2 := Option.some.inj e
      omega)))
    have hcat : [] ++ (s.extract 0 c0).data.toList ++ (s.extract c0 s.size).data.toList = s.data.toList := by
      rw [List.nil_append, ext_l, ext_l, List.take_of_length_le (show s.data.toList.length ≤ s.size by simp), List.drop_zero, List.take_append_drop]
    rw [hcat] at hfd10
    have HYS := Lib.hid (HYE.out _ s.data.toList fs10 F fb fo fcp A10 ca10 w10 hfd10)
    clear hfd10 hg10 HP2 HE9 HPU HYE hcat
    obtain ⟨Ae, ce, hv, hce, hce2, hmE⟩ := Rd1.open_ HE10.out
    injection hv with hv1 hv2 hv3
    subst hv1
    subst hv3
    rw [show (natVals E).length = E.length by simp [natVals]] at hmE
    have HME := Lib.hid hmE
    clear hv2 hmE hce hce2
    rcases HLAST.out with ⟨n, xe, hn, hxe, hle, hxf⟩ | ⟨hn, hle, hxf⟩
    · obtain ⟨eb, eo, rfl, heb, hec⟩ := HME.out (by omega)
      have hcell := hec w10 (fun _ => rfl) n _ (show (natVals E)[n]? = some (.int .i64 (xe : Int)) by simp [natVals, hxe])
      have HYX : Hid (y = true ↔ xe = s.size) := Lib.hid (HY.out.trans hxf.symm)
      obtain ⟨N, hN⟩ : ∃ N, N = E.length := ⟨_, rfl⟩
      have hNn : N = n + 1 := by omega
      subst hNn
      rw [← hN]
      have j1 : decide ((0 : Int) < ((n + 1 : Nat) : Int)) = true := by simp
      have j2 : (0 : Int) ≤ (n : Int) := by omega
      have j3 : (n : Int) < ((n + 1 : Nat) : Int) := by omega
      have hn4 : n ≤ 401 := by omega
      rw [hle]
      clear hn hxe hle hxf hec hN
      by_cases hxs : xe = s.size
      · have hy1 : y = true := HYX.out.2 hxs
        subst hy1
        have q1 : ((xe : Int) == (s.size : Int)) = true := by rw [hxs]; simp
        have q2 : (xe == s.size) = true := by rw [hxs]; simp
        clear hxs HYX
        go_wp2_with fail
        refine HYS.out.mono ?_
        rintro e w11 ⟨z, rfl, hz, hb11⟩
        have HB11 := Lib.hid (HB10.out.trans (hb11.mono HB10.out.size))
        have hzy : z = true := by
          have h1 := HY.out
          rw [HEF.out] at hz
          exact hz.2 (h1.1 trivial)
        subst hzy
        clear hb11 hz HYS
        go_wp2_with fail
        refine (HPR.out w11 (HR.out.below HB11.out)).mono ?_
        rintro e w12 ⟨rfl, hb12⟩
        have HB12 := Lib.hid (HB11.out.trans (hb12.mono HB11.out.size))
        clear hb12 HPR
        rcases hc0 with rfl | hc
        · rw [errV_zero]
          have HPS := Lib.hid (Parse_some (ev := ev) Tb l w12 (HEV.out.below HB12.out) (HRD.out (by first | rfl | trivial)))
          unfold PNodes at HPS
          obtain ⟨N, hN⟩ : ∃ N, N = l.length := ⟨_, rfl⟩
          rw [← hN] at HPS
          clear hN HRD
          go_wp2_with fail
          refine HPS.out.mono ?_
          rintro e w13 ⟨g13, cap13, rfl, ho13, hb13⟩
          have HB13 := Lib.hid (HB12.out.trans (hb13.mono HB12.out.size))
          have HQ13 := Lib.hid (Rd.of_own ho13)
          clear ho13 hb13 HPS
          go_wp2_with fail
          refine (HMY.out _ w13 HQ13.out).mono ?_
          rintro e w14 ⟨y2, rfl, hy2, hb14⟩
          have HB14 := Lib.hid (HB13.out.trans (hb14.mono HB13.out.size))
          have hyy : y2 = true := by
            have h1 := HY.out
            exact hy2.2 (h1.1 trivial)
          subst hyy
          clear hb14 hy2
          go_wp2_with fail
          go_ret
          exact ⟨rfl, HB14.out⟩
        · rw [errV_ne hc]
          clear hc HRD
          go_wp2_with fail
          go_ret
          exact ⟨rfl, HB12.out⟩
      · have hy1 : y = false := by
          cases y with
          | false => rfl
          | true => exact absurd (HYX.out.1 rfl) hxs
        subst hy1
        have q1 : ((xe : Int) == (s.size : Int)) = false := by rw [beq_eq_false_iff_ne]; omega
        have q2 : (xe == s.size) = false := by rw [beq_eq_false_iff_ne]; exact hxs
        clear hxs HYX
        go_wp2_with fail
        refine HYS.out.mono ?_
        rintro e w11 ⟨z, rfl, hz, hb11⟩
        have HB11 := Lib.hid (HB10.out.trans (hb11.mono HB10.out.size))
        have hzy : z = false := by
          have h1 := HY.out
          rw [HEF.out] at hz
          cases z <;> simp_all
        subst hzy
        clear hb11 hz HYS
        go_wp2_with fail
        refine (HPR.out w11 (HR.out.below HB11.out)).mono ?_
        rintro e w12 ⟨rfl, hb12⟩
        have HB12 := Lib.hid (HB11.out.trans (hb12.mono HB11.out.size))
        clear hb12 HPR
        rcases hc0 with rfl | hc
        · rw [errV_zero]
          have HPS := Lib.hid (Parse_some (ev := ev) Tb l w12 (HEV.out.below HB12.out) (HRD.out (by first | rfl | trivial)))
          unfold PNodes at HPS
          obtain ⟨N, hN⟩ : ∃ N, N = l.length := ⟨_, rfl⟩
          rw [← hN] at HPS
          clear hN HRD
          go_wp2_with fail
          refine HPS.out.mono ?_
          rintro e w13 ⟨g13, cap13, rfl, ho13, hb13⟩
          have HB13 := Lib.hid (HB12.out.trans (hb13.mono HB12.out.size))
          have HQ13 := Lib.hid (Rd.of_own ho13)
          clear ho13 hb13 HPS
          go_wp2_with fail
          refine (HMY.out _ w13 HQ13.out).mono ?_
          rintro e w14 ⟨y2, rfl, hy2, hb14⟩
          have HB14 := Lib.hid (HB13.out.trans (hb14.mono HB13.out.size))
          have hyy : y2 = false := by
            have h1 := HY.out
            cases y2 <;> simp_all
          subst hyy
          clear hb14 hy2
          go_wp2_with fail
          go_ret
          exact ⟨rfl, HB14.out⟩
        · rw [errV_ne hc]
          clear hc HRD
          go_wp2_with fail
          go_ret
          exact ⟨rfl, HB12.out⟩
    · have hy1 : y = false := by
        cases y with
        | false => rfl
        | true => exact absurd (HY.out.1 rfl) hxf
      subst hy1
      rw [hn, hle]
      have q1 : ((-1 : Int) == (s.size : Int)) = false := by rw [beq_eq_false_iff_ne]; omega
      clear hn hle hxf
      go_wp2_with fail
      refine HYS.out.mono ?_
      rintro e w11 ⟨z, rfl, hz, hb11⟩
      have HB11 := Lib.hid (HB10.out.trans (hb11.mono HB10.out.size))
      have hzy : z = false := by
        have h1 := HY.out
        rw [HEF.out] at hz
        cases z <;> simp_all
      subst hzy
      clear hb11 hz HYS
      go_wp2_with fail
      refine (HPR.out w11 (HR.out.below HB11.out)).mono ?_
      rintro e w12 ⟨rfl, hb12⟩
      have HB12 := Lib.hid (HB11.out.trans (hb12.mono HB11.out.size))
      clear hb12 HPR
      rcases hc0 with rfl | hc
      · rw [errV_zero]
        have HPS := Lib.hid (Parse_some (ev := ev) Tb l w12 (HEV.out.below HB12.out) (HRD.out (by first | rfl | trivial)))
        unfold PNodes at HPS
        obtain ⟨N, hN⟩ : ∃ N, N = l.length := ⟨_, rfl⟩
        rw [← hN] at HPS
        clear hN HRD
        go_wp2_with fail
        refine HPS.out.mono ?_
        rintro e w13 ⟨g13, cap13, rfl, ho13, hb13⟩
        have HB13 := Lib.hid (HB12.out.trans (hb13.mono HB12.out.size))
        have HQ13 := Lib.hid (Rd.of_own ho13)
        clear ho13 hb13 HPS
        go_wp2_with fail
        refine (HMY.out _ w13 HQ13.out).mono ?_
        rintro e w14 ⟨y2, rfl, hy2, hb14⟩
        have HB14 := Lib.hid (HB13.out.trans (hb14.mono HB13.out.size))
        have hyy : y2 = false := by
          have h1 := HY.out
          cases y2 <;> simp_all
        subst hyy
        clear hb14 hy2
        go_wp2_with fail
        go_ret
        exact ⟨rfl, HB14.out⟩
      · rw [errV_ne hc]
        clear hc HRD
        go_wp2_with fail
        go_ret
        exact ⟨rfl, HB12.out⟩
  · have HMN := Lib.hid (fun W h => MYes_no l v s W h hme)
    unfold MYesNo at HMN
    rw [errV_ne hme] at HMN
    clear hr hok hokc hs hx hev ht hme
    go_enter Tryz.func6, Tryz.ntmps6
    go_wp2_with fail
    refine HONE.out.mono ?_
    rintro e w1 ⟨rfl, hb1⟩
    have HB1 := Lib.hid hb1
    clear hb1 HONE
    go_wp2_with fail
    refine (HMN.out w1 (HR.out.below HB1.out)).mono ?_
    rintro e w2 ⟨rfl, hb2⟩
    have HB2 := Lib.hid (HB1.out.trans (hb2.mono HB1.out.size))
    clear hb2
    go_wp2_with fail
    go_ret
    exact ⟨rfl, HB2.out⟩
end Go.Proofs.YthcahjnniendnadGreatDoor.topFour
