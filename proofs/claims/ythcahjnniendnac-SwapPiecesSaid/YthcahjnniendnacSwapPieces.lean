/-
  Proved: winnowfanlaw3.SwapPieces returns true for every pattern and text, and changes nothing that was there. No condition beyond the row's own.
-/
import Derived.Test.YthcahjnniendnacEmptyNo
import Derived.Test.YthcahjnniendnacFindE
import Derived.Test.YthcahjnniendnacLaw
import Derived.Test.YthcahjnniendnacOpen
import Derived.Test.YthcahjnniendnacPq
import Derived.Test.YthcahjnniendnacSwapA
import Derived.Test.YthcahjnniendnacTexts
namespace Go.Proofs.Ythcahjnniendnac.swapPieces
open Go.ChangeShapes Go.WideShapes Go.ChangeAt Go.RowKit Wf
open Go.ChangeMaps (open_string shut_string)
open law (own laidOut LawIs)
set_option linter.unusedVariables false

theorem fact_rd (w : World) (B : Nat) (hB : w.heap.size = B) (a0 a1 a2 a3 : Nat) : RdN (w.alloc (.cells #[.int .i64 1, .int .u64 (a0 : Int), .int .u64 (a1 : Int), .int .u64 (a2 : Int), .int .u64 (a3 : Int)] 28)) (.slice (some ⟨B, 0, none⟩) 1 1) [⟨1, (a0, a1, a2, a3)⟩] := by
  subst hB
  refine ⟨_, 1, 1, rfl, by omega, by omega, rfl, fun _ => ⟨_, 0, rfl, fun j u hu => ?_⟩⟩
  rw [Nat.zero_add, World.cell?_alloc_new, ← hu]
  simp [ndCells]
theorem fact_tx (w : World) (B : Nat) (hB : w.heap.size = B) : Rd1 (w.alloc (.cells #[.string ⟨#[97]⟩, .string ⟨#[98]⟩] 9)) (.slice (some ⟨B, 0, none⟩) 2 2) (strVals [⟨#[97]⟩, ⟨#[98]⟩]) := by
  subst hB
  refine ⟨_, 2, 2, rfl, by omega, by omega, rfl, fun _ => ⟨_, 0, rfl, fun j u hu => ?_⟩⟩
  rw [Nat.zero_add, World.cell?_alloc_new, ← hu]
  simp [strVals]
theorem fact_comma : spansO [97, 44, 98] (.byte (ofL [44] zc)) 0 = [(1, 2)] := by
  rw [spans_eq (by decide +kernel)]
  decide +kernel
theorem fact_is (c : Cls) (hc : c = ofL [44] zc) : piecesB ⟨#[97, 44, 98]⟩ (spansO (ByteArray.mk #[97, 44, 98]).data.toList (.byte c) 0) = [⟨#[97]⟩, ⟨#[98]⟩] := by
  have h2 : spansO (ByteArray.mk #[97, 44, 98]).data.toList (.byte c) 0 = [(1, 2)] := by rw [hc]; exact fact_comma
  rw [h2]
  rfl

set_option maxRecDepth 100000 in
set_option maxHeartbeats 16000000 in
theorem walk (l : List Nd) (v : Value) (s : ByteArray) (w : World) (hr : RdN w v l) (hok : ∀ n ∈ l, okNd n) (hs : s.size ≤ maxLen) :
    Calls Try.prog 3 #[v, .string s] w (LawIs w) := by
  have hokc : ∀ n ∈ l, okC n.cls := fun n hn => (hok n hn).2.2
  unfold maxLen at hs
  obtain ⟨t, ht⟩ := tree_of l
  have HR := Lib.hid hr
  have HT := Lib.hid ht
  have HOKC := Lib.hid hokc
  have HSZ : Hid (s.data.toList.length = s.size) := Lib.hid (by simp)
  clear hr hok hokc ht
  go_enter Try.func3, Try.ntmps3
  go_wp2_with fail
  refine (Of_any _ _ (by decide)).mono ?_
  rintro e w1 ⟨a0, a1, a2, a3, rfl, ha, hb1⟩
  have HFA := Lib.hid (fact_is (a0, a1, a2, a3) ha)
  have HOC : Hid (∀ n ∈ [(⟨1, (a0, a1, a2, a3)⟩ : Nd)], okC n.cls) := Lib.hid (by
    intro n hn
    obtain rfl := List.mem_singleton.1 hn
    show okC (a0, a1, a2, a3)
    rw [ha]; exact okC_ofL _ _ okC_zc)
  have HB1 := Lib.hid hb1
  clear ha hb1
  go_wp2_with fail
  refine (split_ok [⟨1, (a0, a1, a2, a3)⟩] (.byte (a0, a1, a2, a3)) rfl (by simp) HOC.out ⟨#[97, 44, 98]⟩ (by decide) _ _ (fact_rd _ _ (by simp) a0 a1 a2 a3)).mono ?_
  rintro e w2 ⟨g2, c2, he, hown2, hb2⟩
  rw [HFA.out] at he hown2
  obtain rfl : e = .returned (.tuple #[.slice (some ⟨g2, 0, none⟩) 2 c2, .nilIface]) := he
  have HRD2 : Hid (Rd1 w2 (.slice (some ⟨g2, 0, none⟩) 2 c2) (strVals [⟨#[97]⟩, ⟨#[98]⟩])) := Lib.hid (Rd.of_own hown2)
  have HB2 := Lib.hid ((HB1.out.alloc HB1.out.size _).trans (hb2.mono (Nat.le_trans HB1.out.size (by simp))))
  clear hb2 HB1 hown2
  go_wp2_with fail
  refine (Texts_same [⟨#[97]⟩, ⟨#[98]⟩] _ _ _ (HRD2.out.below ((Below.refl _ _).alloc (Nat.le_refl _) _)) (fact_tx w2 _ rfl)).mono ?_
  rintro e w3 ⟨rfl, hb3⟩
  have HB3 := Lib.hid ((HB2.out.alloc HB2.out.size _).trans (hb3.mono (Nat.le_trans HB2.out.size (by simp))))
  clear hb3 HB2 HRD2
  by_cases hcf : chkF l s.size = 0
  · obtain ⟨hc2, hs4⟩ := chkF_zero hcf
    have hlen := (chk_tree hc2).1
    have htt := HT.out hc2
    have HSP := Lib.hid (fun W h => split_ok l t htt hlen HOKC.out s hs4 v W h)
    have HAL := Lib.hid (fun W h => all_ok l t htt hlen HOKC.out s hs4 v W h)
    have HRE := Lib.hid (fun W h => repl_any l t htt hlen HOKC.out s ⟨#[]⟩ hs4 (by decide) v W h)
    have hri : Rise s.size 0 (spansO s.data.toList t 0) := by
      have := allO_rise (long_behind s.data.toList t) 0
      unfold spansO
      rw [HSZ.out] at this ⊢
      exact this
    have hln : (spansO s.data.toList t 0).length ≤ 401 := by
      have := allO_len (long_behind s.data.toList t) 0
      unfold spansO
      rw [HSZ.out] at this ⊢
      omega
    unfold SplitIs at HSP
    unfold AllIs at HAL
    generalize spansO s.data.toList t 0 = sp at *
    have HCS : Hid (chkSw l s ⟨#[]⟩ sp = 0) := Lib.hid (by
      have h1 : (swapL s ⟨#[]⟩ sp).length ≤ s.size := by
        have := jl_all hri
        unfold jl at this
        rw [show (sp.length + 1) = (piecesB s sp).length by rw [piecesB_len], List.take_length] at this
        exact this
      unfold chkSw
      rw [if_neg (by simp [hcf]), if_neg (by decide), if_neg (by omega)])
    have HSW : Hid (swapL s ⟨#[]⟩ sp = jl (piecesB s sp) ⟨#[]⟩ (sp.length + 1)) := Lib.hid (by
      unfold jl
      rw [show (sp.length + 1) = (piecesB s sp).length by rw [piecesB_len], List.take_length]
      rfl)
    have HRI := Lib.hid hri
    have HPL := Lib.hid (piecesB_len s sp)
    have HPG := Lib.hid (fun (k a b : Nat) (h : sp[k]? = some (a, b)) => pieces_get (tx := s) h)
    have HPE := Lib.hid (pieces_last s sp)
    have HJM := Lib.hid (fun (k : Nat) (x : ByteArray) (h : (piecesB s sp)[k]? = some x) => jl_more h)
    have HJZ := Lib.hid (jl_zero (piecesB s sp) ⟨#[]⟩)
    have HJL := Lib.hid (jl_le hri)
    have HJA := Lib.hid (jl_all hri)
    generalize hpc : piecesB s sp = pc at *
    have hpl : pc.length = sp.length + 1 := HPL.out
    have hp1 : pc.length ≤ 402 := by omega
    have HPLI : Hid ((pc.length : Int) = (sp.length : Int) + 1) := Lib.hid (by omega)
    clear hcf hc2 hlen htt hri hpc hpl
    go_wp2_with fail
    refine (HSP.out _ (HR.out.below HB3.out)).mono ?_
    rintro e w4 ⟨g4, c4, rfl, hown4, hb4⟩
    have HB4 := Lib.hid (HB3.out.trans (hb4.mono HB3.out.size))
    have HX4 := Lib.hid (Rd.of_own hown4)
    clear hown4 hb4
    go_wp2_with fail
    refine (HAL.out _ (HR.out.below HB4.out)).mono ?_
    rintro e w5 ⟨A5, c5, rfl, hown5, hb5⟩
    have HB5 := Lib.hid (HB4.out.trans (hb5.mono HB4.out.size))
    have hx5 := HX4.out.below hb5
    obtain ⟨A5', c5', hv5, q1, q2, hm5⟩ := span_open (Rd.of_own hown5)
    injection hv5 with e1 _ e2
    subst e1
    subst e2
    obtain ⟨A4', c4', hv4, p1, p2, hm4⟩ := str_open hx5
    injection hv4 with e1 _ e2
    subst e1
    subst e2
    have HM5 := Lib.hid hm5
    have HM4 := Lib.hid hm4
    have dne : ((pc.length : Int) != (sp.length : Int) + 1) = false := by rw [HPLI.out]; simp
    clear hown5 hb5 hx5 hm5 hm4 HX4
    go_wp2_with fail
    go_loopw [13, 14, 15] (fun v13 v14 v15 wr => ∃ (k : Nat) (o1 o2 : ByteArray), k ≤ pc.length ∧ v15 = .int .i64 (k : Int) ∧ v13 = .string o1 ∧ v14 = .string o2 ∧ o1.size ≤ s.size ∧ o2.size ≤ s.size ∧ Hid (o1.data.toList = if k ≤ sp.length then s.data.toList.take (lastB 0 (sp.take k)) else s.data.toList) ∧ Hid (o2.data.toList = jl pc ⟨#[]⟩ k) ∧ Hid (Below w5.heap.size w5 wr)) (fun _ _ i _ => pc.length - (intOf i).toNat)
    case atStart => exact ⟨0, ⟨#[]⟩, ⟨#[]⟩, by omega, rfl, rfl, rfl, Nat.zero_le _, Nat.zero_le _, Lib.hid (by rw [if_pos (Nat.zero_le _)]; rfl), Lib.hid (by rw [HJZ.out]), Lib.hid (Below.refl _ _)⟩
    case round =>
      obtain ⟨k, o1, o2, hk, rfl, rfl, rfl, ho1, ho2, HO1, HO2, HB⟩ := hrel
      have HBW := Lib.hid (HB5.out.trans (HB.out.mono HB5.out.size))
      by_cases hlt : k < pc.length
      · have d1 : decide (k < pc.length) = true := by simpa using hlt
        obtain ⟨b4, o4, heq, hb4, hc4⟩ := HM4.out (by omega)
        injection heq with heq
        injection heq with h1 h2
        subst h1
        subst h2
        have hk0 : (0 : Int) ≤ (k : Int) := by omega
        have hk1 : (k : Int) < (pc.length : Int) := by omega
        by_cases hsp : k < sp.length
        · have d2 : decide (k < sp.length) = true := by simpa using hsp
          have hq : sp[k]? = some (sp[k]'hsp) := List.getElem?_eq_getElem hsp
          generalize sp[k]'hsp = q at hq
          obtain ⟨a, b⟩ := q
          have hri := HRI.out
          rw [split_at hq] at hri
          obtain ⟨r1, r2, r3⟩ := hri.at_
          have hpg := HPG.out k a b hq
          have g0 := hc4 wr (fun o => HB.out.cell (p := ⟨g4, o, none⟩) hb4) k _ hpg
          rw [Nat.zero_add] at g0
          obtain ⟨b5, o5, rfl, hb5', hc5⟩ := HM5.out (by omega)
          obtain ⟨f0, f1⟩ := hc5 wr (fun o => HB.out.cell (p := ⟨b5, o, none⟩) hb5') k a b hq
          have hsp1 : (k : Int) < (sp.length : Int) := by omega
          have h1l : o1.data.toList = s.data.toList.take (lastB 0 (sp.take k)) := by have := HO1.out; rwa [if_pos (by omega)] at this
          have h1n : (o1 ++ s.extract (lastB 0 (sp.take k)) a ++ s.extract a b).data.toList = s.data.toList.take (lastB 0 (sp.take (k + 1))) := by
            rw [take_more hq, lastB_snoc, ByteArray.data_append, ByteArray.data_append, Array.toList_append, Array.toList_append, h1l, take_ext s _ a r1, take_ext s a b r2]
          have h2n : (o2 ++ s.extract (lastB 0 (sp.take k)) a).data.toList = jl pc ⟨#[]⟩ (k + 1) := by
            rw [HJM.out k _ hpg, ByteArray.data_append, Array.toList_append, HO2.out]
          have H1N : Hid ((o1 ++ s.extract (lastB 0 (sp.take k)) a ++ s.extract a b).data.toList = if k + 1 ≤ sp.length then s.data.toList.take (lastB 0 (sp.take (k + 1))) else s.data.toList) := Lib.hid (by rw [if_pos (by omega)]; exact h1n)
          have H2N := Lib.hid h2n
          have s1 : (o1 ++ s.extract (lastB 0 (sp.take k)) a ++ s.extract a b).size ≤ s.size := by
            have := congrArg List.length h1n
            rw [List.length_take, show ∀ x : ByteArray, x.data.toList.length = x.size from fun x => by simp, HSZ.out] at this
            omega
          have s2 : (o2 ++ s.extract (lastB 0 (sp.take k)) a).size ≤ s.size := by
            have h3 := congrArg List.length h2n
            have h4 := HJL.out (k + 1) (by omega)
            have h5 := HRI.out.last (Nat.zero_le _)
            rw [show ∀ x : ByteArray, x.data.toList.length = x.size from fun x => by simp] at h3
            have h6 : lastB 0 (sp.take (k + 1)) ≤ s.size := by rw [take_more hq, lastB_snoc]; exact r3
            omega
          have i1 : (a : Int) ≤ (b : Int) := by omega
          have i2 : (b : Int) ≤ (s.size : Int) := by omega
          have hx1 : (s.extract (lastB 0 (sp.take k)) a).size ≤ s.size := extract_le _ _ _
          clear hq hri hpg hc4 hc5 h1l h1n h2n hlt hsp
          generalize s.extract (lastB 0 (sp.take k)) a = pk at *
          go_wp2_with fail
          go_quiet (fail)
          go_wp2_with fail
          go_roundw
          case rel => exact ⟨k + 1, _, _, by omega, by go_num, rfl, rfl, s1, s2, H1N, H2N, Lib.hid (below_drewN HB.out _)⟩
          case measure => simp [intOf]; omega
        · have hke : k = sp.length := by have := HPL.out; omega
          have d2 : decide (k < sp.length) = false := by simpa using hsp
          have hpg := HPE.out
          rw [← hke] at hpg
          have g0 := hc4 wr (fun o => HB.out.cell (p := ⟨g4, o, none⟩) hb4) k _ hpg
          rw [Nat.zero_add] at g0
          have hlast := HRI.out.last (Nat.zero_le _)
          have h1l : o1.data.toList = s.data.toList.take (lastB 0 sp) := by have := HO1.out; rwa [if_pos (by omega), hke, List.take_length] at this
          have h1n : (o1 ++ s.extract (lastB 0 sp) s.size).data.toList = s.data.toList := by
            rw [ByteArray.data_append, Array.toList_append, h1l, take_ext s _ _ hlast.1, ← HSZ.out, List.take_length]
          have h2n : (o2 ++ s.extract (lastB 0 sp) s.size).data.toList = jl pc ⟨#[]⟩ (k + 1) := by
            rw [HJM.out k _ hpg, ByteArray.data_append, Array.toList_append, HO2.out]
          have H1N : Hid ((o1 ++ s.extract (lastB 0 sp) s.size).data.toList = if k + 1 ≤ sp.length then s.data.toList.take (lastB 0 (sp.take (k + 1))) else s.data.toList) := Lib.hid (by rw [if_neg (by omega)]; exact h1n)
          have H2N := Lib.hid h2n
          have s1 : (o1 ++ s.extract (lastB 0 sp) s.size).size ≤ s.size := by
            have := congrArg List.length h1n
            rw [show ∀ x : ByteArray, x.data.toList.length = x.size from fun x => by simp, HSZ.out] at this
            omega
          have s2 : (o2 ++ s.extract (lastB 0 sp) s.size).size ≤ s.size := by
            have h3 := congrArg List.length h2n
            have h4 := HJA.out
            rw [show ∀ x : ByteArray, x.data.toList.length = x.size from fun x => by simp, hke] at h3
            omega
          have hx1 : (s.extract (lastB 0 sp) s.size).size ≤ s.size := extract_le _ _ _
          clear hpg hc4 h1l h1n h2n hlt hsp hlast hke
          generalize s.extract (lastB 0 sp) s.size = pk at *
          go_wp2_with fail
          go_roundw
          case rel => exact ⟨k + 1, _, _, by omega, by go_num, rfl, rfl, s1, s2, H1N, H2N, HB⟩
          case measure => simp [intOf]; omega
      · have hke : k = sp.length + 1 := by have := HPL.out; omega
        have hks : k = pc.length := by omega
        have d1 : decide (k < pc.length) = false := by simp; omega
        have e1 : o1 = s := by
          have := HO1.out
          rw [if_neg (by omega)] at this
          have h2 : o1.data = s.data := Array.ext' this
          cases o1; cases s; simp at h2; rw [h2]
        have e2 : o2 = ⟨(swapL s ⟨#[]⟩ sp).toArray⟩ := by
          rw [HSW.out, ← hke, ← HO2.out]
        have HE2 := Lib.hid e2
        have HE1 := Lib.hid e1
        clear e1 e2 hke hks hlt
        go_wp2_with fail
        refine (HRE.out wr (HR.out.below HBW.out)).mono ?_
        rintro e w8 (⟨_, rfl, hb8⟩ | ⟨h3, _⟩)
        · have HB8 := Lib.hid (HBW.out.trans (hb8.mono HBW.out.size))
          rw [← HE2.out, HE1.out]
          clear hb8
          go_wp2_with fail
          go_ret
          exact ⟨rfl, HB8.out⟩
        · rw [HCS.out] at h3
          cases h3
  · have HSP := Lib.hid (fun W h => split_no l s hs v W h hcf)
    have HAL := Lib.hid (fun W h => all_no l s hs v W h hcf)
    have HEV := Lib.hid (errV_ne hcf)
    unfold SplitNo at HSP
    unfold AllNo at HAL
    rw [HEV.out] at HSP HAL
    clear hcf
    go_wp2_with fail
    refine (HSP.out _ (HR.out.below HB3.out)).mono ?_
    rintro e w4 ⟨rfl, hb4⟩
    have HB4 := Lib.hid (HB3.out.trans (hb4.mono HB3.out.size))
    clear hb4
    go_wp2_with fail
    refine (HAL.out _ (HR.out.below HB4.out)).mono ?_
    rintro e w5 ⟨rfl, hb5⟩
    have HB5 := Lib.hid (HB4.out.trans (hb5.mono HB4.out.size))
    clear hb5
    go_wp2_with fail
    go_ret
    exact ⟨rfl, HB5.out⟩

/-! ### THE ROW's STEP -/
set_option maxRecDepth 100000 in
theorem lifted (os : Os) (started : os.Started) (H : Type) (enc : TypeId × Value → H) :
    ReturnsInHanded {} Try.checked os 3 .any (Rows.swapPiecesSpec.pre6 enc Try.prog Try.f3 Rows.swapPiecesRow.domain false) (Rows.swapPiecesSpec.post enc Try.prog Try.f3 false true false false) := by
  refine returnsInHanded_of_change (C := Try.checked) own started (by kernel_rfl) Try.func3
    (ChangeSpec.witness6 (enc := enc) (C := Try.checked) false ⟨#[], #[.slice none 0 0, .string ByteArray.empty], []⟩ 8 (by kernel_rfl) (by kernel_rfl) (by kernel_rfl) (by kernel_rfl)) ?_
  intro W base args ds gs before hval0 hW hcnd _
  have hval : ∀ (j : Nat) t v, Try.f3.params[j]? = some t → args[j]? = some v → Value.okWide Try.prog W .any base t v := hval0
  have hW' := hW
  obtain ⟨p, q, hA0, hV, rfl, hfz, hnd⟩ := hW
  have hA : DataW.TrodAll enc Try.prog W 0 (fun _ => true) true Try.f3.params.toList args.toList ds p := hA0
  rw [Try.params3] at hA hval
  obtain ⟨v0, vs0, d0, ds0, p0, q0, hargs, rfl, rfl, h0, r0⟩ := trodAll_cons hA
  obtain ⟨v1, vs1, d1, ds1, p1, q1, rfl, rfl, rfl, h1, r1⟩ := trodAll_cons r0
  obtain ⟨rfl, rfl, rfl⟩ := trodAll_nil r1
  obtain rfl : args = #[v0, v1] := by cases args; simp_all
  obtain ⟨rfl, rfl⟩ := trodVars_none hV
  obtain ⟨a0, len0, cap0, rfl⟩ := okWide_slice Try.underlying22 (hval 0 22 v0 rfl rfl)
  have k0 := h0
  have lt0 : ∀ x ∈ p0, x.block < W.heap.size := by obtain ⟨m, hm⟩ := k0; exact DataW.trod_lt m _ _ _ hm
  obtain ⟨z0, w0, ok0⟩ : ∃ l, RdN W (.slice a0 len0 cap0) l ∧ ∀ nd ∈ l, okNd nd := by obtain ⟨fuel, hf⟩ := h0; exact open_nodes (by simpa [Value.cells] using hf)
  have k1 := h1
  have lt1 : ∀ x ∈ p1, x.block < W.heap.size := by obtain ⟨m, hm⟩ := k1; exact DataW.trod_lt m _ _ _ hm
  obtain ⟨s1, rfl, rfl, rfl, ws1⟩ := open_string Try.underlying9 (hval 1 9 v1 rfl rfl) h1
  clear hA0 hval0
  refine (walk z0 _ s1 W w0 ok0 (by simpa using ws1)).mono fun e W' ⟨he, bel⟩ => ?_
  subst he
  exact ⟨_, rfl, _, _, _, [], _, [], hW', trodAll_mk1 (shut_bool Try.underlying4 _), (trodAll_cons_mk (Below.trod laidOut (by kernel_rfl) (of_decide_eq_true (by kernel_rfl)) k0 bel lt0) (trodAll_cons_mk (shut_string Try.underlying9 ws1) trodAll_mk0)), rfl, bel.frame _, fun h => by cases h⟩

theorem over : Rows.swapPiecesRow.holds Try.pinned (OpenSpec.ofChange Rows.swapPiecesSpec) :=
  OpenClaim.holds_of_wide 3 Try.f3 rfl rfl rfl rfl rfl rfl rfl ⟨rfl, rfl, rfl, rfl, rfl⟩ rfl rfl rfl rfl rfl (by kernel_rfl) Try.func3 (by kernel_rfl)
    (of_decide_eq_true (by kernel_rfl)) (by unfold Func.isWrapper; first | (rw [if_pos (by decide +kernel)]; kernel_rfl) | (rw [if_neg (by decide +kernel)]; exact ⟨rfl, rfl⟩))
    (fun os started H enc _ => lifted os started H enc)

/-- THE STATEMENT -/
theorem proved : Rows.SwapPiecesSaid := over


end Go.Proofs.Ythcahjnniendnac.swapPieces
