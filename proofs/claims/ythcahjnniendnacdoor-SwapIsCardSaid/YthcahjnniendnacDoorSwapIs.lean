/-
  Proved: winnowfanlaw3.SwapIs returns true for every pattern and texts, and changes nothing that was there.
-/
import Derived.Test.YthcahjnniendnacDoorAs
import Derived.Test.YthcahjnniendnacDoorEmptyNo
import Derived.Test.YthcahjnniendnacDoorFindE
import Derived.Test.YthcahjnniendnacDoorGRef
import Derived.Test.YthcahjnniendnacDoorLaid
import Derived.Test.YthcahjnniendnacDoorLaw
import Derived.Test.YthcahjnniendnacDoorOpen
import Derived.Test.YthcahjnniendnacDoorSwapA
import Derived.Test.YthcahjnniendnacDoorSwapR
import Derived.Test.YthcahjnniendnacDoorTexts
import Derived.Test.YthcahjnniendnacDoorTie
import Derived.Test.YthcahjnniendnacDoorCards
namespace Go.Proofs.YthcahjnniendnacDoor.swapIs
open Go.ChangeShapes Go.WideShapes Go.ChangeAt Go.RowKit Wf
open Go.ChangeMaps (open_string shut_string)
open law (own laidOut LawIs laidL laidWorld laidWorld_met handle_of_laid)
set_option linter.unusedVariables false

def ReplAny (r : List UInt8 × Int) (w : World) (e : Ending) (w' : World) : Prop := e = .returned (.tuple #[.string ⟨r.1.toArray⟩, errV r.2]) ∧ Below w.heap.size w w'
theorem repl_is (l : List Nd) (t : Rx) (hl : l = flat t) (ht : l.length ≤ 60) (hok : ∀ n ∈ l, okC n.cls) (tx bx : ByteArray) (hx : tx.size ≤ 400) (hbx : bx.size ≤ 9223372036854775807) (v : Value) (w : World) (hr : RdN w v l) :
    Calls Tryd.prog 26 #[v, .string tx, .string bx] w (ReplAny (swapO tx bx (spansO tx.data.toList t 0)) w) := by
  have hchk : chkF l tx.size = 0 := by
    unfold chkF
    rw [if_neg (by rw [hl, chk_flat t (by rw [← hl]; exact ht)]; simp), if_neg (by omega)]
  refine (repl_any l t hl ht hok tx bx hx hbx v w hr).mono ?_
  have e0 : swapL tx bx (spansO tx.data.toList t 0) = swapR tx bx (spansO tx.data.toList t 0) := rfl
  rintro e w' (⟨hc, he, hb⟩ | ⟨hc, he, hb⟩)
  · unfold chkSw at hc
    rw [if_neg (by simp [hchk])] at hc
    unfold swapO
    split at hc
    · cases hc
    · rename_i h1
      split at hc
      · cases hc
      · rename_i h2
        rw [if_neg h1, if_neg (by rw [← e0]; exact h2)]
        exact ⟨by rw [he, e0]; rfl, hb⟩
  · unfold chkSw at hc
    rw [if_neg (by simp [hchk])] at hc
    unfold swapO
    split at hc
    · rename_i h1
      rw [if_pos h1]
      exact ⟨he, hb⟩
    · rename_i h1
      split at hc
      · rename_i h2
        rw [if_neg h1, if_pos (by rw [← e0]; exact h2)]
        exact ⟨he, hb⟩
      · cases hc

set_option maxRecDepth 100000 in
set_option maxHeartbeats 16000000 in
theorem walk (l : List Nd) (v : Value) (s bx : ByteArray) (w : World) (hr : RdN w v l) (hok : ∀ n ∈ l, okNd n) (hs : s.size ≤ maxLen) (hbx : bx.size ≤ maxLen) (hg : ErrT w) :
    Calls Tryd.prog 7 #[v, .string s, .string bx] w (LawIs w) := by
  have hokc : ∀ n ∈ l, okC n.cls := fun n hn => (hok n hn).2.2
  unfold maxLen at hs hbx
  obtain ⟨t, ht⟩ := tree_of l
  obtain ⟨A, cap, rfl, hcap, hcap2, hmem⟩ := hr.open_
  have HF := Lib.hid (RFault_any l _ w hr hokc)
  unfold RFaultIs at HF
  have HR := Lib.hid hr
  have HG := Lib.hid hg
  have HS := Lib.hid (fun n W h => SErr_any n n W h)
  by_cases hcf : chkF l s.size = 0
  · obtain ⟨hc2, hs4⟩ := chkF_zero hcf
    have hlen := (chk_tree hc2).1
    have htt := ht hc2
    have hpos : 0 < l.length := by rw [htt]; exact flat_pos t
    obtain ⟨b, off, rfl, _⟩ := hmem hpos
    have HRP := Lib.hid (fun W h => RPieces_ok l t htt hokc hlen b off cap s hs4 W h)
    have HRS := Lib.hid (fun W h => RSwap_ok l t htt hokc hlen b off cap s bx hs4 hbx W h)
    have HSP := Lib.hid (fun W h => split_ok l t htt hlen hokc s hs4 (.slice (some ⟨b, off, none⟩) l.length cap) W h)
    have HRE := Lib.hid (fun W h => repl_is l t htt hlen hokc s bx hs4 hbx (.slice (some ⟨b, off, none⟩) l.length cap) W h)
    unfold RPiecesIs at HRP
    unfold RSwapIs at HRS
    unfold SplitIs at HSP
    unfold ReplAny at HRE
    generalize swapO s bx (spansO s.data.toList t 0) = R at HRS HRE
    generalize piecesB s (spansO s.data.toList t 0) = pc at HRP HSP
    obtain ⟨rt, n⟩ := R
    dsimp only at HRS HRE
    generalize ByteArray.mk rt.toArray = T at HRS HRE
    have d1 : decide ((400 : Int) < (s.size : Int)) = false := by simp; omega
    rw [hc2] at HF
    clear hr hg hok hokc ht htt hmem hcf hc2
    go_enter Tryd.func7, Tryd.ntmps7
    go_wp2_with fail
    refine HF.out.mono ?_
    rintro e w1 ⟨rfl, hb1⟩
    have HB1 := Lib.hid hb1
    clear hb1
    go_wp2_with fail
    refine (HRP.out w1 (HR.out.below HB1.out)).mono ?_
    rintro e w2 ⟨g2, c2, rfl, hrd2, hb2⟩
    have HB2 := Lib.hid (HB1.out.trans (hb2.mono HB1.out.size))
    have HP2 := Lib.hid hrd2
    clear hb2 hrd2
    go_wp2_with fail
    refine (HRS.out w2 (HR.out.below HB2.out)).mono ?_
    rintro e w3 ⟨rfl, hb3⟩
    have HB3 := Lib.hid (HB2.out.trans (hb3.mono HB2.out.size))
    have HP3 := Lib.hid (HP2.out.below hb3)
    clear hb3
    go_wp2_with fail
    refine (HSP.out w3 (HR.out.below HB3.out)).mono ?_
    rintro e w4 ⟨g4, c4, rfl, hown4, hb4⟩
    have HB4 := Lib.hid (HB3.out.trans (hb4.mono HB3.out.size))
    have HP4 := Lib.hid (HP3.out.below hb4)
    have HQ4 := Lib.hid (Rd.of_own hown4)
    clear hb4 hown4
    have HS0 := Lib.hid (HS.out 0 w4 (HG.out.below HB4.out))
    rw [errV_zero] at HS0
    go_wp2_with fail
    refine HS0.out.mono ?_
    rintro e w5 ⟨r5, rfl, hr5, hb5⟩
    obtain rfl : r5 = true := hr5.2 rfl
    have HB5 := Lib.hid (HB4.out.trans (hb5.mono HB4.out.size))
    have HP5 := Lib.hid (HP4.out.below hb5)
    have HQ5 := Lib.hid (HQ4.out.below hb5)
    clear hb5 hr5
    go_wp2_with fail
    refine (Texts_same pc _ _ _ HQ5.out HP5.out).mono ?_
    rintro e w6 ⟨rfl, hb6⟩
    have HB6 := Lib.hid (HB5.out.trans (hb6.mono HB5.out.size))
    clear hb6
    go_wp2_with fail
    refine (HRE.out w6 (HR.out.below HB6.out)).mono ?_
    rintro e w7 ⟨rfl, hb7⟩
    have HB7 := Lib.hid (HB6.out.trans (hb7.mono HB6.out.size))
    clear hb7
    go_wp2_with fail
    refine (HS.out n w7 (HG.out.below HB7.out)).mono ?_
    rintro e w8 ⟨r8, rfl, hr8, hb8⟩
    obtain rfl : r8 = true := hr8.2 rfl
    have HB8 := Lib.hid (HB7.out.trans (hb8.mono HB7.out.size))
    clear hb8 hr8
    go_wp2_with fail
    go_ret
    exact ⟨rfl, HB8.out⟩
  · by_cases hc : chk l = 0
    · have hbig : 400 < s.size := by
        unfold chkF at hcf
        rw [if_neg (by simp [hc])] at hcf
        split at hcf
        · assumption
        · exact absurd rfl hcf
      have HSP := Lib.hid (fun W h => split_no l s hs (.slice A l.length cap) W h hcf)
      have HRE := Lib.hid (fun W h => repl_no l s bx hs (.slice A l.length cap) W h hcf)
      unfold SplitNo at HSP
      unfold ReplNo at HRE
      have h3 : chkF l s.size = 3 := by unfold chkF; rw [if_neg (by simp [hc]), if_pos hbig]
      rw [h3] at HSP HRE
      rw [hc] at HF
      have d1 : decide ((400 : Int) < (s.size : Int)) = true := by simp; omega
      clear hr hg hok hokc ht hmem hcf hc h3 hbig
      go_enter Tryd.func7, Tryd.ntmps7
      go_wp2_with fail
      refine HF.out.mono ?_
      rintro e w1 ⟨rfl, hb1⟩
      have HB1 := Lib.hid hb1
      clear hb1
      go_wp2_with fail
      refine (HSP.out w1 (HR.out.below HB1.out)).mono ?_
      rintro e w4 ⟨rfl, hb4⟩
      have HB4 := Lib.hid (HB1.out.trans (hb4.mono HB1.out.size))
      clear hb4
      go_wp2_with fail
      refine (HS.out 3 w4 (HG.out.below HB4.out)).mono ?_
      rintro e w5 ⟨r5, rfl, hr5, hb5⟩
      obtain rfl : r5 = true := hr5.2 rfl
      have HB5 := Lib.hid (HB4.out.trans (hb5.mono HB4.out.size))
      clear hb5 hr5
      go_wp2_with fail
      refine (Texts_same [] _ _ _ (Rd.nil _ _) (Rd.nil _ _)).mono ?_
      rintro e w6 ⟨rfl, hb6⟩
      have HB6 := Lib.hid (HB5.out.trans (hb6.mono HB5.out.size))
      clear hb6
      go_wp2_with fail
      refine (HRE.out w6 (HR.out.below HB6.out)).mono ?_
      rintro e w7 ⟨rfl, hb7⟩
      have HB7 := Lib.hid (HB6.out.trans (hb7.mono HB6.out.size))
      clear hb7
      go_wp2_with fail
      refine (HS.out 3 w7 (HG.out.below HB7.out)).mono ?_
      rintro e w8 ⟨r8, rfl, hr8, hb8⟩
      obtain rfl : r8 = true := hr8.2 rfl
      have HB8 := Lib.hid (HB7.out.trans (hb8.mono HB7.out.size))
      clear hb8 hr8
      go_wp2_with fail
      go_ret
      exact ⟨rfl, HB8.out⟩
    · have HSP := Lib.hid (fun W h => split_no l s hs (.slice A l.length cap) W h hcf)
      have HRE := Lib.hid (fun W h => repl_no l s bx hs (.slice A l.length cap) W h hcf)
      unfold SplitNo at HSP
      unfold ReplNo at HRE
      have h3 : chkF l s.size = chk l := by unfold chkF; rw [if_pos hc]
      rw [h3] at HSP HRE
      generalize chk l = n at *
      have hb0 : (n == 0) = false := by simpa using hc
      clear hr hg hok hokc ht hmem hcf hc h3
      go_enter Tryd.func7, Tryd.ntmps7
      go_wp2_with fail
      refine HF.out.mono ?_
      rintro e w1 ⟨rfl, hb1⟩
      have HB1 := Lib.hid hb1
      clear hb1
      go_wp2_with fail
      refine (HSP.out w1 (HR.out.below HB1.out)).mono ?_
      rintro e w4 ⟨rfl, hb4⟩
      have HB4 := Lib.hid (HB1.out.trans (hb4.mono HB1.out.size))
      clear hb4
      go_wp2_with fail
      refine (HS.out n w4 (HG.out.below HB4.out)).mono ?_
      rintro e w5 ⟨r5, rfl, hr5, hb5⟩
      obtain rfl : r5 = true := hr5.2 rfl
      have HB5 := Lib.hid (HB4.out.trans (hb5.mono HB4.out.size))
      clear hb5 hr5
      go_wp2_with fail
      refine (Texts_same [] _ _ _ (Rd.nil _ _) (Rd.nil _ _)).mono ?_
      rintro e w6 ⟨rfl, hb6⟩
      have HB6 := Lib.hid (HB5.out.trans (hb6.mono HB5.out.size))
      clear hb6
      go_wp2_with fail
      refine (HRE.out w6 (HR.out.below HB6.out)).mono ?_
      rintro e w7 ⟨rfl, hb7⟩
      have HB7 := Lib.hid (HB6.out.trans (hb7.mono HB6.out.size))
      clear hb7
      go_wp2_with fail
      refine (HS.out n w7 (HG.out.below HB7.out)).mono ?_
      rintro e w8 ⟨r8, rfl, hr8, hb8⟩
      obtain rfl : r8 = true := hr8.2 rfl
      have HB8 := Lib.hid (HB7.out.trans (hb8.mono HB7.out.size))
      clear hb8 hr8
      go_wp2_with fail
      go_ret
      exact ⟨rfl, HB8.out⟩

/-! ### THE ROW's STEP -/
set_option maxRecDepth 100000 in
theorem lifted (os : Os) (started : os.Started) (H : Type) (enc : TypeId × Value → H) :
    ReturnsInHanded {} Tryd.checked os 7 .any (fun w args => (Rows.swapIsSpec.pre enc Tryd.prog Tryd.f7 [] false w args ∧ laidMetH Tryd.prog laidL w) ∧ sizedMet enc Tryd.prog Tryd.f7 (OpenSpec.ofChange Rows.swapIsSpec) false w args)
      (Rows.swapIsSpec.post enc Tryd.prog Tryd.f7 false true false false) := by
  refine returnsInHanded_of_change_and (C := Tryd.checked) (X := fun w _ => laidMetH Tryd.prog laidL w) (fun _ _ _ hh h => h.of_heap hh) own started (by kernel_rfl) Tryd.func7
    (ChangeSpec.witness_at (enc := enc) (C := Tryd.checked) (os := os) (X := fun w _ => laidMetH Tryd.prog laidL w) false (laidWorld os) #[.slice none 0 0, .string ByteArray.empty, .string ByteArray.empty] 8 rfl (by kernel_rfl) (by kernel_rfl) (by kernel_rfl) (by kernel_rfl) (by kernel_rfl) (laidWorld_met os _)) ?_
  intro W base args ds gs before hval0 hW hcnd _ hL _
  have hval : ∀ (j : Nat) t v, Tryd.f7.params[j]? = some t → args[j]? = some v → Value.okWide Tryd.prog W .any base t v := hval0
  have hW' := hW
  obtain ⟨p, q, hA0, hV, rfl, hfz, hnd⟩ := hW
  have hA : DataW.TrodAll enc Tryd.prog W 0 (fun _ => true) true Tryd.f7.params.toList args.toList ds p := hA0
  rw [Tryd.params7] at hA hval
  obtain ⟨v0, vs0, d0, ds0, p0, q0, hargs, rfl, rfl, h0, r0⟩ := trodAll_cons hA
  obtain ⟨v1, vs1, d1, ds1, p1, q1, rfl, rfl, rfl, h1, r1⟩ := trodAll_cons r0
  obtain ⟨v2, vs2, d2, ds2, p2, q2, rfl, rfl, rfl, h2, r2⟩ := trodAll_cons r1
  obtain ⟨rfl, rfl, rfl⟩ := trodAll_nil r2
  obtain rfl : args = #[v0, v1, v2] := by cases args; simp_all
  obtain ⟨rfl, rfl⟩ := trodVars_none hV
  have hg := handle_of_laid hL
  obtain ⟨a0, len0, cap0, rfl⟩ := okWide_slice Tryd.underlying44 (hval 0 44 v0 rfl rfl)
  have k0 := h0
  have lt0 : ∀ x ∈ p0, x.block < W.heap.size := by obtain ⟨m, hm⟩ := k0; exact DataW.trod_lt m _ _ _ hm
  obtain ⟨z0, w0, ok0⟩ : ∃ l, RdN W (.slice a0 len0 cap0) l ∧ ∀ nd ∈ l, okNd nd := by obtain ⟨fuel, hf⟩ := h0; exact open_nodes (by simpa [Value.cells] using hf)
  have k1 := h1
  have lt1 : ∀ x ∈ p1, x.block < W.heap.size := by obtain ⟨m, hm⟩ := k1; exact DataW.trod_lt m _ _ _ hm
  obtain ⟨s1, rfl, rfl, rfl, ws1⟩ := open_string Tryd.underlying9 (hval 1 9 v1 rfl rfl) h1
  have k2 := h2
  have lt2 : ∀ x ∈ p2, x.block < W.heap.size := by obtain ⟨m, hm⟩ := k2; exact DataW.trod_lt m _ _ _ hm
  obtain ⟨s2, rfl, rfl, rfl, ws2⟩ := open_string Tryd.underlying9 (hval 2 9 v2 rfl rfl) h2
  clear hA0 hval0
  refine (walk z0 _ s1 s2 W w0 ok0 (by simpa using ws1) (by simpa using ws2) hg).mono fun e W' ⟨he, bel⟩ => ?_
  subst he
  exact ⟨_, rfl, _, _, _, [], _, [], hW', trodAll_mk1 (shut_bool Tryd.underlying4 _), (trodAll_cons_mk (Below.trod laidOut (by kernel_rfl) (of_decide_eq_true (by kernel_rfl)) k0 bel lt0) (trodAll_cons_mk (shut_string Tryd.underlying9 ws1) (trodAll_cons_mk (shut_string Tryd.underlying9 ws2) trodAll_mk0))), rfl, bel.frame _, fun h => by cases h⟩

theorem over : Rows.swapIsRow.holds Tryd.pinned (OpenSpec.ofChange Rows.swapIsSpec) :=
  OpenClaim.holds_of_wide 7 Tryd.f7 rfl rfl rfl rfl rfl rfl rfl ⟨rfl, rfl, rfl, rfl, rfl⟩ rfl rfl rfl rfl rfl (by kernel_rfl) Tryd.func7 (by kernel_rfl)
    (of_decide_eq_true (by kernel_rfl)) (by unfold Func.isWrapper; first | (rw [if_pos (by decide +kernel)]; kernel_rfl) | (rw [if_neg (by decide +kernel)]; exact ⟨rfl, rfl⟩))
    (fun os started H enc _ => lifted os started H enc)

/-- THE STATEMENT: the tied card. -/
theorem proved : Rows.SwapIsCardSaid :=
  Claim7.holds_tied_plain_at .later [] [.handle] true (true, "b22f7a0eec186ffb4fb754ff472bcf2adfba2dcccb0cc862029e99de2a9820c8") true
    over (fun _ h => by cases h) (by kernel_rfl) (fun _ h => by cases h) swapIs_row_tie rfl ⟨rfl, rfl⟩ (by kernel_rfl) rfl
    (fun f fn hf hfn => by
      obtain rfl : f = 7 := Option.some.inj ((show Tryd.prog.funcNamed "winnowfan/winnowfanlaw3.SwapIs" = some 7 by kernel_rfl).symm.trans hf) |>.symm
      obtain rfl : fn = Tryd.f7 := (Option.some.inj (Tryd.func7.symm.trans hfn)).symm
      exact ⟨by kernel_rfl, fun j t ht => by
        rw [Tryd.params7] at ht
        match j, ht with
        | 0, ht =>
          have e : t = 44 := by simpa using ht.symm
          subst e
          exact (show Tryd.prog.wantsStandIn 44 = false by kernel_rfl)
        | 1, ht =>
          have e : t = 9 := by simpa using ht.symm
          subst e
          exact (show Tryd.prog.wantsStandIn 9 = false by kernel_rfl)
        | 2, ht =>
          have e : t = 9 := by simpa using ht.symm
          subst e
          exact (show Tryd.prog.wantsStandIn 9 = false by kernel_rfl)
        | j + 3, ht => simp at ht⟩)
    (by kernel_rfl)


end Go.Proofs.YthcahjnniendnacDoor.swapIs
