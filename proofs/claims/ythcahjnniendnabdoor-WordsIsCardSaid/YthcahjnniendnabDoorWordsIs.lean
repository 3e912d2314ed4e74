/-
  Proved: winnowfanlaw2.WordsIs returns true for every list of words and every text, and changes nothing that was there.
-/
import Derived.Test.YthcahjnniendnabDoorAs
import Derived.Test.YthcahjnniendnabDoorEmptyNo
import Derived.Test.YthcahjnniendnabDoorLaid
import Derived.Test.YthcahjnniendnabDoorLaw
import Derived.Test.YthcahjnniendnabDoorOpenT
import Derived.Test.YthcahjnniendnabDoorWRef
import Derived.Test.YthcahjnniendnabDoorTie
import Derived.Test.YthcahjnniendnabDoorCards
namespace Go.Proofs.YthcahjnniendnabDoor.wordsIs
open Go.ChangeShapes Go.WideShapes Go.ChangeAt Go.RowKit Wf
open Go.ChangeMaps (open_string shut_string)
open law (own laidOut LawIs laidL laidWorld laidWorld_met handle_of_laid)
set_option linter.unusedVariables false

theorem own_hits {w : World} {B n : Nat} {A : Option Addr} {cap : Nat} {S : List (Nat × Nat × Nat)} (h : w.ownsRow B 141 3 (.slice A n cap) n (S.flatMap hitCells)) : Rd w 3 (.slice A n cap) (S.flatMap hitCells) := Rd.of_own h

set_option maxRecDepth 100000 in
set_option maxHeartbeats 16000000 in
theorem walk (l : List ByteArray) (v : Value) (s : ByteArray) (w : World) (hr : Rd1 w v (l.map Value.string)) (hls : ∀ x ∈ l, x.size ≤ maxLen) (hs : s.size ≤ maxLen) (hg : ErrT w) :
    Calls Tryd.prog 9 #[v, .string s] w (LawIs w) := by
  unfold maxLen at hs hls
  have hr' : Rd1 w v (strVals l) := hr
  obtain ⟨A, cap, rfl, hcap, hcap2, _⟩ := str_open hr'
  have hlen : l.length ≤ 9223372036854775807 := by omega
  have HR := Lib.hid hr'
  have HG := Lib.hid hg
  have HWF := Lib.hid (WF_any l _ w hr' hlen hls)
  have HCK := Lib.hid fun W h => WCheck_any l (.slice A l.length cap) W h hlen hls
  have HSE := Lib.hid fun n W h => SErr_any n n W h
  have HNIL : Hid (∀ W : World, Rd W 3 (.slice none 0 0) (([] : List (Nat × Nat × Nat)).flatMap hitCells)) := Lib.hid fun W => Rd.nil W 3
  unfold IntIs8 at HWF
  unfold ErrIs at HCK
  by_cases hc : chkW l = 0
  · have HOK := Lib.hid (chkW_ok.1 hc)
    rw [hc] at HWF HCK
    by_cases hbig : 400 < s.size
    · have d1 : decide ((400 : Int) < (s.size : Int)) = true := by simp; omega
      have HAL := Lib.hid fun W h => All_long l (.slice A l.length cap) s W h HOK.out hbig
      unfold WAllNo at HAL
      clear hr hr' hg hls hc
      go_enter Tryd.func9, Tryd.ntmps9
      go_wp2_with fail
      refine HWF.out.mono ?_
      rintro e w1 ⟨rfl, hb1⟩
      have HB1 := Lib.hid hb1
      clear hb1
      go_wp2_with fail
      refine (HCK.out w1 (Rd.below HR.out HB1.out)).mono ?_
      rintro e w2 ⟨he2, hb2⟩
      obtain rfl : e = .returned .nilIface := he2
      have HB2 := Lib.hid (HB1.out.trans (hb2.mono HB1.out.size))
      clear hb2
      go_wp2_with fail
      refine (HSE.out 0 w2 (HG.out.below HB2.out)).mono ?_
      rintro e w3 ⟨r3, rfl, hr3, hb3⟩
      obtain rfl : r3 = true := hr3.2 rfl
      have HB3 := Lib.hid (HB2.out.trans (hb3.mono HB2.out.size))
      clear hb3 hr3
      go_wp2_with fail
      refine (HAL.out w3 (Rd.below HR.out HB3.out)).mono ?_
      rintro e w4 ⟨rfl, hb4⟩
      have HB4 := Lib.hid (HB3.out.trans (hb4.mono HB3.out.size))
      clear hb4
      go_wp2_with fail
      refine (HSE.out 3 w4 (HG.out.below HB4.out)).mono ?_
      rintro e w5 ⟨r5, rfl, hr5, hb5⟩
      obtain rfl : r5 = true := hr5.2 rfl
      have HB5 := Lib.hid (HB4.out.trans (hb5.mono HB4.out.size))
      clear hb5 hr5
      go_wp2_with fail
      refine (Hits_any [] [] _ _ w5 (HNIL.out w5) (HNIL.out w5)).mono ?_
      rintro e w6 ⟨r6, rfl, hr6, hb6⟩
      obtain rfl : r6 = true := hr6.2 rfl
      have HB6 := Lib.hid (HB5.out.trans (hb6.mono HB5.out.size))
      clear hb6 hr6
      go_wp2_with fail
      go_ret
      exact ⟨rfl, HB6.out⟩
    · have d1 : decide ((400 : Int) < (s.size : Int)) = false := by simp; omega
      obtain ⟨S, hS⟩ : ∃ S, S = hitsL (l.map (fun s => s.data.toList)) s.data.toList := ⟨_, rfl⟩
      obtain ⟨N, hN⟩ : ∃ N, N = S.length := ⟨_, rfl⟩
      have HAL : Hid (∀ W, Rd1 W (.slice A l.length cap) (strVals l) → Calls Tryd.prog 49 #[.slice A l.length cap, .string s] W (fun e w' => ∃ B c, e = .returned (.tuple #[.slice B N c, .nilIface]) ∧ Rd w' 3 (.slice B N c) (S.flatMap hitCells) ∧ Below W.heap.size W w')) := Lib.hid fun W h => (All_ok l _ s W h HOK.out (by omega) _ rfl).mono fun e w' ⟨B, c, h1, h2, h3⟩ => ⟨B, c, by rw [h1, hN, hS], by rw [hN, hS]; exact own_hits h2, h3⟩
      have HOF : Hid (∀ W, Rd1 W (.slice A l.length cap) (strVals l) → Calls Tryd.prog 48 #[.slice A l.length cap, .string s] W (fun e w' => ∃ B c, e = .returned (.slice B N c) ∧ Rd w' 3 (.slice B N c) (S.flatMap hitCells) ∧ Below W.heap.size W w')) := Lib.hid fun W h => (WOf_ok l _ s W h HOK.out (by omega) _ rfl).mono fun e w' ⟨B, c, h1, h2, h3⟩ => ⟨B, c, by rw [h1, hN, hS], by rw [hN, hS]; exact own_hits h2, h3⟩
      clear hr hr' hg hls hc hS hN
      go_enter Tryd.func9, Tryd.ntmps9
      go_wp2_with fail
      refine HWF.out.mono ?_
      rintro e w1 ⟨rfl, hb1⟩
      have HB1 := Lib.hid hb1
      clear hb1
      go_wp2_with fail
      refine (HCK.out w1 (Rd.below HR.out HB1.out)).mono ?_
      rintro e w2 ⟨he2, hb2⟩
      obtain rfl : e = .returned .nilIface := he2
      have HB2 := Lib.hid (HB1.out.trans (hb2.mono HB1.out.size))
      clear hb2
      go_wp2_with fail
      refine (HSE.out 0 w2 (HG.out.below HB2.out)).mono ?_
      rintro e w3 ⟨r3, rfl, hr3, hb3⟩
      obtain rfl : r3 = true := hr3.2 rfl
      have HB3 := Lib.hid (HB2.out.trans (hb3.mono HB2.out.size))
      clear hb3 hr3
      go_wp2_with fail
      refine (HOF.out w3 (Rd.below HR.out HB3.out)).mono ?_
      rintro e w4 ⟨B4, c4, rfl, hrd4, hb4⟩
      have HB4 := Lib.hid (HB3.out.trans (hb4.mono HB3.out.size))
      have HP4 := Lib.hid hrd4
      clear hb4 hrd4
      go_wp2_with fail
      refine (HAL.out w4 (Rd.below HR.out HB4.out)).mono ?_
      rintro e w5 ⟨B5, c5, rfl, hrd5, hb5⟩
      have HB5 := Lib.hid (HB4.out.trans (hb5.mono HB4.out.size))
      have HP5 := Lib.hid hrd5
      have HQ5 := Lib.hid (HP4.out.below hb5)
      clear hb5 hrd5
      go_wp2_with fail
      refine (HSE.out 0 w5 (HG.out.below HB5.out)).mono ?_
      rintro e w6 ⟨r6, rfl, hr6, hb6⟩
      obtain rfl : r6 = true := hr6.2 rfl
      have HB6 := Lib.hid (HB5.out.trans (hb6.mono HB5.out.size))
      have HP6 := Lib.hid (HP5.out.below hb6)
      have HQ6 := Lib.hid (HQ5.out.below hb6)
      clear hb6 hr6
      go_wp2_with fail
      refine (Hits_any _ _ _ _ _ HP6.out HQ6.out).mono ?_
      rintro e w7 ⟨r7, rfl, hr7, hb7⟩
      obtain rfl : r7 = true := hr7.2 rfl
      have HB7 := Lib.hid (HB6.out.trans (hb7.mono HB6.out.size))
      clear hb7 hr7
      go_wp2_with fail
      go_ret
      exact ⟨rfl, HB7.out⟩
  · have HAL := Lib.hid fun W h => All_bad l (.slice A l.length cap) s W h hlen hls hc
    unfold WAllNo at HAL
    generalize chkW l = n at hc HWF HCK HAL
    have hn0 : (n == 0) = false := by simpa using hc
    clear hr hr' hg hls
    go_enter Tryd.func9, Tryd.ntmps9
    go_wp2_with fail
    refine HWF.out.mono ?_
    rintro e w1 ⟨rfl, hb1⟩
    have HB1 := Lib.hid hb1
    clear hb1
    go_wp2_with fail
    refine (HCK.out w1 (Rd.below HR.out HB1.out)).mono ?_
    rintro e w2 ⟨he2, hb2⟩
    subst he2
    have HB2 := Lib.hid (HB1.out.trans (hb2.mono HB1.out.size))
    clear hb2
    go_wp2_with fail
    refine (HSE.out n w2 (HG.out.below HB2.out)).mono ?_
    rintro e w3 ⟨r3, rfl, hr3, hb3⟩
    obtain rfl : r3 = true := hr3.2 rfl
    have HB3 := Lib.hid (HB2.out.trans (hb3.mono HB2.out.size))
    clear hb3 hr3
    go_wp2_with fail
    refine (HAL.out w3 (Rd.below HR.out HB3.out)).mono ?_
    rintro e w4 ⟨rfl, hb4⟩
    have HB4 := Lib.hid (HB3.out.trans (hb4.mono HB3.out.size))
    clear hb4
    go_wp2_with fail
    refine (HSE.out n w4 (HG.out.below HB4.out)).mono ?_
    rintro e w5 ⟨r5, rfl, hr5, hb5⟩
    obtain rfl : r5 = true := hr5.2 rfl
    have HB5 := Lib.hid (HB4.out.trans (hb5.mono HB4.out.size))
    clear hb5 hr5
    go_wp2_with fail
    refine (Hits_any [] [] _ _ w5 (HNIL.out w5) (HNIL.out w5)).mono ?_
    rintro e w6 ⟨r6, rfl, hr6, hb6⟩
    obtain rfl : r6 = true := hr6.2 rfl
    have HB6 := Lib.hid (HB5.out.trans (hb6.mono HB5.out.size))
    clear hb6 hr6
    go_wp2_with fail
    go_ret
    exact ⟨rfl, HB6.out⟩

/-! ### THE ROW's STEP -/
set_option maxRecDepth 100000 in
theorem lifted (os : Os) (started : os.Started) (H : Type) (enc : TypeId × Value → H) :
    ReturnsInHanded {} Tryd.checked os 9 .any (fun w args => (Rows.wordsIsSpec.pre enc Tryd.prog Tryd.f9 [] false w args ∧ laidMetH Tryd.prog laidL w) ∧ sizedMet enc Tryd.prog Tryd.f9 (OpenSpec.ofChange Rows.wordsIsSpec) false w args)
      (Rows.wordsIsSpec.post enc Tryd.prog Tryd.f9 false true false false) := by
  refine returnsInHanded_of_change_and (C := Tryd.checked) (X := fun w _ => laidMetH Tryd.prog laidL w) (fun _ _ _ hh h => h.of_heap hh) own started (by kernel_rfl) Tryd.func9
    (ChangeSpec.witness_at (enc := enc) (C := Tryd.checked) (os := os) (X := fun w _ => laidMetH Tryd.prog laidL w) false (laidWorld os) #[.slice none 0 0, .string ByteArray.empty] 8 rfl (by kernel_rfl) (by kernel_rfl) (by kernel_rfl) (by kernel_rfl) (by kernel_rfl) (laidWorld_met os _)) ?_
  intro W base args ds gs before hval0 hW hcnd _ hL _
  have hval : ∀ (j : Nat) t v, Tryd.f9.params[j]? = some t → args[j]? = some v → Value.okWide Tryd.prog W .any base t v := hval0
  have hW' := hW
  obtain ⟨p, q, hA0, hV, rfl, hfz, hnd⟩ := hW
  have hA : DataW.TrodAll enc Tryd.prog W 0 (fun _ => true) true Tryd.f9.params.toList args.toList ds p := hA0
  rw [Tryd.params9] at hA hval
  obtain ⟨v0, vs0, d0, ds0, p0, q0, hargs, rfl, rfl, h0, r0⟩ := trodAll_cons hA
  obtain ⟨v1, vs1, d1, ds1, p1, q1, rfl, rfl, rfl, h1, r1⟩ := trodAll_cons r0
  obtain ⟨rfl, rfl, rfl⟩ := trodAll_nil r1
  obtain rfl : args = #[v0, v1] := by cases args; simp_all
  obtain ⟨rfl, rfl⟩ := trodVars_none hV
  have hg := handle_of_laid hL
  obtain ⟨a0, len0, cap0, rfl⟩ := okWide_slice Tryd.underlying36 (hval 0 36 v0 rfl rfl)
  have k0 := h0
  have lt0 : ∀ x ∈ p0, x.block < W.heap.size := by obtain ⟨m, hm⟩ := k0; exact DataW.trod_lt m _ _ _ hm
  obtain ⟨z0, w0, ok0, dk0⟩ : ∃ l : List ByteArray, Rd1 W (.slice a0 len0 cap0) (l.map Value.string) ∧ (∀ s ∈ l, s.size ≤ maxLen) ∧ ∀ s ∈ l, ∃ elems sp, d0 = .slice elems sp ∧ DataW.lit (.string s.data.toList) ∈ elems := by obtain ⟨fuel, hf⟩ := h0; exact open_strs1 Tryd.underlying36 Tryd.underlying9 (by kernel_rfl) (by simpa [Value.cells] using hf)
  have k1 := h1
  have lt1 : ∀ x ∈ p1, x.block < W.heap.size := by obtain ⟨m, hm⟩ := k1; exact DataW.trod_lt m _ _ _ hm
  obtain ⟨s1, rfl, rfl, rfl, ws1⟩ := open_string Tryd.underlying9 (hval 1 9 v1 rfl rfl) h1
  clear hA0 hval0
  refine (walk z0 _ s1 W w0 ok0 (by simpa using ws1) hg).mono fun e W' ⟨he, bel⟩ => ?_
  subst he
  exact ⟨_, rfl, _, _, _, [], _, [], hW', trodAll_mk1 (shut_bool Tryd.underlying4 _), (trodAll_cons_mk (Below.trod laidOut (by kernel_rfl) (of_decide_eq_true (by kernel_rfl)) k0 bel lt0) (trodAll_cons_mk (shut_string Tryd.underlying9 ws1) trodAll_mk0)), rfl, bel.frame _, fun h => by cases h⟩

theorem over : Rows.wordsIsRow.holds Tryd.pinned (OpenSpec.ofChange Rows.wordsIsSpec) :=
  OpenClaim.holds_of_wide 9 Tryd.f9 rfl rfl rfl rfl rfl rfl rfl ⟨rfl, rfl, rfl, rfl, rfl⟩ rfl rfl rfl rfl rfl (by kernel_rfl) Tryd.func9 (by kernel_rfl)
    (of_decide_eq_true (by kernel_rfl)) (by unfold Func.isWrapper; first | (rw [if_pos (by decide +kernel)]; kernel_rfl) | (rw [if_neg (by decide +kernel)]; exact ⟨rfl, rfl⟩))
    (fun os started H enc _ => lifted os started H enc)

/-- THE STATEMENT: the tied card. -/
theorem proved : Rows.WordsIsCardSaid :=
  Claim7.holds_tied_plain_at .later [] [.handle] true (true, "f45a1604785a151641de101bbe54cc07bb79ece424cdf2959cfd764ef295316a") true
    over (fun _ h => by cases h) (by kernel_rfl) (fun _ h => by cases h) wordsIs_row_tie rfl ⟨rfl, rfl⟩ (by kernel_rfl) rfl
    (fun f fn hf hfn => by
      obtain rfl : f = 9 := Option.some.inj ((show Tryd.prog.funcNamed "winnowfan/winnowfanlaw2.WordsIs" = some 9 by kernel_rfl).symm.trans hf) |>.symm
      obtain rfl : fn = Tryd.f9 := (Option.some.inj (Tryd.func9.symm.trans hfn)).symm
      exact ⟨by kernel_rfl, fun j t ht => by
        rw [Tryd.params9] at ht
        match j, ht with
        | 0, ht =>
          have e : t = 36 := by simpa using ht.symm
          subst e
          exact (show Tryd.prog.wantsStandIn 36 = false by kernel_rfl)
        | 1, ht =>
          have e : t = 9 := by simpa using ht.symm
          subst e
          exact (show Tryd.prog.wantsStandIn 9 = false by kernel_rfl)
        | j + 2, ht => simp at ht⟩)
    (by kernel_rfl)


end Go.Proofs.YthcahjnniendnabDoor.wordsIs
