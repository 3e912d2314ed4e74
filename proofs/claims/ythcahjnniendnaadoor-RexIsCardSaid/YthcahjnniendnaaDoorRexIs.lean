/-
  Proved: winnowfanlaw1.RexIs returns true for every pattern and place, and changes nothing that was there.
-/
import Derived.Test.YthcahjnniendnaaDoorLaw
import Derived.Test.YthcahjnniendnaaDoorAs
import Derived.Test.YthcahjnniendnaaDoorEmptyNo
import Derived.Test.YthcahjnniendnaaDoorRefD
import Derived.Test.YthcahjnniendnaaDoorLaid
import Derived.Test.YthcahjnniendnaaDoorTie
import Derived.Test.YthcahjnniendnaaDoorCards
namespace Go.Proofs.YthcahjnniendnaaDoor.rexIs
open Go.ChangeShapes Go.WideShapes Go.ChangeAt Go.RowKit Wf
open Go.ChangeMaps (open_string shut_string)
open law (own laidOut LawIs laidL laidWorld laidWorld_met handle_of_laid)
set_option linter.unusedVariables false

set_option maxRecDepth 100000 in
set_option maxHeartbeats 8000000 in
theorem walk (l : List Nd) (v : Value) (x : Int) (w : World) (hr : RdN w v l) (hok : ∀ n ∈ l, okNd n) (hg : ErrT w) : Calls Tryd.prog 4 #[v, .int .i64 x] w (LawIs w) := by
  obtain ⟨A, cap, rfl, hcap, hcap2, hmem⟩ := hr.open_
  have HR := Lib.hid hr
  have HG := Lib.hid hg
  have HF := Lib.hid (RFault_any l _ w hr (fun n hn => (hok n hn).2.2))
  by_cases hc : chk l = 0
  · obtain ⟨hlen, t, ht⟩ := chk_tree hc
    have hpos : 0 < l.length := by rw [ht]; exact flat_pos t
    have hgood : ∀ n ∈ l, good n := by rw [ht]; exact flat_good t
    have hwhole : At l 0 t := by rw [ht]; exact At.whole t
    obtain ⟨b, off, rfl, _⟩ := hmem hpos
    have HC := Lib.hid hc
    have HEM := Lib.hid (fun W h => REmpty_all l hgood hlen b off cap W h t 0 hwhole)
    have HTU := Lib.hid (fun W h => RTurn_all l hgood hlen b off cap t 0 W hwhole h)
    have HN := Lib.hid (fun W h => Empty_ok l t ht (.slice (some ⟨b, off, none⟩) l.length cap) W hlen h)
    have HT := Lib.hid (fun W h => Turn_ok l t ht (.slice (some ⟨b, off, none⟩) l.length cap) W hlen h)
    have HCK := Lib.hid (fun W h => Check_any l (.slice (some ⟨b, off, none⟩) l.length cap) W h)
    have HS := Lib.hid (fun W h => SErr_any 0 0 W h)
    have HS1 := Lib.hid (fun W h => SErr_any 1 1 W h)
    have HX := Lib.hid (fun W h => RXEnd_any l (.slice (some ⟨b, off, none⟩) l.length cap) x W h)
    have HEND := Lib.hid (fun (i : Nat) (hi : i ≤ l.length) (W : World) (h : RdN W (.slice (some ⟨b, off, none⟩) l.length cap) l) => REnd_all l hgood hlen (some ⟨b, off, none⟩) cap l.length i W (by omega) hi h)
    unfold RFaultIs at HF
    unfold CheckIs at HCK
    rw [hc] at HF HCK
    unfold EmptyIs at HN
    rw [errV_zero] at HS
    have key : ∀ (P : Ending → World → Prop) (n : Int), (endErr l x = n ∧ (n = 0 ∨ n = 1)) → True := fun _ _ _ => trivial
    have hcase : (endErr l x = 1 ∧ (x < 0 ∨ (l.length : Int) ≤ x)) ∨ (endErr l x = 0 ∧ ∃ k : Nat, x = (k : Int) ∧ k < l.length) := by
      unfold endErr
      rw [if_neg (by simpa using hc)]
      by_cases h : x < 0 ∨ (l.length : Int) ≤ x
      · exact .inl ⟨if_pos h, h⟩
      · exact .inr ⟨if_neg h, x.toNat, by omega, by omega⟩
    have HCASE := Lib.hid hcase
    clear hr hg hok hmem hc hgood hwhole ht hcase key
    generalize hm : may t = m at *
    clear hm
    go_enter Tryd.func4, Tryd.ntmps4
    go_wp2_with fail
    refine HF.out.mono ?_
    rintro e w1 ⟨rfl, hb1⟩
    have HB1 := Lib.hid hb1
    clear hb1
    go_wp2_with fail
    refine (HCK.out _ (HR.out.below HB1.out)).mono ?_
    rintro e w2 ⟨rfl, hb2⟩
    have HB2 := Lib.hid (HB1.out.trans (hb2.mono HB1.out.size))
    clear hb2
    rw [errV_zero]
    go_wp2_with fail
    refine (HS.out _ (HG.out.below HB2.out)).mono ?_
    rintro e w3 ⟨r, rfl, hrr, hb3⟩
    obtain rfl : r = true := hrr.2 rfl
    have HB3 := Lib.hid (HB2.out.trans (hb3.mono HB2.out.size))
    clear hb3 hrr
    go_wp2_with fail
    refine (HEM.out _ (HR.out.below HB3.out)).mono ?_
    rintro e w3' ⟨rfl, rfl⟩
    go_wp2_with fail
    refine (HTU.out _ (HR.out.below HB3.out)).mono ?_
    rintro e w4 ⟨gt, capt, rfl, hot, hb4⟩
    have HB4 := Lib.hid (HB3.out.trans (hb4.mono HB3.out.size))
    have HRT := Lib.hid (Rd.of_own hot : RdN w4 _ (flat (turnT t)))
    clear hb4 hot
    go_wp2_with fail
    refine (HN.out _ (HR.out.below HB4.out)).mono ?_
    rintro e w5 ⟨rfl, hb5⟩
    have HB5 := Lib.hid (HB4.out.trans (hb5.mono HB4.out.size))
    have HRT5 := Lib.hid (HRT.out.below hb5)
    clear hb5 HRT
    go_wp2_with fail
    refine (HS.out _ (HG.out.below HB5.out)).mono ?_
    rintro e w6 ⟨r, rfl, hrr, hb6⟩
    obtain rfl : r = true := hrr.2 rfl
    have HB6 := Lib.hid (HB5.out.trans (hb6.mono HB5.out.size))
    have HRT6 := Lib.hid (HRT5.out.below hb6)
    clear hb6 hrr HRT5
    go_wp2_with fail
    refine (HT.out _ (HR.out.below HB6.out)).mono ?_
    rintro e w7 ⟨gu, capu, rfl, hru, hb7⟩
    have HB7 := Lib.hid (HB6.out.trans (hb7.mono HB6.out.size))
    have HRT7 := Lib.hid (HRT6.out.below hb7)
    have HRU7 := Lib.hid hru
    clear hb7 hru HRT6
    go_wp2_with fail
    refine (HS.out _ (HG.out.below HB7.out)).mono ?_
    rintro e w8 ⟨r, rfl, hrr, hb8⟩
    obtain rfl : r = true := hrr.2 rfl
    have HB8 := Lib.hid (HB7.out.trans (hb8.mono HB7.out.size))
    have HRT8 := Lib.hid (HRT7.out.below hb8)
    have HRU8 := Lib.hid (HRU7.out.below hb8)
    clear hb8 hrr HRT7 HRU7
    go_wp2_with fail
    refine (Nodes_any (flat (turnT t)) (flat (turnT t)) _ _ _ HRU8.out HRT8.out).mono ?_
    rintro e w9 ⟨r, rfl, hrr, hb9⟩
    obtain rfl : r = true := hrr.2 rfl
    have HB9 := Lib.hid (HB8.out.trans (hb9.mono HB8.out.size))
    clear hb9 hrr
    have hm3 : (m == !m) = false := by cases m <;> rfl
    rcases HCASE.out with ⟨he1, hx⟩ | ⟨he0, k, rfl, hk⟩
    · rw [he1] at HX
      rw [show (if (1 : Int) = 0 then eo l x.toNat else 0) = 0 from rfl] at HX
      unfold RXEndIs at HX
      by_cases h1 : x < 0
      · have d1 : decide (x < 0) = true := by simpa using h1
        clear he1 hx
        go_wp2_with fail
        refine (HX.out _ (HR.out.below HB9.out)).mono ?_
        rintro e w10 ⟨rfl, hb10⟩
        have HB10 := Lib.hid (HB9.out.trans (hb10.mono HB9.out.size))
        clear hb10
        go_wp2_with fail
        refine (HS1.out _ (HG.out.below HB10.out)).mono ?_
        rintro e w11 ⟨r, rfl, hrr, hb11⟩
        obtain rfl : r = true := hrr.2 rfl
        have HB11 := Lib.hid (HB10.out.trans (hb11.mono HB10.out.size))
        clear hb11 hrr
        go_wp2_with fail
        go_ret
        exact ⟨rfl, HB11.out⟩
      · have d1 : decide (x < 0) = false := by simpa using h1
        have d2 : decide ((l.length : Int) ≤ x) = true := by simp; omega
        clear he1 hx
        go_wp2_with fail
        refine (HX.out _ (HR.out.below HB9.out)).mono ?_
        rintro e w10 ⟨rfl, hb10⟩
        have HB10 := Lib.hid (HB9.out.trans (hb10.mono HB9.out.size))
        clear hb10
        go_wp2_with fail
        refine (HS1.out _ (HG.out.below HB10.out)).mono ?_
        rintro e w11 ⟨r, rfl, hrr, hb11⟩
        obtain rfl : r = true := hrr.2 rfl
        have HB11 := Lib.hid (HB10.out.trans (hb11.mono HB10.out.size))
        clear hb11 hrr
        go_wp2_with fail
        go_ret
        exact ⟨rfl, HB11.out⟩
    · rw [he0] at HX
      rw [if_pos rfl, Int.toNat_natCast] at HX
      have HEN := Lib.hid (fun W h => HEND.out k (by omega) W h)
      have d1 : decide ((k : Int) < 0) = false := by simp
      have d2 : decide ((l.length : Int) ≤ (k : Int)) = false := by simp; omega
      have d3 : decide (l.length ≤ k) = false := by simp; omega
      have i1 : (k : Int) < (l.length : Int) := by omega
      clear he0
      unfold RXEndIs at HX
      rw [errV_zero] at HX
      unfold REndIs at HEN
      generalize eo l k = ek at *
      go_wp2_with fail
      refine (HEN.out _ (HR.out.below HB9.out)).mono ?_
      rintro e w9' ⟨rfl, rfl⟩
      go_wp2_with fail
      refine (HX.out _ (HR.out.below HB9.out)).mono ?_
      rintro e w10 ⟨rfl, hb10⟩
      have HB10 := Lib.hid (HB9.out.trans (hb10.mono HB9.out.size))
      clear hb10
      go_wp2_with fail
      refine (HS.out _ (HG.out.below HB10.out)).mono ?_
      rintro e w11 ⟨r, rfl, hrr, hb11⟩
      obtain rfl : r = true := hrr.2 rfl
      have HB11 := Lib.hid (HB10.out.trans (hb11.mono HB10.out.size))
      clear hb11 hrr
      go_wp2_with fail
      go_ret
      exact ⟨by simp, HB11.out⟩
  · have HE := Lib.hid (errV_ne hc)
    have HC := Lib.hid hc
    have HEE : Hid (endErr l x = chk l) := Lib.hid (by unfold endErr; rw [if_pos hc])
    have hc0 : (chk l == 0) = false := by simpa using hc
    have HX := Lib.hid (fun W h => RXEnd_any l (.slice A l.length cap) x W h)
    rw [HEE.out, if_neg hc] at HX
    have HN := Lib.hid (fun W h => Empty_not l (.slice A l.length cap) W h hc)
    have HT := Lib.hid (fun W h => Turn_no l (.slice A l.length cap) W h hc)
    have HCK := Lib.hid (fun W h => Check_any l (.slice A l.length cap) W h)
    have HS := Lib.hid (fun W h => SErr_any (chk l) (chk l) W h)
    unfold RFaultIs at HF
    unfold CheckIs at HCK
    unfold EmptyNot at HN
    unfold TurnNo at HT
    clear hr hg hok hmem hc HEE
    generalize chk l = n at *
    go_enter Tryd.func4, Tryd.ntmps4
    go_wp2_with fail
    refine HF.out.mono ?_
    rintro e w1 ⟨rfl, hb1⟩
    have HB1 := Lib.hid hb1
    clear hb1
    go_wp2_with fail
    refine (HCK.out _ (HR.out.below HB1.out)).mono ?_
    rintro e w2 ⟨rfl, hb2⟩
    have HB2 := Lib.hid (HB1.out.trans (hb2.mono HB1.out.size))
    clear hb2
    go_wp2_with fail
    refine (HS.out _ (HG.out.below HB2.out)).mono ?_
    rintro e w3 ⟨r, rfl, hrr, hb3⟩
    obtain rfl : r = true := hrr.2 rfl
    have HB3 := Lib.hid (HB2.out.trans (hb3.mono HB2.out.size))
    clear hb3 hrr
    go_wp2_with fail
    refine (HN.out _ (HR.out.below HB3.out)).mono ?_
    rintro e w4 ⟨rfl, hb4⟩
    have HB4 := Lib.hid (HB3.out.trans (hb4.mono HB3.out.size))
    clear hb4
    go_wp2_with fail
    refine (HS.out _ (HG.out.below HB4.out)).mono ?_
    rintro e w5 ⟨r, rfl, hrr, hb5⟩
    obtain rfl : r = true := hrr.2 rfl
    have HB5 := Lib.hid (HB4.out.trans (hb5.mono HB4.out.size))
    clear hb5 hrr
    go_wp2_with fail
    refine (HT.out _ (HR.out.below HB5.out)).mono ?_
    rintro e w6 ⟨rfl, hb6⟩
    have HB6 := Lib.hid (HB5.out.trans (hb6.mono HB5.out.size))
    clear hb6
    go_wp2_with fail
    refine (HS.out _ (HG.out.below HB6.out)).mono ?_
    rintro e w7 ⟨r, rfl, hrr, hb7⟩
    obtain rfl : r = true := hrr.2 rfl
    have HB7 := Lib.hid (HB6.out.trans (hb7.mono HB6.out.size))
    clear hb7 hrr
    go_wp2_with fail
    refine (Nodes_any [] [] (.slice none 0 0) (.slice none 0 0) _ (Rd.nil _ _) (Rd.nil _ _)).mono ?_
    rintro e w8 ⟨r, rfl, hrr, hb8⟩
    obtain rfl : r = true := hrr.2 rfl
    have HB8 := Lib.hid (HB7.out.trans (hb8.mono HB7.out.size))
    clear hb8 hrr
    go_wp2_with fail
    refine (HX.out _ (HR.out.below HB8.out)).mono ?_
    rintro e w9 ⟨rfl, hb9⟩
    have HB9 := Lib.hid (HB8.out.trans (hb9.mono HB8.out.size))
    clear hb9
    go_wp2_with fail
    refine (HS.out _ (HG.out.below HB9.out)).mono ?_
    rintro e w10 ⟨r, rfl, hrr, hb10⟩
    obtain rfl : r = true := hrr.2 rfl
    have HB10 := Lib.hid (HB9.out.trans (hb10.mono HB9.out.size))
    clear hb10 hrr
    go_wp2_with fail
    go_ret
    exact ⟨rfl, HB10.out⟩

/-! ### THE ROW's STEP -/
set_option maxRecDepth 100000 in
theorem lifted (os : Os) (started : os.Started) (H : Type) (enc : TypeId × Value → H) :
    ReturnsInHanded {} Tryd.checked os 4 .any (fun w args => (Rows.rexIsSpec.pre enc Tryd.prog Tryd.f4 [] false w args ∧ laidMetH Tryd.prog laidL w) ∧ sizedMet enc Tryd.prog Tryd.f4 (OpenSpec.ofChange Rows.rexIsSpec) false w args)
      (Rows.rexIsSpec.post enc Tryd.prog Tryd.f4 false true false false) := by
  refine returnsInHanded_of_change_and (C := Tryd.checked) (X := fun w _ => laidMetH Tryd.prog laidL w) (fun _ _ _ hh h => h.of_heap hh) own started (by kernel_rfl) Tryd.func4
    (ChangeSpec.witness_at (enc := enc) (C := Tryd.checked) (os := os) (X := fun w _ => laidMetH Tryd.prog laidL w) false (laidWorld os) #[.slice none 0 0, .int .i64 0] 8 rfl (by kernel_rfl) (by kernel_rfl) (by kernel_rfl) (by kernel_rfl) (by kernel_rfl) (laidWorld_met os _)) ?_
  intro W base args ds gs before hval0 hW hcnd _ hL _
  have hval : ∀ (j : Nat) t v, Tryd.f4.params[j]? = some t → args[j]? = some v → Value.okWide Tryd.prog W .any base t v := hval0
  have hW' := hW
  obtain ⟨p, q, hA0, hV, rfl, hfz, hnd⟩ := hW
  have hA : DataW.TrodAll enc Tryd.prog W 0 (fun _ => true) true Tryd.f4.params.toList args.toList ds p := hA0
  rw [Tryd.params4] at hA hval
  obtain ⟨v0, vs0, d0, ds0, p0, q0, hargs, rfl, rfl, h0, r0⟩ := trodAll_cons hA
  obtain ⟨v1, vs1, d1, ds1, p1, q1, rfl, rfl, rfl, h1, r1⟩ := trodAll_cons r0
  obtain ⟨rfl, rfl, rfl⟩ := trodAll_nil r1
  obtain rfl : args = #[v0, v1] := by cases args; simp_all
  obtain ⟨rfl, rfl⟩ := trodVars_none hV
  have hg := handle_of_laid hL
  obtain ⟨a0, len0, cap0, rfl⟩ := okWide_slice Tryd.underlying36 (hval 0 36 v0 rfl rfl)
  have k0 := h0
  have lt0 : ∀ x ∈ p0, x.block < W.heap.size := by obtain ⟨m, hm⟩ := k0; exact DataW.trod_lt m _ _ _ hm
  obtain ⟨z0, w0, ok0⟩ : ∃ l, RdN W (.slice a0 len0 cap0) l ∧ ∀ nd ∈ l, okNd nd := by obtain ⟨fuel, hf⟩ := h0; exact open_nodes (by simpa [Value.cells] using hf)
  have k1 := h1
  have lt1 : ∀ x ∈ p1, x.block < W.heap.size := by obtain ⟨m, hm⟩ := k1; exact DataW.trod_lt m _ _ _ hm
  obtain ⟨x1, rfl, rfl, rfl, wx1⟩ := open_int Tryd.underlying3 (hval 1 3 v1 rfl rfl) h1
  clear hA0 hval0
  refine (walk z0 _ x1 W w0 ok0 hg).mono fun e W' ⟨he, bel⟩ => ?_
  subst he
  exact ⟨_, rfl, _, _, _, [], _, [], hW', trodAll_mk1 (shut_bool Tryd.underlying4 _), (trodAll_cons_mk (Below.trod laidOut (by kernel_rfl) (of_decide_eq_true (by kernel_rfl)) k0 bel lt0) (trodAll_cons_mk (shut_int Tryd.underlying3 wx1) trodAll_mk0)), rfl, bel.frame _, fun h => by cases h⟩

theorem over : Rows.rexIsRow.holds Tryd.pinned (OpenSpec.ofChange Rows.rexIsSpec) :=
  OpenClaim.holds_of_wide 4 Tryd.f4 rfl rfl rfl rfl rfl rfl rfl ⟨rfl, rfl, rfl, rfl, rfl⟩ rfl rfl rfl rfl rfl (by kernel_rfl) Tryd.func4 (by kernel_rfl)
    (of_decide_eq_true (by kernel_rfl)) (by unfold Func.isWrapper; first | (rw [if_pos (by decide +kernel)]; kernel_rfl) | (rw [if_neg (by decide +kernel)]; exact ⟨rfl, rfl⟩))
    (fun os started H enc _ => lifted os started H enc)

/-- THE STATEMENT: the tied card. -/
theorem proved : Rows.RexIsCardSaid :=
  Claim7.holds_tied_plain_at .later [] [.handle] true (true, "19d29f0fa0f4144cee4122b0326765d945e17b95e021dfde4bc6bf17c7bd6e34") true
    over (fun _ h => by cases h) (by kernel_rfl) (fun _ h => by cases h) rexIs_row_tie rfl ⟨rfl, rfl⟩ (by kernel_rfl) rfl
    (fun f fn hf hfn => by
      obtain rfl : f = 4 := Option.some.inj ((show Tryd.prog.funcNamed "winnowfan/winnowfanlaw1.RexIs" = some 4 by kernel_rfl).symm.trans hf) |>.symm
      obtain rfl : fn = Tryd.f4 := (Option.some.inj (Tryd.func4.symm.trans hfn)).symm
      exact ⟨by kernel_rfl, fun j t ht => by
        rw [Tryd.params4] at ht
        match j, ht with
        | 0, ht =>
          have e : t = 36 := by simpa using ht.symm
          subst e
          exact (show Tryd.prog.wantsStandIn 36 = false by kernel_rfl)
        | 1, ht =>
          have e : t = 3 := by simpa using ht.symm
          subst e
          exact (show Tryd.prog.wantsStandIn 3 = false by kernel_rfl)
        | j + 2, ht => simp at ht⟩)
    (by kernel_rfl)


end Go.Proofs.YthcahjnniendnaaDoor.rexIs
