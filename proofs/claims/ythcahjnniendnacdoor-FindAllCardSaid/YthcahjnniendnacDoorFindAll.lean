/-
  Proved: winnowfanlaw2.FindAll returns true for every pattern and text, and changes nothing that was there.
-/
import Derived.Test.YthcahjnniendnacDoorAs
import Derived.Test.YthcahjnniendnacDoorEmptyNo
import Derived.Test.YthcahjnniendnacDoorFindE
import Derived.Test.YthcahjnniendnacDoorLaid
import Derived.Test.YthcahjnniendnacDoorLaw
import Derived.Test.YthcahjnniendnacDoorOpen
import Derived.Test.YthcahjnniendnacDoorPq
import Derived.Test.YthcahjnniendnacDoorSpans
import Derived.Test.YthcahjnniendnacDoorTie
import Derived.Test.YthcahjnniendnacDoorCards
namespace Go.Proofs.YthcahjnniendnacDoor.findAll
open Go.ChangeShapes Go.WideShapes Go.ChangeAt Go.RowKit Wf
open Go.ChangeMaps (open_string shut_string)
open law (own laidOut LawIs laidL laidWorld laidWorld_met handle_of_laid)
set_option linter.unusedVariables false

theorem fact_rd (w : World) (B : Nat) (hB : w.heap.size = B) (a0 a1 a2 a3 : Nat) : RdN (w.alloc (.cells #[.int .i64 5, .int .u64 0, .int .u64 0, .int .u64 0, .int .u64 0, .int .i64 1, .int .u64 (a0 : Int), .int .u64 (a1 : Int), .int .u64 (a2 : Int), .int .u64 (a3 : Int)] 50)) (.slice (some ⟨B, 0, none⟩) 2 2) [⟨5, zc⟩, ⟨1, (a0, a1, a2, a3)⟩] := by
  subst hB
  refine ⟨_, 2, 2, rfl, by omega, by omega, rfl, fun _ => ⟨_, 0, rfl, fun j u hu => ?_⟩⟩
  rw [Nat.zero_add, World.cell?_alloc_new, ← hu]
  simp [ndCells, zc]
theorem fact_sp (w : World) (B : Nat) (hB : w.heap.size = B) : Rd (w.alloc (.cells #[.int .i64 0, .int .i64 0, .int .i64 1, .int .i64 2, .int .i64 2, .int .i64 2] 46)) 2 (.slice (some ⟨B, 0, none⟩) 3 3) (spanVals [(0, 0), (1, 2), (2, 2)]) := by
  subst hB
  refine ⟨_, 3, 3, rfl, by omega, by omega, rfl, fun _ => ⟨_, 0, rfl, fun j u hu => ?_⟩⟩
  rw [Nat.zero_add, World.cell?_alloc_new, ← hu]
  simp [spanVals]
theorem fact_is (c : Cls) (hc : c = ofL [97] zc) : allR [⟨5, zc⟩, ⟨1, c⟩] (.star (.byte c)) ⟨#[98, 97]⟩ = (0, [(0, 0), (1, 2), (2, 2)]) := by
  have h1 : chk [⟨5, zc⟩, ⟨1, c⟩] = 0 := chk_flat (.star (.byte c)) (by simp [flat])
  have h2 : spansO (ByteArray.mk #[98, 97]).data.toList (.star (.byte c)) 0 = [(0, 0), (1, 2), (2, 2)] := by rw [hc]; exact fact_star
  unfold allR chkF
  rw [h1, h2]
  decide

theorem all_head {L : Nat → Option Nat} {N at_ x y : Nat} {r : List (Nat × Nat)} (hL : Behind L N) (h : allO L N at_ = (x, y) :: r) : at_ ≤ N ∧ findO L N at_ = some (x, y) ∧ allO L N (behind x y) = r := by
  have hat : at_ ≤ N := by
    rcases Nat.lt_or_ge N at_ with hh | hh
    · rw [allO_end hh] at h; cases h
    · exact hh
  cases hf : findO L N at_ with
  | none => rw [allO_none hf] at h; cases h
  | some p =>
    obtain ⟨a, b⟩ := p
    rw [allO_some hL hf] at h
    cases h
    exact ⟨hat, rfl, rfl⟩

set_option maxRecDepth 100000 in
set_option maxHeartbeats 16000000 in
theorem walk (l : List Nd) (v : Value) (s : ByteArray) (w : World) (hr : RdN w v l) (hok : ∀ n ∈ l, okNd n) (hs : s.size ≤ maxLen) (hg : ErrT w) :
    Calls Tryd.prog 6 #[v, .string s] w (LawIs w) := by
  have hokc : ∀ n ∈ l, okC n.cls := fun n hn => (hok n hn).2.2
  unfold maxLen at hs
  obtain ⟨t, ht⟩ := tree_of l
  have HF := Lib.hid (fun f W h => find_any l t ht hokc s hs f v W h)
  have HA := Lib.hid (fun W h => all_any l t ht hokc s hs v W h)
  have HR := Lib.hid hr
  have HG := Lib.hid hg
  have HS := Lib.hid (fun n m W h => SErr_any n m W h)
  have HSZ : Hid (s.data.toList.length = s.size) := Lib.hid (by simp)
  have HBH := Lib.hid (long_behind s.data.toList t)
  clear hr hok hokc ht hg
  go_enter Tryd.func6, Tryd.ntmps6
  go_wp2_with fail
  refine (Of_any _ _ (by decide)).mono ?_
  rintro e w1 ⟨a0, a1, a2, a3, rfl, ha, hb1⟩
  have HFA := Lib.hid (fact_is (a0, a1, a2, a3) ha)
  have HOC : Hid (∀ n ∈ [(⟨5, zc⟩ : Nd), ⟨1, (a0, a1, a2, a3)⟩], okC n.cls) := Lib.hid (by
    intro n hn
    simp at hn
    rcases hn with rfl | rfl
    · exact okC_zc
    · show okC (a0, a1, a2, a3)
      rw [ha]; exact okC_ofL _ _ okC_zc)
  have HB1 := Lib.hid hb1
  clear ha hb1
  go_wp2_with fail
  refine (all_any [⟨5, zc⟩, ⟨1, (a0, a1, a2, a3)⟩] (.star (.byte (a0, a1, a2, a3))) (fun _ => rfl) HOC.out ⟨#[98, 97]⟩ (by decide) _ _ (fact_rd _ _ (by simp) a0 a1 a2 a3)).mono ?_
  rintro e w2 ⟨A2, c2, he, hrd2, hb2⟩
  rw [HFA.out] at he hrd2
  obtain rfl : e = .returned (.tuple #[.slice A2 3 c2, .nilIface]) := he
  have HRD2 : Hid (Rd w2 2 (.slice A2 3 c2) (spanVals [(0, 0), (1, 2), (2, 2)])) := Lib.hid hrd2
  have HB2 := Lib.hid ((HB1.out.alloc HB1.out.size _).trans (hb2.mono (Nat.le_trans HB1.out.size (by simp))))
  clear hb2 HB1 hrd2
  go_wp2_with fail
  refine (Spans_any [(0, 0), (1, 2), (2, 2)] [(0, 0), (1, 2), (2, 2)] _ _ _ (HRD2.out.below ((Below.refl _ _).alloc (Nat.le_refl _) _)) (fact_sp w2 _ rfl)).mono ?_
  rintro e w3 ⟨r3, rfl, hr3, hb3⟩
  obtain rfl : r3 = true := hr3.2 rfl
  have HB3 := Lib.hid ((HB2.out.alloc HB2.out.size _).trans (hb3.mono (Nat.le_trans HB2.out.size (by simp))))
  clear hb3 hr3 HB2 HRD2
  go_wp2_with fail
  refine (HA.out _ (HR.out.below HB3.out)).mono ?_
  rintro e w4 ⟨A4, c4, rfl, hrd4, hb4⟩
  have HB4 := Lib.hid (HB3.out.trans (hb4.mono HB3.out.size))
  have HRD4 := Lib.hid hrd4
  clear hb4 hrd4
  by_cases hc : chkF l s.size = 0
  · have hall : allR l t s = (0, spansO s.data.toList t 0) := by unfold allR; rw [if_neg (by simp [hc])]
    have HFR : Hid (∀ k, k ≤ s.size → findR l t s (k : Int) = match foundO s.data.toList t k with | some (x, y) => (0, x, y) | none => (4, 0, 0)) := Lib.hid (fun k hk => by
      unfold findR
      have h1 : chkFd l s.size (k : Int) = 0 := by unfold chkFd; rw [if_neg (by simp [hc]), if_neg (by omega)]
      rw [if_neg (by simp [h1]), Int.toNat_natCast]
      cases foundO s.data.toList t k <;> rfl)
    rw [hall] at HRD4 ⊢
    dsimp only at HRD4 ⊢
    rw [errV_zero]
    have HSP0 : Hid (spansO s.data.toList t 0 = allO (longO s.data.toList t) s.data.toList.length 0) := Lib.hid rfl
    have hlen := allO_len HBH.out 0
    have HLEN := Lib.hid hlen
    generalize spansO s.data.toList t 0 = sp at *
    have hspl : sp.length ≤ s.size + 1 := by have := HLEN.out; rw [← HSP0.out, HSZ.out] at this; omega
    have hs400 : s.size ≤ 400 := (chkF_zero hc).2
    obtain ⟨A4', c4', hv4, hc1, hc2, hmm⟩ := span_open HRD4.out
    injection hv4 with e1 _ e2
    subst e1
    subst e2
    have HMM := Lib.hid hmm
    clear hc hall hlen HLEN hmm
    go_wp2_with fail
    go_loopw [10, 11] (fun v10 v11 wr => ∃ (i at_ : Nat), i ≤ sp.length ∧ at_ ≤ s.size + 1 ∧ v11 = .int .i64 (i : Int) ∧ v10 = .int .i64 (at_ : Int) ∧ Hid (allO (longO s.data.toList t) s.data.toList.length at_ = sp.drop i) ∧ Hid (Below w4.heap.size w4 wr)) (fun _ i _ => sp.length - (intOf i).toNat)
    case atStart => exact ⟨0, 0, by omega, by omega, rfl, rfl, Lib.hid (by rw [← HSP0.out]; rfl), Lib.hid (Below.refl _ _)⟩
    case round =>
      clear HSP0
      obtain ⟨i, at_, hi, hat, rfl, rfl, HAL, HB⟩ := hrel
      have HBW := Lib.hid (HB4.out.trans (HB.out.mono HB4.out.size))
      by_cases hlt : i < sp.length
      · have d1 : decide (i < sp.length) = true := by simpa using hlt
        have hq : sp[i]? = some (sp[i]'hlt) := List.getElem?_eq_getElem hlt
        generalize sp[i]'hlt = q at hq
        obtain ⟨x, y⟩ := q
        have hdr : sp.drop i = (x, y) :: sp.drop (i + 1) := by
          obtain ⟨h1, h2⟩ := List.getElem?_eq_some_iff.1 hq
          rw [← h2, ← List.drop_eq_getElem_cons h1]
        obtain ⟨hat2, hfo, hrest⟩ := all_head HBH.out (by rw [HAL.out, hdr])
        rw [HSZ.out] at hat2
        have hbg := behind_gt HBH.out hfo
        have hfi := findO_is hfo
        rw [HSZ.out] at hbg
        have HFN := Lib.hid (HF.out (at_ : Int) wr (HR.out.below HBW.out))
        have hfr : findR l t s (at_ : Int) = (0, x, y) := by
          rw [HFR.out at_ hat2]
          have : foundO s.data.toList t at_ = some (x, y) := hfo
          rw [this]
        rw [hfr] at HFN
        unfold FindAny at HFN
        dsimp only at HFN
        rw [errV_zero] at HFN
        obtain ⟨b4, o4, rfl, hb4, hcell⟩ := HMM.out (by omega)
        have HCELL : Hid (∀ W, Below w4.heap.size w4 W → (W.cell? ⟨b4, o4 + i * 2, none⟩ = some (.int .i64 (x : Int)) ∧ W.cell? ⟨b4, o4 + i * 2 + 1, none⟩ = some (.int .i64 (y : Int)))) := Lib.hid (fun W h => hcell W (fun o => h.cell (p := ⟨b4, o, none⟩) hb4) i x y hq)
        have HREST := Lib.hid hrest
        have hx1 : at_ ≤ x := hfi.1
        have hx2 : x ≤ y := hbg.2.2.1
        have hx3 : behind x y ≤ s.size + 1 := hbg.2.1
        have hy1 : y ≤ s.size := hbg.2.2.2
        have i1 : (i : Int) < (sp.length : Int) := by omega
        have i0 : (0 : Int) ≤ (i : Int) := by omega
        clear hq hdr hfo hbg hfi hrest hfr hcell
        go_wp2_with fail
        refine HFN.out.mono ?_
        rintro e w6 ⟨rfl, hb6⟩
        have hws : wr.heap.size ≤ w6.heap.size := hb6.size
        have hb7 := (HB.out.trans (hb6.mono HB.out.size)).alloc (Nat.le_trans HB.out.size hb6.size) (.cells #[.int .i64 (x : Int), .int .i64 (y : Int)] 46)
        have HB7 := Lib.hid hb7
        obtain ⟨g0, g1⟩ := HCELL.out _ hb7
        have hk := Blk.new w6 46 #[.int .i64 (x : Int), .int .i64 (y : Int)]
        have d2 : sp2 (x : Int) (y : Int) (x : Int) (y : Int) = true := sp2_self _ _
        have d3 : decide (x < at_) = false := by simp; omega
        have d4 : decide (y < x) = false := by simp; omega
        have HK := Lib.hid hk
        have hne4 : b4 ≠ w6.heap.size := by have := HB.out.size; omega
        clear hb6 hb7 hk HFN
        obtain ⟨W, hW⟩ : ∃ W, W = w6.alloc (.cells #[.int .i64 (x : Int), .int .i64 (y : Int)] 46) := ⟨_, rfl⟩
        rw [← hW] at g0 g1 HB7 HK
        have HWW := Lib.hid hW
        clear hW
        go_wp2_with fail
        rw [← HWW.out]
        clear HWW
        have k0 : W.cell? ⟨w6.heap.size, 0, none⟩ = some (.int .i64 (x : Int)) := HK.out.cell 0
        have k1 : W.cell? ⟨w6.heap.size, 1, none⟩ = some (.int .i64 (y : Int)) := HK.out.cell 1
        go_quiet (fail)
        have k0' := k0
        by_cases exy : y = x
        · have d5 : decide (y = x) = true := by simpa using exy
          have d6 : ((y : Int) == (x : Int)) = true := by subst exy; simp
          have hbe : behind x y = y + 1 := by unfold behind; rw [if_pos exy]
          have HBE := Lib.hid hbe
          rw [hbe] at hx3
          clear exy hbe
          go_wp2_with fail
          go_roundw
          case rel => exact ⟨i + 1, y + 1, by omega, hx3, by go_num, by go_num, Lib.hid (by rw [← HBE.out]; exact HREST.out), Lib.hid (below_drewN HB7.out _)⟩
          case measure => simp [intOf]; omega
        · have d5 : decide (y = x) = false := by simpa using exy
          have d6 : ((y : Int) == (x : Int)) = false := by simp; omega
          have hbe : behind x y = y := by unfold behind; rw [if_neg exy]
          have HBE := Lib.hid hbe
          clear exy hbe
          go_wp2_with fail
          go_roundw
          case rel => exact ⟨i + 1, y, by omega, by omega, by go_num, by go_num, Lib.hid (by have := HREST.out; rw [HBE.out] at this; exact this), Lib.hid (below_drewN HB7.out _)⟩
          case measure => simp [intOf]; omega
      · obtain rfl : i = sp.length := by omega
        have HAE : Hid (allO (longO s.data.toList t) s.data.toList.length at_ = []) := Lib.hid (by rw [HAL.out, List.drop_length])
        by_cases hend : at_ ≤ s.size
        · have d2 : decide (s.size < at_) = false := by simp; omega
          have hfo : foundO s.data.toList t at_ = none := by
            cases hf : foundO s.data.toList t at_ with
            | none => rfl
            | some p =>
              obtain ⟨x, y⟩ := p
              have := HAE.out
              rw [allO_some HBH.out hf] at this
              cases this
          have HFN := Lib.hid (HF.out (at_ : Int) wr (HR.out.below HBW.out))
          have hfr : findR l t s (at_ : Int) = (4, 0, 0) := by rw [HFR.out at_ hend, hfo]
          rw [hfr] at HFN
          unfold FindAny at HFN
          dsimp only at HFN
          clear hfo hfr hlt
          go_wp2_with fail
          refine HFN.out.mono ?_
          rintro e w6 ⟨rfl, hb6⟩
          have HB6 := Lib.hid ((HBW.out.trans (hb6.mono HBW.out.size)).alloc (Nat.le_trans HBW.out.size hb6.size) (.cells #[.int .i64 0, .int .i64 0] 46))
          clear hb6 HFN
          go_wp2_with fail
          refine (HS.out 4 4 _ (HG.out.below HB6.out)).mono ?_
          rintro e w7 ⟨r7, rfl, hr7, hb7⟩
          obtain rfl : r7 = true := hr7.2 rfl
          have HB7 := Lib.hid (HB6.out.trans (hb7.mono HB6.out.size))
          clear hb7 hr7
          go_wp2_with fail
          go_ret
          exact ⟨rfl, HB7.out⟩
        · have d2 : decide (s.size < at_) = true := by simp; omega
          clear hend hlt
          go_wp2_with fail
          go_ret
          exact ⟨rfl, HBW.out⟩
  · have hall : allR l t s = (chkF l s.size, []) := by unfold allR; rw [if_pos hc]
    have HEV := Lib.hid (errV_ne hc)
    rw [hall] at ⊢
    dsimp only
    rw [HEV.out]
    clear hc hall
    go_wp2_with fail
    go_ret
    exact ⟨rfl, HB4.out⟩

/-! ### THE ROW's STEP -/
set_option maxRecDepth 100000 in
theorem lifted (os : Os) (started : os.Started) (H : Type) (enc : TypeId × Value → H) :
    ReturnsInHanded {} Tryd.checked os 6 .any (fun w args => (Rows.findAllSpec.pre enc Tryd.prog Tryd.f6 [] false w args ∧ laidMetH Tryd.prog laidL w) ∧ sizedMet enc Tryd.prog Tryd.f6 (OpenSpec.ofChange Rows.findAllSpec) false w args)
      (Rows.findAllSpec.post enc Tryd.prog Tryd.f6 false true false false) := by
  refine returnsInHanded_of_change_and (C := Tryd.checked) (X := fun w _ => laidMetH Tryd.prog laidL w) (fun _ _ _ hh h => h.of_heap hh) own started (by kernel_rfl) Tryd.func6
    (ChangeSpec.witness_at (enc := enc) (C := Tryd.checked) (os := os) (X := fun w _ => laidMetH Tryd.prog laidL w) false (laidWorld os) #[.slice none 0 0, .string ByteArray.empty] 8 rfl (by kernel_rfl) (by kernel_rfl) (by kernel_rfl) (by kernel_rfl) (by kernel_rfl) (laidWorld_met os _)) ?_
  intro W base args ds gs before hval0 hW hcnd _ hL _
  have hval : ∀ (j : Nat) t v, Tryd.f6.params[j]? = some t → args[j]? = some v → Value.okWide Tryd.prog W .any base t v := hval0
  have hW' := hW
  obtain ⟨p, q, hA0, hV, rfl, hfz, hnd⟩ := hW
  have hA : DataW.TrodAll enc Tryd.prog W 0 (fun _ => true) true Tryd.f6.params.toList args.toList ds p := hA0
  rw [Tryd.params6] at hA hval
  obtain ⟨v0, vs0, d0, ds0, p0, q0, hargs, rfl, rfl, h0, r0⟩ := trodAll_cons hA
  obtain ⟨v1, vs1, d1, ds1, p1, q1, rfl, rfl, rfl, h1, r1⟩ := trodAll_cons r0
  obtain ⟨rfl, rfl, rfl⟩ := trodAll_nil r1
  obtain rfl : args = #[v0, v1] := by cases args; simp_all
  obtain ⟨rfl, rfl⟩ := trodVars_none hV
  have hg := handle_of_laid hL
  obtain ⟨a0, len0, cap0, rfl⟩ := okWide_slice Tryd.underlying44 (hval 0 44 v0 rfl rfl)
  have k0 := h0
  have lt0 : ∀ x ∈ p0, x.block < W.heap.size := by obtain ⟨m, hm⟩ := k0; exact DataW.trod_lt m _ _ _ hm
  obtain ⟨z0, w0, ok0⟩ : ∃ l, RdN W (.slice a0 len0 cap0) l ∧ ∀ nd ∈ l, okNd nd := by obtain ⟨fuel, hf⟩ := h0; exact open_nodes (by simpa [Value.cells] using hf)
  have k1 := h1
  have lt1 : ∀ x ∈ p1, x.block < W.heap.size := by obtain ⟨m, hm⟩ := k1; exact DataW.trod_lt m _ _ _ hm
  obtain ⟨s1, rfl, rfl, rfl, ws1⟩ := open_string Tryd.underlying9 (hval 1 9 v1 rfl rfl) h1
  clear hA0 hval0
  refine (walk z0 _ s1 W w0 ok0 (by simpa using ws1) hg).mono fun e W' ⟨he, bel⟩ => ?_
  subst he
  exact ⟨_, rfl, _, _, _, [], _, [], hW', trodAll_mk1 (shut_bool Tryd.underlying4 _), (trodAll_cons_mk (Below.trod laidOut (by kernel_rfl) (of_decide_eq_true (by kernel_rfl)) k0 bel lt0) (trodAll_cons_mk (shut_string Tryd.underlying9 ws1) trodAll_mk0)), rfl, bel.frame _, fun h => by cases h⟩

theorem over : Rows.findAllRow.holds Tryd.pinned (OpenSpec.ofChange Rows.findAllSpec) :=
  OpenClaim.holds_of_wide 6 Tryd.f6 rfl rfl rfl rfl rfl rfl rfl ⟨rfl, rfl, rfl, rfl, rfl⟩ rfl rfl rfl rfl rfl (by kernel_rfl) Tryd.func6 (by kernel_rfl)
    (of_decide_eq_true (by kernel_rfl)) (by unfold Func.isWrapper; first | (rw [if_pos (by decide +kernel)]; kernel_rfl) | (rw [if_neg (by decide +kernel)]; exact ⟨rfl, rfl⟩))
    (fun os started H enc _ => lifted os started H enc)

/-- THE STATEMENT: the tied card. -/
theorem proved : Rows.FindAllCardSaid :=
  Claim7.holds_tied_plain_at .later [] [.handle] true (true, "b22f7a0eec186ffb4fb754ff472bcf2adfba2dcccb0cc862029e99de2a9820c8") true
    over (fun _ h => by cases h) (by kernel_rfl) (fun _ h => by cases h) findAll_row_tie rfl ⟨rfl, rfl⟩ (by kernel_rfl) rfl
    (fun f fn hf hfn => by
      obtain rfl : f = 6 := Option.some.inj ((show Tryd.prog.funcNamed "winnowfan/winnowfanlaw2.FindAll" = some 6 by kernel_rfl).symm.trans hf) |>.symm
      obtain rfl : fn = Tryd.f6 := (Option.some.inj (Tryd.func6.symm.trans hfn)).symm
      exact ⟨by kernel_rfl, fun j t ht => by
        rw [Tryd.params6] at ht
        match j, ht with
        | 0, ht =>
          have e : t = 44 := by simpa using ht.symm
          subst e
          exact (show Tryd.prog.wantsStandIn 44 = false by kernel_rfl)
        | 1, ht =>
          have e : t = 9 := by simpa using ht.symm
          subst e
          exact (show Tryd.prog.wantsStandIn 9 = false by kernel_rfl)
        | j + 2, ht => simp at ht⟩)
    (by kernel_rfl)


end Go.Proofs.YthcahjnniendnacDoor.findAll
