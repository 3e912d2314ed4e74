/-
  Proved: winnowfanlaw2.FindLater returns true for every pattern, text and two places, and changes nothing that was there.
-/
import Derived.Test.YthcahjnniendnacDoorAs
import Derived.Test.YthcahjnniendnacDoorEmptyNo
import Derived.Test.YthcahjnniendnacDoorFindE
import Derived.Test.YthcahjnniendnacDoorLaid
import Derived.Test.YthcahjnniendnacDoorLaw
import Derived.Test.YthcahjnniendnacDoorOpen
import Derived.Test.YthcahjnniendnacDoorPq
import Derived.Test.YthcahjnniendnacDoorTie
import Derived.Test.YthcahjnniendnacDoorCards
namespace Go.Proofs.YthcahjnniendnacDoor.findLater
open Go.ChangeShapes Go.WideShapes Go.ChangeAt Go.RowKit Wf
open Go.ChangeMaps (open_string shut_string)
open law (own laidOut LawIs laidL laidWorld laidWorld_met handle_of_laid)
set_option linter.unusedVariables false

theorem fact_rd (w : World) (B : Nat) (hB : w.heap.size = B) (a0 a1 a2 a3 : Nat) : RdN (w.alloc (.cells #[.int .i64 1, .int .u64 (a0 : Int), .int .u64 (a1 : Int), .int .u64 (a2 : Int), .int .u64 (a3 : Int)] 50)) (.slice (some ⟨B, 0, none⟩) 1 1) [⟨1, (a0, a1, a2, a3)⟩] := by
  subst hB
  refine ⟨_, 1, 1, rfl, by omega, by omega, rfl, fun _ => ⟨_, 0, rfl, fun j u hu => ?_⟩⟩
  rw [Nat.zero_add, World.cell?_alloc_new, ← hu]
  simp [ndCells]
theorem fact_is (c : Cls) (hc : c = ofL [97] zc) : findR [⟨1, c⟩] (.byte c) ⟨#[97, 97]⟩ 1 = (0, 1, 2) := by
  have h1 : chk [⟨1, c⟩] = 0 := chk_flat (.byte c) (by simp [flat])
  have h2 : foundO (ByteArray.mk #[97, 97]).data.toList (.byte c) (Int.toNat 1) = some (1, 2) := by rw [hc]; exact fact_later
  unfold findR chkFd chkF
  rw [h1, h2]
  decide

set_option maxRecDepth 100000 in
set_option maxHeartbeats 16000000 in
theorem walk (l : List Nd) (v : Value) (s : ByteArray) (a b : Int) (w : World) (hr : RdN w v l) (hok : ∀ n ∈ l, okNd n) (hs : s.size ≤ maxLen) (hg : ErrT w) :
    Calls Tryd.prog 4 #[v, .string s, .int .i64 a, .int .i64 b] w (LawIs w) := by
  have hokc : ∀ n ∈ l, okC n.cls := fun n hn => (hok n hn).2.2
  unfold maxLen at hs
  obtain ⟨t, ht⟩ := tree_of l
  have HF := Lib.hid (fun f W h => find_any l t ht hokc s hs f v W h)
  have HLA := Lib.hid (findR_later l t s a b)
  have HR := Lib.hid hr
  have HG := Lib.hid hg
  have HS := Lib.hid (fun n m W h => SErr_any n m W h)
  clear hr hok hokc ht hg
  go_enter Tryd.func4, Tryd.ntmps4
  go_wp2_with fail
  refine (Of_any _ _ (by decide)).mono ?_
  rintro e w1 ⟨a0, a1, a2, a3, rfl, ha, hb1⟩
  have HFA := Lib.hid (fact_is (a0, a1, a2, a3) ha)
  have HOC : Hid (∀ n ∈ [(⟨1, (a0, a1, a2, a3)⟩ : Nd)], okC n.cls) := Lib.hid (by
    intro n hn
    obtain rfl := List.mem_singleton.1 hn
    show okC (a0, a1, a2, a3)
    rw [ha]; exact okC_ofL _ _ okC_zc)
  have HB1 := Lib.hid hb1
  clear ha hb1
  go_wp2_with fail
  refine (find_any [⟨1, (a0, a1, a2, a3)⟩] (.byte (a0, a1, a2, a3)) (fun _ => rfl) HOC.out ⟨#[97, 97]⟩ (by decide) 1 _ _ (fact_rd _ _ (by simp) a0 a1 a2 a3)).mono ?_
  rintro e w2 ⟨he, hb2⟩
  rw [HFA.out] at he
  obtain rfl : e = .returned (.tuple #[.agg #[.int .i64 1, .int .i64 2], .nilIface]) := he
  have HB2 := Lib.hid (((HB1.out.alloc HB1.out.size _).trans (hb2.mono (Nat.le_trans HB1.out.size (by simp)))).alloc (Nat.le_trans HB1.out.size (Nat.le_trans (by simp) hb2.size)) (.cells #[.int .i64 1, .int .i64 2] 46))
  clear hb2 HB1
  by_cases hab : b < a
  · have d0 : decide (b < a) = true := by simpa using hab
    clear hab
    go_wp2_with fail
    go_ret
    exact ⟨rfl, HB2.out⟩
  · have d0 : decide (b < a) = false := by simpa using hab
    have hla := HLA.out (by omega)
    have HL2 := Lib.hid hla
    clear hla HLA hab
    go_wp2_with fail
    refine (HF.out a _ (HR.out.below HB2.out)).mono ?_
    rintro e w3 ⟨rfl, hb3⟩
    have HB3 := Lib.hid (HB2.out.trans (hb3.mono HB2.out.size))
    clear hb3
    generalize findR l t s a = r1 at *
    obtain ⟨n1, x1, y1⟩ := r1
    dsimp only at HL2 ⊢
    have HK3 := Lib.hid (Blk.new w3 46 #[.int .i64 (x1 : Int), .int .i64 (y1 : Int)])
    have HB3' := Lib.hid (HB3.out.alloc HB3.out.size (.cells #[.int .i64 (x1 : Int), .int .i64 (y1 : Int)] 46))
    go_wp2_with fail
    refine (HF.out b _ (HR.out.below HB3'.out)).mono ?_
    rintro e w4 ⟨rfl, hb4⟩
    have hsz3 := hb4.size
    simp at hsz3
    have HK4 := Lib.hid (HK3.out.kept hb4)
    have HB4 := Lib.hid (HB3'.out.trans (hb4.mono HB3'.out.size))
    clear hb4
    generalize findR l t s b = r2 at *
    obtain ⟨n2, x2, y2⟩ := r2
    dsimp only at HL2 ⊢
    have HB4' := Lib.hid (HB4.out.alloc HB4.out.size (.cells #[.int .i64 (x2 : Int), .int .i64 (y2 : Int)] 46))
    have HN4 := Lib.hid (Blk.new w4 46 #[.int .i64 (x2 : Int), .int .i64 (y2 : Int)])
    have HK4' := Lib.hid (HK4.out.alloc (.cells #[.int .i64 (x2 : Int), .int .i64 (y2 : Int)] 46))
    go_wp2_with fail
    refine (HS.out n2 4 _ (HG.out.below HB4'.out)).mono ?_
    rintro e w5 ⟨r5, rfl, hr5, hb5⟩
    have HB5 := Lib.hid (HB4'.out.trans (hb5.mono HB4'.out.size))
    have HK5 := Lib.hid (HK4'.out.kept hb5)
    have HN5 := Lib.hid (HN4.out.kept hb5)
    have HR5 := Lib.hid hr5
    have c0 : w5.cell? ⟨w3.heap.size, 0, none⟩ = some (.int .i64 (x1 : Int)) := HK5.out.cell 0
    have c1 : w5.cell? ⟨w3.heap.size, 1, none⟩ = some (.int .i64 (y1 : Int)) := HK5.out.cell 1
    have e0 : w5.cell? ⟨w4.heap.size, 0, none⟩ = some (.int .i64 (x2 : Int)) := HN5.out.cell 0
    have e1 : w5.cell? ⟨w4.heap.size, 1, none⟩ = some (.int .i64 (y2 : Int)) := HN5.out.cell 1
    clear hb5 hr5
    by_cases hn1 : n1 = 0
    · subst hn1
      rw [errV_zero]
      by_cases hn2 : n2 = 0
      · subst hn2
        rw [errV_zero]
        obtain ⟨h1, h2⟩ := HL2.out.2.2 rfl rfl
        have d1 : decide (x1 ≤ x2) = true := by simpa using h1
        by_cases hx : (x1 : Int) < b
        · have d2 : decide ((x1 : Int) < b) = true := by simpa using hx
          clear h1 h2 hx
          go_wp2_with fail
          go_ret
          exact ⟨rfl, HB5.out⟩
        · have d2 : decide ((x1 : Int) < b) = false := by simpa using hx
          have d3 : sp2 (x1 : Int) (y1 : Int) (x2 : Int) (y2 : Int) = true := (sp2_iff _ _ _ _).2 (h2.resolve_left hx)
          clear h1 h2 hx
          go_wp2_with fail
          go_ret
          exact ⟨rfl, HB5.out⟩
      · have HEV := Lib.hid (errV_ne hn2)
        rw [HEV.out]
        by_cases h4 : n2 = 4
        · obtain rfl : r5 = true := HR5.out.2 h4
          have hx := HL2.out.2.1 rfl h4
          have d2 : decide ((x1 : Int) < b) = true := by simpa using hx
          clear h4 hx hn2
          go_wp2_with fail
          go_ret
          exact ⟨rfl, HB5.out⟩
        · obtain rfl : r5 = false := by
            cases r5 with
            | false => rfl
            | true => exact absurd (HR5.out.1 rfl) h4
          clear h4 hn2
          go_wp2_with fail
          go_ret
          exact ⟨rfl, HB5.out⟩
    · have HEV := Lib.hid (errV_ne hn1)
      have HS1 := Lib.hid (HS.out n1 4 w5 (HG.out.below HB5.out))
      rw [HEV.out] at HS1 ⊢
      have HN1 := Lib.hid hn1
      clear hn1
      go_wp2_with fail
      refine HS1.out.mono ?_
      rintro e w6 ⟨r6, rfl, hr6, hb6⟩
      have HB6 := Lib.hid (HB5.out.trans (hb6.mono HB5.out.size))
      have HR6 := Lib.hid hr6
      clear hb6 hr6
      cases r6 with
      | true =>
        have hn2 := HL2.out.1 (HR6.out.1 rfl)
        have HE2 := Lib.hid (errV_ne hn2)
        rw [HE2.out]
        clear hn2
        go_wp2_with fail
        go_ret
        exact ⟨rfl, HB6.out⟩
      | false =>
        go_wp2_with fail
        go_ret
        exact ⟨rfl, HB6.out⟩

/-! ### THE ROW's STEP -/
set_option maxRecDepth 100000 in
theorem lifted (os : Os) (started : os.Started) (H : Type) (enc : TypeId × Value → H) :
    ReturnsInHanded {} Tryd.checked os 4 .any (fun w args => (Rows.findLaterSpec.pre enc Tryd.prog Tryd.f4 [] false w args ∧ laidMetH Tryd.prog laidL w) ∧ sizedMet enc Tryd.prog Tryd.f4 (OpenSpec.ofChange Rows.findLaterSpec) false w args)
      (Rows.findLaterSpec.post enc Tryd.prog Tryd.f4 false true false false) := by
  refine returnsInHanded_of_change_and (C := Tryd.checked) (X := fun w _ => laidMetH Tryd.prog laidL w) (fun _ _ _ hh h => h.of_heap hh) own started (by kernel_rfl) Tryd.func4
    (ChangeSpec.witness_at (enc := enc) (C := Tryd.checked) (os := os) (X := fun w _ => laidMetH Tryd.prog laidL w) false (laidWorld os) #[.slice none 0 0, .string ByteArray.empty, .int .i64 0, .int .i64 0] 8 rfl (by kernel_rfl) (by kernel_rfl) (by kernel_rfl) (by kernel_rfl) (by kernel_rfl) (laidWorld_met os _)) ?_
  intro W base args ds gs before hval0 hW hcnd _ hL _
  have hval : ∀ (j : Nat) t v, Tryd.f4.params[j]? = some t → args[j]? = some v → Value.okWide Tryd.prog W .any base t v := hval0
  have hW' := hW
  obtain ⟨p, q, hA0, hV, rfl, hfz, hnd⟩ := hW
  have hA : DataW.TrodAll enc Tryd.prog W 0 (fun _ => true) true Tryd.f4.params.toList args.toList ds p := hA0
  rw [Tryd.params4] at hA hval
  obtain ⟨v0, vs0, d0, ds0, p0, q0, hargs, rfl, rfl, h0, r0⟩ := trodAll_cons hA
  obtain ⟨v1, vs1, d1, ds1, p1, q1, rfl, rfl, rfl, h1, r1⟩ := trodAll_cons r0
  obtain ⟨v2, vs2, d2, ds2, p2, q2, rfl, rfl, rfl, h2, r2⟩ := trodAll_cons r1
  obtain ⟨v3, vs3, d3, ds3, p3, q3, rfl, rfl, rfl, h3, r3⟩ := trodAll_cons r2
  obtain ⟨rfl, rfl, rfl⟩ := trodAll_nil r3
  obtain rfl : args = #[v0, v1, v2, v3] := by cases args; simp_all
  obtain ⟨rfl, rfl⟩ := trodVars_none hV
  have hg := handle_of_laid hL
  obtain ⟨a0, len0, cap0, rfl⟩ := okWide_slice Tryd.underlying44 (hval 0 44 v0 rfl rfl)
  have k0 := h0
  have lt0 : ∀ x ∈ p0, x.block < W.heap.size := by obtain ⟨m, hm⟩ := k0; exact DataW.trod_lt m _ _ _ hm
  obtain ⟨z0, w0, ok0⟩ : ∃ l, RdN W (.slice a0 len0 cap0) l ∧ ∀ nd ∈ l, okNd nd := by obtain ⟨fuel, hf⟩ := h0; exact open_nodes (by simpa [Value.cells] using hf)
  have k1 := h1
  have lt1 : ∀ x ∈ p1, x.block < W.heap.size := by obtain ⟨m, hm⟩ := k1; exact DataW.trod_lt m _ _ _ hm
  obtain ⟨s1, rfl, rfl, rfl, ws1⟩ := open_string Tryd.underlying9 (hval 1 9 v1 rfl rfl) h1
  have k2 := h2
  have lt2 : ∀ x ∈ p2, x.block < W.heap.size := by obtain ⟨m, hm⟩ := k2; exact DataW.trod_lt m _ _ _ hm
  obtain ⟨x2, rfl, rfl, rfl, wx2⟩ := open_int Tryd.underlying3 (hval 2 3 v2 rfl rfl) h2
  have k3 := h3
  have lt3 : ∀ x ∈ p3, x.block < W.heap.size := by obtain ⟨m, hm⟩ := k3; exact DataW.trod_lt m _ _ _ hm
  obtain ⟨x3, rfl, rfl, rfl, wx3⟩ := open_int Tryd.underlying3 (hval 3 3 v3 rfl rfl) h3
  clear hA0 hval0
  refine (walk z0 _ s1 x2 x3 W w0 ok0 (by simpa using ws1) hg).mono fun e W' ⟨he, bel⟩ => ?_
  subst he
  exact ⟨_, rfl, _, _, _, [], _, [], hW', trodAll_mk1 (shut_bool Tryd.underlying4 _), (trodAll_cons_mk (Below.trod laidOut (by kernel_rfl) (of_decide_eq_true (by kernel_rfl)) k0 bel lt0) (trodAll_cons_mk (shut_string Tryd.underlying9 ws1) (trodAll_cons_mk (shut_int Tryd.underlying3 wx2) (trodAll_cons_mk (shut_int Tryd.underlying3 wx3) trodAll_mk0)))), rfl, bel.frame _, fun h => by cases h⟩

theorem over : Rows.findLaterRow.holds Tryd.pinned (OpenSpec.ofChange Rows.findLaterSpec) :=
  OpenClaim.holds_of_wide 4 Tryd.f4 rfl rfl rfl rfl rfl rfl rfl ⟨rfl, rfl, rfl, rfl, rfl⟩ rfl rfl rfl rfl rfl (by kernel_rfl) Tryd.func4 (by kernel_rfl)
    (of_decide_eq_true (by kernel_rfl)) (by unfold Func.isWrapper; first | (rw [if_pos (by decide +kernel)]; kernel_rfl) | (rw [if_neg (by decide +kernel)]; exact ⟨rfl, rfl⟩))
    (fun os started H enc _ => lifted os started H enc)

/-- THE STATEMENT: the tied card. -/
theorem proved : Rows.FindLaterCardSaid :=
  Claim7.holds_tied_plain_at .later [] [.handle] true (true, "b22f7a0eec186ffb4fb754ff472bcf2adfba2dcccb0cc862029e99de2a9820c8") true
    over (fun _ h => by cases h) (by kernel_rfl) (fun _ h => by cases h) findLater_row_tie rfl ⟨rfl, rfl⟩ (by kernel_rfl) rfl
    (fun f fn hf hfn => by
      obtain rfl : f = 4 := Option.some.inj ((show Tryd.prog.funcNamed "winnowfan/winnowfanlaw2.FindLater" = some 4 by kernel_rfl).symm.trans hf) |>.symm
      obtain rfl : fn = Tryd.f4 := (Option.some.inj (Tryd.func4.symm.trans hfn)).symm
      exact ⟨by kernel_rfl, fun j t ht => by
        rw [Tryd.params4] at ht
        match j, ht with
        | 0, ht =>
          have e : t = 44 := by simpa using ht.symm
          subst e
          exact (show Tryd.prog.wantsStandIn 44 = false by kernel_rfl)
        | 1, ht =>
          have e : t = 9 := by simpa using ht.symm
          subst e
          exact (show Tryd.prog.wantsStandIn 9 = false by kernel_rfl)
        | 2, ht =>
          have e : t = 3 := by simpa using ht.symm
          subst e
          exact (show Tryd.prog.wantsStandIn 3 = false by kernel_rfl)
        | 3, ht =>
          have e : t = 3 := by simpa using ht.symm
          subst e
          exact (show Tryd.prog.wantsStandIn 3 = false by kernel_rfl)
        | j + 4, ht => simp at ht⟩)
    (by kernel_rfl)


end Go.Proofs.YthcahjnniendnacDoor.findLater
