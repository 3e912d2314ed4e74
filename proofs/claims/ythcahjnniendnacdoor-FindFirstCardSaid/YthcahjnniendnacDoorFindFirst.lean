/-
  Proved: winnowfanlaw2.FindFirst returns true for every pattern, text and place, and changes nothing that was there.
-/
import Derived.Test.YthcahjnniendnacDoorAs
import Derived.Test.YthcahjnniendnacDoorEmptyNo
import Derived.Test.YthcahjnniendnacDoorFindE
import Derived.Test.YthcahjnniendnacDoorGMean
import Derived.Test.YthcahjnniendnacDoorLaid
import Derived.Test.YthcahjnniendnacDoorLaw
import Derived.Test.YthcahjnniendnacDoorOpen
import Derived.Test.YthcahjnniendnacDoorPq
import Derived.Test.YthcahjnniendnacDoorTie
import Derived.Test.YthcahjnniendnacDoorCards
namespace Go.Proofs.YthcahjnniendnacDoor.findFirst
open Go.ChangeShapes Go.WideShapes Go.ChangeAt Go.RowKit Wf
open Go.ChangeMaps (open_string shut_string)
open law (own laidOut LawIs laidL laidWorld laidWorld_met handle_of_laid)
set_option linter.unusedVariables false

theorem fact_rd (w : World) (B : Nat) (hB : w.heap.size = B) (a0 a1 a2 a3 : Nat) : RdN (w.alloc (.cells #[.int .i64 6, .int .u64 0, .int .u64 0, .int .u64 0, .int .u64 0, .int .i64 1, .int .u64 (a0 : Int), .int .u64 (a1 : Int), .int .u64 (a2 : Int), .int .u64 (a3 : Int)] 50)) (.slice (some ⟨B, 0, none⟩) 2 2) [⟨6, zc⟩, ⟨1, (a0, a1, a2, a3)⟩] := by
  subst hB
  refine ⟨_, 2, 2, rfl, by omega, by omega, rfl, fun _ => ⟨_, 0, rfl, fun j u hu => ?_⟩⟩
  rw [Nat.zero_add, World.cell?_alloc_new, ← hu]
  simp [ndCells, zc]
theorem fact_is (c : Cls) (hc : c = ofL [97] zc) : findR [⟨6, zc⟩, ⟨1, c⟩] (.plus (.byte c)) ⟨#[98, 97, 97, 98]⟩ 0 = (0, 1, 3) := by
  have h1 : chk [⟨6, zc⟩, ⟨1, c⟩] = 0 := chk_flat (.plus (.byte c)) (by simp [flat])
  have h2 : foundO (ByteArray.mk #[98, 97, 97, 98]).data.toList (.plus (.byte c)) (Int.toNat 0) = some (1, 3) := by rw [hc]; exact fact_plus
  unfold findR chkFd chkF
  rw [h1, h2]
  decide
theorem ends_none {s : List UInt8} {t : Rx} {i : Nat} (h : longO s t i = none) : endsL s t i = [] := List.getLast?_eq_none_iff.1 h
theorem last_get {xs : List Nat} {j : Nat} (h : xs.getLast? = some j) : 0 < xs.length ∧ xs[xs.length - 1]? = some j := by
  rw [List.getLast?_eq_getElem?] at h
  exact ⟨by have := (List.getElem?_eq_some_iff.1 h).1; omega, h⟩

set_option maxRecDepth 100000 in
set_option maxHeartbeats 16000000 in
theorem walk (l : List Nd) (v : Value) (s : ByteArray) (f : Int) (w : World) (hr : RdN w v l) (hok : ∀ n ∈ l, okNd n) (hs : s.size ≤ maxLen) (hg : ErrT w) :
    Calls Tryd.prog 8 #[v, .string s, .int .i64 f] w (LawIs w) := by
  have hokc : ∀ n ∈ l, okC n.cls := fun n hn => (hok n hn).2.2
  unfold maxLen at hs
  obtain ⟨t, ht⟩ := tree_of l
  have HF := Lib.hid (fun W h => find_any l t ht hokc s hs f v W h)
  have HR := Lib.hid hr
  have HG := Lib.hid hg
  have HS := Lib.hid (fun n m W h => SErr_any n m W h)
  have HSZ : Hid (s.data.toList.length = s.size) := Lib.hid (by simp)
  have HT := Lib.hid ht
  have HOKC := Lib.hid hokc
  clear hr hok hokc ht hg
  go_enter Tryd.func8, Tryd.ntmps8
  go_wp2_with fail
  refine (Of_any _ _ (by decide)).mono ?_
  rintro e w1 ⟨a0, a1, a2, a3, rfl, ha, hb1⟩
  have HFA := Lib.hid (fact_is (a0, a1, a2, a3) ha)
  have HOC : Hid (∀ n ∈ [(⟨6, zc⟩ : Nd), ⟨1, (a0, a1, a2, a3)⟩], okC n.cls) := Lib.hid (by
    intro n hn
    simp at hn
    rcases hn with rfl | rfl
    · exact okC_zc
    · show okC (a0, a1, a2, a3)
      rw [ha]; exact okC_ofL _ _ okC_zc)
  have HB1 := Lib.hid hb1
  clear ha hb1
  go_wp2_with fail
  refine (find_any [⟨6, zc⟩, ⟨1, (a0, a1, a2, a3)⟩] (.plus (.byte (a0, a1, a2, a3))) (fun _ => rfl) HOC.out ⟨#[98, 97, 97, 98]⟩ (by decide) 0 _ _ (fact_rd _ _ (by simp) a0 a1 a2 a3)).mono ?_
  rintro e w2 ⟨he, hb2⟩
  rw [HFA.out] at he
  obtain rfl : e = .returned (.tuple #[.agg #[.int .i64 1, .int .i64 3], .nilIface]) := he
  have HB2 := Lib.hid (((HB1.out.alloc HB1.out.size _).trans (hb2.mono (Nat.le_trans HB1.out.size (by simp)))).alloc (Nat.le_trans HB1.out.size (Nat.le_trans (by simp) hb2.size)) (.cells #[.int .i64 1, .int .i64 3] 46))
  clear hb2 HB1
  go_wp2_with fail
  refine (HF.out _ (HR.out.below HB2.out)).mono ?_
  rintro e w3 ⟨rfl, hb3⟩
  have HB3 := Lib.hid (HB2.out.trans (hb3.mono HB2.out.size))
  clear hb3 HF
  by_cases hc : chkFd l s.size f = 0
  · obtain ⟨hc1, hf0, hf1⟩ := chkFd_zero hc
    obtain ⟨hc2, hs4⟩ := chkF_zero hc1
    obtain ⟨f0, rfl⟩ := Int.eq_ofNat_of_zero_le hf0
    have hff : f0 ≤ s.size := by omega
    have HM := Lib.hid (fun i hi W h => MEnds_ok l t (HT.out hc2) HOKC.out v s i W (chk_tree hc2).1 h hs4 hi)
    unfold MEndsIs at HM
    have hfr : findR l t s (f0 : Int) = match foundO s.data.toList t f0 with | some (x, y) => (0, x, y) | none => (4, 0, 0) := by
      unfold findR
      rw [if_neg (by simp [hc]), Int.toNat_natCast]
      cases foundO s.data.toList t f0 <;> rfl
    cases hfo : foundO s.data.toList t f0 with
    | none =>
      rw [hfo] at hfr
      rw [hfr]
      dsimp only
      have hno := findO_no.1 (show findO (longO s.data.toList t) s.data.toList.length f0 = none from hfo)
      rw [HSZ.out] at hno
      have HNO : Hid (∀ i, f0 ≤ i → i < s.size + 1 → i ≤ s.size ∧ endsL s.data.toList t i = []) := Lib.hid (fun i h1 h2 => ⟨by omega, ends_none (hno i h1 (by omega))⟩)
      have HB3' := Lib.hid (HB3.out.alloc HB3.out.size (.cells #[.int .i64 0, .int .i64 0] 46))
      have HE4 : Hid (errV 4 = .iface 40 (.int .i64 4)) := Lib.hid rfl
      have HS4 := Lib.hid (HS.out 4 4 _ (HG.out.below HB3'.out))
      rw [HE4.out] at HS4 ⊢
      have HK3 := Lib.hid (Blk.new w3 46 #[.int .i64 0, .int .i64 0])
      clear hfr hfo hno hc hc1 hc2 hf0 hf1
      go_wp2_with fail
      refine HS4.out.mono ?_
      rintro e w4 ⟨r4, rfl, hr4, hb4⟩
      obtain rfl : r4 = true := hr4.2 rfl
      have hk4 := HK3.out.kept hb4
      have HB4 := Lib.hid (HB3'.out.trans (hb4.mono HB3'.out.size))
      have k0 : w4.cell? ⟨w3.heap.size, 0, none⟩ = some (.int .i64 0) := hk4.cell 0
      have z0 : w4.frozen? ⟨w3.heap.size, 0, none⟩ = false := hk4.frozen 0
      have HK4 := Lib.hid (hk4.set_ 0 (.int .i64 ((s.size : Int) + 1)))
      have hws : w.heap.size ≤ w3.heap.size := HB3.out.size
      have HB4' := Lib.hid (HB4.out.setCell (p := ⟨w3.heap.size, 0, none⟩) hws (.int .i64 ((s.size : Int) + 1)))
      clear hb4 hr4 hk4 HS4
      go_wp2_with fail
      have HW0 := Lib.hid (And.intro HB4'.out HK4.out)
      go_loopw [12] (fun v12 wr => ∃ (i : Nat), f0 ≤ i ∧ i ≤ s.size + 1 ∧ v12 = .int .i64 (i : Int) ∧ Hid (Below w.heap.size w wr ∧ Blk wr w3.heap.size 46 #[.int .i64 ((s.size : Int) + 1), .int .i64 0])) (fun i _ => s.size + 1 - (intOf i).toNat)
      case atStart => exact ⟨f0, Nat.le_refl _, by omega, rfl, HW0⟩
      case round =>
        clear HW0
        obtain ⟨i, hfi, hix, rfl, HW⟩ := hrel
        have k0 : wr.cell? ⟨w3.heap.size, 0, none⟩ = some (.int .i64 ((s.size : Int) + 1)) := HW.out.2.cell 0
        by_cases hlt : i < s.size + 1
        · have d1 : decide (i < s.size + 1) = true := by simpa using hlt
          have d2 : decide ((i : Int) < ((s.size : Int) + 1)) = true := by simp; omega
          obtain ⟨his, hen⟩ := HNO.out i hfi hlt
          have HMI := Lib.hid (HM.out i his wr (HR.out.below HW.out.1))
          rw [hen] at HMI
          clear hen
          go_wp2_with fail
          refine HMI.out.mono ?_
          rintro e w6 ⟨v6, rfl, hrd, hb6⟩
          obtain ⟨A6, c6, rfl, _, _, _⟩ := Rd1.open_ hrd
          have HW6 := Lib.hid (And.intro (HW.out.1.trans (hb6.mono HW.out.1.size)) (HW.out.2.kept hb6))
          rw [show (natVals ([] : List Nat)).length = 0 from rfl]
          clear hrd hb6 HMI
          go_wp2_with fail
          go_roundw
          case rel => exact ⟨i + 1, by omega, by omega, by go_num, HW6⟩
          case measure => simp [intOf]; omega
        · obtain rfl : i = s.size + 1 := by omega
          have d9 : decide ((((s.size + 1 : Nat)) : Int) < (s.size : Int) + 1) = false := by simp
          have d8 : decide (((s.size : Int) + 1) < (s.size : Int) + 1) = false := by simp
          clear hlt
          go_wp2_with fail
          go_ret
          exact ⟨rfl, HW.out.1⟩
    | some q =>
      obtain ⟨x, y⟩ := q
      rw [hfo] at hfr
      rw [hfr]
      dsimp only
      rw [errV_zero]
      obtain ⟨h1, h2, h3, h4⟩ := findO_is (show findO (longO s.data.toList t) s.data.toList.length f0 = some (x, y) from hfo)
      rw [HSZ.out] at h2
      have HNO : Hid (∀ i, f0 ≤ i → i < x → i ≤ s.size ∧ endsL s.data.toList t i = []) := Lib.hid (fun i g1 g2 => ⟨by omega, ends_none (h4 i g1 g2)⟩)
      have hyx : x ≤ y ∧ y ≤ s.size := by have := long_behind s.data.toList t x y h3 (by rw [HSZ.out]; exact h2); rw [HSZ.out] at this; exact this
      obtain ⟨hpos, hget⟩ := last_get (show (endsL s.data.toList t x).getLast? = some y from h3)
      have HX := Lib.hid (HM.out x h2)
      have hel : (endsL s.data.toList t x).length ≤ 402 := by
        have := upTo_len (Fits s.data.toList t x) (s.data.toList.length + 1)
        show (Go.Proofs.YthcahjnniendnacDoor.upTo_ _ (s.data.toList.length + 1)).length ≤ 402
        rw [HSZ.out] at this ⊢
        omega
      generalize endsL s.data.toList t x = xs at HX hpos hget hel
      have HGET := Lib.hid hget
      have HB3' := Lib.hid (HB3.out.alloc HB3.out.size (.cells #[.int .i64 (x : Int), .int .i64 (y : Int)] 46))
      have HK3 := Lib.hid (Blk.new w3 46 #[.int .i64 (x : Int), .int .i64 (y : Int)])
      clear hfr hfo h3 h4 hc hc1 hc2 hf0 hf1 hget
      go_wp2_with fail
      have HW0 := Lib.hid (And.intro HB3'.out HK3.out)
      go_loopw [12] (fun v12 wr => ∃ (i : Nat), f0 ≤ i ∧ i ≤ x ∧ v12 = .int .i64 (i : Int) ∧ Hid (Below w.heap.size w wr ∧ Blk wr w3.heap.size 46 #[.int .i64 (x : Int), .int .i64 (y : Int)])) (fun i _ => x - (intOf i).toNat)
      case atStart => exact ⟨f0, Nat.le_refl _, by omega, rfl, HW0⟩
      case round =>
        clear HW0
        obtain ⟨i, hfi, hix, rfl, HW⟩ := hrel
        have k0 : wr.cell? ⟨w3.heap.size, 0, none⟩ = some (.int .i64 (x : Int)) := HW.out.2.cell 0
        by_cases hlt : i < x
        · have d1 : decide (i < x) = true := by simpa using hlt
          have d2 : decide ((i : Int) < (x : Int)) = true := by simp; omega
          obtain ⟨his, hen⟩ := HNO.out i hfi hlt
          have HMI := Lib.hid (HM.out i his wr (HR.out.below HW.out.1))
          rw [hen] at HMI
          clear hen
          go_wp2_with fail
          refine HMI.out.mono ?_
          rintro e w6 ⟨v6, rfl, hrd, hb6⟩
          obtain ⟨A6, c6, rfl, _, _, _⟩ := Rd1.open_ hrd
          have HW6 := Lib.hid (And.intro (HW.out.1.trans (hb6.mono HW.out.1.size)) (HW.out.2.kept hb6))
          rw [show (natVals ([] : List Nat)).length = 0 from rfl]
          clear hrd hb6 HMI
          go_wp2_with fail
          go_roundw
          case rel => exact ⟨i + 1, by omega, by omega, by go_num, HW6⟩
          case measure => simp [intOf]; omega
        · obtain rfl : i = x := by omega
          have d9 : decide (i < i) = false := by simp
          have k1 : wr.cell? ⟨w3.heap.size, 1, none⟩ = some (.int .i64 (y : Int)) := HW.out.2.cell 1
          clear hlt
          go_wp2_with fail
          refine (HX.out wr (HR.out.below HW.out.1)).mono ?_
          rintro e w6 ⟨v6, rfl, hrd, hb6⟩
          obtain ⟨A6, c6, rfl, hc1, hc2, hmf⟩ := Rd1.open_ hrd
          have hnl : (natVals xs).length = xs.length := by simp [natVals]
          rw [hnl] at hc1 hmf ⊢
          obtain ⟨bf, of_, rfl, hbf, hcc⟩ := hmf hpos
          have g0 : w6.cell? ⟨bf, of_ + (xs.length - 1), none⟩ = some (.int .i64 (y : Int)) := hcc w6 (fun _ => rfl) (xs.length - 1) (.int .i64 (y : Int)) (by simp [natVals, HGET.out])
          have hk6 := HW.out.2.kept hb6
          have c0 : w6.cell? ⟨w3.heap.size, 0, none⟩ = some (.int .i64 (i : Int)) := hk6.cell 0
          have c1 : w6.cell? ⟨w3.heap.size, 1, none⟩ = some (.int .i64 (y : Int)) := hk6.cell 1
          have HB6 := Lib.hid (HW.out.1.trans (hb6.mono HW.out.1.size))
          have i2 : decide (0 < xs.length) = true := by simpa using hpos
          have i7 : decide (f0 ≤ i) = true := by simpa using hfi
          have hw1 : IntKind.i64.wrap ((xs.length : Int) - 1) = (xs.length : Int) - 1 := IntWalk.i64_in _ (by omega)
          have htn : ((xs.length : Int) - 1).toNat = xs.length - 1 := by omega
          have i3 : (0 : Int) ≤ (xs.length : Int) - 1 := by omega
          have i5 : (xs.length : Int) - 1 < (xs.length : Int) := by omega
          have i8 : ((y : Int) == (y : Int)) = true := by simp
          clear hrd hb6 hmf hcc hk6 hnl
          go_wp2_with fail
          go_quiet (fail)
          go_wp2_with fail
          go_ret
          exact ⟨rfl, below_drewN HB6.out _⟩
  · have hfr : findR l t s f = (chkFd l s.size f, 0, 0) := by unfold findR; rw [if_pos hc]
    have h4 : chkFd l s.size f ≠ 4 := chkFd_lt l s.size f
    rw [hfr]
    dsimp only
    generalize chkFd l s.size f = n at *
    have HEV := Lib.hid (errV_ne hc)
    have HB3' := Lib.hid (HB3.out.alloc HB3.out.size (.cells #[.int .i64 0, .int .i64 0] 46))
    have HS4 := Lib.hid (HS.out n 4 _ (HG.out.below HB3'.out))
    rw [HEV.out] at HS4 ⊢
    have H4 := Lib.hid h4
    clear hc hfr h4
    go_wp2_with fail
    refine HS4.out.mono ?_
    rintro e w4 ⟨r4, rfl, hr4, hb4⟩
    obtain rfl : r4 = false := by
      cases r4 with
      | false => rfl
      | true => exact absurd (hr4.1 rfl) H4.out
    have HB4 := Lib.hid (HB3'.out.trans (hb4.mono HB3'.out.size))
    clear hb4 hr4 HS4
    go_wp2_with fail
    go_ret
    exact ⟨rfl, HB4.out⟩


/-! ### THE ROW's STEP -/
set_option maxRecDepth 100000 in
theorem lifted (os : Os) (started : os.Started) (H : Type) (enc : TypeId × Value → H) :
    ReturnsInHanded {} Tryd.checked os 8 .any (fun w args => (Rows.findFirstSpec.pre enc Tryd.prog Tryd.f8 [] false w args ∧ laidMetH Tryd.prog laidL w) ∧ sizedMet enc Tryd.prog Tryd.f8 (OpenSpec.ofChange Rows.findFirstSpec) false w args)
      (Rows.findFirstSpec.post enc Tryd.prog Tryd.f8 false true false false) := by
  refine returnsInHanded_of_change_and (C := Tryd.checked) (X := fun w _ => laidMetH Tryd.prog laidL w) (fun _ _ _ hh h => h.of_heap hh) own started (by kernel_rfl) Tryd.func8
    (ChangeSpec.witness_at (enc := enc) (C := Tryd.checked) (os := os) (X := fun w _ => laidMetH Tryd.prog laidL w) false (laidWorld os) #[.slice none 0 0, .string ByteArray.empty, .int .i64 0] 8 rfl (by kernel_rfl) (by kernel_rfl) (by kernel_rfl) (by kernel_rfl) (by kernel_rfl) (laidWorld_met os _)) ?_
  intro W base args ds gs before hval0 hW hcnd _ hL _
  have hval : ∀ (j : Nat) t v, Tryd.f8.params[j]? = some t → args[j]? = some v → Value.okWide Tryd.prog W .any base t v := hval0
  have hW' := hW
  obtain ⟨p, q, hA0, hV, rfl, hfz, hnd⟩ := hW
  have hA : DataW.TrodAll enc Tryd.prog W 0 (fun _ => true) true Tryd.f8.params.toList args.toList ds p := hA0
  rw [Tryd.params8] at hA hval
  obtain ⟨v0, vs0, d0, ds0, p0, q0, hargs, rfl, rfl, h0, r0⟩ := trodAll_cons hA
  obtain ⟨v1, vs1, d1, ds1, p1, q1, rfl, rfl, rfl, h1, r1⟩ := trodAll_cons r0
  obtain ⟨v2, vs2, d2, ds2, p2, q2, rfl, rfl, rfl, h2, r2⟩ := trodAll_cons r1
  obtain ⟨rfl, rfl, rfl⟩ := trodAll_nil r2
  obtain rfl : args = #[v0, v1, v2] := by cases args; simp_all
  obtain ⟨rfl, rfl⟩ := trodVars_none hV
  have hg := handle_of_laid hL
  obtain ⟨a0, len0, cap0, rfl⟩ := okWide_slice Tryd.underlying44 (hval 0 44 v0 rfl rfl)
  have k0 := h0
  have lt0 : ∀ x ∈ p0, x.block < W.heap.size := by obtain ⟨m, hm⟩ := k0; exact DataW.trod_lt m _ _ _ hm
  obtain ⟨z0, w0, ok0⟩ : ∃ l, RdN W (.slice a0 len0 cap0) l ∧ ∀ nd ∈ l, okNd nd := by obtain ⟨fuel, hf⟩ := h0; exact open_nodes (by simpa [Value.cells] using hf)
  have k1 := h1
  have lt1 : ∀ x ∈ p1, x.block < W.heap.size := by obtain ⟨m, hm⟩ := k1; exact DataW.trod_lt m _ _ _ hm
  obtain ⟨s1, rfl, rfl, rfl, ws1⟩ := open_string Tryd.underlying9 (hval 1 9 v1 rfl rfl) h1
  have k2 := h2
  have lt2 : ∀ x ∈ p2, x.block < W.heap.size := by obtain ⟨m, hm⟩ := k2; exact DataW.trod_lt m _ _ _ hm
  obtain ⟨x2, rfl, rfl, rfl, wx2⟩ := open_int Tryd.underlying3 (hval 2 3 v2 rfl rfl) h2
  clear hA0 hval0
  refine (walk z0 _ s1 x2 W w0 ok0 (by simpa using ws1) hg).mono fun e W' ⟨he, bel⟩ => ?_
  subst he
  exact ⟨_, rfl, _, _, _, [], _, [], hW', trodAll_mk1 (shut_bool Tryd.underlying4 _), (trodAll_cons_mk (Below.trod laidOut (by kernel_rfl) (of_decide_eq_true (by kernel_rfl)) k0 bel lt0) (trodAll_cons_mk (shut_string Tryd.underlying9 ws1) (trodAll_cons_mk (shut_int Tryd.underlying3 wx2) trodAll_mk0))), rfl, bel.frame _, fun h => by cases h⟩

theorem over : Rows.findFirstRow.holds Tryd.pinned (OpenSpec.ofChange Rows.findFirstSpec) :=
  OpenClaim.holds_of_wide 8 Tryd.f8 rfl rfl rfl rfl rfl rfl rfl ⟨rfl, rfl, rfl, rfl, rfl⟩ rfl rfl rfl rfl rfl (by kernel_rfl) Tryd.func8 (by kernel_rfl)
    (of_decide_eq_true (by kernel_rfl)) (by unfold Func.isWrapper; first | (rw [if_pos (by decide +kernel)]; kernel_rfl) | (rw [if_neg (by decide +kernel)]; exact ⟨rfl, rfl⟩))
    (fun os started H enc _ => lifted os started H enc)

/-- THE STATEMENT: the tied card. -/
theorem proved : Rows.FindFirstCardSaid :=
  Claim7.holds_tied_plain_at .later [] [.handle] true (true, "b22f7a0eec186ffb4fb754ff472bcf2adfba2dcccb0cc862029e99de2a9820c8") true
    over (fun _ h => by cases h) (by kernel_rfl) (fun _ h => by cases h) findFirst_row_tie rfl ⟨rfl, rfl⟩ (by kernel_rfl) rfl
    (fun f fn hf hfn => by
      obtain rfl : f = 8 := Option.some.inj ((show Tryd.prog.funcNamed "winnowfan/winnowfanlaw2.FindFirst" = some 8 by kernel_rfl).symm.trans hf) |>.symm
      obtain rfl : fn = Tryd.f8 := (Option.some.inj (Tryd.func8.symm.trans hfn)).symm
      exact ⟨by kernel_rfl, fun j t ht => by
        rw [Tryd.params8] at ht
        match j, ht with
        | 0, ht =>
          have e : t = 44 := by simpa using ht.symm
          subst e
          exact (show Tryd.prog.wantsStandIn 44 = false by kernel_rfl)
        | 1, ht =>
          have e : t = 9 := by simpa using ht.symm
          subst e
          exact (show Tryd.prog.wantsStandIn 9 = false by kernel_rfl)
        | 2, ht =>
          have e : t = 3 := by simpa using ht.symm
          subst e
          exact (show Tryd.prog.wantsStandIn 3 = false by kernel_rfl)
        | j + 3, ht => simp at ht⟩)
    (by kernel_rfl)


end Go.Proofs.YthcahjnniendnacDoor.findFirst
