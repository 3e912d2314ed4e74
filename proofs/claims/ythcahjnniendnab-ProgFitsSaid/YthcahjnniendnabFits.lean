/-
  Proved: winnowfanlaw2.ProgFits returns true for every pattern, text and place, and changes nothing that was there. No condition beyond the row's own.
  (The frame behind the walk is the kit's proof-skeleton's.)
-/
import Derived.Test.YthcahjnniendnabLaw
import Derived.Test.YthcahjnniendnabMeanF
import Derived.Test.YthcahjnniendnabStepC
import Derived.Test.YthcahjnniendnabSimF
namespace Go.Proofs.Ythcahjnniendnab.progFits
open Go.ChangeShapes Go.WideShapes Go.ChangeAt Go.RowKit Wf
open Go.ChangeMaps (open_string shut_string)
open law (own laidOut LawIs)
set_option linter.unusedVariables false

theorem fact_rd (w : World) (B : Nat) (hB : w.heap.size = B) (a0 a1 a2 a3 : Nat) : RdN (w.alloc (.cells #[.int .i64 1, .int .u64 (a0 : Int), .int .u64 (a1 : Int), .int .u64 (a2 : Int), .int .u64 (a3 : Int)] 33)) (.slice (some ⟨B, 0, none⟩) 1 1) (flat (.byte (a0, a1, a2, a3))) := by
  subst hB
  refine ⟨_, 1, 1, rfl, by omega, by omega, rfl, fun _ => ⟨_, 0, rfl, fun j u hu => ?_⟩⟩
  rw [Nat.zero_add, World.cell?_alloc_new, ← hu]
  simp [ndCells, flat]
theorem fact_one (w : World) (B : Nat) (hB : w.heap.size = B) : RdI (w.alloc (.cells #[.int .i64 1] 3)) (.slice (some ⟨B, 0, none⟩) 1 1) [1] := by
  subst hB
  refine ⟨_, 1, 1, rfl, by omega, by omega, rfl, fun _ => ⟨_, 0, rfl, fun j u hu => ?_⟩⟩
  rw [Nat.zero_add, World.cell?_alloc_new, ← hu]
  simp [intVals]

theorem fact_run (c : Cls) (hc : c = ofL [97] zc) : runL (progL (.byte c)) [97, 98] 0 = [1] := by
  have h97 : has c 97 = true := by rw [hc]; decide +kernel
  have key : ∀ i, EndsAt (progL (.byte c)) [97, 98] 0 i ↔ i = 1 := by
    intro i
    rw [ends_fits]
    constructor
    · rintro ⟨h, _⟩; omega
    · rintro rfl; exact ⟨rfl, 97, rfl, h97⟩
  unfold runL
  show upTo_ _ (0 + 1 + 1 + 1) = _
  rw [upTo_no (fun h => by have := (key 2).1 h; omega), upTo_yes ((key 1).2 rfl), upTo_no (fun h => by have := (key 0).1 h; omega)]
  rfl

theorem run_ends (t : Rx) (s : List UInt8) (f : Nat) : runL (progL t) s f = endsL s t f := upTo_iff (fun i _ => ends_fits t s f i)
theorem err_same {l : List Nd} (hc : chk l = 0) {P : List St} (hP : okP P) (s : ByteArray) (f : Int) : chkRun P s.size f = mErr l s f := by
  have h1 := chkP_ok.2 hP
  unfold chkRun mErr
  simp only [h1, hc, ne_eq, not_true_eq_false, if_false]
theorem mErr_ok {l : List Nd} {s : ByteArray} {f : Int} (hc : chk l = 0) (h : mErr l s f = 0) : s.size ≤ 400 ∧ 0 ≤ f ∧ f ≤ s.size := by
  unfold mErr at h
  rw [if_neg (by rw [hc]; decide)] at h
  split at h
  · omega
  · split at h
    · omega
    · omega

set_option maxRecDepth 100000 in
set_option maxHeartbeats 4000000 in
theorem walk (l : List Nd) (v : Value) (s : ByteArray) (f : Int) (w : World) (hr : RdN w v l) (hok : ∀ n ∈ l, okNd n) : Calls Try.prog 3 #[v, .string s, .int .i64 f] w (LawIs w) := by
  obtain ⟨A, cap, rfl, hcap, hcap2, hmem⟩ := hr.open_
  have HR := Lib.hid hr
  have HCLS := Lib.hid (show ∀ n ∈ l, okC n.cls from fun n hn => (hok n hn).2.2)
  clear hr hmem hok
  go_enter Try.func3, Try.ntmps3
  go_wp2_with fail
  refine (Of_any _ _ (by decide)).mono ?_
  rintro e w1 ⟨a0, a1, a2, a3, rfl, ha, hb1⟩
  have HRUN := Lib.hid (fact_run (a0, a1, a2, a3) ha)
  have HOK : Hid (∀ s ∈ progL (.byte (a0, a1, a2, a3)), okC s.cls) := Lib.hid (progL_cls okC okC_zc _ (by
    intro n hn
    obtain rfl := List.mem_singleton.1 hn
    show okC (a0, a1, a2, a3)
    rw [ha]; exact okC_ofL _ _ okC_zc))
  have HPO := Lib.hid (progL_ok (.byte (a0, a1, a2, a3)) (by simp [flat]))
  have HB1 := Lib.hid hb1
  clear ha hb1
  go_wp2_with fail
  refine (Of_ok _ (.byte (a0, a1, a2, a3)) rfl _ _ (by simp [flat]) (fact_rd _ _ (by simp) a0 a1 a2 a3)).mono ?_
  rintro e w2 ⟨g2, c2, rfl, hr2, _, hb2⟩
  have HR2 := Lib.hid hr2
  have HB2 := Lib.hid ((HB1.out.alloc HB1.out.size _).trans (hb2.mono (Nat.le_trans HB1.out.size (by simp))))
  clear hr2 hb2
  go_wp2_with fail
  refine (REnds_ok _ HPO.out HOK.out _ ⟨#[97, 98]⟩ (by decide) 0 (by decide) _ HR2.out).mono ?_
  rintro e w3 ⟨A3, c3, he, hr3, hb3⟩
  rw [show (ByteArray.mk #[97, 98]).data.toList = [97, 98] from rfl, HRUN.out] at he hr3
  obtain rfl : e = .returned (.tuple #[.slice A3 1 c3, .nilIface]) := he
  rw [natVals_ints] at hr3
  have HR3 : Hid (RdI w3 (.slice A3 1 c3) [1]) := Lib.hid hr3
  have HB3 := Lib.hid (HB2.out.trans (hb3.mono HB2.out.size))
  clear hb3 hr3 HB1 HB2 HR2
  go_wp2_with fail
  refine (Ints_any [1] [1] _ _ _ (HR3.out.below ((Below.refl _ _).alloc (Nat.le_refl _) _)) (fact_one w3 _ (by simp))).mono ?_
  rintro e w4 ⟨r, rfl, hr4, hb4⟩
  obtain rfl : r = true := hr4.2 rfl
  have HB4 := Lib.hid ((HB3.out.alloc HB3.out.size _).trans (hb4.mono (Nat.le_trans HB3.out.size (by simp))))
  clear hr4 hb4 HR3 HB3
  go_wp2_with fail
  by_cases hc : chk l = 0
  · obtain ⟨hlen, t, ht⟩ := chk_tree hc
    have HT := Lib.hid ht
    have HC := Lib.hid hc
    clear hc ht
    refine (Of_ok l t HT.out (.slice A l.length cap) _ hlen (HR.out.below HB4.out)).mono ?_
    rintro e w5 ⟨g5, c5, rfl, hr5, _, hb5⟩
    have HPO2 := Lib.hid (progL_ok t (by rw [← HT.out]; exact hlen))
    have HOK2 : Hid (∀ s ∈ progL t, okC s.cls) := Lib.hid (progL_cls okC okC_zc t (by rw [← HT.out]; exact HCLS.out))
    have HEN := Lib.hid (fun (s : List UInt8) (f : Nat) => run_ends t s f)
    have hPl2 : (progL t).length ≤ 2 * l.length + 1 := by rw [progL_len, HT.out]; have := sz_le t; omega
    have HR5 := Lib.hid hr5
    have HB5 := Lib.hid (HB4.out.trans (hb5.mono HB4.out.size))
    clear hr5 hb5 HB4
    generalize progL t = P at *
    have hPl : P.length ≤ 200 := HPO2.out.2.1
    have d1 : decide (2 * l.length + 1 < P.length) = false := by simp; omega
    have d2 : decide (2 * (l.length : Int) + 1 < (P.length : Int)) = false := by simp; omega
    have hck := PCheck_any P (.slice (some ⟨g5, 0, none⟩) P.length c5) w5 HR5.out (by omega)
    rw [chkP_ok.2 HPO2.out] at hck
    have HCK := Lib.hid hck
    clear hck
    go_wp2_with fail
    refine HCK.out.mono ?_
    rintro e w6 ⟨he6, hb6⟩
    obtain rfl : e = .returned .nilIface := he6
    have HR6 := Lib.hid (HR5.out.below hb6)
    have HB6 := Lib.hid (HB5.out.trans (hb6.mono HB5.out.size))
    clear hb6 HCK HR5 HB5
    go_wp2_with fail
    by_cases hz : mErr l s f = 0
    · obtain ⟨hs, hf0, hf1⟩ := mErr_ok HC.out hz
      obtain ⟨at_, rfl⟩ : ∃ n : Nat, f = (n : Int) := ⟨f.toNat, by omega⟩
      have hat : at_ ≤ s.size := by omega
      clear hz
      refine (REnds_ok P HPO2.out HOK2.out _ s hs at_ hat _ HR6.out).mono ?_
      rintro e w8 ⟨A8, c8, rfl, hr8, hb8⟩
      have HR8 := Lib.hid hr8
      have HB8 := Lib.hid (HB6.out.trans (hb8.mono HB6.out.size))
      clear hr8 hb8
      go_wp2_with fail
      refine (MEnds_ok l t HT.out HCLS.out (.slice A l.length cap) s at_ _ hlen (HR.out.below HB8.out) hs hat).mono ?_
      rintro e w9 ⟨v9, rfl, hr9, hb9⟩
      have hr8' := HR8.out.below hb9
      rw [natVals_ints] at hr9
      rw [natVals_ints] at hr8'
      have HR9 := Lib.hid (show RdI w9 v9 _ from hr9)
      have HR8' : Hid (RdI w9 (.slice A8 (runL P s.data.toList at_).length c8) (toInts (endsL s.data.toList t at_))) := Lib.hid (by have e := HEN.out s.data.toList at_; rw [← e]; exact hr8')
      have HB9 := Lib.hid (HB8.out.trans (hb9.mono HB8.out.size))
      clear hr9 hb9 hr8' HR8 HB8
      generalize runL P s.data.toList at_ = LL at *
      generalize endsL s.data.toList t at_ = L at *
      obtain ⟨VA9, vc9, rfl, _, _, _⟩ := HR9.out.open_
      go_wp2_with fail
      refine (Ints_any (toInts L) (toInts L) _ _ _ HR8'.out HR9.out).mono ?_
      rintro e w10 ⟨r, rfl, hr, hb10⟩
      obtain rfl : r = true := hr.2 rfl
      have HB10 := Lib.hid (HB9.out.trans (hb10.mono HB9.out.size))
      clear hr hb10
      go_wp2_with fail
      go_region
      go_wp2_with fail
      go_ret
      exact ⟨rfl, HB10.out.drew⟩
    · have hz2 : chkRun P s.size f ≠ 0 := by rw [err_same HC.out HPO2.out]; exact hz
      have HZ := Lib.hid hz
      have HZ2 := Lib.hid hz2
      have HE := Lib.hid (errV_ne hz)
      have HE2 := Lib.hid (errV_ne hz2)
      clear hz hz2
      refine (REnds_no P _ s f _ HR6.out (by omega) HZ2.out).mono ?_
      rintro e w8 ⟨rfl, hb8⟩
      rw [HE2.out]
      have HB8 := Lib.hid (HB6.out.trans (hb8.mono HB6.out.size))
      clear hb8
      go_wp2_with fail
      refine (MEnds_no l (.slice A l.length cap) s f _ (HR.out.below HB8.out) HZ.out).mono ?_
      rintro e w9 ⟨rfl, hb9⟩
      rw [HE.out]
      have HB9 := Lib.hid (HB8.out.trans (hb9.mono HB8.out.size))
      clear hb9
      go_wp2_with fail
      refine (Ints_any [] [] _ _ _ (RdI.nil _) (RdI.nil _)).mono ?_
      rintro e w10 ⟨r, rfl, hr, hb10⟩
      obtain rfl : r = true := hr.2 rfl
      have HB10 := Lib.hid (HB9.out.trans (hb10.mono HB9.out.size))
      clear hr hb10
      go_wp2_with fail
      go_region
      go_wp2_with fail
      go_ret
      exact ⟨rfl, HB10.out.drew⟩
  · have HE := Lib.hid (errV_ne hc)
    refine (Of_no l (.slice A l.length cap) _ (HR.out.below HB4.out) hc).mono ?_
    rintro e w5 ⟨rfl, hb5⟩
    rw [HE.out]
    have HB5 := Lib.hid (HB4.out.trans (hb5.mono HB4.out.size))
    clear hb5
    go_wp2_with fail
    go_ret
    exact ⟨rfl, HB5.out⟩

/-! ### THE ROW's STEP -/
set_option maxRecDepth 100000 in
theorem lifted (os : Os) (started : os.Started) (H : Type) (enc : TypeId × Value → H) :
    ReturnsInHanded {} Try.checked os 3 .any (Rows.progFitsSpec.pre6 enc Try.prog Try.f3 Rows.progFitsRow.domain false) (Rows.progFitsSpec.post enc Try.prog Try.f3 false true false false) := by
  refine returnsInHanded_of_change (C := Try.checked) own started (by kernel_rfl) Try.func3
    (ChangeSpec.witness6 (enc := enc) (C := Try.checked) false ⟨#[], #[.slice none 0 0, .string ByteArray.empty, .int .i64 0], []⟩ 8 (by kernel_rfl) (by kernel_rfl) (by kernel_rfl) (by kernel_rfl)) ?_
  intro W base args ds gs before hval0 hW hcnd _
  have hval : ∀ (j : Nat) t v, Try.f3.params[j]? = some t → args[j]? = some v → Value.okWide Try.prog W .any base t v := hval0
  have hW' := hW
  obtain ⟨p, q, hA0, hV, rfl, hfz, hnd⟩ := hW
  have hA : DataW.TrodAll enc Try.prog W 0 (fun _ => true) true Try.f3.params.toList args.toList ds p := hA0
  rw [Try.params3] at hA hval
  obtain ⟨v0, vs0, d0, ds0, p0, q0, hargs, rfl, rfl, h0, r0⟩ := trodAll_cons hA
  obtain ⟨v1, vs1, d1, ds1, p1, q1, rfl, rfl, rfl, h1, r1⟩ := trodAll_cons r0
  obtain ⟨v2, vs2, d2, ds2, p2, q2, rfl, rfl, rfl, h2, r2⟩ := trodAll_cons r1
  obtain ⟨rfl, rfl, rfl⟩ := trodAll_nil r2
  obtain rfl : args = #[v0, v1, v2] := by cases args; simp_all
  obtain ⟨rfl, rfl⟩ := trodVars_none hV
  obtain ⟨a0, len0, cap0, rfl⟩ := okWide_slice Try.underlying22 (hval 0 22 v0 rfl rfl)
  have k0 := h0
  have lt0 : ∀ x ∈ p0, x.block < W.heap.size := by obtain ⟨m, hm⟩ := k0; exact DataW.trod_lt m _ _ _ hm
  obtain ⟨z0, w0, ok0⟩ : ∃ l, RdN W (.slice a0 len0 cap0) l ∧ ∀ nd ∈ l, okNd nd := by obtain ⟨fuel, hf⟩ := h0; exact open_nodes (by simpa [Value.cells] using hf)
  have k1 := h1
  have lt1 : ∀ x ∈ p1, x.block < W.heap.size := by obtain ⟨m, hm⟩ := k1; exact DataW.trod_lt m _ _ _ hm
  obtain ⟨s1, rfl, rfl, rfl, ws1⟩ := open_string Try.underlying9 (hval 1 9 v1 rfl rfl) h1
  have k2 := h2
  have lt2 : ∀ x ∈ p2, x.block < W.heap.size := by obtain ⟨m, hm⟩ := k2; exact DataW.trod_lt m _ _ _ hm
  obtain ⟨x2, rfl, rfl, rfl, wx2⟩ := open_int Try.underlying3 (hval 2 3 v2 rfl rfl) h2
  clear hA0 hval0
  refine (walk z0 _ s1 x2 W w0 ok0).mono fun e W' ⟨he, bel⟩ => ?_
  subst he
  exact ⟨_, rfl, _, _, _, [], _, [], hW', trodAll_mk1 (shut_bool Try.underlying4 _), (trodAll_cons_mk (Below.trod laidOut (by kernel_rfl) (of_decide_eq_true (by kernel_rfl)) k0 bel lt0) (trodAll_cons_mk (shut_string Try.underlying9 ws1) (trodAll_cons_mk (shut_int Try.underlying3 wx2) trodAll_mk0))), rfl, bel.frame _, fun h => by cases h⟩

theorem over : Rows.progFitsRow.holds Try.pinned (OpenSpec.ofChange Rows.progFitsSpec) :=
  OpenClaim.holds_of_wide 3 Try.f3 rfl rfl rfl rfl rfl rfl rfl ⟨rfl, rfl, rfl, rfl, rfl⟩ rfl rfl rfl rfl rfl (by kernel_rfl) Try.func3 (by kernel_rfl)
    (of_decide_eq_true (by kernel_rfl)) (by unfold Func.isWrapper; first | (rw [if_pos (by decide +kernel)]; kernel_rfl) | (rw [if_neg (by decide +kernel)]; exact ⟨rfl, rfl⟩))
    (fun os started H enc _ => lifted os started H enc)

/-- THE STATEMENT -/
theorem proved : Rows.ProgFitsSaid := over


end Go.Proofs.Ythcahjnniendnab.progFits
