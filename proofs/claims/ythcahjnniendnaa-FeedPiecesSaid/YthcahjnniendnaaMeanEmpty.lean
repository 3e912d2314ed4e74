/-
  Proved: winnowfanlaw1.MeanEmpty returns true for every pattern, text and place, and changes nothing that was there. No condition beyond the row's own.
  (The frame behind the walk is the kit's proof-skeleton's.)
-/
import Derived.Test.YthcahjnniendnaaMeanF
import Derived.Test.YthcahjnniendnaaOpen
import Derived.Below
import Derived.ChangeOld
import Derived.ShutString
namespace Go.Proofs.Ythcahjnniendnaa.meanEmpty
open Go.ChangeShapes Go.WideShapes Go.ChangeAt Go.RowKit Wf
open Go.ChangeMaps (open_string shut_string)
set_option linter.unusedVariables false

theorem own : ownKnob Try.prog.godebug = none := by kernel_rfl
theorem laidOut : laidOutB Try.prog = true := by kernel_rfl

def LawIs (w : World) (e : Ending) (w' : World) : Prop := e = .returned (.bool true) ∧ Below w.heap.size w w'

def EmptyNo (l : List Nd) (w : World) (e : Ending) (w' : World) : Prop := e = .returned (.tuple #[.bool false, errV (chk l)]) ∧ Below w.heap.size w w'
set_option maxRecDepth 100000 in
theorem Empty_no (l : List Nd) (v : Value) (w : World) (hr : RdN w v l) (hc : chk l ≠ 0) : Calls Try.prog 14 #[v] w (EmptyNo l w) := by
  obtain ⟨A, cap, rfl, hcap, hcap2, hmem⟩ := hr.open_
  have HR := Lib.hid hr
  have HE := Lib.hid (errV_ne hc)
  clear hmem hr hc
  go_enter Try.func14, Try.ntmps14
  go_wp2_with fail
  refine (Check_any l _ _ HR.out).mono ?_
  rintro e w1 ⟨rfl, hb1⟩
  rw [HE.out]
  go_wp2_with fail
  go_ret2
  exact ⟨by rw [HE.out]; rfl, hb1⟩

theorem fact_rd (w : World) (B : Nat) (hB : w.heap.size = B) : RdN (w.alloc (.cells #[.int .i64 6, .int .u64 0, .int .u64 0, .int .u64 0, .int .u64 0, .int .i64 7, .int .u64 0, .int .u64 0, .int .u64 0, .int .u64 0, .int .i64 1, .int .u64 0, .int .u64 0, .int .u64 0, .int .u64 0] 34)) (.slice (some ⟨B, 0, none⟩) 3 3) [⟨6, zc⟩, ⟨7, zc⟩, ⟨1, zc⟩] := by
  subst hB
  refine ⟨_, 3, 3, rfl, by omega, by omega, rfl, fun _ => ⟨_, 0, rfl, fun j u hu => ?_⟩⟩
  rw [Nat.zero_add, World.cell?_alloc_new, ← hu]
  simp [ndCells, zc]

theorem mErr_zero {l : List Nd} {s : ByteArray} {f : Int} (h : mErr l s f = 0) : chk l = 0 ∧ s.size ≤ 400 ∧ 0 ≤ f ∧ f ≤ s.size := by
  unfold mErr at h
  by_cases h1 : chk l = 0
  · rw [if_neg (by simpa using h1)] at h
    by_cases h2 : s.size > 400
    · rw [if_pos h2] at h; cases h
    · rw [if_neg h2] at h
      by_cases h3 : f < 0 ∨ f > s.size
      · rw [if_pos h3] at h; cases h
      · exact ⟨h1, by omega, by omega, by omega⟩
  · rw [if_pos h1] at h; exact absurd h h1

theorem star_bound (s : List UInt8) (a : Rx) {i j : Nat} (h : Star (Fits s a) i j) (hi : i ≤ s.length) : i ≤ j ∧ j ≤ s.length :=
  Star.inv (P := fun x => i ≤ x ∧ x ≤ s.length) h ⟨Nat.le_refl _, hi⟩ fun x y hx hxy => by have := fits_bound s a x y hxy hx.2; omega

theorem fits_may (s : List UInt8) (u : Rx) : ∀ i, i ≤ s.length → Fits s u i i → may u = true := by
  induction u with
  | byte c => intro i _ h; simp only [Fits] at h; omega
  | empty => intros; rfl
  | bgn => intros; rfl
  | fin => intros; rfl
  | star a ih => intros; rfl
  | opt a ih => intros; rfl
  | cat a b iha ihb =>
    intro i hi h
    simp only [Fits] at h
    obtain ⟨k, h1, h2⟩ := h
    have b1 := fits_bound s a i k h1 hi
    have b2 := fits_bound s b k i h2 b1.2
    obtain rfl : k = i := by omega
    simp [may, iha k hi h1, ihb k hi h2]
  | alt a b iha ihb =>
    intro i hi h
    simp only [Fits] at h
    rcases h with h | h
    · simp [may, iha i hi h]
    · simp [may, ihb i hi h]
  | plus a ih =>
    intro i hi h
    simp only [Fits] at h
    obtain ⟨k, h1, h2⟩ := h
    have b1 := fits_bound s a i k h1 hi
    have b2 := star_bound s a h2 b1.2
    obtain rfl : k = i := by omega
    simp [may, ih k hi h1]

theorem upTo_sorted (P : Nat → Prop) (n k y z : Nat) (hy : (upTo_ P n)[k]? = some y) (hz : (upTo_ P n)[k + 1]? = some z) : y < z := by
  have hp : (upTo_ P n).Pairwise (· < ·) := List.Pairwise.filter _ List.pairwise_lt_range
  rw [List.pairwise_iff_getElem] at hp
  obtain ⟨h1, rfl⟩ := List.getElem?_eq_some_iff.1 hy
  obtain ⟨h2, rfl⟩ := List.getElem?_eq_some_iff.1 hz
  exact hp k (k + 1) h1 h2 (by omega)

set_option maxRecDepth 100000 in
set_option maxHeartbeats 8000000 in
theorem walk (l : List Nd) (v : Value) (s : ByteArray) (f : Int) (w : World) (hr : RdN w v l) (hok : ∀ n ∈ l, okNd n) : Calls Try.prog 7 #[v, .string s, .int .i64 f] w (LawIs w) := by
  have hr0 := hr
  obtain ⟨A, cap, rfl, hcap, hcap2, hmem⟩ := hr.open_
  have HR := Lib.hid hr
  have hcls : ∀ n ∈ l, okC n.cls := fun n hn => (hok n hn).2.2
  clear hr hmem hok hr0
  have HFACT : Hid (flat (.plus (.opt (.byte zc))) = [⟨6, zc⟩, ⟨7, zc⟩, ⟨1, zc⟩]) := Lib.hid rfl
  have HMAY : Hid (may (.plus (.opt (.byte zc))) = true) := Lib.hid rfl
  by_cases hm : mErr l s f = 0
  · obtain ⟨hc, hs, hf0, hf1⟩ := mErr_zero hm
    obtain ⟨hlen, t, ht⟩ := chk_tree hc
    obtain ⟨at_, rfl⟩ : ∃ n : Nat, f = (n : Int) := ⟨f.toNat, by omega⟩
    have hat : at_ ≤ s.size := by omega
    have hends := fun W (hW : RdN W (.slice A l.length cap) l) => MEnds_ok l t ht hcls (.slice A l.length cap) s at_ W hlen hW hs hat
    have hempty := fun W (hW : RdN W (.slice A l.length cap) l) => Empty_ok l t ht (.slice A l.length cap) W hlen hW
    have hsl : s.data.toList.length = s.size := by simp
    have hb0 : ∀ (k : Nat) (x : Int), (toInts (endsL s.data.toList t at_))[k]? = some x → (at_ : Int) ≤ x ∧ x ≤ (s.size : Int) := by
      intro k x hx
      rw [toInts_get, Option.map_eq_some_iff] at hx
      obtain ⟨n, hn, rfl⟩ := hx
      have := upTo_mem.1 (List.mem_of_getElem? hn)
      have h2 := fits_bound s.data.toList t at_ n this.2 (by omega)
      omega
    have hsort : ∀ (k : Nat) (x y : Int), (toInts (endsL s.data.toList t at_))[k]? = some x → (toInts (endsL s.data.toList t at_))[k + 1]? = some y → x < y := by
      intro k x y hx hy
      rw [toInts_get, Option.map_eq_some_iff] at hx hy
      obtain ⟨n, hn, rfl⟩ := hx
      obtain ⟨m, hm, rfl⟩ := hy
      have := upTo_sorted _ _ k n m hn hm
      omega
    have hin : (at_ : Int) ∈ toInts (endsL s.data.toList t at_) → may t = true := by
      intro h
      rw [mem_toInts] at h
      have := upTo_mem.1 h
      exact fits_may s.data.toList t at_ (by omega) this.2
    have hf : ∃ f : Int, f = (at_ : Int) := ⟨_, rfl⟩
    obtain ⟨f, hf⟩ := hf
    have HEN := Lib.hid hends
    have HEM := Lib.hid hempty
    have HB0 := Lib.hid hb0
    have HSORT := Lib.hid hsort
    have HIN := Lib.hid hin
    clear hm hc hs hf0 hf1 hlen ht hat hends hempty hsl hb0 hsort hin hcls
    go_enter Try.func7, Try.ntmps7
    go_wp2_with fail
    refine (Empty_ok [⟨6, zc⟩, ⟨7, zc⟩, ⟨1, zc⟩] (.plus (.opt (.byte zc))) rfl _ _ (by simp) (fact_rd _ _ (by simp))).mono ?_
    rintro e w1 ⟨rfl, hb1⟩
    rw [HMAY.out]
    have hbw1 := ((Below.refl w.heap.size w).alloc (Nat.le_refl _) _).trans (hb1.mono (by simp))
    have HB1 := Lib.hid hbw1
    clear hb1 hbw1
    go_wp2_with fail
    refine (HEN.out _ (HR.out.below HB1.out)).mono ?_
    rintro e w2 ⟨v2, rfl, hv2, hb2⟩
    rw [natVals_ints] at hv2
    have HV2 := Lib.hid (show RdI w2 v2 _ from hv2)
    have HB2 := Lib.hid (HB1.out.trans (hb2.mono HB1.out.size))
    clear hb2 hv2
    have HBZ := HB0
    generalize toInts (endsL s.data.toList t at_) = zs at *
    go_wp2_with fail
    refine (HEM.out _ (HR.out.below HB2.out)).mono ?_
    rintro e w3 ⟨rfl, hb3⟩
    have HV3 := Lib.hid (HV2.out.below hb3)
    have HB3 := Lib.hid (HB2.out.trans (hb3.mono HB2.out.size))
    clear hb3
    obtain ⟨A3, cap3, rfl, hc31, hc32, hm3⟩ := HV3.out.open_
    have HM3 := Lib.hid hm3
    clear hm3
    generalize may t = m at *
    rw [← hf] at HB0 HIN ⊢
    have HF := Lib.hid hf
    clear hf
    go_wp2_with fail
    go_loopw [13] (fun v13 wr => ∃ k : Nat, k ≤ zs.length ∧ v13 = .int .i64 k ∧ Below w3.heap.size w3 wr) (fun i _ => zs.length - (intOf i).toNat)
    case atStart => exact ⟨0, by omega, rfl, Below.refl _ _⟩
    case round =>
      obtain ⟨k, hk, rfl, hbl⟩ := hrel
      by_cases hlt : k < zs.length
      · obtain ⟨b3, off3, rfl, hb3, hcell⟩ := HM3.out (by omega)
        obtain ⟨x, hx⟩ := getD_get hlt
        have g0 := hcell wr (fun o => hbl.cell (p := ⟨b3, o, none⟩) hb3) k x hx
        obtain ⟨hx1, hx2⟩ := HB0.out k x hx
        have hd1 : decide (x < f) = false := by simp; omega
        have hd2 : decide ((s.size : Int) < x) = false := by simp; omega
        have hk1 : (k : Int) < (zs.length : Int) := by omega
        rcases k with _ | k
        · rw [Nat.add_zero] at g0
          clear hx hcell hx1 hx2
          go_wp2
          go_quiet (fail)
          go_wp2
          go_roundw
          case rel => exact ⟨0 + 1, by omega, by go_num, below_drewN hbl _⟩
          case measure => simp [intOf]; omega
        · obtain ⟨y, hy⟩ := getD_get (show k < zs.length by omega)
          have g1 := hcell wr (fun o => hbl.cell (p := ⟨b3, o, none⟩) hb3) k y hy
          have hyx := HSORT.out k y x hy hx
          have hd3 : decide (x ≤ y) = false := by simp; omega
          clear hx hcell hx1 hx2 hy hyx
          go_wp2
          go_quiet (fail)
          go_wp2
          go_roundw
          case rel => exact ⟨k + 1 + 1, by omega, by go_num, below_drewN hbl _⟩
          case measure => simp [intOf]; omega
      · obtain rfl : k = zs.length := by omega
        have HBL := Lib.hid hbl
        clear hbl
        go_wp2_with fail
        refine (hasI_any zs f _ _ (HV3.out.below HBL.out)).mono ?_
        rintro e w4 ⟨r, rfl, hr, hb4⟩
        have HB4 := Lib.hid ((HB3.out.trans (HBL.out.mono HB3.out.size)).trans (hb4.mono (Nat.le_trans HB3.out.size HBL.out.size)))
        have himp : r = true → m = true := fun h => HIN.out (hr.1 h)
        clear hb4 hr
        cases r
        · cases m
          · go_wp2
            go_ret
            exact ⟨rfl, HB4.out⟩
          · go_wp2
            go_ret
            exact ⟨rfl, HB4.out⟩
        · obtain rfl : m = true := himp rfl
          go_wp2
          go_ret
          exact ⟨rfl, HB4.out⟩
  · have HN := Lib.hid (fun W (hW : RdN W (.slice A l.length cap) l) => MEnds_no l (.slice A l.length cap) s f W hW hm)
    have HE := Lib.hid (errV_ne hm)
    clear hm
    by_cases hc : chk l = 0
    · obtain ⟨hlen, t, ht⟩ := chk_tree hc
      have hempty := fun W (hW : RdN W (.slice A l.length cap) l) => Empty_ok l t ht (.slice A l.length cap) W hlen hW
      have HEM := Lib.hid hempty
      clear hempty hc hlen ht hcls
      go_enter Try.func7, Try.ntmps7
      go_wp2_with fail
      refine (Empty_ok [⟨6, zc⟩, ⟨7, zc⟩, ⟨1, zc⟩] (.plus (.opt (.byte zc))) rfl _ _ (by simp) (fact_rd _ _ (by simp))).mono ?_
      rintro e w1 ⟨rfl, hb1⟩
      rw [HMAY.out]
      have hbw1 := ((Below.refl w.heap.size w).alloc (Nat.le_refl _) _).trans (hb1.mono (by simp))
      have HB1 := Lib.hid hbw1
      clear hb1 hbw1
      go_wp2_with fail
      refine (HN.out _ (HR.out.below HB1.out)).mono ?_
      rintro e w2 ⟨rfl, hb2⟩
      rw [HE.out]
      have HB2 := Lib.hid (HB1.out.trans (hb2.mono HB1.out.size))
      clear hb2
      go_wp2_with fail
      refine (HEM.out _ (HR.out.below HB2.out)).mono ?_
      rintro e w3 ⟨rfl, hb3⟩
      have HB3 := Lib.hid (HB2.out.trans (hb3.mono HB2.out.size))
      clear hb3
      go_wp2_with fail
      go_ret
      exact ⟨rfl, HB3.out⟩
    · have HEM := Lib.hid (fun W (hW : RdN W (.slice A l.length cap) l) => Empty_no l (.slice A l.length cap) W hW hc)
      have HE2 := Lib.hid (errV_ne hc)
      clear hc hcls
      go_enter Try.func7, Try.ntmps7
      go_wp2_with fail
      refine (Empty_ok [⟨6, zc⟩, ⟨7, zc⟩, ⟨1, zc⟩] (.plus (.opt (.byte zc))) rfl _ _ (by simp) (fact_rd _ _ (by simp))).mono ?_
      rintro e w1 ⟨rfl, hb1⟩
      rw [HMAY.out]
      have hbw1 := ((Below.refl w.heap.size w).alloc (Nat.le_refl _) _).trans (hb1.mono (by simp))
      have HB1 := Lib.hid hbw1
      clear hb1 hbw1
      go_wp2_with fail
      refine (HN.out _ (HR.out.below HB1.out)).mono ?_
      rintro e w2 ⟨rfl, hb2⟩
      rw [HE.out]
      have HB2 := Lib.hid (HB1.out.trans (hb2.mono HB1.out.size))
      clear hb2
      go_wp2_with fail
      refine (HEM.out _ (HR.out.below HB2.out)).mono ?_
      rintro e w3 ⟨rfl, hb3⟩
      rw [HE2.out]
      have HB3 := Lib.hid (HB2.out.trans (hb3.mono HB2.out.size))
      clear hb3
      go_wp2_with fail
      go_ret
      exact ⟨rfl, HB3.out⟩

/-! ### THE ROW's STEP -/
set_option maxRecDepth 100000 in
theorem lifted (os : Os) (started : os.Started) (H : Type) (enc : TypeId × Value → H) :
    ReturnsInHanded {} Try.checked os 7 .any (Rows.meanEmptySpec.pre6 enc Try.prog Try.f7 Rows.meanEmptyRow.domain false) (Rows.meanEmptySpec.post enc Try.prog Try.f7 false true false false) := by
  refine returnsInHanded_of_change (C := Try.checked) own started (by kernel_rfl) Try.func7
    (ChangeSpec.witness6 (enc := enc) (C := Try.checked) false ⟨#[], #[.slice none 0 0, .string ByteArray.empty, .int .i64 0], []⟩ 8 (by kernel_rfl) (by kernel_rfl) (by kernel_rfl) (by kernel_rfl)) ?_
  intro W base args ds gs before hval0 hW hcnd _
  have hval : ∀ (j : Nat) t v, Try.f7.params[j]? = some t → args[j]? = some v → Value.okWide Try.prog W .any base t v := hval0
  have hW' := hW
  obtain ⟨p, q, hA0, hV, rfl, hfz, hnd⟩ := hW
  have hA : DataW.TrodAll enc Try.prog W 0 (fun _ => true) true Try.f7.params.toList args.toList ds p := hA0
  rw [Try.params7] at hA hval
  obtain ⟨v0, vs0, d0, ds0, p0, q0, hargs, rfl, rfl, h0, r0⟩ := trodAll_cons hA
  obtain ⟨v1, vs1, d1, ds1, p1, q1, rfl, rfl, rfl, h1, r1⟩ := trodAll_cons r0
  obtain ⟨v2, vs2, d2, ds2, p2, q2, rfl, rfl, rfl, h2, r2⟩ := trodAll_cons r1
  obtain ⟨rfl, rfl, rfl⟩ := trodAll_nil r2
  obtain rfl : args = #[v0, v1, v2] := by cases args; simp_all
  obtain ⟨rfl, rfl⟩ := trodVars_none hV
  obtain ⟨a0, len0, cap0, rfl⟩ := okWide_slice Try.underlying25 (hval 0 25 v0 rfl rfl)
  have k0 := h0
  have lt0 : ∀ x ∈ p0, x.block < W.heap.size := by obtain ⟨m, hm⟩ := k0; exact DataW.trod_lt m _ _ _ hm
  obtain ⟨z0, w0, ok0⟩ : ∃ l, RdN W (.slice a0 len0 cap0) l ∧ ∀ nd ∈ l, okNd nd := by obtain ⟨fuel, hf⟩ := h0; exact open_nodes (by simpa [Value.cells] using hf)
  have k1 := h1
  have lt1 : ∀ x ∈ p1, x.block < W.heap.size := by obtain ⟨m, hm⟩ := k1; exact DataW.trod_lt m _ _ _ hm
  obtain ⟨s1, rfl, rfl, rfl, ws1⟩ := open_string Try.underlying9 (hval 1 9 v1 rfl rfl) h1
  have k2 := h2
  have lt2 : ∀ x ∈ p2, x.block < W.heap.size := by obtain ⟨m, hm⟩ := k2; exact DataW.trod_lt m _ _ _ hm
  obtain ⟨x2, rfl, rfl, rfl, wx2⟩ := open_int Try.underlying3 (hval 2 3 v2 rfl rfl) h2
  clear hA0 hval0
  refine (walk z0 _ s1 x2 W w0 ok0).mono fun e W' ⟨he, bel⟩ => ?_
  subst he
  exact ⟨_, rfl, _, _, _, [], _, [], hW', trodAll_mk1 (shut_bool Try.underlying4 _), (trodAll_cons_mk (Below.trod laidOut (by kernel_rfl) (of_decide_eq_true (by kernel_rfl)) k0 bel lt0) (trodAll_cons_mk (shut_string Try.underlying9 ws1) (trodAll_cons_mk (shut_int Try.underlying3 wx2) trodAll_mk0))), rfl, bel.frame _, fun h => by cases h⟩

theorem over : Rows.meanEmptyRow.holds Try.pinned (OpenSpec.ofChange Rows.meanEmptySpec) :=
  OpenClaim.holds_of_wide 7 Try.f7 rfl rfl rfl rfl rfl rfl rfl ⟨rfl, rfl, rfl, rfl, rfl⟩ rfl rfl rfl rfl rfl (by kernel_rfl) Try.func7 (by kernel_rfl)
    (of_decide_eq_true (by kernel_rfl)) (by unfold Func.isWrapper; first | (rw [if_pos (by decide +kernel)]; kernel_rfl) | (rw [if_neg (by decide +kernel)]; exact ⟨rfl, rfl⟩))
    (fun os started H enc _ => lifted os started H enc)

/-- THE STATEMENT -/
theorem proved : Rows.MeanEmptySaid := over


end Go.Proofs.Ythcahjnniendnaa.meanEmpty
