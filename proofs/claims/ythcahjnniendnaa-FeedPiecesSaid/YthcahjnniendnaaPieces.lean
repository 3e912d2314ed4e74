/-
  Proved: winnowfanlaw3.FeedPieces returns true for every pattern, text, row of cuts and further text, and changes nothing that was there. No condition beyond the row's own.
  (The frame behind the walk is the kit's proof-skeleton's.)
-/
import Derived.Test.YthcahjnniendnaaMeanEmpty
import Derived.Test.YthcahjnniendnaaFeedB
import Derived.Test.YthcahjnniendnaaOpenI
import Derived.SizedLaws
namespace Go.Proofs.Ythcahjnniendnaa.feedPieces
open Go.ChangeShapes Go.WideShapes Go.ChangeAt Go.RowKit Wf
open Go.ChangeMaps (open_string shut_string)
open meanEmpty (own laidOut LawIs mErr_zero)
set_option linter.unusedVariables false

theorem fact_rd (w : World) (B : Nat) (hB : w.heap.size = B) (a0 a1 a2 a3 : Nat) : RdN (w.alloc (.cells #[.int .i64 1, .int .u64 (a0 : Int), .int .u64 (a1 : Int), .int .u64 (a2 : Int), .int .u64 (a3 : Int)] 34)) (.slice (some ⟨B, 0, none⟩) 1 1) (flat (.byte (a0, a1, a2, a3))) := by
  subst hB
  refine ⟨_, 1, 1, rfl, by omega, by omega, rfl, fun _ => ⟨_, 0, rfl, fun j u hu => ?_⟩⟩
  rw [Nat.zero_add, World.cell?_alloc_new, ← hu]
  simp [ndCells, flat]

theorem fact_no (c : Cls) : ¬ EndsAt (progL (.byte c)) [] 0 ([] : List UInt8).length := by
  rw [ends_fits]
  rintro ⟨h, _⟩
  simp at h
theorem fact_yes (c : Cls) (hc : c = ofL [97] zc) : EndsAt (progL (.byte c)) [97] 0 ([97] : List UInt8).length := by
  rw [ends_fits]
  exact ⟨rfl, 97, rfl, by rw [hc]; decide +kernel⟩

theorem ext_take (s : ByteArray) (a m : Nat) (h : a ≤ m) : s.data.toList.take a ++ (s.extract a m).data.toList = s.data.toList.take m := by
  have e : (s.extract a m).data.toList = (s.data.toList.take m).drop a := by simp [List.drop_take]
  rw [e]
  have h2 : s.data.toList.take a = (s.data.toList.take m).take a := by rw [List.take_take, Nat.min_eq_left h]
  rw [h2, List.take_append_drop]
theorem ext_size (s : ByteArray) (a m : Nat) (h : m ≤ s.size) : (s.extract a m).size = m - a := by
  rw [ByteArray.size_extract]
  omega

set_option maxRecDepth 100000 in
set_option maxHeartbeats 8000000 in
theorem walk (l : List Nd) (v : Value) (s : ByteArray) (cuts : List Int) (cv : Value) (more : ByteArray) (w : World) (hr : RdN w v l) (hok : ∀ n ∈ l, okNd n) (hcv : RdI w cv cuts) (hss : s.size ≤ 140737488355328) (hms : more.size ≤ 140737488355328) : Calls Try.prog 10 #[v, .string s, cv, .string more] w (LawIs w) := by
  obtain ⟨A, cap, rfl, hcap, hcap2, hmem⟩ := hr.open_
  obtain ⟨CA, ccap, rfl, hcc, hcc2, hcm⟩ := hcv.open_
  have HR := Lib.hid hr
  have HCM := Lib.hid hcm
  have HCLS := Lib.hid (show ∀ n ∈ l, okC n.cls from fun n hn => (hok n hn).2.2)
  clear hr hmem hok hcv hcm
  go_enter Try.func10, Try.ntmps10
  go_wp2_with fail
  refine (Of_any _ _ (by decide)).mono ?_
  rintro e w1 ⟨a0, a1, a2, a3, rfl, ha, hb1⟩
  have HA := Lib.hid ha
  have HOK : Hid (∀ s ∈ progL (.byte (a0, a1, a2, a3)), okC s.cls) := Lib.hid (progL_cls okC okC_zc _ (by
    intro n hn
    obtain rfl := List.mem_singleton.1 hn
    show okC (a0, a1, a2, a3)
    rw [ha]; exact okC_ofL _ _ okC_zc))
  have HPO := Lib.hid (progL_ok (.byte (a0, a1, a2, a3)) (by simp [flat]))
  have HB1 := Lib.hid hb1
  clear ha hb1
  go_wp2_with fail
  refine (FNew_ok _ (.byte (a0, a1, a2, a3)) rfl _ _ (by simp [flat]) (fact_rd _ _ (by simp) a0 a1 a2 a3)).mono ?_
  rintro e w2 ⟨Z, zb, zo, zc_, zA, zca, rfl, hZ, hze, hb2⟩
  have hz2 := hze [Z] (by intro f hf; simp at hf; exact .inr (.inr hf)) (by simp)
  have HZ2 := Lib.hid hz2
  have hZw : w.heap.size ≤ Z := by have := HB1.out.size; simp at hZ; omega
  have HB2 := Lib.hid ((HB1.out.alloc HB1.out.size _).trans (hb2.mono (Nat.le_trans HB1.out.size (by simp))))
  have hZlt : Z < w2.heap.size := hz2.bx.lt
  clear hb2 hze hz2 hZ
  go_wp2_with fail
  refine (FYes_any [Z] _ HPO.out [] [0] Z zb zo zc_ zA zca w2 HZ2.out).mono ?_
  rintro e w3 ⟨r, rfl, hr1, hb3⟩
  obtain rfl : r = false := by
    cases r with
    | false => rfl
    | true => exact absurd (hr1.1 rfl) (fact_no _)
  have HZ3 := Lib.hid (HZ2.out.below hb3)
  have HB3 := Lib.hid (HB2.out.trans (hb3.mono HB2.out.size))
  have hZ3 : Z < w3.heap.size := Nat.lt_of_lt_of_le hZlt hb3.size
  clear hr1 hb3
  go_wp2_with fail
  refine (FPut_any [Z] _ HPO.out HOK.out [] ⟨#[97]⟩ [0] Z zb zo zc_ zA zca w3 HZ3.out (by intro f hf; simp at hf; omega) (by decide)).mono ?_
  rintro e w4 ⟨rfl, ⟨fz, zA4, zca4, hz4⟩, hg4⟩
  have HZ4 := Lib.hid hz4
  have HB4 := Lib.hid (below_grown2 HB3.out hZw HB3.out.size hg4)
  clear hz4 hg4
  go_wp2_with fail
  refine (FYes_any [Z] _ HPO.out ([] ++ [97]) fz Z zb zo zc_ zA4 zca4 w4 HZ4.out).mono ?_
  rintro e w5 ⟨r, rfl, hr1, hb5⟩
  obtain rfl : r = true := hr1.2 (fact_yes _ HA.out)
  have HB5 := Lib.hid (HB4.out.trans (hb5.mono HB4.out.size))
  clear hr1 hb5 HB1 HB2 HB3 HB4 HZ2 HZ3 HZ4
  go_wp2_with fail
  by_cases hc : chk l = 0
  · obtain ⟨hlen, t, ht⟩ := chk_tree hc
    have HT := Lib.hid ht
    have HPO2 := Lib.hid (progL_ok t (by rw [← ht]; exact hlen))
    have HOK2 : Hid (∀ s ∈ progL t, okC s.cls) := Lib.hid (progL_cls okC okC_zc t (by rw [← ht]; exact HCLS.out))
    have HEF := Lib.hid (fun (x : List UInt8) (i : Nat) => ends_fits t x 0 i)
    clear hc ht HOK HPO HA
    have hw5 := HB5.out.size
    refine (FNew_ok l t HT.out (.slice A l.length cap) _ hlen (HR.out.below HB5.out)).mono ?_
    rintro e w6 ⟨F, fb, fo, fc, fA, fca, rfl, hF, hfe, hb6⟩
    have HFE := Lib.hid hfe
    have hFlt : F < w6.heap.size := (hfe [F] (by intro f hf; simp at hf; exact .inr (.inr hf)) (by simp)).bx.lt
    have HB6 := Lib.hid (HB5.out.trans (hb6.mono HB5.out.size))
    have hw6 := HB6.out.size
    clear hfe hb6
    go_wp2_with fail
    refine (FNew_ok l t HT.out (.slice A l.length cap) _ hlen (HR.out.below HB6.out)).mono ?_
    rintro e w7 ⟨G, gb, go, gc, gA, gca, rfl, hG, hge, hb7⟩
    have hGlt : G < w7.heap.size := (hge [G] (by intro f hf; simp at hf; exact .inr (.inr hf)) (by simp)).bx.lt
    have hf7 := (HFE.out [F, G] (by intro f hf; simp at hf; rcases hf with rfl | rfl; exact .inr (.inr rfl); exact .inr (.inl hG)) (by simp)).below hb7
    have hg7 := hge [F, G] (by intro f hf; simp at hf; rcases hf with rfl | rfl; exact .inl hFlt; exact .inr (.inr rfl)) (by simp)
    have hFG : F ≠ G := by omega
    have hFw : w.heap.size ≤ F := by omega
    have hGw : w.heap.size ≤ G := by omega
    have hFs7 : ∀ f ∈ [F, G], f < w7.heap.size := by intro f hf; simp at hf; have := hb7.size; rcases hf with rfl | rfl <;> omega
    have HFS7 := Lib.hid hFs7
    have HF7 := Lib.hid hf7
    have HG7 := Lib.hid hg7
    have HB7 := Lib.hid (HB6.out.trans (hb7.mono HB6.out.size))
    clear hge hb7 hf7 hg7 hFs7 HFE HB5 HB6
    generalize progL t = P at *
    by_cases hbig : 400 < s.size + more.size
    · have d2 : decide (400 < s.size + more.size) = true := by simp; omega
      have d3 : decide ((400 : Int) < (s.size : Int) + (more.size : Int)) = true := by simp; omega
      go_wp2_with fail
      go_ret
      exact ⟨rfl, HB7.out⟩
    · have d2 : decide (400 < s.size + more.size) = false := by simp; omega
      have d3 : decide ((400 : Int) < (s.size : Int) + (more.size : Int)) = false := by simp; omega
      have hs4 : s.size ≤ 400 := by omega
      have hm4 : more.size ≤ 400 := by omega
      have HTL : Hid (s.data.toList.length = s.size) := Lib.hid (by simp)
      go_wp2_with fail
      refine (FYes_any [F, G] P HPO2.out [] [0] F fb fo fc fA fca w7 HF7.out).mono ?_
      rintro e w8 ⟨r1, rfl, hr1, hb8⟩
      have HR1 := Lib.hid hr1
      have HF8 := Lib.hid (HF7.out.below hb8)
      have HB8 := Lib.hid (HB7.out.trans (hb8.mono HB7.out.size))
      have hFs8 : ∀ f ∈ [F, G], f < w8.heap.size := fun f hf => Nat.lt_of_lt_of_le (HFS7.out f hf) hb8.size
      have HFS8 := Lib.hid hFs8
      have HG8 : Hid (FdE [F, G] P (s.data.toList.take 0) [0] G gb go gc gA gca w8) := Lib.hid (HG7.out.below hb8)
      clear hr1 hb8 hFs8 HF7 HG7 HB7 HFS7 d2 d3
      go_wp2_with fail
      go_loopw [16, 17] (fun v16 v17 wr => ∃ a k : Nat, a ≤ s.size ∧ k ≤ 20 ∧ v16 = .int .i64 (a : Int) ∧ v17 = .int .i64 (k : Int) ∧ Hid (∃ fs A ca, FdE [F, G] P (s.data.toList.take a) fs G gb go gc A ca wr) ∧ Hid (FdE [F, G] P [] [0] F fb fo fc fA fca wr) ∧ Hid (Below w.heap.size w wr) ∧ Hid (w8.heap.size ≤ wr.heap.size)) (fun _ i _ => 20 - (intOf i).toNat)
      case atStart => exact ⟨0, 0, by omega, by omega, rfl, rfl, Lib.hid ⟨_, _, _, HG8.out⟩, HF8, HB8, Lib.hid (Nat.le_refl _)⟩
      case round =>
        clear HG8 HF8 HB8
        obtain ⟨a, k, ha, hk, rfl, rfl, HGE, HFE, HBE, HSZ⟩ := hrel
        by_cases hin : k < cuts.length ∧ k < 20
        · obtain ⟨hk1, hk20⟩ := hin
          have hk1' : (k : Int) < (cuts.length : Int) := by omega
          have hk20' : (k : Int) < 20 := by omega
          have dk1 : decide (k < cuts.length) = true := by simpa using hk1
          have dk2 : decide (k < 20) = true := by simpa using hk20
          obtain ⟨cb, co, rfl, hcb, hcell⟩ := HCM.out (by omega)
          obtain ⟨x, hx⟩ := getD_get hk1
          have g0 := hcell wr (fun o => HBE.out.cell (p := ⟨cb, o, none⟩) hcb) k x hx
          clear hcell hx
          by_cases hskip : x < (a : Int) ∨ (s.size : Int) < x
          · by_cases h1 : x < (a : Int)
            · have e1 : decide (x < (a : Int)) = true := by simpa using h1
              go_wp2_with fail
              go_roundw
              case rel => exact ⟨a, k + 1, ha, by omega, rfl, by go_num, HGE, HFE, HBE, HSZ⟩
              case measure => simp [intOf]; omega
            · have e1 : decide (x < (a : Int)) = false := by simpa using h1
              have e2 : decide ((s.size : Int) < x) = true := by simp; omega
              go_wp2_with fail
              go_roundw
              case rel => exact ⟨a, k + 1, ha, by omega, rfl, by go_num, HGE, HFE, HBE, HSZ⟩
              case measure => simp [intOf]; omega
          · obtain ⟨m, rfl⟩ : ∃ m : Nat, x = (m : Int) := ⟨x.toNat, by omega⟩
            have ham : a ≤ m := by omega
            have hms : m ≤ s.size := by omega
            have e1 : decide (m < a) = false := by simp; omega
            have e2 : decide (s.size < m) = false := by simp; omega
            have e1' : decide ((m : Int) < (a : Int)) = false := by simp; omega
            have e2' : decide ((s.size : Int) < (m : Int)) = false := by simp; omega
            have i1 : (a : Int) ≤ (m : Int) := by omega
            have i2 : (m : Int) ≤ (s.size : Int) := by omega
            have i3 : (0 : Int) ≤ (a : Int) := by omega
            clear hskip
            go_wp2_with fail
            obtain ⟨fg, gA1, gca1, hg1⟩ := HGE.out
            have hlen1 : (s.data.toList.take a).length + (s.extract a m).size ≤ 400 := by rw [List.length_take, HTL.out, ext_size s a m hms]; omega
            refine (FPut_any [F, G] P HPO2.out HOK2.out (s.data.toList.take a) (s.extract a m) fg G gb go gc gA1 gca1 wr hg1 (fun f hf => Nat.lt_of_lt_of_le (HFS8.out f hf) HSZ.out) hlen1).mono ?_
            rintro e w9 ⟨rfl, ⟨fg9, gA9, gca9, hg9⟩, hgr9⟩
            rw [ext_take s a m ham] at hg9
            have HG9 := Lib.hid hg9
            have HF9 := Lib.hid (HFE.out.grown hgr9 (by simp) hFG)
            have HB9 := Lib.hid (below_grown2 HBE.out hGw HBE.out.size hgr9)
            have HSZ9 := Lib.hid (Nat.le_trans HSZ.out hgr9.size)
            have g9 : w9.cell? ⟨cb, co + k, none⟩ = some (.int .i64 (m : Int)) := by
              have hne : cb ≠ G := fun e => by have := hcb; omega
              rw [World.cell?_of_block (hgr9.block cb (Nat.lt_of_lt_of_le hcb HBE.out.size) (fun e => hne (by cases e; rfl)))]
              exact g0
            clear hg9 hgr9 g0 hg1 hlen1
            go_wp2_with fail
            go_roundw
            case rel => exact ⟨m, k + 1, hms, by omega, rfl, by go_num, Lib.hid ⟨_, _, _, HG9.out⟩, HF9, HB9, HSZ9⟩
            case measure => simp [intOf]; omega
        · by_cases hk1 : k < cuts.length
          · have dk1 : decide (k < cuts.length) = true := by simpa using hk1
            have dk2 : decide (k < 20) = false := by simp; omega
            have dk3 : decide ((k : Int) < 20) = false := by simp; omega
            have hgd : ∃ z : Nat, z = 0 := ⟨0, rfl⟩
            obtain ⟨fg, gA1, gca1, hg1⟩ := HGE.out
            have hlen1 : (s.data.toList.take a).length + (s.extract a s.size).size ≤ 400 := by rw [List.length_take, HTL.out, ext_size s a s.size (Nat.le_refl _)]; omega
            have HPUT := Lib.hid (FPut_any [F, G] P HPO2.out HOK2.out (s.data.toList.take a) (s.extract a s.size) fg G gb go gc gA1 gca1 wr hg1 (fun f hf => Nat.lt_of_lt_of_le (HFS8.out f hf) HSZ.out) hlen1)
            have i3 : (0 : Int) ≤ (a : Int) := by omega
            have i4 : (a : Int) ≤ (s.size : Int) := by omega
            clear hg1 hlen1 hgd
            go_wp2_with fail
            refine HPUT.out.mono ?_
            rintro e w9 ⟨rfl, ⟨fg9, gA9, gca9, hg9⟩, hgr9⟩
            rw [ext_take s a s.size ha, show s.data.toList.take s.size = s.data.toList by rw [← HTL.out, List.take_length]] at hg9
            have HG9 := Lib.hid hg9
            have HF9 := Lib.hid (HFE.out.grown hgr9 (by simp) hFG)
            have HB9 := Lib.hid (below_grown2 HBE.out hGw HBE.out.size hgr9)
            have HFS9 : Hid (∀ f ∈ [F, G], f < w9.heap.size) := Lib.hid (fun f hf => Nat.lt_of_lt_of_le (Nat.lt_of_lt_of_le (HFS8.out f hf) HSZ.out) hgr9.size)
            clear hg9 hgr9 HGE HFE HBE HSZ HPUT
            go_wp2_with fail
            refine (FPut_any [F, G] P HPO2.out HOK2.out [] s [0] F fb fo fc fA fca w9 HF9.out HFS9.out (by simp; omega)).mono ?_
            rintro e w10 ⟨rfl, ⟨ff, fA10, fca10, hf10⟩, hgr10⟩
            rw [List.nil_append] at hf10
            have HF10 := Lib.hid hf10
            have HG10 := Lib.hid (HG9.out.grown hgr10 (by simp) (Ne.symm hFG))
            have HB10 := Lib.hid (below_grown2 HB9.out hFw HB9.out.size hgr10)
            have HFS10 : Hid (∀ f ∈ [F, G], f < w10.heap.size) := Lib.hid (fun f hf => Nat.lt_of_lt_of_le (HFS9.out f hf) hgr10.size)
            clear hf10 hgr10 HF9 HG9 HB9 HFS9
            go_wp2_with fail
            refine (MYes_ok l t HT.out HCLS.out (.slice A l.length cap) s w10 hlen (HR.out.below HB10.out) hs4).mono ?_
            rintro e w11 ⟨y, rfl, hy, hb11⟩
            have HY : Hid (∀ r : Bool, (r = true ↔ EndsAt P s.data.toList 0 s.data.toList.length) → r = y) := Lib.hid (fun r hr => by
              rw [Bool.eq_iff_iff, hr, hy, HEF.out, HTL.out])
            have HF11 := Lib.hid (HF10.out.below hb11)
            have HG11 := Lib.hid (HG10.out.below hb11)
            have HB11 := Lib.hid (HB10.out.trans (hb11.mono HB10.out.size))
            have HFS11 : Hid (∀ f ∈ [F, G], f < w11.heap.size) := Lib.hid (fun f hf => Nat.lt_of_lt_of_le (HFS10.out f hf) hb11.size)
            clear hy hb11 HF10 HG10 HB10 HFS10
            go_wp2_with fail
            refine (FYes_any [F, G] P HPO2.out s.data.toList ff F fb fo fc fA10 fca10 w11 HF11.out).mono ?_
            rintro e w12 ⟨r, rfl, hr, hb12⟩
            obtain rfl := HY.out r hr
            have HF12 := Lib.hid (HF11.out.below hb12)
            have HG12 := Lib.hid (HG11.out.below hb12)
            have HB12 := Lib.hid (HB11.out.trans (hb12.mono HB11.out.size))
            have HFS12 : Hid (∀ f ∈ [F, G], f < w12.heap.size) := Lib.hid (fun f hf => Nat.lt_of_lt_of_le (HFS11.out f hf) hb12.size)
            have bb : (r != r) = false := by simp
            clear hr hb12 HF11 HG11 HB11 HFS11
            go_wp2_with fail
            refine (FYes_any [F, G] P HPO2.out s.data.toList fg9 G gb go gc gA9 gca9 w12 HG12.out).mono ?_
            rintro e w13 ⟨r', rfl, hr', hb13⟩
            obtain rfl := HY.out r' hr'
            have HF13 := Lib.hid (HF12.out.below hb13)
            have HG13 := Lib.hid (HG12.out.below hb13)
            have HB13 := Lib.hid (HB12.out.trans (hb13.mono HB12.out.size))
            have HFS13 : Hid (∀ f ∈ [F, G], f < w13.heap.size) := Lib.hid (fun f hf => Nat.lt_of_lt_of_le (HFS12.out f hf) hb13.size)
            clear hr' hb13 HF12 HG12 HB12 HFS12
            go_wp2_with fail
            have hlf := FLen_any [F, G] P s.data.toList ff F fb fo fc fA10 fca10 w13 HF13.out
            have hlg := FLen_any [F, G] P s.data.toList fg9 G gb go gc gA9 gca9 w13 HG13.out
            rw [HTL.out] at hlf hlg
            refine hlf.mono ?_
            rintro e w14 ⟨rfl, rfl⟩
            have HLG := Lib.hid hlg
            clear hlf hlg
            go_wp2_with fail
            refine HLG.out.mono ?_
            rintro e w15 ⟨rfl, rfl⟩
            clear HLG HG13
            go_wp2_with fail
            refine (FDead_any [F, G] P s.data.toList ff F fb fo fc fA10 fca10 w13 HF13.out).mono ?_
            rintro e w16 ⟨rd, rfl, hrd, rfl⟩
            have HRD := Lib.hid hrd
            clear hrd
            go_wp2_with fail
            have hlen2 : s.data.toList.length + more.size ≤ 400 := by rw [HTL.out]; omega
            refine (FPut_any [F, G] P HPO2.out HOK2.out s.data.toList more ff F fb fo fc fA10 fca10 w13 HF13.out HFS13.out hlen2).mono ?_
            rintro e w17 ⟨rfl, ⟨fm, fA17, fca17, hf17⟩, hgr17⟩
            have HF17 := Lib.hid hf17
            have HB17 := Lib.hid (below_grown2 HB13.out hFw HB13.out.size hgr17)
            have HFS17 : Hid (∀ f ∈ [F, G], f < w17.heap.size) := Lib.hid (fun f hf => Nat.lt_of_lt_of_le (HFS13.out f hf) hgr17.size)
            have HDD : Hid (rd = true → fm = [] ∧ ¬ EndsAt P (s.data.toList ++ more.data.toList) 0 (s.data.toList ++ more.data.toList).length) := Lib.hid (fun h => by
              have h0 := HF13.out.fed
              rw [HRD.out.1 h] at h0
              exact h0.dead hf17.fed)
            clear hf17 hgr17 hlen2 HB13 HFS13 HF13
            cases rd with
            | false =>
              go_wp2_with fail
              refine (FAgain_any [F, G] P (s.data.toList ++ more.data.toList) fm F fb fo fc fA17 fca17 w17 HF17.out HFS17.out).mono ?_
              rintro e w20 ⟨rfl, ⟨fA20, fca20, hf20⟩, hgr20⟩
              have HF20 := Lib.hid hf20
              have HB20 := Lib.hid (below_grown2 HB17.out hFw HB17.out.size hgr20)
              clear hf20 hgr20
              go_wp2_with fail
              refine (FLen_any [F, G] P [] [0] F fb fo fc fA20 fca20 w20 HF20.out).mono ?_
              rintro e w21 ⟨he21, rfl⟩
              obtain rfl : e = .returned (.int .i64 0) := he21
              go_wp2_with fail
              refine (FYes_any [F, G] P HPO2.out [] [0] F fb fo fc fA20 fca20 w20 HF20.out).mono ?_
              rintro e w22 ⟨ry2, rfl, hry2, hb22⟩
              obtain rfl : r1 = ry2 := by rw [Bool.eq_iff_iff, HR1.out, hry2]
              have HB22 := Lib.hid (HB20.out.trans (hb22.mono HB20.out.size))
              clear hry2 hb22
              go_wp2_with fail
              refine bodyPost_ret (v := .bool true) ?_ rfl ⟨rfl, HB22.out⟩
              simp [results, Try.results10, go_sem]
            | true =>
              go_wp2_with fail
              refine (FYes_any [F, G] P HPO2.out (s.data.toList ++ more.data.toList) fm F fb fo fc fA17 fca17 w17 HF17.out).mono ?_
              rintro e w18 ⟨ry, rfl, hry, hb18⟩
              obtain rfl : ry = false := by
                cases ry with
                | false => rfl
                | true => exact absurd (hry.1 rfl) (HDD.out (by simp)).2
              have HF18 := Lib.hid (HF17.out.below hb18)
              have HB18 := Lib.hid (HB17.out.trans (hb18.mono HB17.out.size))
              have HFS18 : Hid (∀ f ∈ [F, G], f < w18.heap.size) := Lib.hid (fun f hf => Nat.lt_of_lt_of_le (HFS17.out f hf) hb18.size)
              clear hry hb18
              go_wp2_with fail
              refine (FDead_any [F, G] P (s.data.toList ++ more.data.toList) fm F fb fo fc fA17 fca17 w18 HF18.out).mono ?_
              rintro e w19 ⟨rd2, rfl, hrd2, rfl⟩
              obtain rfl : rd2 = true := hrd2.2 (HDD.out (by simp)).1
              clear hrd2
              go_wp2_with fail
              refine (FAgain_any [F, G] P (s.data.toList ++ more.data.toList) fm F fb fo fc fA17 fca17 w18 HF18.out HFS18.out).mono ?_
              rintro e w20 ⟨rfl, ⟨fA20, fca20, hf20⟩, hgr20⟩
              have HF20 := Lib.hid hf20
              have HB20 := Lib.hid (below_grown2 HB18.out hFw HB18.out.size hgr20)
              clear hf20 hgr20
              go_wp2_with fail
              refine (FLen_any [F, G] P [] [0] F fb fo fc fA20 fca20 w20 HF20.out).mono ?_
              rintro e w21 ⟨he21, rfl⟩
              obtain rfl : e = .returned (.int .i64 0) := he21
              go_wp2_with fail
              refine (FYes_any [F, G] P HPO2.out [] [0] F fb fo fc fA20 fca20 w20 HF20.out).mono ?_
              rintro e w22 ⟨ry2, rfl, hry2, hb22⟩
              obtain rfl : r1 = ry2 := by rw [Bool.eq_iff_iff, HR1.out, hry2]
              have HB22 := Lib.hid (HB20.out.trans (hb22.mono HB20.out.size))
              clear hry2 hb22
              go_wp2_with fail
              refine bodyPost_ret (v := .bool true) ?_ rfl ⟨rfl, HB22.out⟩
              simp [results, Try.results10, go_sem]
          · have dk1 : decide (k < cuts.length) = false := by simpa using hk1
            have hgd : ∃ z : Nat, z = 0 := ⟨0, rfl⟩
            obtain ⟨fg, gA1, gca1, hg1⟩ := HGE.out
            have hlen1 : (s.data.toList.take a).length + (s.extract a s.size).size ≤ 400 := by rw [List.length_take, HTL.out, ext_size s a s.size (Nat.le_refl _)]; omega
            have HPUT := Lib.hid (FPut_any [F, G] P HPO2.out HOK2.out (s.data.toList.take a) (s.extract a s.size) fg G gb go gc gA1 gca1 wr hg1 (fun f hf => Nat.lt_of_lt_of_le (HFS8.out f hf) HSZ.out) hlen1)
            have i3 : (0 : Int) ≤ (a : Int) := by omega
            have i4 : (a : Int) ≤ (s.size : Int) := by omega
            clear hg1 hlen1 hgd
            go_wp2_with fail
            refine HPUT.out.mono ?_
            rintro e w9 ⟨rfl, ⟨fg9, gA9, gca9, hg9⟩, hgr9⟩
            rw [ext_take s a s.size ha, show s.data.toList.take s.size = s.data.toList by rw [← HTL.out, List.take_length]] at hg9
            have HG9 := Lib.hid hg9
            have HF9 := Lib.hid (HFE.out.grown hgr9 (by simp) hFG)
            have HB9 := Lib.hid (below_grown2 HBE.out hGw HBE.out.size hgr9)
            have HFS9 : Hid (∀ f ∈ [F, G], f < w9.heap.size) := Lib.hid (fun f hf => Nat.lt_of_lt_of_le (Nat.lt_of_lt_of_le (HFS8.out f hf) HSZ.out) hgr9.size)
            clear hg9 hgr9 HGE HFE HBE HSZ HPUT
            go_wp2_with fail
            refine (FPut_any [F, G] P HPO2.out HOK2.out [] s [0] F fb fo fc fA fca w9 HF9.out HFS9.out (by simp; omega)).mono ?_
            rintro e w10 ⟨rfl, ⟨ff, fA10, fca10, hf10⟩, hgr10⟩
            rw [List.nil_append] at hf10
            have HF10 := Lib.hid hf10
            have HG10 := Lib.hid (HG9.out.grown hgr10 (by simp) (Ne.symm hFG))
            have HB10 := Lib.hid (below_grown2 HB9.out hFw HB9.out.size hgr10)
            have HFS10 : Hid (∀ f ∈ [F, G], f < w10.heap.size) := Lib.hid (fun f hf => Nat.lt_of_lt_of_le (HFS9.out f hf) hgr10.size)
            clear hf10 hgr10 HF9 HG9 HB9 HFS9
            go_wp2_with fail
            refine (MYes_ok l t HT.out HCLS.out (.slice A l.length cap) s w10 hlen (HR.out.below HB10.out) hs4).mono ?_
            rintro e w11 ⟨y, rfl, hy, hb11⟩
            have HY : Hid (∀ r : Bool, (r = true ↔ EndsAt P s.data.toList 0 s.data.toList.length) → r = y) := Lib.hid (fun r hr => by
              rw [Bool.eq_iff_iff, hr, hy, HEF.out, HTL.out])
            have HF11 := Lib.hid (HF10.out.below hb11)
            have HG11 := Lib.hid (HG10.out.below hb11)
            have HB11 := Lib.hid (HB10.out.trans (hb11.mono HB10.out.size))
            have HFS11 : Hid (∀ f ∈ [F, G], f < w11.heap.size) := Lib.hid (fun f hf => Nat.lt_of_lt_of_le (HFS10.out f hf) hb11.size)
            clear hy hb11 HF10 HG10 HB10 HFS10
            go_wp2_with fail
            refine (FYes_any [F, G] P HPO2.out s.data.toList ff F fb fo fc fA10 fca10 w11 HF11.out).mono ?_
            rintro e w12 ⟨r, rfl, hr, hb12⟩
            obtain rfl := HY.out r hr
            have HF12 := Lib.hid (HF11.out.below hb12)
            have HG12 := Lib.hid (HG11.out.below hb12)
            have HB12 := Lib.hid (HB11.out.trans (hb12.mono HB11.out.size))
            have HFS12 : Hid (∀ f ∈ [F, G], f < w12.heap.size) := Lib.hid (fun f hf => Nat.lt_of_lt_of_le (HFS11.out f hf) hb12.size)
            have bb : (r != r) = false := by simp
            clear hr hb12 HF11 HG11 HB11 HFS11
            go_wp2_with fail
            refine (FYes_any [F, G] P HPO2.out s.data.toList fg9 G gb go gc gA9 gca9 w12 HG12.out).mono ?_
            rintro e w13 ⟨r', rfl, hr', hb13⟩
            obtain rfl := HY.out r' hr'
            have HF13 := Lib.hid (HF12.out.below hb13)
            have HG13 := Lib.hid (HG12.out.below hb13)
            have HB13 := Lib.hid (HB12.out.trans (hb13.mono HB12.out.size))
            have HFS13 : Hid (∀ f ∈ [F, G], f < w13.heap.size) := Lib.hid (fun f hf => Nat.lt_of_lt_of_le (HFS12.out f hf) hb13.size)
            clear hr' hb13 HF12 HG12 HB12 HFS12
            go_wp2_with fail
            have hlf := FLen_any [F, G] P s.data.toList ff F fb fo fc fA10 fca10 w13 HF13.out
            have hlg := FLen_any [F, G] P s.data.toList fg9 G gb go gc gA9 gca9 w13 HG13.out
            rw [HTL.out] at hlf hlg
            refine hlf.mono ?_
            rintro e w14 ⟨rfl, rfl⟩
            have HLG := Lib.hid hlg
            clear hlf hlg
            go_wp2_with fail
            refine HLG.out.mono ?_
            rintro e w15 ⟨rfl, rfl⟩
            clear HLG HG13
            go_wp2_with fail
            refine (FDead_any [F, G] P s.data.toList ff F fb fo fc fA10 fca10 w13 HF13.out).mono ?_
            rintro e w16 ⟨rd, rfl, hrd, rfl⟩
            have HRD := Lib.hid hrd
            clear hrd
            go_wp2_with fail
            have hlen2 : s.data.toList.length + more.size ≤ 400 := by rw [HTL.out]; omega
            refine (FPut_any [F, G] P HPO2.out HOK2.out s.data.toList more ff F fb fo fc fA10 fca10 w13 HF13.out HFS13.out hlen2).mono ?_
            rintro e w17 ⟨rfl, ⟨fm, fA17, fca17, hf17⟩, hgr17⟩
            have HF17 := Lib.hid hf17
            have HB17 := Lib.hid (below_grown2 HB13.out hFw HB13.out.size hgr17)
            have HFS17 : Hid (∀ f ∈ [F, G], f < w17.heap.size) := Lib.hid (fun f hf => Nat.lt_of_lt_of_le (HFS13.out f hf) hgr17.size)
            have HDD : Hid (rd = true → fm = [] ∧ ¬ EndsAt P (s.data.toList ++ more.data.toList) 0 (s.data.toList ++ more.data.toList).length) := Lib.hid (fun h => by
              have h0 := HF13.out.fed
              rw [HRD.out.1 h] at h0
              exact h0.dead hf17.fed)
            clear hf17 hgr17 hlen2 HB13 HFS13 HF13
            cases rd with
            | false =>
              go_wp2_with fail
              refine (FAgain_any [F, G] P (s.data.toList ++ more.data.toList) fm F fb fo fc fA17 fca17 w17 HF17.out HFS17.out).mono ?_
              rintro e w20 ⟨rfl, ⟨fA20, fca20, hf20⟩, hgr20⟩
              have HF20 := Lib.hid hf20
              have HB20 := Lib.hid (below_grown2 HB17.out hFw HB17.out.size hgr20)
              clear hf20 hgr20
              go_wp2_with fail
              refine (FLen_any [F, G] P [] [0] F fb fo fc fA20 fca20 w20 HF20.out).mono ?_
              rintro e w21 ⟨he21, rfl⟩
              obtain rfl : e = .returned (.int .i64 0) := he21
              go_wp2_with fail
              refine (FYes_any [F, G] P HPO2.out [] [0] F fb fo fc fA20 fca20 w20 HF20.out).mono ?_
              rintro e w22 ⟨ry2, rfl, hry2, hb22⟩
              obtain rfl : r1 = ry2 := by rw [Bool.eq_iff_iff, HR1.out, hry2]
              have HB22 := Lib.hid (HB20.out.trans (hb22.mono HB20.out.size))
              clear hry2 hb22
              go_wp2_with fail
              refine bodyPost_ret (v := .bool true) ?_ rfl ⟨rfl, HB22.out⟩
              simp [results, Try.results10, go_sem]
            | true =>
              go_wp2_with fail
              refine (FYes_any [F, G] P HPO2.out (s.data.toList ++ more.data.toList) fm F fb fo fc fA17 fca17 w17 HF17.out).mono ?_
              rintro e w18 ⟨ry, rfl, hry, hb18⟩
              obtain rfl : ry = false := by
                cases ry with
                | false => rfl
                | true => exact absurd (hry.1 rfl) (HDD.out (by simp)).2
              have HF18 := Lib.hid (HF17.out.below hb18)
              have HB18 := Lib.hid (HB17.out.trans (hb18.mono HB17.out.size))
              have HFS18 : Hid (∀ f ∈ [F, G], f < w18.heap.size) := Lib.hid (fun f hf => Nat.lt_of_lt_of_le (HFS17.out f hf) hb18.size)
              clear hry hb18
              go_wp2_with fail
              refine (FDead_any [F, G] P (s.data.toList ++ more.data.toList) fm F fb fo fc fA17 fca17 w18 HF18.out).mono ?_
              rintro e w19 ⟨rd2, rfl, hrd2, rfl⟩
              obtain rfl : rd2 = true := hrd2.2 (HDD.out (by simp)).1
              clear hrd2
              go_wp2_with fail
              refine (FAgain_any [F, G] P (s.data.toList ++ more.data.toList) fm F fb fo fc fA17 fca17 w18 HF18.out HFS18.out).mono ?_
              rintro e w20 ⟨rfl, ⟨fA20, fca20, hf20⟩, hgr20⟩
              have HF20 := Lib.hid hf20
              have HB20 := Lib.hid (below_grown2 HB18.out hFw HB18.out.size hgr20)
              clear hf20 hgr20
              go_wp2_with fail
              refine (FLen_any [F, G] P [] [0] F fb fo fc fA20 fca20 w20 HF20.out).mono ?_
              rintro e w21 ⟨he21, rfl⟩
              obtain rfl : e = .returned (.int .i64 0) := he21
              go_wp2_with fail
              refine (FYes_any [F, G] P HPO2.out [] [0] F fb fo fc fA20 fca20 w20 HF20.out).mono ?_
              rintro e w22 ⟨ry2, rfl, hry2, hb22⟩
              obtain rfl : r1 = ry2 := by rw [Bool.eq_iff_iff, HR1.out, hry2]
              have HB22 := Lib.hid (HB20.out.trans (hb22.mono HB20.out.size))
              clear hry2 hb22
              go_wp2_with fail
              refine bodyPost_ret (v := .bool true) ?_ rfl ⟨rfl, HB22.out⟩
              simp [results, Try.results10, go_sem]
  · have HE := Lib.hid (errV_ne hc)
    refine (FNew_no l (.slice A l.length cap) _ (HR.out.below HB5.out) hc).mono ?_
    rintro e w6 ⟨rfl, hb6⟩
    rw [HE.out]
    have HB6 := Lib.hid (HB5.out.trans (hb6.mono HB5.out.size))
    clear hb6
    go_wp2_with fail
    refine (FNew_no l (.slice A l.length cap) _ (HR.out.below HB6.out) hc).mono ?_
    rintro e w7 ⟨rfl, hb7⟩
    rw [HE.out]
    have HB7 := Lib.hid (HB6.out.trans (hb7.mono HB6.out.size))
    clear hb7
    go_wp2_with fail
    go_ret
    exact ⟨rfl, HB7.out⟩

/-! ### THE ROW's STEP -/
set_option maxRecDepth 100000 in
theorem lifted (os : Os) (started : os.Started) (H : Type) (enc : TypeId × Value → H) :
    ReturnsInHanded {} Try.checked os 10 .any (Rows.feedPiecesSpec.pre6 enc Try.prog Try.f10 Rows.feedPiecesRow.domain false) (Rows.feedPiecesSpec.post enc Try.prog Try.f10 false true false false) := by
  refine returnsInHanded_of_change_sized (C := Try.checked) own started (by kernel_rfl) Try.func10
    (ChangeSpec.witness6 (enc := enc) (C := Try.checked) false ⟨#[], #[.slice none 0 0, .string ByteArray.empty, .slice none 0 0, .string ByteArray.empty], []⟩ 8 (by kernel_rfl) (by kernel_rfl) (by kernel_rfl) (by kernel_rfl)) ?_
  intro W base args ds gs before hval0 hW hcnd hsz0 _
  have hval : ∀ (j : Nat) t v, Try.f10.params[j]? = some t → args[j]? = some v → Value.okWide Try.prog W .any base t v := hval0
  have hW' := hW
  obtain ⟨p, q, hA0, hV, rfl, hfz, hnd⟩ := hW
  have hA : DataW.TrodAll enc Try.prog W 0 (fun _ => true) true Try.f10.params.toList args.toList ds p := hA0
  have hsz : (DataW.weightsEach Try.prog (Try.f10.params.toList ++ Rows.feedPiecesSpec.plain.varTypes Try.prog) (ds ++ gs)).all (· ≤ reachBytes) = true := hsz0
  rw [Try.params10] at hA hval hsz
  obtain ⟨v0, vs0, d0, ds0, p0, q0, hargs, rfl, rfl, h0, r0⟩ := trodAll_cons hA
  obtain ⟨v1, vs1, d1, ds1, p1, q1, rfl, rfl, rfl, h1, r1⟩ := trodAll_cons r0
  obtain ⟨v2, vs2, d2, ds2, p2, q2, rfl, rfl, rfl, h2, r2⟩ := trodAll_cons r1
  obtain ⟨v3, vs3, d3, ds3, p3, q3, rfl, rfl, rfl, h3, r3⟩ := trodAll_cons r2
  obtain ⟨rfl, rfl, rfl⟩ := trodAll_nil r3
  obtain rfl : args = #[v0, v1, v2, v3] := by cases args; simp_all
  obtain ⟨rfl, rfl⟩ := trodVars_none hV
  obtain ⟨a0, len0, cap0, rfl⟩ := okWide_slice Try.underlying25 (hval 0 25 v0 rfl rfl)
  have k0 := h0
  have lt0 : ∀ x ∈ p0, x.block < W.heap.size := by obtain ⟨m, hm⟩ := k0; exact DataW.trod_lt m _ _ _ hm
  obtain ⟨z0, w0, ok0⟩ : ∃ l, RdN W (.slice a0 len0 cap0) l ∧ ∀ nd ∈ l, okNd nd := by obtain ⟨fuel, hf⟩ := h0; exact open_nodes (by simpa [Value.cells] using hf)
  have k1 := h1
  have lt1 : ∀ x ∈ p1, x.block < W.heap.size := by obtain ⟨m, hm⟩ := k1; exact DataW.trod_lt m _ _ _ hm
  obtain ⟨s1, rfl, rfl, rfl, ws1⟩ := open_string Try.underlying9 (hval 1 9 v1 rfl rfl) h1
  obtain ⟨a2, len2, cap2, rfl⟩ := okWide_slice Try.underlying45 (hval 2 45 v2 rfl rfl)
  have k2 := h2
  have lt2 : ∀ x ∈ p2, x.block < W.heap.size := by obtain ⟨m, hm⟩ := k2; exact DataW.trod_lt m _ _ _ hm
  obtain ⟨z2, w2, ok2⟩ : ∃ l : List Int, Rd1 W (.slice a2 len2 cap2) (l.map (Value.int .i64)) ∧ ∀ n ∈ l, (Lit.int .i64 n).wf = true := by obtain ⟨fuel, hf⟩ := h2; exact open_ints1 (by simpa [Value.cells] using hf)
  have k3 := h3
  have lt3 : ∀ x ∈ p3, x.block < W.heap.size := by obtain ⟨m, hm⟩ := k3; exact DataW.trod_lt m _ _ _ hm
  obtain ⟨s3, rfl, rfl, rfl, ws3⟩ := open_string Try.underlying9 (hval 3 9 v3 rfl rfl) h3
  have rs1 : s1.size ≤ 140737488355328 := by have := sized_string hsz (j := 1) (t := 9) (bytes := s1.data.toList) rfl rfl; have hb := reachBytes_lt; simp at this; omega
  have rs3 : s3.size ≤ 140737488355328 := by have := sized_string hsz (j := 3) (t := 9) (bytes := s3.data.toList) rfl rfl; have hb := reachBytes_lt; simp at this; omega
  clear hA0 hval0 hsz0 hsz
  refine (walk z0 _ s1 z2 _ s3 W w0 ok0 w2 rs1 rs3).mono fun e W' ⟨he, bel⟩ => ?_
  subst he
  exact ⟨_, rfl, _, _, _, [], _, [], hW', trodAll_mk1 (shut_bool Try.underlying4 _), (trodAll_cons_mk (Below.trod laidOut (by kernel_rfl) (of_decide_eq_true (by kernel_rfl)) k0 bel lt0) (trodAll_cons_mk (shut_string Try.underlying9 ws1) (trodAll_cons_mk (Below.trod laidOut (by kernel_rfl) (of_decide_eq_true (by kernel_rfl)) k2 bel lt2) (trodAll_cons_mk (shut_string Try.underlying9 ws3) trodAll_mk0)))), rfl, bel.frame _, fun h => by cases h⟩

theorem over : Rows.feedPiecesRow.holds Try.pinned (OpenSpec.ofChange Rows.feedPiecesSpec) :=
  OpenClaim.holds_of_wide 10 Try.f10 rfl rfl rfl rfl rfl rfl rfl ⟨rfl, rfl, rfl, rfl, rfl⟩ rfl rfl rfl rfl rfl (by kernel_rfl) Try.func10 (by kernel_rfl)
    (of_decide_eq_true (by kernel_rfl)) (by unfold Func.isWrapper; first | (rw [if_pos (by decide +kernel)]; kernel_rfl) | (rw [if_neg (by decide +kernel)]; exact ⟨rfl, rfl⟩))
    (fun os started H enc _ => lifted os started H enc)

/-- THE STATEMENT -/
theorem proved : Rows.FeedPiecesSaid := over


end Go.Proofs.Ythcahjnniendnaa.feedPieces
