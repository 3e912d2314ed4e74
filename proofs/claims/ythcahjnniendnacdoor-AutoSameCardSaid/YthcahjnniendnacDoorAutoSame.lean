/-
  Proved: winnowfanlaw2.AutoSame returns true for every program, texts and places, and changes nothing that was there.
-/
import Derived.Test.YthcahjnniendnacDoorAs
import Derived.Test.YthcahjnniendnacDoorAutoS
import Derived.Test.YthcahjnniendnacDoorEmptyNo
import Derived.Test.YthcahjnniendnacDoorGOpen
import Derived.Test.YthcahjnniendnacDoorGRun
import Derived.Test.YthcahjnniendnacDoorInts
import Derived.Test.YthcahjnniendnacDoorLaid
import Derived.Test.YthcahjnniendnacDoorLaw
import Derived.Test.YthcahjnniendnacDoorOpenS
import Derived.Test.YthcahjnniendnacDoorRefS
import Derived.Test.YthcahjnniendnacDoorSimF
import Derived.Test.YthcahjnniendnacDoorTie
import Derived.Test.YthcahjnniendnacDoorCards
namespace Go.Proofs.YthcahjnniendnacDoor.autoSame
open Go.ChangeShapes Go.WideShapes Go.ChangeAt Go.RowKit Wf
open Go.ChangeMaps (open_string shut_string)
open law (own laidOut LawIs laidL laidWorld laidWorld_met handle_of_laid)
set_option linter.unusedVariables false

def oneS_ (c : Cls) : List St := [⟨1, c, 1, 0⟩, ⟨5, zc, 0, 0⟩]
theorem one_is (c : Cls) : oneS_ c = progL (.byte c) := rfl
theorem fact_rd (w : World) (B : Nat) (hB : w.heap.size = B) (a0 a1 a2 a3 : Nat) : RdS (w.alloc (.cells #[.int .i64 1, .int .u64 (a0 : Int), .int .u64 (a1 : Int), .int .u64 (a2 : Int), .int .u64 (a3 : Int), .int .i64 1, .int .i64 0, .int .i64 5, .int .u64 0, .int .u64 0, .int .u64 0, .int .u64 0, .int .i64 0, .int .i64 0] 30)) (.slice (some ⟨B, 0, none⟩) 2 2) (oneS_ (a0, a1, a2, a3)) := by
  subst hB
  refine ⟨_, 2, 2, rfl, by omega, by omega, rfl, fun _ => ⟨_, 0, rfl, fun j u hu => ?_⟩⟩
  rw [Nat.zero_add, World.cell?_alloc_new, ← hu]
  simp [stCells, oneS_, zc]
theorem one_ok (c : Cls) : okP (oneS_ c) := progL_ok (.byte c) (by simp [flat])
theorem one_cls (c : Cls) (hc : okC c) : ∀ s ∈ oneS_ c, okC s.cls := by
  intro s hs
  simp [oneS_] at hs
  rcases hs with rfl | rfl
  · exact hc
  · exact okC_zc
theorem fact_run (c : Cls) (hc : c = ofL [97] zc) : runL (oneS_ c) [97, 98] 0 = [1] := by
  have h97 : has c 97 = true := by rw [hc]; decide +kernel
  have key : ∀ i, EndsAt (progL (.byte c)) [97, 98] 0 i ↔ i = 1 := by
    intro i
    rw [ends_fits]
    constructor
    · rintro ⟨h, _⟩; omega
    · rintro rfl; exact ⟨rfl, 97, rfl, h97⟩
  rw [one_is]
  unfold runL
  show upTo_ _ (0 + 1 + 1 + 1) = _
  rw [upTo_no (fun h => by have := (key 2).1 h; omega), upTo_yes ((key 1).2 rfl), upTo_no (fun h => by have := (key 0).1 h; omega)]
  rfl
theorem chkRun_zero {p : List St} {n : Nat} {f : Int} (h : chkRun p n f = 0) : chkP p = 0 ∧ n ≤ 400 ∧ 0 ≤ f ∧ f ≤ n := by
  unfold chkRun at h
  by_cases h1 : chkP p = 0
  · rw [if_neg (by simpa using h1)] at h
    by_cases h2 : 400 < n
    · rw [if_pos h2] at h; cases h
    · rw [if_neg h2] at h
      by_cases h3 : f < 0 ∨ (n : Int) < f
      · rw [if_pos h3] at h; cases h
      · exact ⟨h1, by omega, by omega, by omega⟩
  · rw [if_pos h1] at h; exact absurd h h1

/-- The auto stands, all of it new since w. -/
def Stands_ (p : List St) (a km : Nat) (pv : Value) (w wr : World) : Prop := (∃ Own Ss L, AEnv p a km pv Own Ss L wr ∧ ∀ k, Own k → w.heap.size ≤ k) ∧ Below w.heap.size w wr

set_option maxRecDepth 100000 in
set_option maxHeartbeats 16000000 in
theorem walk (p : List St) (v : Value) (ls : List ByteArray) (vl : Value) (fr : List Int) (vf : Value) (w : World) (hr : RdS w v p) (hok : ∀ t ∈ p, okSt t) (hl : Rd1 w vl (ls.map Value.string)) (hls : ∀ s ∈ ls, s.size ≤ maxLen) (hfr : Rd1 w vf (fr.map (Value.int .i64))) (hfo : ∀ n ∈ fr, (Lit.int .i64 n).wf = true) (hg : ErrT w) :
    Calls Tryd.prog 3 #[v, vl, vf] w (LawIs w) := by
  have hokc : ∀ t ∈ p, okC t.cls := fun t ht => (hok t ht).1
  obtain ⟨A, cap, rfl, hcap, hcap2, hmem⟩ := hr.open_
  obtain ⟨AL, capl, rfl, hcl, hcl2, hml⟩ := hl.open_
  obtain ⟨AF, capf, rfl, hcf, hcf2, hmf⟩ := hfr.open_
  rw [List.length_map] at hcl hml hcf hmf
  have HR := Lib.hid hr
  have HG := Lib.hid hg
  have HML := Lib.hid hml
  have HMF := Lib.hid hmf
  have HLS := Lib.hid hls
  have HOKC := Lib.hid hokc
  have HFO := Lib.hid hfo
  have HF := Lib.hid (fun (W : World) (h : RdS W (.slice A p.length cap) p) => RSFault_any p (.slice A p.length cap) W h (by omega) hokc)
  unfold RSFaultIs at HF
  clear hr hok hl hls hfr hfo hg hmem hml hmf hokc
  rw [List.length_map, List.length_map]
  go_enter Tryd.func3, Tryd.ntmps3
  go_wp2_with fail
  refine (Of_any _ _ (by decide)).mono ?_
  rintro e w1 ⟨a0, a1, a2, a3, rfl, ha, hb1⟩
  have HRUN := Lib.hid (fact_run (a0, a1, a2, a3) ha)
  have HOK1 := Lib.hid (one_cls (a0, a1, a2, a3) (by rw [ha]; exact okC_ofL _ _ okC_zc))
  have HP1 := Lib.hid (one_ok (a0, a1, a2, a3))
  have HB1 := Lib.hid hb1
  clear ha hb1
  go_wp2_with fail
  refine (New_ok (oneS_ (a0, a1, a2, a3)) HP1.out _ _ (fact_rd _ _ (by simp) a0 a1 a2 a3)).mono ?_
  rintro e w2 ⟨za, zkm, zpv, ZOwn, rfl, hze, hb2, hzo⟩
  have HB2 := Lib.hid ((HB1.out.alloc HB1.out.size _).trans (hb2.mono (Nat.le_trans HB1.out.size (by simp))))
  have HZE := Lib.hid hze
  have HZO : Hid (∀ k, ZOwn k → w.heap.size ≤ k) := Lib.hid (fun k hk => by have := hzo k hk; have := HB1.out.size; simp at *; omega)
  clear hze hzo hb2 HB1
  go_wp2_with fail
  refine (States_c _ _ _ _ _ _ _ _ HZE.out).mono ?_
  rintro e w2' ⟨rfl, rfl⟩
  go_wp2_with fail
  refine (long_ok _ HP1.out HOK1.out _ _ _ _ _ _ _ HZE.out ⟨#[97, 98]⟩ (by decide) 0 (by decide)).mono ?_
  rintro e w3 ⟨he, ZOwn3, ZSs3, ZL3, hze3, hzg3⟩
  rw [show (ByteArray.mk #[97, 98]).data.toList = [97, 98] from rfl, HRUN.out] at he
  obtain rfl : e = .returned (.tuple #[.int .i64 1, .nilIface]) := he
  have HB3 := Lib.hid (HB2.out.trans ((hzg3.below (B := w.heap.size) HB2.out.size HZO.out)))
  clear hze3 hzg3 HB2 HZE HZO HP1 HOK1 HRUN
  go_wp2_with fail
  by_cases hc : chkP p = 0
  · have HP := Lib.hid (chkP_ok.1 hc)
    have hp200 : p.length ≤ 200 := HP.out.2.1
    have HF0 : Hid (∀ W, RdS W (.slice A p.length cap) p → Calls Tryd.prog 14 #[.slice A p.length cap] W (fun e w' => e = .returned (.int .i64 0) ∧ Below W.heap.size W w')) := Lib.hid (fun W h => by have := HF.out W h; rwa [hc] at this)
    have HS := Lib.hid (fun W h => SErr_any 0 0 W h)
    rw [errV_zero] at HS
    clear hc HF
    refine (New_ok p HP.out _ _ (HR.out.below HB3.out)).mono ?_
    rintro e w4 ⟨a, km, pv, Own, rfl, he4, hb4, ho4⟩
    have HB4 := Lib.hid (HB3.out.trans (hb4.mono HB3.out.size))
    have HE4 := Lib.hid he4
    have HO4 : Hid (∀ k, Own k → w.heap.size ≤ k) := Lib.hid (fun k hk => by have := ho4 k hk; have := HB3.out.size; omega)
    clear he4 hb4 ho4
    go_wp2_with fail
    refine (HF0.out _ (HR.out.below HB4.out)).mono ?_
    rintro e w5 ⟨rfl, hb5⟩
    have HB5 := Lib.hid (HB4.out.trans (hb5.mono HB4.out.size))
    have HE5 := Lib.hid (HE4.out.below hb5)
    clear hb5
    go_wp2_with fail
    refine (HS.out _ (HG.out.below HB5.out)).mono ?_
    rintro e w6 ⟨r, rfl, hrr, hb6⟩
    obtain rfl : r = true := hrr.2 rfl
    have HST : Hid (Stands_ p a km pv w w6) := Lib.hid ⟨⟨Own, [], [], HE5.out.below hb6, HO4.out⟩, HB5.out.trans (hb6.mono HB5.out.size)⟩
    clear hb6 hrr HE4 HE5 HB3 HB4 HB5 HO4 HF0
    go_wp2_with fail
    go_loopw [14] (fun v14 wr => ∃ (i : Nat), i ≤ ls.length ∧ v14 = .int .i64 (i : Int) ∧ Hid (Stands_ p a km pv w wr)) (fun i _ => ls.length - (intOf i).toNat)
    case atStart => exact ⟨0, by omega, rfl, HST⟩
    case round =>
      clear HST
      obtain ⟨i, hi, rfl, HST⟩ := hrel
      have hi0 : (0 : Int) ≤ (i : Int) := by omega
      by_cases hlt : i < ls.length
      · have d1 : decide (i < ls.length) = true := by simpa using hlt
        by_cases h10 : i < 10
        · have d2 : decide ((i : Int) < 10) = true := by simp; omega
          obtain ⟨bl, ol, rfl, hbl, hcl'⟩ := HML.out (by omega)
          have hs : ls[i]? = some (ls[i]'hlt) := List.getElem?_eq_getElem hlt
          generalize ls[i]'hlt = tx at hs
          have g0 := hcl' wr (fun o => HST.out.2.cell (p := ⟨bl, o, none⟩) hbl) i (.string tx) (by simp [hs])
          have HCL : Hid (∀ W, Below w.heap.size w W → W.cell? ⟨bl, ol + i, none⟩ = some (.string tx)) := Lib.hid (fun W h => hcl' W (fun o => h.cell (p := ⟨bl, o, none⟩) hbl) i (.string tx) (by simp [hs]))
          have htx := HLS.out tx (List.mem_of_getElem? hs)
          unfold maxLen at htx
          have hi1 : (i : Int) < (ls.length : Int) := by omega
          have HTX := Lib.hid htx
          clear hs hcl'
          by_cases hf : i < fr.length
          · have d3 : decide (i < fr.length) = true := by simpa using hf
            obtain ⟨bf, of_, rfl, hbf, hcf'⟩ := HMF.out (by omega)
            have hk : fr[i]? = some (fr[i]'hf) := List.getElem?_eq_getElem hf
            generalize fr[i]'hf = k at hk
            have q0 := hcf' wr (fun o => HST.out.2.cell (p := ⟨bf, o, none⟩) hbf) i (.int .i64 k) (by simp [hk])
            have hf1 : (i : Int) < (fr.length : Int) := by omega
            clear hcf' hk hf
            by_cases hz : chkRun p tx.size k = 0
            · obtain ⟨_, hsz, hk0, hk1⟩ := chkRun_zero hz
              obtain ⟨f, hkf⟩ := Int.eq_ofNat_of_zero_le hk0
              have hf2 : f ≤ tx.size := by omega
              have HKF := Lib.hid hkf
              obtain ⟨⟨Own2, Ss2, L2, he2, ho2⟩, hb2⟩ := HST.out
              have HE2 := Lib.hid he2
              have HO2 := Lib.hid ho2
              have HB2 := Lib.hid hb2
              have HLO := Lib.hid (long_ok p HP.out HOKC.out a km pv Own2 Ss2 L2 wr he2 tx hsz f hf2)
              have HSL := Lib.hid (fun W h => RLong_ok p HP.out HOKC.out (.slice A p.length cap) tx hsz f hf2 W h)
              unfold LongRun at HSL
              rw [show ((f : Nat) : Int) = k from hkf.symm] at HLO HSL
              clear hz hk0 hk1 hkf he2 ho2 hb2
              generalize lastL (runL p tx.data.toList f) = n at *
              go_wp2_with fail
              refine HLO.out.mono ?_
              rintro e w3 ⟨rfl, Own3, Ss3, L3, he3, hg3⟩
              have HE3 := Lib.hid he3
              have HB3 := Lib.hid (HB2.out.trans (hg3.below (B := w.heap.size) HB2.out.size HO2.out))
              have HO3 := Lib.hid (hg3.ge (B := w.heap.size) HB2.out.size HO2.out)
              have g3 := HCL.out w3 HB3.out
              clear he3 hg3 HLO g0
              go_wp2_with fail
              refine (HSL.out _ (HR.out.below HB3.out)).mono ?_
              rintro e w4 ⟨rfl, hb4⟩
              have HE4 := Lib.hid (HE3.out.below hb4)
              have HB4 := Lib.hid (HB3.out.trans (hb4.mono HB3.out.size))
              have hL100 := HE4.out.ln
              have d7 : decide (100 < L3.length) = false := by simp; omega
              have d8 : decide ((100 : Int) < (L3.length : Int)) = false := by simp; omega
              clear hb4 HSL g3
              go_wp2_with fail
              have hQ : Hid (Stands_ p a km pv w w4.drew) := Lib.hid ⟨⟨Own3, Ss3, L3, HE4.out.below (Below.refl _ _).drew, HO3.out⟩, HB4.out.drew⟩
              have HSC : Hid (∀ W, Hid (W = w4.drew) → Calls Tryd.prog 11 #[.pointer (some ⟨a, 0, none⟩)] W (StatesIs L3.length W)) := Lib.hid (fun W h => by
                have e := h.out
                subst e
                exact States_c p a km pv Own3 Ss3 L3 _ (HE4.out.below (Below.refl _ _).drew))
              have HW0 : Hid (w4.drew = w4.drew) := Lib.hid rfl
              go_region_held3 (fun w' => Hid (w' = w4.drew))
                (first | assumption | exact Lib.hid rfl)
                (first | (go_at_call 11; refine (HSC.out _ (by assumption)).mono ?_; rintro e w7 ⟨rfl, rfl⟩))
              go_wp2_with fail
              go_roundw
              case rel => exact ⟨i + 1, by omega, by go_num, hQ⟩
              case measure => simp [intOf]; omega
            · have HZ := Lib.hid hz
              have HEV := Lib.hid (errV_ne hz)
              obtain ⟨⟨Own3, Ss3, L3, he2, ho2⟩, hb2⟩ := HST.out
              have HE2 := Lib.hid he2
              have HO3 := Lib.hid ho2
              have HB2 := Lib.hid hb2
              clear hz he2 ho2 hb2
              go_wp2_with fail
              refine (long_no p a km pv Own3 Ss3 L3 wr HE2.out (by omega) tx k HZ.out).mono ?_
              rintro e w3 ⟨rfl, hb3⟩
              rw [HEV.out]
              have HE3 := Lib.hid (HE2.out.below hb3)
              have HB3 := Lib.hid (HB2.out.trans (hb3.mono HB2.out.size))
              have g3 := HCL.out w3 HB3.out
              clear hb3 g0
              go_wp2_with fail
              refine (RLong_no p _ tx k w3 (HR.out.below HB3.out) (by omega) HZ.out).mono ?_
              rintro e w4 ⟨rfl, hb4⟩
              rw [HEV.out]
              have HE4 := Lib.hid (HE3.out.below hb4)
              have HB4 := Lib.hid (HB3.out.trans (hb4.mono HB3.out.size))
              have hL100 := HE4.out.ln
              have d7 : decide (100 < L3.length) = false := by simp; omega
              have d8 : decide ((100 : Int) < (L3.length : Int)) = false := by simp; omega
              clear hb4 g3
              go_wp2_with fail
              have hQ : Hid (Stands_ p a km pv w w4.drew) := Lib.hid ⟨⟨Own3, Ss3, L3, HE4.out.below (Below.refl _ _).drew, HO3.out⟩, HB4.out.drew⟩
              have HSC : Hid (∀ W, Hid (W = w4.drew) → Calls Tryd.prog 11 #[.pointer (some ⟨a, 0, none⟩)] W (StatesIs L3.length W)) := Lib.hid (fun W h => by
                have e := h.out
                subst e
                exact States_c p a km pv Own3 Ss3 L3 _ (HE4.out.below (Below.refl _ _).drew))
              have HW0 : Hid (w4.drew = w4.drew) := Lib.hid rfl
              go_region_held3 (fun w' => Hid (w' = w4.drew))
                (first | assumption | exact Lib.hid rfl)
                (first | (go_at_call 11; refine (HSC.out _ (by assumption)).mono ?_; rintro e w7 ⟨rfl, rfl⟩))
              go_wp2_with fail
              go_roundw
              case rel => exact ⟨i + 1, by omega, by go_num, hQ⟩
              case measure => simp [intOf]; omega
          · have d3 : decide (i < fr.length) = false := by simpa using hf
            clear hf
            obtain ⟨k, hk0⟩ : ∃ k : Int, k = 0 := ⟨0, rfl⟩
            have HK0 := Lib.hid hk0
            clear hk0
            by_cases hz : chkRun p tx.size 0 = 0
            · obtain ⟨_, hsz, hk0, hk1⟩ := chkRun_zero hz
              obtain ⟨f, hkf⟩ := Int.eq_ofNat_of_zero_le hk0
              have hf2 : f ≤ tx.size := by omega
              have HKF := Lib.hid hkf
              obtain ⟨⟨Own2, Ss2, L2, he2, ho2⟩, hb2⟩ := HST.out
              have HE2 := Lib.hid he2
              have HO2 := Lib.hid ho2
              have HB2 := Lib.hid hb2
              have HLO := Lib.hid (long_ok p HP.out HOKC.out a km pv Own2 Ss2 L2 wr he2 tx hsz f hf2)
              have HSL := Lib.hid (fun W h => RLong_ok p HP.out HOKC.out (.slice A p.length cap) tx hsz f hf2 W h)
              unfold LongRun at HSL
              rw [show ((f : Nat) : Int) = 0 from hkf.symm] at HLO HSL
              clear hz hk0 hk1 hkf he2 ho2 hb2
              generalize lastL (runL p tx.data.toList f) = n at *
              go_wp2_with fail
              refine HLO.out.mono ?_
              rintro e w3 ⟨rfl, Own3, Ss3, L3, he3, hg3⟩
              have HE3 := Lib.hid he3
              have HB3 := Lib.hid (HB2.out.trans (hg3.below (B := w.heap.size) HB2.out.size HO2.out))
              have HO3 := Lib.hid (hg3.ge (B := w.heap.size) HB2.out.size HO2.out)
              have g3 := HCL.out w3 HB3.out
              clear he3 hg3 HLO g0
              go_wp2_with fail
              refine (HSL.out _ (HR.out.below HB3.out)).mono ?_
              rintro e w4 ⟨rfl, hb4⟩
              have HE4 := Lib.hid (HE3.out.below hb4)
              have HB4 := Lib.hid (HB3.out.trans (hb4.mono HB3.out.size))
              have hL100 := HE4.out.ln
              have d7 : decide (100 < L3.length) = false := by simp; omega
              have d8 : decide ((100 : Int) < (L3.length : Int)) = false := by simp; omega
              clear hb4 HSL g3
              go_wp2_with fail
              have hQ : Hid (Stands_ p a km pv w w4.drew) := Lib.hid ⟨⟨Own3, Ss3, L3, HE4.out.below (Below.refl _ _).drew, HO3.out⟩, HB4.out.drew⟩
              have HSC : Hid (∀ W, Hid (W = w4.drew) → Calls Tryd.prog 11 #[.pointer (some ⟨a, 0, none⟩)] W (StatesIs L3.length W)) := Lib.hid (fun W h => by
                have e := h.out
                subst e
                exact States_c p a km pv Own3 Ss3 L3 _ (HE4.out.below (Below.refl _ _).drew))
              have HW0 : Hid (w4.drew = w4.drew) := Lib.hid rfl
              go_region_held3 (fun w' => Hid (w' = w4.drew))
                (first | assumption | exact Lib.hid rfl)
                (first | (go_at_call 11; refine (HSC.out _ (by assumption)).mono ?_; rintro e w7 ⟨rfl, rfl⟩))
              go_wp2_with fail
              go_roundw
              case rel => exact ⟨i + 1, by omega, by go_num, hQ⟩
              case measure => simp [intOf]; omega
            · have HZ := Lib.hid hz
              have HEV := Lib.hid (errV_ne hz)
              obtain ⟨⟨Own3, Ss3, L3, he2, ho2⟩, hb2⟩ := HST.out
              have HE2 := Lib.hid he2
              have HO3 := Lib.hid ho2
              have HB2 := Lib.hid hb2
              clear hz he2 ho2 hb2
              go_wp2_with fail
              refine (long_no p a km pv Own3 Ss3 L3 wr HE2.out (by omega) tx 0 HZ.out).mono ?_
              rintro e w3 ⟨rfl, hb3⟩
              rw [HEV.out]
              have HE3 := Lib.hid (HE2.out.below hb3)
              have HB3 := Lib.hid (HB2.out.trans (hb3.mono HB2.out.size))
              have g3 := HCL.out w3 HB3.out
              clear hb3 g0
              go_wp2_with fail
              refine (RLong_no p _ tx 0 w3 (HR.out.below HB3.out) (by omega) HZ.out).mono ?_
              rintro e w4 ⟨rfl, hb4⟩
              rw [HEV.out]
              have HE4 := Lib.hid (HE3.out.below hb4)
              have HB4 := Lib.hid (HB3.out.trans (hb4.mono HB3.out.size))
              have hL100 := HE4.out.ln
              have d7 : decide (100 < L3.length) = false := by simp; omega
              have d8 : decide ((100 : Int) < (L3.length : Int)) = false := by simp; omega
              clear hb4 g3
              go_wp2_with fail
              have hQ : Hid (Stands_ p a km pv w w4.drew) := Lib.hid ⟨⟨Own3, Ss3, L3, HE4.out.below (Below.refl _ _).drew, HO3.out⟩, HB4.out.drew⟩
              have HSC : Hid (∀ W, Hid (W = w4.drew) → Calls Tryd.prog 11 #[.pointer (some ⟨a, 0, none⟩)] W (StatesIs L3.length W)) := Lib.hid (fun W h => by
                have e := h.out
                subst e
                exact States_c p a km pv Own3 Ss3 L3 _ (HE4.out.below (Below.refl _ _).drew))
              have HW0 : Hid (w4.drew = w4.drew) := Lib.hid rfl
              go_region_held3 (fun w' => Hid (w' = w4.drew))
                (first | assumption | exact Lib.hid rfl)
                (first | (go_at_call 11; refine (HSC.out _ (by assumption)).mono ?_; rintro e w7 ⟨rfl, rfl⟩))
              go_wp2_with fail
              go_roundw
              case rel => exact ⟨i + 1, by omega, by go_num, hQ⟩
              case measure => simp [intOf]; omega
        · have d2 : decide ((i : Int) < 10) = false := by simp; omega
          clear h10
          go_wp2_with fail
          go_ret
          exact ⟨rfl, HST.out.2⟩
      · have d1 : decide (i < ls.length) = false := by simpa using hlt
        clear hlt
        go_wp2_with fail
        go_ret
        exact ⟨rfl, HST.out.2⟩
  · have HEV := Lib.hid (errV_ne hc)
    have HS := Lib.hid (fun W h => SErr_any (chkP p) (chkP p) W h)
    refine (New_no p _ _ (HR.out.below HB3.out) (by omega) hc).mono ?_
    rintro e w4 ⟨rfl, hb4⟩
    have HB4 := Lib.hid (HB3.out.trans (hb4.mono HB3.out.size))
    rw [HEV.out] at HS ⊢
    clear hb4 hc
    go_wp2_with fail
    refine (HF.out _ (HR.out.below HB4.out)).mono ?_
    rintro e w5 ⟨rfl, hb5⟩
    have HB5 := Lib.hid (HB4.out.trans (hb5.mono HB4.out.size))
    clear hb5
    go_wp2_with fail
    refine (HS.out _ (HG.out.below HB5.out)).mono ?_
    rintro e w6 ⟨r, rfl, hrr, hb6⟩
    obtain rfl : r = true := hrr.2 rfl
    have HB6 := Lib.hid (HB5.out.trans (hb6.mono HB5.out.size))
    clear hb6 hrr
    go_wp2_with fail
    go_ret
    exact ⟨rfl, HB6.out⟩

/-! ### THE ROW's STEP -/
set_option maxRecDepth 100000 in
theorem lifted (os : Os) (started : os.Started) (H : Type) (enc : TypeId × Value → H) :
    ReturnsInHanded {} Tryd.checked os 3 .any (fun w args => (Rows.autoSameSpec.pre enc Tryd.prog Tryd.f3 [] false w args ∧ laidMetH Tryd.prog laidL w) ∧ sizedMet enc Tryd.prog Tryd.f3 (OpenSpec.ofChange Rows.autoSameSpec) false w args)
      (Rows.autoSameSpec.post enc Tryd.prog Tryd.f3 false true false false) := by
  refine returnsInHanded_of_change_and (C := Tryd.checked) (X := fun w _ => laidMetH Tryd.prog laidL w) (fun _ _ _ hh h => h.of_heap hh) own started (by kernel_rfl) Tryd.func3
    (ChangeSpec.witness_at (enc := enc) (C := Tryd.checked) (os := os) (X := fun w _ => laidMetH Tryd.prog laidL w) false (laidWorld os) #[.slice none 0 0, .slice none 0 0, .slice none 0 0] 8 rfl (by kernel_rfl) (by kernel_rfl) (by kernel_rfl) (by kernel_rfl) (by kernel_rfl) (laidWorld_met os _)) ?_
  intro W base args ds gs before hval0 hW hcnd _ hL _
  have hval : ∀ (j : Nat) t v, Tryd.f3.params[j]? = some t → args[j]? = some v → Value.okWide Tryd.prog W .any base t v := hval0
  have hW' := hW
  obtain ⟨p, q, hA0, hV, rfl, hfz, hnd⟩ := hW
  have hA : DataW.TrodAll enc Tryd.prog W 0 (fun _ => true) true Tryd.f3.params.toList args.toList ds p := hA0
  rw [Tryd.params3] at hA hval
  obtain ⟨v0, vs0, d0, ds0, p0, q0, hargs, rfl, rfl, h0, r0⟩ := trodAll_cons hA
  obtain ⟨v1, vs1, d1, ds1, p1, q1, rfl, rfl, rfl, h1, r1⟩ := trodAll_cons r0
  obtain ⟨v2, vs2, d2, ds2, p2, q2, rfl, rfl, rfl, h2, r2⟩ := trodAll_cons r1
  obtain ⟨rfl, rfl, rfl⟩ := trodAll_nil r2
  obtain rfl : args = #[v0, v1, v2] := by cases args; simp_all
  obtain ⟨rfl, rfl⟩ := trodVars_none hV
  have hg := handle_of_laid hL
  obtain ⟨a0, len0, cap0, rfl⟩ := okWide_slice Tryd.underlying22 (hval 0 22 v0 rfl rfl)
  have k0 := h0
  have lt0 : ∀ x ∈ p0, x.block < W.heap.size := by obtain ⟨m, hm⟩ := k0; exact DataW.trod_lt m _ _ _ hm
  obtain ⟨z0, w0, ok0⟩ : ∃ l, RdS W (.slice a0 len0 cap0) l ∧ ∀ nd ∈ l, okSt nd := by obtain ⟨fuel, hf⟩ := h0; exact open_steps (by simpa [Value.cells] using hf)
  obtain ⟨a1, len1, cap1, rfl⟩ := okWide_slice Tryd.underlying23 (hval 1 23 v1 rfl rfl)
  have k1 := h1
  have lt1 : ∀ x ∈ p1, x.block < W.heap.size := by obtain ⟨m, hm⟩ := k1; exact DataW.trod_lt m _ _ _ hm
  obtain ⟨z1, w1, ok1, dk1⟩ : ∃ l : List ByteArray, Rd1 W (.slice a1 len1 cap1) (l.map Value.string) ∧ (∀ s ∈ l, s.size ≤ maxLen) ∧ ∀ s ∈ l, ∃ elems sp, d1 = .slice elems sp ∧ DataW.lit (.string s.data.toList) ∈ elems := by obtain ⟨fuel, hf⟩ := h1; exact open_strs1 Tryd.underlying23 Tryd.underlying9 (by kernel_rfl) (by simpa [Value.cells] using hf)
  obtain ⟨a2, len2, cap2, rfl⟩ := okWide_slice Tryd.underlying24 (hval 2 24 v2 rfl rfl)
  have k2 := h2
  have lt2 : ∀ x ∈ p2, x.block < W.heap.size := by obtain ⟨m, hm⟩ := k2; exact DataW.trod_lt m _ _ _ hm
  obtain ⟨z2, w2, ok2⟩ : ∃ l : List Int, Rd1 W (.slice a2 len2 cap2) (l.map (Value.int .i64)) ∧ ∀ n ∈ l, (Lit.int .i64 n).wf = true := by obtain ⟨fuel, hf⟩ := h2; exact open_ints1 (by simpa [Value.cells] using hf)
  clear hA0 hval0
  refine (walk z0 _ z1 _ z2 _ W w0 ok0 w1 ok1 w2 ok2 hg).mono fun e W' ⟨he, bel⟩ => ?_
  subst he
  exact ⟨_, rfl, _, _, _, [], _, [], hW', trodAll_mk1 (shut_bool Tryd.underlying4 _), (trodAll_cons_mk (Below.trod laidOut (by kernel_rfl) (of_decide_eq_true (by kernel_rfl)) k0 bel lt0) (trodAll_cons_mk (Below.trod laidOut (by kernel_rfl) (of_decide_eq_true (by kernel_rfl)) k1 bel lt1) (trodAll_cons_mk (Below.trod laidOut (by kernel_rfl) (of_decide_eq_true (by kernel_rfl)) k2 bel lt2) trodAll_mk0))), rfl, bel.frame _, fun h => by cases h⟩

theorem over : Rows.autoSameRow.holds Tryd.pinned (OpenSpec.ofChange Rows.autoSameSpec) :=
  OpenClaim.holds_of_wide 3 Tryd.f3 rfl rfl rfl rfl rfl rfl rfl ⟨rfl, rfl, rfl, rfl, rfl⟩ rfl rfl rfl rfl rfl (by kernel_rfl) Tryd.func3 (by kernel_rfl)
    (of_decide_eq_true (by kernel_rfl)) (by unfold Func.isWrapper; first | (rw [if_pos (by decide +kernel)]; kernel_rfl) | (rw [if_neg (by decide +kernel)]; exact ⟨rfl, rfl⟩))
    (fun os started H enc _ => lifted os started H enc)

/-- THE STATEMENT: the tied card. -/
theorem proved : Rows.AutoSameCardSaid :=
  Claim7.holds_tied_plain_at .later [] [.handle] true (true, "b22f7a0eec186ffb4fb754ff472bcf2adfba2dcccb0cc862029e99de2a9820c8") true
    over (fun _ h => by cases h) (by kernel_rfl) (fun _ h => by cases h) autoSame_row_tie rfl ⟨rfl, rfl⟩ (by kernel_rfl) rfl
    (fun f fn hf hfn => by
      obtain rfl : f = 3 := Option.some.inj ((show Tryd.prog.funcNamed "winnowfan/winnowfanlaw2.AutoSame" = some 3 by kernel_rfl).symm.trans hf) |>.symm
      obtain rfl : fn = Tryd.f3 := (Option.some.inj (Tryd.func3.symm.trans hfn)).symm
      exact ⟨by kernel_rfl, fun j t ht => by
        rw [Tryd.params3] at ht
        match j, ht with
        | 0, ht =>
          have e : t = 22 := by simpa using ht.symm
          subst e
          exact (show Tryd.prog.wantsStandIn 22 = false by kernel_rfl)
        | 1, ht =>
          have e : t = 23 := by simpa using ht.symm
          subst e
          exact (show Tryd.prog.wantsStandIn 23 = false by kernel_rfl)
        | 2, ht =>
          have e : t = 24 := by simpa using ht.symm
          subst e
          exact (show Tryd.prog.wantsStandIn 24 = false by kernel_rfl)
        | j + 3, ht => simp at ht⟩)
    (by kernel_rfl)


end Go.Proofs.YthcahjnniendnacDoor.autoSame
