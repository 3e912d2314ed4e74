/-
  Walk of the statement SetFilter.
-/
import Derived.Test.YthcahjnniendnacGreatDoorGAll
import Derived.Test.YthcahjnniendnacGreatDoorGPf
import Derived.Test.YthcahjnniendnacGreatDoorLaw
import Derived.Test.YthcahjnniendnacGreatDoorSetK
namespace Go.Proofs.YthcahjnniendnacGreatDoor.setW
open Go.RowKit Wf
set_option linter.unusedVariables false
theorem hits_form {w : World} {base : Nat} {v : Value} {S : List (Nat × Nat × Nat)} (h : w.ownsRow base 55 3 v S.length (S.flatMap hitCells)) : ∃ A cap, v = .slice A S.length cap := by
  obtain ⟨A, n, cap, rfl, _, _, hl, _⟩ := Rd.of_own h
  rw [hits_len] at hl
  exact ⟨A, cap, by rw [show n = S.length by omega]⟩
theorem items_form {w : World} {base : Nat} {v : Value} {S : List Mb} (h : w.ownsRow base 60 2 v S.length (S.flatMap itCells)) : ∃ A cap, v = .slice A S.length cap := by
  obtain ⟨A, n, cap, rfl, _, _, hl, _⟩ := Rd.of_own h
  rw [it_len] at hl
  exact ⟨A, cap, by rw [show n = S.length by omega]⟩
end Go.Proofs.YthcahjnniendnacGreatDoor.setW
namespace Go.Proofs.YthcahjnniendnacGreatDoor.setFilter
open Go.RowKit Wf setW
open law (LawIs)
set_option linter.unusedVariables false

set_option maxRecDepth 100000 in
set_option maxHeartbeats 16000000 in
theorem walk {ev : Value} (l : List Stp) (v : Value) (t : ByteArray) (w : World) (hr : setW.RdT w v l) (hok : ∀ x ∈ l, okStp x) (ht : t.size ≤ maxLen) (hev : SynE ev w) :
    Calls Tryz.prog 6 #[v, .string t] w (LawIs w) := by
  unfold maxLen at ht
  have HR := Lib.hid hr
  have HOK := Lib.hid hok
  have HEV := Lib.hid hev
  have HNEW := Lib.hid fun W => New_set W
  obtain ⟨A0, cap0, rfl, _, _, _⟩ := stp_open hr
  clear hr hok hev
  unfold NewSet at HNEW
  unfold LawIs
  go_enter Tryz.func6, Tryz.ntmps6
  go_wp2_with fail
  refine (HNEW.out w).mono ?_
  rintro e w1 ⟨rfl, h1, hb1⟩
  have HADD : Hid (Calls Tryz.prog 17 #[.pointer (some ⟨w.heap.size, 0, none⟩), .string ⟨#[97, 98, 42]⟩] w1 (fun e w' => e = .returned (.tuple #[.int .i64 1, .int .i64 0, .nilIface]) ∧ ∃ ml A, SetAt w.heap.size w.heap.size (oneM bAB tAB false 0) ml A w' ∧ SK w.heap.size w.heap.size w1 w')) := Lib.hid (by
    have := Add_set w.heap.size w.heap.size SS.zero [] (.slice none 0 0) bAB w1 h1 (HEV.out.below hb1) (by decide)
    unfold SetTo addV at this
    rw [(zero_add parse_ab).2, (zero_add parse_ab).1] at this
    exact this)
  have HB1 := Lib.hid hb1
  clear h1 hb1
  go_wp2_with fail
  refine HADD.out.mono ?_
  rintro e w2 ⟨rfl, ml2, A2, h2, k2⟩
  have HFI := Lib.hid (Filter_set w.heap.size w.heap.size _ ml2 A2 true w2 h2)
  unfold SetIs at HFI
  have HB2 := Lib.hid (HB1.out.trans k2.bel)
  clear h2 k2 HADD HB1
  go_wp2_with fail
  refine HFI.out.mono ?_
  rintro e w3 ⟨rfl, ml3, A3, h3, k3⟩
  have h3' : SetAt w.heap.size w.heap.size (oneM bAB tAB true 0) ml3 A3 w3 := h3
  have HSC : Hid (Calls Tryz.prog 18 #[.pointer (some ⟨w.heap.size, 0, none⟩), .string ⟨#[99, 99]⟩] w3 (fun e w' => ∃ A cap ml A', e = .returned (.tuple #[.slice A 0 cap, .nilIface]) ∧ SetAt w.heap.size w.heap.size (oneM bAB tAB true 0) ml A' w' ∧ SK w.heap.size w.heap.size w3 w')) := Lib.hid (by
    refine (Scan_ok w.heap.size w.heap.size _ ml3 A3 ⟨#[99, 99]⟩ w3 h3' (by decide)).mono ?_
    rintro e w' ⟨v, ml, A, rfl, ho, hs, hk⟩
    rw [show (⟨#[99, 99]⟩ : ByteArray).data.toList = [99, 99] from rfl, cc_hits] at ho
    rw [show (⟨#[99, 99]⟩ : ByteArray).data.toList = [99, 99] from rfl, cc_tried] at hs
    obtain ⟨Av, cv, rfl⟩ := hits_form (S := []) ho
    exact ⟨Av, cv, ml, A, rfl, hs, hk⟩)
  have HB3 := Lib.hid (HB2.out.trans k3.bel)
  clear h3 h3' k3 HFI HB2
  go_wp2_with fail
  refine HSC.out.mono ?_
  rintro e w4 ⟨A4, c4, ml4, A4', rfl, h4, k4⟩
  have HTR := Lib.hid (Tried_set w.heap.size w.heap.size _ ml4 A4' w4 h4)
  have HB4 := Lib.hid (HB3.out.trans k4.bel)
  have HSD : Hid (Calls Tryz.prog 18 #[.pointer (some ⟨w.heap.size, 0, none⟩), .string ⟨#[97, 98]⟩] w4 (fun e w' => ∃ A cap, e = .returned (.tuple #[.slice A 1 cap, .nilIface]) ∧ SK w.heap.size w.heap.size w4 w')) := Lib.hid (by
    refine (Scan_ok w.heap.size w.heap.size _ ml4 A4' ⟨#[97, 98]⟩ w4 h4 (by decide)).mono ?_
    rintro e w' ⟨v, ml, A, rfl, ho, hs, hk⟩
    rw [show (⟨#[97, 98]⟩ : ByteArray).data.toList = [97, 98] from rfl, ab_hits] at ho
    obtain ⟨Av, cv, rfl⟩ := hits_form (S := [(1, 0, 2)]) ho
    exact ⟨Av, cv, rfl, hk⟩)
  unfold oneM at HTR
  dsimp only at HTR
  clear h4 k4 HSC HB3
  go_wp2_with fail
  refine HTR.out.mono ?_
  rintro e w5 ⟨rfl, rfl⟩
  go_wp2_with fail
  refine HSD.out.mono ?_
  rintro e w6 ⟨A6, c6, rfl, k6⟩
  have HB6 := Lib.hid (HB4.out.trans k6.bel)
  clear k6 HSD HTR HB4
  go_wp2_with fail
  refine (HNEW.out w6).mono ?_
  rintro e w7 ⟨rfl, h7, hb7⟩
  have HB7 := Lib.hid (HB6.out.trans (hb7.mono HB6.out.size))
  have HPL := Lib.hid (play_c w6.heap.size w6.heap.size SS.zero [] (.slice none 0 0) l _ w w7 h7 HEV.out HR.out HOK.out (by decide) HB7.out HB6.out.size)
  unfold PlayTo at HPL
  have HQ6 := Lib.hid HB6.out.size
  clear h7 hb7 HB6
  generalize w6.heap.size = B at *
  go_wp2_with fail
  refine HPL.out.mono ?_
  rintro e w8 ⟨rfl, ml8, A8, h8, k8⟩
  generalize SS.zero.play (l.take 30) = M at h8
  have HFI := Lib.hid (Filter_set B B M ml8 A8 false w8 h8)
  unfold SetIs at HFI
  have HB8 := Lib.hid (HB7.out.trans (k8.bel.mono HQ6.out))
  clear h8 k8 HPL HB7
  go_wp2_with fail
  refine HFI.out.mono ?_
  rintro e w9 ⟨rfl, ml9, A9, h9, k9⟩
  have HB9 := Lib.hid (HB8.out.trans (k9.bel.mono HQ6.out))
  obtain ⟨M2, hM2⟩ : ∃ M2 : SS, M2 = { M with on := false } := ⟨_, rfl⟩
  rw [← hM2] at h9
  have HM2 := Lib.hid hM2
  clear k9 HFI HB8 hM2
  by_cases hs4 : t.size ≤ 400
  · have HSC := Lib.hid (Scan_ok B B M2 ml9 A9 t w9 h9 hs4)
    unfold ScanIs at HSC
    have HS4 := Lib.hid hs4
    clear h9 hs4
    go_wp2_with fail
    refine HSC.out.mono ?_
    rintro e w10 ⟨vx, ml10, A10, rfl, ho10, h10, k10⟩
    obtain ⟨HL, hHL⟩ : ∃ HL, HL = M2.hits t.data.toList := ⟨_, rfl⟩
    rw [← hHL] at ho10
    obtain ⟨Ax, cx, rfl⟩ := hits_form ho10
    have HTR := Lib.hid (Tried_set B B _ ml10 A10 w10 h10)
    have HFI := Lib.hid (Filter_set B B _ ml10 A10 true w10 h10)
    unfold SetIs at HFI
    obtain ⟨a, ha⟩ : ∃ a, a = (M2.scan t.data.toList).tried := ⟨_, rfl⟩
    rw [← ha] at HTR
    have HA := Lib.hid ha
    have HHL := Lib.hid hHL
    have HX10 := Lib.hid (And.intro ho10 h10)
    have HB10 := Lib.hid (HB9.out.trans (k10.bel.mono HQ6.out))
    clear ho10 h10 k10 ha hHL HSC HB9
    go_wp2_with fail
    refine HTR.out.mono ?_
    rintro e w11 ⟨rfl, rfl⟩
    go_wp2_with fail
    refine HFI.out.mono ?_
    rintro e w12 ⟨rfl, ml12, A12, h12, k12⟩
    obtain ⟨M4, hM4⟩ : ∃ M4 : SS, M4 = { M2.scan t.data.toList with on := true } := ⟨_, rfl⟩
    rw [← hM4] at h12
    have HM4 := Lib.hid hM4
    have HX12 := Lib.hid (own_sk HX10.out.1 k12 (by decide) (own_not HX10.out.1 HX10.out.2.blk (by decide)))
    have HSC := Lib.hid (Scan_ok B B M4 ml12 A12 t w12 h12 HS4.out)
    have HS12 := Lib.hid h12
    unfold ScanIs at HSC
    have HB12 := Lib.hid (HB10.out.trans (k12.bel.mono HQ6.out))
    clear h12 k12 hM4 HTR HFI HB10 HX10
    go_wp2_with fail
    refine HSC.out.mono ?_
    rintro e w13 ⟨vy, ml13, A13, rfl, ho13, h13, k13⟩
    have hsame : M4.hits t.data.toList = HL := by rw [HHL.out]; exact hits_same _ _ _ (by rw [HM4.out]; exact scan_ms _ _)
    rw [hsame] at ho13
    obtain ⟨Ay, cy, rfl⟩ := hits_form ho13
    have HX13 := Lib.hid (own_sk HX12.out k13 (by decide) (own_not HX12.out HS12.out.blk (by decide)))
    have HTR := Lib.hid (Tried_set B B _ ml13 A13 w13 h13)
    obtain ⟨b, hb⟩ : ∃ b, b = (M4.scan t.data.toList).tried := ⟨_, rfl⟩
    rw [← hb] at HTR
    have hsl : t.data.toList.length ≤ 400 := by have := HS4.out; simpa using this
    have hM2m : M2.ms = M.ms := by rw [HM2.out]
    have hM4m : M4.ms = M.ms := by rw [HM4.out]; exact (scan_ms _ _).trans hM2m
    have han : a = M.ms.length := by
      rw [HA.out]
      unfold SS.scan
      rw [if_pos hsl]
      show (M2.tries _).length = _
      rw [tries_off _ _ (by rw [HM2.out]), hM2m]
    have hbn : b ≤ M.ms.length := by
      rw [hb]
      unfold SS.scan
      rw [if_pos hsl]
      show (M4.tries _).length ≤ _
      rw [← hM4m]
      exact tries_le _ _
    have HLI := Lib.hid (List_set B B _ ml13 A13 w13 h13)
    unfold ItemsAre at HLI
    have hM5 : (M4.scan t.data.toList).ms = M.ms := (scan_ms _ _).trans hM4m
    rw [hM5] at HLI
    have HHI := Lib.hid fun W (hbw : Below w13.heap.size w13 W) => Hits_any HL HL _ _ W (Rd.below (Rd.of_own HX13.out) hbw) (Rd.below (Rd.of_own ho13) hbw)
    have HS13 := Lib.hid h13
    have HB13 := Lib.hid (HB12.out.trans (k13.bel.mono HQ6.out))
    have HHI0 := Lib.hid (HHI.out w13 (Below.refl _ _))
    unfold HitsSame at HHI0
    have HLI2 := Lib.hid fun W (hbw : Below w13.heap.size w13 W) => List_set B B _ ml13 A13 W (HS13.out.below hbw)
    unfold ItemsAre at HLI2
    rw [hM5] at HLI2
    have hdle : decide (b ≤ a) = true := by simp; omega
    have haeq : ((a : Int) == (M.ms.length : Int)) = true := by rw [han]; simp
    clear ho13 h13 k13 hsame hb hsl hM2m hM4m han hbn hM5 HHI HLI HSC HB12 HX12 HS12 HX13
    go_wp2_with fail
    refine HTR.out.mono ?_
    rintro e w14 ⟨rfl, rfl⟩
    go_wp2_with fail
    refine HHI0.out.mono ?_
    rintro e w15 ⟨r, rfl, hrr, hb15⟩
    obtain rfl : r = true := by first | exact hrr.2 trivial | exact hrr.2 rfl
    have HLI3 := Lib.hid (HLI2.out w15 hb15)
    have HB15 := Lib.hid (HB13.out.trans (hb15.mono HB13.out.size))
    clear hb15 hrr HLI2 HHI0 HB13 HTR
    go_wp2_with fail
    refine HLI3.out.mono ?_
    rintro e w16 ⟨vi, rfl, hoi, hb16⟩
    obtain ⟨Ai, ci, rfl⟩ := items_form hoi
    have HB16 := Lib.hid (HB15.out.trans (hb16.mono HB15.out.size))
    clear hoi hb16 HLI3
    go_wp2_with fail
    go_ret
    exact ⟨rfl, HB16.out⟩
  · have HSC := Lib.hid fun W ml A (M : SS) (h : SetAt B B M ml A W) => Scan_long B B M ml A t W h (by omega)
    rw [errV_ne (by decide)] at HSC
    have HSC0 := Lib.hid (HSC.out _ _ _ _ h9)
    have HTR := Lib.hid (Tried_set B B _ ml9 A9 w9 h9)
    have HFI := Lib.hid (Filter_set B B _ ml9 A9 true w9 h9)
    unfold SetIs at HFI
    clear h9 hs4
    go_wp2_with fail
    refine HSC0.out.mono ?_
    rintro e w10 ⟨rfl, rfl⟩
    go_wp2_with fail
    refine HTR.out.mono ?_
    rintro e w11 ⟨rfl, rfl⟩
    go_wp2_with fail
    refine HFI.out.mono ?_
    rintro e w12 ⟨rfl, ml12, A12, h12, k12⟩
    have HB12 := Lib.hid (HB9.out.trans (k12.bel.mono HQ6.out))
    have HSC1 := Lib.hid (HSC.out _ _ _ _ h12)
    have HTR1 := Lib.hid (Tried_set B B _ ml12 A12 w12 h12)
    clear h12 k12 HFI HTR HSC HSC0 HB9
    go_wp2_with fail
    refine HSC1.out.mono ?_
    rintro e w13 ⟨rfl, rfl⟩
    go_wp2_with fail
    refine HTR1.out.mono ?_
    rintro e w14 ⟨rfl, rfl⟩
    go_wp2_with fail
    go_ret
    exact ⟨rfl, HB12.out⟩
end Go.Proofs.YthcahjnniendnacGreatDoor.setFilter
