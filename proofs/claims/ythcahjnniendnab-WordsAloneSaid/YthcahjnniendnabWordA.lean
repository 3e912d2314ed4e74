/-
  words.Check: words that may be.
-/
import Derived.Test.YthcahjnniendnabClsC
import Derived.Test.YthcahjnniendnabGStep
import Derived.Test.YthcahjnniendnabHas
import Derived.Test.YthcahjnniendnabPi
import Derived.Test.YthcahjnniendnabStrs
namespace Go.Proofs.Ythcahjnniendnab
open Go.RowKit Wf

theorem emp_list (s : ByteArray) : s.toList.isEmpty = decide (s.size = 0) := by
  rw [ByteArray.toList_eq, Bool.eq_iff_iff, decide_eq_true_eq, sz_list, List.isEmpty_iff_length_eq_zero]

set_option maxRecDepth 100000 in
set_option maxHeartbeats 4000000 in
theorem WCheck_any (l : List ByteArray) (v : Value) (w : World) (hr : Rd1 w v (strVals l)) (hlen : l.length ≤ 9223372036854775807) (hsz : ∀ s ∈ l, s.size ≤ 9223372036854775807) : Calls Try.prog 24 #[v] w (ErrIs (chkW l) w) := by
  obtain ⟨A, cap, rfl, hcap, hcap2, hmem⟩ := str_open hr
  have HM := Lib.hid hmem
  have HSZ := Lib.hid hsz
  clear hmem hr hsz
  by_cases hbig : 20 < l.length
  · have hc : chkW l = 3 := by unfold chkW; rw [if_pos hbig]
    have d1 : decide ((20 : Int) < (l.length : Int)) = true := by simp; omega
    have d2 : decide (20 < l.length) = true := by simp; omega
    rw [hc]
    clear hc
    go_enter Try.func24, Try.ntmps24
    go_wp2
    go_ret
    exact ⟨rfl, Below.refl _ _⟩
  · have d1 : decide ((20 : Int) < (l.length : Int)) = false := by simp; omega
    have d2 : decide (20 < l.length) = false := by simp; omega
    have HC : Hid (chkW l = chkWL l 0 (l.drop 0)) := Lib.hid (by unfold chkW; rw [if_neg hbig, List.drop_zero])
    go_enter Try.func24, Try.ntmps24
    go_wp2
    go_loopw [11] (fun v11 wr => ∃ k : Nat, k ≤ l.length ∧ v11 = .int .i64 (k : Int) ∧ Hid (chkW l = chkWL l k (l.drop k)) ∧ Hid (Below w.heap.size w wr)) (fun i _ => l.length - (intOf i).toNat)
    case atStart => exact ⟨0, by omega, rfl, HC, Lib.hid (Below.refl _ _)⟩
    case round =>
      obtain ⟨k, hk, rfl, HD, HB⟩ := hrel
      by_cases hlt : k < l.length
      · obtain ⟨b, off, rfl, hbl, hcells⟩ := HM.out (by omega)
        have hs : l[k]? = some (l[k]'hlt) := List.getElem?_eq_getElem hlt
        generalize l[k]'hlt = s at hs
        have hcl := hcells wr (fun o => HB.out.cell (p := ⟨b, o, none⟩) hbl)
        have q0 := hcl k s hs
        have hat := chkWL_at hs rfl
        have HAT := Lib.hid hat
        have HCL := Lib.hid hcl
        have hss := HSZ.out s (List.mem_of_getElem? hs)
        have hk1 : (k : Int) < (l.length : Int) := by omega
        clear hcl hcells hs hat
        by_cases h1 : s.size = 0 ∨ 20 < s.size
        · have HV : Hid (chkW l = 5) := Lib.hid (by rw [HD.out, HAT.out, oneW_bad h1]; rfl)
          by_cases h2 : s.size = 0
          · have e2 : s.toList.isEmpty = true := by rw [emp_list]; simp [h2]
            clear h1 HAT
            go_wp2
            go_ret
            exact ⟨by rw [HV.out]; rfl, HB.out⟩
          · have e2 : s.toList.isEmpty = false := by rw [emp_list]; simp [h2]
            have e3 : decide ((20 : Int) < (s.size : Int)) = true := by simp; omega
            clear h1 h2 HAT
            go_wp2
            go_ret
            exact ⟨by rw [HV.out]; rfl, HB.out⟩
        · have e2 : s.toList.isEmpty = false := by rw [emp_list]; exact decide_eq_false (fun h => h1 (.inl h))
          have e3 : decide ((20 : Int) < (s.size : Int)) = false := by simp; omega
          by_cases hm : s ∈ l.take k
          · have HV : Hid (chkW l = 6) := Lib.hid (by rw [HD.out, HAT.out, oneW_in h1 hm]; rfl)
            have HM2 := Lib.hid hm
            clear h1 hm HAT
            go_wp2_with (go_at_call 35; refine (Has_c b off k cap l s _ hk (by omega) HCL.out).mono ?_; rintro e w2 ⟨r, rfl, hrr, rfl⟩; obtain rfl : r = true := hrr.2 HM2.out; clear hrr)
            go_ret
            exact ⟨by rw [HV.out]; rfl, HB.out⟩
          · have HV : Hid (chkW l = chkWL l (k + 1) (l.drop (k + 1))) := Lib.hid (by rw [HD.out, HAT.out, oneW_out h1 hm, if_neg (by simp)])
            have HM2 := Lib.hid hm
            clear h1 hm HAT
            go_wp2_with (go_at_call 35; refine (Has_c b off k cap l s _ hk (by omega) HCL.out).mono ?_; rintro e w2 ⟨r, rfl, hrr, rfl⟩; obtain rfl : r = false := (by cases r with | false => rfl | true => exact absurd (hrr.1 rfl) HM2.out); clear hrr)
            exact ⟨⟨k + 1, by omega, by go_num, HV, HB⟩, by simp [intOf]; omega⟩
      · obtain rfl : k = l.length := by omega
        have HF : Hid (chkW l = 0) := Lib.hid (by rw [HD.out, chkWL_end])
        have d4 : decide (l.length < l.length) = false := by simp
        clear HD
        go_wp2
        go_ret
        exact ⟨by rw [HF.out]; rfl, HB.out⟩
end Go.Proofs.Ythcahjnniendnab
