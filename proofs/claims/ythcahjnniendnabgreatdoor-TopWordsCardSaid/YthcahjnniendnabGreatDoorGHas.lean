/-
  Has, WordA.
-/
import Derived.Test.YthcahjnniendnabGreatDoorGCls
import Derived.Test.YthcahjnniendnabGreatDoorGPo
import Derived.Test.YthcahjnniendnabGreatDoorGStep
import Derived.Test.YthcahjnniendnabGreatDoorGSwp
import Derived.Shelf.Slices.Turned
import Derived.Test.YthcahjnniendnabGreatDoorProg
/-
  slices.Contains at rows of texts: the kit's shelf at this program's numbers.
-/
namespace Go.Proofs.YthcahjnniendnabGreatDoor
open Go.Shelf

def ren_layHas : Go.Shelf.Ren := ⟨fun | 109 => 60 | 110 => 35 | n => n, fun | 0 => 0 | 3 => 3 | 4 => 4 | 9 => 9 | 31 => 35 | n => n, fun n => n⟩
theorem layHas : Go.Proofs.Lays.n110 Tryz.prog ren_layHas := {
  mixed := by kernel_rfl
  f109 := Tryz.func60.trans (congrArg some (by kernel_rfl))
  f110 := Tryz.func35.trans (congrArg some (by kernel_rfl))
  t0 := Tryz.underlying0
  a0 := Tryz.isAgg0
  z0 := Tryz.sizeOf0
  v0 := Tryz.zeroValue0
  t3 := Tryz.underlying3
  a3 := Tryz.isAgg3
  z3 := Tryz.sizeOf3
  v3 := Tryz.zeroValue3
  t4 := Tryz.underlying4
  a4 := Tryz.isAgg4
  z4 := Tryz.sizeOf4
  v4 := Tryz.zeroValue4
  t9 := Tryz.underlying9
  a9 := Tryz.isAgg9
  z9 := Tryz.sizeOf9
  v9 := Tryz.zeroValue9
  t31 := Tryz.underlying35
  a31 := Tryz.isAgg35
  z31 := Tryz.sizeOf35
  v31 := Tryz.zeroValue35 }


/-- slices.Contains at rows of texts. -/
theorem Has_c (b off n c : Nat) (zs : List ByteArray) (x : ByteArray) (w : World) (hz : n ≤ zs.length) (hbig : n ≤ 9223372036854775807) (hc : ∀ (j : Nat) (z : ByteArray), zs[j]? = some z → w.cell? ⟨b, off + j, none⟩ = some (.string z)) :
    Calls Tryz.prog 35 #[.slice (some ⟨b, off, none⟩) n c, .string x] w (fun e w' => ∃ r : Bool, e = .returned (.bool r) ∧ (r = true ↔ x ∈ zs.take n) ∧ w = w') := by
  refine (Any.slices_Contains_string layHas b off n c zs x w hz hbig (fun j hj => ?_)).mono ?_
  · exact hc j _ (by rw [List.getElem?_eq_getElem hj]; simp [List.getD, List.getElem?_eq_getElem hj])
  · rintro e w' ⟨rfl, rfl⟩
    exact ⟨_, rfl, Lib.containsS_iff _ _, rfl⟩
theorem Has_none (a : Option Addr) (c : Nat) (x : ByteArray) (w : World) :
    Calls Tryz.prog 35 #[.slice a 0 c, .string x] w (fun e w' => e = .returned (.bool false) ∧ w = w') :=
  (Any.slices_Contains_string_empty layHas a c x w).mono (by rintro e w' ⟨rfl, rfl⟩; exact ⟨rfl, rfl⟩)

end Go.Proofs.YthcahjnniendnabGreatDoor

/-
  words.Check: words that may be.
-/
namespace Go.Proofs.YthcahjnniendnabGreatDoor
open Go.RowKit Wf

theorem emp_list (s : ByteArray) : s.toList.isEmpty = decide (s.size = 0) := by
  rw [ByteArray.toList_eq, Bool.eq_iff_iff, decide_eq_true_eq, sz_list, List.isEmpty_iff_length_eq_zero]

set_option maxRecDepth 100000 in
set_option maxHeartbeats 4000000 in
theorem WCheck_any (l : List ByteArray) (v : Value) (w : World) (hr : Rd1 w v (strVals l)) (hlen : l.length ≤ 9223372036854775807) (hsz : ∀ s ∈ l, s.size ≤ 9223372036854775807) : Calls Tryz.prog 20 #[v] w (ErrIs (chkW l) w) := by
  obtain ⟨A, cap, rfl, hcap, hcap2, hmem⟩ := str_open hr
  have HM := Lib.hid hmem
  have HSZ := Lib.hid hsz
  clear hmem hr hsz
  by_cases hbig : 20 < l.length
  · have hc : chkW l = 3 := by unfold chkW; rw [if_pos hbig]
    have d1 : decide ((20 : Int) < (l.length : Int)) = true := by simp; omega
    have d2 : decide (20 < l.length) = true := by simp; omega
    rw [hc]
    clear hc
    go_enter Tryz.func20, Tryz.ntmps20
    go_wp2
    go_ret
    exact ⟨rfl, Below.refl _ _⟩
  · have d1 : decide ((20 : Int) < (l.length : Int)) = false := by simp; omega
    have d2 : decide (20 < l.length) = false := by simp; omega
    have HC : Hid (chkW l = chkWL l 0 (l.drop 0)) := Lib.hid (by unfold chkW; rw [if_neg hbig, List.drop_zero])
    go_enter Tryz.func20, Tryz.ntmps20
    go_wp2
    go_loopw [11] (fun v11 wr => ∃ k : Nat, k ≤ l.length ∧ v11 = .int .i64 (k : Int) ∧ Hid (chkW l = chkWL l k (l.drop k)) ∧ Hid (Below w.heap.size w wr)) (fun i _ => l.length - (intOf i).toNat)
    case atStart => exact ⟨0, by omega, rfl, HC, Lib.hid (Below.refl _ _)⟩
    case round =>
      obtain ⟨k, hk, rfl, HD, HB⟩ := hrel
      by_cases hlt : k < l.length
      · obtain ⟨b, off, rfl, hbl, hcells⟩ := HM.out (by omega)
        have hs : l[k]? = some (l[k]'hlt) := List.getElem?_eq_getElem hlt
        generalize l[k]'hlt = s at hs
        have hcl := hcells wr (fun o => HB.out.cell (p := ⟨b, o, none⟩) hbl)
        have q0 := hcl k s hs
        have hat := chkWL_at hs rfl
        have HAT := Lib.hid hat
        have HCL := Lib.hid hcl
        have hss := HSZ.out s (List.mem_of_getElem? hs)
        have hk1 : (k : Int) < (l.length : Int) := by omega
        clear hcl hcells hs hat
        by_cases h1 : s.size = 0 ∨ 20 < s.size
        · have HV : Hid (chkW l = 5) := Lib.hid (by rw [HD.out, HAT.out, oneW_bad h1]; rfl)
          by_cases h2 : s.size = 0
          · have e2 : s.toList.isEmpty = true := by rw [emp_list]; simp [h2]
            clear h1 HAT
            go_wp2
            go_ret
            exact ⟨by rw [HV.out]; rfl, HB.out⟩
          · have e2 : s.toList.isEmpty = false := by rw [emp_list]; simp [h2]
            have e3 : decide ((20 : Int) < (s.size : Int)) = true := by simp; omega
            clear h1 h2 HAT
            go_wp2
            go_ret
            exact ⟨by rw [HV.out]; rfl, HB.out⟩
        · have e2 : s.toList.isEmpty = false := by rw [emp_list]; exact decide_eq_false (fun h => h1 (.inl h))
          have e3 : decide ((20 : Int) < (s.size : Int)) = false := by simp; omega
          by_cases hm : s ∈ l.take k
          · have HV : Hid (chkW l = 6) := Lib.hid (by rw [HD.out, HAT.out, oneW_in h1 hm]; rfl)
            have HM2 := Lib.hid hm
            clear h1 hm HAT
            go_wp2_with (go_at_call 35; refine (Has_c b off k cap l s _ hk (by omega) HCL.out).mono ?_; rintro e w2 ⟨r, rfl, hrr, rfl⟩; obtain rfl : r = true := hrr.2 HM2.out; clear hrr)
            go_ret
            exact ⟨by rw [HV.out]; rfl, HB.out⟩
          · have HV : Hid (chkW l = chkWL l (k + 1) (l.drop (k + 1))) := Lib.hid (by rw [HD.out, HAT.out, oneW_out h1 hm, if_neg (by simp)])
            have HM2 := Lib.hid hm
            clear h1 hm HAT
            go_wp2_with (go_at_call 35; refine (Has_c b off k cap l s _ hk (by omega) HCL.out).mono ?_; rintro e w2 ⟨r, rfl, hrr, rfl⟩; obtain rfl : r = false := (by cases r with | false => rfl | true => exact absurd (hrr.1 rfl) HM2.out); clear hrr)
            exact ⟨⟨k + 1, by omega, by go_num, HV, HB⟩, by simp [intOf]; omega⟩
      · obtain rfl : k = l.length := by omega
        have HF : Hid (chkW l = 0) := Lib.hid (by rw [HD.out, chkWL_end])
        have d4 : decide (l.length < l.length) = false := by simp
        clear HD
        go_wp2
        go_ret
        exact ⟨by rw [HF.out]; rfl, HB.out⟩
end Go.Proofs.YthcahjnniendnabGreatDoor
