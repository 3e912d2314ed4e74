/-
  Walks of the document's TextOf, partText.
-/
import Derived.Test.YthcahjnniendnacGreatDoorGPrt
import Derived.Test.YthcahjnniendnacGreatDoorGRef
import Derived.Test.YthcahjnniendnacGreatDoorRefU
namespace Go.Proofs.YthcahjnniendnacGreatDoor
open Go.RowKit Wf
set_option linter.unusedVariables false

theorem at_op {l : List Nd} {i : Nat} {u : Rx} (h : At l i u) : ∃ c, l[i]? = some ⟨opT u, c⟩ := by
  cases u with
  | byte c => exact ⟨_, h.byte⟩
  | empty => exact ⟨_, h.empty⟩
  | bgn => exact ⟨_, h.bgn⟩
  | fin => exact ⟨_, h.fin⟩
  | cat a b => exact ⟨_, h.cat.1⟩
  | alt a b => exact ⟨_, h.alt.1⟩
  | star a => exact ⟨_, h.star.1⟩
  | plus a => exact ⟨_, h.plus.1⟩
  | opt a => exact ⟨_, h.opt.1⟩
theorem opT_le (u : Rx) : 1 ≤ opT u ∧ opT u ≤ 9 := by cases u <;> simp [opT]
theorem str_wrap {s : ByteArray} {x : List UInt8} (h : s.data.toList = x) : ((⟨#[40]⟩ : ByteArray) ++ s ++ ⟨#[41]⟩).data.toList = wrapT true x := by
  rw [data_app, data_app, h]; simp [wrapT]
theorem size_of {s : ByteArray} {x : List UInt8} {n : Nat} (h : s.data.toList = x) (hn : x.length ≤ n) : s.size ≤ n := by
  have : s.data.toList.length = s.size := by simp
  rw [h] at this
  omega

set_option maxRecDepth 100000 in
set_option maxHeartbeats 8000000 in
theorem rpart_o (o q : Nat) (sec : Bool) (X : List UInt8) (hX : X.length ≤ 200000) (ho : 1 ≤ o ∧ o ≤ 9) (hq : 3 ≤ q ∧ q ≤ 7) (i n b off cap : Nat) (hi : i < n) (w : World)
    (hT : Calls Tryz.prog 9 #[.slice (some ⟨b, off, none⟩) n cap, .int .i64 (i : Int)] w (StrIs X w)) (hb : b < w.heap.size) (hc : w.cell? ⟨b, off + i * 5, none⟩ = some (.int .i64 (o : Int))) :
    Calls Tryz.prog 33 #[.slice (some ⟨b, off, none⟩) n cap, .int .i64 (q : Int), .int .i64 (i : Int), .bool sec] w (StrIs (wrapT (bndO q o sec) X) w) := by
  have HT := Lib.hid hT
  have HC : Hid (∀ w1, Below w.heap.size w w1 → w1.cell? ⟨b, off + i * 5, none⟩ = some (.int .i64 (o : Int))) := Lib.hid fun w1 h => (h.cell (p := ⟨b, off + i * 5, none⟩) hb).trans hc
  have hi0 : (0 : Int) ≤ (i : Int) := by omega
  have hi1 : (i : Int) < (n : Int) := by omega
  unfold StrIs at HT
  clear hT hc
  obtain ⟨B, hB⟩ : ∃ B, B = bndO q o sec := ⟨_, rfl⟩
  rw [← hB]
  have HB := Lib.hid hB
  clear hB
  unfold StrIs
  by_cases h2 : o = 2
  · subst h2
    have hq' : q = 3 ∨ q = 4 ∨ q = 5 ∨ q = 6 ∨ q = 7 := by omega
    clear ho hq
    rcases hq' with rfl | rfl | rfl | rfl | rfl <;>
    (go_enter Tryz.func33, Tryz.ntmps33
     go_wp2_with fail
     refine HT.out.mono ?_
     rintro e w1 ⟨s, rfl, hs, hb1⟩
     have hc1 := HC.out w1 hb1
     have HBB := Lib.hid hb1
     have HS := Lib.hid hs
     have hsz := size_of hs hX
     clear hb1 hs
     go_wp2_with fail
     go_ret
     first
       | exact ⟨_, rfl, by rw [HB.out, str_wrap HS.out]; rfl, HBB.out⟩
       | exact ⟨_, rfl, by rw [HB.out, HS.out]; rfl, HBB.out⟩)
  · by_cases h4 : o = 4
    · subst h4
      have hq' : q = 3 ∨ q = 4 ∨ q = 5 ∨ q = 6 ∨ q = 7 := by omega
      clear ho hq h2
      cases sec <;> rcases hq' with rfl | rfl | rfl | rfl | rfl <;>
      (go_enter Tryz.func33, Tryz.ntmps33
       go_wp2_with fail
       refine HT.out.mono ?_
       rintro e w1 ⟨s, rfl, hs, hb1⟩
       have hc1 := HC.out w1 hb1
       have HBB := Lib.hid hb1
       have HS := Lib.hid hs
       have hsz := size_of hs hX
       clear hb1 hs
       go_wp2_with fail
       go_ret
       first
         | exact ⟨_, rfl, by rw [HB.out, str_wrap HS.out]; rfl, HBB.out⟩
         | exact ⟨_, rfl, by rw [HB.out, HS.out]; rfl, HBB.out⟩)
    · by_cases h3 : o = 3
      · subst h3
        have hq' : q = 3 ∨ q = 4 ∨ q = 5 ∨ q = 6 ∨ q = 7 := by omega
        clear ho hq h2 h4
        cases sec <;> rcases hq' with rfl | rfl | rfl | rfl | rfl <;>
        (go_enter Tryz.func33, Tryz.ntmps33
         go_wp2_with fail
         refine HT.out.mono ?_
         rintro e w1 ⟨s, rfl, hs, hb1⟩
         have hc1 := HC.out w1 hb1
         have HBB := Lib.hid hb1
         have HS := Lib.hid hs
         have hsz := size_of hs hX
         clear hb1 hs
         go_wp2_with fail
         go_ret
         first
           | exact ⟨_, rfl, by rw [HB.out, str_wrap HS.out]; rfl, HBB.out⟩
           | exact ⟨_, rfl, by rw [HB.out, HS.out]; rfl, HBB.out⟩)
      · have d2 : ((o : Int) == 2) = false := by simp; omega
        have d3 : ((o : Int) == 3) = false := by simp; omega
        have d4 : ((o : Int) == 4) = false := by simp; omega
        have HB2 : Hid (B = false) := Lib.hid (by rw [HB.out]; unfold bndO; rw [if_neg h2, if_neg h4, if_neg h3])
        clear h2 h3 h4
        go_enter Tryz.func33, Tryz.ntmps33
        go_wp2_with fail
        refine HT.out.mono ?_
        rintro e w1 ⟨s, rfl, hs, hb1⟩
        have hc1 := HC.out w1 hb1
        have HBB := Lib.hid hb1
        have HS := Lib.hid hs
        have hsz := size_of hs hX
        clear hb1 hs
        go_wp2_with fail
        go_ret
        exact ⟨_, rfl, by rw [HB2.out, HS.out]; rfl, HBB.out⟩
end Go.Proofs.YthcahjnniendnacGreatDoor
