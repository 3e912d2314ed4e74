/-
  The walk of the document's closed, by what Reach does at the part.
-/
import Derived.Test.YthcahjnniendnabDoorReachA
import Derived.Test.YthcahjnniendnabDoorRefC
import Derived.BigQuiet
namespace Go.Proofs.YthcahjnniendnabDoor
open Go.RowKit Wf

/-- Reach does what it ought at a part. -/
def ReachAt (l : List Nd) (b off cap : Nat) (s : ByteArray) (u : Rx) (i : Nat) : Prop := ∀ (w : World) (g : Nat) (D : Nat → Bool), RdN w (.slice (some ⟨b, off, none⟩) l.length cap) l → RB w g (s.size + 1) D →
  Calls Tryd.prog 57 #[.slice (some ⟨b, off, none⟩) l.length cap, .int .i64 (i : Int), .string s, .slice (some ⟨g, 0, none⟩) (s.size + 1) (s.size + 1)] w (NewB (s.size + 1) (ToD (Fits s.data.toList u) (s.size + 1) D) w)

set_option maxRecDepth 100000 in
set_option maxHeartbeats 8000000 in
theorem closed_any (l : List Nd) (b off cap : Nat) (s : ByteArray) (hs : s.size ≤ 400) (u : Rx) (i : Nat) (hR : ReachAt l b off cap s u i) (w : World) (g : Nat) (D : Nat → Bool) (hr : RdN w (.slice (some ⟨b, off, none⟩) l.length cap) l) (hg : RB w g (s.size + 1) D) :
    Calls Tryd.prog 90 #[.slice (some ⟨b, off, none⟩) l.length cap, .int .i64 (i : Int), .string s, .slice (some ⟨g, 0, none⟩) (s.size + 1) (s.size + 1)] w (NewB (s.size + 1) (ToD (Star (Fits s.data.toList u)) (s.size + 1) D) w) := by
  have hBD : ∀ x y, Fits s.data.toList u x y → x < s.size + 1 → y < s.size + 1 := fun x y h hx => by
    have := (fits_bound s.data.toList u x y h (by simp; omega)).2
    simp at this
    omega
  have hN : s.size + 1 ≤ 401 := by omega
  unfold ReachAt at hR
  clear hs
  generalize s.size + 1 = N at *
  have HR := Lib.hid hR
  have HRD := Lib.hid hr
  have HG := Lib.hid hg
  have HBD := Lib.hid hBD
  clear hR hr hg hBD
  go_enter Tryd.func90, Tryd.ntmps90
  go_wp2_with fail
  go_loopg [3] (N + 1) (fun gk v3 wr => ∃ (g : Nat) (Df : Nat → Bool), v3 = .slice (some ⟨g, 0, none⟩) N N ∧ Hid (RB wr g N Df) ∧ Hid (Part (Fits s.data.toList u) N D Df) ∧ Hid (Below w.heap.size w wr) ∧ Hid (N - cntD N Df < gk))
  case atStart => exact ⟨g, D, rfl, HG, Lib.hid (Part.start _ _ _), Lib.hid (Below.refl _ _), Lib.hid (by omega)⟩
  case round =>
    obtain ⟨g, Df, rfl, hG, hP, hB, hM⟩ := hrel
    go_wp2_with fail
    refine (HR.out wr g Df (HRD.out.below hB.out) hG.out).mono ?_
    rintro e w1 ⟨g1, Dn, rfl, hg1, hto, hb1⟩
    have HG1 := Lib.hid hg1
    have HTO := Lib.hid hto
    have HGa := Lib.hid (hG.out.below (hb1.mono (Nat.le_refl _)))
    have HB1 := Lib.hid (hB.out.trans (hb1.mono hB.out.size))
    clear hg1 hto hb1 hG hB
    go_wp2_with fail
    refine (joined_any g g1 N (by omega) Df Dn w1 HGa.out HG1.out).mono ?_
    rintro e w2 ⟨g2, rfl, hg2, hb2⟩
    have HG2 := Lib.hid hg2
    have HGb := Lib.hid (HGa.out.below hb2)
    have HB2 := Lib.hid (HB1.out.trans (hb2.mono HB1.out.size))
    clear hg2 hb2 HGa HG1 HB1
    go_wp2_with fail
    go_loopw [10, 11] (fun v10 v11 wx => ∃ (k : Nat) (x : Bool), k ≤ N ∧ v11 = .int .i64 (k : Int) ∧ v10 = .bool x ∧ Hid (x = true ↔ ∀ j, j < k → (Df j || Dn j) = Df j) ∧ Hid (RB wx g2 N (fun j => Df j || Dn j)) ∧ Hid (RB wx g N Df) ∧ Hid (Below w.heap.size w wx)) (fun _ i _ => N - (intOf i).toNat)
    case atStart => exact ⟨0, true, by omega, rfl, rfl, Lib.hid ⟨fun _ j hj => by omega, fun _ => rfl⟩, HG2, HGb, HB2⟩
    case round =>
      clear HG2 HGb HB2
      obtain ⟨k, x, hk, rfl, rfl, hX, hG2, hG, hB⟩ := hrel
      by_cases hlt : k < N
      · have y1 := hG2.out.cell hlt
        have y2 := hG.out.cell hlt
        have hk1 : (k : Int) < (N : Int) := by omega
        have hk0 : (0 : Int) ≤ (k : Int) := by omega
        have hd := below_drewN (Below.refl wr.heap.size wr) 
        obtain ⟨y, hy⟩ : ∃ y, y = (Df k || Dn k) := ⟨_, rfl⟩
        obtain ⟨z, hz⟩ : ∃ z, z = Df k := ⟨_, rfl⟩
        rw [← hy] at y1
        rw [← hz] at y2
        have hnext : ∀ x', (x' = true ↔ x = true ∧ y = z) → Hid (x' = true ↔ ∀ j, j < k + 1 → (Df j || Dn j) = Df j) := fun x' h => Lib.hid (by
          rw [h, hX.out]
          constructor
          · rintro ⟨h1, h2⟩ j hj
            by_cases e : j = k
            · subst e; rw [← hy, ← hz]; exact h2
            · exact h1 j (by omega)
          · intro h1
            exact ⟨fun j hj => h1 j (by omega), by rw [hy, hz]; exact h1 k (by omega)⟩)
        have HNX := Lib.hid hnext
        clear hnext hy hz hX
        cases x with
        | false =>
          go_wp2_with fail
          go_quiet (fail)
          go_wp2
          go_roundw
          case rel => exact ⟨k + 1, false, by omega, by go_num, rfl, HNX.out false (by simp), Lib.hid (hG2.out.below (hd _)), Lib.hid (hG.out.below (hd _)), Lib.hid (below_drewN hB.out _)⟩
          case measure => simp [intOf]; omega
        | true =>
          have HE := Lib.hid (HNX.out (y == z) (by simp))
          clear HNX
          cases y <;> cases z
          all_goals
            go_wp2_with fail
            go_quiet (fail)
            go_wp2
            go_roundw
            case rel => exact ⟨k + 1, _, by omega, by go_num, rfl, HE.out, Lib.hid (hG2.out.below (hd _)), Lib.hid (hG.out.below (hd _)), Lib.hid (below_drewN hB.out _)⟩
            case measure => simp [intOf]; omega
      · obtain rfl : k = N := by omega
        cases x with
        | true =>
          have hall := hX.out.1 rfl
          have HALL := Lib.hid hall
          clear hall hX
          go_wp2
          go_ret
          exact ⟨g2, _, rfl, hG2.out, Part.done hP.out HTO.out HBD.out HALL.out, hB.out⟩
        | false =>
          have hno : ∃ j, j < k ∧ (Df j || Dn j) ≠ Df j := Classical.byContradiction fun hn => by
            have := hX.out.2 fun j hj => Classical.byContradiction fun h => hn ⟨j, hj, h⟩
            cases this
          have HNO := Lib.hid hno
          have HP2 := Lib.hid (Part.step hP.out HTO.out)
          clear hno hX hP
          go_wp2
          go_roundg (gk - 1)
          case measure => have := hM.out; omega
          case rel =>
            obtain ⟨j, hj, hne⟩ := HNO.out
            have h1 := Part.more hj hne
            have h2 := cntD_le k (fun j => Df j || Dn j)
            have h3 := hM.out
            exact ⟨g2, _, rfl, hG2, HP2, hB, Lib.hid (by omega)⟩

end Go.Proofs.YthcahjnniendnabDoor
