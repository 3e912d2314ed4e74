/-
  The walk of package winnowfantop's word.
-/
import Derived.Test.YthcahjnniendnabGreatDoorClsA
import Derived.Test.YthcahjnniendnabGreatDoorGWd
import Derived.Test.YthcahjnniendnabGreatDoorPtw
namespace Go.Proofs.YthcahjnniendnabGreatDoor.wordT
open Go.RowKit Wf
set_option linter.unusedVariables false

def WordIs (l : List Nd) (w : World) (e : Ending) (w' : World) : Prop := ∃ A cap, e = .returned (.slice A l.length cap) ∧ OwnN w' w.heap.size (.slice A l.length cap) l ∧ Below w.heap.size w w'
theorem below_ownW {B : Nat} {a w w' : World} {e : TypeId} {size n : Nat} {v : Value} {xs : List Value} (h : Below B a w) (hB : B ≤ w.heap.size) (ho : w.ownsRow B e size v n xs) (hg : w.grownBy w' v.ownBlock) : Below B a w' :=
  ⟨hg.os.trans h.os, hg.tape.trans h.tape, hg.output.trans h.output, Nat.le_trans h.size hg.size, fun i hi =>
    (hg.block i (by omega) (fun e => by have := (ho.lt i e.symm).1; omega)).trans (h.block i hi)⟩
theorem own_slice {w : World} {base : Nat} {v : Value} {l : List Nd} (h : OwnN w base v l) : ∃ A cap, v = .slice A l.length cap := by
  obtain ⟨A, cap, hv, _⟩ := RdN.open_ (Rd.of_own h)
  exact ⟨A, cap, hv⟩
theorem nd_news (W : World) (g : Nat) (hg : W.heap.size = g) (op : Int) (a b c d : Nat) : ∀ (j : Nat) (u : Value), (ndCells ⟨op, a, b, c, d⟩)[j]? = some u →
    (W.alloc (.cells #[.int .i64 op, .int .u64 (a : Int), .int .u64 (b : Int), .int .u64 (c : Int), .int .u64 (d : Int)] 43)).cell? ((⟨g, 0, none⟩ : Addr).add j) = some u := by
  intro j u hu
  subst hg
  rw [add_mk, Nat.zero_add, (Blk.new W _ _).cell]
  simpa [ndCells] using hu
theorem nd_one (n : Nd) : ∀ u ∈ ndCells n, u.oneCell' = true := by
  have := ndCells_one [n]
  simpa using this
theorem own_snoc {w : World} {base m : Nat} {v : Value} {L : List Nd} {n : Nd} (hm : m = L.length) (h : w.ownsRow base 43 5 v (m + 1) (L.flatMap ndCells ++ ndCells n)) : OwnN w base v (L ++ [n]) := by
  subst hm
  unfold OwnN
  rw [List.length_append, List.flatMap_append, List.flatMap_cons, List.flatMap_nil, List.append_nil]
  exact h
theorem wordR_cat {b c : UInt8} {r : List UInt8} : wordR (b :: c :: r) = [⟨3, zc⟩, ⟨1, ofL [b] zc⟩] ++ wordR (c :: r) := by simp [wordR]
theorem wordR_one {b : UInt8} : wordR [b] = [⟨1, ofL [b] zc⟩] := by simp [wordR]

theorem own_kept {w w' : World} {base : Nat} {v : Value} {l : List Nd} (h : OwnN w base v l) (hb : Below w.heap.size w w') : OwnN w' base v l :=
  World.ownsRow.kept (row := none) h ⟨hb.os, hb.tape, hb.output, hb.size, fun i hi _ => hb.block i hi⟩ (by cases hv : v.ownBlock <;> simp)

set_option maxRecDepth 100000 in
set_option maxHeartbeats 8000000 in
theorem word_c (s : ByteArray) (w : World) (hs : s.size ≤ 100000) : Calls Tryz.prog 10 #[.string s] w (WordIs (wordR s.data.toList) w) := by
  obtain ⟨i0, hi0, hz0, hz1, hz2⟩ := info_parts info_node
  have hsz : s.data.toList.length = s.size := by simp
  have HSZ := Lib.hid hsz
  have HO0 : Hid (OwnN w w.heap.size (.slice none 0 0) []) := Lib.hid ⟨by simp, .inl ⟨rfl, rfl⟩⟩
  have HOF := Lib.hid fun (k : Nat) (b : UInt8) (X : ByteArray) (W : World) (hX : X.data.toList = [b]) (hX2 : X.size ≤ 10) => (show Calls Tryz.prog 24 #[.string X] W (ClsIs (ofL [b] zc) W) from hX ▸ Of_any X W (by omega))
  clear hsz
  go_enter Tryz.func10, Tryz.ntmps10
  go_wp2
  go_loopw [3, 4] (fun v3 v4 wr => ∃ (k : Nat) (L : List Nd) (A : Option Addr) (cap : Nat), k ≤ s.size ∧ v4 = .int .i64 (k : Int) ∧ v3 = .slice A L.length cap ∧ L.length ≤ 2 * k ∧ Hid (OwnN wr w.heap.size (.slice A L.length cap) L) ∧ Hid (L ++ wordR (s.data.toList.drop k) = wordR s.data.toList) ∧ Hid (Below w.heap.size w wr)) (fun _ i _ => s.size - (intOf i).toNat)
  case atStart => exact ⟨0, [], none, 0, by omega, rfl, rfl, by simp, HO0, Lib.hid (by simp), Lib.hid (Below.refl _ _)⟩
  case round =>
    obtain ⟨k, L, A, cap, hk, rfl, rfl, hL, HO, HW, HB⟩ := hrel
    by_cases hlt : k < s.size
    · have hget : s.data.toList[k]? = some (s.data.toList[k]'(by rw [HSZ.out]; exact hlt)) := List.getElem?_eq_getElem _
      generalize s.data.toList[k]'(by rw [HSZ.out]; exact hlt) = b at hget
      have hX : (s.extract k (k + 1)).data.toList = [b] := by
        rw [ByteArray.data_extract, Array.toList_extract, List.extract_eq_take_drop, show k + 1 - k = 1 from by omega]
        obtain ⟨hk1, hk2⟩ := List.getElem?_eq_some_iff.1 hget
        rw [List.drop_eq_getElem_cons hk1, hk2]
        rfl
      have hX2 : (s.extract k (k + 1)).size ≤ 10 := by rw [ByteArray.size_extract]; omega
      have hdr : s.data.toList.drop k = b :: s.data.toList.drop (k + 1) := by
        obtain ⟨hk1, hk2⟩ := List.getElem?_eq_some_iff.1 hget
        rw [List.drop_eq_getElem_cons hk1, hk2]
      have HX := Lib.hid hX
      have HD := Lib.hid hdr
      have i1 : (0 : Int) ≤ (k : Int) := by omega
      have i2 : (k : Int) ≤ (k : Int) + 1 := by omega
      have i3 : (k : Int) + 1 ≤ (s.size : Int) := by omega
      clear hget hX hdr
      by_cases hlast : k + 1 < s.size
      · have hdl : decide ((k : Int) < (s.size : Int) - 1) = true := by simp; omega
        go_wp2_with (first
          | (at_builtin; refine wpList_append_own _ rfl (.tmp 16) (.tmp 18) _ rfl w.heap.size 43 i0 _ 5 40 Tryz.underlying22 hi0 hz0 hz1 hz2 rfl (by decide) _ L.length (L.flatMap ndCells) rfl (HO.out.alloc _) ⟨wr.heap.size, 0, none⟩ 1 1 (ndCells ⟨3, 0, 0, 0, 0⟩) rfl rfl (nd_news wr _ rfl 3 0 0 0 0) (nd_one _) (by unfold maxLen; omega) (by omega) (by have := HB.out.size; simp; omega) ?_; intro v1 w1 hown1 hg1 _
             obtain ⟨A1, cap1, rfl⟩ := own_slice (own_snoc rfl hown1)
             have HO1 := Lib.hid (own_snoc rfl hown1)
             have HB1 := Lib.hid (below_ownW ((HB.out.alloc HB.out.size _)) (by have := HB.out.size; simp; omega) (HO.out.alloc _) hg1)
             have hl1 : (L ++ [(⟨3, 0, 0, 0, 0⟩ : Nd)]).length ≤ 2 * k + 1 := (by rw [List.length_append]; show L.length + 1 ≤ _; omega)
             obtain ⟨L1, hL1⟩ : ∃ L1 : List Nd, L1 = L ++ [⟨3, 0, 0, 0, 0⟩] := ⟨_, rfl⟩
             rw [← hL1] at HO1 hl1 ⊢
             have HL1 := Lib.hid hL1
             clear hown1 hg1 hL1 HO HB hL)
          | (go_at_call 24; refine (HOF.out k b _ _ HX.out hX2).mono ?_; rintro e w2 ⟨c0, c1, c2, c3, rfl, hc, hb2⟩
             have HC := Lib.hid hc
             have HO2 := Lib.hid (own_kept HO1.out hb2)
             have HB2 := Lib.hid (HB1.out.trans (hb2.mono HB1.out.size))
             clear hc hb2 HO1 HB1)
          | (at_builtin; refine wpList_append_own _ rfl (.tmp 20) (.tmp 28) _ rfl w.heap.size 43 i0 _ 5 40 Tryz.underlying22 hi0 hz0 hz1 hz2 rfl (by decide) _ L1.length (L1.flatMap ndCells) rfl (HO2.out.alloc _) ⟨w2.heap.size, 0, none⟩ 1 1 (ndCells ⟨1, c0, c1, c2, c3⟩) rfl rfl (nd_news w2 _ rfl 1 c0 c1 c2 c3) (nd_one _) (by unfold maxLen; omega) (by omega) (by have := HB2.out.size; simp; omega) ?_; intro v3 w3 hown3 hg3 _
             obtain ⟨A3, cap3, rfl⟩ := own_slice (own_snoc rfl hown3)
             have HO3 := Lib.hid (own_snoc rfl hown3)
             have HB3 := Lib.hid (below_ownW ((HB2.out.alloc HB2.out.size _)) (by have := HB2.out.size; simp; omega) (HO2.out.alloc _) hg3)
             have hl3 : (L1 ++ [(⟨1, c0, c1, c2, c3⟩ : Nd)]).length ≤ 2 * (k + 1) := (by rw [List.length_append]; show L1.length + 1 ≤ _; omega)
             clear hown3 hg3 HO2 HB2))
        refine ⟨⟨k + 1, L1 ++ [⟨1, c0, c1, c2, c3⟩], A3, cap3, by omega, by go_num, by rw [List.length_append]; rfl, hl3, HO3, Lib.hid ?_, HB3⟩, by simp [intOf]; omega⟩
        obtain ⟨c, r, hr⟩ : ∃ c r, s.data.toList.drop (k + 1) = c :: r := by
          cases hd : s.data.toList.drop (k + 1) with
          | nil => have := congrArg List.length hd; rw [List.length_drop, HSZ.out] at this; simp at this; omega
          | cons c r => exact ⟨c, r, rfl⟩
        have e := HW.out
        rw [HD.out, hr, wordR_cat] at e
        rw [HL1.out, HC.out, hr, ← e]
        simp [zc]
      · have hdl : decide ((k : Int) < (s.size : Int) - 1) = false := by simp; omega
        go_wp2_with (first
          | (go_at_call 24; refine (HOF.out k b _ _ HX.out hX2).mono ?_; rintro e w2 ⟨c0, c1, c2, c3, rfl, hc, hb2⟩
             have HC := Lib.hid hc
             have HO2 := Lib.hid (own_kept HO.out hb2)
             have HB2 := Lib.hid (HB.out.trans (hb2.mono HB.out.size))
             clear hc hb2 HO HB)
          | (at_builtin; refine wpList_append_own _ rfl (.tmp 20) (.tmp 28) _ rfl w.heap.size 43 i0 _ 5 40 Tryz.underlying22 hi0 hz0 hz1 hz2 rfl (by decide) _ L.length (L.flatMap ndCells) rfl (HO2.out.alloc _) ⟨w2.heap.size, 0, none⟩ 1 1 (ndCells ⟨1, c0, c1, c2, c3⟩) rfl rfl (nd_news w2 _ rfl 1 c0 c1 c2 c3) (nd_one _) (by unfold maxLen; omega) (by omega) (by have := HB2.out.size; simp; omega) ?_; intro v3 w3 hown3 hg3 _
             obtain ⟨A3, cap3, rfl⟩ := own_slice (own_snoc rfl hown3)
             have HO3 := Lib.hid (own_snoc rfl hown3)
             have HB3 := Lib.hid (below_ownW ((HB2.out.alloc HB2.out.size _)) (by have := HB2.out.size; simp; omega) (HO2.out.alloc _) hg3)
             have hl3 : (L ++ [(⟨1, c0, c1, c2, c3⟩ : Nd)]).length ≤ 2 * (k + 1) := (by rw [List.length_append]; show L.length + 1 ≤ _; omega)
             clear hown3 hg3 HO2 HB2))
        refine ⟨⟨k + 1, L ++ [⟨1, c0, c1, c2, c3⟩], A3, cap3, by omega, by go_num, by rw [List.length_append]; rfl, hl3, HO3, Lib.hid ?_, HB3⟩, by simp [intOf]; omega⟩
        have hr : s.data.toList.drop (k + 1) = [] := List.drop_of_length_le (by rw [HSZ.out]; omega)
        have e := HW.out
        rw [HD.out, hr, wordR_one] at e
        rw [HC.out, hr, ← e]
        simp [wordR]
    · obtain rfl : k = s.size := by omega
      go_wp2
      go_ret
      have e := HW.out
      rw [List.drop_of_length_le (by rw [HSZ.out]; exact Nat.le_refl _)] at e
      have e2 : L = wordR s.data.toList := by rw [← e]; simp [wordR]
      rw [← e2]
      exact ⟨A, cap, rfl, HO.out, HB.out⟩
end Go.Proofs.YthcahjnniendnabGreatDoor.wordT
