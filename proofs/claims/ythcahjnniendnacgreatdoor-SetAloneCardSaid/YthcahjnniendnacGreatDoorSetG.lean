/-
  words.Net.Each with the function of package set's there.
-/
import Derived.Test.YthcahjnniendnacGreatDoorGEach
namespace Go.Proofs.YthcahjnniendnacGreatDoor.setW
open Go.RowKit Wf

/-- The function that Each calls: it takes each word that ends at a place. -/
structure DoS (ws : List (List UInt8)) (J : List (Nat × Nat) → World → Prop) (nt : Nat) (c1 c2 : Value) : Prop where
  below : ∀ done W W', J done W → Below W.heap.size W W' → J done W'
  call : ∀ done W i e, J done W → (∃ x, ws[i]? = some x ∧ x.length ≤ e) → e ≤ nt → done.length ≤ ws.length * nt → Calls Tryz.prog 71 #[.int .i64 ((i : Nat) : Int), .int .i64 ((e : Nat) : Int), c1, c2] W (fun en w' => en = .returned (.tuple #[]) ∧ J (done ++ [(i, e)]) w' ∧ IntKeep W w')

set_option maxRecDepth 100000 in
set_option maxHeartbeats 8000000 in
theorem EachS_c (w0 : World) (Nb : Nat) (wv : Value) (root : Kn) (ws : List (List UInt8)) (Ks : List Kn) (ch : Kn → List (Nat × Value)) (bk ev : Kn → Value) (h1 : ws.length ≤ 20) (s : ByteArray) (hs : s.size ≤ 400) (c1 c2 : Value)
    (J : List (Nat × Nat) → World → Prop) (hT : ∀ done W, J done W → Tied w0 Nb wv root ws Ks ch bk ev W) (hD : DoS ws J s.size c1 c2) (w : World) (h0 : J [] w) :
    Calls Tryz.prog 70 #[.pointer (some ⟨Nb, 0, none⟩), .string s, .func (.func 71) #[] #[c1, c2]] w (fun e w' => e = .returned (.tuple #[]) ∧ J (toldTo ws s.data.toList s.size) w') := by
  have HT := Lib.hid hT
  have HD := Lib.hid hD
  have hw := hT _ _ h0
  have n0 : w.cell? ⟨Nb, 0, none⟩ = some (.pointer (some ⟨root.b, 0, none⟩)) := hw.net.net.cell 0
  have HST : Hid (root ∈ Ks ∧ LongSuf ws (s.data.toList.take 0) root.u) := Lib.hid ⟨hw.net.rt, by rw [hw.net.ru, List.take_zero]; exact LongSuf.nil ws⟩
  have H0 := Lib.hid h0
  clear hT hD hw h0
  go_enter Tryz.func70, Tryz.ntmps70
  go_wp2_with fail
  go_loopw [6, 16] (fun v6 v16 wr => ∃ (i : Nat) (k : Kn), i ≤ s.size ∧ v6 = .pointer (some ⟨k.b, 0, none⟩) ∧ v16 = .int .i64 (i : Int) ∧ Hid (k ∈ Ks ∧ LongSuf ws (s.data.toList.take i) k.u) ∧ Hid (J (toldTo ws s.data.toList i) wr)) (fun _ i _ => s.size - (intOf i).toNat)
  case atStart => exact ⟨0, root, by omega, rfl, rfl, HST, H0⟩
  case round =>
    clear HST H0 n0
    obtain ⟨i, k, hi, rfl, rfl, HK, HJ⟩ := hrel
    by_cases hlt : i < s.size
    · have HLET := Lib.hid (letter hlt)
      have HTD := Lib.hid (HT.out _ _ HJ.out)
      have hc256 : s[i].toNat < 256 := s[i].toNat_lt
      have HSTEP : Hid (Calls Tryz.prog 102 #[.pointer (some ⟨Nb, 0, none⟩), .pointer (some ⟨k.b, 0, none⟩), .int .u8 (s[i].toNat : Int)] wr (fun e w' => ∃ r : Kn, e = .returned (.pointer (some ⟨r.b, 0, none⟩)) ∧ (r ∈ Ks ∧ LongSuf ws (s.data.toList.take (i + 1)) r.u) ∧ wr = w')) := Lib.hid (by
        refine (step_c HTD.out.net HTD.out.tie HK.out.1 trivial (s.data.toList.take i) HK.out.2 s[i].toNat hc256).mono ?_
        rintro e w' ⟨r, rfl, hr, hl, _, rfl⟩
        refine ⟨r, rfl, ⟨hr, ?_⟩, rfl⟩
        rw [take_snoc HLET.out]
        simpa using hl)
      clear HK
      go_wp2_with (first
        | (go_at_call 102; refine HSTEP.out.mono ?_; rintro e w' ⟨r, rfl, hr, rfl⟩; have HR := Lib.hid hr; have hrb := HTD.out.net.blk r hr.1; obtain ⟨xs, hx1, hx2⟩ := HTD.out.rows r hr.1; obtain ⟨A, cap, hf⟩ := hx1.src.form; rw [hf] at hrb hx1; obtain ⟨N, hN⟩ : ∃ N, N = xs.length := ⟨_, rfl⟩; rw [← hN] at hrb hx1; have r2 : wr.cell? ⟨r.b, 2, none⟩ = some (.slice A N cap) := hrb.cell 2; have HX1 := Lib.hid hx1; have HX2 := Lib.hid hx2; have HN := Lib.hid hN; have HRB := Lib.hid hrb; clear hr hf hx1 hx2 hN hrb)
        | (go_at_call 104; refine (Values_c A N cap wr).mono ?_; rintro e w1 ⟨rfl, hw1⟩; have HW1 := Lib.hid hw1; clear hw1)
        | (go_at_call 103; refine (Sorted_c wr.heap.size (.slice A N cap) xs (by have := EndL.few HX2.out; omega) N HN.out w1 (by rw [HW1.out]; exact (Blk.new wr 181 #[.slice A N cap]).cell 0) (by
            have hbl : Below wr.heap.size wr w1 := by rw [HW1.out]; exact (Below.refl _ _).alloc (Nat.le_refl _) _
            exact (HX1.out.src.below hbl).vints)).mono ?_; rintro e w2 ⟨A2, cap2, ys, rfl, hy1, hy2, hy3, hy4, hb2⟩))
      have hbl1 : Below wr.heap.size wr w1 := by rw [HW1.out]; exact (Below.refl _ _).alloc (Nat.le_refl _) _
      have hbl2 : Below wr.heap.size wr w2 := hbl1.trans (hb2.mono hbl1.size)
      have HYS : Hid (ys = endAt ws (s.data.toList.take (i + 1))) := Lib.hid (endl_sorted (HX2.out.long HR.out.2) hy2 hy1 hy3)
      have HNY : Hid (N = ys.length) := Lib.hid (by rw [HN.out, hy1])
      have hN20 : N ≤ 20 := by have := EndL.few HX2.out; rw [← HN.out] at this; omega
      have HJ2 : Hid (J (toldTo ws s.data.toList i ++ (ys.take 0).map fun x => (x, i + 1)) w2) := Lib.hid (by simpa using HD.out.below _ _ _ HJ.out hbl2)
      have HROW := Lib.hid hy4
      have HKR := Lib.hid HR.out
      have hw1s : w1.heap.size ≤ w2.heap.size := hb2.size
      generalize w1.heap.size = B1 at HROW hw1s
      clear hy1 hy2 hy3 hy4 hb2 hbl1 hbl2 HW1 HJ HX1 HX2 HN HRB r2 HSTEP HTD
      go_loopw [32] (fun v32 wx => ∃ j : Nat, j ≤ N ∧ v32 = .int .i64 (j : Int) ∧ Hid (J (toldTo ws s.data.toList i ++ (ys.take j).map fun x => (x, i + 1)) wx) ∧ Hid (wx.ownsRow B1 3 1 (.slice A2 N cap2) N (natVals ys))) (fun v _ => N - (intOf v).toNat)
      case atStart => exact ⟨0, by omega, rfl, HJ2, HROW⟩
      case round =>
        clear HJ2 HROW hw1s
        obtain ⟨j, hj, rfl, HJ, HROW⟩ := hrel
        by_cases hjn : j < N
        · obtain ⟨y, hy⟩ : ∃ y, ys[j]? = some y := ⟨_, List.getElem?_eq_getElem (by rw [← HNY.out]; exact hjn)⟩
          obtain ⟨g, cp, hv, hgb, hgl⟩ := HROW.out.form (by omega)
          have hA2 : A2 = some ⟨g, 0, none⟩ := by injection hv
          have hcell : wr.cell? ⟨g, j, none⟩ = some (.int .i64 (y : Int)) := by
            obtain ⟨A', n', c', e1, _, _, _, e4⟩ := Rd.of_own HROW.out
            injection e1 with e1a e1b e1c
            subst e1a
            subst e1b
            obtain ⟨b', off', e5, e6⟩ := e4 (by omega)
            rw [hA2] at e5
            injection e5 with e5
            injection e5 with e5a e5b
            subst e5a
            subst e5b
            have := e6 j (.int .i64 (y : Int)) (by simp [natVals, hy])
            simpa using this
          subst hA2
          have hym : ∃ x, ws[y]? = some x ∧ x.length ≤ i + 1 := by
            have := List.mem_of_getElem? hy
            rw [HYS.out] at this
            obtain ⟨x, hx, hsx⟩ := endAt_mem.1 this
            refine ⟨x, hx, ?_⟩
            have hl := hsx.length_le
            rw [List.length_take] at hl
            omega
          have HCALL := Lib.hid (HD.out.call _ wr y (i + 1) HJ.out hym (by omega) (by
            have q1 := told_few ws s.data.toList i
            have q2 : (ys.take j).length ≤ ws.length := by
              have := endAt_len ws (s.data.toList.take (i + 1))
              rw [← HYS.out] at this
              simp; omega
            rw [List.length_append, List.length_map]
            have q3 : ws.length * (i + 1) ≤ ws.length * s.size := Nat.mul_le_mul_left _ (by omega)
            rw [Nat.mul_succ] at q3
            omega))
          have HYJ := Lib.hid hy
          have he1 : ((i + 1 : Nat) : Int) = (i : Int) + 1 := by omega
          rw [he1] at HCALL
          clear hy hv hym he1
          go_wp2_with (go_at_call 71; refine HCALL.out.mono ?_; rintro e w3 ⟨rfl, hj3, hk3⟩; have HJ3 := Lib.hid hj3; have HK3 := Lib.hid hk3; clear hj3 hk3)
          go_roundw
          case rel => exact ⟨j + 1, by omega, by go_num, Lib.hid (by have := HJ3.out; rw [List.take_add_one, HYJ.out]; simpa using this), Lib.hid (own_int HROW.out HK3.out)⟩
          case measure => simp [intOf]; omega
        · obtain rfl : j = N := by omega
          have HJF : Hid (J (toldTo ws s.data.toList (i + 1)) wr) := Lib.hid (by
            have := HJ.out
            rw [HNY.out, List.take_length, HYS.out] at this
            rw [toldTo_succ]
            exact this)
          go_wp2_with fail
          go_roundw
          case rel => exact ⟨i + 1, r, by omega, rfl, by go_num, HKR, HJF⟩
          case measure => simp [intOf]; omega
    · obtain rfl : i = s.size := by omega
      go_wp2_with fail
      go_end0
      exact ⟨rfl, HJ.out⟩
end Go.Proofs.YthcahjnniendnacGreatDoor.setW
