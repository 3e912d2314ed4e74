/-
  The walk of the document's Reach: a byte.
-/
import Derived.Test.YthcahjnniendnabDoorReachC
namespace Go.Proofs.YthcahjnniendnabDoor
open Go.RowKit Wf

set_option maxRecDepth 100000 in
set_option maxHeartbeats 16000000 in
theorem Reach_byte (l : List Nd) (hg : ∀ n ∈ l, good n) (hok : ∀ n ∈ l, okC n.cls) (hlen : l.length ≤ 60) (b off cap : Nat) (s : ByteArray) (hs : s.size ≤ 400) (c : Cls) (i : Nat) (hat : At l i (.byte c)) : ReachAt l b off cap s (.byte c) i := by
  have HM : Hid (∀ (w : World), RdN w (.slice (some ⟨b, off, none⟩) l.length cap) l → ∀ k n, l[k]? = some n →
      w.cell? ⟨b, off + k * 5, none⟩ = some (.int .i64 n.op) ∧ w.cell? ⟨b, off + k * 5 + 1, none⟩ = some (.int .u64 (n.cls.1 : Int)) ∧ w.cell? ⟨b, off + k * 5 + 2, none⟩ = some (.int .u64 (n.cls.2.1 : Int)) ∧
      w.cell? ⟨b, off + k * 5 + 3, none⟩ = some (.int .u64 (n.cls.2.2.1 : Int)) ∧ w.cell? ⟨b, off + k * 5 + 4, none⟩ = some (.int .u64 (n.cls.2.2.2 : Int))) := Lib.hid (fun w hr k n hk => by
    obtain ⟨A', cap', hv, hcap, hcap2, hmem⟩ := hr.open_
    injection hv with e1 _ e2
    obtain ⟨b', off', hA, _, hc⟩ := hmem (by have := (List.getElem?_eq_some_iff.1 hk).1; omega)
    rw [hA] at e1
    cases e1
    exact hc w (fun _ => rfl) k n hk)
  have HBL : Hid (∀ (w : World), RdN w (.slice (some ⟨b, off, none⟩) l.length cap) l → 0 < l.length → b < w.heap.size) := Lib.hid (fun w hr hk => by
    obtain ⟨A', cap', hv, hcap, hcap2, hmem⟩ := hr.open_
    injection hv with e1 _ e2
    obtain ⟨b', off', hA, hb, _⟩ := hmem hk
    rw [hA] at e1
    cases e1
    exact hb)
  have HEND := Lib.hid (fun (i : Nat) (hi : i ≤ l.length) (w : World) (hr : RdN w (.slice (some ⟨b, off, none⟩) l.length cap) l) => REnd_all l hg hlen (some ⟨b, off, none⟩) cap l.length i w (by omega) hi hr)
  have HOK := Lib.hid hok
  have HSL := Lib.hid (show s.data.toList.length = s.size by simp)
  have HCLO := Lib.hid (fun (u : Rx) (i : Nat) (h : ReachAt l b off cap s u i) => closed_any l b off cap s hs u i h)
  have HBW : Hid (∀ (w : World) (o o' : Obj), Below w.heap.size w ((w.alloc o).alloc o')) := Lib.hid fun w o o' => ((Below.refl _ _).alloc (Nat.le_refl _) _).alloc (by simp) _
  have hmk0 := fun W => mk_bools (s.size + 1) (by omega) W
  have hmk := hmk0
  rw [show ((s.size + 1 : Nat) : Int) = (s.size : Int) + 1 by omega] at hmk
  have hrg := fun f (hf : f < s.size + 1) => repA_get (s.size + 1) (.bool false) f hf
  have HRG := Lib.hid hrg
  clear hg hok hrg
  · intro w g D hr hD
    obtain ⟨c0, c1, c2, c3⟩ := c
    obtain ⟨q0, q1, q2, q3, q4⟩ := HM.out w hr i _ hat.byte
    have hlt := hat.lt
    have hpos := flat_pos (.byte (c0, c1, c2, c3))
    have hi1 : (i : Int) < (l.length : Int) := by omega
    have hgl := hD.lt
    have hbl := HBL.out w hr (by omega)
    have HR := Lib.hid hr
    have HD := Lib.hid hD
    dsimp only at q0 q1 q2 q3 q4
    have hcok := HOK.out _ (List.mem_of_getElem? hat.byte)
    have HIN := Lib.hid (fun (x : Nat) (hx : x < 256) (W : World) => RIn_any c0 c1 c2 c3 x W hcok hx)
    have HBE : Hid (BE w g (s.size + 1) D (byteD s.data.toList (c0, c1, c2, c3) D 0) c0 c1 c2 c3 ((w.alloc (.cells (repA (s.size + 1) (.bool false)) 4)).alloc (.cells #[.int .i64 1, .int .u64 (c0 : Int), .int .u64 (c1 : Int), .int .u64 (c2 : Int), .int .u64 (c3 : Int)] 69))) := Lib.hid (by
      rw [byteD_zero]
      refine ⟨(RB.new w (s.size + 1)).alloc _, ?_, HD.out.below (HBW.out w _ _), HBW.out w _ _⟩
      have h := Blk.new (w.alloc (.cells (repA (s.size + 1) (.bool false)) 4)) 69 #[.int .i64 1, .int .u64 (c0 : Int), .int .u64 (c1 : Int), .int .u64 (c2 : Int), .int .u64 (c3 : Int)]
      rw [World.size_alloc] at h
      exact h)
    clear hat hr hD hcok
    go_enter Tryd.func57, Tryd.ntmps57
    go_wp2_with fail
    clear q0 q1 q2 q3 q4 hmk0 hmk
    go_loopw [11] (fun v11 wx => ∃ k : Nat, k ≤ s.size ∧ v11 = .int .i64 (k : Int) ∧ Hid (BE w g (s.size + 1) D (byteD s.data.toList (c0, c1, c2, c3) D k) c0 c1 c2 c3 wx)) (fun i _ => s.size - (intOf i).toNat)
    case atStart => exact ⟨0, by omega, rfl, HBE⟩
    case round =>
      clear HBE
      obtain ⟨k, hk, rfl, hE⟩ := hrel
      by_cases hlt : k < s.size
      · have hbyte : s[k].toNat < 256 := s[k].toNat_lt
        have hsk : s.data.toList[k]? = some s[k] := by
          rw [List.getElem?_eq_getElem (by rw [HSL.out]; exact hlt)]
          rfl
        have hbs := byteD_succ (s := s.data.toList) (c := (c0, c1, c2, c3)) (D := D) hsk
        have HI0 := Lib.hid (HIN.out s[k].toNat hbyte)
        unfold RInIs at HI0
        obtain ⟨x, hx⟩ : ∃ x, x = D k := ⟨_, rfl⟩
        have hcD := hE.out.2.2.1.cell (k := k) (by omega)
        obtain ⟨y1, y2, y3, y4⟩ := hE.out.cells
        have hcO := hE.out.1.cell (k := k + 1) (by omega)
        have hfO := hE.out.1.frozen (k + 1)
        have hsz : w.heap.size + 1 < wr.heap.size := hE.out.2.1.lt
        rw [← hx] at hcD hbs
        have i1 : (k : Int) < (s.size : Int) := by omega
        have i2 : (k : Int) + 1 < (s.size : Int) + 1 := by omega
        have i3 : (k : Int) < (s.size : Int) + 1 := by omega
        have i4 : (0 : Int) ≤ (k : Int) + 1 := by omega
        have i5 : (0 : Int) ≤ (k : Int) := by omega
        have hwr : IntKind.i64.wrap ((k : Int) + 1) = (k : Int) + 1 := IntWalk.i64_in _ (by omega)
        have HBS := Lib.hid hbs
        have HX := Lib.hid hx
        clear hbs hx hsk
        generalize hEE : byteD s.data.toList (c0, c1, c2, c3) D k = E at *
        clear hEE
        cases x with
        | false =>
          have HBX := Lib.hid HBS.out
          rw [Bool.false_and] at HBX
          have HS : Hid (∀ w', Hid (BEx w g (s.size + 1) D E c0 c1 c2 c3 (k + 1) false w') → (w'.cell? ⟨g, k, none⟩ = some (.bool (D k)) ∧ Hid (BEx w g (s.size + 1) D E c0 c1 c2 c3 (k + 1) false w'))) := Lib.hid (fun w' h => by
            rcases h.out with h1 | ⟨w0, rfl, h1⟩
            · exact ⟨h1.2.2.1.cell (by omega), h⟩
            · exact ⟨(h1.put hgl (k + 1) false).2.2.1.cell (by omega), h⟩)
          rw [← HX.out] at HS
          have HEN : Hid (byteD s.data.toList (c0, c1, c2, c3) D (k + 1) = setD E (k + 1) false) := Lib.hid (by rw [HBX.out])
          have HED : Hid (BE w g (s.size + 1) D E c0 c1 c2 c3 wr.drew) := Lib.hid (hE.out.kept (Below.refl _ _).drew)
          have y5 := HED.out.1.cell (k := k + 1) (by omega)
          have y6 := HED.out.1.frozen (k + 1)
          clear HI0 HX HBS HBX
          go_wp2_with fail
          refine still_tail 17 (by kernel_rfl) (by kernel_rfl) ?_
          simp only [List.take_succ_cons, List.take_zero, List.drop_succ_cons, List.drop_zero]
          refine still_one (fun K hK => ?_)
          go_simp
          refine hK _ ?_
          clear hK K
          refine still_one (fun K hK => ?_)
          go_simp
          refine hK _ ?_
          clear hK K
          refine still_one (fun K hK => ?_)
          go_simp
          refine hK _ ?_
          clear hK K
          refine still_one (fun K hK => ?_)
          go_simp
          refine hK _ ?_
          clear hK K
          refine still_one (fun K hK => ?_)
          go_simp
          refine hK _ ?_
          clear hK K
          refine still_one (fun K hK => ?_)
          go_simp
          refine hK _ ?_
          clear hK K
          refine still_one (fun K hK => ?_)
          go_simp
          refine hK _ ?_
          clear hK K
          refine still_one (fun K hK => ?_)
          go_simp
          refine hK _ ?_
          clear hK K
          refine still_skip (by kernel_rfl) ?_
          refine still_skip (by kernel_rfl) ?_
          refine still_skip (by kernel_rfl) ?_
          refine still_skip (by kernel_rfl) ?_
          refine still_skip (by kernel_rfl) ?_
          refine still_skip (by kernel_rfl) ?_
          refine still_skip (by kernel_rfl) ?_
          refine still_one (fun K hK => ?_)
          go_simp
          refine hK _ ?_
          clear hK K
          refine still_one (fun K hK => ?_)
          go_simp
          refine hK _ ?_
          clear hK K
          refine still_end ?_
          change wpList _ _ _ _ _ wr.drew
          go_wp2_with fail
          go_roundw
          case rel => exact ⟨k + 1, by omega, by go_num, Lib.hid (by rw [HEN.out]; exact HED.out.put hgl (k + 1) false)⟩
          case measure => simp [intOf]; omega
        | true =>
          obtain ⟨r, hr⟩ : ∃ r, r = has (c0, c1, c2, c3) s[k].toNat := ⟨_, rfl⟩
          rw [← hr] at HI0
          have HCI : Hid (∀ W, Hid (BE w g (s.size + 1) D E c0 c1 c2 c3 W) → Calls Tryd.prog 35 #[.agg #[.int .u64 (c0 : Int), .int .u64 (c1 : Int), .int .u64 (c2 : Int), .int .u64 (c3 : Int)], .int .i64 (IntKind.i64.wrap (s[k].toNat : Int))] W (fun e W' => e = .returned (.bool r) ∧ Hid (BE w g (s.size + 1) D E c0 c1 c2 c3 W'))) := Lib.hid (fun W h => by
            rw [show IntKind.i64.wrap (s[k].toNat : Int) = (s[k].toNat : Int) from i64_byte _ hbyte]
            exact (HI0.out W).mono fun e W' ⟨h1, h2⟩ => ⟨h1, Lib.hid (h.out.kept h2)⟩)
          have HS : Hid (∀ w', Hid (BEx w g (s.size + 1) D E c0 c1 c2 c3 (k + 1) r w') → (w'.cell? ⟨w.heap.size + 1, 1, none⟩ = some (.int .u64 (c0 : Int)) ∧ w'.cell? ⟨w.heap.size + 1, 2, none⟩ = some (.int .u64 (c1 : Int)) ∧ w'.cell? ⟨w.heap.size + 1, 3, none⟩ = some (.int .u64 (c2 : Int)) ∧ w'.cell? ⟨w.heap.size + 1, 4, none⟩ = some (.int .u64 (c3 : Int)) ∧ w'.cell? ⟨g, k, none⟩ = some (.bool (D k)) ∧ Hid (BEx w g (s.size + 1) D E c0 c1 c2 c3 (k + 1) r w'))) := Lib.hid (fun w' h => by
            rcases h.out with h1 | ⟨w0, rfl, h1⟩
            · obtain ⟨a1, a2, a3, a4⟩ := h1.cells
              exact ⟨a1, a2, a3, a4, h1.2.2.1.cell (by omega), h⟩
            · obtain ⟨a1, a2, a3, a4⟩ := (h1.put hgl (k + 1) r).cells
              exact ⟨a1, a2, a3, a4, (h1.put hgl (k + 1) r).2.2.1.cell (by omega), h⟩)
          rw [← HX.out] at HS
          have HST : Hid (∀ w', BE w g (s.size + 1) D E c0 c1 c2 c3 w' → (w'.cell? ⟨w.heap.size, k + 1, none⟩ = some (.bool (E (k + 1))) ∧ w'.frozen? ⟨w.heap.size, k + 1, none⟩ = false)) := Lib.hid (fun w' h => ⟨h.1.cell (by omega), h.1.frozen _⟩)
          have HEN : Hid (byteD s.data.toList (c0, c1, c2, c3) D (k + 1) = setD E (k + 1) r) := Lib.hid (by rw [HBS.out, Bool.true_and, hr])
          have HED : Hid (BE w g (s.size + 1) D E c0 c1 c2 c3 wr.drew) := Lib.hid (hE.out.kept (Below.refl _ _).drew)
          have hbI : (s[k].toNat : Int) < 256 := by omega
          clear hr HBS HX HI0
          go_wp2_with fail
          go_region_held3 (fun w' => w'.cell? ⟨w.heap.size + 1, 1, none⟩ = some (.int .u64 (c0 : Int)) ∧ w'.cell? ⟨w.heap.size + 1, 2, none⟩ = some (.int .u64 (c1 : Int)) ∧ w'.cell? ⟨w.heap.size + 1, 3, none⟩ = some (.int .u64 (c2 : Int)) ∧ w'.cell? ⟨w.heap.size + 1, 4, none⟩ = some (.int .u64 (c3 : Int)) ∧ w'.cell? ⟨g, k, none⟩ = some (.bool true) ∧ Hid (BEx w g (s.size + 1) D E c0 c1 c2 c3 (k + 1) r w'))
            (exact HS.out _ (by first | exact Lib.hid (.inl (Hid.out (by assumption))) | exact Lib.hid (.inr ⟨_, rfl, Hid.out (by assumption)⟩)))
            (first | (go_at_call 35; refine (HCI.out _ (by assumption)).mono ?_; rintro e w5 ⟨rfl, henv⟩; obtain ⟨z0, z1⟩ := HST.out _ henv.out))
          go_wp2_with fail
          go_roundw
          case rel => exact ⟨k + 1, by omega, by go_num, Lib.hid (by rw [HEN.out]; exact henv.out.put hgl (k + 1) r)⟩
          case measure => simp [intOf]; omega
      · obtain rfl : k = s.size := by omega
        have hto := to_byte s.data.toList (c0, c1, c2, c3) D
        rw [HSL.out] at hto
        have HTO := Lib.hid hto
        clear hto
        go_wp2
        go_ret
        exact ⟨w.heap.size, _, rfl, hE.out.1, HTO.out, hE.out.2.2.2⟩
end Go.Proofs.YthcahjnniendnabDoor
