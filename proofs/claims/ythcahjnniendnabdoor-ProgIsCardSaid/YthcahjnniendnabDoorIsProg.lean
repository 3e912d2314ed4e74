/-
  Proved: winnowfanlaw2.ProgIs returns true for every program and pattern, and changes nothing that was there.
-/
import Derived.Test.YthcahjnniendnabDoorDec
import Derived.Test.YthcahjnniendnabDoorEmptyNo
import Derived.Test.YthcahjnniendnabDoorGMake
import Derived.Test.YthcahjnniendnabDoorGRef
import Derived.Test.YthcahjnniendnabDoorLaidT
import Derived.Test.YthcahjnniendnabDoorOpenS
import Derived.Test.YthcahjnniendnabDoorRefS
import Derived.Test.YthcahjnniendnabDoorRefU
import Derived.Test.YthcahjnniendnabDoorTie
import Derived.Test.YthcahjnniendnabDoorCards
namespace Go.Proofs.YthcahjnniendnabDoor.progIs
open Go.ChangeShapes Go.WideShapes Go.ChangeAt Go.RowKit Wf
open Go.ChangeMaps (open_string shut_string)
open law (own laidOut LawIs)
open lawT (laidL laidWorld laidWorld_met handle_of_laid tab_of_laid)
set_option linter.unusedVariables false

set_option maxRecDepth 100000 in
set_option maxHeartbeats 16000000 in
theorem walk (p : List St) (r : List Nd) (v v2 : Value) (w : World) (hr : RdS w v p) (hr2 : RdN w v2 r) (hok : ∀ t ∈ p, okSt t) (hok2 : ∀ nd ∈ r, okNd nd) (hg : ErrT w) (ht : Tab10 w) : Calls Tryd.prog 8 #[v, v2] w (LawIs w) := by
  have hokc : ∀ t ∈ p, okC t.cls := fun t ht => (hok t ht).1
  have hokc2 : ∀ nd ∈ r, okC nd.cls := fun t ht => (hok2 t ht).2.2
  obtain ⟨A, cap, rfl, hcap, hcap2, hmem⟩ := hr.open_
  obtain ⟨A2, cp2, rfl, hcp, hcp2, hmem2⟩ := hr2.open_
  have HS0 : Hid (∀ W, Below w.heap.size w W → Calls Tryd.prog 14 #[.nilIface, .int .i64 0] W (fun e w' => e = .returned (.bool true) ∧ Below w.heap.size w w')) := Lib.hid fun W hb => by
    have h := SErr_any 0 0 W (hg.below hb)
    rw [errV_zero] at h
    refine h.mono ?_
    rintro e w' ⟨b, h1, h2, h3⟩
    rw [h2.2 rfl] at h1
    exact ⟨h1, hb.trans (h3.mono hb.size)⟩
  have HSN : ∀ m : Int, m ≠ 0 → Hid (∀ W, Below w.heap.size w W → Calls Tryd.prog 14 #[.iface 23 (.int .i64 m), .int .i64 m] W (fun e w' => e = .returned (.bool true) ∧ Below w.heap.size w w')) := fun m hm => Lib.hid fun W hb => by
    have h := SErr_any m m W (hg.below hb)
    rw [errV_ne hm] at h
    refine h.mono ?_
    rintro e w' ⟨b, h1, h2, h3⟩
    rw [h2.2 rfl] at h1
    exact ⟨h1, hb.trans (h3.mono hb.size)⟩
  have HTWO : Hid ((Hid (∀ W, Below w.heap.size w W → Calls Tryd.prog 10 #[.slice A2 r.length cp2] W (fun e w' => e = .returned (.int .i64 0) ∧ Below w.heap.size w w')) ∧ Hid (∀ W, Below w.heap.size w W → Calls Tryd.prog 45 #[.slice A2 r.length cp2] W (fun e w' => ∃ (A3 : Option Addr) (n3 c3 : Nat), e = .returned (.tuple #[.slice A3 n3 c3, .nilIface]) ∧ Below w.heap.size w w'))) ∨
      ∃ m : Int, (m == 0) = false ∧ Hid (∀ W, Below w.heap.size w W → Calls Tryd.prog 10 #[.slice A2 r.length cp2] W (fun e w' => e = .returned (.int .i64 m) ∧ Below w.heap.size w w')) ∧ Hid (∀ W, Below w.heap.size w W → Calls Tryd.prog 45 #[.slice A2 r.length cp2] W (fun e w' => e = .returned (.tuple #[.slice none 0 0, .iface 23 (.int .i64 m)]) ∧ Below w.heap.size w w')) ∧
        Hid (∀ W, Below w.heap.size w W → Calls Tryd.prog 14 #[.iface 23 (.int .i64 m), .int .i64 m] W (fun e w' => e = .returned (.bool true) ∧ Below w.heap.size w w'))) := Lib.hid (by
    by_cases hc : chk r = 0
    · obtain ⟨hlen, t, htr⟩ := chk_tree hc
      refine .inl ⟨Lib.hid fun W hb => (RFault_any r _ W (hr2.below hb) hokc2).mono ?_, Lib.hid fun W hb => (Of_ok r t htr _ W hlen (hr2.below hb)).mono ?_⟩
      · rintro e w' ⟨h1, h2⟩
        rw [hc] at h1
        exact ⟨h1, hb.trans (h2.mono hb.size)⟩
      · rintro e w' ⟨g, c, h1, _, _, h2⟩
        exact ⟨_, _, _, h1, hb.trans (h2.mono hb.size)⟩
    · refine .inr ⟨chk r, by simpa using hc, Lib.hid fun W hb => (RFault_any r _ W (hr2.below hb) hokc2).mono ?_, Lib.hid fun W hb => (Of_no r _ W (hr2.below hb) hc).mono ?_, HSN _ hc⟩
      · rintro e w' ⟨h1, h2⟩
        exact ⟨h1, hb.trans (h2.mono hb.size)⟩
      · rintro e w' ⟨h1, h2⟩
        rw [errV_ne hc] at h1
        exact ⟨h1, hb.trans (h2.mono hb.size)⟩)
  by_cases hp : chkP p = 0
  · have hpo := chkP_ok.1 hp
    have h200 : p.length ≤ 200 := hpo.2.1
    obtain ⟨b, off, rfl, hbl, hcells⟩ := hmem hpo.1
    have HCL := Lib.hid hcells
    have HOK := Lib.hid hokc
    have HST := Lib.hid hpo.2.2
    have HRS : Hid (Calls Tryd.prog 41 #[.slice (some ⟨b, off, none⟩) p.length cap] w (fun e w' => e = .returned (.int .i64 0) ∧ Below w.heap.size w w')) := Lib.hid ((RSFault_any p _ w hr (by omega) hokc).mono (by
      rintro e w' ⟨h1, h2⟩
      rw [hp] at h1
      exact ⟨h1, h2⟩))
    have HPC : Hid (∀ W, Below w.heap.size w W → Calls Tryd.prog 42 #[.slice (some ⟨b, off, none⟩) p.length cap] W (fun e w' => e = .returned .nilIface ∧ Below w.heap.size w w')) := Lib.hid fun W hb => (PCheck_any p _ W (hr.below hb) (by omega)).mono (by
      rintro e w' ⟨h1, h2⟩
      rw [hp, errV_zero] at h1
      exact ⟨h1, hb.trans (h2.mono hb.size)⟩)
    have HPT : Hid (∀ (want : ByteArray) W, Hid (want.data.toList = textP p) → Below w.heap.size w W → Calls Tryd.prog 44 #[.slice (some ⟨b, off, none⟩) p.length cap] W (fun e w' => e = .returned (.tuple #[.string want, .nilIface]) ∧ Below w.heap.size w w')) := Lib.hid fun want W hw hb => (PText_ok p _ W (hr.below hb) hpo hokc (ht.below hb)).mono (by
      rintro e w' ⟨s, h1, h2, h3⟩
      obtain rfl : s = want := ByteArray.ext (Array.toList_inj.1 (h2.trans hw.out.symm))
      exact ⟨h1, hb.trans (h3.mono hb.size)⟩)
    have HD : Hid (∀ (n : Nat) (W : World), n ≤ 200 → Calls Tryd.prog 43 #[.int .i64 (n : Int)] W (fun e w' => ∃ s : ByteArray, e = .returned (.string s) ∧ Hid (s.data.toList = decL n) ∧ s.size ≤ 3 ∧ W = w')) := Lib.hid fun n W hn => (RDec_any n hn W).mono (by
      rintro e w' ⟨s, h1, h2, h3, h4⟩
      exact ⟨s, h1, Lib.hid h2, h3, h4⟩)
    have HCT : Hid (∀ (c0 c1 c2 c3 : Nat) (W : World), okC (c0, c1, c2, c3) → Calls Tryd.prog 34 #[.agg #[.int .u64 (c0 : Int), .int .u64 (c1 : Int), .int .u64 (c2 : Int), .int .u64 (c3 : Int)]] W (fun e w' => ∃ s : ByteArray, e = .returned (.string s) ∧ Hid (s.data.toList = textC (c0, c1, c2, c3)) ∧ s.size ≤ 2400 ∧ Below W.heap.size W w')) := Lib.hid fun c0 c1 c2 c3 W hc => (RClassText_any c0 c1 c2 c3 W hc).mono (by
      rintro e w' ⟨s, h1, h2, h3⟩
      exact ⟨s, h1, Lib.hid h2, by rw [sz_list, h2]; exact textC_len _, h3⟩)
    clear hr hr2 hok hok2 hg ht hokc hokc2 hmem hmem2 hcells hp hpo HSN
    go_enter Tryd.func8, Tryd.ntmps8
    go_wp2_with fail
    refine HRS.out.mono ?_
    rintro e w1 ⟨rfl, hb1⟩
    have HB1 := Lib.hid hb1
    clear hb1 HRS
    go_wp2_with fail
    refine (HPC.out _ HB1.out).mono ?_
    rintro e w2 ⟨rfl, hb2⟩
    have HB2 := Lib.hid hb2
    clear hb2 HB1
    go_wp2_with fail
    refine (HS0.out _ HB2.out).mono ?_
    rintro e w3 ⟨rfl, hb3⟩
    have HB3 := Lib.hid hb3
    clear hb3 HB2
    go_wp2_with fail
    go_loopw [7, 8] (fun v7 v8 wr => ∃ (k : Nat) (want : ByteArray), k ≤ p.length ∧ v7 = .string want ∧ v8 = .int .i64 (k : Int) ∧ want.size ≤ 2500 * k ∧ Hid (want.data.toList ++ textP (p.drop k) = textP p) ∧ Hid (Below w.heap.size w wr)) (fun _ i _ => p.length - (intOf i).toNat)
    case atStart => exact ⟨0, ⟨#[]⟩, by omega, rfl, rfl, by simp [bsz], Lib.hid (by rw [List.drop_zero]; rfl), HB3⟩
    case round =>
      obtain ⟨k, want, hk, rfl, rfl, hz, HA, HB⟩ := hrel
      by_cases hlt : k < p.length
      · have hs : p[k]? = some (p[k]'hlt) := List.getElem?_eq_getElem hlt
        generalize p[k]'hlt = s at hs
        obtain ⟨q0, q1, q2, q3, q4, q5, q6⟩ := HCL.out wr (fun o => HB.out.cell (p := ⟨b, o, none⟩) hbl) k s hs
        have hat := textP_at hs
        obtain ⟨hop, hx, hy, hcl, hy0, hx0⟩ := oneP_zero (HST.out s (List.mem_of_getElem? hs))
        have hokc := HOK.out s (List.mem_of_getElem? hs)
        obtain ⟨op, ⟨c0, c1, c2, c3⟩, x, y⟩ := s
        dsimp only at q0 q1 q2 q3 q4 q5 q6 hop hx hy hcl hy0 hx0 hokc hat
        have hx1 : 0 ≤ x ∧ x < 200 := by
          rcases Int.decEq op 5 with h | h
          · have := hx h; omega
          · have := hx0 h; omega
        have hy1 : 0 ≤ y ∧ y < 200 := by
          rcases Int.decEq op 2 with h | h
          · have := hy0 h; omega
          · have := hy h; omega
        obtain ⟨xn, rfl⟩ := Int.eq_ofNat_of_zero_le hx1.1
        obtain ⟨yn, rfl⟩ := Int.eq_ofNat_of_zero_le hy1.1
        have hxn : xn ≤ 200 := by omega
        have hyn : yn ≤ 200 := by omega
        obtain ⟨L, hL⟩ : ∃ L, L = headT ⟨op, (c0, c1, c2, c3), (xn : Int), (yn : Int)⟩ := ⟨_, rfl⟩
        rw [← hL] at hat
        have HL := Lib.hid hL
        have HAT := Lib.hid hat
        have HCC := Lib.hid hokc
        have hk1 : (k : Int) < (p.length : Int) := by omega
        clear hL hs hat hx hy hcl hy0 hx0 hokc hx1 hy1
        rcases (show op = 1 ∨ op = 2 ∨ op = 3 ∨ op = 4 ∨ op = 5 by omega) with h | h | h | h | h
        · have d1 : (op == (1 : Int)) = true := beq_iff_eq.2 h
          have d2 : (op == (2 : Int)) = false := beq_eq_false_iff_ne.2 (by omega)
          have d3 : (op == (3 : Int)) = false := beq_eq_false_iff_ne.2 (by omega)
          have d4 : (op == (4 : Int)) = false := beq_eq_false_iff_ne.2 (by omega)
          have HLL : Hid (L = [116, 97, 107, 101, 32] ++ textC (c0, c1, c2, c3) ++ ([32] ++ decL (xn : Int))) := Lib.hid (by rw [HL.out]; unfold headT; dsimp only; rw [if_pos h])
          clear h HL
          go_wp2_with fail
          refine (HD.out xn _ hxn).mono ?_
          rintro e w4 ⟨sx, rfl, hsx, hzx, rfl⟩
          go_wp2_with fail
          refine (HD.out yn _ hyn).mono ?_
          rintro e w5 ⟨sy, rfl, hsy, hzy, rfl⟩
          go_wp2_with fail
          refine (HCT.out c0 c1 c2 c3 _ HCC.out).mono ?_
          rintro e w6 ⟨sc, rfl, hsc, hzc, hb6⟩
          have HB6 := Lib.hid (HB.out.trans (hb6.mono HB.out.size))
          clear hb6
          go_wp2_with fail
          go_roundw
          case rel => exact ⟨k + 1, want ++ ⟨#[116, 97, 107, 101, 32]⟩ ++ sc ++ ⟨#[32]⟩ ++ sx ++ ⟨#[10]⟩, by omega, rfl, by go_num, (by simp only [ByteArray.size_append, bsz, List.size_toArray, List.length_cons, List.length_nil]; omega), Lib.hid (by rw [← HA.out, HAT.out, HLL.out]; simp only [data_app, hsx.out, hsc.out]; simp), HB6⟩
          case measure => simp [intOf]; omega
        · have d1 : (op == (1 : Int)) = false := beq_eq_false_iff_ne.2 (by omega)
          have d2 : (op == (2 : Int)) = true := beq_iff_eq.2 h
          have d3 : (op == (3 : Int)) = false := beq_eq_false_iff_ne.2 (by omega)
          have d4 : (op == (4 : Int)) = false := beq_eq_false_iff_ne.2 (by omega)
          have HLL : Hid (L = [102, 111, 114, 107] ++ ([32] ++ decL (xn : Int)) ++ ([32] ++ decL (yn : Int))) := Lib.hid (by rw [HL.out]; unfold headT; dsimp only; rw [if_neg (by omega), if_pos h])
          clear h HL
          go_wp2_with fail
          refine (HD.out xn _ hxn).mono ?_
          rintro e w4 ⟨sx, rfl, hsx, hzx, rfl⟩
          go_wp2_with fail
          refine (HD.out yn _ hyn).mono ?_
          rintro e w5 ⟨sy, rfl, hsy, hzy, rfl⟩
          go_wp2_with fail
          go_roundw
          case rel => exact ⟨k + 1, want ++ ⟨#[102, 111, 114, 107, 32]⟩ ++ sx ++ ⟨#[32]⟩ ++ sy ++ ⟨#[10]⟩, by omega, rfl, by go_num, (by simp only [ByteArray.size_append, bsz, List.size_toArray, List.length_cons, List.length_nil]; omega), Lib.hid (by rw [← HA.out, HAT.out, HLL.out]; simp only [data_app, hsx.out, hsy.out]; simp), HB⟩
          case measure => simp [intOf]; omega
        · have d1 : (op == (1 : Int)) = false := beq_eq_false_iff_ne.2 (by omega)
          have d2 : (op == (2 : Int)) = false := beq_eq_false_iff_ne.2 (by omega)
          have d3 : (op == (3 : Int)) = true := beq_iff_eq.2 h
          have d4 : (op == (4 : Int)) = false := beq_eq_false_iff_ne.2 (by omega)
          have HLL : Hid (L = [102, 105, 114, 115, 116] ++ ([32] ++ decL (xn : Int))) := Lib.hid (by rw [HL.out]; unfold headT; dsimp only; rw [if_neg (by omega), if_neg (by omega), if_pos h])
          clear h HL
          go_wp2_with fail
          refine (HD.out xn _ hxn).mono ?_
          rintro e w4 ⟨sx, rfl, hsx, hzx, rfl⟩
          go_wp2_with fail
          refine (HD.out yn _ hyn).mono ?_
          rintro e w5 ⟨sy, rfl, hsy, hzy, rfl⟩
          go_wp2_with fail
          go_roundw
          case rel => exact ⟨k + 1, want ++ ⟨#[102, 105, 114, 115, 116, 32]⟩ ++ sx ++ ⟨#[10]⟩, by omega, rfl, by go_num, (by simp only [ByteArray.size_append, bsz, List.size_toArray, List.length_cons, List.length_nil]; omega), Lib.hid (by rw [← HA.out, HAT.out, HLL.out]; simp only [data_app, hsx.out]; simp), HB⟩
          case measure => simp [intOf]; omega
        · have d1 : (op == (1 : Int)) = false := beq_eq_false_iff_ne.2 (by omega)
          have d2 : (op == (2 : Int)) = false := beq_eq_false_iff_ne.2 (by omega)
          have d3 : (op == (3 : Int)) = false := beq_eq_false_iff_ne.2 (by omega)
          have d4 : (op == (4 : Int)) = true := beq_iff_eq.2 h
          have HLL : Hid (L = [108, 97, 115, 116] ++ ([32] ++ decL (xn : Int))) := Lib.hid (by rw [HL.out]; unfold headT; dsimp only; rw [if_neg (by omega), if_neg (by omega), if_neg (by omega), if_pos h])
          clear h HL
          go_wp2_with fail
          refine (HD.out xn _ hxn).mono ?_
          rintro e w4 ⟨sx, rfl, hsx, hzx, rfl⟩
          go_wp2_with fail
          refine (HD.out yn _ hyn).mono ?_
          rintro e w5 ⟨sy, rfl, hsy, hzy, rfl⟩
          go_wp2_with fail
          go_roundw
          case rel => exact ⟨k + 1, want ++ ⟨#[108, 97, 115, 116, 32]⟩ ++ sx ++ ⟨#[10]⟩, by omega, rfl, by go_num, (by simp only [ByteArray.size_append, bsz, List.size_toArray, List.length_cons, List.length_nil]; omega), Lib.hid (by rw [← HA.out, HAT.out, HLL.out]; simp only [data_app, hsx.out]; simp), HB⟩
          case measure => simp [intOf]; omega
        · have d1 : (op == (1 : Int)) = false := beq_eq_false_iff_ne.2 (by omega)
          have d2 : (op == (2 : Int)) = false := beq_eq_false_iff_ne.2 (by omega)
          have d3 : (op == (3 : Int)) = false := beq_eq_false_iff_ne.2 (by omega)
          have d4 : (op == (4 : Int)) = false := beq_eq_false_iff_ne.2 (by omega)
          have HLL : Hid (L = [100, 111, 110, 101]) := Lib.hid (by rw [HL.out]; unfold headT; dsimp only; rw [if_neg (by omega), if_neg (by omega), if_neg (by omega), if_neg (by omega)])
          clear h HL
          go_wp2_with fail
          refine (HD.out xn _ hxn).mono ?_
          rintro e w4 ⟨sx, rfl, hsx, hzx, rfl⟩
          go_wp2_with fail
          refine (HD.out yn _ hyn).mono ?_
          rintro e w5 ⟨sy, rfl, hsy, hzy, rfl⟩
          go_wp2_with fail
          go_roundw
          case rel => exact ⟨k + 1, want ++ ⟨#[100, 111, 110, 101, 10]⟩, by omega, rfl, by go_num, (by simp only [ByteArray.size_append, bsz, List.size_toArray, List.length_cons, List.length_nil]; omega), Lib.hid (by rw [← HA.out, HAT.out, HLL.out]; simp only [data_app]; simp), HB⟩
          case measure => simp [intOf]; omega
      · obtain rfl : k = p.length := by omega
        have d4 : decide (p.length < p.length) = false := by simp
        have HA' : Hid (want.data.toList = textP p) := Lib.hid (by rw [← HA.out, textP_end, List.append_nil])
        have HPT2 : Hid (∀ W, Below w.heap.size w W → Calls Tryd.prog 44 #[.slice (some ⟨b, off, none⟩) p.length cap] W (fun e w' => e = .returned (.tuple #[.string want, .nilIface]) ∧ Below w.heap.size w w')) := Lib.hid fun W hb => HPT.out want W HA' hb
        clear HA HPT
        have HB4 := HB
        clear HB
        go_wp2_with fail
        refine (HPT2.out _ HB4.out).mono ?_
        rintro e w5 ⟨rfl, hb5⟩
        have HB5 := Lib.hid hb5
        clear hb5 HB4
        go_wp2_with fail
        refine (HS0.out _ HB5.out).mono ?_
        rintro e w6 ⟨rfl, hb6⟩
        have HB6 := Lib.hid hb6
        clear hb6 HB5
        rcases HTWO.out with h | h
        · obtain ⟨HRF, HOF⟩ := h
          go_wp2_with fail
          refine (HRF.out _ HB6.out).mono ?_
          rintro e w7 ⟨rfl, hb7⟩
          have HB7 := Lib.hid hb7
          clear hb7 HB6
          go_wp2_with fail
          refine (HOF.out _ HB7.out).mono ?_
          rintro e w8 ⟨A3, n3, c3, rfl, hb8⟩
          have HB8 := Lib.hid hb8
          clear hb8 HB7
          go_wp2_with fail
          refine (HS0.out _ HB8.out).mono ?_
          rintro e w9 ⟨rfl, hb9⟩
          have HB9 := Lib.hid hb9
          clear hb9 HB8
          go_wp2_with fail
          go_ret
          exact ⟨rfl, HB9.out⟩
        · obtain ⟨m, hm, HRF, HOF, HSM⟩ := h
          go_wp2_with fail
          refine (HRF.out _ HB6.out).mono ?_
          rintro e w7 ⟨rfl, hb7⟩
          have HB7 := Lib.hid hb7
          clear hb7 HB6
          go_wp2_with fail
          refine (HOF.out _ HB7.out).mono ?_
          rintro e w8 ⟨rfl, hb8⟩
          have HB8 := Lib.hid hb8
          clear hb8 HB7
          go_wp2_with fail
          refine (HSM.out _ HB8.out).mono ?_
          rintro e w9 ⟨rfl, hb9⟩
          have HB9 := Lib.hid hb9
          clear hb9 HB8
          go_wp2_with fail
          go_ret
          exact ⟨rfl, HB9.out⟩
  · have hn0 : (chkP p == 0) = false := by simpa using hp
    have HSP := HSN _ hp
    have HRS : Hid (Calls Tryd.prog 41 #[.slice A p.length cap] w (fun e w' => e = .returned (.int .i64 (chkP p)) ∧ Below w.heap.size w w')) := Lib.hid (RSFault_any p _ w hr (by omega) hokc)
    have HPC : Hid (∀ W, Below w.heap.size w W → Calls Tryd.prog 42 #[.slice A p.length cap] W (fun e w' => e = .returned (.iface 23 (.int .i64 (chkP p))) ∧ Below w.heap.size w w')) := Lib.hid fun W hb => (PCheck_any p _ W (hr.below hb) (by omega)).mono (by
      rintro e w' ⟨h1, h2⟩
      rw [errV_ne hp] at h1
      exact ⟨h1, hb.trans (h2.mono hb.size)⟩)
    have HPT : Hid (∀ W, Below w.heap.size w W → Calls Tryd.prog 44 #[.slice A p.length cap] W (fun e w' => e = .returned (.tuple #[.string ⟨#[]⟩, .iface 23 (.int .i64 (chkP p))]) ∧ Below w.heap.size w w')) := Lib.hid fun W hb => (PText_no p _ W (hr.below hb) (by omega) hp).mono (by
      rintro e w' ⟨h1, h2⟩
      rw [errV_ne hp] at h1
      exact ⟨h1, hb.trans (h2.mono hb.size)⟩)
    clear hr hr2 hok hok2 hg ht hokc hokc2 hmem hmem2 hp HSN
    generalize chkP p = n at *
    go_enter Tryd.func8, Tryd.ntmps8
    go_wp2_with fail
    refine HRS.out.mono ?_
    rintro e w1 ⟨rfl, hb1⟩
    have HB1 := Lib.hid hb1
    clear hb1 HRS
    go_wp2_with fail
    refine (HPC.out _ HB1.out).mono ?_
    rintro e w2 ⟨rfl, hb2⟩
    have HB2 := Lib.hid hb2
    clear hb2 HB1
    go_wp2_with fail
    refine (HSP.out _ HB2.out).mono ?_
    rintro e w3 ⟨rfl, hb3⟩
    have HB3 := Lib.hid hb3
    clear hb3 HB2
    go_wp2_with fail
    refine (HPT.out _ HB3.out).mono ?_
    rintro e w4 ⟨rfl, hb4⟩
    have HB4 := Lib.hid hb4
    clear hb4 HB3
    go_wp2_with fail
    refine (HSP.out _ HB4.out).mono ?_
    rintro e w5 ⟨rfl, hb5⟩
    have HB5 := Lib.hid hb5
    clear hb5 HB4
    rcases HTWO.out with h | h
    · obtain ⟨HRF, HOF⟩ := h
      go_wp2_with fail
      refine (HRF.out _ HB5.out).mono ?_
      rintro e w6 ⟨rfl, hb6⟩
      have HB6 := Lib.hid hb6
      clear hb6 HB5
      go_wp2_with fail
      refine (HOF.out _ HB6.out).mono ?_
      rintro e w7 ⟨A3, n3, c3, rfl, hb7⟩
      have HB7 := Lib.hid hb7
      clear hb7 HB6
      go_wp2_with fail
      refine (HS0.out _ HB7.out).mono ?_
      rintro e w8 ⟨rfl, hb8⟩
      have HB8 := Lib.hid hb8
      clear hb8 HB7
      go_wp2_with fail
      go_ret
      exact ⟨rfl, HB8.out⟩
    · obtain ⟨m, hm, HRF, HOF, HSM⟩ := h
      go_wp2_with fail
      refine (HRF.out _ HB5.out).mono ?_
      rintro e w6 ⟨rfl, hb6⟩
      have HB6 := Lib.hid hb6
      clear hb6 HB5
      go_wp2_with fail
      refine (HOF.out _ HB6.out).mono ?_
      rintro e w7 ⟨rfl, hb7⟩
      have HB7 := Lib.hid hb7
      clear hb7 HB6
      go_wp2_with fail
      refine (HSM.out _ HB7.out).mono ?_
      rintro e w8 ⟨rfl, hb8⟩
      have HB8 := Lib.hid hb8
      clear hb8 HB7
      go_wp2_with fail
      go_ret
      exact ⟨rfl, HB8.out⟩

/-! ### THE ROW's STEP -/
set_option maxRecDepth 100000 in
theorem lifted (os : Os) (started : os.Started) (H : Type) (enc : TypeId × Value → H) :
    ReturnsInHanded {} Tryd.checked os 8 .any (fun w args => (Rows.progIsSpec.pre enc Tryd.prog Tryd.f8 [] false w args ∧ laidMetH Tryd.prog laidL w) ∧ sizedMet enc Tryd.prog Tryd.f8 (OpenSpec.ofChange Rows.progIsSpec) false w args)
      (Rows.progIsSpec.post enc Tryd.prog Tryd.f8 false true false false) := by
  refine returnsInHanded_of_change_and (C := Tryd.checked) (X := fun w _ => laidMetH Tryd.prog laidL w) (fun _ _ _ hh h => h.of_heap hh) own started (by kernel_rfl) Tryd.func8
    (ChangeSpec.witness_at (enc := enc) (C := Tryd.checked) (os := os) (X := fun w _ => laidMetH Tryd.prog laidL w) false (laidWorld os) #[.slice none 0 0, .slice none 0 0] 8 rfl (by kernel_rfl) (by kernel_rfl) (by kernel_rfl) (by kernel_rfl) (by kernel_rfl) (laidWorld_met os _)) ?_
  intro W base args ds gs before hval0 hW hcnd _ hL _
  have hval : ∀ (j : Nat) t v, Tryd.f8.params[j]? = some t → args[j]? = some v → Value.okWide Tryd.prog W .any base t v := hval0
  have hW' := hW
  obtain ⟨p, q, hA0, hV, rfl, hfz, hnd⟩ := hW
  have hA : DataW.TrodAll enc Tryd.prog W 0 (fun _ => true) true Tryd.f8.params.toList args.toList ds p := hA0
  rw [Tryd.params8] at hA hval
  obtain ⟨v0, vs0, d0, ds0, p0, q0, hargs, rfl, rfl, h0, r0⟩ := trodAll_cons hA
  obtain ⟨v1, vs1, d1, ds1, p1, q1, rfl, rfl, rfl, h1, r1⟩ := trodAll_cons r0
  obtain ⟨rfl, rfl, rfl⟩ := trodAll_nil r1
  obtain rfl : args = #[v0, v1] := by cases args; simp_all
  obtain ⟨rfl, rfl⟩ := trodVars_none hV
  have hg := handle_of_laid hL
  have ht := tab_of_laid hL
  obtain ⟨a0, len0, cap0, rfl⟩ := okWide_slice Tryd.underlying72 (hval 0 72 v0 rfl rfl)
  have k0 := h0
  have lt0 : ∀ x ∈ p0, x.block < W.heap.size := by obtain ⟨m, hm⟩ := k0; exact DataW.trod_lt m _ _ _ hm
  obtain ⟨z0, w0, ok0⟩ : ∃ l, RdS W (.slice a0 len0 cap0) l ∧ ∀ nd ∈ l, okSt nd := by obtain ⟨fuel, hf⟩ := h0; exact open_steps (by simpa [Value.cells] using hf)
  obtain ⟨a1, len1, cap1, rfl⟩ := okWide_slice Tryd.underlying22 (hval 1 22 v1 rfl rfl)
  have k1 := h1
  have lt1 : ∀ x ∈ p1, x.block < W.heap.size := by obtain ⟨m, hm⟩ := k1; exact DataW.trod_lt m _ _ _ hm
  obtain ⟨z1, w1, ok1⟩ : ∃ l, RdN W (.slice a1 len1 cap1) l ∧ ∀ nd ∈ l, okNd nd := by obtain ⟨fuel, hf⟩ := h1; exact open_nodes (by simpa [Value.cells] using hf)
  clear hA0 hval0
  refine (walk z0 z1 _ _ W w0 w1 ok0 ok1 hg ht).mono fun e W' ⟨he, bel⟩ => ?_
  subst he
  exact ⟨_, rfl, _, _, _, [], _, [], hW', trodAll_mk1 (shut_bool Tryd.underlying4 _), (trodAll_cons_mk (Below.trod laidOut (by kernel_rfl) (of_decide_eq_true (by kernel_rfl)) k0 bel lt0) (trodAll_cons_mk (Below.trod laidOut (by kernel_rfl) (of_decide_eq_true (by kernel_rfl)) k1 bel lt1) trodAll_mk0)), rfl, bel.frame _, fun h => by cases h⟩

theorem over : Rows.progIsRow.holds Tryd.pinned (OpenSpec.ofChange Rows.progIsSpec) :=
  OpenClaim.holds_of_wide 8 Tryd.f8 rfl rfl rfl rfl rfl rfl rfl ⟨rfl, rfl, rfl, rfl, rfl⟩ rfl rfl rfl rfl rfl (by kernel_rfl) Tryd.func8 (by kernel_rfl)
    (of_decide_eq_true (by kernel_rfl)) (by unfold Func.isWrapper; first | (rw [if_pos (by decide +kernel)]; kernel_rfl) | (rw [if_neg (by decide +kernel)]; exact ⟨rfl, rfl⟩))
    (fun os started H enc _ => lifted os started H enc)

/-- THE STATEMENT: the tied card. -/
theorem proved : Rows.ProgIsCardSaid :=
  Claim7.holds_tied_plain_at .later [] [.data, .data, .data, .handle] true (true, "f45a1604785a151641de101bbe54cc07bb79ece424cdf2959cfd764ef295316a") true
    over (fun _ h => by cases h) (by kernel_rfl) (fun _ h => by cases h) progIs_row_tie rfl ⟨rfl, rfl⟩ (by kernel_rfl) rfl
    (fun f fn hf hfn => by
      obtain rfl : f = 8 := Option.some.inj ((show Tryd.prog.funcNamed "winnowfan/winnowfanlaw2.ProgIs" = some 8 by kernel_rfl).symm.trans hf) |>.symm
      obtain rfl : fn = Tryd.f8 := (Option.some.inj (Tryd.func8.symm.trans hfn)).symm
      exact ⟨by kernel_rfl, fun j t ht => by
        rw [Tryd.params8] at ht
        match j, ht with
        | 0, ht =>
          have e : t = 72 := by simpa using ht.symm
          subst e
          exact (show Tryd.prog.wantsStandIn 72 = false by kernel_rfl)
        | 1, ht =>
          have e : t = 22 := by simpa using ht.symm
          subst e
          exact (show Tryd.prog.wantsStandIn 22 = false by kernel_rfl)
        | j + 2, ht => simp at ht⟩)
    (by kernel_rfl)


end Go.Proofs.YthcahjnniendnabDoor.progIs
