/-
  winnowfanlaw1.SynBack: the walk.
-/
import Derived.Test.YthcahjnniendnacGreatDoorAs
import Derived.Test.YthcahjnniendnacGreatDoorFindE
import Derived.Test.YthcahjnniendnacGreatDoorGCls
import Derived.Test.YthcahjnniendnacGreatDoorGPrt
import Derived.Test.YthcahjnniendnacGreatDoorGSynJ
import Derived.Test.YthcahjnniendnacGreatDoorLaw
import Derived.Test.YthcahjnniendnacGreatDoorOpen
import Derived.Lib.SlicesS
namespace Go.Proofs.YthcahjnniendnacGreatDoor.synBack
open Go.RowKit Wf
open law (own laidOut LawIs)
set_option linter.unusedVariables false

/-- The fact's row of nodes, as it is built. -/
theorem fact_rd (w : World) (B : Nat) (hB : w.heap.size = B) (a0 a1 a2 a3 : Nat) : RdN (w.alloc (.cells #[.int .i64 5, .int .u64 0, .int .u64 0, .int .u64 0, .int .u64 0, .int .i64 4, .int .u64 0, .int .u64 0, .int .u64 0, .int .u64 0, .int .i64 1, .int .u64 (a0 : Int), .int .u64 (a1 : Int), .int .u64 (a2 : Int), .int .u64 (a3 : Int), .int .i64 2, .int .u64 0, .int .u64 0, .int .u64 0, .int .u64 0] 41)) (.slice (some ⟨B, 0, none⟩) 4 4) [⟨5, zc⟩, ⟨4, zc⟩, ⟨1, (a0, a1, a2, a3)⟩, ⟨2, zc⟩] := by
  subst hB
  refine ⟨_, 4, 4, rfl, by omega, by omega, rfl, fun _ => ⟨_, 0, rfl, fun j u hu => ?_⟩⟩
  rw [Nat.zero_add, World.cell?_alloc_new, ← hu]
  simp [ndCells, zc]
theorem fact_text : textT (.star (.alt (.byte (ofL [97] zc)) .empty)) = [40, 97, 124, 41, 42] := by
  have h1 : textC (ofL [97] zc) = [97] := by
    have h2 : cntC (ofL [97] zc) = 1 := by decide +kernel
    have h3 := (cnt_one_least h2)
    unfold textC
    rw [if_pos h2]
    decide +kernel
  simp [textT, h1, wrapT, bnd]
theorem fact_is (c : Cls) (hc : c = ofL [97] zc) : printR [⟨5, zc⟩, ⟨4, zc⟩, ⟨1, c⟩, ⟨2, zc⟩] (.star (.alt (.byte c) .empty)) = ([40, 97, 124, 41, 42], 0) := by
  have h1 : chk [⟨5, zc⟩, ⟨4, zc⟩, ⟨1, c⟩, ⟨2, zc⟩] = 0 := chk_flat (.star (.alt (.byte c) .empty)) (by simp [flat])
  unfold printR
  rw [if_neg (by simp [h1]), hc, fact_text, if_pos (by simp)]
theorem printR_zero {l : List Nd} {t : Rx} (ht : chk l = 0 → l = flat t) {T : List UInt8} (h : printR l t = (T, 0)) : chk l = 0 ∧ l = flat t ∧ T = textT t ∧ T.length ≤ 200 := by
  unfold printR at h
  split at h
  · rename_i hc; exact absurd (Prod.mk.inj h).2 hc
  · rename_i hc
    have hc0 : chk l = 0 := by simpa using hc
    split at h
    · rename_i hl
      have := (Prod.mk.inj h).1
      exact ⟨hc0, ht hc0, this.symm, by rw [← this]; exact hl⟩
    · cases h
/-- What is printed is read. -/
theorem readP_print {l : List Nd} {t : Rx} (ht : chk l = 0 → l = flat t) (hok : ∀ n ∈ l, okC n.cls) {T : List UInt8} (h : printR l t = (T, 0)) : readP ⟨T.toArray⟩ = some l := by
  obtain ⟨h1, h2, h3, h4⟩ := printR_zero ht h
  have hs : (ByteArray.mk T.toArray).size = T.length := by show T.toArray.size = _; simp
  have h60 := (chk_tree h1).1
  have hw := print_whole t (by unfold okT; rw [← h2]; exact hok)
  rw [h2]
  refine readP_of (by rw [hs]; exact h4) ?_ (by rw [← h2]; exact h60)
  rw [hs]
  show orS T 0 = _
  rw [h3]
  exact hw
theorem printR_same {l o : List Nd} {t u : Rx} (ht : chk l = 0 → l = flat t) (hu : chk o = 0 → o = flat u) (hok : ∀ n ∈ l, okC n.cls) (hok2 : ∀ n ∈ o, okC n.cls) {T U : List UInt8} (h : printR l t = (T, 0)) (k : printR o u = (U, 0)) : T = U ↔ l = o := by
  obtain ⟨h1, h2, h3, _⟩ := printR_zero ht h
  obtain ⟨k1, k2, k3, _⟩ := printR_zero hu k
  constructor
  · intro e
    have := textT_inj (t := t) (u := u) (by unfold okT; rw [← h2]; exact hok) (by unfold okT; rw [← k2]; exact hok2) (by rw [← h3, ← k3, e])
    rw [h2, k2, this]
  · intro e
    have e2 : flat t = flat u := by rw [← h2, ← k2, e]
    have := (flat_inj t u [] [] (by simpa using e2)).1
    rw [h3, k3, this]
/-- A text that is read. -/
theorem readP_tree {s : ByteArray} {l : List Nd} (h : readP s = some l) : ∃ t, l = flat t ∧ chk l = 0 ∧ ∀ n ∈ l, okC n.cls := by
  obtain ⟨_, t, hr, hf, rfl⟩ := readP_ok h
  exact ⟨t, rfl, chk_flat t hf, ((read_ok (s := s.data.toList) _ 0 (Nat.le_refl _) (Nat.zero_le _)).2.2 _ _ hr).2.2.1⟩
theorem ba_mk {T U : List UInt8} : (ByteArray.mk T.toArray = ByteArray.mk U.toArray) ↔ T = U := by
  constructor
  · intro h
    injection h with h
    exact Array.toList_inj.2 h |> fun h => by simpa using h
  · intro h; rw [h]
theorem ba_bool (x y : ByteArray) (b : Bool) (h : x = y ↔ b = true) : decide (x = y) = b ∧ (x.toList == y.toList) = b := by
  have e2 := Lib.bytes_beq_iff x y
  cases b
  · have hn : ¬ x = y := fun e => by have := h.1 e; cases this
    exact ⟨by simpa using hn, (Lib.bytes_beq_false_iff x y).2 hn⟩
  · exact ⟨by simpa using h.2 rfl, e2.2 (h.2 rfl)⟩

set_option maxRecDepth 100000 in
set_option maxHeartbeats 16000000 in
theorem walk {ev : Value} (l o : List Nd) (v v2 : Value) (s : ByteArray) (w : World) (hr : RdN w v l) (hr2 : RdN w v2 o) (hok : ∀ n ∈ l, okNd n) (hok2 : ∀ n ∈ o, okNd n) (hs : s.size ≤ maxLen) (hg : ErrT w) (hev : SynE ev w) :
    Calls Tryz.prog 4 #[v, v2, .string s] w (LawIs w) := by
  have hokc : ∀ n ∈ l, okC n.cls := fun n hn => (hok n hn).2.2
  have hokc2 : ∀ n ∈ o, okC n.cls := fun n hn => (hok2 n hn).2.2
  obtain ⟨t, ht⟩ := tree_of l
  obtain ⟨u, hu⟩ := tree_of o
  have HPR := Lib.hid (fun W h => Print_c l t ht hokc v W h)
  have HPO := Lib.hid (fun W h => Print_c o u hu hokc2 v2 W h)
  unfold PrintsIs at HPR HPO
  have HR := Lib.hid hr
  have HR2 := Lib.hid hr2
  have HG := Lib.hid hg
  have HEV := Lib.hid hev
  have HFI := Lib.hid fun (a0 a1 a2 a3 : Nat) (h : (a0, a1, a2, a3) = ofL [97] zc) W v (hr : RdN W v [⟨5, zc⟩, ⟨4, zc⟩, ⟨1, (a0, a1, a2, a3)⟩, ⟨2, zc⟩]) => (show Calls Tryz.prog 10 #[v] W (PrintsIs ([40, 97, 124, 41, 42], 0) W) from by
    have := Print_c [⟨5, zc⟩, ⟨4, zc⟩, ⟨1, (a0, a1, a2, a3)⟩, ⟨2, zc⟩] (.star (.alt (.byte (a0, a1, a2, a3)) .empty)) (fun _ => rfl) (by
      intro n hn
      simp at hn
      rcases hn with rfl | rfl | rfl | rfl
      · exact okC_zc
      · exact okC_zc
      · show okC (a0, a1, a2, a3)
        rw [h]; exact okC_ofL _ _ okC_zc
      · exact okC_zc) v W hr
    rw [fact_is _ h] at this
    exact this)
  unfold PrintsIs at HFI
  obtain ⟨⟨T, c⟩, hR⟩ : ∃ R, R = printR l t := ⟨_, rfl⟩
  obtain ⟨⟨U, d⟩, hO⟩ : ∃ R, R = printR o u := ⟨_, rfl⟩
  rw [← hR] at HPR
  rw [← hO] at HPO
  dsimp only at HPR HPO
  obtain ⟨Tb, hTb⟩ : ∃ Tb : ByteArray, Tb = ⟨T.toArray⟩ := ⟨_, rfl⟩
  obtain ⟨Ub, hUb⟩ : ∃ Ub : ByteArray, Ub = ⟨U.toArray⟩ := ⟨_, rfl⟩
  rw [← hTb] at HPR
  rw [← hUb] at HPO
  have HRDP : Hid (c = 0 → readP Tb = some l) := Lib.hid fun h => by rw [hTb]; exact readP_print ht hokc (by rw [← hR, h])
  have HSAME : Hid (c = 0 → d = 0 → (Tb = Ub ↔ l = o)) := Lib.hid fun h k => by rw [hTb, hUb, ba_mk]; exact printR_same ht hu hokc hokc2 (by rw [← hR, h]) (by rw [← hO, k])
  have hc0 : c = 0 ∨ c ≠ 0 := by omega
  have hd0 : d = 0 ∨ d ≠ 0 := by omega
  clear hr hr2 hok hok2 hokc hokc2 ht hu hg hev hR hO hTb hUb
  go_enter Tryz.func4, Tryz.ntmps4
  go_wp2_with fail
  refine (Of_any ⟨#[97]⟩ _ (by decide)).mono ?_
  rintro e w1 ⟨a0, a1, a2, a3, rfl, ha, hb1⟩
  have HBa := Lib.hid ((Below.refl _ w1).alloc (Nat.le_refl _) (.cells #[.int .i64 5, .int .u64 0, .int .u64 0, .int .u64 0, .int .u64 0, .int .i64 4, .int .u64 0, .int .u64 0, .int .u64 0, .int .u64 0, .int .i64 1, .int .u64 (a0 : Int), .int .u64 (a1 : Int), .int .u64 (a2 : Int), .int .u64 (a3 : Int), .int .i64 2, .int .u64 0, .int .u64 0, .int .u64 0, .int .u64 0] 41))
  have HF1 := Lib.hid (HFI.out a0 a1 a2 a3 ha _ _ (fact_rd w1 _ rfl a0 a1 a2 a3))
  have HB1 := Lib.hid hb1
  clear hb1 ha HFI
  go_wp2_with fail
  refine HF1.out.mono ?_
  rintro e w2 ⟨rfl, hb2⟩
  have HB2 := Lib.hid (HB1.out.trans ((HBa.out.trans (hb2.mono (by simp))).mono HB1.out.size))
  rw [errV_zero]
  clear hb2 HF1 HBa
  go_wp2_with fail
  refine (HPR.out w2 (HR.out.below HB2.out)).mono ?_
  rintro e w3 ⟨rfl, hb3⟩
  have HB3 := Lib.hid (HB2.out.trans (hb3.mono HB2.out.size))
  clear hb3 HPR
  rcases hc0 with rfl | hc
  · rw [errV_zero]
    have HRP := Lib.hid (Parse_some (ev := ev) Tb l w3 (HEV.out.below HB3.out) (HRDP.out (by first | rfl | trivial)))
    unfold PNodes at HRP
    obtain ⟨N, hN⟩ : ∃ N, N = l.length := ⟨_, rfl⟩
    rw [← hN] at HRP
    clear hN HRDP
    go_wp2_with fail
    refine HRP.out.mono ?_
    rintro e w4 ⟨g4, cap4, rfl, ho4, hb4⟩
    have HB4 := Lib.hid (HB3.out.trans (hb4.mono HB3.out.size))
    have HNO := Lib.hid (Nodes_any l l _ _ w4 (Rd.of_own ho4) (HR.out.below HB4.out))
    unfold NodesIs at HNO
    clear ho4 hb4 HRP
    go_wp2_with fail
    refine HNO.out.mono ?_
    rintro e w5 ⟨r5, rfl, hr5, hb5⟩
    obtain rfl : r5 = true := by simpa using hr5
    have HB5 := Lib.hid (HB4.out.trans (hb5.mono HB4.out.size))
    clear hr5 hb5 HNO
    go_wp2_with fail
    refine (HPO.out w5 (HR2.out.below HB5.out)).mono ?_
    rintro e w6 ⟨rfl, hb6⟩
    have HB6 := Lib.hid (HB5.out.trans (hb6.mono HB5.out.size))
    have HNL := Lib.hid (Nodes_any l o _ _ w6 (HR.out.below HB6.out) (HR2.out.below HB6.out))
    unfold NodesIs at HNL
    clear hb6 HPO
    go_wp2_with fail
    refine HNL.out.mono ?_
    rintro e w7 ⟨r7, rfl, hr7, hb7⟩
    have HB7 := Lib.hid (HB6.out.trans (hb7.mono HB6.out.size))
    clear hb7 HNL
    rcases hd0 with rfl | hd
    · rw [errV_zero]
      obtain ⟨q2, q3⟩ := ba_bool Tb Ub r7 (by rw [hr7]; exact HSAME.out (by first | rfl | trivial) (by first | rfl | trivial))
      clear hr7 HSAME
      cases r7 with
      | true =>
        have HEVx := Lib.hid (HEV.out.below HB7.out)
        cases hp : readP s with
        | none =>
          have HP := Lib.hid (Parse_none (ev := ev) s w7 HEVx.out hp)
          unfold PNone at HP
          clear hp
          go_wp2_with fail
          refine HP.out.mono ?_
          rintro e y1 ⟨k, n, rfl, hby⟩
          have HBY := Lib.hid (HB7.out.trans (hby.mono HB7.out.size))
          clear hby
          go_wp2_with fail
          go_ret
          exact ⟨rfl, HBY.out⟩
        | some l2 =>
          have HP := Lib.hid (Parse_some (ev := ev) s l2 w7 HEVx.out hp)
          unfold PNodes at HP
          obtain ⟨t2, hl2, hk2, ho2⟩ := readP_tree hp
          have HPR2 := Lib.hid (fun v W h => Print_c l2 t2 (fun _ => hl2) ho2 v W h)
          unfold PrintsIs at HPR2
          have HRD2 := Lib.hid (fun T (h : printR l2 t2 = (T, 0)) => readP_print (fun _ => hl2) ho2 h)
          have h03 : (printR l2 t2).2 = 0 ∨ (printR l2 t2).2 = 3 := by
            unfold printR
            rw [if_neg (by simp [hk2])]
            split <;> simp
          obtain ⟨⟨T2, c2⟩, hR2⟩ : ∃ R, R = printR l2 t2 := ⟨_, rfl⟩
          rw [← hR2] at HPR2 HRD2 h03
          dsimp only at HPR2 h03
          obtain ⟨N2, hN2⟩ : ∃ N, N = l2.length := ⟨_, rfl⟩
          have HN2 := Lib.hid hN2
          rw [← hN2] at HP
          clear hp hl2 hk2 ho2 hR2 hN2
          go_wp2_with fail
          refine HP.out.mono ?_
          rintro e y1 ⟨g1, cap1, rfl, hoy, hby⟩
          have HBY := Lib.hid (HB7.out.trans (hby.mono HB7.out.size))
          have HOY := Lib.hid (Rd.of_own hoy)
          clear hoy hby HP
          go_wp2_with fail
          refine (HPR2.out _ y1 HOY.out).mono ?_
          rintro e y2 ⟨rfl, hby⟩
          have HBZ := Lib.hid (HBY.out.trans (hby.mono HBY.out.size))
          have HOZ := Lib.hid (Rd.below HOY.out hby)
          clear hby HPR2 HOY
          rcases h03 with rfl | rfl
          · have HPZ := Lib.hid (Parse_some (ev := ev) ⟨T2.toArray⟩ l2 y2 (HEV.out.below HBZ.out) (HRD2.out T2 rfl))
            unfold PNodes at HPZ
            rw [← HN2.out] at HPZ
            rw [errV_zero]
            clear HRD2
            go_wp2_with fail
            refine HPZ.out.mono ?_
            rintro e y3 ⟨g3, cap3, rfl, ho3, hb3⟩
            have HB5 := Lib.hid (HBZ.out.trans (hb3.mono HBZ.out.size))
            have HNO := Lib.hid (Nodes_any l2 l2 _ _ y3 (Rd.of_own ho3) (Rd.below HOZ.out hb3))
            unfold NodesIs at HNO
            clear ho3 hb3 HPZ
            go_wp2_with fail
            refine HNO.out.mono ?_
            rintro e y4 ⟨r4, rfl, hr4, hb4⟩
            obtain rfl : r4 = true := by simpa using hr4
            have HB6 := Lib.hid (HB5.out.trans (hb4.mono HB5.out.size))
            clear hr4 hb4
            go_wp2_with fail
            go_ret
            exact ⟨rfl, HB6.out⟩
          · have HSE := Lib.hid (SErr_any 3 3 y2 (HG.out.below HBZ.out))
            rw [errV_ne (by decide)]
            rw [errV_ne (by decide)] at HSE
            clear HRD2
            go_wp2_with fail
            refine HSE.out.mono ?_
            rintro e y4 ⟨r4, rfl, hr4, hb4⟩
            obtain rfl : r4 = true := hr4.2 rfl
            have HB6 := Lib.hid (HBZ.out.trans (hb4.mono HBZ.out.size))
            clear hr4 hb4
            go_wp2_with fail
            go_ret
            exact ⟨rfl, HB6.out⟩
      | false =>
        have HEVx := Lib.hid (HEV.out.below HB7.out)
        cases hp : readP s with
        | none =>
          have HP := Lib.hid (Parse_none (ev := ev) s w7 HEVx.out hp)
          unfold PNone at HP
          clear hp
          go_wp2_with fail
          refine HP.out.mono ?_
          rintro e y1 ⟨k, n, rfl, hby⟩
          have HBY := Lib.hid (HB7.out.trans (hby.mono HB7.out.size))
          clear hby
          go_wp2_with fail
          go_ret
          exact ⟨rfl, HBY.out⟩
        | some l2 =>
          have HP := Lib.hid (Parse_some (ev := ev) s l2 w7 HEVx.out hp)
          unfold PNodes at HP
          obtain ⟨t2, hl2, hk2, ho2⟩ := readP_tree hp
          have HPR2 := Lib.hid (fun v W h => Print_c l2 t2 (fun _ => hl2) ho2 v W h)
          unfold PrintsIs at HPR2
          have HRD2 := Lib.hid (fun T (h : printR l2 t2 = (T, 0)) => readP_print (fun _ => hl2) ho2 h)
          have h03 : (printR l2 t2).2 = 0 ∨ (printR l2 t2).2 = 3 := by
            unfold printR
            rw [if_neg (by simp [hk2])]
            split <;> simp
          obtain ⟨⟨T2, c2⟩, hR2⟩ : ∃ R, R = printR l2 t2 := ⟨_, rfl⟩
          rw [← hR2] at HPR2 HRD2 h03
          dsimp only at HPR2 h03
          obtain ⟨N2, hN2⟩ : ∃ N, N = l2.length := ⟨_, rfl⟩
          have HN2 := Lib.hid hN2
          rw [← hN2] at HP
          clear hp hl2 hk2 ho2 hR2 hN2
          go_wp2_with fail
          refine HP.out.mono ?_
          rintro e y1 ⟨g1, cap1, rfl, hoy, hby⟩
          have HBY := Lib.hid (HB7.out.trans (hby.mono HB7.out.size))
          have HOY := Lib.hid (Rd.of_own hoy)
          clear hoy hby HP
          go_wp2_with fail
          refine (HPR2.out _ y1 HOY.out).mono ?_
          rintro e y2 ⟨rfl, hby⟩
          have HBZ := Lib.hid (HBY.out.trans (hby.mono HBY.out.size))
          have HOZ := Lib.hid (Rd.below HOY.out hby)
          clear hby HPR2 HOY
          rcases h03 with rfl | rfl
          · have HPZ := Lib.hid (Parse_some (ev := ev) ⟨T2.toArray⟩ l2 y2 (HEV.out.below HBZ.out) (HRD2.out T2 rfl))
            unfold PNodes at HPZ
            rw [← HN2.out] at HPZ
            rw [errV_zero]
            clear HRD2
            go_wp2_with fail
            refine HPZ.out.mono ?_
            rintro e y3 ⟨g3, cap3, rfl, ho3, hb3⟩
            have HB5 := Lib.hid (HBZ.out.trans (hb3.mono HBZ.out.size))
            have HNO := Lib.hid (Nodes_any l2 l2 _ _ y3 (Rd.of_own ho3) (Rd.below HOZ.out hb3))
            unfold NodesIs at HNO
            clear ho3 hb3 HPZ
            go_wp2_with fail
            refine HNO.out.mono ?_
            rintro e y4 ⟨r4, rfl, hr4, hb4⟩
            obtain rfl : r4 = true := by simpa using hr4
            have HB6 := Lib.hid (HB5.out.trans (hb4.mono HB5.out.size))
            clear hr4 hb4
            go_wp2_with fail
            go_ret
            exact ⟨rfl, HB6.out⟩
          · have HSE := Lib.hid (SErr_any 3 3 y2 (HG.out.below HBZ.out))
            rw [errV_ne (by decide)]
            rw [errV_ne (by decide)] at HSE
            clear HRD2
            go_wp2_with fail
            refine HSE.out.mono ?_
            rintro e y4 ⟨r4, rfl, hr4, hb4⟩
            obtain rfl : r4 = true := hr4.2 rfl
            have HB6 := Lib.hid (HBZ.out.trans (hb4.mono HBZ.out.size))
            clear hr4 hb4
            go_wp2_with fail
            go_ret
            exact ⟨rfl, HB6.out⟩
    · rw [errV_ne hd]
      clear hr7 HSAME hd
      have HEVx := Lib.hid (HEV.out.below HB7.out)
      cases hp : readP s with
      | none =>
        have HP := Lib.hid (Parse_none (ev := ev) s w7 HEVx.out hp)
        unfold PNone at HP
        clear hp
        go_wp2_with fail
        refine HP.out.mono ?_
        rintro e y1 ⟨k, n, rfl, hby⟩
        have HBY := Lib.hid (HB7.out.trans (hby.mono HB7.out.size))
        clear hby
        go_wp2_with fail
        go_ret
        exact ⟨rfl, HBY.out⟩
      | some l2 =>
        have HP := Lib.hid (Parse_some (ev := ev) s l2 w7 HEVx.out hp)
        unfold PNodes at HP
        obtain ⟨t2, hl2, hk2, ho2⟩ := readP_tree hp
        have HPR2 := Lib.hid (fun v W h => Print_c l2 t2 (fun _ => hl2) ho2 v W h)
        unfold PrintsIs at HPR2
        have HRD2 := Lib.hid (fun T (h : printR l2 t2 = (T, 0)) => readP_print (fun _ => hl2) ho2 h)
        have h03 : (printR l2 t2).2 = 0 ∨ (printR l2 t2).2 = 3 := by
          unfold printR
          rw [if_neg (by simp [hk2])]
          split <;> simp
        obtain ⟨⟨T2, c2⟩, hR2⟩ : ∃ R, R = printR l2 t2 := ⟨_, rfl⟩
        rw [← hR2] at HPR2 HRD2 h03
        dsimp only at HPR2 h03
        obtain ⟨N2, hN2⟩ : ∃ N, N = l2.length := ⟨_, rfl⟩
        have HN2 := Lib.hid hN2
        rw [← hN2] at HP
        clear hp hl2 hk2 ho2 hR2 hN2
        go_wp2_with fail
        refine HP.out.mono ?_
        rintro e y1 ⟨g1, cap1, rfl, hoy, hby⟩
        have HBY := Lib.hid (HB7.out.trans (hby.mono HB7.out.size))
        have HOY := Lib.hid (Rd.of_own hoy)
        clear hoy hby HP
        go_wp2_with fail
        refine (HPR2.out _ y1 HOY.out).mono ?_
        rintro e y2 ⟨rfl, hby⟩
        have HBZ := Lib.hid (HBY.out.trans (hby.mono HBY.out.size))
        have HOZ := Lib.hid (Rd.below HOY.out hby)
        clear hby HPR2 HOY
        rcases h03 with rfl | rfl
        · have HPZ := Lib.hid (Parse_some (ev := ev) ⟨T2.toArray⟩ l2 y2 (HEV.out.below HBZ.out) (HRD2.out T2 rfl))
          unfold PNodes at HPZ
          rw [← HN2.out] at HPZ
          rw [errV_zero]
          clear HRD2
          go_wp2_with fail
          refine HPZ.out.mono ?_
          rintro e y3 ⟨g3, cap3, rfl, ho3, hb3⟩
          have HB5 := Lib.hid (HBZ.out.trans (hb3.mono HBZ.out.size))
          have HNO := Lib.hid (Nodes_any l2 l2 _ _ y3 (Rd.of_own ho3) (Rd.below HOZ.out hb3))
          unfold NodesIs at HNO
          clear ho3 hb3 HPZ
          go_wp2_with fail
          refine HNO.out.mono ?_
          rintro e y4 ⟨r4, rfl, hr4, hb4⟩
          obtain rfl : r4 = true := by simpa using hr4
          have HB6 := Lib.hid (HB5.out.trans (hb4.mono HB5.out.size))
          clear hr4 hb4
          go_wp2_with fail
          go_ret
          exact ⟨rfl, HB6.out⟩
        · have HSE := Lib.hid (SErr_any 3 3 y2 (HG.out.below HBZ.out))
          rw [errV_ne (by decide)]
          rw [errV_ne (by decide)] at HSE
          clear HRD2
          go_wp2_with fail
          refine HSE.out.mono ?_
          rintro e y4 ⟨r4, rfl, hr4, hb4⟩
          obtain rfl : r4 = true := hr4.2 rfl
          have HB6 := Lib.hid (HBZ.out.trans (hb4.mono HBZ.out.size))
          clear hr4 hb4
          go_wp2_with fail
          go_ret
          exact ⟨rfl, HB6.out⟩
  · rw [errV_ne hc]
    clear hc HSAME HRDP HPO
    have HEVx := Lib.hid (HEV.out.below HB3.out)
    cases hp : readP s with
    | none =>
      have HP := Lib.hid (Parse_none (ev := ev) s w3 HEVx.out hp)
      unfold PNone at HP
      clear hp
      go_wp2_with fail
      refine HP.out.mono ?_
      rintro e y1 ⟨k, n, rfl, hby⟩
      have HBY := Lib.hid (HB3.out.trans (hby.mono HB3.out.size))
      clear hby
      go_wp2_with fail
      go_ret
      exact ⟨rfl, HBY.out⟩
    | some l2 =>
      have HP := Lib.hid (Parse_some (ev := ev) s l2 w3 HEVx.out hp)
      unfold PNodes at HP
      obtain ⟨t2, hl2, hk2, ho2⟩ := readP_tree hp
      have HPR2 := Lib.hid (fun v W h => Print_c l2 t2 (fun _ => hl2) ho2 v W h)
      unfold PrintsIs at HPR2
      have HRD2 := Lib.hid (fun T (h : printR l2 t2 = (T, 0)) => readP_print (fun _ => hl2) ho2 h)
      have h03 : (printR l2 t2).2 = 0 ∨ (printR l2 t2).2 = 3 := by
        unfold printR
        rw [if_neg (by simp [hk2])]
        split <;> simp
      obtain ⟨⟨T2, c2⟩, hR2⟩ : ∃ R, R = printR l2 t2 := ⟨_, rfl⟩
      rw [← hR2] at HPR2 HRD2 h03
      dsimp only at HPR2 h03
      obtain ⟨N2, hN2⟩ : ∃ N, N = l2.length := ⟨_, rfl⟩
      have HN2 := Lib.hid hN2
      rw [← hN2] at HP
      clear hp hl2 hk2 ho2 hR2 hN2
      go_wp2_with fail
      refine HP.out.mono ?_
      rintro e y1 ⟨g1, cap1, rfl, hoy, hby⟩
      have HBY := Lib.hid (HB3.out.trans (hby.mono HB3.out.size))
      have HOY := Lib.hid (Rd.of_own hoy)
      clear hoy hby HP
      go_wp2_with fail
      refine (HPR2.out _ y1 HOY.out).mono ?_
      rintro e y2 ⟨rfl, hby⟩
      have HBZ := Lib.hid (HBY.out.trans (hby.mono HBY.out.size))
      have HOZ := Lib.hid (Rd.below HOY.out hby)
      clear hby HPR2 HOY
      rcases h03 with rfl | rfl
      · have HPZ := Lib.hid (Parse_some (ev := ev) ⟨T2.toArray⟩ l2 y2 (HEV.out.below HBZ.out) (HRD2.out T2 rfl))
        unfold PNodes at HPZ
        rw [← HN2.out] at HPZ
        rw [errV_zero]
        clear HRD2
        go_wp2_with fail
        refine HPZ.out.mono ?_
        rintro e y3 ⟨g3, cap3, rfl, ho3, hb3⟩
        have HB5 := Lib.hid (HBZ.out.trans (hb3.mono HBZ.out.size))
        have HNO := Lib.hid (Nodes_any l2 l2 _ _ y3 (Rd.of_own ho3) (Rd.below HOZ.out hb3))
        unfold NodesIs at HNO
        clear ho3 hb3 HPZ
        go_wp2_with fail
        refine HNO.out.mono ?_
        rintro e y4 ⟨r4, rfl, hr4, hb4⟩
        obtain rfl : r4 = true := by simpa using hr4
        have HB6 := Lib.hid (HB5.out.trans (hb4.mono HB5.out.size))
        clear hr4 hb4
        go_wp2_with fail
        go_ret
        exact ⟨rfl, HB6.out⟩
      · have HSE := Lib.hid (SErr_any 3 3 y2 (HG.out.below HBZ.out))
        rw [errV_ne (by decide)]
        rw [errV_ne (by decide)] at HSE
        clear HRD2
        go_wp2_with fail
        refine HSE.out.mono ?_
        rintro e y4 ⟨r4, rfl, hr4, hb4⟩
        obtain rfl : r4 = true := hr4.2 rfl
        have HB6 := Lib.hid (HBZ.out.trans (hb4.mono HBZ.out.size))
        clear hr4 hb4
        go_wp2_with fail
        go_ret
        exact ⟨rfl, HB6.out⟩
end Go.Proofs.YthcahjnniendnacGreatDoor.synBack
