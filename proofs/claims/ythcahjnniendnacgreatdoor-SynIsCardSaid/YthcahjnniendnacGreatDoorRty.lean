/-
  The walk of the document's TextOf. (Printed by gen-rty.py.)
-/
import Derived.Test.YthcahjnniendnacGreatDoorRtx
namespace Go.Proofs.YthcahjnniendnacGreatDoor
open Go.RowKit Wf
set_option linter.unusedVariables false

theorem wrapT_le (B : Bool) {x : List UInt8} {n : Nat} (h : x.length ≤ n) : (wrapT B x).length ≤ n + 2 := by have := wrapT_len B x; omega

set_option maxRecDepth 100000 in
set_option maxHeartbeats 8000000 in
theorem RText_all (l : List Nd) (hg : ∀ n ∈ l, good n) (hok : ∀ n ∈ l, okC n.cls) (hlen : l.length ≤ 60) (b off cap : Nat) : ∀ (u : Rx) (i : Nat) (w : World), At l i u → RdN w (.slice (some ⟨b, off, none⟩) l.length cap) l →
    Calls Tryz.prog 9 #[.slice (some ⟨b, off, none⟩) l.length cap, .int .i64 (i : Int)] w (StrIs (textT u) w) := by
  have HM : Hid (∀ (w : World), RdN w (.slice (some ⟨b, off, none⟩) l.length cap) l → ∀ k n, l[k]? = some n →
      w.cell? ⟨b, off + k * 5, none⟩ = some (.int .i64 n.op) ∧ w.cell? ⟨b, off + k * 5 + 1, none⟩ = some (.int .u64 (n.cls.1 : Int)) ∧ w.cell? ⟨b, off + k * 5 + 2, none⟩ = some (.int .u64 (n.cls.2.1 : Int)) ∧
      w.cell? ⟨b, off + k * 5 + 3, none⟩ = some (.int .u64 (n.cls.2.2.1 : Int)) ∧ w.cell? ⟨b, off + k * 5 + 4, none⟩ = some (.int .u64 (n.cls.2.2.2 : Int))) := Lib.hid (fun w hr k n hk => by
    obtain ⟨A', cap', hv, hcap, hcap2, hmem⟩ := hr.open_
    injection hv with e1 _ e2
    obtain ⟨b', off', hA, _, hc⟩ := hmem (by have := (List.getElem?_eq_some_iff.1 hk).1; omega)
    rw [hA] at e1
    cases e1
    exact hc w (fun _ => rfl) k n hk)
  have HPT : Hid (∀ (u : Rx) (q : Nat) (sec : Bool) (i : Nat) (W : World), RdN W (.slice (some ⟨b, off, none⟩) l.length cap) l → At l i u → (3 ≤ q ∧ q ≤ 7) → (∀ W', RdN W' (.slice (some ⟨b, off, none⟩) l.length cap) l → Calls Tryz.prog 9 #[.slice (some ⟨b, off, none⟩) l.length cap, .int .i64 (i : Int)] W' (StrIs (textT u) W')) →
      Calls Tryz.prog 33 #[.slice (some ⟨b, off, none⟩) l.length cap, .int .i64 (q : Int), .int .i64 (i : Int), .bool sec] W (StrIs (wrapT (bnd q sec u) (textT u)) W)) := Lib.hid fun u q sec i W hW hat hq ht => by
    obtain ⟨c, hc⟩ := at_op hat
    have hlt := hat.lt
    have hpos := flat_pos u
    have hl := textT_len u
    obtain ⟨q0, _⟩ := HM.out W hW i _ hc
    rw [bnd_op]
    exact rpart_o (opT u) q sec (textT u) (by omega) (opT_le u) hq i l.length b off cap (by omega) W (ht W hW) (World.block_lt_of_cell? W _ q0) q0
  have HEND := Lib.hid (fun (i : Nat) (hi : i ≤ l.length) (w : World) (hr : RdN w (.slice (some ⟨b, off, none⟩) l.length cap) l) => REnd_all l hg hlen (some ⟨b, off, none⟩) cap l.length i w (by omega) hi hr)
  have HOKC := Lib.hid hok
  clear hg hok
  unfold StrIs
  intro u
  induction u with
  | byte c =>
    obtain ⟨c0, c1, c2, c3⟩ := c
    intro i w hat hr
    obtain ⟨q0, q1, q2, q3, q4⟩ := HM.out w hr i _ hat.byte
    have hlt := hat.lt
    have hi0 : (0 : Int) ≤ (i : Int) := by omega
    have hpos := flat_pos (.byte (c0, c1, c2, c3))
    have hi1 : (i : Int) < (l.length : Int) := by omega
    dsimp only at q0 q1 q2 q3 q4
    have HCT := Lib.hid fun W => RClassText_any c0 c1 c2 c3 W (HOKC.out _ (List.mem_of_getElem? hat.byte))
    unfold StrIs at HCT
    rw [show textT (.byte (c0, c1, c2, c3)) = textC (c0, c1, c2, c3) from rfl]
    clear hat hr
    go_enter Tryz.func9, Tryz.ntmps9
    go_wp2_with fail
    refine (HCT.out _).mono ?_
    rintro e w1 ⟨s, rfl, hs, hb⟩
    have HS := Lib.hid hs
    have HB := Lib.hid hb
    clear hs hb
    go_wp2_with fail
    go_ret
    exact ⟨_, rfl, HS.out, HB.out⟩
  | empty =>
    intro i w hat hr
    obtain ⟨q0, q1, q2, q3, q4⟩ := HM.out w hr i _ hat.empty
    have hlt := hat.lt
    have hi0 : (0 : Int) ≤ (i : Int) := by omega
    have hpos := flat_pos .empty
    have hi1 : (i : Int) < (l.length : Int) := by omega
    dsimp only [zc] at q0 q1 q2 q3 q4
    clear hat hr
    go_enter Tryz.func9, Tryz.ntmps9
    go_wp2_with fail
    go_ret
    exact ⟨_, rfl, rfl, Below.refl _ _⟩
  | bgn =>
    intro i w hat hr
    obtain ⟨q0, q1, q2, q3, q4⟩ := HM.out w hr i _ hat.bgn
    have hlt := hat.lt
    have hi0 : (0 : Int) ≤ (i : Int) := by omega
    have hpos := flat_pos .bgn
    have hi1 : (i : Int) < (l.length : Int) := by omega
    dsimp only [zc] at q0 q1 q2 q3 q4
    clear hat hr
    go_enter Tryz.func9, Tryz.ntmps9
    go_wp2_with fail
    go_ret
    exact ⟨_, rfl, rfl, Below.refl _ _⟩
  | fin =>
    intro i w hat hr
    obtain ⟨q0, q1, q2, q3, q4⟩ := HM.out w hr i _ hat.fin
    have hlt := hat.lt
    have hi0 : (0 : Int) ≤ (i : Int) := by omega
    have hpos := flat_pos .fin
    have hi1 : (i : Int) < (l.length : Int) := by omega
    dsimp only [zc] at q0 q1 q2 q3 q4
    clear hat hr
    go_enter Tryz.func9, Tryz.ntmps9
    go_wp2_with fail
    go_ret
    exact ⟨_, rfl, rfl, Below.refl _ _⟩
  | star a iha =>
    intro i w hat hr
    obtain ⟨q0, q1, q2, q3, q4⟩ := HM.out w hr i _ hat.star.1
    have hlt := hat.lt
    have hi0 : (0 : Int) ≤ (i : Int) := by omega
    have hpos := flat_pos (.star a)
    have hi1 : (i : Int) < (l.length : Int) := by omega
    dsimp only [zc] at q0 q1 q2 q3 q4
    have hata := hat.star.2
    have HA : Hid (∀ W, RdN W (.slice (some ⟨b, off, none⟩) l.length cap) l → Calls Tryz.prog 33 #[.slice (some ⟨b, off, none⟩) l.length cap, .int .i64 5, .int .i64 (((i + 1 : Nat) : Int)), .bool false] W (StrIs (wrapT (bnd 5 false a) (textT a)) W)) := Lib.hid fun W hW => HPT.out a 5 false _ W hW hata (by omega) (fun W' hW' => iha _ W' hata hW')
    have hlx := wrapT_le (bnd 5 false a) (x := textT a) (n := 190000) (by have := textT_len a; have := hata.lt; omega)
    have HLX := Lib.hid hlx
    rw [show textT (.star a) = wrapT (bnd 5 false a) (textT a) ++ [42] from rfl]
    generalize wrapT (bnd 5 false a) (textT a) = X at *
    unfold StrIs at HA
    have HR := Lib.hid hr
    push_cast at HA
    clear hat hr hata iha hlx
    go_enter Tryz.func9, Tryz.ntmps9
    go_wp2_with fail
    refine (HA.out _ HR.out).mono ?_
    rintro e w1 ⟨s, rfl, hs, hb⟩
    have HS := Lib.hid hs
    have HB := Lib.hid hb
    have hsz := size_of hs HLX.out
    clear hs hb
    go_wp2_with fail
    go_ret
    exact ⟨_, rfl, by rw [data_app, HS.out], HB.out⟩
  | plus a iha =>
    intro i w hat hr
    obtain ⟨q0, q1, q2, q3, q4⟩ := HM.out w hr i _ hat.plus.1
    have hlt := hat.lt
    have hi0 : (0 : Int) ≤ (i : Int) := by omega
    have hpos := flat_pos (.plus a)
    have hi1 : (i : Int) < (l.length : Int) := by omega
    dsimp only [zc] at q0 q1 q2 q3 q4
    have hata := hat.plus.2
    have HA : Hid (∀ W, RdN W (.slice (some ⟨b, off, none⟩) l.length cap) l → Calls Tryz.prog 33 #[.slice (some ⟨b, off, none⟩) l.length cap, .int .i64 6, .int .i64 (((i + 1 : Nat) : Int)), .bool false] W (StrIs (wrapT (bnd 6 false a) (textT a)) W)) := Lib.hid fun W hW => HPT.out a 6 false _ W hW hata (by omega) (fun W' hW' => iha _ W' hata hW')
    have hlx := wrapT_le (bnd 6 false a) (x := textT a) (n := 190000) (by have := textT_len a; have := hata.lt; omega)
    have HLX := Lib.hid hlx
    rw [show textT (.plus a) = wrapT (bnd 6 false a) (textT a) ++ [43] from rfl]
    generalize wrapT (bnd 6 false a) (textT a) = X at *
    unfold StrIs at HA
    have HR := Lib.hid hr
    push_cast at HA
    clear hat hr hata iha hlx
    go_enter Tryz.func9, Tryz.ntmps9
    go_wp2_with fail
    refine (HA.out _ HR.out).mono ?_
    rintro e w1 ⟨s, rfl, hs, hb⟩
    have HS := Lib.hid hs
    have HB := Lib.hid hb
    have hsz := size_of hs HLX.out
    clear hs hb
    go_wp2_with fail
    go_ret
    exact ⟨_, rfl, by rw [data_app, HS.out], HB.out⟩
  | opt a iha =>
    intro i w hat hr
    obtain ⟨q0, q1, q2, q3, q4⟩ := HM.out w hr i _ hat.opt.1
    have hlt := hat.lt
    have hi0 : (0 : Int) ≤ (i : Int) := by omega
    have hpos := flat_pos (.opt a)
    have hi1 : (i : Int) < (l.length : Int) := by omega
    dsimp only [zc] at q0 q1 q2 q3 q4
    have hata := hat.opt.2
    have HA : Hid (∀ W, RdN W (.slice (some ⟨b, off, none⟩) l.length cap) l → Calls Tryz.prog 33 #[.slice (some ⟨b, off, none⟩) l.length cap, .int .i64 7, .int .i64 (((i + 1 : Nat) : Int)), .bool false] W (StrIs (wrapT (bnd 7 false a) (textT a)) W)) := Lib.hid fun W hW => HPT.out a 7 false _ W hW hata (by omega) (fun W' hW' => iha _ W' hata hW')
    have hlx := wrapT_le (bnd 7 false a) (x := textT a) (n := 190000) (by have := textT_len a; have := hata.lt; omega)
    have HLX := Lib.hid hlx
    rw [show textT (.opt a) = wrapT (bnd 7 false a) (textT a) ++ [63] from rfl]
    generalize wrapT (bnd 7 false a) (textT a) = X at *
    unfold StrIs at HA
    have HR := Lib.hid hr
    push_cast at HA
    clear hat hr hata iha hlx
    go_enter Tryz.func9, Tryz.ntmps9
    go_wp2_with fail
    refine (HA.out _ HR.out).mono ?_
    rintro e w1 ⟨s, rfl, hs, hb⟩
    have HS := Lib.hid hs
    have HB := Lib.hid hb
    have hsz := size_of hs HLX.out
    clear hs hb
    go_wp2_with fail
    go_ret
    exact ⟨_, rfl, by rw [data_app, HS.out], HB.out⟩
  | cat a c iha ihc =>
    intro i w hat hr
    obtain ⟨q0, q1, q2, q3, q4⟩ := HM.out w hr i _ hat.cat.1
    have hlt := hat.lt
    have hi0 : (0 : Int) ≤ (i : Int) := by omega
    have hpos := flat_pos (.cat a c)
    have hi1 : (i : Int) < (l.length : Int) := by omega
    dsimp only [zc] at q0 q1 q2 q3 q4
    obtain ⟨_, hata, hatc⟩ := hat.cat
    have HA : Hid (∀ W, RdN W (.slice (some ⟨b, off, none⟩) l.length cap) l → Calls Tryz.prog 33 #[.slice (some ⟨b, off, none⟩) l.length cap, .int .i64 3, .int .i64 (((i + 1 : Nat) : Int)), .bool false] W (StrIs (wrapT (bnd 3 false a) (textT a)) W)) := Lib.hid fun W hW => HPT.out a 3 false _ W hW hata (by omega) (fun W' hW' => iha _ W' hata hW')
    have HC : Hid (∀ W, RdN W (.slice (some ⟨b, off, none⟩) l.length cap) l → Calls Tryz.prog 33 #[.slice (some ⟨b, off, none⟩) l.length cap, .int .i64 3, .int .i64 (((i + 1 + (flat a).length : Nat) : Int)), .bool true] W (StrIs (wrapT (bnd 3 true c) (textT c)) W)) := Lib.hid fun W hW => HPT.out c 3 true _ W hW hatc (by omega) (fun W' hW' => ihc _ W' hatc hW')
    have hlx := wrapT_le (bnd 3 false a) (x := textT a) (n := 190000) (by have := textT_len a; have := hata.lt; omega)
    have hly := wrapT_le (bnd 3 true c) (x := textT c) (n := 190000) (by have := textT_len c; have := hatc.lt; omega)
    have HLX := Lib.hid hlx
    have HLY := Lib.hid hly
    have hal := hata.lt
    have HE := Lib.hid (fun W h => HEND.out (i + 1) (by omega) W h)
    rw [eo_at hata] at HE
    rw [show textT (.cat a c) = wrapT (bnd 3 false a) (textT a) ++ wrapT (bnd 3 true c) (textT c) from rfl]
    generalize wrapT (bnd 3 false a) (textT a) = X at *
    generalize wrapT (bnd 3 true c) (textT c) = Y at *
    generalize i + 1 + (flat a).length = i2 at *
    unfold StrIs at HA HC
    have HR := Lib.hid hr
    push_cast at HA
    clear hat hr hata hatc iha ihc hlx hly hal
    go_enter Tryz.func9, Tryz.ntmps9
    go_wp2_with fail
    refine (HA.out _ HR.out).mono ?_
    rintro e w1 ⟨s, rfl, hs, hb⟩
    have HS := Lib.hid hs
    have HB := Lib.hid hb
    have hsz := size_of hs HLX.out
    have HR1 := Lib.hid (HR.out.below hb)
    clear hs hb
    go_wp2_with fail
    refine (HE.out _ HR1.out).mono ?_
    rintro e w1' ⟨rfl, rfl⟩
    go_wp2_with fail
    refine (HC.out _ HR1.out).mono ?_
    rintro e w2 ⟨s2, rfl, hs2, hb2⟩
    have HS2 := Lib.hid hs2
    have HB2 := Lib.hid (HB.out.trans (hb2.mono HB.out.size))
    have hsz2 := size_of hs2 HLY.out
    clear hs2 hb2

    go_wp2_with fail
    go_ret
    exact ⟨_, rfl, by rw [data_app, HS.out, HS2.out], HB2.out⟩
  | alt a c iha ihc =>
    intro i w hat hr
    obtain ⟨q0, q1, q2, q3, q4⟩ := HM.out w hr i _ hat.alt.1
    have hlt := hat.lt
    have hi0 : (0 : Int) ≤ (i : Int) := by omega
    have hpos := flat_pos (.alt a c)
    have hi1 : (i : Int) < (l.length : Int) := by omega
    dsimp only [zc] at q0 q1 q2 q3 q4
    obtain ⟨_, hata, hatc⟩ := hat.alt
    have HA : Hid (∀ W, RdN W (.slice (some ⟨b, off, none⟩) l.length cap) l → Calls Tryz.prog 33 #[.slice (some ⟨b, off, none⟩) l.length cap, .int .i64 4, .int .i64 (((i + 1 : Nat) : Int)), .bool false] W (StrIs (wrapT (bnd 4 false a) (textT a)) W)) := Lib.hid fun W hW => HPT.out a 4 false _ W hW hata (by omega) (fun W' hW' => iha _ W' hata hW')
    have HC : Hid (∀ W, RdN W (.slice (some ⟨b, off, none⟩) l.length cap) l → Calls Tryz.prog 33 #[.slice (some ⟨b, off, none⟩) l.length cap, .int .i64 4, .int .i64 (((i + 1 + (flat a).length : Nat) : Int)), .bool true] W (StrIs (wrapT (bnd 4 true c) (textT c)) W)) := Lib.hid fun W hW => HPT.out c 4 true _ W hW hatc (by omega) (fun W' hW' => ihc _ W' hatc hW')
    have hlx := wrapT_le (bnd 4 false a) (x := textT a) (n := 190000) (by have := textT_len a; have := hata.lt; omega)
    have hly := wrapT_le (bnd 4 true c) (x := textT c) (n := 190000) (by have := textT_len c; have := hatc.lt; omega)
    have HLX := Lib.hid hlx
    have HLY := Lib.hid hly
    have hal := hata.lt
    have HE := Lib.hid (fun W h => HEND.out (i + 1) (by omega) W h)
    rw [eo_at hata] at HE
    rw [show textT (.alt a c) = wrapT (bnd 4 false a) (textT a) ++ 124 :: wrapT (bnd 4 true c) (textT c) from rfl]
    generalize wrapT (bnd 4 false a) (textT a) = X at *
    generalize wrapT (bnd 4 true c) (textT c) = Y at *
    generalize i + 1 + (flat a).length = i2 at *
    unfold StrIs at HA HC
    have HR := Lib.hid hr
    push_cast at HA
    clear hat hr hata hatc iha ihc hlx hly hal
    go_enter Tryz.func9, Tryz.ntmps9
    go_wp2_with fail
    refine (HA.out _ HR.out).mono ?_
    rintro e w1 ⟨s, rfl, hs, hb⟩
    have HS := Lib.hid hs
    have HB := Lib.hid hb
    have hsz := size_of hs HLX.out
    have HR1 := Lib.hid (HR.out.below hb)
    clear hs hb
    go_wp2_with fail
    refine (HE.out _ HR1.out).mono ?_
    rintro e w1' ⟨rfl, rfl⟩
    go_wp2_with fail
    refine (HC.out _ HR1.out).mono ?_
    rintro e w2 ⟨s2, rfl, hs2, hb2⟩
    have HS2 := Lib.hid hs2
    have HB2 := Lib.hid (HB.out.trans (hb2.mono HB.out.size))
    have hsz2 := size_of hs2 HLY.out
    clear hs2 hb2

    go_wp2_with fail
    go_ret
    exact ⟨_, rfl, by rw [data_app, data_app, HS.out, HS2.out]; simp, HB2.out⟩
end Go.Proofs.YthcahjnniendnacGreatDoor
