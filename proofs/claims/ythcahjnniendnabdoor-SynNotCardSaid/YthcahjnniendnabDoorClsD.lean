/-
  Walks of package class: Not, Both, Either, Dot.
-/
import Derived.Test.YthcahjnniendnabDoorClsB
import Derived.Test.YthcahjnniendnabDoorClsC
namespace Go.Proofs.YthcahjnniendnabDoor
open Go.RowKit Wf

set_option maxRecDepth 100000 in
set_option maxHeartbeats 1000000 in
theorem Both_any (a0 a1 a2 a3 b0 b1 b2 b3 : Nat) (w : World) (ha : okC (a0, a1, a2, a3)) (hb : okC (b0, b1, b2, b3)) :
    Calls Tryd.prog 37 #[.agg #[.int .u64 (a0 : Int), .int .u64 (a1 : Int), .int .u64 (a2 : Int), .int .u64 (a3 : Int)], .agg #[.int .u64 (b0 : Int), .int .u64 (b1 : Int), .int .u64 (b2 : Int), .int .u64 (b3 : Int)]] w (ClsIs (bothC (a0, a1, a2, a3) (b0, b1, b2, b3)) w) := by
  have HC := Lib.hid fun W => each_both a0 a1 a2 a3 b0 b1 b2 b3 W ha hb
  have HX : Hid (((a0 &&& b0), (a1 &&& b1), (a2 &&& b2), (a3 &&& b3)) = bothC (a0, a1, a2, a3) (b0, b1, b2, b3)) := Lib.hid rfl
  clear ha hb
  go_enter Tryd.func37, Tryd.ntmps37
  go_wp2_with (go_at_call 61; refine (HC.out _).mono ?_; rintro e w1 ⟨d0, d1, d2, d3, rfl, hd, hb1⟩; have HD := Lib.hid hd; have HK := Lib.hid ((Blk.new3 _ _ _ _ _).kept hb1); have HB1 := Lib.hid ((below3 _ _ _ _).trans (hb1.mono (size3 _ _ _ _))); clear hd hb1 HC; obtain ⟨⟨x0, x1, x2, x3⟩, y0, y1, y2, y3⟩ := Blk4 HK.out)
  refine bodyPost_ret (v := clsV (d0, d1, d2, d3)) ?_ rfl ?_
  · have h4 := (Blk4 (Blk4_set HK.out (.int .u64 d0) (.int .u64 d1) (.int .u64 d2) (.int .u64 d3))).1
    obtain ⟨h0, h1, h2, h3⟩ := h4
    simp [results, Tryd.results37, go_sem, clsV, h0, h1, h2, h3]
  · refine ⟨d0, d1, d2, d3, rfl, by rw [HD.out, HX.out], ?_⟩
    exact below_set4 HB1.out (by omega) _ _ _ _

set_option maxRecDepth 100000 in
set_option maxHeartbeats 1000000 in
theorem Either_any (a0 a1 a2 a3 b0 b1 b2 b3 : Nat) (w : World) (ha : okC (a0, a1, a2, a3)) (hb : okC (b0, b1, b2, b3)) :
    Calls Tryd.prog 38 #[.agg #[.int .u64 (a0 : Int), .int .u64 (a1 : Int), .int .u64 (a2 : Int), .int .u64 (a3 : Int)], .agg #[.int .u64 (b0 : Int), .int .u64 (b1 : Int), .int .u64 (b2 : Int), .int .u64 (b3 : Int)]] w (ClsIs (eitherC (a0, a1, a2, a3) (b0, b1, b2, b3)) w) := by
  have HC := Lib.hid fun W => each_either a0 a1 a2 a3 b0 b1 b2 b3 W ha hb
  have HX : Hid (((a0 ||| b0), (a1 ||| b1), (a2 ||| b2), (a3 ||| b3)) = eitherC (a0, a1, a2, a3) (b0, b1, b2, b3)) := Lib.hid rfl
  clear ha hb
  go_enter Tryd.func38, Tryd.ntmps38
  go_wp2_with (go_at_call 61; refine (HC.out _).mono ?_; rintro e w1 ⟨d0, d1, d2, d3, rfl, hd, hb1⟩; have HD := Lib.hid hd; have HK := Lib.hid ((Blk.new3 _ _ _ _ _).kept hb1); have HB1 := Lib.hid ((below3 _ _ _ _).trans (hb1.mono (size3 _ _ _ _))); clear hd hb1 HC; obtain ⟨⟨x0, x1, x2, x3⟩, y0, y1, y2, y3⟩ := Blk4 HK.out)
  refine bodyPost_ret (v := clsV (d0, d1, d2, d3)) ?_ rfl ?_
  · have h4 := (Blk4 (Blk4_set HK.out (.int .u64 d0) (.int .u64 d1) (.int .u64 d2) (.int .u64 d3))).1
    obtain ⟨h0, h1, h2, h3⟩ := h4
    simp [results, Tryd.results38, go_sem, clsV, h0, h1, h2, h3]
  · refine ⟨d0, d1, d2, d3, rfl, by rw [HD.out, HX.out], ?_⟩
    exact below_set4 HB1.out (by omega) _ _ _ _

set_option maxRecDepth 100000 in
set_option maxHeartbeats 1000000 in
theorem Not_any (a0 a1 a2 a3 : Nat) (w : World) (ha : okC (a0, a1, a2, a3)) :
    Calls Tryd.prog 29 #[.agg #[.int .u64 (a0 : Int), .int .u64 (a1 : Int), .int .u64 (a2 : Int), .int .u64 (a3 : Int)]] w (ClsIs (notC (a0, a1, a2, a3)) w) := by
  have HC := Lib.hid fun W => each_not a0 a1 a2 a3 a0 a1 a2 a3 W ha ha
  have HX : Hid (((18446744073709551615 - a0), (18446744073709551615 - a1), (18446744073709551615 - a2), (18446744073709551615 - a3)) = notC (a0, a1, a2, a3)) := Lib.hid rfl
  clear ha
  go_enter Tryd.func29, Tryd.ntmps29
  go_wp2_with (go_at_call 61; refine (HC.out _).mono ?_; rintro e w1 ⟨d0, d1, d2, d3, rfl, hd, hb1⟩; have HD := Lib.hid hd; have HK := Lib.hid ((Blk.new2 _ _ _ _).kept hb1); have HB1 := Lib.hid ((below2 _ _ _).trans (hb1.mono (size2 _ _ _))); clear hd hb1 HC; obtain ⟨⟨x0, x1, x2, x3⟩, y0, y1, y2, y3⟩ := Blk4 HK.out)
  refine bodyPost_ret (v := clsV (d0, d1, d2, d3)) ?_ rfl ?_
  · have h4 := (Blk4 (Blk4_set HK.out (.int .u64 d0) (.int .u64 d1) (.int .u64 d2) (.int .u64 d3))).1
    obtain ⟨h0, h1, h2, h3⟩ := h4
    simp [results, Tryd.results29, go_sem, clsV, h0, h1, h2, h3]
  · refine ⟨d0, d1, d2, d3, rfl, by rw [HD.out, HX.out], ?_⟩
    exact below_set4 HB1.out (by omega) _ _ _ _

set_option maxRecDepth 100000 in
set_option maxHeartbeats 1000000 in
theorem Dot_any (w : World) : Calls Tryd.prog 66 #[] w (ClsIs dotC w) := by
  have HO := Lib.hid fun W => Of_any ⟨#[10]⟩ W (by decide)
  have HOK : Hid (∀ c0 c1 c2 c3, (c0, c1, c2, c3) = ofL [10] zc → okC (c0, c1, c2, c3)) := Lib.hid (by rintro c0 c1 c2 c3 h; rw [h]; exact okC_ofL _ _ okC_zc)
  go_enter Tryd.func66, Tryd.ntmps66
  go_wp2_with (first
    | (go_at_call 27; refine (HO.out _).mono ?_; clear HO; rintro e w1 ⟨c0, c1, c2, c3, rfl, hc, hb1⟩; have HOC := Lib.hid hc; have HK := Lib.hid ((Blk.new _ _ _).kept hb1); have HB1 := Lib.hid (((Below.refl _ _).alloc (Nat.le_refl _) _).trans (hb1.mono (by simp))); clear hc hb1)
    | (go_at_call 29; refine (Not_any c0 c1 c2 c3 _ (HOK.out _ _ _ _ HOC.out)).mono ?_; rintro e w2 ⟨d0, d1, d2, d3, rfl, hd, hb2⟩; have HD := Lib.hid hd; have HK2 := Lib.hid (HK.out.kept hb2); have HB2 := Lib.hid (HB1.out.trans (hb2.mono HB1.out.size)); clear hd hb2; obtain ⟨⟨x0, x1, x2, x3⟩, y0, y1, y2, y3⟩ := Blk4 HK2.out))
  refine bodyPost_ret (v := clsV (d0, d1, d2, d3)) ?_ rfl ?_
  · have h4 := (Blk4 (Blk4_set HK2.out (.int .u64 d0) (.int .u64 d1) (.int .u64 d2) (.int .u64 d3))).1
    obtain ⟨h0, h1, h2, h3⟩ := h4
    simp [results, Tryd.results66, go_sem, clsV, h0, h1, h2, h3]
  · refine ⟨d0, d1, d2, d3, rfl, by rw [HD.out, HOC.out]; rfl, ?_⟩
    exact below_set4 HB2.out (Nat.le_refl _) _ _ _ _

end Go.Proofs.YthcahjnniendnabDoor
