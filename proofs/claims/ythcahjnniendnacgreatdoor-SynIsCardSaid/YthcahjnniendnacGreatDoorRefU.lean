/-
  The walk of the document's ClassText.
-/
import Derived.Test.YthcahjnniendnacGreatDoorGCls
import Derived.Test.YthcahjnniendnacGreatDoorRefT
namespace Go.Proofs.YthcahjnniendnacGreatDoor
open Go.RowKit Wf

theorem cntR_C (c : Cls) : cntR c 256 = cntC c := (cnt_has c).symm

set_option maxRecDepth 100000 in
set_option maxHeartbeats 8000000 in
theorem RClassText_any (c0 c1 c2 c3 : Nat) (w : World) (hok : okC (c0, c1, c2, c3)) : Calls Tryz.prog 32 #[.agg #[.int .u64 (c0 : Int), .int .u64 (c1 : Int), .int .u64 (c2 : Int), .int .u64 (c3 : Int)]] w (StrIs (textC (c0, c1, c2, c3)) w) := by
  have HIN := Lib.hid (fun (b : Nat) (hb : b < 256) (W : World) => RIn_any c0 c1 c2 c3 b W hok hb)
  have HI10 := Lib.hid (fun (W : World) => RIn_any c0 c1 c2 c3 10 W hok (by omega))
  have HCN := Lib.hid (fun (W : World) => RCount_any c0 c1 c2 c3 W hok)
  have HOT := Lib.hid (fun (W : World) => ROthers_any c0 c1 c2 c3 W hok)
  have HCO : Hid (∀ (W : World) (d0 d1 d2 d3 : Nat), (d0, d1, d2, d3) = notC (c0, c1, c2, c3) → Calls Tryz.prog 30 #[.agg #[.int .u64 (d0 : Int), .int .u64 (d1 : Int), .int .u64 (d2 : Int), .int .u64 (d3 : Int)]] W (fun e w' => e = .returned (.int .i64 (cntC (notC (c0, c1, c2, c3)) : Int)) ∧ Below W.heap.size W w')) := Lib.hid (fun W d0 d1 d2 d3 h => by
    have hh := RCount_any d0 d1 d2 d3 W (by rw [h]; exact okC_not _)
    unfold RCountIs at hh
    rw [h, cntR_C] at hh
    exact hh)
  unfold RInIs at HIN HI10
  unfold RCountIs at HCN
  unfold ClsIs at HOT
  rw [cntR_C] at HCN
  have HK0 : Hid (Blk (w.alloc (.cells #[.int .u64 (c0 : Int), .int .u64 (c1 : Int), .int .u64 (c2 : Int), .int .u64 (c3 : Int)] 39)) w.heap.size 39 #[.int .u64 (c0 : Int), .int .u64 (c1 : Int), .int .u64 (c2 : Int), .int .u64 (c3 : Int)]) := Lib.hid (Blk.new w _ _)
  have HB0 : Hid (Below w.heap.size w (w.alloc (.cells #[.int .u64 (c0 : Int), .int .u64 (c1 : Int), .int .u64 (c2 : Int), .int .u64 (c3 : Int)] 39))) := Lib.hid ((Below.refl _ _).alloc (Nat.le_refl _) _)
  have hsum := cnt_not hok
  have hdot := dot_iff hok
  by_cases hc : (c0, c1, c2, c3) = dotC
  · obtain ⟨h1, h2⟩ := hdot.1 hc
    have htx : textC (c0, c1, c2, c3) = [46] := by
      unfold textC
      rw [if_neg (by omega), if_pos hc]
    have HTX := Lib.hid htx
    rw [h1] at HCO
    rw [h2] at HI10
    clear hsum hdot hc htx h1 h2 hok
    generalize cntC (c0, c1, c2, c3) = n at *
    go_enter Tryz.func32, Tryz.ntmps32
    go_wp2_with fail
    refine (HCN.out _).mono ?_
    rintro e w1 ⟨rfl, hb1⟩
    have HK1 := Lib.hid (HK0.out.kept hb1)
    have HB1 := Lib.hid (HB0.out.trans (hb1.mono HB0.out.size))
    clear hb1
    obtain ⟨⟨x0, x1, x2, x3⟩, _⟩ := Blk4 HK1.out
    go_wp2_with fail
    refine (HOT.out _).mono ?_
    rintro e w2 ⟨d0, d1, d2, d3, rfl, hd, hb2⟩
    have HK2 := Lib.hid (HK1.out.kept hb2)
    have HB2 := Lib.hid (HB1.out.trans (hb2.mono HB1.out.size))
    have HD := Lib.hid hd
    clear hb2 hd x0 x1 x2 x3
    obtain ⟨⟨x0, x1, x2, x3⟩, _⟩ := Blk4 HK2.out
    go_wp2_with fail
    refine (HCO.out _ d0 d1 d2 d3 HD.out).mono ?_
    rintro e w3 ⟨rfl, hb3⟩
    have HK3 := Lib.hid (HK2.out.kept hb3)
    have HB3 := Lib.hid (HB2.out.trans (hb3.mono HB2.out.size))
    clear hb3 x0 x1 x2 x3
    obtain ⟨⟨x0, x1, x2, x3⟩, _⟩ := Blk4 HK3.out
    go_wp2_with fail
    refine (HI10.out _).mono ?_
    rintro e w4 ⟨rfl, hb4⟩
    have HK4 := Lib.hid (HK3.out.kept hb4)
    have HB4 := Lib.hid (HB3.out.trans (hb4.mono HB3.out.size))
    clear hb4 x0 x1 x2 x3 HB1 HB2 HB3 HK1 HK2 HK3
    go_wp2_with fail
    go_ret
    exact ⟨_, rfl, HTX.out.symm, HB4.out⟩
  · by_cases hm : cntC (notC (c0, c1, c2, c3)) = 1
    · have h10 : has (c0, c1, c2, c3) 10 = true := by
        cases h : has (c0, c1, c2, c3) 10 with
        | true => rfl
        | false => exact absurd (hdot.2 ⟨hm, h⟩) hc
      have hn1 : cntC (c0, c1, c2, c3) ≠ 1 := by omega
      have htx : textC (c0, c1, c2, c3) = 91 :: (runsT (c0, c1, c2, c3) 0 ++ [93]) := by
        unfold textC
        rw [if_neg hn1, if_neg hc]
      have HTX := Lib.hid htx
      have hnd : ((cntC (c0, c1, c2, c3) : Int) == 1) = false := by simp; omega
      have HNE := Lib.hid hn1
      rw [hm] at HCO
      rw [h10] at HI10
      clear hsum hdot hc htx h10 hok hn1 hm
      obtain ⟨n, hnn⟩ : ∃ n, n = cntC (c0, c1, c2, c3) := ⟨_, rfl⟩
      rw [← hnn] at HCN hnd
      clear hnn
      go_enter Tryz.func32, Tryz.ntmps32
      go_wp2_with fail
      refine (HCN.out _).mono ?_
      rintro e w1 ⟨rfl, hb1⟩
      have HK1 := Lib.hid (HK0.out.kept hb1)
      have HB1 := Lib.hid (HB0.out.trans (hb1.mono HB0.out.size))
      clear hb1
      obtain ⟨⟨x0, x1, x2, x3⟩, _⟩ := Blk4 HK1.out
      go_wp2_with fail
      refine (HOT.out _).mono ?_
      rintro e w2 ⟨d0, d1, d2, d3, rfl, hd, hb2⟩
      have HK2 := Lib.hid (HK1.out.kept hb2)
      have HB2 := Lib.hid (HB1.out.trans (hb2.mono HB1.out.size))
      have HD := Lib.hid hd
      clear hb2 hd x0 x1 x2 x3
      obtain ⟨⟨x0, x1, x2, x3⟩, _⟩ := Blk4 HK2.out
      go_wp2_with fail
      refine (HCO.out _ d0 d1 d2 d3 HD.out).mono ?_
      rintro e w3 ⟨rfl, hb3⟩
      have HK3 := Lib.hid (HK2.out.kept hb3)
      have HB3 := Lib.hid (HB2.out.trans (hb3.mono HB2.out.size))
      clear hb3 x0 x1 x2 x3
      obtain ⟨⟨x0, x1, x2, x3⟩, _⟩ := Blk4 HK3.out
      go_wp2_with fail
      refine (HI10.out _).mono ?_
      rintro e w4 ⟨rfl, hb4⟩
      have HK4 := Lib.hid (HK3.out.kept hb4)
      have HB4 := Lib.hid (HB3.out.trans (hb4.mono HB3.out.size))
      clear hb4 x0 x1 x2 x3 HB1 HB2 HB3 HK1 HK2 HK3
      go_wp2_with fail
      go_loopw [6, 7] (fun v6 v7 wr => ∃ (k : Nat) (s : ByteArray), k ≤ 256 ∧ v7 = .int .i64 (k : Int) ∧ v6 = .string s ∧ s.size ≤ 2304 ∧ Hid (s.data.toList ++ runsT (c0, c1, c2, c3) k = runsT (c0, c1, c2, c3) 0) ∧ Hid (∀ j, j < k → cntC (c0, c1, c2, c3) = 1 → has (c0, c1, c2, c3) j = false) ∧ Hid (Blk wr w.heap.size 39 #[.int .u64 (c0 : Int), .int .u64 (c1 : Int), .int .u64 (c2 : Int), .int .u64 (c3 : Int)]) ∧ Hid (Below w.heap.size w wr)) (fun _ i _ => 256 - (intOf i).toNat)
      case atStart => exact ⟨0, ⟨#[]⟩, by omega, rfl, rfl, by show (0 : Nat) ≤ 2304; omega, Lib.hid (by simp), Lib.hid (fun j hj => by omega), HK4, HB4⟩
      case round =>
        clear HK4 HB4
        obtain ⟨k, s, hk, rfl, rfl, hs, hR, hN, hK, hB⟩ := hrel
        obtain ⟨⟨x0, x1, x2, x3⟩, _⟩ := Blk4 hK.out
        by_cases hlt : k < 256
        · have hk1 : (k : Int) < 256 := by omega
          have HIk := Lib.hid (HIN.out k hlt)
          cases hh : has (c0, c1, c2, c3) k with
          | false =>
            rw [hh] at HIk
            have HR2 : Hid (s.data.toList ++ runsT (c0, c1, c2, c3) (k + 1) = runsT (c0, c1, c2, c3) 0) := Lib.hid (by rw [← runsT_no hlt hh]; exact hR.out)
            have HN2 : Hid (∀ j, j < k + 1 → cntC (c0, c1, c2, c3) = 1 → has (c0, c1, c2, c3) j = false) := Lib.hid (fun j hj h1 => by
              by_cases e : j = k
              · rw [e]; exact hh
              · exact hN.out j (by omega) h1)
            clear hh
            go_wp2_with fail
            refine (HIk.out _).mono ?_
            rintro e w5 ⟨rfl, hb5⟩
            have HK5 := Lib.hid (hK.out.kept hb5)
            have HB5 := Lib.hid (hB.out.trans (hb5.mono hB.out.size))
            clear hb5 x0 x1 x2 x3
            go_wp2_with fail
            go_roundw
            case rel => exact ⟨k + 1, s, by omega, by go_num, rfl, hs, HR2, HN2, HK5, HB5⟩
            case measure => simp [intOf]; omega
          | true =>
            rw [hh] at HIk
            have HHK := Lib.hid hh
            clear hh
            go_wp2_with fail
            refine (HIk.out _).mono ?_
            rintro e w5 ⟨rfl, hb5⟩
            have HK5 := Lib.hid (hK.out.kept hb5)
            have HB5 := Lib.hid (hB.out.trans (hb5.mono hB.out.size))
            clear hb5 x0 x1 x2 x3
            go_wp2_with fail
            go_loopw [7] (fun v7 wx => ∃ b : Nat, b ≤ 256 ∧ k ≤ b ∧ v7 = .int .i64 (b : Int) ∧ Hid (b = k ∨ (k < b ∧ top (c0, c1, c2, c3) k = top (c0, c1, c2, c3) (b - 1))) ∧ Hid (Blk wx w.heap.size 39 #[.int .u64 (c0 : Int), .int .u64 (c1 : Int), .int .u64 (c2 : Int), .int .u64 (c3 : Int)]) ∧ Hid (Below w.heap.size w wx)) (fun i _ => 256 - (intOf i).toNat)
            case atStart => exact ⟨k, by omega, by omega, rfl, Lib.hid (.inl rfl), HK5, HB5⟩
            case round =>
              clear HK5 HB5 hK hB
              obtain ⟨b, hb, hkb, rfl, hT, hK, hB⟩ := hrel
              obtain ⟨⟨x0, x1, x2, x3⟩, _⟩ := Blk4 hK.out
              by_cases hlb : b < 256
              · have hb1 : (b : Int) < 256 := by omega
                have HIb := Lib.hid (HIN.out b hlb)
                cases hhb : has (c0, c1, c2, c3) b with
                | true =>
                  rw [hhb] at HIb
                  have HT2 := Lib.hid (top_step hT.out hlb hhb)
                  clear hhb
                  go_wp2_with fail
                  refine (HIb.out _).mono ?_
                  rintro e w6 ⟨rfl, hb6⟩
                  have HK6 := Lib.hid (hK.out.kept hb6)
                  have HB6 := Lib.hid (hB.out.trans (hb6.mono hB.out.size))
                  clear hb6 x0 x1 x2 x3
                  go_wp2_with fail
                  go_roundw
                  case rel => exact ⟨b + 1, by omega, by omega, by go_num, Lib.hid (.inr HT2.out), HK6, HB6⟩
                  case measure => simp [intOf]; omega
                | false =>
                  rw [hhb] at HIb
                  have HT2 := Lib.hid (top_end HHK.out hlt hT.out (.inr hhb))
                  clear hhb
                  go_wp2_with fail
                  refine (HIb.out _).mono ?_
                  rintro e w6 ⟨rfl, hb6⟩
                  have HK6 := Lib.hid (hK.out.kept hb6)
                  have HB6 := Lib.hid (hB.out.trans (hb6.mono hB.out.size))
                  clear hb6 x0 x1 x2 x3
                  have HBT := Lib.hid (fun W => RByteText_any k hlt W)
                  have HBH := Lib.hid (fun W => RByteText_any (b - 1) (by omega) W)
                  unfold StrIs at HBT HBH
                  have hkb1 : k < b := HT2.out.1
                  have HRK : Hid (runsT (c0, c1, c2, c3) k = spT k (b - 1) ++ runsT (c0, c1, c2, c3) b) := Lib.hid (by
                    rw [runsT_yes hlt HHK.out, HT2.out.2, show b - 1 + 1 = b by omega])
                  have HFIN : Hid (∀ s' : ByteArray, s'.data.toList = s.data.toList ++ spT k (b - 1) → s'.data.toList ++ runsT (c0, c1, c2, c3) b = runsT (c0, c1, c2, c3) 0 ∧ s'.size ≤ 2304) := Lib.hid (fun s' hs' => by
                    have h1 : s'.data.toList ++ runsT (c0, c1, c2, c3) b = runsT (c0, c1, c2, c3) 0 := by rw [hs', List.append_assoc, ← HRK.out]; exact hR.out
                    refine ⟨h1, ?_⟩
                    have h2 := runsT_len (c0, c1, c2, c3) 0
                    rw [← h1, List.length_append] at h2
                    rw [sz_list]; omega)
                  have HN3 : Hid (∀ j, j < b → cntC (c0, c1, c2, c3) = 1 → has (c0, c1, c2, c3) j = false) := Lib.hid (fun j _ h1 => absurd h1 HNE.out)
                  have hsb : s.size ≤ 2304 := hs
                  go_wp2_with fail
                  refine (HBT.out _).mono ?_
                  rintro e w7 ⟨s1, rfl, hs1, hb7⟩
                  have hz1 := sz_byte hs1
                  have HS1 := Lib.hid hs1
                  have HK7 := Lib.hid (HK6.out.kept hb7)
                  have HB7 := Lib.hid (HB6.out.trans (hb7.mono HB6.out.size))
                  clear hs1 hb7 HT2 HBT hR hN
                  rcases (show b = k + 1 ∨ b = k + 2 ∨ k + 2 < b by omega) with hcase | hcase | hcase
                  · have e1 : (b : Int) - (k : Int) = 1 := by omega
                    have q2 : decide ((2 : Int) < (b : Int) - (k : Int)) = false := by simp; omega
                    have q1 : decide ((1 : Int) < (b : Int) - (k : Int)) = false := by simp; omega
                    have HSP : Hid (spT k (b - 1) = byteT k) := Lib.hid (by unfold spT; rw [if_pos (by omega)])
                    have hb0 : ((b - 1 : Nat) : Int) = (b : Int) - 1 := by omega
                    rw [hb0] at HBH
                    clear hb0 hcase e1
                    go_wp2_with fail
                    go_roundw
                    case rel =>
                      obtain ⟨f1, f2⟩ := HFIN.out (s ++ s1) (by rw [data_app, HS1.out, HSP.out])
                      exact ⟨b, _, by omega, rfl, rfl, f2, Lib.hid f1, HN3, HK7, HB7⟩
                    case measure => simp [intOf]; omega

                  · have e1 : (b : Int) - (k : Int) = 2 := by omega
                    have q2 : decide ((2 : Int) < (b : Int) - (k : Int)) = false := by simp; omega
                    have q1 : decide ((1 : Int) < (b : Int) - (k : Int)) = true := by simp; omega
                    have HSP : Hid (spT k (b - 1) = byteT k ++ byteT (b - 1)) := Lib.hid (by unfold spT; rw [if_neg (by omega), if_pos (by omega), show b - 1 = k + 1 by omega])
                    have hb0 : ((b - 1 : Nat) : Int) = (b : Int) - 1 := by omega
                    rw [hb0] at HBH
                    clear hb0 hcase e1
                    go_wp2_with fail
                    refine (HBH.out _).mono ?_
                    rintro e w8 ⟨s2, rfl, hs2, hb8⟩
                    have hz2 := sz_byte hs2
                    have HS2 := Lib.hid hs2
                    have HK8 := Lib.hid (HK7.out.kept hb8)
                    have HB8 := Lib.hid (HB7.out.trans (hb8.mono HB7.out.size))
                    clear hs2 hb8
                    go_wp2_with fail
                    go_roundw
                    case rel =>
                      obtain ⟨f1, f2⟩ := HFIN.out (s ++ s1 ++ s2) (by rw [data_app, data_app, HS1.out, HS2.out, HSP.out, List.append_assoc])
                      exact ⟨b, _, by omega, rfl, rfl, f2, Lib.hid f1, HN3, HK8, HB8⟩
                    case measure => simp [intOf]; omega

                  · have q2 : decide ((2 : Int) < (b : Int) - (k : Int)) = true := by simp; omega
                    have q1 : decide ((1 : Int) < (b : Int) - (k : Int)) = true := by simp; omega
                    have HSP : Hid (spT k (b - 1) = byteT k ++ [45] ++ byteT (b - 1)) := Lib.hid (by unfold spT; rw [if_neg (by omega), if_neg (by omega)])
                    have hb0 : ((b - 1 : Nat) : Int) = (b : Int) - 1 := by omega
                    rw [hb0] at HBH
                    clear hb0 hcase
                    go_wp2_with fail
                    refine (HBH.out _).mono ?_
                    rintro e w8 ⟨s2, rfl, hs2, hb8⟩
                    have hz2 := sz_byte hs2
                    have HS2 := Lib.hid hs2
                    have HK8 := Lib.hid (HK7.out.kept hb8)
                    have HB8 := Lib.hid (HB7.out.trans (hb8.mono HB7.out.size))
                    clear hs2 hb8
                    go_wp2_with fail
                    go_roundw
                    case rel =>
                      obtain ⟨f1, f2⟩ := HFIN.out (s ++ s1 ++ ⟨#[45]⟩ ++ s2) (by rw [data_app, data_app, data_app, HS1.out, HS2.out, HSP.out]; simp)
                      exact ⟨b, _, by omega, rfl, rfl, f2, Lib.hid f1, HN3, HK8, HB8⟩
                    case measure => simp [intOf]; omega


              · have hbd : decide ((b : Int) < 256) = false := by simp; omega
                have HT2 := Lib.hid (top_end HHK.out hlt hT.out (.inl (by omega)))
                have HK6 := hK
                have HB6 := hB
                clear hK hB x0 x1 x2 x3
                have HBT := Lib.hid (fun W => RByteText_any k hlt W)
                have HBH := Lib.hid (fun W => RByteText_any (b - 1) (by omega) W)
                unfold StrIs at HBT HBH
                have hkb1 : k < b := HT2.out.1
                have HRK : Hid (runsT (c0, c1, c2, c3) k = spT k (b - 1) ++ runsT (c0, c1, c2, c3) b) := Lib.hid (by
                  rw [runsT_yes hlt HHK.out, HT2.out.2, show b - 1 + 1 = b by omega])
                have HFIN : Hid (∀ s' : ByteArray, s'.data.toList = s.data.toList ++ spT k (b - 1) → s'.data.toList ++ runsT (c0, c1, c2, c3) b = runsT (c0, c1, c2, c3) 0 ∧ s'.size ≤ 2304) := Lib.hid (fun s' hs' => by
                  have h1 : s'.data.toList ++ runsT (c0, c1, c2, c3) b = runsT (c0, c1, c2, c3) 0 := by rw [hs', List.append_assoc, ← HRK.out]; exact hR.out
                  refine ⟨h1, ?_⟩
                  have h2 := runsT_len (c0, c1, c2, c3) 0
                  rw [← h1, List.length_append] at h2
                  rw [sz_list]; omega)
                have HN3 : Hid (∀ j, j < b → cntC (c0, c1, c2, c3) = 1 → has (c0, c1, c2, c3) j = false) := Lib.hid (fun j _ h1 => absurd h1 HNE.out)
                have hsb : s.size ≤ 2304 := hs
                go_wp2_with fail
                refine (HBT.out _).mono ?_
                rintro e w7 ⟨s1, rfl, hs1, hb7⟩
                have hz1 := sz_byte hs1
                have HS1 := Lib.hid hs1
                have HK7 := Lib.hid (HK6.out.kept hb7)
                have HB7 := Lib.hid (HB6.out.trans (hb7.mono HB6.out.size))
                clear hs1 hb7 HT2 HBT hR hN
                rcases (show b = k + 1 ∨ b = k + 2 ∨ k + 2 < b by omega) with hcase | hcase | hcase
                · have e1 : (b : Int) - (k : Int) = 1 := by omega
                  have q2 : decide ((2 : Int) < (b : Int) - (k : Int)) = false := by simp; omega
                  have q1 : decide ((1 : Int) < (b : Int) - (k : Int)) = false := by simp; omega
                  have HSP : Hid (spT k (b - 1) = byteT k) := Lib.hid (by unfold spT; rw [if_pos (by omega)])
                  have hb0 : ((b - 1 : Nat) : Int) = (b : Int) - 1 := by omega
                  rw [hb0] at HBH
                  clear hb0 hcase e1
                  go_wp2_with fail
                  go_roundw
                  case rel =>
                    obtain ⟨f1, f2⟩ := HFIN.out (s ++ s1) (by rw [data_app, HS1.out, HSP.out])
                    exact ⟨b, _, by omega, rfl, rfl, f2, Lib.hid f1, HN3, HK7, HB7⟩
                  case measure => simp [intOf]; omega

                · have e1 : (b : Int) - (k : Int) = 2 := by omega
                  have q2 : decide ((2 : Int) < (b : Int) - (k : Int)) = false := by simp; omega
                  have q1 : decide ((1 : Int) < (b : Int) - (k : Int)) = true := by simp; omega
                  have HSP : Hid (spT k (b - 1) = byteT k ++ byteT (b - 1)) := Lib.hid (by unfold spT; rw [if_neg (by omega), if_pos (by omega), show b - 1 = k + 1 by omega])
                  have hb0 : ((b - 1 : Nat) : Int) = (b : Int) - 1 := by omega
                  rw [hb0] at HBH
                  clear hb0 hcase e1
                  go_wp2_with fail
                  refine (HBH.out _).mono ?_
                  rintro e w8 ⟨s2, rfl, hs2, hb8⟩
                  have hz2 := sz_byte hs2
                  have HS2 := Lib.hid hs2
                  have HK8 := Lib.hid (HK7.out.kept hb8)
                  have HB8 := Lib.hid (HB7.out.trans (hb8.mono HB7.out.size))
                  clear hs2 hb8
                  go_wp2_with fail
                  go_roundw
                  case rel =>
                    obtain ⟨f1, f2⟩ := HFIN.out (s ++ s1 ++ s2) (by rw [data_app, data_app, HS1.out, HS2.out, HSP.out, List.append_assoc])
                    exact ⟨b, _, by omega, rfl, rfl, f2, Lib.hid f1, HN3, HK8, HB8⟩
                  case measure => simp [intOf]; omega

                · have q2 : decide ((2 : Int) < (b : Int) - (k : Int)) = true := by simp; omega
                  have q1 : decide ((1 : Int) < (b : Int) - (k : Int)) = true := by simp; omega
                  have HSP : Hid (spT k (b - 1) = byteT k ++ [45] ++ byteT (b - 1)) := Lib.hid (by unfold spT; rw [if_neg (by omega), if_neg (by omega)])
                  have hb0 : ((b - 1 : Nat) : Int) = (b : Int) - 1 := by omega
                  rw [hb0] at HBH
                  clear hb0 hcase
                  go_wp2_with fail
                  refine (HBH.out _).mono ?_
                  rintro e w8 ⟨s2, rfl, hs2, hb8⟩
                  have hz2 := sz_byte hs2
                  have HS2 := Lib.hid hs2
                  have HK8 := Lib.hid (HK7.out.kept hb8)
                  have HB8 := Lib.hid (HB7.out.trans (hb8.mono HB7.out.size))
                  clear hs2 hb8
                  go_wp2_with fail
                  go_roundw
                  case rel =>
                    obtain ⟨f1, f2⟩ := HFIN.out (s ++ s1 ++ ⟨#[45]⟩ ++ s2) (by rw [data_app, data_app, data_app, HS1.out, HS2.out, HSP.out]; simp)
                    exact ⟨b, _, by omega, rfl, rfl, f2, Lib.hid f1, HN3, HK8, HB8⟩
                  case measure => simp [intOf]; omega


        · obtain rfl : k = 256 := by omega
          have hall : s.data.toList = runsT (c0, c1, c2, c3) 0 := by have := hR.out; rw [runsT_end (by omega), List.append_nil] at this; exact this
          have HALL := Lib.hid hall
          clear hall hR hK
          go_wp2_with fail
          go_ret
          exact ⟨_, rfl, by rw [HTX.out, data_app, data_app, HALL.out]; rfl, hB.out⟩

    · have hmd : ((cntC (notC (c0, c1, c2, c3)) : Int) == 1) = false := by simp; omega
      generalize cntC (notC (c0, c1, c2, c3)) = m at *
      by_cases hn1 : cntC (c0, c1, c2, c3) = 1
      · have htx : textC (c0, c1, c2, c3) = byteT (least (c0, c1, c2, c3) 0) := by
          unfold textC
          rw [if_pos hn1]
        have HTX := Lib.hid htx
        have HONE := Lib.hid (cnt_one_least hn1)
        have HC1 := Lib.hid hn1
        rw [hn1] at HCN
        clear hsum hdot hc htx hok hn1 hm
        go_enter Tryz.func32, Tryz.ntmps32
        go_wp2_with fail
        refine (HCN.out _).mono ?_
        rintro e w1 ⟨rfl, hb1⟩
        have HK1 := Lib.hid (HK0.out.kept hb1)
        have HB1 := Lib.hid (HB0.out.trans (hb1.mono HB0.out.size))
        clear hb1
        obtain ⟨⟨x0, x1, x2, x3⟩, _⟩ := Blk4 HK1.out
        go_wp2_with fail
        refine (HOT.out _).mono ?_
        rintro e w2 ⟨d0, d1, d2, d3, rfl, hd, hb2⟩
        have HK2 := Lib.hid (HK1.out.kept hb2)
        have HB2 := Lib.hid (HB1.out.trans (hb2.mono HB1.out.size))
        have HD := Lib.hid hd
        clear hb2 hd x0 x1 x2 x3
        obtain ⟨⟨x0, x1, x2, x3⟩, _⟩ := Blk4 HK2.out
        go_wp2_with fail
        refine (HCO.out _ d0 d1 d2 d3 HD.out).mono ?_
        rintro e w3 ⟨rfl, hb3⟩
        have HK3 := Lib.hid (HK2.out.kept hb3)
        have HB3 := Lib.hid (HB2.out.trans (hb3.mono HB2.out.size))
        clear hb3 x0 x1 x2 x3
        obtain ⟨⟨x0, x1, x2, x3⟩, _⟩ := Blk4 HK3.out
        go_wp2_with fail
        refine (HI10.out _).mono ?_
        rintro e w4 ⟨rfl, hb4⟩
        have HK4 := Lib.hid (HK3.out.kept hb4)
        have HB4 := Lib.hid (HB3.out.trans (hb4.mono HB3.out.size))
        clear hb4 x0 x1 x2 x3 HB1 HB2 HB3 HK1 HK2 HK3
        go_wp2_with fail
        go_loopw [6, 7] (fun v6 v7 wr => ∃ (k : Nat) (s : ByteArray), k ≤ 256 ∧ v7 = .int .i64 (k : Int) ∧ v6 = .string s ∧ s.size ≤ 2304 ∧ Hid (s.data.toList ++ runsT (c0, c1, c2, c3) k = runsT (c0, c1, c2, c3) 0) ∧ Hid (∀ j, j < k → cntC (c0, c1, c2, c3) = 1 → has (c0, c1, c2, c3) j = false) ∧ Hid (Blk wr w.heap.size 39 #[.int .u64 (c0 : Int), .int .u64 (c1 : Int), .int .u64 (c2 : Int), .int .u64 (c3 : Int)]) ∧ Hid (Below w.heap.size w wr)) (fun _ i _ => 256 - (intOf i).toNat)
        case atStart => exact ⟨0, ⟨#[]⟩, by omega, rfl, rfl, by show (0 : Nat) ≤ 2304; omega, Lib.hid (by simp), Lib.hid (fun j hj => by omega), HK4, HB4⟩
        case round =>
          clear HK4 HB4
          obtain ⟨k, s, hk, rfl, rfl, hs, hR, hN, hK, hB⟩ := hrel
          obtain ⟨⟨x0, x1, x2, x3⟩, _⟩ := Blk4 hK.out
          by_cases hlt : k < 256
          · have hk1 : (k : Int) < 256 := by omega
            have HIk := Lib.hid (HIN.out k hlt)
            cases hh : has (c0, c1, c2, c3) k with
            | false =>
              rw [hh] at HIk
              have HR2 : Hid (s.data.toList ++ runsT (c0, c1, c2, c3) (k + 1) = runsT (c0, c1, c2, c3) 0) := Lib.hid (by rw [← runsT_no hlt hh]; exact hR.out)
              have HN2 : Hid (∀ j, j < k + 1 → cntC (c0, c1, c2, c3) = 1 → has (c0, c1, c2, c3) j = false) := Lib.hid (fun j hj h1 => by
                by_cases e : j = k
                · rw [e]; exact hh
                · exact hN.out j (by omega) h1)
              clear hh
              go_wp2_with fail
              refine (HIk.out _).mono ?_
              rintro e w5 ⟨rfl, hb5⟩
              have HK5 := Lib.hid (hK.out.kept hb5)
              have HB5 := Lib.hid (hB.out.trans (hb5.mono hB.out.size))
              clear hb5 x0 x1 x2 x3
              go_wp2_with fail
              go_roundw
              case rel => exact ⟨k + 1, s, by omega, by go_num, rfl, hs, HR2, HN2, HK5, HB5⟩
              case measure => simp [intOf]; omega
            | true =>
              rw [hh] at HIk
              have HHK := Lib.hid hh
              clear hh
              go_wp2_with fail
              refine (HIk.out _).mono ?_
              rintro e w5 ⟨rfl, hb5⟩
              have HK5 := Lib.hid (hK.out.kept hb5)
              have HB5 := Lib.hid (hB.out.trans (hb5.mono hB.out.size))
              clear hb5 x0 x1 x2 x3
              go_wp2_with fail
              go_loopw [7] (fun v7 wx => ∃ b : Nat, b ≤ 256 ∧ k ≤ b ∧ v7 = .int .i64 (b : Int) ∧ Hid (b = k ∨ (k < b ∧ top (c0, c1, c2, c3) k = top (c0, c1, c2, c3) (b - 1))) ∧ Hid (Blk wx w.heap.size 39 #[.int .u64 (c0 : Int), .int .u64 (c1 : Int), .int .u64 (c2 : Int), .int .u64 (c3 : Int)]) ∧ Hid (Below w.heap.size w wx)) (fun i _ => 256 - (intOf i).toNat)
              case atStart => exact ⟨k, by omega, by omega, rfl, Lib.hid (.inl rfl), HK5, HB5⟩
              case round =>
                clear HK5 HB5 hK hB
                obtain ⟨b, hb, hkb, rfl, hT, hK, hB⟩ := hrel
                obtain ⟨⟨x0, x1, x2, x3⟩, _⟩ := Blk4 hK.out
                by_cases hlb : b < 256
                · have hb1 : (b : Int) < 256 := by omega
                  have HIb := Lib.hid (HIN.out b hlb)
                  cases hhb : has (c0, c1, c2, c3) b with
                  | true =>
                    rw [hhb] at HIb
                    have HT2 := Lib.hid (top_step hT.out hlb hhb)
                    clear hhb
                    go_wp2_with fail
                    refine (HIb.out _).mono ?_
                    rintro e w6 ⟨rfl, hb6⟩
                    have HK6 := Lib.hid (hK.out.kept hb6)
                    have HB6 := Lib.hid (hB.out.trans (hb6.mono hB.out.size))
                    clear hb6 x0 x1 x2 x3
                    go_wp2_with fail
                    go_roundw
                    case rel => exact ⟨b + 1, by omega, by omega, by go_num, Lib.hid (.inr HT2.out), HK6, HB6⟩
                    case measure => simp [intOf]; omega
                  | false =>
                    rw [hhb] at HIb
                    have HT2 := Lib.hid (top_end HHK.out hlt hT.out (.inr hhb))
                    clear hhb
                    go_wp2_with fail
                    refine (HIb.out _).mono ?_
                    rintro e w6 ⟨rfl, hb6⟩
                    have HK6 := Lib.hid (hK.out.kept hb6)
                    have HB6 := Lib.hid (hB.out.trans (hb6.mono hB.out.size))
                    clear hb6 x0 x1 x2 x3
                    have hlow : least (c0, c1, c2, c3) 0 = k := ((HONE.out.2 k hlt).1 HHK.out).symm
                    have HLOW := Lib.hid hlow
                    have HBT := Lib.hid (fun W => RByteText_any k hlt W)
                    unfold StrIs at HBT
                    clear hlow
                    go_wp2_with fail
                    refine (HBT.out _).mono ?_
                    rintro e w7 ⟨s1, rfl, hs1, hb7⟩
                    have HS1 := Lib.hid hs1
                    have HB7 := Lib.hid (HB6.out.trans (hb7.mono HB6.out.size))
                    clear hs1 hb7
                    go_wp2_with fail
                    go_ret
                    exact ⟨s1, rfl, by rw [HS1.out, HTX.out, HLOW.out], HB7.out⟩

                · have hbd : decide ((b : Int) < 256) = false := by simp; omega
                  have HT2 := Lib.hid (top_end HHK.out hlt hT.out (.inl (by omega)))
                  have HK6 := hK
                  have HB6 := hB
                  clear hK hB x0 x1 x2 x3
                  have hlow : least (c0, c1, c2, c3) 0 = k := ((HONE.out.2 k hlt).1 HHK.out).symm
                  have HLOW := Lib.hid hlow
                  have HBT := Lib.hid (fun W => RByteText_any k hlt W)
                  unfold StrIs at HBT
                  clear hlow
                  go_wp2_with fail
                  refine (HBT.out _).mono ?_
                  rintro e w7 ⟨s1, rfl, hs1, hb7⟩
                  have HS1 := Lib.hid hs1
                  have HB7 := Lib.hid (HB6.out.trans (hb7.mono HB6.out.size))
                  clear hs1 hb7
                  go_wp2_with fail
                  go_ret
                  exact ⟨s1, rfl, by rw [HS1.out, HTX.out, HLOW.out], HB7.out⟩

          · obtain rfl : k = 256 := by omega
            exact absurd (HONE.out.2 (least (c0, c1, c2, c3) 0) HONE.out.1 |>.2 rfl) (by rw [hN.out _ HONE.out.1 HC1.out]; simp)

      · have htx : textC (c0, c1, c2, c3) = 91 :: (runsT (c0, c1, c2, c3) 0 ++ [93]) := by
          unfold textC
          rw [if_neg hn1, if_neg hc]
        have HTX := Lib.hid htx
        have hnd : ((cntC (c0, c1, c2, c3) : Int) == 1) = false := by simp; omega
        have HNE := Lib.hid hn1
        clear hsum hdot hc htx hok hn1 hm
        obtain ⟨n, hnn⟩ : ∃ n, n = cntC (c0, c1, c2, c3) := ⟨_, rfl⟩
        rw [← hnn] at HCN hnd
        clear hnn
        go_enter Tryz.func32, Tryz.ntmps32
        go_wp2_with fail
        refine (HCN.out _).mono ?_
        rintro e w1 ⟨rfl, hb1⟩
        have HK1 := Lib.hid (HK0.out.kept hb1)
        have HB1 := Lib.hid (HB0.out.trans (hb1.mono HB0.out.size))
        clear hb1
        obtain ⟨⟨x0, x1, x2, x3⟩, _⟩ := Blk4 HK1.out
        go_wp2_with fail
        refine (HOT.out _).mono ?_
        rintro e w2 ⟨d0, d1, d2, d3, rfl, hd, hb2⟩
        have HK2 := Lib.hid (HK1.out.kept hb2)
        have HB2 := Lib.hid (HB1.out.trans (hb2.mono HB1.out.size))
        have HD := Lib.hid hd
        clear hb2 hd x0 x1 x2 x3
        obtain ⟨⟨x0, x1, x2, x3⟩, _⟩ := Blk4 HK2.out
        go_wp2_with fail
        refine (HCO.out _ d0 d1 d2 d3 HD.out).mono ?_
        rintro e w3 ⟨rfl, hb3⟩
        have HK3 := Lib.hid (HK2.out.kept hb3)
        have HB3 := Lib.hid (HB2.out.trans (hb3.mono HB2.out.size))
        clear hb3 x0 x1 x2 x3
        obtain ⟨⟨x0, x1, x2, x3⟩, _⟩ := Blk4 HK3.out
        go_wp2_with fail
        refine (HI10.out _).mono ?_
        rintro e w4 ⟨rfl, hb4⟩
        have HK4 := Lib.hid (HK3.out.kept hb4)
        have HB4 := Lib.hid (HB3.out.trans (hb4.mono HB3.out.size))
        clear hb4 x0 x1 x2 x3 HB1 HB2 HB3 HK1 HK2 HK3
        go_wp2_with fail
        go_loopw [6, 7] (fun v6 v7 wr => ∃ (k : Nat) (s : ByteArray), k ≤ 256 ∧ v7 = .int .i64 (k : Int) ∧ v6 = .string s ∧ s.size ≤ 2304 ∧ Hid (s.data.toList ++ runsT (c0, c1, c2, c3) k = runsT (c0, c1, c2, c3) 0) ∧ Hid (∀ j, j < k → cntC (c0, c1, c2, c3) = 1 → has (c0, c1, c2, c3) j = false) ∧ Hid (Blk wr w.heap.size 39 #[.int .u64 (c0 : Int), .int .u64 (c1 : Int), .int .u64 (c2 : Int), .int .u64 (c3 : Int)]) ∧ Hid (Below w.heap.size w wr)) (fun _ i _ => 256 - (intOf i).toNat)
        case atStart => exact ⟨0, ⟨#[]⟩, by omega, rfl, rfl, by show (0 : Nat) ≤ 2304; omega, Lib.hid (by simp), Lib.hid (fun j hj => by omega), HK4, HB4⟩
        case round =>
          clear HK4 HB4
          obtain ⟨k, s, hk, rfl, rfl, hs, hR, hN, hK, hB⟩ := hrel
          obtain ⟨⟨x0, x1, x2, x3⟩, _⟩ := Blk4 hK.out
          by_cases hlt : k < 256
          · have hk1 : (k : Int) < 256 := by omega
            have HIk := Lib.hid (HIN.out k hlt)
            cases hh : has (c0, c1, c2, c3) k with
            | false =>
              rw [hh] at HIk
              have HR2 : Hid (s.data.toList ++ runsT (c0, c1, c2, c3) (k + 1) = runsT (c0, c1, c2, c3) 0) := Lib.hid (by rw [← runsT_no hlt hh]; exact hR.out)
              have HN2 : Hid (∀ j, j < k + 1 → cntC (c0, c1, c2, c3) = 1 → has (c0, c1, c2, c3) j = false) := Lib.hid (fun j hj h1 => by
                by_cases e : j = k
                · rw [e]; exact hh
                · exact hN.out j (by omega) h1)
              clear hh
              go_wp2_with fail
              refine (HIk.out _).mono ?_
              rintro e w5 ⟨rfl, hb5⟩
              have HK5 := Lib.hid (hK.out.kept hb5)
              have HB5 := Lib.hid (hB.out.trans (hb5.mono hB.out.size))
              clear hb5 x0 x1 x2 x3
              go_wp2_with fail
              go_roundw
              case rel => exact ⟨k + 1, s, by omega, by go_num, rfl, hs, HR2, HN2, HK5, HB5⟩
              case measure => simp [intOf]; omega
            | true =>
              rw [hh] at HIk
              have HHK := Lib.hid hh
              clear hh
              go_wp2_with fail
              refine (HIk.out _).mono ?_
              rintro e w5 ⟨rfl, hb5⟩
              have HK5 := Lib.hid (hK.out.kept hb5)
              have HB5 := Lib.hid (hB.out.trans (hb5.mono hB.out.size))
              clear hb5 x0 x1 x2 x3
              go_wp2_with fail
              go_loopw [7] (fun v7 wx => ∃ b : Nat, b ≤ 256 ∧ k ≤ b ∧ v7 = .int .i64 (b : Int) ∧ Hid (b = k ∨ (k < b ∧ top (c0, c1, c2, c3) k = top (c0, c1, c2, c3) (b - 1))) ∧ Hid (Blk wx w.heap.size 39 #[.int .u64 (c0 : Int), .int .u64 (c1 : Int), .int .u64 (c2 : Int), .int .u64 (c3 : Int)]) ∧ Hid (Below w.heap.size w wx)) (fun i _ => 256 - (intOf i).toNat)
              case atStart => exact ⟨k, by omega, by omega, rfl, Lib.hid (.inl rfl), HK5, HB5⟩
              case round =>
                clear HK5 HB5 hK hB
                obtain ⟨b, hb, hkb, rfl, hT, hK, hB⟩ := hrel
                obtain ⟨⟨x0, x1, x2, x3⟩, _⟩ := Blk4 hK.out
                by_cases hlb : b < 256
                · have hb1 : (b : Int) < 256 := by omega
                  have HIb := Lib.hid (HIN.out b hlb)
                  cases hhb : has (c0, c1, c2, c3) b with
                  | true =>
                    rw [hhb] at HIb
                    have HT2 := Lib.hid (top_step hT.out hlb hhb)
                    clear hhb
                    go_wp2_with fail
                    refine (HIb.out _).mono ?_
                    rintro e w6 ⟨rfl, hb6⟩
                    have HK6 := Lib.hid (hK.out.kept hb6)
                    have HB6 := Lib.hid (hB.out.trans (hb6.mono hB.out.size))
                    clear hb6 x0 x1 x2 x3
                    go_wp2_with fail
                    go_roundw
                    case rel => exact ⟨b + 1, by omega, by omega, by go_num, Lib.hid (.inr HT2.out), HK6, HB6⟩
                    case measure => simp [intOf]; omega
                  | false =>
                    rw [hhb] at HIb
                    have HT2 := Lib.hid (top_end HHK.out hlt hT.out (.inr hhb))
                    clear hhb
                    go_wp2_with fail
                    refine (HIb.out _).mono ?_
                    rintro e w6 ⟨rfl, hb6⟩
                    have HK6 := Lib.hid (hK.out.kept hb6)
                    have HB6 := Lib.hid (hB.out.trans (hb6.mono hB.out.size))
                    clear hb6 x0 x1 x2 x3
                    have HBT := Lib.hid (fun W => RByteText_any k hlt W)
                    have HBH := Lib.hid (fun W => RByteText_any (b - 1) (by omega) W)
                    unfold StrIs at HBT HBH
                    have hkb1 : k < b := HT2.out.1
                    have HRK : Hid (runsT (c0, c1, c2, c3) k = spT k (b - 1) ++ runsT (c0, c1, c2, c3) b) := Lib.hid (by
                      rw [runsT_yes hlt HHK.out, HT2.out.2, show b - 1 + 1 = b by omega])
                    have HFIN : Hid (∀ s' : ByteArray, s'.data.toList = s.data.toList ++ spT k (b - 1) → s'.data.toList ++ runsT (c0, c1, c2, c3) b = runsT (c0, c1, c2, c3) 0 ∧ s'.size ≤ 2304) := Lib.hid (fun s' hs' => by
                      have h1 : s'.data.toList ++ runsT (c0, c1, c2, c3) b = runsT (c0, c1, c2, c3) 0 := by rw [hs', List.append_assoc, ← HRK.out]; exact hR.out
                      refine ⟨h1, ?_⟩
                      have h2 := runsT_len (c0, c1, c2, c3) 0
                      rw [← h1, List.length_append] at h2
                      rw [sz_list]; omega)
                    have HN3 : Hid (∀ j, j < b → cntC (c0, c1, c2, c3) = 1 → has (c0, c1, c2, c3) j = false) := Lib.hid (fun j _ h1 => absurd h1 HNE.out)
                    have hsb : s.size ≤ 2304 := hs
                    go_wp2_with fail
                    refine (HBT.out _).mono ?_
                    rintro e w7 ⟨s1, rfl, hs1, hb7⟩
                    have hz1 := sz_byte hs1
                    have HS1 := Lib.hid hs1
                    have HK7 := Lib.hid (HK6.out.kept hb7)
                    have HB7 := Lib.hid (HB6.out.trans (hb7.mono HB6.out.size))
                    clear hs1 hb7 HT2 HBT hR hN
                    rcases (show b = k + 1 ∨ b = k + 2 ∨ k + 2 < b by omega) with hcase | hcase | hcase
                    · have e1 : (b : Int) - (k : Int) = 1 := by omega
                      have q2 : decide ((2 : Int) < (b : Int) - (k : Int)) = false := by simp; omega
                      have q1 : decide ((1 : Int) < (b : Int) - (k : Int)) = false := by simp; omega
                      have HSP : Hid (spT k (b - 1) = byteT k) := Lib.hid (by unfold spT; rw [if_pos (by omega)])
                      have hb0 : ((b - 1 : Nat) : Int) = (b : Int) - 1 := by omega
                      rw [hb0] at HBH
                      clear hb0 hcase e1
                      go_wp2_with fail
                      go_roundw
                      case rel =>
                        obtain ⟨f1, f2⟩ := HFIN.out (s ++ s1) (by rw [data_app, HS1.out, HSP.out])
                        exact ⟨b, _, by omega, rfl, rfl, f2, Lib.hid f1, HN3, HK7, HB7⟩
                      case measure => simp [intOf]; omega

                    · have e1 : (b : Int) - (k : Int) = 2 := by omega
                      have q2 : decide ((2 : Int) < (b : Int) - (k : Int)) = false := by simp; omega
                      have q1 : decide ((1 : Int) < (b : Int) - (k : Int)) = true := by simp; omega
                      have HSP : Hid (spT k (b - 1) = byteT k ++ byteT (b - 1)) := Lib.hid (by unfold spT; rw [if_neg (by omega), if_pos (by omega), show b - 1 = k + 1 by omega])
                      have hb0 : ((b - 1 : Nat) : Int) = (b : Int) - 1 := by omega
                      rw [hb0] at HBH
                      clear hb0 hcase e1
                      go_wp2_with fail
                      refine (HBH.out _).mono ?_
                      rintro e w8 ⟨s2, rfl, hs2, hb8⟩
                      have hz2 := sz_byte hs2
                      have HS2 := Lib.hid hs2
                      have HK8 := Lib.hid (HK7.out.kept hb8)
                      have HB8 := Lib.hid (HB7.out.trans (hb8.mono HB7.out.size))
                      clear hs2 hb8
                      go_wp2_with fail
                      go_roundw
                      case rel =>
                        obtain ⟨f1, f2⟩ := HFIN.out (s ++ s1 ++ s2) (by rw [data_app, data_app, HS1.out, HS2.out, HSP.out, List.append_assoc])
                        exact ⟨b, _, by omega, rfl, rfl, f2, Lib.hid f1, HN3, HK8, HB8⟩
                      case measure => simp [intOf]; omega

                    · have q2 : decide ((2 : Int) < (b : Int) - (k : Int)) = true := by simp; omega
                      have q1 : decide ((1 : Int) < (b : Int) - (k : Int)) = true := by simp; omega
                      have HSP : Hid (spT k (b - 1) = byteT k ++ [45] ++ byteT (b - 1)) := Lib.hid (by unfold spT; rw [if_neg (by omega), if_neg (by omega)])
                      have hb0 : ((b - 1 : Nat) : Int) = (b : Int) - 1 := by omega
                      rw [hb0] at HBH
                      clear hb0 hcase
                      go_wp2_with fail
                      refine (HBH.out _).mono ?_
                      rintro e w8 ⟨s2, rfl, hs2, hb8⟩
                      have hz2 := sz_byte hs2
                      have HS2 := Lib.hid hs2
                      have HK8 := Lib.hid (HK7.out.kept hb8)
                      have HB8 := Lib.hid (HB7.out.trans (hb8.mono HB7.out.size))
                      clear hs2 hb8
                      go_wp2_with fail
                      go_roundw
                      case rel =>
                        obtain ⟨f1, f2⟩ := HFIN.out (s ++ s1 ++ ⟨#[45]⟩ ++ s2) (by rw [data_app, data_app, data_app, HS1.out, HS2.out, HSP.out]; simp)
                        exact ⟨b, _, by omega, rfl, rfl, f2, Lib.hid f1, HN3, HK8, HB8⟩
                      case measure => simp [intOf]; omega


                · have hbd : decide ((b : Int) < 256) = false := by simp; omega
                  have HT2 := Lib.hid (top_end HHK.out hlt hT.out (.inl (by omega)))
                  have HK6 := hK
                  have HB6 := hB
                  clear hK hB x0 x1 x2 x3
                  have HBT := Lib.hid (fun W => RByteText_any k hlt W)
                  have HBH := Lib.hid (fun W => RByteText_any (b - 1) (by omega) W)
                  unfold StrIs at HBT HBH
                  have hkb1 : k < b := HT2.out.1
                  have HRK : Hid (runsT (c0, c1, c2, c3) k = spT k (b - 1) ++ runsT (c0, c1, c2, c3) b) := Lib.hid (by
                    rw [runsT_yes hlt HHK.out, HT2.out.2, show b - 1 + 1 = b by omega])
                  have HFIN : Hid (∀ s' : ByteArray, s'.data.toList = s.data.toList ++ spT k (b - 1) → s'.data.toList ++ runsT (c0, c1, c2, c3) b = runsT (c0, c1, c2, c3) 0 ∧ s'.size ≤ 2304) := Lib.hid (fun s' hs' => by
                    have h1 : s'.data.toList ++ runsT (c0, c1, c2, c3) b = runsT (c0, c1, c2, c3) 0 := by rw [hs', List.append_assoc, ← HRK.out]; exact hR.out
                    refine ⟨h1, ?_⟩
                    have h2 := runsT_len (c0, c1, c2, c3) 0
                    rw [← h1, List.length_append] at h2
                    rw [sz_list]; omega)
                  have HN3 : Hid (∀ j, j < b → cntC (c0, c1, c2, c3) = 1 → has (c0, c1, c2, c3) j = false) := Lib.hid (fun j _ h1 => absurd h1 HNE.out)
                  have hsb : s.size ≤ 2304 := hs
                  go_wp2_with fail
                  refine (HBT.out _).mono ?_
                  rintro e w7 ⟨s1, rfl, hs1, hb7⟩
                  have hz1 := sz_byte hs1
                  have HS1 := Lib.hid hs1
                  have HK7 := Lib.hid (HK6.out.kept hb7)
                  have HB7 := Lib.hid (HB6.out.trans (hb7.mono HB6.out.size))
                  clear hs1 hb7 HT2 HBT hR hN
                  rcases (show b = k + 1 ∨ b = k + 2 ∨ k + 2 < b by omega) with hcase | hcase | hcase
                  · have e1 : (b : Int) - (k : Int) = 1 := by omega
                    have q2 : decide ((2 : Int) < (b : Int) - (k : Int)) = false := by simp; omega
                    have q1 : decide ((1 : Int) < (b : Int) - (k : Int)) = false := by simp; omega
                    have HSP : Hid (spT k (b - 1) = byteT k) := Lib.hid (by unfold spT; rw [if_pos (by omega)])
                    have hb0 : ((b - 1 : Nat) : Int) = (b : Int) - 1 := by omega
                    rw [hb0] at HBH
                    clear hb0 hcase e1
                    go_wp2_with fail
                    go_roundw
                    case rel =>
                      obtain ⟨f1, f2⟩ := HFIN.out (s ++ s1) (by rw [data_app, HS1.out, HSP.out])
                      exact ⟨b, _, by omega, rfl, rfl, f2, Lib.hid f1, HN3, HK7, HB7⟩
                    case measure => simp [intOf]; omega

                  · have e1 : (b : Int) - (k : Int) = 2 := by omega
                    have q2 : decide ((2 : Int) < (b : Int) - (k : Int)) = false := by simp; omega
                    have q1 : decide ((1 : Int) < (b : Int) - (k : Int)) = true := by simp; omega
                    have HSP : Hid (spT k (b - 1) = byteT k ++ byteT (b - 1)) := Lib.hid (by unfold spT; rw [if_neg (by omega), if_pos (by omega), show b - 1 = k + 1 by omega])
                    have hb0 : ((b - 1 : Nat) : Int) = (b : Int) - 1 := by omega
                    rw [hb0] at HBH
                    clear hb0 hcase e1
                    go_wp2_with fail
                    refine (HBH.out _).mono ?_
                    rintro e w8 ⟨s2, rfl, hs2, hb8⟩
                    have hz2 := sz_byte hs2
                    have HS2 := Lib.hid hs2
                    have HK8 := Lib.hid (HK7.out.kept hb8)
                    have HB8 := Lib.hid (HB7.out.trans (hb8.mono HB7.out.size))
                    clear hs2 hb8
                    go_wp2_with fail
                    go_roundw
                    case rel =>
                      obtain ⟨f1, f2⟩ := HFIN.out (s ++ s1 ++ s2) (by rw [data_app, data_app, HS1.out, HS2.out, HSP.out, List.append_assoc])
                      exact ⟨b, _, by omega, rfl, rfl, f2, Lib.hid f1, HN3, HK8, HB8⟩
                    case measure => simp [intOf]; omega

                  · have q2 : decide ((2 : Int) < (b : Int) - (k : Int)) = true := by simp; omega
                    have q1 : decide ((1 : Int) < (b : Int) - (k : Int)) = true := by simp; omega
                    have HSP : Hid (spT k (b - 1) = byteT k ++ [45] ++ byteT (b - 1)) := Lib.hid (by unfold spT; rw [if_neg (by omega), if_neg (by omega)])
                    have hb0 : ((b - 1 : Nat) : Int) = (b : Int) - 1 := by omega
                    rw [hb0] at HBH
                    clear hb0 hcase
                    go_wp2_with fail
                    refine (HBH.out _).mono ?_
                    rintro e w8 ⟨s2, rfl, hs2, hb8⟩
                    have hz2 := sz_byte hs2
                    have HS2 := Lib.hid hs2
                    have HK8 := Lib.hid (HK7.out.kept hb8)
                    have HB8 := Lib.hid (HB7.out.trans (hb8.mono HB7.out.size))
                    clear hs2 hb8
                    go_wp2_with fail
                    go_roundw
                    case rel =>
                      obtain ⟨f1, f2⟩ := HFIN.out (s ++ s1 ++ ⟨#[45]⟩ ++ s2) (by rw [data_app, data_app, data_app, HS1.out, HS2.out, HSP.out]; simp)
                      exact ⟨b, _, by omega, rfl, rfl, f2, Lib.hid f1, HN3, HK8, HB8⟩
                    case measure => simp [intOf]; omega


          · obtain rfl : k = 256 := by omega
            have hall : s.data.toList = runsT (c0, c1, c2, c3) 0 := by have := hR.out; rw [runsT_end (by omega), List.append_nil] at this; exact this
            have HALL := Lib.hid hall
            clear hall hR hK
            go_wp2_with fail
            go_ret
            exact ⟨_, rfl, by rw [HTX.out, data_app, data_app, HALL.out]; rfl, hB.out⟩


end Go.Proofs.YthcahjnniendnacGreatDoor
