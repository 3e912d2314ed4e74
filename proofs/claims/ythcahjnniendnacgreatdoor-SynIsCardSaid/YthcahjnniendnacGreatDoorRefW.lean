/-
  The walks of the document's With, OfText, Others.
-/
import Derived.Test.YthcahjnniendnacGreatDoorClsA
import Derived.Test.YthcahjnniendnacGreatDoorGPl
import Derived.Test.YthcahjnniendnacGreatDoorGRef
namespace Go.Proofs.YthcahjnniendnacGreatDoor
open Go.RowKit Wf

theorem word_add {c : Cls} {b : Nat} (hok : okC c) (h : has c b = false) : word c (b / 64) + 2 ^ (b % 64) = word c (b / 64) ||| 2 ^ (b % 64) ∧ word c (b / 64) + 2 ^ (b % 64) < 18446744073709551616 := by
  have h1 := add_or (n := word c (b / 64)) (k := b % 64) h
  exact ⟨h1, by rw [h1]; exact or_lt64 (word_lt hok _) (pow_lt64 b)⟩

set_option maxRecDepth 100000 in
set_option maxHeartbeats 4000000 in
theorem RWith_any (c0 c1 c2 c3 b : Nat) (w : World) (hok : okC (c0, c1, c2, c3)) (hb : b < 256) :
    Calls Tryz.prog 79 #[.agg #[.int .u64 (c0 : Int), .int .u64 (c1 : Int), .int .u64 (c2 : Int), .int .u64 (c3 : Int)], .int .i64 (b : Int)] w (ClsIs (withB (c0, c1, c2, c3) b) w) := by
  have HIN := Lib.hid (fun (W : World) => RIn_any c0 c1 c2 c3 b W hok hb)
  unfold RInIs at HIN
  cases hh : has (c0, c1, c2, c3) b with
  | true =>
    have hw := with_has hok hb hh
    rw [hh] at HIN
    have HW := Lib.hid hw
    have HOK := Lib.hid hok
    clear hw hok hh
    go_enter Tryz.func79, Tryz.ntmps79
    go_wp2_with fail
    refine (HIN.out _).mono ?_
    rintro e w1 ⟨rfl, hb1⟩
    have hn0 : Blk ((w.alloc (.cells #[.int .u64 (c0 : Int), .int .u64 (c1 : Int), .int .u64 (c2 : Int), .int .u64 (c3 : Int)] 39)).alloc (.cells #[.int .u64 0, .int .u64 0, .int .u64 0, .int .u64 0] 39)) w.heap.size 39 #[.int .u64 (c0 : Int), .int .u64 (c1 : Int), .int .u64 (c2 : Int), .int .u64 (c3 : Int)] := (Blk.new w _ _).alloc _
    have hn1 : Blk ((w.alloc (.cells #[.int .u64 (c0 : Int), .int .u64 (c1 : Int), .int .u64 (c2 : Int), .int .u64 (c3 : Int)] 39)).alloc (.cells #[.int .u64 0, .int .u64 0, .int .u64 0, .int .u64 0] 39)) (w.heap.size + 1) 39 #[.int .u64 0, .int .u64 0, .int .u64 0, .int .u64 0] := by
      have h := Blk.new (w.alloc (.cells #[.int .u64 (c0 : Int), .int .u64 (c1 : Int), .int .u64 (c2 : Int), .int .u64 (c3 : Int)] 39)) 39 #[.int .u64 0, .int .u64 0, .int .u64 0, .int .u64 0]
      rw [World.size_alloc] at h
      exact h
    have hbn : Below w.heap.size w ((w.alloc (.cells #[.int .u64 (c0 : Int), .int .u64 (c1 : Int), .int .u64 (c2 : Int), .int .u64 (c3 : Int)] 39)).alloc (.cells #[.int .u64 0, .int .u64 0, .int .u64 0, .int .u64 0] 39)) := ((Below.refl _ _).alloc (Nat.le_refl _) _).alloc (by simp) _
    have HN0 := Lib.hid (hn0.kept hb1)
    have HN1 := Lib.hid (hn1.kept hb1)
    have HB := Lib.hid (hbn.trans (hb1.mono hbn.size))
    obtain ⟨⟨x0, x1, x2, x3⟩, _⟩ := Blk4 HN0.out
    obtain ⟨_, y0, y1, y2, y3⟩ := Blk4 HN1.out
    clear hn0 hn1 hbn hb1 HIN
    go_wp2
    refine bodyPost_ret (v := clsV (withB (c0, c1, c2, c3) b)) ?_ rfl (ClsIs.of ?_)
    · rw [HW.out]
      have h4 := (Blk4 (Blk4_set HN1.out (.int .u64 c0) (.int .u64 c1) (.int .u64 c2) (.int .u64 c3))).1
      obtain ⟨h0, h1, h2, h3⟩ := h4
      simp [results, Tryz.results79, go_sem, clsV, h0, h1, h2, h3]
    · exact (((HB.out.setCell (by simp) _).setCell (by simp) _).setCell (by simp) _).setCell (by simp) _
  | false =>
    rw [hh] at HIN
    obtain ⟨hadd, hlt⟩ := word_add hok hh
    have HADD := Lib.hid hadd
    have hb64 : b % 64 < 64 := by omega
    have hq4 : b / 64 = 0 ∨ b / 64 = 1 ∨ b / 64 = 2 ∨ b / 64 = 3 := by omega
    clear hok hh hadd
    go_enter Tryz.func79, Tryz.ntmps79
    go_wp2_with fail
    refine (HIN.out _).mono ?_
    rintro e w1 ⟨rfl, hb1⟩
    have hn0 : Blk ((w.alloc (.cells #[.int .u64 (c0 : Int), .int .u64 (c1 : Int), .int .u64 (c2 : Int), .int .u64 (c3 : Int)] 39)).alloc (.cells #[.int .u64 0, .int .u64 0, .int .u64 0, .int .u64 0] 39)) w.heap.size 39 #[.int .u64 (c0 : Int), .int .u64 (c1 : Int), .int .u64 (c2 : Int), .int .u64 (c3 : Int)] := (Blk.new w _ _).alloc _
    have hn1 : Blk ((w.alloc (.cells #[.int .u64 (c0 : Int), .int .u64 (c1 : Int), .int .u64 (c2 : Int), .int .u64 (c3 : Int)] 39)).alloc (.cells #[.int .u64 0, .int .u64 0, .int .u64 0, .int .u64 0] 39)) (w.heap.size + 1) 39 #[.int .u64 0, .int .u64 0, .int .u64 0, .int .u64 0] := by
      have h := Blk.new (w.alloc (.cells #[.int .u64 (c0 : Int), .int .u64 (c1 : Int), .int .u64 (c2 : Int), .int .u64 (c3 : Int)] 39)) 39 #[.int .u64 0, .int .u64 0, .int .u64 0, .int .u64 0]
      rw [World.size_alloc] at h
      exact h
    have hbn : Below w.heap.size w ((w.alloc (.cells #[.int .u64 (c0 : Int), .int .u64 (c1 : Int), .int .u64 (c2 : Int), .int .u64 (c3 : Int)] 39)).alloc (.cells #[.int .u64 0, .int .u64 0, .int .u64 0, .int .u64 0] 39)) := ((Below.refl _ _).alloc (Nat.le_refl _) _).alloc (by simp) _
    have HN0 := Lib.hid (hn0.kept hb1)
    have HN1 := Lib.hid (hn1.kept hb1)
    have HB := Lib.hid (hbn.trans (hb1.mono hbn.size))
    obtain ⟨⟨x0, x1, x2, x3⟩, _⟩ := Blk4 HN0.out
    obtain ⟨_, y0, y1, y2, y3⟩ := Blk4 HN1.out
    clear hn0 hn1 hbn hb1 HIN
    go_wp2_with fail
    go_loopw [6, 7] (fun v6 v7 wr => ∃ k x : Nat, k ≤ b % 64 ∧ v7 = .int .i64 (k : Int) ∧ v6 = .int .u64 (x : Int) ∧ x < 18446744073709551616 ∧ Hid (x = 2 ^ k) ∧ wr = w1) (fun _ i _ => b % 64 - (intOf i).toNat)
    case atStart => exact ⟨0, 1, by omega, rfl, rfl, by omega, Lib.hid (by simp), rfl⟩
    case round =>
      obtain ⟨k, x, hk, rfl, rfl, hx, HX, rfl⟩ := hrel
      by_cases hltk : k < b % 64
      · have d2 : decide ((k : Int) < (b : Int) % 64) = true := by simp; omega
        have i2 : (k : Int) < (b : Int) % 64 := by omega
        have hx2 : x * 2 < 18446744073709551616 := by
          have : 2 ^ (k + 1) ≤ 2 ^ 63 := Nat.pow_le_pow_right (by omega) (by omega)
          rw [HX.out, ← Nat.pow_succ]; omega
        go_wp2
        go_roundw
        case rel => exact ⟨k + 1, x * 2, by omega, by go_num, by go_num, hx2, Lib.hid (by rw [HX.out, Nat.pow_succ]), trivial⟩
        case measure => simp [intOf]; omega
      · obtain rfl : k = b % 64 := by omega
        have d2 : decide (((b % 64 : Nat) : Int) < (b : Int) % 64) = false := by simp
        have hx64 : x < 18446744073709551616 := hx
        rcases hq4 with hq | hq | hq | hq
        · have hqi : (b : Int) / 64 = ((b / 64 : Nat) : Int) := by omega
          rw [hq] at hqi
          rw [hq] at hlt HADD
          simp only [word] at hlt HADD
          rw [← HX.out] at hlt HADD
          simp at hlt HADD
          have hfin : clsV (withB (c0, c1, c2, c3) b) = clsV (withB (c0, c1, c2, c3) b) := rfl
          conv at hfin => rhs; unfold clsV withB; simp only [hq]
          simp at hfin
          rw [← HX.out, ← HADD.out] at hfin
          have HF := Lib.hid hfin
          clear hfin
          go_wp2
          refine bodyPost_ret (v := clsV (withB (c0, c1, c2, c3) b)) ?_ rfl (ClsIs.of ?_)
          · rw [HF.out]
            obtain ⟨h0, h1, h2, h3⟩ := (Blk4 (Blk4_set (HN1.out.far (p := ⟨w.heap.size, 0, none⟩) (by simp) (.int .u64 ((c0 : Int) + (x : Int)))) (.int .u64 ((c0 : Int) + (x : Int))) (.int .u64 ((c1 : Int))) (.int .u64 ((c2 : Int))) (.int .u64 ((c3 : Int))))).1
            simp [results, Tryz.results79, go_sem, clsV, h0, h1, h2, h3]
          · exact ((((HB.out.setCell (by simp) _).setCell (by simp) _).setCell (by simp) _).setCell (by simp) _).setCell (by simp) _
        · have hqi : (b : Int) / 64 = ((b / 64 : Nat) : Int) := by omega
          rw [hq] at hqi
          rw [hq] at hlt HADD
          simp only [word] at hlt HADD
          rw [← HX.out] at hlt HADD
          simp at hlt HADD
          have hfin : clsV (withB (c0, c1, c2, c3) b) = clsV (withB (c0, c1, c2, c3) b) := rfl
          conv at hfin => rhs; unfold clsV withB; simp only [hq]
          simp at hfin
          rw [← HX.out, ← HADD.out] at hfin
          have HF := Lib.hid hfin
          clear hfin
          go_wp2
          refine bodyPost_ret (v := clsV (withB (c0, c1, c2, c3) b)) ?_ rfl (ClsIs.of ?_)
          · rw [HF.out]
            obtain ⟨h0, h1, h2, h3⟩ := (Blk4 (Blk4_set (HN1.out.far (p := ⟨w.heap.size, 1, none⟩) (by simp) (.int .u64 ((c1 : Int) + (x : Int)))) (.int .u64 ((c0 : Int))) (.int .u64 ((c1 : Int) + (x : Int))) (.int .u64 ((c2 : Int))) (.int .u64 ((c3 : Int))))).1
            simp [results, Tryz.results79, go_sem, clsV, h0, h1, h2, h3]
          · exact ((((HB.out.setCell (by simp) _).setCell (by simp) _).setCell (by simp) _).setCell (by simp) _).setCell (by simp) _
        · have hqi : (b : Int) / 64 = ((b / 64 : Nat) : Int) := by omega
          rw [hq] at hqi
          rw [hq] at hlt HADD
          simp only [word] at hlt HADD
          rw [← HX.out] at hlt HADD
          simp at hlt HADD
          have hfin : clsV (withB (c0, c1, c2, c3) b) = clsV (withB (c0, c1, c2, c3) b) := rfl
          conv at hfin => rhs; unfold clsV withB; simp only [hq]
          simp at hfin
          rw [← HX.out, ← HADD.out] at hfin
          have HF := Lib.hid hfin
          clear hfin
          go_wp2
          refine bodyPost_ret (v := clsV (withB (c0, c1, c2, c3) b)) ?_ rfl (ClsIs.of ?_)
          · rw [HF.out]
            obtain ⟨h0, h1, h2, h3⟩ := (Blk4 (Blk4_set (HN1.out.far (p := ⟨w.heap.size, 2, none⟩) (by simp) (.int .u64 ((c2 : Int) + (x : Int)))) (.int .u64 ((c0 : Int))) (.int .u64 ((c1 : Int))) (.int .u64 ((c2 : Int) + (x : Int))) (.int .u64 ((c3 : Int))))).1
            simp [results, Tryz.results79, go_sem, clsV, h0, h1, h2, h3]
          · exact ((((HB.out.setCell (by simp) _).setCell (by simp) _).setCell (by simp) _).setCell (by simp) _).setCell (by simp) _
        · have hqi : (b : Int) / 64 = ((b / 64 : Nat) : Int) := by omega
          rw [hq] at hqi
          rw [hq] at hlt HADD
          simp only [word] at hlt HADD
          rw [← HX.out] at hlt HADD
          simp at hlt HADD
          have hfin : clsV (withB (c0, c1, c2, c3) b) = clsV (withB (c0, c1, c2, c3) b) := rfl
          conv at hfin => rhs; unfold clsV withB; simp only [hq]
          simp at hfin
          rw [← HX.out, ← HADD.out] at hfin
          have HF := Lib.hid hfin
          clear hfin
          go_wp2
          refine bodyPost_ret (v := clsV (withB (c0, c1, c2, c3) b)) ?_ rfl (ClsIs.of ?_)
          · rw [HF.out]
            obtain ⟨h0, h1, h2, h3⟩ := (Blk4 (Blk4_set (HN1.out.far (p := ⟨w.heap.size, 3, none⟩) (by simp) (.int .u64 ((c3 : Int) + (x : Int)))) (.int .u64 ((c0 : Int))) (.int .u64 ((c1 : Int))) (.int .u64 ((c2 : Int))) (.int .u64 ((c3 : Int) + (x : Int))))).1
            simp [results, Tryz.results79, go_sem, clsV, h0, h1, h2, h3]
          · exact ((((HB.out.setCell (by simp) _).setCell (by simp) _).setCell (by simp) _).setCell (by simp) _).setCell (by simp) _

/-- Three blocks of four numbers: the class that came, the result's, the one that is made. -/
def B3 (w : World) (c d : Cls) (w' : World) : Prop :=
  Blk w' w.heap.size 39 #[.int .u64 (c.1 : Int), .int .u64 (c.2.1 : Int), .int .u64 (c.2.2.1 : Int), .int .u64 (c.2.2.2 : Int)] ∧ Blk w' (w.heap.size + 1) 39 #[.int .u64 0, .int .u64 0, .int .u64 0, .int .u64 0] ∧
  Blk w' (w.heap.size + 1 + 1) 39 #[.int .u64 (d.1 : Int), .int .u64 (d.2.1 : Int), .int .u64 (d.2.2.1 : Int), .int .u64 (d.2.2.2 : Int)] ∧ Below w.heap.size w w'
theorem B3.kept {w w1 w2 : World} {c d : Cls} (h : B3 w c d w1) (hb : Below w1.heap.size w1 w2) : B3 w c d w2 :=
  ⟨h.1.kept hb, h.2.1.kept hb, h.2.2.1.kept hb, h.2.2.2.trans (hb.mono h.2.2.2.size)⟩
theorem B3.put {w w1 : World} {c d e : Cls} (h : B3 w c d w1) : B3 w c e ((((w1.setCell ⟨w.heap.size + 1 + 1, 0, none⟩ (.int .u64 (e.1 : Int))).setCell ⟨w.heap.size + 1 + 1, 1, none⟩ (.int .u64 (e.2.1 : Int))).setCell ⟨w.heap.size + 1 + 1, 2, none⟩ (.int .u64 (e.2.2.1 : Int))).setCell ⟨w.heap.size + 1 + 1, 3, none⟩ (.int .u64 (e.2.2.2 : Int))) :=
  ⟨(((h.1.far (by simp; omega) _).far (by simp; omega) _).far (by simp; omega) _).far (by simp; omega) _, (((h.2.1.far (by simp) _).far (by simp) _).far (by simp) _).far (by simp) _, Blk4_set h.2.2.1 _ _ _ _,
    (((h.2.2.2.setCell (by simp; omega) _).setCell (by simp; omega) _).setCell (by simp; omega) _).setCell (by simp; omega) _⟩

set_option maxRecDepth 100000 in
set_option maxHeartbeats 4000000 in
theorem ROthers_any (c0 c1 c2 c3 : Nat) (w : World) (hok : okC (c0, c1, c2, c3)) :
    Calls Tryz.prog 55 #[.agg #[.int .u64 (c0 : Int), .int .u64 (c1 : Int), .int .u64 (c2 : Int), .int .u64 (c3 : Int)]] w (ClsIs (notC (c0, c1, c2, c3)) w) := by
  have hsel := sel_not hok
  have HSEL := Lib.hid hsel
  have HIN := Lib.hid (fun (b : Nat) (hb : b < 256) (W : World) => RIn_any c0 c1 c2 c3 b W hok hb)
  unfold RInIs at HIN
  have hst : B3 w (c0, c1, c2, c3) zc (((w.alloc (.cells #[.int .u64 (c0 : Int), .int .u64 (c1 : Int), .int .u64 (c2 : Int), .int .u64 (c3 : Int)] 39)).alloc (.cells #[.int .u64 0, .int .u64 0, .int .u64 0, .int .u64 0] 39)).alloc (.cells #[.int .u64 0, .int .u64 0, .int .u64 0, .int .u64 0] 39)) := by
    have h1 := Blk.new (w.alloc (.cells #[.int .u64 (c0 : Int), .int .u64 (c1 : Int), .int .u64 (c2 : Int), .int .u64 (c3 : Int)] 39)) 39 #[.int .u64 0, .int .u64 0, .int .u64 0, .int .u64 0]
    have h2 := Blk.new ((w.alloc (.cells #[.int .u64 (c0 : Int), .int .u64 (c1 : Int), .int .u64 (c2 : Int), .int .u64 (c3 : Int)] 39)).alloc (.cells #[.int .u64 0, .int .u64 0, .int .u64 0, .int .u64 0] 39)) 39 #[.int .u64 0, .int .u64 0, .int .u64 0, .int .u64 0]
    rw [World.size_alloc] at h1
    rw [World.size_alloc, World.size_alloc] at h2
    exact ⟨((Blk.new w _ _).alloc _).alloc _, h1.alloc _, h2, (((Below.refl _ _).alloc (Nat.le_refl _) _).alloc (by simp) _).alloc (by simp; omega) _⟩
  have HST := Lib.hid hst
  clear hok hsel hst
  go_enter Tryz.func55, Tryz.ntmps55
  go_wp2
  go_loopw [4] (fun v4 wr => ∃ (k d0 d1 d2 d3 : Nat), k ≤ 256 ∧ v4 = .int .i64 (k : Int) ∧ Hid ((d0, d1, d2, d3) = selC (fun x => !has (c0, c1, c2, c3) x) k) ∧ Hid (B3 w (c0, c1, c2, c3) (d0, d1, d2, d3) wr)) (fun i _ => 256 - (intOf i).toNat)
  case atStart => exact ⟨0, 0, 0, 0, 0, by omega, rfl, Lib.hid rfl, HST⟩
  case round =>
    clear HST
    obtain ⟨k, d0, d1, d2, d3, hk, rfl, hD, hE⟩ := hrel
    obtain ⟨⟨x0, x1, x2, x3⟩, _⟩ := Blk4 hE.out.1
    obtain ⟨⟨z0, z1, z2, z3⟩, t0, t1, t2, t3⟩ := Blk4 hE.out.2.1
    obtain ⟨⟨y0, y1, y2, y3⟩, r0, r1, r2, r3⟩ := Blk4 hE.out.2.2.1
    dsimp only at x0 x1 x2 x3 y0 y1 y2 y3
    by_cases hlt : k < 256
    · have hk1 : (k : Int) < 256 := by omega
      have HI := Lib.hid (HIN.out k hlt)
      cases hh : has (c0, c1, c2, c3) k with
      | true =>
        have hs : selC (fun x => !has (c0, c1, c2, c3) x) (k + 1) = selC (fun x => !has (c0, c1, c2, c3) x) k := by simp [selC, hh]
        have HS := Lib.hid hs
        rw [hh] at HI
        clear hh hs
        go_wp2_with fail
        refine (HI.out _).mono ?_
        rintro e w1 ⟨rfl, hb1⟩
        have HE1 := Lib.hid (hE.out.kept hb1)
        clear hb1 hE
        go_wp2_with fail
        go_roundw
        case rel => exact ⟨k + 1, d0, d1, d2, d3, by omega, by go_num, Lib.hid (by rw [HS.out]; exact hD.out), HE1⟩
        case measure => simp [intOf]; omega
      | false =>
        have hs : selC (fun x => !has (c0, c1, c2, c3) x) (k + 1) = withB (selC (fun x => !has (c0, c1, c2, c3) x) k) k := by simp [selC, hh]
        have hokd : okC (d0, d1, d2, d3) := by rw [hD.out]; exact okC_sel _ _
        have HWT := Lib.hid (fun W => RWith_any d0 d1 d2 d3 k W hokd hlt)
        unfold ClsIs at HWT
        have HS := Lib.hid hs
        rw [hh] at HI
        clear hh hs hokd
        go_wp2_with fail
        refine (HI.out _).mono ?_
        rintro e w1 ⟨rfl, hb1⟩
        have HE1 := Lib.hid (hE.out.kept hb1)
        obtain ⟨⟨y0, y1, y2, y3⟩, _⟩ := Blk4 HE1.out.2.2.1
        dsimp only at y0 y1 y2 y3
        clear hb1 hE
        go_wp2_with fail
        refine (HWT.out _).mono ?_
        rintro e w2 ⟨e0, e1, e2, e3, rfl, he, hb2⟩
        have HE2 := Lib.hid (HE1.out.kept hb2)
        have HEQ := Lib.hid he
        obtain ⟨_, r0, r1, r2, r3⟩ := Blk4 HE2.out.2.2.1
        clear hb2 HE1 he
        go_wp2_with fail
        go_roundw
        case rel => exact ⟨k + 1, e0, e1, e2, e3, by omega, by go_num, Lib.hid (by rw [HS.out, HEQ.out, hD.out]), Lib.hid HE2.out.put⟩
        case measure => simp [intOf]; omega
    · obtain rfl : k = 256 := by omega
      have hfin : (d0, d1, d2, d3) = notC (c0, c1, c2, c3) := by rw [hD.out, HSEL.out]
      have HF := Lib.hid hfin
      have HB := Lib.hid hE.out.2.2.2
      have HB1 := Lib.hid hE.out.2.1
      clear hfin hD hE
      go_wp2
      refine bodyPost_ret (v := clsV (notC (c0, c1, c2, c3))) ?_ rfl (ClsIs.of ?_)
      · rw [← HF.out]
        obtain ⟨h0, h1, h2, h3⟩ := (Blk4 (Blk4_set HB1.out (.int .u64 d0) (.int .u64 d1) (.int .u64 d2) (.int .u64 d3))).1
        simp [results, Tryz.results55, go_sem, clsV, h0, h1, h2, h3]
      · exact (((HB.out.setCell (by simp) _).setCell (by simp) _).setCell (by simp) _).setCell (by simp) _

set_option maxRecDepth 100000 in
set_option maxHeartbeats 4000000 in
theorem ROfText_any (s : ByteArray) (w : World) (hs : s.size ≤ 9223372036854775807) :
    Calls Tryz.prog 93 #[.string s] w (ClsIs (ofL s.data.toList zc) w) := by
  go_enter Tryz.func93, Tryz.ntmps93
  go_wp2
  go_loopw [4] (fun v7 wr => ∃ (k : Nat) (c0 c1 c2 c3 : Nat), k ≤ s.size ∧ v7 = .int .i64 (k : Int) ∧ okC (c0, c1, c2, c3) ∧ Hid ((c0, c1, c2, c3) = ofL (s.data.toList.take k) zc) ∧
      Blk wr (w.heap.size + 1) 39 #[.int .u64 (c0 : Int), .int .u64 (c1 : Int), .int .u64 (c2 : Int), .int .u64 (c3 : Int)] ∧ (∃ d, Blk wr w.heap.size 39 #[.int .u64 0, .int .u64 0, .int .u64 0, .int .u64 d]) ∧ Below w.heap.size w wr) (fun i _ => s.size - (intOf i).toNat)
  case atStart => exact ⟨0, 0, 0, 0, 0, by omega, rfl, okC_zc, Lib.hid rfl, by have h := Blk.new (w.alloc (.cells #[.int .u64 0, .int .u64 0, .int .u64 0, .int .u64 0] 39)) 39 #[.int .u64 0, .int .u64 0, .int .u64 0, .int .u64 0]; simpa using h, ⟨0, (Blk.new _ _ _).alloc _⟩, ((Below.refl _ _).alloc (Nat.le_refl _) _).alloc (by simp) _⟩
  case round =>
    obtain ⟨k, c0, c1, c2, c3, hk, rfl, hok, hc, hblk, ⟨d, hblk0⟩, hb⟩ := hrel
    by_cases hlt : k < s.size
    · have hsz := hblk.lt
      have hbyte : (s[k].toNat : Int) < 256 := by have := s[k].toNat_lt; omega
      have hbyte' : s[k].toNat < 256 := s[k].toNat_lt
      obtain ⟨⟨x0, x1, x2, x3⟩, y0, y1, y2, y3⟩ := Blk4 hblk
      have hnext : withB (c0, c1, c2, c3) s[k].toNat = ofL (s.data.toList.take (k + 1)) zc := by rw [bytes_take s k hlt, ofL_snoc, hc.out]
      have HN := Lib.hid hnext
      have hokn := Lib.hid (okC_with hok s[k].toNat)
      have HWT : Hid (∀ W, Calls Tryz.prog 79 #[.agg #[.int .u64 (c0 : Int), .int .u64 (c1 : Int), .int .u64 (c2 : Int), .int .u64 (c3 : Int)], .int .i64 (IntKind.i64.wrap (s[k].toNat : Int))] W (ClsIs (withB (c0, c1, c2, c3) s[k].toNat) W)) := Lib.hid (fun W => by
        rw [show IntKind.i64.wrap (s[k].toNat : Int) = (s[k].toNat : Int) from IntWalk.i64_in _ (by omega)]
        exact RWith_any c0 c1 c2 c3 s[k].toNat W hok hbyte')
      have HB := Lib.hid hblk
      have HB0 := Lib.hid hblk0
      have HBB := Lib.hid hb
      have hsz2 := hb.size
      clear hnext hok hblk hblk0 hb hc
      have hk0 : (0 : Int) ≤ (k : Int) := by omega
      have hk1 : (k : Int) < (s.size : Int) := by omega
      go_wp2_with fail
      go_region_with (first
          | (go_at_call 79; refine (HWT.out _).mono ?_; rintro e w1 ⟨d0, d1, d2, d3, rfl, hd, hb1⟩; have HD := Lib.hid hd; have hbx : Below wr.heap.size wr w1 := ((Below.refl wr.heap.size wr).drew).trans hb1; have hblk1 := HB.out.kept hbx; obtain ⟨⟨x0, x1, x2, x3⟩, y0, y1, y2, y3⟩ := Blk4 hblk1; have HB1 := Lib.hid hblk1; have hsz1 := hbx.size; have HBL := Lib.hid hbx; clear hd hb1 hbx hblk1))
      all_goals (
        go_wp2
        go_roundw
        case rel =>
          have hok' := hokn.out
          rw [← HD.out] at hok'
          refine ⟨k + 1, d0, d1, d2, d3, by omega, by go_num, hok', Lib.hid (by rw [HD.out, HN.out]), Blk4_set HB1.out _ _ _ _, ?_, ?_⟩
          · refine ⟨d, ((((HB0.out.kept HBL.out).far ?_ _).far ?_ _).far ?_ _).far ?_ _⟩ <;> simp
          · exact ((((HBB.out.trans (HBL.out.mono hsz2)).setCell (by simp) _).setCell (by simp) _).setCell (by simp) _).setCell (by simp) _
        case measure => simp [intOf]; omega)
    · obtain rfl : k = s.size := by omega
      obtain ⟨⟨x0, x1, x2, x3⟩, y0, y1, y2, y3⟩ := Blk4 hblk
      obtain ⟨⟨z0, z1, z2, z3⟩, t0, t1, t2, t3⟩ := Blk4 hblk0
      have hfin : (c0, c1, c2, c3) = ofL s.data.toList zc := by rw [hc.out, List.take_of_length_le (by simp)]
      have HF := Lib.hid hfin
      have HB := Lib.hid hb
      have HB0 := Lib.hid hblk0
      clear hfin hc hb hblk hblk0 hok
      go_wp2
      refine bodyPost_ret (v := clsV (ofL s.data.toList zc)) ?_ rfl (ClsIs.of ?_)
      · rw [← HF.out]
        have h4 := (Blk4 (Blk4_set HB0.out (.int .u64 c0) (.int .u64 c1) (.int .u64 c2) (.int .u64 c3))).1
        obtain ⟨h0, h1, h2, h3⟩ := h4
        simp [results, Tryz.results93, go_sem, clsV, h0, h1, h2, h3]
      · exact (((HB.out.setCell (Nat.le_refl _) _).setCell (Nat.le_refl _) _).setCell (Nat.le_refl _) _).setCell (Nat.le_refl _) _

end Go.Proofs.YthcahjnniendnacGreatDoor
