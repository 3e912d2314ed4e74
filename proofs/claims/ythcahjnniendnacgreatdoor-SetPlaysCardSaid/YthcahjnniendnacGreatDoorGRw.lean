/-
  RefW, RefT, RefL.
-/
import Derived.Test.YthcahjnniendnacGreatDoorGCls
import Derived.Test.YthcahjnniendnacGreatDoorGLit
import Derived.Test.YthcahjnniendnacGreatDoorGPl
import Derived.Test.YthcahjnniendnacGreatDoorGRef
import Derived.Test.YthcahjnniendnacGreatDoorGRex
import Derived.BigQuiet
set_option linter.unusedVariables false
set_option linter.unusedSimpArgs false
set_option maxRecDepth 100000
set_option maxHeartbeats 8000000
open Go.Lib (hid)
namespace Go.Proofs.YthcahjnniendnacGreatDoor
open Go.RowKit Wf
theorem word_add {c : Cls} {b : Nat} (hok : okC c) (h : has c b = false) : word c (b / 64) + 2 ^ (b % 64) = word c (b / 64) ||| 2 ^ (b % 64) ∧ word c (b / 64) + 2 ^ (b % 64) < 18446744073709551616:=by
 have h1:=add_or (n:=word c (b / 64)) (k:=b % 64) h
 exact ⟨h1,by rw [h1];exact or_lt64 (word_lt hok _) (pow_lt64 b)⟩
theorem RWith_any (c0 c1 c2 c3 b : Nat) (w : World) (hok : okC (c0,c1,c2,c3)) (hb : b < 256) :
 Calls Tryz.prog 79 #[.agg #[.int .u64 (c0 : Int),.int .u64 (c1 : Int),.int .u64 (c2 : Int),.int .u64 (c3 : Int)],.int .i64 (b : Int)] w (ClsIs (withB (c0,c1,c2,c3) b) w):=by
 have HIN:=hid (fun (W : World) => RIn_any c0 c1 c2 c3 b W hok hb)
 unfold RInIs at HIN
 cases hh : has (c0,c1,c2,c3) b with
 | true =>
   have hw:=with_has hok hb hh
   rw [hh] at HIN
   have HW:=hid hw
   have HOK:=hid hok
   clear hw hok hh
   go_enter Tryz.func79,Tryz.ntmps79
   go_wp2_with fail
   refine (HIN.out _).mono ?_
   rintro e w1 ⟨rfl,hb1⟩
   have hn0 : Blk ((w.alloc (.cells #[.int .u64 (c0 : Int),.int .u64 (c1 : Int),.int .u64 (c2 : Int),.int .u64 (c3 : Int)] 39)).alloc (.cells #[.int .u64 0,.int .u64 0,.int .u64 0,.int .u64 0] 39)) w.heap.size 39 #[.int .u64 (c0 : Int),.int .u64 (c1 : Int),.int .u64 (c2 : Int),.int .u64 (c3 : Int)]:=(Blk.new w _ _).alloc _
   have hn1 : Blk ((w.alloc (.cells #[.int .u64 (c0 : Int),.int .u64 (c1 : Int),.int .u64 (c2 : Int),.int .u64 (c3 : Int)] 39)).alloc (.cells #[.int .u64 0,.int .u64 0,.int .u64 0,.int .u64 0] 39)) (w.heap.size + 1) 39 #[.int .u64 0,.int .u64 0,.int .u64 0,.int .u64 0]:=by
    have h:=Blk.new (w.alloc (.cells #[.int .u64 (c0 : Int),.int .u64 (c1 : Int),.int .u64 (c2 : Int),.int .u64 (c3 : Int)] 39)) 39 #[.int .u64 0,.int .u64 0,.int .u64 0,.int .u64 0]
    rw [World.size_alloc] at h
    exact h
   have hbn : Below w.heap.size w ((w.alloc (.cells #[.int .u64 (c0 : Int),.int .u64 (c1 : Int),.int .u64 (c2 : Int),.int .u64 (c3 : Int)] 39)).alloc (.cells #[.int .u64 0,.int .u64 0,.int .u64 0,.int .u64 0] 39)):=((Below.refl _ _).alloc (Nat.le_refl _) _).alloc (by simp) _
   have HN0:=hid (hn0.kept hb1)
   have HN1:=hid (hn1.kept hb1)
   have HB:=hid (hbn.trans (hb1.mono hbn.size))
   obtain ⟨⟨x0,x1,x2,x3⟩,_⟩:=Blk4 HN0.out
   obtain ⟨_,y0,y1,y2,y3⟩:=Blk4 HN1.out
   clear hn0 hn1 hbn hb1 HIN
   go_wp2
   refine bodyPost_ret (v:=clsV (withB (c0,c1,c2,c3) b)) ?_ rfl (ClsIs.of ?_)
   ·rw [HW.out]
    have h4:=(Blk4 (Blk4_set HN1.out (.int .u64 c0) (.int .u64 c1) (.int .u64 c2) (.int .u64 c3))).1
    obtain ⟨h0,h1,h2,h3⟩:=h4
    simp [results,Tryz.results79,go_sem,clsV,h0,h1,h2,h3]
   ·exact (((HB.out.setCell (by simp) _).setCell (by simp) _).setCell (by simp) _).setCell (by simp) _
 | false =>
   rw [hh] at HIN
   obtain ⟨hadd,hlt⟩:=word_add hok hh
   have HADD:=hid hadd
   have hb64 : b % 64 < 64:=by omega
   have hq4 : b / 64 = 0 ∨ b / 64 = 1 ∨ b / 64 = 2 ∨ b / 64 = 3:=by omega
   clear hok hh hadd
   go_enter Tryz.func79,Tryz.ntmps79
   go_wp2_with fail
   refine (HIN.out _).mono ?_
   rintro e w1 ⟨rfl,hb1⟩
   have hn0 : Blk ((w.alloc (.cells #[.int .u64 (c0 : Int),.int .u64 (c1 : Int),.int .u64 (c2 : Int),.int .u64 (c3 : Int)] 39)).alloc (.cells #[.int .u64 0,.int .u64 0,.int .u64 0,.int .u64 0] 39)) w.heap.size 39 #[.int .u64 (c0 : Int),.int .u64 (c1 : Int),.int .u64 (c2 : Int),.int .u64 (c3 : Int)]:=(Blk.new w _ _).alloc _
   have hn1 : Blk ((w.alloc (.cells #[.int .u64 (c0 : Int),.int .u64 (c1 : Int),.int .u64 (c2 : Int),.int .u64 (c3 : Int)] 39)).alloc (.cells #[.int .u64 0,.int .u64 0,.int .u64 0,.int .u64 0] 39)) (w.heap.size + 1) 39 #[.int .u64 0,.int .u64 0,.int .u64 0,.int .u64 0]:=by
    have h:=Blk.new (w.alloc (.cells #[.int .u64 (c0 : Int),.int .u64 (c1 : Int),.int .u64 (c2 : Int),.int .u64 (c3 : Int)] 39)) 39 #[.int .u64 0,.int .u64 0,.int .u64 0,.int .u64 0]
    rw [World.size_alloc] at h
    exact h
   have hbn : Below w.heap.size w ((w.alloc (.cells #[.int .u64 (c0 : Int),.int .u64 (c1 : Int),.int .u64 (c2 : Int),.int .u64 (c3 : Int)] 39)).alloc (.cells #[.int .u64 0,.int .u64 0,.int .u64 0,.int .u64 0] 39)):=((Below.refl _ _).alloc (Nat.le_refl _) _).alloc (by simp) _
   have HN0:=hid (hn0.kept hb1)
   have HN1:=hid (hn1.kept hb1)
   have HB:=hid (hbn.trans (hb1.mono hbn.size))
   obtain ⟨⟨x0,x1,x2,x3⟩,_⟩:=Blk4 HN0.out
   obtain ⟨_,y0,y1,y2,y3⟩:=Blk4 HN1.out
   clear hn0 hn1 hbn hb1 HIN
   go_wp2_with fail
   go_loopw [6,7] (fun v6 v7 wr => ∃ k x : Nat,k ≤ b % 64 ∧ v7 = .int .i64 (k : Int) ∧ v6 = .int .u64 (x : Int) ∧ x < 18446744073709551616 ∧ Hid (x = 2 ^ k) ∧ wr = w1) (fun _ i _ => b % 64 - (intOf i).toNat)
   case atStart => exact ⟨0,1,by omega,rfl,rfl,by omega,hid (by simp),rfl⟩
   case round =>
    obtain ⟨k,x,hk,rfl,rfl,hx,HX,rfl⟩:=hrel
    by_cases hltk : k < b % 64
    ·have d2 : decide ((k : Int) < (b : Int) % 64) = true:=by simp;omega
     have i2 : (k : Int) < (b : Int) % 64:=by omega
     have hx2 : x * 2 < 18446744073709551616:=by
      have : 2 ^ (k + 1) ≤ 2 ^ 63:=Nat.pow_le_pow_right (by omega) (by omega)
      rw [HX.out,← Nat.pow_succ];omega
     go_wp2
     go_roundw
     case rel => exact ⟨k + 1,x * 2,by omega,by go_num,by go_num,hx2,hid (by rw [HX.out,Nat.pow_succ]),trivial⟩
     case measure => simp [intOf];omega
    ·obtain rfl : k = b % 64:=by omega
     have d2 : decide (((b % 64 : Nat) : Int) < (b : Int) % 64) = false:=by simp
     have hx64 : x < 18446744073709551616:=hx
     rcases hq4 with hq | hq | hq | hq
     ·have hqi : (b : Int) / 64 = ((b / 64 : Nat) : Int):=by omega
      rw [hq] at hqi
      rw [hq] at hlt HADD
      simp only [word] at hlt HADD
      rw [← HX.out] at hlt HADD
      simp at hlt HADD
      have hfin : clsV (withB (c0,c1,c2,c3) b) = clsV (withB (c0,c1,c2,c3) b):=rfl
      conv at hfin => rhs;unfold clsV withB;simp only [hq]
      simp at hfin
      rw [← HX.out,← HADD.out] at hfin
      have HF:=hid hfin
      clear hfin
      go_wp2
      refine bodyPost_ret (v:=clsV (withB (c0,c1,c2,c3) b)) ?_ rfl (ClsIs.of ?_)
      ·rw [HF.out]
       obtain ⟨h0,h1,h2,h3⟩:=(Blk4 (Blk4_set (HN1.out.far (p:=⟨w.heap.size,0,none⟩) (by simp) (.int .u64 ((c0 : Int) + (x : Int)))) (.int .u64 ((c0 : Int) + (x : Int))) (.int .u64 ((c1 : Int))) (.int .u64 ((c2 : Int))) (.int .u64 ((c3 : Int))))).1
       simp [results,Tryz.results79,go_sem,clsV,h0,h1,h2,h3]
      ·exact ((((HB.out.setCell (by simp) _).setCell (by simp) _).setCell (by simp) _).setCell (by simp) _).setCell (by simp) _
     ·have hqi : (b : Int) / 64 = ((b / 64 : Nat) : Int):=by omega
      rw [hq] at hqi
      rw [hq] at hlt HADD
      simp only [word] at hlt HADD
      rw [← HX.out] at hlt HADD
      simp at hlt HADD
      have hfin : clsV (withB (c0,c1,c2,c3) b) = clsV (withB (c0,c1,c2,c3) b):=rfl
      conv at hfin => rhs;unfold clsV withB;simp only [hq]
      simp at hfin
      rw [← HX.out,← HADD.out] at hfin
      have HF:=hid hfin
      clear hfin
      go_wp2
      refine bodyPost_ret (v:=clsV (withB (c0,c1,c2,c3) b)) ?_ rfl (ClsIs.of ?_)
      ·rw [HF.out]
       obtain ⟨h0,h1,h2,h3⟩:=(Blk4 (Blk4_set (HN1.out.far (p:=⟨w.heap.size,1,none⟩) (by simp) (.int .u64 ((c1 : Int) + (x : Int)))) (.int .u64 ((c0 : Int))) (.int .u64 ((c1 : Int) + (x : Int))) (.int .u64 ((c2 : Int))) (.int .u64 ((c3 : Int))))).1
       simp [results,Tryz.results79,go_sem,clsV,h0,h1,h2,h3]
      ·exact ((((HB.out.setCell (by simp) _).setCell (by simp) _).setCell (by simp) _).setCell (by simp) _).setCell (by simp) _
     ·have hqi : (b : Int) / 64 = ((b / 64 : Nat) : Int):=by omega
      rw [hq] at hqi
      rw [hq] at hlt HADD
      simp only [word] at hlt HADD
      rw [← HX.out] at hlt HADD
      simp at hlt HADD
      have hfin : clsV (withB (c0,c1,c2,c3) b) = clsV (withB (c0,c1,c2,c3) b):=rfl
      conv at hfin => rhs;unfold clsV withB;simp only [hq]
      simp at hfin
      rw [← HX.out,← HADD.out] at hfin
      have HF:=hid hfin
      clear hfin
      go_wp2
      refine bodyPost_ret (v:=clsV (withB (c0,c1,c2,c3) b)) ?_ rfl (ClsIs.of ?_)
      ·rw [HF.out]
       obtain ⟨h0,h1,h2,h3⟩:=(Blk4 (Blk4_set (HN1.out.far (p:=⟨w.heap.size,2,none⟩) (by simp) (.int .u64 ((c2 : Int) + (x : Int)))) (.int .u64 ((c0 : Int))) (.int .u64 ((c1 : Int))) (.int .u64 ((c2 : Int) + (x : Int))) (.int .u64 ((c3 : Int))))).1
       simp [results,Tryz.results79,go_sem,clsV,h0,h1,h2,h3]
      ·exact ((((HB.out.setCell (by simp) _).setCell (by simp) _).setCell (by simp) _).setCell (by simp) _).setCell (by simp) _
     ·have hqi : (b : Int) / 64 = ((b / 64 : Nat) : Int):=by omega
      rw [hq] at hqi
      rw [hq] at hlt HADD
      simp only [word] at hlt HADD
      rw [← HX.out] at hlt HADD
      simp at hlt HADD
      have hfin : clsV (withB (c0,c1,c2,c3) b) = clsV (withB (c0,c1,c2,c3) b):=rfl
      conv at hfin => rhs;unfold clsV withB;simp only [hq]
      simp at hfin
      rw [← HX.out,← HADD.out] at hfin
      have HF:=hid hfin
      clear hfin
      go_wp2
      refine bodyPost_ret (v:=clsV (withB (c0,c1,c2,c3) b)) ?_ rfl (ClsIs.of ?_)
      ·rw [HF.out]
       obtain ⟨h0,h1,h2,h3⟩:=(Blk4 (Blk4_set (HN1.out.far (p:=⟨w.heap.size,3,none⟩) (by simp) (.int .u64 ((c3 : Int) + (x : Int)))) (.int .u64 ((c0 : Int))) (.int .u64 ((c1 : Int))) (.int .u64 ((c2 : Int))) (.int .u64 ((c3 : Int) + (x : Int))))).1
       simp [results,Tryz.results79,go_sem,clsV,h0,h1,h2,h3]
      ·exact ((((HB.out.setCell (by simp) _).setCell (by simp) _).setCell (by simp) _).setCell (by simp) _).setCell (by simp) _
def B3 (w : World) (c d : Cls) (w' : World) : Prop :=
 Blk w' w.heap.size 39 #[.int .u64 (c.1 : Int),.int .u64 (c.2.1 : Int),.int .u64 (c.2.2.1 : Int),.int .u64 (c.2.2.2 : Int)] ∧ Blk w' (w.heap.size + 1) 39 #[.int .u64 0,.int .u64 0,.int .u64 0,.int .u64 0] ∧
 Blk w' (w.heap.size + 1 + 1) 39 #[.int .u64 (d.1 : Int),.int .u64 (d.2.1 : Int),.int .u64 (d.2.2.1 : Int),.int .u64 (d.2.2.2 : Int)] ∧ Below w.heap.size w w'
theorem B3.kept {w w1 w2 : World} {c d : Cls} (h : B3 w c d w1) (hb : Below w1.heap.size w1 w2) : B3 w c d w2 :=
 ⟨h.1.kept hb,h.2.1.kept hb,h.2.2.1.kept hb,h.2.2.2.trans (hb.mono h.2.2.2.size)⟩
theorem B3.put {w w1 : World} {c d e : Cls} (h : B3 w c d w1) : B3 w c e ((((w1.setCell ⟨w.heap.size + 1 + 1,0,none⟩ (.int .u64 (e.1 : Int))).setCell ⟨w.heap.size + 1 + 1,1,none⟩ (.int .u64 (e.2.1 : Int))).setCell ⟨w.heap.size + 1 + 1,2,none⟩ (.int .u64 (e.2.2.1 : Int))).setCell ⟨w.heap.size + 1 + 1,3,none⟩ (.int .u64 (e.2.2.2 : Int))) :=
 ⟨(((h.1.far (by simp;omega) _).far (by simp;omega) _).far (by simp;omega) _).far (by simp;omega) _,(((h.2.1.far (by simp) _).far (by simp) _).far (by simp) _).far (by simp) _,Blk4_set h.2.2.1 _ _ _ _,
   (((h.2.2.2.setCell (by simp;omega) _).setCell (by simp;omega) _).setCell (by simp;omega) _).setCell (by simp;omega) _⟩
theorem ROthers_any (c0 c1 c2 c3 : Nat) (w : World) (hok : okC (c0,c1,c2,c3)) :
 Calls Tryz.prog 55 #[.agg #[.int .u64 (c0 : Int),.int .u64 (c1 : Int),.int .u64 (c2 : Int),.int .u64 (c3 : Int)]] w (ClsIs (notC (c0,c1,c2,c3)) w):=by
 have hsel:=sel_not hok
 have HSEL:=hid hsel
 have HIN:=hid (fun (b : Nat) (hb : b < 256) (W : World) => RIn_any c0 c1 c2 c3 b W hok hb)
 unfold RInIs at HIN
 have hst : B3 w (c0,c1,c2,c3) zc (((w.alloc (.cells #[.int .u64 (c0 : Int),.int .u64 (c1 : Int),.int .u64 (c2 : Int),.int .u64 (c3 : Int)] 39)).alloc (.cells #[.int .u64 0,.int .u64 0,.int .u64 0,.int .u64 0] 39)).alloc (.cells #[.int .u64 0,.int .u64 0,.int .u64 0,.int .u64 0] 39)):=by
  have h1:=Blk.new (w.alloc (.cells #[.int .u64 (c0 : Int),.int .u64 (c1 : Int),.int .u64 (c2 : Int),.int .u64 (c3 : Int)] 39)) 39 #[.int .u64 0,.int .u64 0,.int .u64 0,.int .u64 0]
  have h2:=Blk.new ((w.alloc (.cells #[.int .u64 (c0 : Int),.int .u64 (c1 : Int),.int .u64 (c2 : Int),.int .u64 (c3 : Int)] 39)).alloc (.cells #[.int .u64 0,.int .u64 0,.int .u64 0,.int .u64 0] 39)) 39 #[.int .u64 0,.int .u64 0,.int .u64 0,.int .u64 0]
  rw [World.size_alloc] at h1
  rw [World.size_alloc,World.size_alloc] at h2
  exact ⟨((Blk.new w _ _).alloc _).alloc _,h1.alloc _,h2,(((Below.refl _ _).alloc (Nat.le_refl _) _).alloc (by simp) _).alloc (by simp;omega) _⟩
 have HST:=hid hst
 clear hok hsel hst
 go_enter Tryz.func55,Tryz.ntmps55
 go_wp2
 go_loopw [4] (fun v4 wr => ∃ (k d0 d1 d2 d3 : Nat),k ≤ 256 ∧ v4 = .int .i64 (k : Int) ∧ Hid ((d0,d1,d2,d3) = selC (fun x => !has (c0,c1,c2,c3) x) k) ∧ Hid (B3 w (c0,c1,c2,c3) (d0,d1,d2,d3) wr)) (fun i _ => 256 - (intOf i).toNat)
 case atStart => exact ⟨0,0,0,0,0,by omega,rfl,hid rfl,HST⟩
 case round =>
  clear HST
  obtain ⟨k,d0,d1,d2,d3,hk,rfl,hD,hE⟩:=hrel
  obtain ⟨⟨x0,x1,x2,x3⟩,_⟩:=Blk4 hE.out.1
  obtain ⟨⟨z0,z1,z2,z3⟩,t0,t1,t2,t3⟩:=Blk4 hE.out.2.1
  obtain ⟨⟨y0,y1,y2,y3⟩,r0,r1,r2,r3⟩:=Blk4 hE.out.2.2.1
  dsimp only at x0 x1 x2 x3 y0 y1 y2 y3
  by_cases hlt : k < 256
  ·have hk1 : (k : Int) < 256:=by omega
   have HI:=hid (HIN.out k hlt)
   cases hh : has (c0,c1,c2,c3) k with
   | true =>
     have hs : selC (fun x => !has (c0,c1,c2,c3) x) (k + 1) = selC (fun x => !has (c0,c1,c2,c3) x) k:=by simp [selC,hh]
     have HS:=hid hs
     rw [hh] at HI
     clear hh hs
     go_wp2_with fail
     refine (HI.out _).mono ?_
     rintro e w1 ⟨rfl,hb1⟩
     have HE1:=hid (hE.out.kept hb1)
     clear hb1 hE
     go_wp2_with fail
     go_roundw
     case rel => exact ⟨k + 1,d0,d1,d2,d3,by omega,by go_num,hid (by rw [HS.out];exact hD.out),HE1⟩
     case measure => simp [intOf];omega
   | false =>
     have hs : selC (fun x => !has (c0,c1,c2,c3) x) (k + 1) = withB (selC (fun x => !has (c0,c1,c2,c3) x) k) k:=by simp [selC,hh]
     have hokd : okC (d0,d1,d2,d3):=by rw [hD.out];exact okC_sel _ _
     have HWT:=hid (fun W => RWith_any d0 d1 d2 d3 k W hokd hlt)
     unfold ClsIs at HWT
     have HS:=hid hs
     rw [hh] at HI
     clear hh hs hokd
     go_wp2_with fail
     refine (HI.out _).mono ?_
     rintro e w1 ⟨rfl,hb1⟩
     have HE1:=hid (hE.out.kept hb1)
     obtain ⟨⟨y0,y1,y2,y3⟩,_⟩:=Blk4 HE1.out.2.2.1
     dsimp only at y0 y1 y2 y3
     clear hb1 hE
     go_wp2_with fail
     refine (HWT.out _).mono ?_
     rintro e w2 ⟨e0,e1,e2,e3,rfl,he,hb2⟩
     have HE2:=hid (HE1.out.kept hb2)
     have HEQ:=hid he
     obtain ⟨_,r0,r1,r2,r3⟩:=Blk4 HE2.out.2.2.1
     clear hb2 HE1 he
     go_wp2_with fail
     go_roundw
     case rel => exact ⟨k + 1,e0,e1,e2,e3,by omega,by go_num,hid (by rw [HS.out,HEQ.out,hD.out]),hid HE2.out.put⟩
     case measure => simp [intOf];omega
  ·obtain rfl : k = 256:=by omega
   have hfin : (d0,d1,d2,d3) = notC (c0,c1,c2,c3):=by rw [hD.out,HSEL.out]
   have HF:=hid hfin
   have HB:=hid hE.out.2.2.2
   have HB1:=hid hE.out.2.1
   clear hfin hD hE
   go_wp2
   refine bodyPost_ret (v:=clsV (notC (c0,c1,c2,c3))) ?_ rfl (ClsIs.of ?_)
   ·rw [← HF.out]
    obtain ⟨h0,h1,h2,h3⟩:=(Blk4 (Blk4_set HB1.out (.int .u64 d0) (.int .u64 d1) (.int .u64 d2) (.int .u64 d3))).1
    simp [results,Tryz.results55,go_sem,clsV,h0,h1,h2,h3]
   ·exact (((HB.out.setCell (by simp) _).setCell (by simp) _).setCell (by simp) _).setCell (by simp) _
theorem ROfText_any (s : ByteArray) (w : World) (hs : s.size ≤ 9223372036854775807) :
 Calls Tryz.prog 93 #[.string s] w (ClsIs (ofL s.data.toList zc) w):=by
 go_enter Tryz.func93,Tryz.ntmps93
 go_wp2
 go_loopw [4] (fun v7 wr => ∃ (k : Nat) (c0 c1 c2 c3 : Nat),k ≤ s.size ∧ v7 = .int .i64 (k : Int) ∧ okC (c0,c1,c2,c3) ∧ Hid ((c0,c1,c2,c3) = ofL (s.data.toList.take k) zc) ∧
  Blk wr (w.heap.size + 1) 39 #[.int .u64 (c0 : Int),.int .u64 (c1 : Int),.int .u64 (c2 : Int),.int .u64 (c3 : Int)] ∧ (∃ d,Blk wr w.heap.size 39 #[.int .u64 0,.int .u64 0,.int .u64 0,.int .u64 d]) ∧ Below w.heap.size w wr) (fun i _ => s.size - (intOf i).toNat)
 case atStart => exact ⟨0,0,0,0,0,by omega,rfl,okC_zc,hid rfl,by have h:=Blk.new (w.alloc (.cells #[.int .u64 0,.int .u64 0,.int .u64 0,.int .u64 0] 39)) 39 #[.int .u64 0,.int .u64 0,.int .u64 0,.int .u64 0];simpa using h,⟨0,(Blk.new _ _ _).alloc _⟩,((Below.refl _ _).alloc (Nat.le_refl _) _).alloc (by simp) _⟩
 case round =>
  obtain ⟨k,c0,c1,c2,c3,hk,rfl,hok,hc,hblk,⟨d,hblk0⟩,hb⟩:=hrel
  by_cases hlt : k < s.size
  ·have hsz:=hblk.lt
   have hbyte : (s[k].toNat : Int) < 256:=by have:=s[k].toNat_lt;omega
   have hbyte' : s[k].toNat < 256:=s[k].toNat_lt
   obtain ⟨⟨x0,x1,x2,x3⟩,y0,y1,y2,y3⟩:=Blk4 hblk
   have hnext : withB (c0,c1,c2,c3) s[k].toNat = ofL (s.data.toList.take (k + 1)) zc:=by rw [bytes_take s k hlt,ofL_snoc,hc.out]
   have HN:=hid hnext
   have hokn:=hid (okC_with hok s[k].toNat)
   have HWT : Hid (∀ W,Calls Tryz.prog 79 #[.agg #[.int .u64 (c0 : Int),.int .u64 (c1 : Int),.int .u64 (c2 : Int),.int .u64 (c3 : Int)],.int .i64 (IntKind.i64.wrap (s[k].toNat : Int))] W (ClsIs (withB (c0,c1,c2,c3) s[k].toNat) W)):=hid (fun W => by
    rw [show IntKind.i64.wrap (s[k].toNat : Int) = (s[k].toNat : Int) from IntWalk.i64_in _ (by omega)]
    exact RWith_any c0 c1 c2 c3 s[k].toNat W hok hbyte')
   have HB:=hid hblk
   have HB0:=hid hblk0
   have HBB:=hid hb
   have hsz2:=hb.size
   clear hnext hok hblk hblk0 hb hc
   have hk0 : (0 : Int) ≤ (k : Int):=by omega
   have hk1 : (k : Int) < (s.size : Int):=by omega
   go_wp2_with fail
   go_region_with (first
    | (go_at_call 79;refine (HWT.out _).mono ?_;rintro e w1 ⟨d0,d1,d2,d3,rfl,hd,hb1⟩;have HD:=hid hd;have hbx : Below wr.heap.size wr w1:=((Below.refl wr.heap.size wr).drew).trans hb1;have hblk1:=HB.out.kept hbx;obtain ⟨⟨x0,x1,x2,x3⟩,y0,y1,y2,y3⟩:=Blk4 hblk1;have HB1:=hid hblk1;have hsz1:=hbx.size;have HBL:=hid hbx;clear hd hb1 hbx hblk1))
   all_goals (
    go_wp2
    go_roundw
    case rel =>
     have hok':=hokn.out
     rw [← HD.out] at hok'
     refine ⟨k + 1,d0,d1,d2,d3,by omega,by go_num,hok',hid (by rw [HD.out,HN.out]),Blk4_set HB1.out _ _ _ _,?_,?_⟩
     ·refine ⟨d,((((HB0.out.kept HBL.out).far ?_ _).far ?_ _).far ?_ _).far ?_ _⟩ <;> simp
     ·exact ((((HBB.out.trans (HBL.out.mono hsz2)).setCell (by simp) _).setCell (by simp) _).setCell (by simp) _).setCell (by simp) _
    case measure => simp [intOf];omega)
  ·obtain rfl : k = s.size:=by omega
   obtain ⟨⟨x0,x1,x2,x3⟩,y0,y1,y2,y3⟩:=Blk4 hblk
   obtain ⟨⟨z0,z1,z2,z3⟩,t0,t1,t2,t3⟩:=Blk4 hblk0
   have hfin : (c0,c1,c2,c3) = ofL s.data.toList zc:=by rw [hc.out,List.take_of_length_le (by simp)]
   have HF:=hid hfin
   have HB:=hid hb
   have HB0:=hid hblk0
   clear hfin hc hb hblk hblk0 hok
   go_wp2
   refine bodyPost_ret (v:=clsV (ofL s.data.toList zc)) ?_ rfl (ClsIs.of ?_)
   ·rw [← HF.out]
    have h4:=(Blk4 (Blk4_set HB0.out (.int .u64 c0) (.int .u64 c1) (.int .u64 c2) (.int .u64 c3))).1
    obtain ⟨h0,h1,h2,h3⟩:=h4
    simp [results,Tryz.results93,go_sem,clsV,h0,h1,h2,h3]
   ·exact (((HB.out.setCell (Nat.le_refl _) _).setCell (Nat.le_refl _) _).setCell (Nat.le_refl _) _).setCell (Nat.le_refl _) _
def spB : ByteArray:=⟨#[92,46,91,93,40,41,124,42,43,63,94,36,45]⟩
theorem spB_in (b : Nat) (hb : b < 256) : UInt8.ofNat b ∈ specialL ↔ ∃ j,∃ h : j < 13,(spB[j]'h).toNat = b:=by
 have key : ∀ b : Fin 256,(UInt8.ofNat b.val ∈ specialL) ↔ ∃ j : Fin 13,(spB[j.val]'j.isLt).toNat = b.val:=by decide +kernel
 rw [key ⟨b,hb⟩]
 exact ⟨fun ⟨j,h⟩ => ⟨j.val,j.isLt,h⟩,fun ⟨j,hj,h⟩ => ⟨⟨j,hj⟩,h⟩⟩
theorem RSigned_any (b : Nat) (hb : b < 256) (w : World) : Calls Tryz.prog 80 #[.int .u8 (b : Int)] w (fun e w' => e = .returned (.bool (decide (UInt8.ofNat b ∈ specialL))) ∧ w' = w):=by
 have HSP:=hid (spB_in b hb)
 go_enter Tryz.func80,Tryz.ntmps80
 go_wp2
 go_loopw [3] (fun v3 wr => ∃ k : Nat,k ≤ 13 ∧ v3 = .int .i64 (k : Int) ∧ Hid (∀ j,j < k → ∀ h : j < 13,(spB[j]'h).toNat ≠ b) ∧ wr = w) (fun i _ => 13 - (intOf i).toNat)
 case atStart => exact ⟨0,by omega,rfl,hid (fun j hj => by omega),by first | rfl | trivial⟩
 case round =>
  obtain ⟨k,hk,rfl,hN,rfl⟩:=hrel
  by_cases hlt : k < 13
  ·have hk0 : (0 : Int) ≤ (k : Int):=by omega
   have hk1 : (k : Int) < 13:=by omega
   by_cases hc : (spB[k]'hlt).toNat = b
   ·have hd : ((({ data:=#[92,46,91,93,40,41,124,42,43,63,94,36,45] } : ByteArray)[k]'hlt).toNat : Int) = (b : Int):=by
     have:=hc;unfold spB at this;omega
    have hin : UInt8.ofNat b ∈ specialL:=HSP.out.2 ⟨k,hlt,hc⟩
    have HIN:=hid hin
    clear hc hin
    go_wp2
    go_ret
    exact ⟨by rw [decide_eq_true HIN.out];rfl,rfl⟩
   ·have hd : ¬ ((({ data:=#[92,46,91,93,40,41,124,42,43,63,94,36,45] } : ByteArray)[k]'hlt).toNat : Int) = (b : Int):=by
     have:=hc;unfold spB at this;omega
    have HNN:=hid hc
    clear hc
    go_wp2
    go_roundw
    case rel => exact ⟨k + 1,by omega,by go_num,hid (fun j hj h => by
     by_cases e : j = k
     ·subst e;exact HNN.out
     ·exact hN.out j (by omega) h),trivial⟩
    case measure => simp [intOf];omega
  ·obtain rfl : k = 13:=by omega
   have hno : ¬ UInt8.ofNat b ∈ specialL:=fun h => by
    obtain ⟨j,hj,e⟩:=HSP.out.1 h
    exact hN.out j hj hj e
   go_wp2
   go_ret
   exact ⟨by rw [decide_eq_false hno];rfl,rfl⟩
def RWholeIs (n : List UInt8 × Bool) (w : World) (e : Ending) (w' : World) : Prop :=
 ∃ s : ByteArray,e = .returned (.tuple #[.string s,.bool n.2]) ∧ (n.2 = true → s.data.toList = n.1) ∧ (n.2 = false → s = ⟨#[]⟩) ∧ s.size ≤ 60 ∧ Below w.heap.size w w'
def RNeedIs (n : List UInt8 × Bool) (w : World) (e : Ending) (w' : World) : Prop :=
 ∃ s : ByteArray,e = .returned (.string s) ∧ s.data.toList = n.1 ∧ s.size ≤ 60 ∧ Below w.heap.size w w'
theorem bs_size {s : ByteArray} {l : List UInt8} (h : s.data.toList = l) : s.size = l.length:=by rw [← h,Array.length_toList];rfl
theorem cntR_cntC (c : Cls) : cntR c 256 = cntC c:=(cnt_has c).symm
theorem RWhole_all (l : List Nd) (hg : ∀ n ∈ l,good n) (hok : ∀ n ∈ l,okC n.cls) (hlen : l.length ≤ 60) (b off cap : Nat) : ∀ (u : Rx) (i : Nat) (w : World),At l i u → RdN w (.slice (some ⟨b,off,none⟩) l.length cap) l →
 Calls Tryz.prog 77 #[.slice (some ⟨b,off,none⟩) l.length cap,.int .i64 (i : Int)] w (RWholeIs (litL u) w):=by
 have HM : Hid (∀ (w : World),RdN w (.slice (some ⟨b,off,none⟩) l.length cap) l → ∀ k n,l[k]? = some n →
  w.cell? ⟨b,off + k * 5,none⟩ = some (.int .i64 n.op) ∧ w.cell? ⟨b,off + k * 5 + 1,none⟩ = some (.int .u64 (n.cls.1 : Int)) ∧ w.cell? ⟨b,off + k * 5 + 2,none⟩ = some (.int .u64 (n.cls.2.1 : Int)) ∧
  w.cell? ⟨b,off + k * 5 + 3,none⟩ = some (.int .u64 (n.cls.2.2.1 : Int)) ∧ w.cell? ⟨b,off + k * 5 + 4,none⟩ = some (.int .u64 (n.cls.2.2.2 : Int))):=hid (fun w hr k n hk => by
  obtain ⟨A',cap',hv,hcap,hcap2,hmem⟩:=hr.open_
  injection hv with e1 _ e2
  obtain ⟨b',off',hA,_,hc⟩:=hmem (by have:=(List.getElem?_eq_some_iff.1 hk).1;omega)
  rw [hA] at e1
  cases e1
  exact hc w (fun _ => rfl) k n hk)
 have HEND:=hid (fun (i : Nat) (hi : i ≤ l.length) (w : World) (hr : RdN w (.slice (some ⟨b,off,none⟩) l.length cap) l) => REnd_all l hg hlen (some ⟨b,off,none⟩) cap l.length i w (by omega) hi hr)
 have HOK:=hid hok
 clear hg hok
 intro u
 induction u with
 | bgn =>
   intro i w hat hr
   obtain ⟨q0,q1,q2,q3,q4⟩:=HM.out w hr i _ hat.bgn
   have hlt:=hat.lt
   have hpos:=flat_pos (.bgn)
   have hi1 : (i : Int) < (l.length : Int):=by omega
   dsimp only [zc] at q0 q1 q2 q3 q4
   clear hat hr
   go_enter Tryz.func77,Tryz.ntmps77
   go_wp2
   go_ret2
   exact ⟨⟨#[]⟩,rfl,(fun h => by cases h),fun _ => rfl,by simp [ByteArray.size],Below.refl _ _⟩
 | fin =>
   intro i w hat hr
   obtain ⟨q0,q1,q2,q3,q4⟩:=HM.out w hr i _ hat.fin
   have hlt:=hat.lt
   have hpos:=flat_pos (.fin)
   have hi1 : (i : Int) < (l.length : Int):=by omega
   dsimp only [zc] at q0 q1 q2 q3 q4
   clear hat hr
   go_enter Tryz.func77,Tryz.ntmps77
   go_wp2
   go_ret2
   exact ⟨⟨#[]⟩,rfl,(fun h => by cases h),fun _ => rfl,by simp [ByteArray.size],Below.refl _ _⟩
 | star a iha =>
   intro i w hat hr
   obtain ⟨q0,q1,q2,q3,q4⟩:=HM.out w hr i _ hat.star.1
   have hlt:=hat.lt
   have hpos:=flat_pos (.star a)
   have hi1 : (i : Int) < (l.length : Int):=by omega
   dsimp only [zc] at q0 q1 q2 q3 q4
   clear hat hr iha
   go_enter Tryz.func77,Tryz.ntmps77
   go_wp2
   go_ret2
   exact ⟨⟨#[]⟩,rfl,(fun h => by cases h),fun _ => rfl,by simp [ByteArray.size],Below.refl _ _⟩
 | opt a iha =>
   intro i w hat hr
   obtain ⟨q0,q1,q2,q3,q4⟩:=HM.out w hr i _ hat.opt.1
   have hlt:=hat.lt
   have hpos:=flat_pos (.opt a)
   have hi1 : (i : Int) < (l.length : Int):=by omega
   dsimp only [zc] at q0 q1 q2 q3 q4
   clear hat hr iha
   go_enter Tryz.func77,Tryz.ntmps77
   go_wp2
   go_ret2
   exact ⟨⟨#[]⟩,rfl,(fun h => by cases h),fun _ => rfl,by simp [ByteArray.size],Below.refl _ _⟩
 | plus a iha =>
   intro i w hat hr
   obtain ⟨q0,q1,q2,q3,q4⟩:=HM.out w hr i _ hat.plus.1
   have hlt:=hat.lt
   have hpos:=flat_pos (.plus a)
   have hi1 : (i : Int) < (l.length : Int):=by omega
   dsimp only [zc] at q0 q1 q2 q3 q4
   clear hat hr iha
   go_enter Tryz.func77,Tryz.ntmps77
   go_wp2
   go_ret2
   exact ⟨⟨#[]⟩,rfl,(fun h => by cases h),fun _ => rfl,by simp [ByteArray.size],Below.refl _ _⟩
 | alt a c iha ihc =>
   intro i w hat hr
   obtain ⟨q0,q1,q2,q3,q4⟩:=HM.out w hr i _ hat.alt.1
   have hlt:=hat.lt
   have hpos:=flat_pos (.alt a c)
   have hi1 : (i : Int) < (l.length : Int):=by omega
   dsimp only [zc] at q0 q1 q2 q3 q4
   clear hat hr iha ihc
   go_enter Tryz.func77,Tryz.ntmps77
   go_wp2
   go_ret2
   exact ⟨⟨#[]⟩,rfl,(fun h => by cases h),fun _ => rfl,by simp [ByteArray.size],Below.refl _ _⟩
 | empty =>
   intro i w hat hr
   obtain ⟨q0,q1,q2,q3,q4⟩:=HM.out w hr i _ hat.empty
   have hlt:=hat.lt
   have hpos:=flat_pos (.empty)
   have hi1 : (i : Int) < (l.length : Int):=by omega
   dsimp only [zc] at q0 q1 q2 q3 q4
   clear hat hr
   go_enter Tryz.func77,Tryz.ntmps77
   go_wp2
   go_ret2
   exact ⟨⟨#[]⟩,rfl,fun _ => rfl,(fun h => by cases h),by simp [ByteArray.size],Below.refl _ _⟩
 | byte c =>
   intro i w hat hr
   obtain ⟨c0,c1,c2,c3⟩:=c
   obtain ⟨q0,q1,q2,q3,q4⟩:=HM.out w hr i _ hat.byte
   have hlt:=hat.lt
   have hpos:=flat_pos (.byte (c0,c1,c2,c3))
   have hi1 : (i : Int) < (l.length : Int):=by omega
   dsimp only at q0 q1 q2 q3 q4
   have hc:=HOK.out _ (List.mem_of_getElem? hat.byte)
   have hlit : litL (.byte (c0,c1,c2,c3)) = if cntC (c0,c1,c2,c3) = 1 then ([UInt8.ofNat (least (c0,c1,c2,c3) 0)],true) else ([],false):=rfl
   have HCN:=hid (fun W => RCount_any c0 c1 c2 c3 W hc)
   have HIN:=hid (fun (x : Nat) (hx : x < 256) (W : World) => RIn_any c0 c1 c2 c3 x W hc hx)
   unfold RCountIs at HCN
   rw [cntR_cntC] at HCN
   have HR:=hid hr
   have hle:=cntC_le (c0,c1,c2,c3)
   by_cases h1 : cntC (c0,c1,c2,c3) = 1
   ·rw [hlit,if_pos h1]
    obtain ⟨hl256,hleast⟩:=cnt_one_least h1
    rw [h1] at HCN
    have HLE:=hid hleast
    have HAT:=hid hat.byte
    clear hat hr hc hlit h1 hleast hle
    generalize least (c0,c1,c2,c3) 0 = m at *
    go_enter Tryz.func77,Tryz.ntmps77
    go_wp2_with fail
    refine (HCN.out _).mono ?_
    rintro e w1 ⟨rfl,hb1⟩
    have HB1:=hid hb1
    clear hb1
    go_wp2_with fail
    go_loopw [6] (fun vl wr => ∃ k : Nat,k ≤ m ∧ vl = .int .i64 (k : Int) ∧ Hid (Below w.heap.size w wr)) (fun v _ => m - (intOf v).toNat)
    case atStart => exact ⟨0,by omega,rfl,HB1⟩
    case round =>
     obtain ⟨k,hk,rfl,HB⟩:=hrel
     obtain ⟨p0,p1,p2,p3,p4⟩:=HM.out wr (HR.out.below HB.out) i _ HAT.out
     dsimp only at p0 p1 p2 p3 p4
     have hsz:=HB.out.size
     have hk256 : k < 256:=by omega
     have HI:=hid (HIN.out k hk256 wr)
     unfold RInIs at HI
     by_cases hkm : k = m
     ·subst hkm
      rw [(HLE.out k hk256).2 rfl] at HI
      have HCV:=hid (fun W => conv_byte k hk256 W)
      go_wp2_with fail
      refine HI.out.mono ?_
      rintro e w2 ⟨rfl,hb2⟩
      have HB2:=hid (HB.out.trans (hb2.mono hsz))
      have hcv2:=HCV.out w2
      clear hb2
      go_wp2_with fail
      go_ret2
      exact ⟨⟨#[UInt8.ofNat k]⟩,rfl,fun _ => rfl,(fun h => by cases h),by simp [ByteArray.size],HB2.out.alloc HB2.out.size _⟩
     ·have hno : has (c0,c1,c2,c3) k = false:=by
       cases h : has (c0,c1,c2,c3) k with
       | false => rfl
       | true => exact absurd ((HLE.out k hk256).1 h) hkm
      rw [hno] at HI
      clear hno
      go_wp2_with fail
      refine HI.out.mono ?_
      rintro e w2 ⟨rfl,hb2⟩
      have HB2:=hid (HB.out.trans (hb2.mono hsz))
      clear hb2
      go_wp2_with fail
      go_roundw
      case rel => exact ⟨k + 1,by omega,by go_num,HB2⟩
      case measure => simp [intOf];omega
   ·rw [hlit,if_neg h1]
    have HH1:=hid h1
    clear hat hr hc hlit h1 HIN
    generalize cntC (c0,c1,c2,c3) = cn at *
    have hd : ((cn : Int) != 1) = true:=by have:=HH1.out;simp;omega
    go_enter Tryz.func77,Tryz.ntmps77
    go_wp2_with fail
    refine (HCN.out _).mono ?_
    rintro e w1 ⟨rfl,hb1⟩
    go_wp2_with fail
    go_ret2
    exact ⟨⟨#[]⟩,rfl,(fun h => by cases h),fun _ => rfl,by simp [ByteArray.size],hb1⟩
 | cat a c iha ihc =>
   intro i w hat hr
   obtain ⟨q0,q1,q2,q3,q4⟩:=HM.out w hr i _ hat.cat.1
   have hlt:=hat.lt
   have hpos:=flat_pos (.cat a c)
   have hi1 : (i : Int) < (l.length : Int):=by omega
   dsimp only [zc] at q0 q1 q2 q3 q4
   obtain ⟨_,hata,hatc⟩:=hat.cat
   have HA:=hid (fun W h => iha (i + 1) W hata h)
   have HC:=hid (fun W h => ihc (i + 1 + (flat a).length) W hatc h)
   have HR:=hid hr
   have HE:=hid (fun W h => HEND.out (i + 1) (by omega) W h)
   rw [eo_at hata] at HE
   have hlit : litL (.cat a c) = catL (litL a) (litL c):=rfl
   rw [hlit]
   have hlen2 : (litL a).2 = true → (litL c).2 = true → (litL a).1.length + (litL c).1.length ≤ 60:=fun _ _ => by
    have:=litL_len a
    have:=litL_len c
    have:=hata.lt
    have:=hatc.lt
    omega
   have HL2:=hid hlen2
   generalize i + 1 + (flat a).length = e2 at *
   clear hat hr iha ihc hata hatc hlit hlen2
   generalize litL a = na at *
   generalize litL c = nc at *
   obtain ⟨ta,xa⟩:=na
   obtain ⟨tc,xc⟩:=nc
   dsimp only at HL2
   go_enter Tryz.func77,Tryz.ntmps77
   go_wp2_with fail
   refine (HA.out _ HR.out).mono ?_
   rintro e w1 ⟨sa,rfl,hy1,hn1,hs1,hb1⟩
   have HB1:=hid hb1
   have HY1:=hid hy1
   clear hb1 hy1 hn1
   dsimp only at HY1 ⊢
   go_wp2_with fail
   refine (HE.out _ (HR.out.below HB1.out)).mono ?_
   rintro e w1' ⟨rfl,rfl⟩
   go_wp2_with fail
   refine (HC.out _ (HR.out.below HB1.out)).mono ?_
   rintro e w2 ⟨sc,rfl,hy2,hn2,hs2,hb2⟩
   have HB2:=hid (HB1.out.trans (hb2.mono HB1.out.size))
   have HY2:=hid hy2
   clear hb2 hy2 hn2
   dsimp only at HY2 ⊢
   cases xa with
   | true =>
     cases xc with
     | true =>
       have h1:=HY1.out rfl
       have h2:=HY2.out rfl
       have h3:=HL2.out rfl rfl
       have H1:=hid h1
       have H2:=hid h2
       have h4 : sa.size + sc.size ≤ 60:=by rw [bs_size h1,bs_size h2];exact h3
       clear h1 h2
       go_wp2_with fail
       go_ret2
       refine ⟨sa ++ sc,rfl,fun _ => ?_,(fun h => by simp [catL] at h),by simp;omega,HB2.out⟩
       simp [catL,H1.out,H2.out]
     | false =>
       go_wp2_with fail
       go_ret2
       exact ⟨⟨#[]⟩,by simp [catL];split <;> rfl,(fun h => by simp [catL] at h;split at h <;> cases h),fun _ => rfl,by simp [ByteArray.size],HB2.out⟩
   | false =>
     go_wp2_with fail
     go_ret2
     exact ⟨⟨#[]⟩,by simp [catL];split <;> rfl,(fun h => by simp [catL] at h;split at h <;> cases h),fun _ => rfl,by simp [ByteArray.size],HB2.out⟩
theorem RNeed_all (l : List Nd) (hg : ∀ n ∈ l,good n) (hok : ∀ n ∈ l,okC n.cls) (hlen : l.length ≤ 60) (b off cap : Nat) : ∀ (u : Rx) (i : Nat) (w : World),At l i u → RdN w (.slice (some ⟨b,off,none⟩) l.length cap) l →
 Calls Tryz.prog 50 #[.slice (some ⟨b,off,none⟩) l.length cap,.int .i64 (i : Int)] w (RNeedIs (litL u) w):=by
 have HM : Hid (∀ (w : World),RdN w (.slice (some ⟨b,off,none⟩) l.length cap) l → ∀ k n,l[k]? = some n →
  w.cell? ⟨b,off + k * 5,none⟩ = some (.int .i64 n.op) ∧ w.cell? ⟨b,off + k * 5 + 1,none⟩ = some (.int .u64 (n.cls.1 : Int)) ∧ w.cell? ⟨b,off + k * 5 + 2,none⟩ = some (.int .u64 (n.cls.2.1 : Int)) ∧
  w.cell? ⟨b,off + k * 5 + 3,none⟩ = some (.int .u64 (n.cls.2.2.1 : Int)) ∧ w.cell? ⟨b,off + k * 5 + 4,none⟩ = some (.int .u64 (n.cls.2.2.2 : Int))):=hid (fun w hr k n hk => by
  obtain ⟨A',cap',hv,hcap,hcap2,hmem⟩:=hr.open_
  injection hv with e1 _ e2
  obtain ⟨b',off',hA,_,hc⟩:=hmem (by have:=(List.getElem?_eq_some_iff.1 hk).1;omega)
  rw [hA] at e1
  cases e1
  exact hc w (fun _ => rfl) k n hk)
 have HEND:=hid (fun (i : Nat) (hi : i ≤ l.length) (w : World) (hr : RdN w (.slice (some ⟨b,off,none⟩) l.length cap) l) => REnd_all l hg hlen (some ⟨b,off,none⟩) cap l.length i w (by omega) hi hr)
 have HOK:=hid hok
 have HWH:=hid (fun (u : Rx) (i : Nat) (w : World) (hat : At l i u) (hr : RdN w (.slice (some ⟨b,off,none⟩) l.length cap) l) => RWhole_all l hg hok hlen b off cap u i w hat hr)
 clear hg hok
 intro u
 induction u with
 | bgn =>
   intro i w hat hr
   have hlt:=hat.lt
   have hpos:=flat_pos (.bgn)
   have hi1 : (i : Int) < (l.length : Int):=by omega
   have HAT:=hid hat.bgn
   have HW:=hid (HWH.out (.bgn) i w hat hr)
   have HR:=hid hr
   unfold RWholeIs at HW
   by_cases hwh : (litL (.bgn)).2 = true
   ·rw [hwh] at HW
    clear hat hr 
    generalize litL (.bgn) = n at *
    clear hwh
    go_enter Tryz.func50,Tryz.ntmps50
    go_wp2_with fail
    refine HW.out.mono ?_
    rintro e w1 ⟨s,rfl,hy,hn,hs,hb⟩
    have hy1:=hy (by simp)
    clear hy hn
    go_wp2_with fail
    go_ret
    exact ⟨s,rfl,hy1,hs,hb⟩
   ·have hwf : (litL (.bgn)).2 = false:=by simpa using hwh
    rw [hwf] at HW
    clear hwh
    have HL : Hid ((litL (.bgn)).1 = []):=hid rfl
    clear hat hr hwf 
    generalize litL (.bgn) = n at *
    go_enter Tryz.func50,Tryz.ntmps50
    go_wp2_with fail
    refine HW.out.mono ?_
    rintro e w1 ⟨s,rfl,hy,hn,hs,hb⟩
    have HB:=hid hb
    obtain ⟨q0,_⟩:=HM.out w1 (HR.out.below HB.out) i _ HAT.out
    dsimp only at q0
    clear hy hn hb
    go_wp2_with fail
    go_ret
    exact ⟨⟨#[]⟩,rfl,by rw [HL.out],by simp [ByteArray.size],HB.out⟩
 | fin =>
   intro i w hat hr
   have hlt:=hat.lt
   have hpos:=flat_pos (.fin)
   have hi1 : (i : Int) < (l.length : Int):=by omega
   have HAT:=hid hat.fin
   have HW:=hid (HWH.out (.fin) i w hat hr)
   have HR:=hid hr
   unfold RWholeIs at HW
   by_cases hwh : (litL (.fin)).2 = true
   ·rw [hwh] at HW
    clear hat hr 
    generalize litL (.fin) = n at *
    clear hwh
    go_enter Tryz.func50,Tryz.ntmps50
    go_wp2_with fail
    refine HW.out.mono ?_
    rintro e w1 ⟨s,rfl,hy,hn,hs,hb⟩
    have hy1:=hy (by simp)
    clear hy hn
    go_wp2_with fail
    go_ret
    exact ⟨s,rfl,hy1,hs,hb⟩
   ·have hwf : (litL (.fin)).2 = false:=by simpa using hwh
    rw [hwf] at HW
    clear hwh
    have HL : Hid ((litL (.fin)).1 = []):=hid rfl
    clear hat hr hwf 
    generalize litL (.fin) = n at *
    go_enter Tryz.func50,Tryz.ntmps50
    go_wp2_with fail
    refine HW.out.mono ?_
    rintro e w1 ⟨s,rfl,hy,hn,hs,hb⟩
    have HB:=hid hb
    obtain ⟨q0,_⟩:=HM.out w1 (HR.out.below HB.out) i _ HAT.out
    dsimp only at q0
    clear hy hn hb
    go_wp2_with fail
    go_ret
    exact ⟨⟨#[]⟩,rfl,by rw [HL.out],by simp [ByteArray.size],HB.out⟩
 | star a iha =>
   intro i w hat hr
   have hlt:=hat.lt
   have hpos:=flat_pos (.star a)
   have hi1 : (i : Int) < (l.length : Int):=by omega
   have HAT:=hid hat.star.1
   have HW:=hid (HWH.out (.star a) i w hat hr)
   have HR:=hid hr
   unfold RWholeIs at HW
   by_cases hwh : (litL (.star a)).2 = true
   ·rw [hwh] at HW
    clear hat hr iha
    generalize litL (.star a) = n at *
    clear hwh
    go_enter Tryz.func50,Tryz.ntmps50
    go_wp2_with fail
    refine HW.out.mono ?_
    rintro e w1 ⟨s,rfl,hy,hn,hs,hb⟩
    have hy1:=hy (by simp)
    clear hy hn
    go_wp2_with fail
    go_ret
    exact ⟨s,rfl,hy1,hs,hb⟩
   ·have hwf : (litL (.star a)).2 = false:=by simpa using hwh
    rw [hwf] at HW
    clear hwh
    have HL : Hid ((litL (.star a)).1 = []):=hid rfl
    clear hat hr hwf iha
    generalize litL (.star a) = n at *
    go_enter Tryz.func50,Tryz.ntmps50
    go_wp2_with fail
    refine HW.out.mono ?_
    rintro e w1 ⟨s,rfl,hy,hn,hs,hb⟩
    have HB:=hid hb
    obtain ⟨q0,_⟩:=HM.out w1 (HR.out.below HB.out) i _ HAT.out
    dsimp only at q0
    clear hy hn hb
    go_wp2_with fail
    go_ret
    exact ⟨⟨#[]⟩,rfl,by rw [HL.out],by simp [ByteArray.size],HB.out⟩
 | opt a iha =>
   intro i w hat hr
   have hlt:=hat.lt
   have hpos:=flat_pos (.opt a)
   have hi1 : (i : Int) < (l.length : Int):=by omega
   have HAT:=hid hat.opt.1
   have HW:=hid (HWH.out (.opt a) i w hat hr)
   have HR:=hid hr
   unfold RWholeIs at HW
   by_cases hwh : (litL (.opt a)).2 = true
   ·rw [hwh] at HW
    clear hat hr iha
    generalize litL (.opt a) = n at *
    clear hwh
    go_enter Tryz.func50,Tryz.ntmps50
    go_wp2_with fail
    refine HW.out.mono ?_
    rintro e w1 ⟨s,rfl,hy,hn,hs,hb⟩
    have hy1:=hy (by simp)
    clear hy hn
    go_wp2_with fail
    go_ret
    exact ⟨s,rfl,hy1,hs,hb⟩
   ·have hwf : (litL (.opt a)).2 = false:=by simpa using hwh
    rw [hwf] at HW
    clear hwh
    have HL : Hid ((litL (.opt a)).1 = []):=hid rfl
    clear hat hr hwf iha
    generalize litL (.opt a) = n at *
    go_enter Tryz.func50,Tryz.ntmps50
    go_wp2_with fail
    refine HW.out.mono ?_
    rintro e w1 ⟨s,rfl,hy,hn,hs,hb⟩
    have HB:=hid hb
    obtain ⟨q0,_⟩:=HM.out w1 (HR.out.below HB.out) i _ HAT.out
    dsimp only at q0
    clear hy hn hb
    go_wp2_with fail
    go_ret
    exact ⟨⟨#[]⟩,rfl,by rw [HL.out],by simp [ByteArray.size],HB.out⟩
 | alt a c iha ihc =>
   intro i w hat hr
   have hlt:=hat.lt
   have hpos:=flat_pos (.alt a c)
   have hi1 : (i : Int) < (l.length : Int):=by omega
   have HAT:=hid hat.alt.1
   have HW:=hid (HWH.out (.alt a c) i w hat hr)
   have HR:=hid hr
   unfold RWholeIs at HW
   by_cases hwh : (litL (.alt a c)).2 = true
   ·rw [hwh] at HW
    clear hat hr iha ihc
    generalize litL (.alt a c) = n at *
    clear hwh
    go_enter Tryz.func50,Tryz.ntmps50
    go_wp2_with fail
    refine HW.out.mono ?_
    rintro e w1 ⟨s,rfl,hy,hn,hs,hb⟩
    have hy1:=hy (by simp)
    clear hy hn
    go_wp2_with fail
    go_ret
    exact ⟨s,rfl,hy1,hs,hb⟩
   ·have hwf : (litL (.alt a c)).2 = false:=by simpa using hwh
    rw [hwf] at HW
    clear hwh
    have HL : Hid ((litL (.alt a c)).1 = []):=hid rfl
    clear hat hr hwf iha ihc
    generalize litL (.alt a c) = n at *
    go_enter Tryz.func50,Tryz.ntmps50
    go_wp2_with fail
    refine HW.out.mono ?_
    rintro e w1 ⟨s,rfl,hy,hn,hs,hb⟩
    have HB:=hid hb
    obtain ⟨q0,_⟩:=HM.out w1 (HR.out.below HB.out) i _ HAT.out
    dsimp only at q0
    clear hy hn hb
    go_wp2_with fail
    go_ret
    exact ⟨⟨#[]⟩,rfl,by rw [HL.out],by simp [ByteArray.size],HB.out⟩
 | empty =>
   intro i w hat hr
   have hlt:=hat.lt
   have hpos:=flat_pos (.empty)
   have hi1 : (i : Int) < (l.length : Int):=by omega
   have HAT:=hid hat.empty
   have HW:=hid (HWH.out (.empty) i w hat hr)
   have HR:=hid hr
   unfold RWholeIs at HW
   by_cases hwh : (litL (.empty)).2 = true
   ·rw [hwh] at HW
    clear hat hr 
    generalize litL (.empty) = n at *
    clear hwh
    go_enter Tryz.func50,Tryz.ntmps50
    go_wp2_with fail
    refine HW.out.mono ?_
    rintro e w1 ⟨s,rfl,hy,hn,hs,hb⟩
    have hy1:=hy (by simp)
    clear hy hn
    go_wp2_with fail
    go_ret
    exact ⟨s,rfl,hy1,hs,hb⟩
   ·have hwf : (litL (.empty)).2 = false:=by simpa using hwh
    rw [hwf] at HW
    clear hwh
    exact absurd hwf (by simp [litL])
 | byte c =>
   intro i w hat hr
   have hlt:=hat.lt
   have hpos:=flat_pos (.byte c)
   have hi1 : (i : Int) < (l.length : Int):=by omega
   have HAT:=hid hat.byte
   have HW:=hid (HWH.out (.byte c) i w hat hr)
   have HR:=hid hr
   unfold RWholeIs at HW
   by_cases hwh : (litL (.byte c)).2 = true
   ·rw [hwh] at HW
    clear hat hr 
    generalize litL (.byte c) = n at *
    clear hwh
    go_enter Tryz.func50,Tryz.ntmps50
    go_wp2_with fail
    refine HW.out.mono ?_
    rintro e w1 ⟨s,rfl,hy,hn,hs,hb⟩
    have hy1:=hy (by simp)
    clear hy hn
    go_wp2_with fail
    go_ret
    exact ⟨s,rfl,hy1,hs,hb⟩
   ·have hwf : (litL (.byte c)).2 = false:=by simpa using hwh
    rw [hwf] at HW
    clear hwh
    have HL : Hid ((litL (.byte c)).1 = []):=hid (by
     simp only [litL] at hwf ⊢
     by_cases h : cntC c = 1
     ·rw [if_pos h] at hwf;simp at hwf
     ·rw [if_neg h])
    clear hat hr hwf 
    generalize litL (.byte c) = n at *
    go_enter Tryz.func50,Tryz.ntmps50
    go_wp2_with fail
    refine HW.out.mono ?_
    rintro e w1 ⟨s,rfl,hy,hn,hs,hb⟩
    have HB:=hid hb
    obtain ⟨q0,_⟩:=HM.out w1 (HR.out.below HB.out) i _ HAT.out
    dsimp only at q0
    clear hy hn hb
    go_wp2_with fail
    go_ret
    exact ⟨⟨#[]⟩,rfl,by rw [HL.out],by simp [ByteArray.size],HB.out⟩
 | plus a iha =>
   intro i w hat hr
   have hlt:=hat.lt
   have hpos:=flat_pos (.plus a)
   have hi1 : (i : Int) < (l.length : Int):=by omega
   have HAT:=hid hat.plus.1
   have HW:=hid (HWH.out (.plus a) i w hat hr)
   have HR:=hid hr
   unfold RWholeIs at HW
   by_cases hwh : (litL (.plus a)).2 = true
   ·rw [hwh] at HW
    clear hat hr iha
    generalize litL (.plus a) = n at *
    clear hwh
    go_enter Tryz.func50,Tryz.ntmps50
    go_wp2_with fail
    refine HW.out.mono ?_
    rintro e w1 ⟨s,rfl,hy,hn,hs,hb⟩
    have hy1:=hy (by simp)
    clear hy hn
    go_wp2_with fail
    go_ret
    exact ⟨s,rfl,hy1,hs,hb⟩
   ·have hwf : (litL (.plus a)).2 = false:=by simpa using hwh
    rw [hwf] at HW
    clear hwh
    have HL : Hid ((litL (.plus a)).1 = (litL a).1):=hid rfl
    have HA:=hid (fun W h => iha (i + 1) W hat.plus.2 h)
    clear hat hr hwf iha
    generalize litL (.plus a) = n at *
    generalize litL a = na at *
    go_enter Tryz.func50,Tryz.ntmps50
    go_wp2_with fail
    refine HW.out.mono ?_
    rintro e w1 ⟨s,rfl,hy,hn,hs,hb⟩
    have HB:=hid hb
    obtain ⟨q0,_⟩:=HM.out w1 (HR.out.below HB.out) i _ HAT.out
    dsimp only at q0
    clear hy hn hb
    go_wp2_with fail
    refine (HA.out _ (HR.out.below HB.out)).mono ?_
    rintro e w2 ⟨s2,rfl,hs2,hsz,hb2⟩
    go_wp2_with fail
    go_ret
    exact ⟨s2,rfl,by rw [HL.out,hs2],hsz,HB.out.trans (hb2.mono HB.out.size)⟩
 | cat a c iha ihc =>
   intro i w hat hr
   have hlt:=hat.lt
   have hpos:=flat_pos (.cat a c)
   have hi1 : (i : Int) < (l.length : Int):=by omega
   have HAT:=hid hat.cat.1
   have HW:=hid (HWH.out (.cat a c) i w hat hr)
   have HR:=hid hr
   unfold RWholeIs at HW
   by_cases hwh : (litL (.cat a c)).2 = true
   ·rw [hwh] at HW
    clear hat hr iha ihc
    generalize litL (.cat a c) = n at *
    clear hwh
    go_enter Tryz.func50,Tryz.ntmps50
    go_wp2_with fail
    refine HW.out.mono ?_
    rintro e w1 ⟨s,rfl,hy,hn,hs,hb⟩
    have hy1:=hy (by simp)
    clear hy hn
    go_wp2_with fail
    go_ret
    exact ⟨s,rfl,hy1,hs,hb⟩
   ·have hwf : (litL (.cat a c)).2 = false:=by simpa using hwh
    rw [hwf] at HW
    clear hwh
    obtain ⟨_,hata,hatc⟩:=hat.cat
    have HL : Hid ((litL (.cat a c)).1 = if (litL c).1.length > (litL a).1.length then (litL c).1 else (litL a).1):=hid (by
     simp only [litL,catL] at hwf ⊢
     split at hwf
     ·cases hwf
     ·rename_i hne
      rw [if_neg hne]
      split <;> rfl)
    have HA:=hid (fun W h => iha (i + 1) W hata h)
    have HC:=hid (fun W h => ihc (i + 1 + (flat a).length) W hatc h)
    have hal:=hata.lt
    have hpa:=flat_pos a
    have HE:=hid (fun W h => HEND.out (i + 1) (by omega) W h)
    rw [eo_at hata] at HE
    generalize i + 1 + (flat a).length = e2 at *
    clear hat hr hwf iha ihc hata hatc
    generalize litL (.cat a c) = n at *
    generalize litL a = na at *
    generalize litL c = nc at *
    go_enter Tryz.func50,Tryz.ntmps50
    go_wp2_with fail
    refine HW.out.mono ?_
    rintro e w1 ⟨s,rfl,hy,hn,hs,hb⟩
    have HB:=hid hb
    obtain ⟨q0,_⟩:=HM.out w1 (HR.out.below HB.out) i _ HAT.out
    dsimp only at q0
    clear hy hn hb
    go_wp2_with fail
    refine (HA.out _ (HR.out.below HB.out)).mono ?_
    rintro e w2 ⟨sa,rfl,hsa,hsza,hb2⟩
    have HB2:=hid (HB.out.trans (hb2.mono HB.out.size))
    have HSA:=hid hsa
    clear hb2
    go_wp2_with fail
    refine (HE.out _ (HR.out.below HB2.out)).mono ?_
    rintro e w2' ⟨rfl,rfl⟩
    go_wp2_with fail
    refine (HC.out _ (HR.out.below HB2.out)).mono ?_
    rintro e w3 ⟨sc,rfl,hsc,hszc,hb3⟩
    have HB3:=hid (HB2.out.trans (hb3.mono HB2.out.size))
    have HSC:=hid hsc
    have HZA:=hid (bs_size hsa)
    have HZC:=hid (bs_size hsc)
    clear hb3 hsa hsc
    by_cases hlt2 : sa.size < sc.size
    ·have hd : decide ((sa.size : Int) < (sc.size : Int)) = true:=by simpa using hlt2
     go_wp2_with fail
     go_ret
     exact ⟨sc,rfl,by rw [HL.out,if_pos (by rw [← HZA.out,← HZC.out];exact hlt2),HSC.out],hszc,HB3.out⟩
    ·have hd : decide ((sa.size : Int) < (sc.size : Int)) = false:=by simpa using hlt2
     go_wp2_with fail
     go_ret
     exact ⟨sa,rfl,by rw [HL.out,if_neg (by rw [← HZA.out,← HZC.out];exact hlt2),HSA.out],hsza,HB3.out⟩
end Go.Proofs.YthcahjnniendnacGreatDoor
