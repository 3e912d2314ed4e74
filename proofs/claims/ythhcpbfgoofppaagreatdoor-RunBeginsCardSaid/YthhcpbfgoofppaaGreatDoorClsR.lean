/-
  The walk of package class's Range.
-/
import Derived.Test.YthhcpbfgoofppaaGreatDoorGPl
import Derived.Test.YthhcpbfgoofppaaGreatDoorGRex
set_option linter.unusedVariables false
set_option linter.unusedSimpArgs false
set_option maxRecDepth 100000
set_option maxHeartbeats 4000000
open Go.Lib (hid)
namespace Go.Proofs.YthhcpbfgoofppaaGreatDoor
open Go.RowKit Wf
def RangeNo (w : World) (e : Ending) (w' : World) : Prop:=e = .returned (.tuple #[.agg #[.int .u64 0,.int .u64 0,.int .u64 0,.int .u64 0],errV 1]) ∧ Below w.heap.size w w'
def RangeIs (lo n : Nat) (w : World) (e : Ending) (w' : World) : Prop:=∃ d0 d1 d2 d3 : Nat,e = .returned (.tuple #[.agg #[.int .u64 (d0 : Int),.int .u64 (d1 : Int),.int .u64 (d2 : Int),.int .u64 (d3 : Int)],.nilIface]) ∧ (d0,d1,d2,d3) = rngC lo n ∧ Below w.heap.size w w'
theorem Range_no (lo hi : Nat) (w : World) (h : hi < lo) : Calls Tryz.prog 224 #[.int .u8 (lo : Int),.int .u8 (hi : Int)] w (RangeNo w):=by
 have hd : decide (hi < lo) = true:=by simpa using h
 go_enter Tryz.func224,Tryz.ntmps224
 go_wp2
 refine bodyPost_ret (v:=.tuple #[.agg #[.int .u64 0,.int .u64 0,.int .u64 0,.int .u64 0],errV 1]) ?_ rfl ⟨rfl,?_⟩
 ·simp [results,Tryz.results224,go_sem,errV]
 ·exact (Below.refl _ _).alloc (Nat.le_refl _) _
theorem Range_ok (lo hi : Nat) (w : World) (h : lo ≤ hi) (hh : hi < 256) : Calls Tryz.prog 224 #[.int .u8 (lo : Int),.int .u8 (hi : Int)] w (RangeIs lo (hi + 1 - lo) w):=by
 have hd : decide (hi < lo) = false:=by simp;omega
 have i1 : (0 : Int) ≤ (lo : Int):=by omega
 have i2 : (lo : Int) < 256:=by omega
 have i3 : (0 : Int) ≤ (hi : Int):=by omega
 have i4 : (hi : Int) < 256:=by omega
 go_enter Tryz.func224,Tryz.ntmps224
 go_wp2
 go_loopw [7] (fun v7 wr => ∃ (k : Nat) (c0 c1 c2 c3 : Nat),lo ≤ k ∧ k ≤ hi + 1 ∧ v7 = .int .i64 (k : Int) ∧ okC (c0,c1,c2,c3) ∧ Hid ((c0,c1,c2,c3) = rngC lo (k - lo)) ∧
  Blk wr (w.heap.size + 1) 112 #[.int .u64 (c0 : Int),.int .u64 (c1 : Int),.int .u64 (c2 : Int),.int .u64 (c3 : Int)] ∧ Blk wr w.heap.size 112 #[.int .u64 0,.int .u64 0,.int .u64 0,.int .u64 0] ∧ Below w.heap.size w wr) (fun i _ => hi + 1 - (intOf i).toNat)
 case atStart => exact ⟨lo,0,0,0,0,by omega,by omega,by go_num,okC_zc,hid (by rw [Nat.sub_self];rfl),by have h:=Blk.new (w.alloc (.cells #[.int .u64 0,.int .u64 0,.int .u64 0,.int .u64 0] 112)) 112 #[.int .u64 0,.int .u64 0,.int .u64 0,.int .u64 0];rw [World.size_alloc] at h;exact h,(Blk.new _ _ _).alloc _,((Below.refl _ _).alloc (Nat.le_refl _) _).alloc (by simp) _⟩
 case round =>
  obtain ⟨k,c0,c1,c2,c3,hk,hk2,rfl,hok,hc,hblk,hblk0,hb⟩:=hrel
  have HB:=hid hblk
  have HB0:=hid hblk0
  have HBB:=hid hb
  obtain ⟨⟨x0,x1,x2,x3⟩,_⟩:=Blk4 hblk
  by_cases hlt : k < hi + 1
  ·have hd2 : decide ((k : Int) ≤ (hi : Int)) = true:=by simp;omega
   have hk8 : k < 256:=by omega
   have hk0 : (0 : Int) ≤ (k : Int):=by omega
   have hk1 : (k : Int) < 256:=by omega
   have hnext : withB (c0,c1,c2,c3) k = rngC lo (k + 1 - lo):=by
    rw [show k + 1 - lo = (k - lo) + 1 by omega]
    simp only [rngC]
    rw [← hc.out,show lo + (k - lo) = k by omega]
   have HN:=hid hnext
   have HOKN:=hid (okC_with hok k)
   have HWT:=hid (fun W => with_any c0 c1 c2 c3 k W hok hk8)
   unfold ClsIs at HWT
   clear hnext hok hc hblk hblk0 hb
   go_wp2_with fail
   refine (HWT.out _).mono ?_
   rintro e w1 ⟨d0,d1,d2,d3,rfl,hd3,hb1⟩
   have HD:=hid hd3
   have HB1:=hid (HB.out.kept hb1)
   have HZ1:=hid (HB0.out.kept hb1)
   have HBL:=hid (HBB.out.trans (hb1.mono HBB.out.size))
   obtain ⟨_,r0,r1,r2,r3⟩:=Blk4 HB1.out
   clear hd3 hb1 x0 x1 x2 x3
   go_wp2_with fail
   go_roundw
   case rel =>
    have hok':=HOKN.out
    rw [← HD.out] at hok'
    exact ⟨k + 1,d0,d1,d2,d3,by omega,by omega,by go_num,hok',hid (by rw [HD.out,HN.out]),Blk4_set HB1.out _ _ _ _,(((HZ1.out.far (by simp) _).far (by simp) _).far (by simp) _).far (by simp) _,
     (((HBL.out.setCell (by simp) _).setCell (by simp) _).setCell (by simp) _).setCell (by simp) _⟩
   case measure => simp [intOf];omega
  ·obtain rfl : k = hi + 1:=by omega
   have hd2 : decide (((hi + 1 : Nat) : Int) ≤ (hi : Int)) = false:=by simp;omega
   obtain ⟨_,t0,t1,t2,t3⟩:=Blk4 hblk0
   have HF:=hid hc.out
   clear hc hb hblk hblk0 hok
   go_wp2
   refine bodyPost_ret (v:=.tuple #[.agg #[.int .u64 (c0 : Int),.int .u64 (c1 : Int),.int .u64 (c2 : Int),.int .u64 (c3 : Int)],.nilIface]) ?_ rfl ⟨c0,c1,c2,c3,rfl,HF.out,?_⟩
   ·obtain ⟨h0,h1,h2,h3⟩:=(Blk4 (Blk4_set HB0.out (.int .u64 c0) (.int .u64 c1) (.int .u64 c2) (.int .u64 c3))).1
    simp [results,Tryz.results224,go_sem,h0,h1,h2,h3]
   ·exact (((HBB.out.setCell (Nat.le_refl _) _).setCell (Nat.le_refl _) _).setCell (Nat.le_refl _) _).setCell (Nat.le_refl _) _
end Go.Proofs.YthhcpbfgoofppaaGreatDoor
