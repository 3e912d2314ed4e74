/-
  ClsC, ClsB, ClsD.
-/
import Derived.Test.YthcahjnniendnacGreatDoorGPl
import Derived.Test.YthcahjnniendnacGreatDoorGRex
import Derived.Test.YthcahjnniendnacGreatDoorGSh
import Derived.BigQuiet
import Derived.Laws.Runes
set_option linter.unusedVariables false
set_option linter.unusedSimpArgs false
set_option maxRecDepth 100000
set_option maxHeartbeats 8000000
open Go.Lib (hid)
namespace Go.Proofs.YthcahjnniendnacGreatDoor
open Go.RowKit Wf
theorem Blk.new2 (w : World) (o : Obj) (t : TypeId) (cs : Array Value) : Blk ((w.alloc o).alloc (.cells cs t)) (w.heap.size + 1) t cs:=by
 have h:=Blk.new (w.alloc o) t cs
 simpa using h
theorem Blk.new3 (w : World) (o o' : Obj) (t : TypeId) (cs : Array Value) : Blk (((w.alloc o).alloc o').alloc (.cells cs t)) (w.heap.size + 1 + 1) t cs:=by
 have h:=Blk.new ((w.alloc o).alloc o') t cs
 simpa using h
theorem below2 (w : World) (o o' : Obj) : Below w.heap.size w ((w.alloc o).alloc o'):=((Below.refl _ _).alloc (Nat.le_refl _) _).alloc (by simp) _
theorem below3 (w : World) (o o' o'' : Obj) : Below w.heap.size w (((w.alloc o).alloc o').alloc o''):=(below2 w o o').alloc (by simp;omega) _
theorem size2 (w : World) (o o' : Obj) : w.heap.size ≤ ((w.alloc o).alloc o').heap.size:=by simp;omega
theorem size3 (w : World) (o o' o'' : Obj) : w.heap.size ≤ (((w.alloc o).alloc o').alloc o'').heap.size:=by simp;omega
theorem below_set4 {w w' : World} {g : Nat} (h : Below w.heap.size w w') (hg : w.heap.size ≤ g) (a b c d : Value) : Below w.heap.size w ((((w'.setCell ⟨g,0,none⟩ a).setCell ⟨g,1,none⟩ b).setCell ⟨g,2,none⟩ c).setCell ⟨g,3,none⟩ d) :=
 (((h.setCell hg _).setCell hg _).setCell hg _).setCell hg _
theorem and_85 (a : Nat) (ha : a < 18446744073709551616) : bits .and .u64 (a : Int) 6148914691236517205 = ((a &&& 6148914691236517205 : Nat) : Int):=u64_and_nat a 6148914691236517205 ha (by decide)
theorem and_51 (a : Nat) (ha : a < 18446744073709551616) : bits .and .u64 (a : Int) 3689348814741910323 = ((a &&& 3689348814741910323 : Nat) : Int):=u64_and_nat a 3689348814741910323 ha (by decide)
theorem and_15 (a : Nat) (ha : a < 18446744073709551616) : bits .and .u64 (a : Int) 1085102592571150095 = ((a &&& 1085102592571150095 : Nat) : Int):=u64_and_nat a 1085102592571150095 ha (by decide)
theorem w64 {a : Int} {n : Nat} (h : a = (n : Int)) (hn : n < 18446744073709551616) : IntKind.u64.wrap a = (n : Int):=by
 rw [IntKind.wrap_u64,h];omega
theorem and127 {x p : Nat} (h : x % 128 = p) (hx : x < 18446744073709551616) : bits .and .i64 (wrap64 (x : Int)) 127 = (p : Int):=by
 rw [i64_and127,wrap64];omega
theorem half_cast (x : Nat) : ((x : Int) / 2) = ((x / 2 : Nat) : Int):=by omega
theorem quart_cast (x : Nat) : ((x : Int) / 4) = ((x / 4 : Nat) : Int):=by omega
theorem sh_cast {x y k : Nat} (h : y = x + x / k) : (x : Int) + (x : Int) / (k : Int) = (y : Int):=by
 rw [h];simp
theorem sh16_cast (x : Nat) : (x : Int) / 16 + (x : Int) = ((x / 16 + x : Nat) : Int):=by omega
theorem ones_any (x : Nat) (w : World) (hx : x < 18446744073709551616) : Calls Tryz.prog 135 #[.int .u64 (x : Int)] w (fun e w' => e = .returned (.int .i64 (popN 64 x : Nat)) ∧ w' = w):=by
 obtain ⟨x1,h1⟩ : ∃ x1,x1 = ((x / 2) &&& 6148914691236517205) + (x &&& 6148914691236517205):=⟨_,rfl⟩
 obtain ⟨x2,h2⟩ : ∃ x2,x2 = ((x1 / 4) &&& 3689348814741910323) + (x1 &&& 3689348814741910323):=⟨_,rfl⟩
 obtain ⟨x3,h3⟩ : ∃ x3,x3 = (x2 / 16 + x2) &&& 1085102592571150095:=⟨_,rfl⟩
 obtain ⟨x4,h4⟩ : ∃ x4,x4 = x3 + x3 / 256:=⟨_,rfl⟩
 obtain ⟨x5,h5⟩ : ∃ x5,x5 = x4 + x4 / 65536:=⟨_,rfl⟩
 obtain ⟨x6,h6⟩ : ∃ x6,x6 = x5 + x5 / 4294967296:=⟨_,rfl⟩
 obtain ⟨hp,l1,l2,l4,l5,l6⟩:=onesCount64 x x1 x2 x3 x4 x5 x6 h1 h2 h3 h4 h5 h6
 generalize popN 64 x = p at *
 have l3 : x3 ≤ x4:=by omega
 have k1 : x / 2 < 18446744073709551616:=by omega
 have k2 : x1 / 4 < 18446744073709551616:=by omega
 have k3 : x1 < 18446744073709551616:=by omega
 have k4 : x2 < 18446744073709551616:=by omega
 have E1 : IntKind.u64.wrap (bits .and .u64 ((x : Int) / 2) 6148914691236517205 + bits .and .u64 (x : Int) 6148914691236517205) = (x1 : Int):=by
  rw [half_cast,and_85 _ k1,and_85 _ hx];exact w64 (by rw [h1,Int.natCast_add]) k3
 have E2 : IntKind.u64.wrap (bits .and .u64 ((x1 : Int) / 4) 3689348814741910323 + bits .and .u64 (x1 : Int) 3689348814741910323) = (x2 : Int):=by
  rw [quart_cast,and_51 _ k2,and_51 _ k3];exact w64 (by rw [h2,Int.natCast_add]) k4
 have E3 : bits .and .u64 (IntKind.u64.wrap ((x2 : Int) / 16 + (x2 : Int))) 1085102592571150095 = (x3 : Int):=by
  rw [w64 (sh16_cast x2) l2,and_15 _ l2,← h3]
 have E4 : IntKind.u64.wrap ((x3 : Int) + (x3 : Int) / 256) = (x4 : Int):=w64 (sh_cast h4) l4
 have E5 : IntKind.u64.wrap ((x4 : Int) + (x4 : Int) / 65536) = (x5 : Int):=w64 (sh_cast h5) l5
 have E6 : IntKind.u64.wrap ((x5 : Int) + (x5 : Int) / 4294967296) = (x6 : Int):=w64 (sh_cast h6) l6
 have E7 : bits .and .i64 (wrap64 (x6 : Int)) 127 = (p : Int):=and127 hp l6
 clear h1 h2 h3 h4 h5 h6 hp l1 l2 l3 l4 l5 l6 k1 k2 k3 k4
 have G1:=hid E1
 have G2:=hid E2
 have G3:=hid E3
 have G4:=hid E4
 have G5:=hid E5
 have G6:=hid E6
 have G7:=hid E7
 clear E1 E2 E3 E4 E5 E6 E7
 go_enter Tryz.func135,Tryz.ntmps135
 go_wp2
 refine bodyPost_ret (v:=.int .i64 (p : Int)) ?_ rfl ⟨rfl,rfl⟩
 simp [results,Tryz.results135,go_sem,G1.out,G2.out,G3.out,G4.out,G5.out,G6.out,G7.out]
def NatIs (n : Nat) (w : World) (e : Ending) (w' : World) : Prop:=∃ m : Nat,e = .returned (.int .i64 (m : Int)) ∧ m = n ∧ Below w.heap.size w w'
def cntTo (c : Cls) : Nat → Nat
 | 0 => 0
 | k + 1 => cntTo c k + popN 64 (word c k)
theorem run_idx (c0 c1 c2 c3 k : Nat) (w : World) (hk : k < 4) : (Instr.index 39 (.agg #[.int .u64 (c0 : Int),.int .u64 (c1 : Int),.int .u64 (c2 : Int),.int .u64 (c3 : Int)]) (.int .i64 (k : Int))).run Tryz.prog w = .ok (.int .u64 (word (c0,c1,c2,c3) k : Int)) w:=by
 match k,hk with
 | 0,_ => simp [Instr.index,asIntOf,run_underlying Tryz.underlying39,go_sem,word]
 | 1,_ => simp [Instr.index,asIntOf,run_underlying Tryz.underlying39,go_sem,word]
 | 2,_ => simp [Instr.index,asIntOf,run_underlying Tryz.underlying39,go_sem,word]
 | 3,_ => simp [Instr.index,asIntOf,run_underlying Tryz.underlying39,go_sem,word]
theorem cntTo_all (c : Cls) : cntTo c 4 = cntC c:=by simp [cntTo,cntC,word]
theorem Many_any (c0 c1 c2 c3 : Nat) (w : World) (hok : okC (c0,c1,c2,c3)) :
 Calls Tryz.prog 114 #[.agg #[.int .u64 (c0 : Int),.int .u64 (c1 : Int),.int .u64 (c2 : Int),.int .u64 (c3 : Int)]] w (NatIs (cntC (c0,c1,c2,c3)) w):=by
 have HL:=hid (fun k => word_lt hok k)
 clear hok
 go_enter Tryz.func114,Tryz.ntmps114
 go_wp2
 go_loopw [3,7] (fun v3 v7 wr => ∃ k m : Nat,k ≤ 4 ∧ v7 = .int .i64 (k : Int) ∧ v3 = .int .i64 (m : Int) ∧ m ≤ 64 * k ∧ Hid (m = cntTo (c0,c1,c2,c3) k) ∧ Hid (Below w.heap.size w wr)) (fun _ i _ => 4 - (intOf i).toNat)
 case atStart => exact ⟨0,0,by omega,rfl,rfl,by omega,hid rfl,hid ((Below.refl _ _).alloc (Nat.le_refl _) _)⟩
 case round =>
  obtain ⟨k,m,hk,rfl,rfl,hm,HM,HB⟩:=hrel
  by_cases hlt : k < 4
  ·have hk0 : (0 : Int) ≤ (k : Int):=by omega
   have hk1 : (k : Int) < 4:=by omega
   have hget:=fun W => run_idx c0 c1 c2 c3 k W hlt
   have hwl:=HL.out k
   obtain ⟨p,hp,HP,HPL⟩ : ∃ p : Nat,p ≤ 64 ∧ Hid (cntTo (c0,c1,c2,c3) (k + 1) = cntTo (c0,c1,c2,c3) k + p) ∧ Hid (p = popN 64 (word (c0,c1,c2,c3) k)):=⟨_,popN_le 64 _,hid rfl,hid rfl⟩
   generalize hx : word (c0,c1,c2,c3) k = x at *
   have HC : Hid (∀ W,Calls Tryz.prog 135 #[.int .u64 (x : Int)] W (fun e w' => e = .returned (.int .i64 (p : Nat)) ∧ w' = W)):=hid fun W => by rw [HPL.out];exact ones_any x W hwl
   clear hx
   go_wp2_with (go_at_call 135;refine (HC.out _).mono ?_;rintro e w1 ⟨rfl,rfl⟩)
   go_roundw
   case rel => exact ⟨k + 1,m + p,by omega,by go_num,by go_num,by omega,hid (by rw [HP.out,HM.out]),HB⟩
   case measure => simp [intOf];omega
  ·obtain rfl : k = 4:=by omega
   have hd : decide ((4 : Int) < 4) = false:=by simp
   go_wp2
   go_ret
   exact ⟨m,rfl,by rw [HM.out,cntTo_all],HB.out⟩
def OnlyIs (c : Cls) (w : World) (e : Ending) (w' : World) : Prop :=
 (∃ b : Nat,e = .returned (.tuple #[.int .u8 (b : Int),.bool true]) ∧ cntC c = 1 ∧ b = least c 0 ∧ b < 256 ∧ Below w.heap.size w w') ∨
   (e = .returned (.tuple #[.int .u8 0,.bool false]) ∧ cntC c ≠ 1 ∧ Below w.heap.size w w')
theorem Only_any (c0 c1 c2 c3 : Nat) (w : World) (hok : okC (c0,c1,c2,c3)) :
 Calls Tryz.prog 82 #[.agg #[.int .u64 (c0 : Int),.int .u64 (c1 : Int),.int .u64 (c2 : Int),.int .u64 (c3 : Int)]] w (OnlyIs (c0,c1,c2,c3) w):=by
 have HM:=hid fun W => Many_any c0 c1 c2 c3 W hok
 have HH:=hid fun b W hb => Has_any c0 c1 c2 c3 b W hok hb
 clear hok
 by_cases h1 : cntC (c0,c1,c2,c3) = 1
 ·obtain ⟨hl,hhas⟩:=cnt_one_least h1
  have hpost : ∀ e w',(∃ b : Nat,e = .returned (.tuple #[.int .u8 (b : Int),.bool true]) ∧ b = least (c0,c1,c2,c3) 0 ∧ b < 256 ∧ Below w.heap.size w w') → OnlyIs (c0,c1,c2,c3) w e w':=by
   rintro e w' ⟨b,e1,e2,e3,e4⟩
   exact .inl ⟨b,e1,h1,e2,e3,e4⟩
  refine Calls.mono ?_ hpost
  have H1:=hid h1
  obtain ⟨g,hg⟩ : ∃ g,least (c0,c1,c2,c3) 0 = g:=⟨_,rfl⟩
  rw [hg] at hl hhas ⊢
  have HHAS:=hid hhas
  clear h1 hhas hpost hg
  go_enter Tryz.func82,Tryz.ntmps82
  go_wp2_with (go_at_call 114;refine (HM.out _).mono ?_;rintro e w1 ⟨m,rfl,hm,hb1⟩;have hm1 : (m : Int) = 1:=(by have:=H1.out;omega);have HB1:=hid hb1;clear hm hb1)
  have hblk:=(Blk.new w 39 #[.int .u64 (c0 : Int),.int .u64 (c1 : Int),.int .u64 (c2 : Int),.int .u64 (c3 : Int)]).kept HB1.out
  have hbw:=((Below.refl w.heap.size w).alloc (Nat.le_refl _) (.cells #[.int .u64 (c0 : Int),.int .u64 (c1 : Int),.int .u64 (c2 : Int),.int .u64 (c3 : Int)] 39)).trans (HB1.out.mono (by simp))
  have HBLK:=hid hblk
  have HBW:=hid hbw
  clear hblk hbw HB1
  go_loopw [4] (fun v4 wr => ∃ k : Nat,k ≤ g ∧ v4 = .int .i64 (k : Int) ∧ Hid (Blk wr w.heap.size 39 #[.int .u64 (c0 : Int),.int .u64 (c1 : Int),.int .u64 (c2 : Int),.int .u64 (c3 : Int)]) ∧ Hid (Below w.heap.size w wr)) (fun i _ => g - (intOf i).toNat)
  case atStart => exact ⟨0,by omega,rfl,HBLK,HBW⟩
  case round =>
   obtain ⟨k,hk,rfl,HB,HW⟩:=hrel
   obtain ⟨⟨x0,x1,x2,x3⟩,y0,y1,y2,y3⟩:=Blk4 HB.out
   have hsz:=HB.out.lt
   by_cases hlt : k < g
   ·have HF : Hid (has (c0,c1,c2,c3) k = false):=hid (by
     cases hh : has (c0,c1,c2,c3) k with
     | false => rfl
     | true => have:=(HHAS.out k (by omega)).1 hh;omega)
    go_wp2_with (go_at_call 85;refine (HH.out k _ (by omega)).mono ?_;rw [show HasIs (c0,c1,c2,c3) k wr = fun e w' => e = .returned (.bool false) ∧ Below wr.heap.size wr w' from by unfold HasIs;rw [HF.out]];rintro e w2 ⟨rfl,hb2⟩)
    go_roundw
    case rel => exact ⟨k + 1,by omega,by go_num,hid (HB.out.kept hb2),hid (HW.out.trans (hb2.mono (by omega)))⟩
    case measure => simp [intOf];omega
   ·obtain rfl : k = g:=by omega
    have HF : Hid (has (c0,c1,c2,c3) k = true):=hid ((HHAS.out k (by omega)).2 rfl)
    go_wp2_with (go_at_call 85;refine (HH.out k _ (by omega)).mono ?_;rw [show HasIs (c0,c1,c2,c3) k wr = fun e w' => e = .returned (.bool true) ∧ Below wr.heap.size wr w' from by unfold HasIs;rw [HF.out]];rintro e w2 ⟨rfl,hb2⟩)
    go_ret2
    exact ⟨k,rfl,rfl,hl,HW.out.trans (hb2.mono (by omega))⟩
 ·have hpost : ∀ e w',(e = .returned (.tuple #[.int .u8 0,.bool false]) ∧ Below w.heap.size w w') → OnlyIs (c0,c1,c2,c3) w e w':=by
   rintro e w' ⟨e1,e2⟩
   exact .inr ⟨e1,h1,e2⟩
  refine Calls.mono ?_ hpost
  have H1:=hid h1
  clear h1 hpost
  go_enter Tryz.func82,Tryz.ntmps82
  go_wp2_with (go_at_call 114;refine (HM.out _).mono ?_;rintro e w1 ⟨m,rfl,hm,hb1⟩;have hm1 : ((m : Int) != 1) = true:=bne_iff_ne.2 (by have:=H1.out;omega);have HB1:=hid hb1;clear hm hb1)
  all_goals
   go_ret2
   exact ⟨rfl,((Below.refl w.heap.size w).alloc (Nat.le_refl _) (.cells #[.int .u64 (c0 : Int),.int .u64 (c1 : Int),.int .u64 (c2 : Int),.int .u64 (c3 : Int)] 39)).trans (HB1.out.mono (by simp))⟩
theorem specIdx : ∀ b : Fin 256,(0 ≤ Lib.indexByte [92,46,91,93,40,41,124,42,43,63,94,36,45] (UInt8.ofNat b.val)) ↔ (UInt8.ofNat b.val ∈ specialL):=by decide +kernel
theorem sz_list (s : ByteArray) : s.size = s.data.toList.length:=by simp
theorem data_app (a b : ByteArray) : (a ++ b).data.toList = a.data.toList ++ b.data.toList:=by simp
def U2Is (n : Nat) (w : World) (e : Ending) (w' : World) : Prop:=e = .returned (.int .u64 (n : Int)) ∧ w = w'
theorem not_nat (x : Nat) (hx : x < 18446744073709551616) : 18446744073709551615 ^^^ x = 18446744073709551615 - x:=by
 have h:=BitVec.toNat_not (x:=BitVec.ofNat 64 x)
 rw [BitVec.not_def,BitVec.toNat_xor] at h
 simp at h
 rw [Nat.mod_eq_of_lt (by omega)] at h
 exact h
theorem either1 (x y : Nat) (w : World) (hx : x < 18446744073709551616) (hy : y < 18446744073709551616) : Calls Tryz.prog 172 #[.int .u64 (x : Int),.int .u64 (y : Int)] w (U2Is (x ||| y) w):=by
 go_enter Tryz.func172,Tryz.ntmps172
 go_wp2
 go_ret
 refine ⟨?_,rfl⟩
 rw [← u64_or_nat x y hx hy]
 rfl
theorem not1 (x y : Nat) (w : World) (hx : x < 18446744073709551616) (hy : y < 18446744073709551616) : Calls Tryz.prog 138 #[.int .u64 (x : Int),.int .u64 (y : Int)] w (U2Is (18446744073709551615 - x) w):=by
 go_enter Tryz.func138,Tryz.ntmps138
 go_wp2
 go_ret
 refine ⟨?_,rfl⟩
 have e : bits .xor .u64 IntKind.u64.max (x : Int) = ((18446744073709551615 - x : Nat) : Int):=by
  rw [show IntKind.u64.max = ((18446744073709551615 : Nat) : Int) from rfl,u64_xor_nat _ _ (by decide) hx,not_nat x hx]
 rw [← e]
 rfl
theorem each_either (a0 a1 a2 a3 b0 b1 b2 b3 : Nat) (w : World) (ha : okC (a0,a1,a2,a3)) (hb : okC (b0,b1,b2,b3)) :
 Calls Tryz.prog 137 #[.agg #[.int .u64 (a0 : Int),.int .u64 (a1 : Int),.int .u64 (a2 : Int),.int .u64 (a3 : Int)],.agg #[.int .u64 (b0 : Int),.int .u64 (b1 : Int),.int .u64 (b2 : Int),.int .u64 (b3 : Int)],.func (.func 172) #[] #[]] w
  (ClsIs ((a0 ||| b0),(a1 ||| b1),(a2 ||| b2),(a3 ||| b3)) w):=by
 obtain ⟨ha0,ha1,ha2,ha3⟩:=ha
 obtain ⟨hb0,hb1,hb2,hb3⟩:=hb
 obtain ⟨r0,hr0⟩ : ∃ r,r = (a0 ||| b0):=⟨_,rfl⟩
 have hc0:=fun W => either1 a0 b0 W ha0 hb0
 rw [← hr0] at hc0 ⊢
 have HC0:=hid hc0
 clear hc0 hr0
 obtain ⟨r1,hr1⟩ : ∃ r,r = (a1 ||| b1):=⟨_,rfl⟩
 have hc1:=fun W => either1 a1 b1 W ha1 hb1
 rw [← hr1] at hc1 ⊢
 have HC1:=hid hc1
 clear hc1 hr1
 obtain ⟨r2,hr2⟩ : ∃ r,r = (a2 ||| b2):=⟨_,rfl⟩
 have hc2:=fun W => either1 a2 b2 W ha2 hb2
 rw [← hr2] at hc2 ⊢
 have HC2:=hid hc2
 clear hc2 hr2
 obtain ⟨r3,hr3⟩ : ∃ r,r = (a3 ||| b3):=⟨_,rfl⟩
 have hc3:=fun W => either1 a3 b3 W ha3 hb3
 rw [← hr3] at hc3 ⊢
 have HC3:=hid hc3
 clear hc3 hr3
 have hA:=((Blk.new w 39 #[.int .u64 (a0 : Int),.int .u64 (a1 : Int),.int .u64 (a2 : Int),.int .u64 (a3 : Int)]).kept ((Below.refl _ _).alloc (Nat.le_refl _) (.cells #[.int .u64 (b0 : Int),.int .u64 (b1 : Int),.int .u64 (b2 : Int),.int .u64 (b3 : Int)] 39))).kept ((Below.refl _ _).alloc (Nat.le_refl _) (.cells #[.int .u64 0,.int .u64 0,.int .u64 0,.int .u64 0] 39))
 have hB:=(Blk.new (w.alloc (.cells #[.int .u64 (a0 : Int),.int .u64 (a1 : Int),.int .u64 (a2 : Int),.int .u64 (a3 : Int)] 39)) 39 #[.int .u64 (b0 : Int),.int .u64 (b1 : Int),.int .u64 (b2 : Int),.int .u64 (b3 : Int)]).kept ((Below.refl _ _).alloc (Nat.le_refl _) (.cells #[.int .u64 0,.int .u64 0,.int .u64 0,.int .u64 0] 39))
 have hZ:=Blk.new ((w.alloc (.cells #[.int .u64 (a0 : Int),.int .u64 (a1 : Int),.int .u64 (a2 : Int),.int .u64 (a3 : Int)] 39)).alloc (.cells #[.int .u64 (b0 : Int),.int .u64 (b1 : Int),.int .u64 (b2 : Int),.int .u64 (b3 : Int)] 39)) 39 #[.int .u64 0,.int .u64 0,.int .u64 0,.int .u64 0]
 have hsz1 : (w.alloc (.cells #[.int .u64 (a0 : Int),.int .u64 (a1 : Int),.int .u64 (a2 : Int),.int .u64 (a3 : Int)] 39)).heap.size = w.heap.size + 1:=by simp
 have hsz2 : ((w.alloc (.cells #[.int .u64 (a0 : Int),.int .u64 (a1 : Int),.int .u64 (a2 : Int),.int .u64 (a3 : Int)] 39)).alloc (.cells #[.int .u64 (b0 : Int),.int .u64 (b1 : Int),.int .u64 (b2 : Int),.int .u64 (b3 : Int)] 39)).heap.size = w.heap.size + 1 + 1:=by simp
 rw [hsz1] at hB
 rw [hsz2] at hZ
 have HA:=hid hA
 have HB:=hid hB
 have HZ:=hid hZ
 have HBL : Hid (∀ o o' o'' : Obj,Below w.heap.size w (((w.alloc o).alloc o').alloc o'')):=hid fun o o' o'' => (((Below.refl _ _).alloc (Nat.le_refl _) _).alloc (by simp) _).alloc (by simp;omega) _
 clear hA hB hZ hsz1 hsz2
 go_enter Tryz.func137,Tryz.ntmps137
 go_wp2
 go_loopw [8] (fun v8 wr => ∃ (k c0 c1 c2 c3 : Nat),k ≤ 4 ∧ v8 = .int .i64 (k : Int) ∧ Hid (c0 = (if 0 < k then r0 else a0) ∧ c1 = (if 1 < k then r1 else a1) ∧ c2 = (if 2 < k then r2 else a2) ∧ c3 = (if 3 < k then r3 else a3)) ∧
  Hid (Blk wr w.heap.size 39 #[.int .u64 (c0 : Int),.int .u64 (c1 : Int),.int .u64 (c2 : Int),.int .u64 (c3 : Int)]) ∧ Hid (Blk wr (w.heap.size + 1) 39 #[.int .u64 (b0 : Int),.int .u64 (b1 : Int),.int .u64 (b2 : Int),.int .u64 (b3 : Int)]) ∧ Hid (Blk wr (w.heap.size + 1 + 1) 39 #[.int .u64 0,.int .u64 0,.int .u64 0,.int .u64 0]) ∧ Hid (Below w.heap.size w wr)) (fun i _ => 4 - (intOf i).toNat)
 case atStart => exact ⟨0,a0,a1,a2,a3,by omega,rfl,hid ⟨rfl,rfl,rfl,rfl⟩,HA,HB,HZ,hid (HBL.out _ _ _)⟩
 case round =>
  obtain ⟨k,c0,c1,c2,c3,hk,rfl,hc,hA,hB,hZ,hbl⟩:=hrel
  have hcc:=hc.out
  have h4 : k = 0 ∨ k = 1 ∨ k = 2 ∨ k = 3 ∨ k = 4:=by omega
  clear hc
  obtain ⟨⟨x0,x1,x2,x3⟩,y0,y1,y2,y3⟩:=Blk4 hA.out
  obtain ⟨⟨z0,z1,z2,z3⟩,_⟩:=Blk4 hB.out
  obtain ⟨⟨t0,t1,t2,t3⟩,u0,u1,u2,u3⟩:=Blk4 hZ.out
  rcases h4 with rfl | rfl | rfl | rfl | rfl
  ·have hq : c0 = a0 ∧ c1 = a1 ∧ c2 = a2 ∧ c3 = a3:=by simpa using hcc
   obtain rfl:=hq.1.symm
   obtain rfl:=hq.2.1.symm
   obtain rfl:=hq.2.2.1.symm
   obtain rfl:=hq.2.2.2.symm
   clear hq
   clear hcc
   go_wp2_with fail
   go_region_with (first
    | (go_at_call 172;refine (HC0.out _).mono ?_;rintro e w1 ⟨rfl,rfl⟩))
   all_goals (
    go_wp2
    go_roundw
    case rel =>
     refine ⟨1,r0,a1,a2,a3,by omega,by first | rfl | go_num,hid (by simp),hid ?_,hid ?_,hid ?_,hid ?_⟩
     ·exact hA.out.drew.set_ 0 _
     ·exact (hB.out.drew).far (by show _ ≠ w.heap.size;omega) _
     ·exact (hZ.out.drew).far (by show _ ≠ w.heap.size;omega) _
     ·exact hbl.out.drew.setCell (Nat.le_refl _) _
    case measure => simp [intOf])
  ·have hq : c0 = r0 ∧ c1 = a1 ∧ c2 = a2 ∧ c3 = a3:=by simpa using hcc
   obtain rfl:=hq.1.symm
   obtain rfl:=hq.2.1.symm
   obtain rfl:=hq.2.2.1.symm
   obtain rfl:=hq.2.2.2.symm
   clear hq
   clear hcc
   go_wp2_with fail
   go_region_with (first
    | (go_at_call 172;refine (HC1.out _).mono ?_;rintro e w1 ⟨rfl,rfl⟩))
   all_goals (
    go_wp2
    go_roundw
    case rel =>
     refine ⟨2,r0,r1,a2,a3,by omega,by first | rfl | go_num,hid (by simp),hid ?_,hid ?_,hid ?_,hid ?_⟩
     ·exact hA.out.drew.set_ 1 _
     ·exact (hB.out.drew).far (by show _ ≠ w.heap.size;omega) _
     ·exact (hZ.out.drew).far (by show _ ≠ w.heap.size;omega) _
     ·exact hbl.out.drew.setCell (Nat.le_refl _) _
    case measure => simp [intOf])
  ·have hq : c0 = r0 ∧ c1 = r1 ∧ c2 = a2 ∧ c3 = a3:=by simpa using hcc
   obtain rfl:=hq.1.symm
   obtain rfl:=hq.2.1.symm
   obtain rfl:=hq.2.2.1.symm
   obtain rfl:=hq.2.2.2.symm
   clear hq
   clear hcc
   go_wp2_with fail
   go_region_with (first
    | (go_at_call 172;refine (HC2.out _).mono ?_;rintro e w1 ⟨rfl,rfl⟩))
   all_goals (
    go_wp2
    go_roundw
    case rel =>
     refine ⟨3,r0,r1,r2,a3,by omega,by first | rfl | go_num,hid (by simp),hid ?_,hid ?_,hid ?_,hid ?_⟩
     ·exact hA.out.drew.set_ 2 _
     ·exact (hB.out.drew).far (by show _ ≠ w.heap.size;omega) _
     ·exact (hZ.out.drew).far (by show _ ≠ w.heap.size;omega) _
     ·exact hbl.out.drew.setCell (Nat.le_refl _) _
    case measure => simp [intOf])
  ·have hq : c0 = r0 ∧ c1 = r1 ∧ c2 = r2 ∧ c3 = a3:=by simpa using hcc
   obtain rfl:=hq.1.symm
   obtain rfl:=hq.2.1.symm
   obtain rfl:=hq.2.2.1.symm
   obtain rfl:=hq.2.2.2.symm
   clear hq
   clear hcc
   go_wp2_with fail
   go_region_with (first
    | (go_at_call 172;refine (HC3.out _).mono ?_;rintro e w1 ⟨rfl,rfl⟩))
   all_goals (
    go_wp2
    go_roundw
    case rel =>
     refine ⟨4,r0,r1,r2,r3,by omega,by first | rfl | go_num,hid (by simp),hid ?_,hid ?_,hid ?_,hid ?_⟩
     ·exact hA.out.drew.set_ 3 _
     ·exact (hB.out.drew).far (by show _ ≠ w.heap.size;omega) _
     ·exact (hZ.out.drew).far (by show _ ≠ w.heap.size;omega) _
     ·exact hbl.out.drew.setCell (Nat.le_refl _) _
    case measure => simp [intOf])
  ·have hq : c0 = r0 ∧ c1 = r1 ∧ c2 = r2 ∧ c3 = r3:=by simpa using hcc
   obtain rfl:=hq.1.symm
   obtain rfl:=hq.2.1.symm
   obtain rfl:=hq.2.2.1.symm
   obtain rfl:=hq.2.2.2.symm
   clear hq hcc
   go_wp2
   refine bodyPost_ret (v:=clsV (r0,r1,r2,r3)) ?_ rfl (ClsIs.of ?_)
   ·have h4:=(Blk4 (Blk4_set hZ.out (.int .u64 r0) (.int .u64 r1) (.int .u64 r2) (.int .u64 r3))).1
    obtain ⟨h0,h1,h2,h3⟩:=h4
    simp [results,Tryz.results137,go_sem,clsV,h0,h1,h2,h3]
   ·have hle : w.heap.size ≤ w.heap.size + 1 + 1:=by omega
    exact (((hbl.out.setCell hle _).setCell hle _).setCell hle _).setCell hle _
theorem each_not (a0 a1 a2 a3 b0 b1 b2 b3 : Nat) (w : World) (ha : okC (a0,a1,a2,a3)) (hb : okC (b0,b1,b2,b3)) :
 Calls Tryz.prog 137 #[.agg #[.int .u64 (a0 : Int),.int .u64 (a1 : Int),.int .u64 (a2 : Int),.int .u64 (a3 : Int)],.agg #[.int .u64 (b0 : Int),.int .u64 (b1 : Int),.int .u64 (b2 : Int),.int .u64 (b3 : Int)],.func (.func 138) #[] #[]] w
  (ClsIs ((18446744073709551615 - a0),(18446744073709551615 - a1),(18446744073709551615 - a2),(18446744073709551615 - a3)) w):=by
 obtain ⟨ha0,ha1,ha2,ha3⟩:=ha
 obtain ⟨hb0,hb1,hb2,hb3⟩:=hb
 obtain ⟨r0,hr0⟩ : ∃ r,r = (18446744073709551615 - a0):=⟨_,rfl⟩
 have hc0:=fun W => not1 a0 b0 W ha0 hb0
 rw [← hr0] at hc0 ⊢
 have HC0:=hid hc0
 clear hc0 hr0
 obtain ⟨r1,hr1⟩ : ∃ r,r = (18446744073709551615 - a1):=⟨_,rfl⟩
 have hc1:=fun W => not1 a1 b1 W ha1 hb1
 rw [← hr1] at hc1 ⊢
 have HC1:=hid hc1
 clear hc1 hr1
 obtain ⟨r2,hr2⟩ : ∃ r,r = (18446744073709551615 - a2):=⟨_,rfl⟩
 have hc2:=fun W => not1 a2 b2 W ha2 hb2
 rw [← hr2] at hc2 ⊢
 have HC2:=hid hc2
 clear hc2 hr2
 obtain ⟨r3,hr3⟩ : ∃ r,r = (18446744073709551615 - a3):=⟨_,rfl⟩
 have hc3:=fun W => not1 a3 b3 W ha3 hb3
 rw [← hr3] at hc3 ⊢
 have HC3:=hid hc3
 clear hc3 hr3
 have hA:=((Blk.new w 39 #[.int .u64 (a0 : Int),.int .u64 (a1 : Int),.int .u64 (a2 : Int),.int .u64 (a3 : Int)]).kept ((Below.refl _ _).alloc (Nat.le_refl _) (.cells #[.int .u64 (b0 : Int),.int .u64 (b1 : Int),.int .u64 (b2 : Int),.int .u64 (b3 : Int)] 39))).kept ((Below.refl _ _).alloc (Nat.le_refl _) (.cells #[.int .u64 0,.int .u64 0,.int .u64 0,.int .u64 0] 39))
 have hB:=(Blk.new (w.alloc (.cells #[.int .u64 (a0 : Int),.int .u64 (a1 : Int),.int .u64 (a2 : Int),.int .u64 (a3 : Int)] 39)) 39 #[.int .u64 (b0 : Int),.int .u64 (b1 : Int),.int .u64 (b2 : Int),.int .u64 (b3 : Int)]).kept ((Below.refl _ _).alloc (Nat.le_refl _) (.cells #[.int .u64 0,.int .u64 0,.int .u64 0,.int .u64 0] 39))
 have hZ:=Blk.new ((w.alloc (.cells #[.int .u64 (a0 : Int),.int .u64 (a1 : Int),.int .u64 (a2 : Int),.int .u64 (a3 : Int)] 39)).alloc (.cells #[.int .u64 (b0 : Int),.int .u64 (b1 : Int),.int .u64 (b2 : Int),.int .u64 (b3 : Int)] 39)) 39 #[.int .u64 0,.int .u64 0,.int .u64 0,.int .u64 0]
 have hsz1 : (w.alloc (.cells #[.int .u64 (a0 : Int),.int .u64 (a1 : Int),.int .u64 (a2 : Int),.int .u64 (a3 : Int)] 39)).heap.size = w.heap.size + 1:=by simp
 have hsz2 : ((w.alloc (.cells #[.int .u64 (a0 : Int),.int .u64 (a1 : Int),.int .u64 (a2 : Int),.int .u64 (a3 : Int)] 39)).alloc (.cells #[.int .u64 (b0 : Int),.int .u64 (b1 : Int),.int .u64 (b2 : Int),.int .u64 (b3 : Int)] 39)).heap.size = w.heap.size + 1 + 1:=by simp
 rw [hsz1] at hB
 rw [hsz2] at hZ
 have HA:=hid hA
 have HB:=hid hB
 have HZ:=hid hZ
 have HBL : Hid (∀ o o' o'' : Obj,Below w.heap.size w (((w.alloc o).alloc o').alloc o'')):=hid fun o o' o'' => (((Below.refl _ _).alloc (Nat.le_refl _) _).alloc (by simp) _).alloc (by simp;omega) _
 clear hA hB hZ hsz1 hsz2
 go_enter Tryz.func137,Tryz.ntmps137
 go_wp2
 go_loopw [8] (fun v8 wr => ∃ (k c0 c1 c2 c3 : Nat),k ≤ 4 ∧ v8 = .int .i64 (k : Int) ∧ Hid (c0 = (if 0 < k then r0 else a0) ∧ c1 = (if 1 < k then r1 else a1) ∧ c2 = (if 2 < k then r2 else a2) ∧ c3 = (if 3 < k then r3 else a3)) ∧
  Hid (Blk wr w.heap.size 39 #[.int .u64 (c0 : Int),.int .u64 (c1 : Int),.int .u64 (c2 : Int),.int .u64 (c3 : Int)]) ∧ Hid (Blk wr (w.heap.size + 1) 39 #[.int .u64 (b0 : Int),.int .u64 (b1 : Int),.int .u64 (b2 : Int),.int .u64 (b3 : Int)]) ∧ Hid (Blk wr (w.heap.size + 1 + 1) 39 #[.int .u64 0,.int .u64 0,.int .u64 0,.int .u64 0]) ∧ Hid (Below w.heap.size w wr)) (fun i _ => 4 - (intOf i).toNat)
 case atStart => exact ⟨0,a0,a1,a2,a3,by omega,rfl,hid ⟨rfl,rfl,rfl,rfl⟩,HA,HB,HZ,hid (HBL.out _ _ _)⟩
 case round =>
  obtain ⟨k,c0,c1,c2,c3,hk,rfl,hc,hA,hB,hZ,hbl⟩:=hrel
  have hcc:=hc.out
  have h4 : k = 0 ∨ k = 1 ∨ k = 2 ∨ k = 3 ∨ k = 4:=by omega
  clear hc
  obtain ⟨⟨x0,x1,x2,x3⟩,y0,y1,y2,y3⟩:=Blk4 hA.out
  obtain ⟨⟨z0,z1,z2,z3⟩,_⟩:=Blk4 hB.out
  obtain ⟨⟨t0,t1,t2,t3⟩,u0,u1,u2,u3⟩:=Blk4 hZ.out
  rcases h4 with rfl | rfl | rfl | rfl | rfl
  ·have hq : c0 = a0 ∧ c1 = a1 ∧ c2 = a2 ∧ c3 = a3:=by simpa using hcc
   obtain rfl:=hq.1.symm
   obtain rfl:=hq.2.1.symm
   obtain rfl:=hq.2.2.1.symm
   obtain rfl:=hq.2.2.2.symm
   clear hq
   clear hcc
   go_wp2_with fail
   go_region_with (first
    | (go_at_call 138;refine (HC0.out _).mono ?_;rintro e w1 ⟨rfl,rfl⟩))
   all_goals (
    go_wp2
    go_roundw
    case rel =>
     refine ⟨1,r0,a1,a2,a3,by omega,by first | rfl | go_num,hid (by simp),hid ?_,hid ?_,hid ?_,hid ?_⟩
     ·exact hA.out.drew.set_ 0 _
     ·exact (hB.out.drew).far (by show _ ≠ w.heap.size;omega) _
     ·exact (hZ.out.drew).far (by show _ ≠ w.heap.size;omega) _
     ·exact hbl.out.drew.setCell (Nat.le_refl _) _
    case measure => simp [intOf])
  ·have hq : c0 = r0 ∧ c1 = a1 ∧ c2 = a2 ∧ c3 = a3:=by simpa using hcc
   obtain rfl:=hq.1.symm
   obtain rfl:=hq.2.1.symm
   obtain rfl:=hq.2.2.1.symm
   obtain rfl:=hq.2.2.2.symm
   clear hq
   clear hcc
   go_wp2_with fail
   go_region_with (first
    | (go_at_call 138;refine (HC1.out _).mono ?_;rintro e w1 ⟨rfl,rfl⟩))
   all_goals (
    go_wp2
    go_roundw
    case rel =>
     refine ⟨2,r0,r1,a2,a3,by omega,by first | rfl | go_num,hid (by simp),hid ?_,hid ?_,hid ?_,hid ?_⟩
     ·exact hA.out.drew.set_ 1 _
     ·exact (hB.out.drew).far (by show _ ≠ w.heap.size;omega) _
     ·exact (hZ.out.drew).far (by show _ ≠ w.heap.size;omega) _
     ·exact hbl.out.drew.setCell (Nat.le_refl _) _
    case measure => simp [intOf])
  ·have hq : c0 = r0 ∧ c1 = r1 ∧ c2 = a2 ∧ c3 = a3:=by simpa using hcc
   obtain rfl:=hq.1.symm
   obtain rfl:=hq.2.1.symm
   obtain rfl:=hq.2.2.1.symm
   obtain rfl:=hq.2.2.2.symm
   clear hq
   clear hcc
   go_wp2_with fail
   go_region_with (first
    | (go_at_call 138;refine (HC2.out _).mono ?_;rintro e w1 ⟨rfl,rfl⟩))
   all_goals (
    go_wp2
    go_roundw
    case rel =>
     refine ⟨3,r0,r1,r2,a3,by omega,by first | rfl | go_num,hid (by simp),hid ?_,hid ?_,hid ?_,hid ?_⟩
     ·exact hA.out.drew.set_ 2 _
     ·exact (hB.out.drew).far (by show _ ≠ w.heap.size;omega) _
     ·exact (hZ.out.drew).far (by show _ ≠ w.heap.size;omega) _
     ·exact hbl.out.drew.setCell (Nat.le_refl _) _
    case measure => simp [intOf])
  ·have hq : c0 = r0 ∧ c1 = r1 ∧ c2 = r2 ∧ c3 = a3:=by simpa using hcc
   obtain rfl:=hq.1.symm
   obtain rfl:=hq.2.1.symm
   obtain rfl:=hq.2.2.1.symm
   obtain rfl:=hq.2.2.2.symm
   clear hq
   clear hcc
   go_wp2_with fail
   go_region_with (first
    | (go_at_call 138;refine (HC3.out _).mono ?_;rintro e w1 ⟨rfl,rfl⟩))
   all_goals (
    go_wp2
    go_roundw
    case rel =>
     refine ⟨4,r0,r1,r2,r3,by omega,by first | rfl | go_num,hid (by simp),hid ?_,hid ?_,hid ?_,hid ?_⟩
     ·exact hA.out.drew.set_ 3 _
     ·exact (hB.out.drew).far (by show _ ≠ w.heap.size;omega) _
     ·exact (hZ.out.drew).far (by show _ ≠ w.heap.size;omega) _
     ·exact hbl.out.drew.setCell (Nat.le_refl _) _
    case measure => simp [intOf])
  ·have hq : c0 = r0 ∧ c1 = r1 ∧ c2 = r2 ∧ c3 = r3:=by simpa using hcc
   obtain rfl:=hq.1.symm
   obtain rfl:=hq.2.1.symm
   obtain rfl:=hq.2.2.1.symm
   obtain rfl:=hq.2.2.2.symm
   clear hq hcc
   go_wp2
   refine bodyPost_ret (v:=clsV (r0,r1,r2,r3)) ?_ rfl (ClsIs.of ?_)
   ·have h4:=(Blk4 (Blk4_set hZ.out (.int .u64 r0) (.int .u64 r1) (.int .u64 r2) (.int .u64 r3))).1
    obtain ⟨h0,h1,h2,h3⟩:=h4
    simp [results,Tryz.results137,go_sem,clsV,h0,h1,h2,h3]
   ·have hle : w.heap.size ≤ w.heap.size + 1 + 1:=by omega
    exact (((hbl.out.setCell hle _).setCell hle _).setCell hle _).setCell hle _
theorem Either_any (a0 a1 a2 a3 b0 b1 b2 b3 : Nat) (w : World) (ha : okC (a0,a1,a2,a3)) (hb : okC (b0,b1,b2,b3)) :
 Calls Tryz.prog 162 #[.agg #[.int .u64 (a0 : Int),.int .u64 (a1 : Int),.int .u64 (a2 : Int),.int .u64 (a3 : Int)],.agg #[.int .u64 (b0 : Int),.int .u64 (b1 : Int),.int .u64 (b2 : Int),.int .u64 (b3 : Int)]] w (ClsIs (eitherC (a0,a1,a2,a3) (b0,b1,b2,b3)) w):=by
 have HC:=hid fun W => each_either a0 a1 a2 a3 b0 b1 b2 b3 W ha hb
 have HX : Hid (((a0 ||| b0),(a1 ||| b1),(a2 ||| b2),(a3 ||| b3)) = eitherC (a0,a1,a2,a3) (b0,b1,b2,b3)):=hid rfl
 clear ha hb
 go_enter Tryz.func162,Tryz.ntmps162
 go_wp2_with (go_at_call 137;refine (HC.out _).mono ?_;rintro e w1 ⟨d0,d1,d2,d3,rfl,hd,hb1⟩;have HD:=hid hd;have HK:=hid ((Blk.new3 _ _ _ _ _).kept hb1);have HB1:=hid ((below3 _ _ _ _).trans (hb1.mono (size3 _ _ _ _)));clear hd hb1 HC;obtain ⟨⟨x0,x1,x2,x3⟩,y0,y1,y2,y3⟩:=Blk4 HK.out)
 refine bodyPost_ret (v:=clsV (d0,d1,d2,d3)) ?_ rfl ?_
 ·have h4:=(Blk4 (Blk4_set HK.out (.int .u64 d0) (.int .u64 d1) (.int .u64 d2) (.int .u64 d3))).1
  obtain ⟨h0,h1,h2,h3⟩:=h4
  simp [results,Tryz.results162,go_sem,clsV,h0,h1,h2,h3]
 ·refine ⟨d0,d1,d2,d3,rfl,by rw [HD.out,HX.out],?_⟩
  exact below_set4 HB1.out (by omega) _ _ _ _
theorem Not_any (a0 a1 a2 a3 : Nat) (w : World) (ha : okC (a0,a1,a2,a3)) :
 Calls Tryz.prog 116 #[.agg #[.int .u64 (a0 : Int),.int .u64 (a1 : Int),.int .u64 (a2 : Int),.int .u64 (a3 : Int)]] w (ClsIs (notC (a0,a1,a2,a3)) w):=by
 have HC:=hid fun W => each_not a0 a1 a2 a3 a0 a1 a2 a3 W ha ha
 have HX : Hid (((18446744073709551615 - a0),(18446744073709551615 - a1),(18446744073709551615 - a2),(18446744073709551615 - a3)) = notC (a0,a1,a2,a3)):=hid rfl
 clear ha
 go_enter Tryz.func116,Tryz.ntmps116
 go_wp2_with (go_at_call 137;refine (HC.out _).mono ?_;rintro e w1 ⟨d0,d1,d2,d3,rfl,hd,hb1⟩;have HD:=hid hd;have HK:=hid ((Blk.new2 _ _ _ _).kept hb1);have HB1:=hid ((below2 _ _ _).trans (hb1.mono (size2 _ _ _)));clear hd hb1 HC;obtain ⟨⟨x0,x1,x2,x3⟩,y0,y1,y2,y3⟩:=Blk4 HK.out)
 refine bodyPost_ret (v:=clsV (d0,d1,d2,d3)) ?_ rfl ?_
 ·have h4:=(Blk4 (Blk4_set HK.out (.int .u64 d0) (.int .u64 d1) (.int .u64 d2) (.int .u64 d3))).1
  obtain ⟨h0,h1,h2,h3⟩:=h4
  simp [results,Tryz.results116,go_sem,clsV,h0,h1,h2,h3]
 ·refine ⟨d0,d1,d2,d3,rfl,by rw [HD.out,HX.out],?_⟩
  exact below_set4 HB1.out (by omega) _ _ _ _
theorem Dot_any (w : World) : Calls Tryz.prog 84 #[] w (ClsIs dotC w):=by
 have HO:=hid fun W => Of_any ⟨#[10]⟩ W (by decide)
 have HOK : Hid (∀ c0 c1 c2 c3,(c0,c1,c2,c3) = ofL [10] zc → okC (c0,c1,c2,c3)):=hid (by rintro c0 c1 c2 c3 h;rw [h];exact okC_ofL _ _ okC_zc)
 go_enter Tryz.func84,Tryz.ntmps84
 go_wp2_with (first
  | (go_at_call 15;refine (HO.out _).mono ?_;clear HO;rintro e w1 ⟨c0,c1,c2,c3,rfl,hc,hb1⟩;have HOC:=hid hc;have HK:=hid ((Blk.new _ _ _).kept hb1);have HB1:=hid (((Below.refl _ _).alloc (Nat.le_refl _) _).trans (hb1.mono (by simp)));clear hc hb1)
  | (go_at_call 116;refine (Not_any c0 c1 c2 c3 _ (HOK.out _ _ _ _ HOC.out)).mono ?_;rintro e w2 ⟨d0,d1,d2,d3,rfl,hd,hb2⟩;have HD:=hid hd;have HK2:=hid (HK.out.kept hb2);have HB2:=hid (HB1.out.trans (hb2.mono HB1.out.size));clear hd hb2;obtain ⟨⟨x0,x1,x2,x3⟩,y0,y1,y2,y3⟩:=Blk4 HK2.out))
 refine bodyPost_ret (v:=clsV (d0,d1,d2,d3)) ?_ rfl ?_
 ·have h4:=(Blk4 (Blk4_set HK2.out (.int .u64 d0) (.int .u64 d1) (.int .u64 d2) (.int .u64 d3))).1
  obtain ⟨h0,h1,h2,h3⟩:=h4
  simp [results,Tryz.results84,go_sem,clsV,h0,h1,h2,h3]
 ·refine ⟨d0,d1,d2,d3,rfl,by rw [HD.out,HOC.out];rfl,?_⟩
  exact below_set4 HB2.out (Nat.le_refl _) _ _ _ _
end Go.Proofs.YthcahjnniendnacGreatDoor
