/-
  ClsC, ClsB, ClsD, ClsT.
-/
import Derived.Test.YthhcpbfgoofppaaGreatDoorGPl
import Derived.Test.YthhcpbfgoofppaaGreatDoorGRex
import Derived.Test.YthhcpbfgoofppaaGreatDoorGSh
import Derived.BigQuiet
import Derived.Laws.Runes
set_option linter.unusedVariables false
set_option linter.unusedSimpArgs false
set_option maxRecDepth 100000
set_option maxHeartbeats 8000000
open Go.Lib (hid)
namespace Go.Proofs.YthhcpbfgoofppaaGreatDoor
open Go.RowKit Wf
theorem Blk.new2 (w : World) (o : Obj) (t : TypeId) (cs : Array Value) : Blk ((w.alloc o).alloc (.cells cs t)) (w.heap.size + 1) t cs:=by
 have h:=Blk.new (w.alloc o) t cs
 simpa using h
theorem Blk.new3 (w : World) (o o' : Obj) (t : TypeId) (cs : Array Value) : Blk (((w.alloc o).alloc o').alloc (.cells cs t)) (w.heap.size + 1 + 1) t cs:=by
 have h:=Blk.new ((w.alloc o).alloc o') t cs
 simpa using h
theorem below2 (w : World) (o o' : Obj) : Below w.heap.size w ((w.alloc o).alloc o'):=((Below.refl _ _).alloc (Nat.le_refl _) _).alloc (by simp) _
theorem below3 (w : World) (o o' o'' : Obj) : Below w.heap.size w (((w.alloc o).alloc o').alloc o''):=(below2 w o o').alloc (by simp;omega) _
theorem size2 (w : World) (o o' : Obj) : w.heap.size ≤ ((w.alloc o).alloc o').heap.size:=by simp;omega
theorem size3 (w : World) (o o' o'' : Obj) : w.heap.size ≤ (((w.alloc o).alloc o').alloc o'').heap.size:=by simp;omega
theorem below_set4 {w w' : World} {g : Nat} (h : Below w.heap.size w w') (hg : w.heap.size ≤ g) (a b c d : Value) : Below w.heap.size w ((((w'.setCell ⟨g,0,none⟩ a).setCell ⟨g,1,none⟩ b).setCell ⟨g,2,none⟩ c).setCell ⟨g,3,none⟩ d) :=
 (((h.setCell hg _).setCell hg _).setCell hg _).setCell hg _
theorem and_85 (a : Nat) (ha : a < 18446744073709551616) : bits .and .u64 (a : Int) 6148914691236517205 = ((a &&& 6148914691236517205 : Nat) : Int):=u64_and_nat a 6148914691236517205 ha (by decide)
theorem and_51 (a : Nat) (ha : a < 18446744073709551616) : bits .and .u64 (a : Int) 3689348814741910323 = ((a &&& 3689348814741910323 : Nat) : Int):=u64_and_nat a 3689348814741910323 ha (by decide)
theorem and_15 (a : Nat) (ha : a < 18446744073709551616) : bits .and .u64 (a : Int) 1085102592571150095 = ((a &&& 1085102592571150095 : Nat) : Int):=u64_and_nat a 1085102592571150095 ha (by decide)
theorem w64 {a : Int} {n : Nat} (h : a = (n : Int)) (hn : n < 18446744073709551616) : IntKind.u64.wrap a = (n : Int):=by
 rw [IntKind.wrap_u64,h];omega
theorem and127 {x p : Nat} (h : x % 128 = p) (hx : x < 18446744073709551616) : bits .and .i64 (wrap64 (x : Int)) 127 = (p : Int):=by
 rw [i64_and127,wrap64];omega
theorem half_cast (x : Nat) : ((x : Int) / 2) = ((x / 2 : Nat) : Int):=by omega
theorem quart_cast (x : Nat) : ((x : Int) / 4) = ((x / 4 : Nat) : Int):=by omega
theorem sh_cast {x y k : Nat} (h : y = x + x / k) : (x : Int) + (x : Int) / (k : Int) = (y : Int):=by
 rw [h];simp
theorem sh16_cast (x : Nat) : (x : Int) / 16 + (x : Int) = ((x / 16 + x : Nat) : Int):=by omega
theorem ones_any (x : Nat) (w : World) (hx : x < 18446744073709551616) : Calls Tryz.prog 177 #[.int .u64 (x : Int)] w (fun e w' => e = .returned (.int .i64 (popN 64 x : Nat)) ∧ w' = w):=by
 obtain ⟨x1,h1⟩ : ∃ x1,x1 = ((x / 2) &&& 6148914691236517205) + (x &&& 6148914691236517205):=⟨_,rfl⟩
 obtain ⟨x2,h2⟩ : ∃ x2,x2 = ((x1 / 4) &&& 3689348814741910323) + (x1 &&& 3689348814741910323):=⟨_,rfl⟩
 obtain ⟨x3,h3⟩ : ∃ x3,x3 = (x2 / 16 + x2) &&& 1085102592571150095:=⟨_,rfl⟩
 obtain ⟨x4,h4⟩ : ∃ x4,x4 = x3 + x3 / 256:=⟨_,rfl⟩
 obtain ⟨x5,h5⟩ : ∃ x5,x5 = x4 + x4 / 65536:=⟨_,rfl⟩
 obtain ⟨x6,h6⟩ : ∃ x6,x6 = x5 + x5 / 4294967296:=⟨_,rfl⟩
 obtain ⟨hp,l1,l2,l4,l5,l6⟩:=onesCount64 x x1 x2 x3 x4 x5 x6 h1 h2 h3 h4 h5 h6
 generalize popN 64 x = p at *
 have l3 : x3 ≤ x4:=by omega
 have k1 : x / 2 < 18446744073709551616:=by omega
 have k2 : x1 / 4 < 18446744073709551616:=by omega
 have k3 : x1 < 18446744073709551616:=by omega
 have k4 : x2 < 18446744073709551616:=by omega
 have E1 : IntKind.u64.wrap (bits .and .u64 ((x : Int) / 2) 6148914691236517205 + bits .and .u64 (x : Int) 6148914691236517205) = (x1 : Int):=by
  rw [half_cast,and_85 _ k1,and_85 _ hx];exact w64 (by rw [h1,Int.natCast_add]) k3
 have E2 : IntKind.u64.wrap (bits .and .u64 ((x1 : Int) / 4) 3689348814741910323 + bits .and .u64 (x1 : Int) 3689348814741910323) = (x2 : Int):=by
  rw [quart_cast,and_51 _ k2,and_51 _ k3];exact w64 (by rw [h2,Int.natCast_add]) k4
 have E3 : bits .and .u64 (IntKind.u64.wrap ((x2 : Int) / 16 + (x2 : Int))) 1085102592571150095 = (x3 : Int):=by
  rw [w64 (sh16_cast x2) l2,and_15 _ l2,← h3]
 have E4 : IntKind.u64.wrap ((x3 : Int) + (x3 : Int) / 256) = (x4 : Int):=w64 (sh_cast h4) l4
 have E5 : IntKind.u64.wrap ((x4 : Int) + (x4 : Int) / 65536) = (x5 : Int):=w64 (sh_cast h5) l5
 have E6 : IntKind.u64.wrap ((x5 : Int) + (x5 : Int) / 4294967296) = (x6 : Int):=w64 (sh_cast h6) l6
 have E7 : bits .and .i64 (wrap64 (x6 : Int)) 127 = (p : Int):=and127 hp l6
 clear h1 h2 h3 h4 h5 h6 hp l1 l2 l3 l4 l5 l6 k1 k2 k3 k4
 have G1:=hid E1
 have G2:=hid E2
 have G3:=hid E3
 have G4:=hid E4
 have G5:=hid E5
 have G6:=hid E6
 have G7:=hid E7
 clear E1 E2 E3 E4 E5 E6 E7
 go_enter Tryz.func177,Tryz.ntmps177
 go_wp2
 refine bodyPost_ret (v:=.int .i64 (p : Int)) ?_ rfl ⟨rfl,rfl⟩
 simp [results,Tryz.results177,go_sem,G1.out,G2.out,G3.out,G4.out,G5.out,G6.out,G7.out]
def NatIs (n : Nat) (w : World) (e : Ending) (w' : World) : Prop:=∃ m : Nat,e = .returned (.int .i64 (m : Int)) ∧ m = n ∧ Below w.heap.size w w'
def cntTo (c : Cls) : Nat → Nat
 | 0 => 0
 | k + 1 => cntTo c k + popN 64 (word c k)
theorem run_idx (c0 c1 c2 c3 k : Nat) (w : World) (hk : k < 4) : (Instr.index 112 (.agg #[.int .u64 (c0 : Int),.int .u64 (c1 : Int),.int .u64 (c2 : Int),.int .u64 (c3 : Int)]) (.int .i64 (k : Int))).run Tryz.prog w = .ok (.int .u64 (word (c0,c1,c2,c3) k : Int)) w:=by
 match k,hk with
 | 0,_ => simp [Instr.index,asIntOf,run_underlying Tryz.underlying112,go_sem,word]
 | 1,_ => simp [Instr.index,asIntOf,run_underlying Tryz.underlying112,go_sem,word]
 | 2,_ => simp [Instr.index,asIntOf,run_underlying Tryz.underlying112,go_sem,word]
 | 3,_ => simp [Instr.index,asIntOf,run_underlying Tryz.underlying112,go_sem,word]
theorem cntTo_all (c : Cls) : cntTo c 4 = cntC c:=by simp [cntTo,cntC,word]
theorem Many_any (c0 c1 c2 c3 : Nat) (w : World) (hok : okC (c0,c1,c2,c3)) :
 Calls Tryz.prog 151 #[.agg #[.int .u64 (c0 : Int),.int .u64 (c1 : Int),.int .u64 (c2 : Int),.int .u64 (c3 : Int)]] w (NatIs (cntC (c0,c1,c2,c3)) w):=by
 have HL:=hid (fun k => word_lt hok k)
 clear hok
 go_enter Tryz.func151,Tryz.ntmps151
 go_wp2
 go_loopw [3,7] (fun v3 v7 wr => ∃ k m : Nat,k ≤ 4 ∧ v7 = .int .i64 (k : Int) ∧ v3 = .int .i64 (m : Int) ∧ m ≤ 64 * k ∧ Hid (m = cntTo (c0,c1,c2,c3) k) ∧ Hid (Below w.heap.size w wr)) (fun _ i _ => 4 - (intOf i).toNat)
 case atStart => exact ⟨0,0,by omega,rfl,rfl,by omega,hid rfl,hid ((Below.refl _ _).alloc (Nat.le_refl _) _)⟩
 case round =>
  obtain ⟨k,m,hk,rfl,rfl,hm,HM,HB⟩:=hrel
  by_cases hlt : k < 4
  ·have hk0 : (0 : Int) ≤ (k : Int):=by omega
   have hk1 : (k : Int) < 4:=by omega
   have hget:=fun W => run_idx c0 c1 c2 c3 k W hlt
   have hwl:=HL.out k
   obtain ⟨p,hp,HP,HPL⟩ : ∃ p : Nat,p ≤ 64 ∧ Hid (cntTo (c0,c1,c2,c3) (k + 1) = cntTo (c0,c1,c2,c3) k + p) ∧ Hid (p = popN 64 (word (c0,c1,c2,c3) k)):=⟨_,popN_le 64 _,hid rfl,hid rfl⟩
   generalize hx : word (c0,c1,c2,c3) k = x at *
   have HC : Hid (∀ W,Calls Tryz.prog 177 #[.int .u64 (x : Int)] W (fun e w' => e = .returned (.int .i64 (p : Nat)) ∧ w' = W)):=hid fun W => by rw [HPL.out];exact ones_any x W hwl
   clear hx
   go_wp2_with (go_at_call 177;refine (HC.out _).mono ?_;rintro e w1 ⟨rfl,rfl⟩)
   go_roundw
   case rel => exact ⟨k + 1,m + p,by omega,by go_num,by go_num,by omega,hid (by rw [HP.out,HM.out]),HB⟩
   case measure => simp [intOf];omega
  ·obtain rfl : k = 4:=by omega
   have hd : decide ((4 : Int) < 4) = false:=by simp
   go_wp2
   go_ret
   exact ⟨m,rfl,by rw [HM.out,cntTo_all],HB.out⟩
def OnlyIs (c : Cls) (w : World) (e : Ending) (w' : World) : Prop :=
 (∃ b : Nat,e = .returned (.tuple #[.int .u8 (b : Int),.bool true]) ∧ cntC c = 1 ∧ b = least c 0 ∧ b < 256 ∧ Below w.heap.size w w') ∨
   (e = .returned (.tuple #[.int .u8 0,.bool false]) ∧ cntC c ≠ 1 ∧ Below w.heap.size w w')
theorem Only_any (c0 c1 c2 c3 : Nat) (w : World) (hok : okC (c0,c1,c2,c3)) :
 Calls Tryz.prog 114 #[.agg #[.int .u64 (c0 : Int),.int .u64 (c1 : Int),.int .u64 (c2 : Int),.int .u64 (c3 : Int)]] w (OnlyIs (c0,c1,c2,c3) w):=by
 have HM:=hid fun W => Many_any c0 c1 c2 c3 W hok
 have HH:=hid fun b W hb => Has_any c0 c1 c2 c3 b W hok hb
 clear hok
 by_cases h1 : cntC (c0,c1,c2,c3) = 1
 ·obtain ⟨hl,hhas⟩:=cnt_one_least h1
  have hpost : ∀ e w',(∃ b : Nat,e = .returned (.tuple #[.int .u8 (b : Int),.bool true]) ∧ b = least (c0,c1,c2,c3) 0 ∧ b < 256 ∧ Below w.heap.size w w') → OnlyIs (c0,c1,c2,c3) w e w':=by
   rintro e w' ⟨b,e1,e2,e3,e4⟩
   exact .inl ⟨b,e1,h1,e2,e3,e4⟩
  refine Calls.mono ?_ hpost
  have H1:=hid h1
  obtain ⟨g,hg⟩ : ∃ g,least (c0,c1,c2,c3) 0 = g:=⟨_,rfl⟩
  rw [hg] at hl hhas ⊢
  have HHAS:=hid hhas
  clear h1 hhas hpost hg
  go_enter Tryz.func114,Tryz.ntmps114
  go_wp2_with (go_at_call 151;refine (HM.out _).mono ?_;rintro e w1 ⟨m,rfl,hm,hb1⟩;have hm1 : (m : Int) = 1:=(by have:=H1.out;omega);have HB1:=hid hb1;clear hm hb1)
  have hblk:=(Blk.new w 112 #[.int .u64 (c0 : Int),.int .u64 (c1 : Int),.int .u64 (c2 : Int),.int .u64 (c3 : Int)]).kept HB1.out
  have hbw:=((Below.refl w.heap.size w).alloc (Nat.le_refl _) (.cells #[.int .u64 (c0 : Int),.int .u64 (c1 : Int),.int .u64 (c2 : Int),.int .u64 (c3 : Int)] 112)).trans (HB1.out.mono (by simp))
  have HBLK:=hid hblk
  have HBW:=hid hbw
  clear hblk hbw HB1
  go_loopw [4] (fun v4 wr => ∃ k : Nat,k ≤ g ∧ v4 = .int .i64 (k : Int) ∧ Hid (Blk wr w.heap.size 112 #[.int .u64 (c0 : Int),.int .u64 (c1 : Int),.int .u64 (c2 : Int),.int .u64 (c3 : Int)]) ∧ Hid (Below w.heap.size w wr)) (fun i _ => g - (intOf i).toNat)
  case atStart => exact ⟨0,by omega,rfl,HBLK,HBW⟩
  case round =>
   obtain ⟨k,hk,rfl,HB,HW⟩:=hrel
   obtain ⟨⟨x0,x1,x2,x3⟩,y0,y1,y2,y3⟩:=Blk4 HB.out
   have hsz:=HB.out.lt
   by_cases hlt : k < g
   ·have HF : Hid (has (c0,c1,c2,c3) k = false):=hid (by
     cases hh : has (c0,c1,c2,c3) k with
     | false => rfl
     | true => have:=(HHAS.out k (by omega)).1 hh;omega)
    go_wp2_with (go_at_call 140;refine (HH.out k _ (by omega)).mono ?_;rw [show HasIs (c0,c1,c2,c3) k wr = fun e w' => e = .returned (.bool false) ∧ Below wr.heap.size wr w' from by unfold HasIs;rw [HF.out]];rintro e w2 ⟨rfl,hb2⟩)
    go_roundw
    case rel => exact ⟨k + 1,by omega,by go_num,hid (HB.out.kept hb2),hid (HW.out.trans (hb2.mono (by omega)))⟩
    case measure => simp [intOf];omega
   ·obtain rfl : k = g:=by omega
    have HF : Hid (has (c0,c1,c2,c3) k = true):=hid ((HHAS.out k (by omega)).2 rfl)
    go_wp2_with (go_at_call 140;refine (HH.out k _ (by omega)).mono ?_;rw [show HasIs (c0,c1,c2,c3) k wr = fun e w' => e = .returned (.bool true) ∧ Below wr.heap.size wr w' from by unfold HasIs;rw [HF.out]];rintro e w2 ⟨rfl,hb2⟩)
    go_ret2
    exact ⟨k,rfl,rfl,hl,HW.out.trans (hb2.mono (by omega))⟩
 ·have hpost : ∀ e w',(e = .returned (.tuple #[.int .u8 0,.bool false]) ∧ Below w.heap.size w w') → OnlyIs (c0,c1,c2,c3) w e w':=by
   rintro e w' ⟨e1,e2⟩
   exact .inr ⟨e1,h1,e2⟩
  refine Calls.mono ?_ hpost
  have H1:=hid h1
  clear h1 hpost
  go_enter Tryz.func114,Tryz.ntmps114
  go_wp2_with (go_at_call 151;refine (HM.out _).mono ?_;rintro e w1 ⟨m,rfl,hm,hb1⟩;have hm1 : ((m : Int) != 1) = true:=bne_iff_ne.2 (by have:=H1.out;omega);have HB1:=hid hb1;clear hm hb1)
  all_goals
   go_ret2
   exact ⟨rfl,((Below.refl w.heap.size w).alloc (Nat.le_refl _) (.cells #[.int .u64 (c0 : Int),.int .u64 (c1 : Int),.int .u64 (c2 : Int),.int .u64 (c3 : Int)] 112)).trans (HB1.out.mono (by simp))⟩
def StrIs (l : List UInt8) (w : World) (e : Ending) (w' : World) : Prop:=∃ s : ByteArray,e = .returned (.string s) ∧ s.data.toList = l ∧ Below w.heap.size w w'
theorem hexT : ∀ b : Fin 256,(b.val < 32 ∨ 126 < b.val) → (ByteArray.mk #[92,120] ++ (ByteArray.mk #[48,49,50,51,52,53,54,55,56,57,97,98,99,100,101,102]).extract (b.val / 16) (b.val / 16 + 1) ++ (ByteArray.mk #[48,49,50,51,52,53,54,55,56,57,97,98,99,100,101,102]).extract (b.val % 16) (b.val % 16 + 1)).data.toList = byteT b.val:=by decide +kernel
theorem specIdx : ∀ b : Fin 256,(0 ≤ Lib.indexByte [92,46,91,93,40,41,124,42,43,63,94,36,45] (UInt8.ofNat b.val)) ↔ (UInt8.ofNat b.val ∈ specialL):=by decide +kernel
theorem enc_ascii (b : Nat) (h : b < 128) : Utf8.encode (b : Int) = ⟨#[UInt8.ofNat b]⟩:=by
 have hv : Utf8.valid (b : Int) = true:=by unfold Utf8.valid;simp;omega
 unfold Utf8.encode
 simp [hv,h]
theorem conv_rune (b : Nat) (w : World) (h : b < 128) : (convert 21 9 (.int .i32 (b : Int))).run Tryz.prog w = .ok (.string ⟨#[UInt8.ofNat b]⟩) w:=by
 rw [run_convert_int_string w _ _ _ _ (by rw [Tryz.underlying21];rfl) Tryz.underlying9,enc_ascii b h]
theorem sz_list (s : ByteArray) : s.size = s.data.toList.length:=by simp
theorem sz_byte {s : ByteArray} {b : Nat} (h : s.data.toList = byteT b) : s.size ≤ 4:=by
 rw [sz_list,h];exact (byteT_len b).1
theorem data_app (a b : ByteArray) : (a ++ b).data.toList = a.data.toList ++ b.data.toList:=by simp
theorem Byte_any (b : Nat) (w : World) (hb : b < 256) : Calls Tryz.prog 138 #[.int .u8 (b : Int)] w (StrIs (byteT b) w):=by
 by_cases h : b < 32 ∨ 126 < b
 ·have hd : (decide ((b : Int) < 32) || decide ((126 : Int) < (b : Int))) = true:=by simp;omega
  have h1 : (0 : Int) ≤ (b : Int) / 16:=by omega
  have h2 : (b : Int) / 16 < 16:=by omega
  have HT:=hid (hexT ⟨b,hb⟩ h)
  go_enter Tryz.func138,Tryz.ntmps138
  go_wp2_with fail
  all_goals go_quiet (fail)
  all_goals
   go_wp2
   go_ret
   exact ⟨_,rfl,HT.out,below_drewN (Below.refl _ _) _⟩
 ·have hd : (decide ((b : Int) < 32) || decide ((126 : Int) < (b : Int))) = false:=by simp;omega
  have hcv:=fun W => conv_rune b W (by omega)
  have HS:=hid (specIdx ⟨b,hb⟩)
  dsimp only at HS
  have HL : Hid (byteT b = if UInt8.ofNat b ∈ specialL then [92,UInt8.ofNat b] else [UInt8.ofNat b]):=hid (by unfold byteT;rw [if_neg h])
  go_enter Tryz.func138,Tryz.ntmps138
  go_wp2_with (go_at_call 170;refine (IndexByte_c _ _ _).mono ?_;rintro e w1 ⟨rfl,rfl⟩)
  ·have hs : 0 ≤ Lib.indexByte [92,46,91,93,40,41,124,42,43,63,94,36,45] (UInt8.ofNat b):=by assumption
   go_ret
   exact ⟨_,rfl,by rw [HL.out,if_pos (HS.out.1 hs),data_app];rfl,Below.refl _ _⟩
  ·have hs : Lib.indexByte [92,46,91,93,40,41,124,42,43,63,94,36,45] (UInt8.ofNat b) < 0:=by assumption
   go_ret
   exact ⟨_,rfl,by rw [HL.out,if_neg (fun hn => by have:=HS.out.2 hn;omega)],Below.refl _ _⟩
theorem run_any (lo hi : Nat) (w : World) (hl : lo ≤ hi) (hh : hi < 256) : Calls Tryz.prog 141 #[.int .i64 (lo : Int),.int .i64 (hi : Int)] w (StrIs (spT lo hi) w):=by
 have HL:=hid fun W => Byte_any lo W (by omega)
 have HH:=hid fun W => Byte_any hi W hh
 have HD : Hid (∀ s t : ByteArray,s.data.toList = byteT lo → t.data.toList = byteT hi → (hi = lo → s.data.toList = spT lo hi) ∧ (hi = lo + 1 → (s ++ t).data.toList = spT lo hi) ∧ (lo + 1 < hi → (s ++ ⟨#[45]⟩ ++ t).data.toList = spT lo hi)):=hid (by
  intro s t hs ht
  unfold spT
  refine ⟨fun h => ?_,fun h => ?_,fun h => ?_⟩
  ·rw [if_pos (by omega),hs]
  ·rw [if_neg (by omega),if_pos (by omega),data_app,hs,ht]
  ·rw [if_neg (by omega),if_neg (by omega),data_app,data_app,hs,ht])
 have i1 : (0 : Int) ≤ (lo : Int):=by omega
 have i2 : (lo : Int) < 256:=by omega
 have i3 : (0 : Int) ≤ (hi : Int):=by omega
 have i4 : (hi : Int) < 256:=by omega
 rcases (show hi = lo ∨ hi = lo + 1 ∨ lo + 1 < hi by omega) with hc | hc | hc
 ·have hne0 : ((hi : Int) - (lo : Int) == 0) = true:=beq_iff_eq.2 (by omega)
  have hne1 : ((hi : Int) - (lo : Int) == 1) = false:=beq_eq_false_iff_ne.2 (by omega)
  have HC:=hid hc
  clear hc
  go_enter Tryz.func141,Tryz.ntmps141
  go_wp2_with (first
   | (go_at_call 138;refine (HL.out _).mono ?_;clear HL;rintro e w1 ⟨s1,rfl,hs1,hb1⟩;have hz1:=sz_byte hs1;have HS1:=hid hs1;have HB1:=hid hb1;clear hs1 hb1)
   | (go_at_call 138;refine (HH.out _).mono ?_;clear HH;rintro e w2 ⟨s2,rfl,hs2,hb2⟩;have hz2:=sz_byte hs2;have HS2:=hid hs2;have HB2:=hid hb2;clear hs2 hb2))
  go_ret
  exact ⟨_,rfl,(HD.out _ _ HS1.out HS2.out).1 HC.out,HB1.out.trans (HB2.out.mono HB1.out.size)⟩
 ·have hne0 : ((hi : Int) - (lo : Int) == 0) = false:=beq_eq_false_iff_ne.2 (by omega)
  have hne1 : ((hi : Int) - (lo : Int) == 1) = true:=beq_iff_eq.2 (by omega)
  have HC:=hid hc
  clear hc
  go_enter Tryz.func141,Tryz.ntmps141
  go_wp2_with (first
   | (go_at_call 138;refine (HL.out _).mono ?_;clear HL;rintro e w1 ⟨s1,rfl,hs1,hb1⟩;have hz1:=sz_byte hs1;have HS1:=hid hs1;have HB1:=hid hb1;clear hs1 hb1)
   | (go_at_call 138;refine (HH.out _).mono ?_;clear HH;rintro e w2 ⟨s2,rfl,hs2,hb2⟩;have hz2:=sz_byte hs2;have HS2:=hid hs2;have HB2:=hid hb2;clear hs2 hb2))
  go_ret
  exact ⟨_,rfl,(HD.out _ _ HS1.out HS2.out).2.1 HC.out,HB1.out.trans (HB2.out.mono HB1.out.size)⟩
 ·have hne0 : ((hi : Int) - (lo : Int) == 0) = false:=beq_eq_false_iff_ne.2 (by omega)
  have hne1 : ((hi : Int) - (lo : Int) == 1) = false:=beq_eq_false_iff_ne.2 (by omega)
  have HC:=hid hc
  clear hc
  go_enter Tryz.func141,Tryz.ntmps141
  go_wp2_with (first
   | (go_at_call 138;refine (HL.out _).mono ?_;clear HL;rintro e w1 ⟨s1,rfl,hs1,hb1⟩;have hz1:=sz_byte hs1;have HS1:=hid hs1;have HB1:=hid hb1;clear hs1 hb1)
   | (go_at_call 138;refine (HH.out _).mono ?_;clear HH;rintro e w2 ⟨s2,rfl,hs2,hb2⟩;have hz2:=sz_byte hs2;have HS2:=hid hs2;have HB2:=hid hb2;clear hs2 hb2))
  go_ret
  exact ⟨_,rfl,(HD.out _ _ HS1.out HS2.out).2.2 HC.out,HB1.out.trans (HB2.out.mono HB1.out.size)⟩
def U2Is (n : Nat) (w : World) (e : Ending) (w' : World) : Prop:=e = .returned (.int .u64 (n : Int)) ∧ w = w'
theorem not_nat (x : Nat) (hx : x < 18446744073709551616) : 18446744073709551615 ^^^ x = 18446744073709551615 - x:=by
 have h:=BitVec.toNat_not (x:=BitVec.ofNat 64 x)
 rw [BitVec.not_def,BitVec.toNat_xor] at h
 simp at h
 rw [Nat.mod_eq_of_lt (by omega)] at h
 exact h
theorem either1 (x y : Nat) (w : World) (hx : x < 18446744073709551616) (hy : y < 18446744073709551616) : Calls Tryz.prog 223 #[.int .u64 (x : Int),.int .u64 (y : Int)] w (U2Is (x ||| y) w):=by
 go_enter Tryz.func223,Tryz.ntmps223
 go_wp2
 go_ret
 refine ⟨?_,rfl⟩
 rw [← u64_or_nat x y hx hy]
 rfl
theorem not1 (x y : Nat) (w : World) (hx : x < 18446744073709551616) (hy : y < 18446744073709551616) : Calls Tryz.prog 195 #[.int .u64 (x : Int),.int .u64 (y : Int)] w (U2Is (18446744073709551615 - x) w):=by
 go_enter Tryz.func195,Tryz.ntmps195
 go_wp2
 go_ret
 refine ⟨?_,rfl⟩
 have e : bits .xor .u64 IntKind.u64.max (x : Int) = ((18446744073709551615 - x : Nat) : Int):=by
  rw [show IntKind.u64.max = ((18446744073709551615 : Nat) : Int) from rfl,u64_xor_nat _ _ (by decide) hx,not_nat x hx]
 rw [← e]
 rfl
theorem each_either (a0 a1 a2 a3 b0 b1 b2 b3 : Nat) (w : World) (ha : okC (a0,a1,a2,a3)) (hb : okC (b0,b1,b2,b3)) :
 Calls Tryz.prog 194 #[.agg #[.int .u64 (a0 : Int),.int .u64 (a1 : Int),.int .u64 (a2 : Int),.int .u64 (a3 : Int)],.agg #[.int .u64 (b0 : Int),.int .u64 (b1 : Int),.int .u64 (b2 : Int),.int .u64 (b3 : Int)],.func (.func 223) #[] #[]] w
  (ClsIs ((a0 ||| b0),(a1 ||| b1),(a2 ||| b2),(a3 ||| b3)) w):=by
 obtain ⟨ha0,ha1,ha2,ha3⟩:=ha
 obtain ⟨hb0,hb1,hb2,hb3⟩:=hb
 obtain ⟨r0,hr0⟩ : ∃ r,r = (a0 ||| b0):=⟨_,rfl⟩
 have hc0:=fun W => either1 a0 b0 W ha0 hb0
 rw [← hr0] at hc0 ⊢
 have HC0:=hid hc0
 clear hc0 hr0
 obtain ⟨r1,hr1⟩ : ∃ r,r = (a1 ||| b1):=⟨_,rfl⟩
 have hc1:=fun W => either1 a1 b1 W ha1 hb1
 rw [← hr1] at hc1 ⊢
 have HC1:=hid hc1
 clear hc1 hr1
 obtain ⟨r2,hr2⟩ : ∃ r,r = (a2 ||| b2):=⟨_,rfl⟩
 have hc2:=fun W => either1 a2 b2 W ha2 hb2
 rw [← hr2] at hc2 ⊢
 have HC2:=hid hc2
 clear hc2 hr2
 obtain ⟨r3,hr3⟩ : ∃ r,r = (a3 ||| b3):=⟨_,rfl⟩
 have hc3:=fun W => either1 a3 b3 W ha3 hb3
 rw [← hr3] at hc3 ⊢
 have HC3:=hid hc3
 clear hc3 hr3
 have hA:=((Blk.new w 112 #[.int .u64 (a0 : Int),.int .u64 (a1 : Int),.int .u64 (a2 : Int),.int .u64 (a3 : Int)]).kept ((Below.refl _ _).alloc (Nat.le_refl _) (.cells #[.int .u64 (b0 : Int),.int .u64 (b1 : Int),.int .u64 (b2 : Int),.int .u64 (b3 : Int)] 112))).kept ((Below.refl _ _).alloc (Nat.le_refl _) (.cells #[.int .u64 0,.int .u64 0,.int .u64 0,.int .u64 0] 112))
 have hB:=(Blk.new (w.alloc (.cells #[.int .u64 (a0 : Int),.int .u64 (a1 : Int),.int .u64 (a2 : Int),.int .u64 (a3 : Int)] 112)) 112 #[.int .u64 (b0 : Int),.int .u64 (b1 : Int),.int .u64 (b2 : Int),.int .u64 (b3 : Int)]).kept ((Below.refl _ _).alloc (Nat.le_refl _) (.cells #[.int .u64 0,.int .u64 0,.int .u64 0,.int .u64 0] 112))
 have hZ:=Blk.new ((w.alloc (.cells #[.int .u64 (a0 : Int),.int .u64 (a1 : Int),.int .u64 (a2 : Int),.int .u64 (a3 : Int)] 112)).alloc (.cells #[.int .u64 (b0 : Int),.int .u64 (b1 : Int),.int .u64 (b2 : Int),.int .u64 (b3 : Int)] 112)) 112 #[.int .u64 0,.int .u64 0,.int .u64 0,.int .u64 0]
 have hsz1 : (w.alloc (.cells #[.int .u64 (a0 : Int),.int .u64 (a1 : Int),.int .u64 (a2 : Int),.int .u64 (a3 : Int)] 112)).heap.size = w.heap.size + 1:=by simp
 have hsz2 : ((w.alloc (.cells #[.int .u64 (a0 : Int),.int .u64 (a1 : Int),.int .u64 (a2 : Int),.int .u64 (a3 : Int)] 112)).alloc (.cells #[.int .u64 (b0 : Int),.int .u64 (b1 : Int),.int .u64 (b2 : Int),.int .u64 (b3 : Int)] 112)).heap.size = w.heap.size + 1 + 1:=by simp
 rw [hsz1] at hB
 rw [hsz2] at hZ
 have HA:=hid hA
 have HB:=hid hB
 have HZ:=hid hZ
 have HBL : Hid (∀ o o' o'' : Obj,Below w.heap.size w (((w.alloc o).alloc o').alloc o'')):=hid fun o o' o'' => (((Below.refl _ _).alloc (Nat.le_refl _) _).alloc (by simp) _).alloc (by simp;omega) _
 clear hA hB hZ hsz1 hsz2
 go_enter Tryz.func194,Tryz.ntmps194
 go_wp2
 go_loopw [8] (fun v8 wr => ∃ (k c0 c1 c2 c3 : Nat),k ≤ 4 ∧ v8 = .int .i64 (k : Int) ∧ Hid (c0 = (if 0 < k then r0 else a0) ∧ c1 = (if 1 < k then r1 else a1) ∧ c2 = (if 2 < k then r2 else a2) ∧ c3 = (if 3 < k then r3 else a3)) ∧
  Hid (Blk wr w.heap.size 112 #[.int .u64 (c0 : Int),.int .u64 (c1 : Int),.int .u64 (c2 : Int),.int .u64 (c3 : Int)]) ∧ Hid (Blk wr (w.heap.size + 1) 112 #[.int .u64 (b0 : Int),.int .u64 (b1 : Int),.int .u64 (b2 : Int),.int .u64 (b3 : Int)]) ∧ Hid (Blk wr (w.heap.size + 1 + 1) 112 #[.int .u64 0,.int .u64 0,.int .u64 0,.int .u64 0]) ∧ Hid (Below w.heap.size w wr)) (fun i _ => 4 - (intOf i).toNat)
 case atStart => exact ⟨0,a0,a1,a2,a3,by omega,rfl,hid ⟨rfl,rfl,rfl,rfl⟩,HA,HB,HZ,hid (HBL.out _ _ _)⟩
 case round =>
  obtain ⟨k,c0,c1,c2,c3,hk,rfl,hc,hA,hB,hZ,hbl⟩:=hrel
  have hcc:=hc.out
  have h4 : k = 0 ∨ k = 1 ∨ k = 2 ∨ k = 3 ∨ k = 4:=by omega
  clear hc
  obtain ⟨⟨x0,x1,x2,x3⟩,y0,y1,y2,y3⟩:=Blk4 hA.out
  obtain ⟨⟨z0,z1,z2,z3⟩,_⟩:=Blk4 hB.out
  obtain ⟨⟨t0,t1,t2,t3⟩,u0,u1,u2,u3⟩:=Blk4 hZ.out
  rcases h4 with rfl | rfl | rfl | rfl | rfl
  ·have hq : c0 = a0 ∧ c1 = a1 ∧ c2 = a2 ∧ c3 = a3:=by simpa using hcc
   obtain rfl:=hq.1.symm
   obtain rfl:=hq.2.1.symm
   obtain rfl:=hq.2.2.1.symm
   obtain rfl:=hq.2.2.2.symm
   clear hq
   clear hcc
   go_wp2_with fail
   go_region_with (first
    | (go_at_call 223;refine (HC0.out _).mono ?_;rintro e w1 ⟨rfl,rfl⟩))
   all_goals (
    go_wp2
    go_roundw
    case rel =>
     refine ⟨1,r0,a1,a2,a3,by omega,by first | rfl | go_num,hid (by simp),hid ?_,hid ?_,hid ?_,hid ?_⟩
     ·exact hA.out.drew.set_ 0 _
     ·exact (hB.out.drew).far (by show _ ≠ w.heap.size;omega) _
     ·exact (hZ.out.drew).far (by show _ ≠ w.heap.size;omega) _
     ·exact hbl.out.drew.setCell (Nat.le_refl _) _
    case measure => simp [intOf])
  ·have hq : c0 = r0 ∧ c1 = a1 ∧ c2 = a2 ∧ c3 = a3:=by simpa using hcc
   obtain rfl:=hq.1.symm
   obtain rfl:=hq.2.1.symm
   obtain rfl:=hq.2.2.1.symm
   obtain rfl:=hq.2.2.2.symm
   clear hq
   clear hcc
   go_wp2_with fail
   go_region_with (first
    | (go_at_call 223;refine (HC1.out _).mono ?_;rintro e w1 ⟨rfl,rfl⟩))
   all_goals (
    go_wp2
    go_roundw
    case rel =>
     refine ⟨2,r0,r1,a2,a3,by omega,by first | rfl | go_num,hid (by simp),hid ?_,hid ?_,hid ?_,hid ?_⟩
     ·exact hA.out.drew.set_ 1 _
     ·exact (hB.out.drew).far (by show _ ≠ w.heap.size;omega) _
     ·exact (hZ.out.drew).far (by show _ ≠ w.heap.size;omega) _
     ·exact hbl.out.drew.setCell (Nat.le_refl _) _
    case measure => simp [intOf])
  ·have hq : c0 = r0 ∧ c1 = r1 ∧ c2 = a2 ∧ c3 = a3:=by simpa using hcc
   obtain rfl:=hq.1.symm
   obtain rfl:=hq.2.1.symm
   obtain rfl:=hq.2.2.1.symm
   obtain rfl:=hq.2.2.2.symm
   clear hq
   clear hcc
   go_wp2_with fail
   go_region_with (first
    | (go_at_call 223;refine (HC2.out _).mono ?_;rintro e w1 ⟨rfl,rfl⟩))
   all_goals (
    go_wp2
    go_roundw
    case rel =>
     refine ⟨3,r0,r1,r2,a3,by omega,by first | rfl | go_num,hid (by simp),hid ?_,hid ?_,hid ?_,hid ?_⟩
     ·exact hA.out.drew.set_ 2 _
     ·exact (hB.out.drew).far (by show _ ≠ w.heap.size;omega) _
     ·exact (hZ.out.drew).far (by show _ ≠ w.heap.size;omega) _
     ·exact hbl.out.drew.setCell (Nat.le_refl _) _
    case measure => simp [intOf])
  ·have hq : c0 = r0 ∧ c1 = r1 ∧ c2 = r2 ∧ c3 = a3:=by simpa using hcc
   obtain rfl:=hq.1.symm
   obtain rfl:=hq.2.1.symm
   obtain rfl:=hq.2.2.1.symm
   obtain rfl:=hq.2.2.2.symm
   clear hq
   clear hcc
   go_wp2_with fail
   go_region_with (first
    | (go_at_call 223;refine (HC3.out _).mono ?_;rintro e w1 ⟨rfl,rfl⟩))
   all_goals (
    go_wp2
    go_roundw
    case rel =>
     refine ⟨4,r0,r1,r2,r3,by omega,by first | rfl | go_num,hid (by simp),hid ?_,hid ?_,hid ?_,hid ?_⟩
     ·exact hA.out.drew.set_ 3 _
     ·exact (hB.out.drew).far (by show _ ≠ w.heap.size;omega) _
     ·exact (hZ.out.drew).far (by show _ ≠ w.heap.size;omega) _
     ·exact hbl.out.drew.setCell (Nat.le_refl _) _
    case measure => simp [intOf])
  ·have hq : c0 = r0 ∧ c1 = r1 ∧ c2 = r2 ∧ c3 = r3:=by simpa using hcc
   obtain rfl:=hq.1.symm
   obtain rfl:=hq.2.1.symm
   obtain rfl:=hq.2.2.1.symm
   obtain rfl:=hq.2.2.2.symm
   clear hq hcc
   go_wp2
   refine bodyPost_ret (v:=clsV (r0,r1,r2,r3)) ?_ rfl (ClsIs.of ?_)
   ·have h4:=(Blk4 (Blk4_set hZ.out (.int .u64 r0) (.int .u64 r1) (.int .u64 r2) (.int .u64 r3))).1
    obtain ⟨h0,h1,h2,h3⟩:=h4
    simp [results,Tryz.results194,go_sem,clsV,h0,h1,h2,h3]
   ·have hle : w.heap.size ≤ w.heap.size + 1 + 1:=by omega
    exact (((hbl.out.setCell hle _).setCell hle _).setCell hle _).setCell hle _
theorem each_not (a0 a1 a2 a3 b0 b1 b2 b3 : Nat) (w : World) (ha : okC (a0,a1,a2,a3)) (hb : okC (b0,b1,b2,b3)) :
 Calls Tryz.prog 194 #[.agg #[.int .u64 (a0 : Int),.int .u64 (a1 : Int),.int .u64 (a2 : Int),.int .u64 (a3 : Int)],.agg #[.int .u64 (b0 : Int),.int .u64 (b1 : Int),.int .u64 (b2 : Int),.int .u64 (b3 : Int)],.func (.func 195) #[] #[]] w
  (ClsIs ((18446744073709551615 - a0),(18446744073709551615 - a1),(18446744073709551615 - a2),(18446744073709551615 - a3)) w):=by
 obtain ⟨ha0,ha1,ha2,ha3⟩:=ha
 obtain ⟨hb0,hb1,hb2,hb3⟩:=hb
 obtain ⟨r0,hr0⟩ : ∃ r,r = (18446744073709551615 - a0):=⟨_,rfl⟩
 have hc0:=fun W => not1 a0 b0 W ha0 hb0
 rw [← hr0] at hc0 ⊢
 have HC0:=hid hc0
 clear hc0 hr0
 obtain ⟨r1,hr1⟩ : ∃ r,r = (18446744073709551615 - a1):=⟨_,rfl⟩
 have hc1:=fun W => not1 a1 b1 W ha1 hb1
 rw [← hr1] at hc1 ⊢
 have HC1:=hid hc1
 clear hc1 hr1
 obtain ⟨r2,hr2⟩ : ∃ r,r = (18446744073709551615 - a2):=⟨_,rfl⟩
 have hc2:=fun W => not1 a2 b2 W ha2 hb2
 rw [← hr2] at hc2 ⊢
 have HC2:=hid hc2
 clear hc2 hr2
 obtain ⟨r3,hr3⟩ : ∃ r,r = (18446744073709551615 - a3):=⟨_,rfl⟩
 have hc3:=fun W => not1 a3 b3 W ha3 hb3
 rw [← hr3] at hc3 ⊢
 have HC3:=hid hc3
 clear hc3 hr3
 have hA:=((Blk.new w 112 #[.int .u64 (a0 : Int),.int .u64 (a1 : Int),.int .u64 (a2 : Int),.int .u64 (a3 : Int)]).kept ((Below.refl _ _).alloc (Nat.le_refl _) (.cells #[.int .u64 (b0 : Int),.int .u64 (b1 : Int),.int .u64 (b2 : Int),.int .u64 (b3 : Int)] 112))).kept ((Below.refl _ _).alloc (Nat.le_refl _) (.cells #[.int .u64 0,.int .u64 0,.int .u64 0,.int .u64 0] 112))
 have hB:=(Blk.new (w.alloc (.cells #[.int .u64 (a0 : Int),.int .u64 (a1 : Int),.int .u64 (a2 : Int),.int .u64 (a3 : Int)] 112)) 112 #[.int .u64 (b0 : Int),.int .u64 (b1 : Int),.int .u64 (b2 : Int),.int .u64 (b3 : Int)]).kept ((Below.refl _ _).alloc (Nat.le_refl _) (.cells #[.int .u64 0,.int .u64 0,.int .u64 0,.int .u64 0] 112))
 have hZ:=Blk.new ((w.alloc (.cells #[.int .u64 (a0 : Int),.int .u64 (a1 : Int),.int .u64 (a2 : Int),.int .u64 (a3 : Int)] 112)).alloc (.cells #[.int .u64 (b0 : Int),.int .u64 (b1 : Int),.int .u64 (b2 : Int),.int .u64 (b3 : Int)] 112)) 112 #[.int .u64 0,.int .u64 0,.int .u64 0,.int .u64 0]
 have hsz1 : (w.alloc (.cells #[.int .u64 (a0 : Int),.int .u64 (a1 : Int),.int .u64 (a2 : Int),.int .u64 (a3 : Int)] 112)).heap.size = w.heap.size + 1:=by simp
 have hsz2 : ((w.alloc (.cells #[.int .u64 (a0 : Int),.int .u64 (a1 : Int),.int .u64 (a2 : Int),.int .u64 (a3 : Int)] 112)).alloc (.cells #[.int .u64 (b0 : Int),.int .u64 (b1 : Int),.int .u64 (b2 : Int),.int .u64 (b3 : Int)] 112)).heap.size = w.heap.size + 1 + 1:=by simp
 rw [hsz1] at hB
 rw [hsz2] at hZ
 have HA:=hid hA
 have HB:=hid hB
 have HZ:=hid hZ
 have HBL : Hid (∀ o o' o'' : Obj,Below w.heap.size w (((w.alloc o).alloc o').alloc o'')):=hid fun o o' o'' => (((Below.refl _ _).alloc (Nat.le_refl _) _).alloc (by simp) _).alloc (by simp;omega) _
 clear hA hB hZ hsz1 hsz2
 go_enter Tryz.func194,Tryz.ntmps194
 go_wp2
 go_loopw [8] (fun v8 wr => ∃ (k c0 c1 c2 c3 : Nat),k ≤ 4 ∧ v8 = .int .i64 (k : Int) ∧ Hid (c0 = (if 0 < k then r0 else a0) ∧ c1 = (if 1 < k then r1 else a1) ∧ c2 = (if 2 < k then r2 else a2) ∧ c3 = (if 3 < k then r3 else a3)) ∧
  Hid (Blk wr w.heap.size 112 #[.int .u64 (c0 : Int),.int .u64 (c1 : Int),.int .u64 (c2 : Int),.int .u64 (c3 : Int)]) ∧ Hid (Blk wr (w.heap.size + 1) 112 #[.int .u64 (b0 : Int),.int .u64 (b1 : Int),.int .u64 (b2 : Int),.int .u64 (b3 : Int)]) ∧ Hid (Blk wr (w.heap.size + 1 + 1) 112 #[.int .u64 0,.int .u64 0,.int .u64 0,.int .u64 0]) ∧ Hid (Below w.heap.size w wr)) (fun i _ => 4 - (intOf i).toNat)
 case atStart => exact ⟨0,a0,a1,a2,a3,by omega,rfl,hid ⟨rfl,rfl,rfl,rfl⟩,HA,HB,HZ,hid (HBL.out _ _ _)⟩
 case round =>
  obtain ⟨k,c0,c1,c2,c3,hk,rfl,hc,hA,hB,hZ,hbl⟩:=hrel
  have hcc:=hc.out
  have h4 : k = 0 ∨ k = 1 ∨ k = 2 ∨ k = 3 ∨ k = 4:=by omega
  clear hc
  obtain ⟨⟨x0,x1,x2,x3⟩,y0,y1,y2,y3⟩:=Blk4 hA.out
  obtain ⟨⟨z0,z1,z2,z3⟩,_⟩:=Blk4 hB.out
  obtain ⟨⟨t0,t1,t2,t3⟩,u0,u1,u2,u3⟩:=Blk4 hZ.out
  rcases h4 with rfl | rfl | rfl | rfl | rfl
  ·have hq : c0 = a0 ∧ c1 = a1 ∧ c2 = a2 ∧ c3 = a3:=by simpa using hcc
   obtain rfl:=hq.1.symm
   obtain rfl:=hq.2.1.symm
   obtain rfl:=hq.2.2.1.symm
   obtain rfl:=hq.2.2.2.symm
   clear hq
   clear hcc
   go_wp2_with fail
   go_region_with (first
    | (go_at_call 195;refine (HC0.out _).mono ?_;rintro e w1 ⟨rfl,rfl⟩))
   all_goals (
    go_wp2
    go_roundw
    case rel =>
     refine ⟨1,r0,a1,a2,a3,by omega,by first | rfl | go_num,hid (by simp),hid ?_,hid ?_,hid ?_,hid ?_⟩
     ·exact hA.out.drew.set_ 0 _
     ·exact (hB.out.drew).far (by show _ ≠ w.heap.size;omega) _
     ·exact (hZ.out.drew).far (by show _ ≠ w.heap.size;omega) _
     ·exact hbl.out.drew.setCell (Nat.le_refl _) _
    case measure => simp [intOf])
  ·have hq : c0 = r0 ∧ c1 = a1 ∧ c2 = a2 ∧ c3 = a3:=by simpa using hcc
   obtain rfl:=hq.1.symm
   obtain rfl:=hq.2.1.symm
   obtain rfl:=hq.2.2.1.symm
   obtain rfl:=hq.2.2.2.symm
   clear hq
   clear hcc
   go_wp2_with fail
   go_region_with (first
    | (go_at_call 195;refine (HC1.out _).mono ?_;rintro e w1 ⟨rfl,rfl⟩))
   all_goals (
    go_wp2
    go_roundw
    case rel =>
     refine ⟨2,r0,r1,a2,a3,by omega,by first | rfl | go_num,hid (by simp),hid ?_,hid ?_,hid ?_,hid ?_⟩
     ·exact hA.out.drew.set_ 1 _
     ·exact (hB.out.drew).far (by show _ ≠ w.heap.size;omega) _
     ·exact (hZ.out.drew).far (by show _ ≠ w.heap.size;omega) _
     ·exact hbl.out.drew.setCell (Nat.le_refl _) _
    case measure => simp [intOf])
  ·have hq : c0 = r0 ∧ c1 = r1 ∧ c2 = a2 ∧ c3 = a3:=by simpa using hcc
   obtain rfl:=hq.1.symm
   obtain rfl:=hq.2.1.symm
   obtain rfl:=hq.2.2.1.symm
   obtain rfl:=hq.2.2.2.symm
   clear hq
   clear hcc
   go_wp2_with fail
   go_region_with (first
    | (go_at_call 195;refine (HC2.out _).mono ?_;rintro e w1 ⟨rfl,rfl⟩))
   all_goals (
    go_wp2
    go_roundw
    case rel =>
     refine ⟨3,r0,r1,r2,a3,by omega,by first | rfl | go_num,hid (by simp),hid ?_,hid ?_,hid ?_,hid ?_⟩
     ·exact hA.out.drew.set_ 2 _
     ·exact (hB.out.drew).far (by show _ ≠ w.heap.size;omega) _
     ·exact (hZ.out.drew).far (by show _ ≠ w.heap.size;omega) _
     ·exact hbl.out.drew.setCell (Nat.le_refl _) _
    case measure => simp [intOf])
  ·have hq : c0 = r0 ∧ c1 = r1 ∧ c2 = r2 ∧ c3 = a3:=by simpa using hcc
   obtain rfl:=hq.1.symm
   obtain rfl:=hq.2.1.symm
   obtain rfl:=hq.2.2.1.symm
   obtain rfl:=hq.2.2.2.symm
   clear hq
   clear hcc
   go_wp2_with fail
   go_region_with (first
    | (go_at_call 195;refine (HC3.out _).mono ?_;rintro e w1 ⟨rfl,rfl⟩))
   all_goals (
    go_wp2
    go_roundw
    case rel =>
     refine ⟨4,r0,r1,r2,r3,by omega,by first | rfl | go_num,hid (by simp),hid ?_,hid ?_,hid ?_,hid ?_⟩
     ·exact hA.out.drew.set_ 3 _
     ·exact (hB.out.drew).far (by show _ ≠ w.heap.size;omega) _
     ·exact (hZ.out.drew).far (by show _ ≠ w.heap.size;omega) _
     ·exact hbl.out.drew.setCell (Nat.le_refl _) _
    case measure => simp [intOf])
  ·have hq : c0 = r0 ∧ c1 = r1 ∧ c2 = r2 ∧ c3 = r3:=by simpa using hcc
   obtain rfl:=hq.1.symm
   obtain rfl:=hq.2.1.symm
   obtain rfl:=hq.2.2.1.symm
   obtain rfl:=hq.2.2.2.symm
   clear hq hcc
   go_wp2
   refine bodyPost_ret (v:=clsV (r0,r1,r2,r3)) ?_ rfl (ClsIs.of ?_)
   ·have h4:=(Blk4 (Blk4_set hZ.out (.int .u64 r0) (.int .u64 r1) (.int .u64 r2) (.int .u64 r3))).1
    obtain ⟨h0,h1,h2,h3⟩:=h4
    simp [results,Tryz.results194,go_sem,clsV,h0,h1,h2,h3]
   ·have hle : w.heap.size ≤ w.heap.size + 1 + 1:=by omega
    exact (((hbl.out.setCell hle _).setCell hle _).setCell hle _).setCell hle _
theorem Either_any (a0 a1 a2 a3 b0 b1 b2 b3 : Nat) (w : World) (ha : okC (a0,a1,a2,a3)) (hb : okC (b0,b1,b2,b3)) :
 Calls Tryz.prog 218 #[.agg #[.int .u64 (a0 : Int),.int .u64 (a1 : Int),.int .u64 (a2 : Int),.int .u64 (a3 : Int)],.agg #[.int .u64 (b0 : Int),.int .u64 (b1 : Int),.int .u64 (b2 : Int),.int .u64 (b3 : Int)]] w (ClsIs (eitherC (a0,a1,a2,a3) (b0,b1,b2,b3)) w):=by
 have HC:=hid fun W => each_either a0 a1 a2 a3 b0 b1 b2 b3 W ha hb
 have HX : Hid (((a0 ||| b0),(a1 ||| b1),(a2 ||| b2),(a3 ||| b3)) = eitherC (a0,a1,a2,a3) (b0,b1,b2,b3)):=hid rfl
 clear ha hb
 go_enter Tryz.func218,Tryz.ntmps218
 go_wp2_with (go_at_call 194;refine (HC.out _).mono ?_;rintro e w1 ⟨d0,d1,d2,d3,rfl,hd,hb1⟩;have HD:=hid hd;have HK:=hid ((Blk.new3 _ _ _ _ _).kept hb1);have HB1:=hid ((below3 _ _ _ _).trans (hb1.mono (size3 _ _ _ _)));clear hd hb1 HC;obtain ⟨⟨x0,x1,x2,x3⟩,y0,y1,y2,y3⟩:=Blk4 HK.out)
 refine bodyPost_ret (v:=clsV (d0,d1,d2,d3)) ?_ rfl ?_
 ·have h4:=(Blk4 (Blk4_set HK.out (.int .u64 d0) (.int .u64 d1) (.int .u64 d2) (.int .u64 d3))).1
  obtain ⟨h0,h1,h2,h3⟩:=h4
  simp [results,Tryz.results218,go_sem,clsV,h0,h1,h2,h3]
 ·refine ⟨d0,d1,d2,d3,rfl,by rw [HD.out,HX.out],?_⟩
  exact below_set4 HB1.out (by omega) _ _ _ _
theorem Not_any (a0 a1 a2 a3 : Nat) (w : World) (ha : okC (a0,a1,a2,a3)) :
 Calls Tryz.prog 171 #[.agg #[.int .u64 (a0 : Int),.int .u64 (a1 : Int),.int .u64 (a2 : Int),.int .u64 (a3 : Int)]] w (ClsIs (notC (a0,a1,a2,a3)) w):=by
 have HC:=hid fun W => each_not a0 a1 a2 a3 a0 a1 a2 a3 W ha ha
 have HX : Hid (((18446744073709551615 - a0),(18446744073709551615 - a1),(18446744073709551615 - a2),(18446744073709551615 - a3)) = notC (a0,a1,a2,a3)):=hid rfl
 clear ha
 go_enter Tryz.func171,Tryz.ntmps171
 go_wp2_with (go_at_call 194;refine (HC.out _).mono ?_;rintro e w1 ⟨d0,d1,d2,d3,rfl,hd,hb1⟩;have HD:=hid hd;have HK:=hid ((Blk.new2 _ _ _ _).kept hb1);have HB1:=hid ((below2 _ _ _).trans (hb1.mono (size2 _ _ _)));clear hd hb1 HC;obtain ⟨⟨x0,x1,x2,x3⟩,y0,y1,y2,y3⟩:=Blk4 HK.out)
 refine bodyPost_ret (v:=clsV (d0,d1,d2,d3)) ?_ rfl ?_
 ·have h4:=(Blk4 (Blk4_set HK.out (.int .u64 d0) (.int .u64 d1) (.int .u64 d2) (.int .u64 d3))).1
  obtain ⟨h0,h1,h2,h3⟩:=h4
  simp [results,Tryz.results171,go_sem,clsV,h0,h1,h2,h3]
 ·refine ⟨d0,d1,d2,d3,rfl,by rw [HD.out,HX.out],?_⟩
  exact below_set4 HB1.out (by omega) _ _ _ _
theorem Dot_any (w : World) : Calls Tryz.prog 139 #[] w (ClsIs dotC w):=by
 have HO:=hid fun W => Of_any ⟨#[10]⟩ W (by decide)
 have HOK : Hid (∀ c0 c1 c2 c3,(c0,c1,c2,c3) = ofL [10] zc → okC (c0,c1,c2,c3)):=hid (by rintro c0 c1 c2 c3 h;rw [h];exact okC_ofL _ _ okC_zc)
 go_enter Tryz.func139,Tryz.ntmps139
 go_wp2_with (first
  | (go_at_call 172;refine (HO.out _).mono ?_;clear HO;rintro e w1 ⟨c0,c1,c2,c3,rfl,hc,hb1⟩;have HOC:=hid hc;have HK:=hid ((Blk.new _ _ _).kept hb1);have HB1:=hid (((Below.refl _ _).alloc (Nat.le_refl _) _).trans (hb1.mono (by simp)));clear hc hb1)
  | (go_at_call 171;refine (Not_any c0 c1 c2 c3 _ (HOK.out _ _ _ _ HOC.out)).mono ?_;rintro e w2 ⟨d0,d1,d2,d3,rfl,hd,hb2⟩;have HD:=hid hd;have HK2:=hid (HK.out.kept hb2);have HB2:=hid (HB1.out.trans (hb2.mono HB1.out.size));clear hd hb2;obtain ⟨⟨x0,x1,x2,x3⟩,y0,y1,y2,y3⟩:=Blk4 HK2.out))
 refine bodyPost_ret (v:=clsV (d0,d1,d2,d3)) ?_ rfl ?_
 ·have h4:=(Blk4 (Blk4_set HK2.out (.int .u64 d0) (.int .u64 d1) (.int .u64 d2) (.int .u64 d3))).1
  obtain ⟨h0,h1,h2,h3⟩:=h4
  simp [results,Tryz.results139,go_sem,clsV,h0,h1,h2,h3]
 ·refine ⟨d0,d1,d2,d3,rfl,by rw [HD.out,HOC.out];rfl,?_⟩
  exact below_set4 HB2.out (Nat.le_refl _) _ _ _ _
def Bld (B : Nat) (l : List UInt8) (w : World) : Prop:=Lib.IsBuilder 32 5 B B (Lib.byteCells l) w
theorem Bld.kept {B : Nat} {l : List UInt8} {w w' : World} (h : Bld B l w) (hb : Below w.heap.size w w') : Bld B l w':=by
 have hg : w.grownBy w' none:=⟨hb.os,hb.tape,hb.output,hb.size,fun i hi _ => hb.block i hi⟩
 have key : ∀ p,Lib.BuilderAt 32 5 B B p (Lib.byteCells l) w → Lib.BuilderAt 32 5 B B p (Lib.byteCells l) w':=by
  rintro p ⟨h1,v,h2,h3,h4⟩
  exact ⟨h1,v,(hb.block B (Array.getElem?_eq_some_iff.1 h2).1).trans h2,h3.kept hg (by cases hv : v.ownBlock <;> simp),h4⟩
 exact h.elim (fun h => .inl (key _ h)) (fun h => .inr (key _ h))
theorem Bld.lt {B : Nat} {l : List UInt8} {w : World} (h : Bld B l w) : B < w.heap.size:=h.elim (fun h => h.lt) (fun h => h.lt)
theorem Bld.fresh (w : World) : Bld w.heap.size [] (w.alloc (.cells #[.pointer none,.slice none 0 0] 32)):=Lib.fresh_isBuilder _ _ _
theorem Bld.byte {B : Nat} {l : List UInt8} {w : World} (c : Nat) (hc : c < 256) (h : Bld B l w) (hl : l.length < 100000) :
 Calls Tryz.prog 105 #[.pointer (some ⟨B,0,none⟩),.int .u8 (c : Int)] w (fun e w' => e = .returned .nilIface ∧ Bld B (l ++ [UInt8.ofNat c]) w' ∧ Below B w w'):=by
 refine (WriteByte_c B B (Lib.byteCells l) (c : Int) w h (by simp [Lib.byteCells];omega) (by have:=h.lt;omega)).mono ?_
 rintro e w' ⟨h1,h2,h3⟩
 refine ⟨h1,.inr ?_,h3⟩
 have : Lib.byteCells (l ++ [UInt8.ofNat c]) = Lib.byteCells l ++ [.int .u8 (c : Int)]:=by simp [Lib.byteCells,Nat.mod_eq_of_lt hc]
 rw [this];exact h2
theorem Bld.str {B : Nat} {l : List UInt8} {w : World} (s : ByteArray) (h : Bld B l w) (hl : l.length < 100000) (hs : s.size < 100000) :
 Calls Tryz.prog 9 #[.pointer (some ⟨B,0,none⟩),.string s] w (fun e w' => e = .returned (.tuple #[.int .i64 s.size,.nilIface]) ∧ Bld B (l ++ s.data.toList) w' ∧ Below B w w'):=by
 refine (WriteString_c B B (Lib.byteCells l) s w h (by simp [Lib.byteCells];omega) (by have:=h.lt;omega)).mono ?_
 rintro e w' ⟨h1,h2,h3⟩
 refine ⟨h1,.inr ?_,h3⟩
 have : Lib.byteCells (l ++ s.data.toList) = Lib.byteCells l ++ Lib.strCells s:=by simp [Lib.byteCells,Lib.strCells]
 rw [this];exact h2
theorem Bld.text {B : Nat} {l : List UInt8} {w : World} (h : Bld B l w) :
 Calls Tryz.prog 11 #[.pointer (some ⟨B,0,none⟩)] w (fun e w' => e = .returned (.string ⟨l.toArray⟩) ∧ Below B w w'):=BString_c B B l w h (by have:=h.lt;omega)
def CEnv (w : World) (c0 c1 c2 c3 : Nat) (w' : World) : Prop:=Blk w' w.heap.size 112 #[.int .u64 (c0 : Int),.int .u64 (c1 : Int),.int .u64 (c2 : Int),.int .u64 (c3 : Int)] ∧ Below w.heap.size w w'
theorem CEnv.new (w : World) (c0 c1 c2 c3 : Nat) : CEnv w c0 c1 c2 c3 (w.alloc (.cells #[.int .u64 (c0 : Int),.int .u64 (c1 : Int),.int .u64 (c2 : Int),.int .u64 (c3 : Int)] 112)):=⟨Blk.new _ _ _,(Below.refl _ _).alloc (Nat.le_refl _) _⟩
theorem CEnv.kept {w w1 w2 : World} {c0 c1 c2 c3 : Nat} (h : CEnv w c0 c1 c2 c3 w1) (hb : Below w1.heap.size w1 w2) : CEnv w c0 c1 c2 c3 w2:=⟨h.1.kept hb,h.2.trans (hb.mono h.2.size)⟩
theorem CEnv.below {w w1 w2 : World} {c0 c1 c2 c3 B : Nat} (h : CEnv w c0 c1 c2 c3 w1) (hB : w.heap.size < B) (hb : Below B w1 w2) : CEnv w c0 c1 c2 c3 w2:=⟨h.1.below hb hB,h.2.trans (hb.mono (by omega))⟩
theorem CEnv.cells {w w1 : World} {c0 c1 c2 c3 : Nat} (h : CEnv w c0 c1 c2 c3 w1) :
 w1.cell? ⟨w.heap.size,0,none⟩ = some (.int .u64 (c0 : Int)) ∧ w1.cell? ⟨w.heap.size,1,none⟩ = some (.int .u64 (c1 : Int)) ∧ w1.cell? ⟨w.heap.size,2,none⟩ = some (.int .u64 (c2 : Int)) ∧ w1.cell? ⟨w.heap.size,3,none⟩ = some (.int .u64 (c3 : Int)):=(Blk4 h.1).1
theorem Has_yes (c0 c1 c2 c3 b : Nat) (w : World) (r : Bool) (hok : okC (c0,c1,c2,c3)) (hb : b < 256) (h : has (c0,c1,c2,c3) b = r) :
 Calls Tryz.prog 140 #[.agg #[.int .u64 (c0 : Int),.int .u64 (c1 : Int),.int .u64 (c2 : Int),.int .u64 (c3 : Int)],.int .u8 (b : Int)] w (fun e w' => e = .returned (.bool r) ∧ Below w.heap.size w w'):=by
 refine (Has_any c0 c1 c2 c3 b w hok hb).mono ?_
 rintro e w' ⟨h1,h2⟩
 exact ⟨by rw [h1,h],h2⟩
theorem Text_one (c0 c1 c2 c3 : Nat) (w : World) (hok : okC (c0,c1,c2,c3)) (h1 : cntC (c0,c1,c2,c3) = 1) :
 Calls Tryz.prog 104 #[.agg #[.int .u64 (c0 : Int),.int .u64 (c1 : Int),.int .u64 (c2 : Int),.int .u64 (c3 : Int)]] w (StrIs (textC (c0,c1,c2,c3)) w):=by
 have HT : Hid (textC (c0,c1,c2,c3) = byteT (least (c0,c1,c2,c3) 0)):=hid (by unfold textC;rw [if_pos h1])
 have hg:=(cnt_one_least h1).1
 have HO : Hid (∀ W,Calls Tryz.prog 114 #[.agg #[.int .u64 (c0 : Int),.int .u64 (c1 : Int),.int .u64 (c2 : Int),.int .u64 (c3 : Int)]] W (fun e w' => ∃ g : Nat,e = .returned (.tuple #[.int .u8 (g : Int),.bool true]) ∧ g = least (c0,c1,c2,c3) 0 ∧ g < 256 ∧ Below W.heap.size W w')):=hid fun W =>
  (Only_any c0 c1 c2 c3 W hok).mono (by
    rintro e w' (⟨b,e1,e2,e3,e4,e5⟩ | ⟨_,h,_⟩)
    ·exact ⟨b,e1,e3,e4,e5⟩
    ·exact absurd h1 h)
 have HE:=hid (CEnv.new w c0 c1 c2 c3)
 clear h1 hok hg
 go_enter Tryz.func104,Tryz.ntmps104
 go_wp2_with (first
  | (go_at_call 114;refine (HO.out _).mono ?_;rintro e w1 ⟨g,rfl,hg,hlt,hb1⟩;have HG:=hid hg;have HE1:=hid (HE.out.kept hb1);clear hg hb1)
  | (go_at_call 138;refine (Byte_any g _ hlt).mono ?_;rintro e w2 ⟨s,rfl,hs,hb2⟩;have HS:=hid hs;have HE2:=hid (HE1.out.kept hb2);clear hs hb2))
 go_ret
 exact ⟨s,rfl,by rw [HS.out,HT.out,HG.out],HE2.out.2⟩
theorem Only_no (c0 c1 c2 c3 : Nat) (w : World) (hok : okC (c0,c1,c2,c3)) (h1 : cntC (c0,c1,c2,c3) ≠ 1) :
 Calls Tryz.prog 114 #[.agg #[.int .u64 (c0 : Int),.int .u64 (c1 : Int),.int .u64 (c2 : Int),.int .u64 (c3 : Int)]] w (fun e w' => e = .returned (.tuple #[.int .u8 0,.bool false]) ∧ Below w.heap.size w w') :=
 (Only_any c0 c1 c2 c3 w hok).mono (by
   rintro e w' (⟨b,e1,e2,e3,e4,e5⟩ | ⟨h,_,h'⟩)
   ·exact absurd e2 h1
   ·exact ⟨h,h'⟩)
theorem Dot_cmp (c0 c1 c2 c3 : Nat) (r : Bool) (hr : r = true ↔ (c0,c1,c2,c3) = dotC) (w w1 : World) (h : CEnv w c0 c1 c2 c3 w1) :
 Calls Tryz.prog 139 #[] w1 (fun e w' => ∃ d0 d1 d2 d3 : Nat,e = .returned (.agg #[.int .u64 (d0 : Int),.int .u64 (d1 : Int),.int .u64 (d2 : Int),.int .u64 (d3 : Int)]) ∧ cls4 c0 c1 c2 c3 d0 d1 d2 d3 = r ∧ Hid (CEnv w c0 c1 c2 c3 w')):=by
 refine (Dot_any w1).mono ?_
 rintro e w' ⟨d0,d1,d2,d3,h1,h2,h3⟩
 refine ⟨d0,d1,d2,d3,h1,?_,hid (h.kept h3)⟩
 rw [Bool.eq_iff_iff,hr,cls4_iff,h2]
theorem Text_many (c0 c1 c2 c3 : Nat) (w : World) (hok : okC (c0,c1,c2,c3)) (h1 : cntC (c0,c1,c2,c3) ≠ 1) (hdot : (c0,c1,c2,c3) ≠ dotC) :
 Calls Tryz.prog 104 #[.agg #[.int .u64 (c0 : Int),.int .u64 (c1 : Int),.int .u64 (c2 : Int),.int .u64 (c3 : Int)]] w (StrIs (textC (c0,c1,c2,c3)) w):=by
 have HT : Hid (textC (c0,c1,c2,c3) = 91 :: (runsT (c0,c1,c2,c3) 0 ++ [93])):=hid (by unfold textC;rw [if_neg h1,if_neg hdot])
 have HO:=hid fun W => Only_no c0 c1 c2 c3 W hok h1
 have HD:=hid fun w1 h => Dot_cmp c0 c1 c2 c3 false (by simpa using hdot) w w1 (Hid.out h)
 have HH:=hid fun b W r hb h => Has_yes c0 c1 c2 c3 b W r hok hb h
 have HE:=hid (CEnv.new w c0 c1 c2 c3)
 have hS : ∀ w',Hid (CEnv w c0 c1 c2 c3 w') → (w'.cell? ⟨w.heap.size,0,none⟩ = some (.int .u64 (c0 : Int)) ∧ w'.cell? ⟨w.heap.size,1,none⟩ = some (.int .u64 (c1 : Int)) ∧ w'.cell? ⟨w.heap.size,2,none⟩ = some (.int .u64 (c2 : Int)) ∧ w'.cell? ⟨w.heap.size,3,none⟩ = some (.int .u64 (c3 : Int)) ∧ Hid (CEnv w c0 c1 c2 c3 w')):=fun w' h =>
  ⟨h.out.cells.1,h.out.cells.2.1,h.out.cells.2.2.1,h.out.cells.2.2.2,h⟩
 have HS:=hid hS
 clear h1 hdot hok hS
 go_enter Tryz.func104,Tryz.ntmps104
 go_wp2_with (go_at_call 114;refine (HO.out _).mono ?_;rintro e w1 ⟨rfl,hb1⟩;have HE1:=hid (HE.out.kept hb1);clear hb1 HO HE;obtain ⟨x0,x1,x2,x3⟩:=HE1.out.cells)
 have HED : Hid (CEnv w c0 c1 c2 c3 w1.drew):=hid (HE1.out.kept (Below.refl _ _).drew)
 go_region_held3 (fun w' => w'.cell? ⟨w.heap.size,0,none⟩ = some (.int .u64 (c0 : Int)) ∧ w'.cell? ⟨w.heap.size,1,none⟩ = some (.int .u64 (c1 : Int)) ∧ w'.cell? ⟨w.heap.size,2,none⟩ = some (.int .u64 (c2 : Int)) ∧ w'.cell? ⟨w.heap.size,3,none⟩ = some (.int .u64 (c3 : Int)) ∧ Hid (CEnv w c0 c1 c2 c3 w'))
  (exact HS.out _ (by assumption))
  (first | (go_at_call 139;refine (HD.out _ (by assumption)).mono ?_;rintro e w2 ⟨d0,d1,d2,d3,rfl,hcmp,henv⟩))
 have hltB:=henv.out.1.lt
 have HF:=hid (Bld.fresh w2)
 have HE3:=hid (henv.out.kept ((Below.refl _ w2).alloc (Nat.le_refl _) (.cells #[.pointer none,.slice none 0 0] 32)))
 clear henv HE1 HED HD x0 x1 x2 x3
 go_wp2_with (go_at_call 105;refine (Bld.byte 91 (by omega) HF.out (by simp)).mono ?_;rintro e w3 ⟨rfl,hbl3,hb3⟩;have HF3:=hid hbl3;have HE4:=hid (HE3.out.below hltB hb3);clear hbl3 hb3 HF HE3)
 go_loopw [6] (fun v6 wr => ∃ (k : Nat) (acc : List UInt8),k ≤ 256 ∧ v6 = .int .i64 (k : Int) ∧ acc.length ≤ 9 * k ∧ Hid (acc ++ runsT (c0,c1,c2,c3) k = runsT (c0,c1,c2,c3) 0) ∧ Hid (Bld w2.heap.size (91 :: acc) wr) ∧ Hid (CEnv w c0 c1 c2 c3 wr)) (fun i _ => 256 - (intOf i).toNat)
 case atStart => exact ⟨0,[],by omega,rfl,by simp,hid rfl,HF3,HE4⟩
 case round =>
  obtain ⟨k,acc,hk,rfl,hal,HA,HB,HC⟩:=hrel
  by_cases hlt : k < 256
  ·obtain ⟨x0,x1,x2,x3⟩:=HC.out.cells
   have i1 : (0 : Int) ≤ (k : Int):=by omega
   have i2 : (k : Int) < 256:=by omega
   by_cases hhas : has (c0,c1,c2,c3) k = true
   ·have HX:=hid hhas
    clear hhas
    go_wp2_with (go_at_call 140;refine (HH.out k _ true hlt HX.out).mono ?_;rintro e w4 ⟨rfl,hb4⟩;have HB4:=hid (HB.out.kept hb4);have HC4:=hid (HC.out.kept hb4);clear hb4 HB HC x0 x1 x2 x3)
    go_loopw [6] (fun v6 wx => ∃ m : Nat,k ≤ m ∧ m ≤ 255 ∧ v6 = .int .i64 (m : Int) ∧ Hid (top (c0,c1,c2,c3) m = top (c0,c1,c2,c3) k) ∧ Hid (Bld w2.heap.size (91 :: acc) wx) ∧ Hid (CEnv w c0 c1 c2 c3 wx)) (fun i _ => 255 - (intOf i).toNat)
    case atStart => exact ⟨k,by omega,by omega,rfl,hid rfl,HB4,HC4⟩
    case round =>
     obtain ⟨m,hkm,hm,rfl,HTOP,HB5,HC5⟩:=hrel
     obtain ⟨x0,x1,x2,x3⟩:=HC5.out.cells
     have j1 : (0 : Int) ≤ (m : Int):=by omega
     have j2 : (m : Int) < 256:=by omega
     have HRUN:=hid fun W => run_any k m W hkm (by omega)
     have hsp:=spT_len k m
     have HFIN : top (c0,c1,c2,c3) m = m → Hid ((acc ++ spT k m) ++ runsT (c0,c1,c2,c3) (m + 1) = runsT (c0,c1,c2,c3) 0):=fun h => hid (by
      rw [← HA.out,runsT_yes hlt HX.out,← HTOP.out,h,List.append_assoc])
     have hlenN : (acc ++ spT k m).length ≤ 9 * (m + 1):=by rw [List.length_append];omega
     have hlen91 : (91 :: acc).length < 100000:=by simp;omega
     by_cases hgo : m < 255
     ·have j3 : (m : Int) < 255:=by omega
      cases hnx : has (c0,c1,c2,c3) (m + 1) with
      | true =>
        have HN:=hid hnx
        have HT2:=hid (top_yes hgo hnx)
        clear hnx hsp hlenN
        go_wp2_with (go_at_call 140;refine (HH.out (m + 1) _ true (by omega) HN.out).mono ?_;rintro e w6 ⟨rfl,hb6⟩)
        go_roundw
        case rel => exact ⟨m + 1,by omega,by omega,by go_num,hid (by rw [← HT2.out,HTOP.out]),hid (HB5.out.kept hb6),hid (HC5.out.kept hb6)⟩
        case measure => simp [intOf];omega
      | false =>
        have HN:=hid hnx
        have HFN:=HFIN (top_no (by simp [hnx]))
        clear hnx HFIN
        go_wp2_with (first
         | (go_at_call 140;refine (HH.out (m + 1) _ false (by omega) HN.out).mono ?_;rintro e w6 ⟨rfl,hb6⟩;have HB6:=hid (HB5.out.kept hb6);have HC6:=hid (HC5.out.kept hb6);clear hb6)
         | (go_at_call 141;refine (HRUN.out _).mono ?_;rintro e w7 ⟨s,rfl,hs,hb7⟩;have hsz : s.size < 100000:=(by rw [sz_list,hs];omega);have HSS:=hid hs;have HB7:=hid (HB6.out.kept hb7);have HC7:=hid (HC6.out.kept hb7);clear hs hb7)
         | (go_at_call 9;refine (Bld.str s HB7.out hlen91 hsz).mono ?_;rintro e w8 ⟨rfl,hb8,hbb8⟩;have HB8:=hid hb8;have HC8:=hid (HC7.out.below hltB hbb8);clear hb8 hbb8))
        go_roundw
        case rel => exact ⟨m + 1,acc ++ spT k m,by omega,by go_num,hlenN,HFN,hid (by rw [← HSS.out];exact HB8.out),HC8⟩
        case measure => simp [intOf];omega
     ·obtain rfl : m = 255:=by omega
      have HFN:=HFIN (top_no (by omega))
      clear HFIN
      go_wp2_with (first
       | (go_at_call 141;refine (HRUN.out _).mono ?_;rintro e w7 ⟨s,rfl,hs,hb7⟩;have hsz : s.size < 100000:=(by rw [sz_list,hs];omega);have HSS:=hid hs;have HB7:=hid (HB5.out.kept hb7);have HC7:=hid (HC5.out.kept hb7);clear hs hb7)
       | (go_at_call 9;refine (Bld.str s HB7.out hlen91 hsz).mono ?_;rintro e w8 ⟨rfl,hb8,hbb8⟩;have HB8:=hid hb8;have HC8:=hid (HC7.out.below hltB hbb8);clear hb8 hbb8))
      go_roundw
      case rel => exact ⟨256,acc ++ spT k 255,by omega,by go_num,hlenN,HFN,hid (by rw [← HSS.out];exact HB8.out),HC8⟩
      case measure => simp [intOf];omega
   ·have HX : Hid (has (c0,c1,c2,c3) k = false):=hid (by simpa using hhas)
    clear hhas
    go_wp2_with (go_at_call 140;refine (HH.out k _ false hlt HX.out).mono ?_;rintro e w4 ⟨rfl,hb4⟩;have HB4:=hid (HB.out.kept hb4);have HC4:=hid (HC.out.kept hb4);clear hb4)
    go_roundw
    case rel => exact ⟨k + 1,acc,by omega,by go_num,by omega,hid (by rw [← HA.out,runsT_no hlt HX.out]),HB4,HC4⟩
    case measure => simp [intOf];omega
  ·obtain rfl : k = 256:=by omega
   have hd : decide ((256 : Int) < 256) = false:=by simp
   have HA' : Hid (acc = runsT (c0,c1,c2,c3) 0):=hid (by rw [← HA.out,runsT_end (Nat.le_refl _),List.append_nil])
   have hlen91 : (91 :: acc).length < 100000:=by simp;omega
   clear HA
   go_wp2_with (first
    | (go_at_call 105;refine (Bld.byte 93 (by omega) HB.out hlen91).mono ?_;rintro e w5 ⟨rfl,hbl5,hb5⟩;have HB5:=hid hbl5;have HC5:=hid (HC.out.below hltB hb5);clear hbl5 hb5 HB HC)
    | (go_at_call 11;refine (Bld.text HB5.out).mono ?_;rintro e w6 ⟨rfl,hb6⟩;have HC6:=hid (HC5.out.below hltB hb6);clear hb6))
   go_ret
   exact ⟨_,rfl,by rw [HT.out,← HA'.out],HC6.out.2⟩
theorem Text_dot (c0 c1 c2 c3 : Nat) (w : World) (hok : okC (c0,c1,c2,c3)) (h1 : cntC (c0,c1,c2,c3) ≠ 1) (hdot : (c0,c1,c2,c3) = dotC) :
 Calls Tryz.prog 104 #[.agg #[.int .u64 (c0 : Int),.int .u64 (c1 : Int),.int .u64 (c2 : Int),.int .u64 (c3 : Int)]] w (StrIs (textC (c0,c1,c2,c3)) w):=by
 have HT : Hid (textC (c0,c1,c2,c3) = [46]):=hid (by unfold textC;rw [if_neg h1,if_pos hdot])
 have HO:=hid fun W => Only_no c0 c1 c2 c3 W hok h1
 have HD:=hid fun w1 h => Dot_cmp c0 c1 c2 c3 true (by simpa using hdot) w w1 (Hid.out h)
 have HE:=hid (CEnv.new w c0 c1 c2 c3)
 have hS : ∀ w',Hid (CEnv w c0 c1 c2 c3 w') → (w'.cell? ⟨w.heap.size,0,none⟩ = some (.int .u64 (c0 : Int)) ∧ w'.cell? ⟨w.heap.size,1,none⟩ = some (.int .u64 (c1 : Int)) ∧ w'.cell? ⟨w.heap.size,2,none⟩ = some (.int .u64 (c2 : Int)) ∧ w'.cell? ⟨w.heap.size,3,none⟩ = some (.int .u64 (c3 : Int)) ∧ Hid (CEnv w c0 c1 c2 c3 w')):=fun w' h =>
  ⟨h.out.cells.1,h.out.cells.2.1,h.out.cells.2.2.1,h.out.cells.2.2.2,h⟩
 have HS:=hid hS
 clear h1 hdot hok hS
 go_enter Tryz.func104,Tryz.ntmps104
 go_wp2_with (go_at_call 114;refine (HO.out _).mono ?_;rintro e w1 ⟨rfl,hb1⟩;have HE1:=hid (HE.out.kept hb1);clear hb1 HO HE;obtain ⟨x0,x1,x2,x3⟩:=HE1.out.cells)
 have HED : Hid (CEnv w c0 c1 c2 c3 w1.drew):=hid (HE1.out.kept (Below.refl _ _).drew)
 go_region_held3 (fun w' => w'.cell? ⟨w.heap.size,0,none⟩ = some (.int .u64 (c0 : Int)) ∧ w'.cell? ⟨w.heap.size,1,none⟩ = some (.int .u64 (c1 : Int)) ∧ w'.cell? ⟨w.heap.size,2,none⟩ = some (.int .u64 (c2 : Int)) ∧ w'.cell? ⟨w.heap.size,3,none⟩ = some (.int .u64 (c3 : Int)) ∧ Hid (CEnv w c0 c1 c2 c3 w'))
  (exact HS.out _ (by assumption))
  (first | (go_at_call 139;refine (HD.out _ (by assumption)).mono ?_;rintro e w2 ⟨d0,d1,d2,d3,rfl,hcmp,henv⟩))
 go_wp2_with fail
 go_ret
 exact ⟨_,rfl,by rw [HT.out],henv.out.2⟩
theorem Text_any (c0 c1 c2 c3 : Nat) (w : World) (hok : okC (c0,c1,c2,c3)) :
 Calls Tryz.prog 104 #[.agg #[.int .u64 (c0 : Int),.int .u64 (c1 : Int),.int .u64 (c2 : Int),.int .u64 (c3 : Int)]] w (StrIs (textC (c0,c1,c2,c3)) w):=by
 by_cases h1 : cntC (c0,c1,c2,c3) = 1
 ·exact Text_one c0 c1 c2 c3 w hok h1
 ·by_cases h2 : (c0,c1,c2,c3) = dotC
  ·exact Text_dot c0 c1 c2 c3 w hok h1 h2
  ·exact Text_many c0 c1 c2 c3 w hok h1 h2
end Go.Proofs.YthhcpbfgoofppaaGreatDoor
