/-
  RdrD, RdrE, Prb, RdrF.
-/
import Derived.Test.YthcahjnniendnacGreatDoorGRdrA
import Derived.Test.YthcahjnniendnacGreatDoorGWd
import Derived.Deep.CutBlock
import Derived.Deep.CutRange
import Derived.Deep.DeepCutAuto
set_option linter.unusedVariables false
set_option linter.unusedSimpArgs false
set_option maxRecDepth 100000
set_option maxHeartbeats 8000000
open Go.Lib (hid)
namespace Wf
def SgIn (s : List UInt8) (i j : Nat) (bad : Option Nat) (l : List Nd) : Prop:=match bad with
 | none => ∃ u,l = flat u ∧ okT u ∧ atomR s i = .ok (signsS s j u).1 (signsS s j u).2 ∧ i < j ∧ j ≤ s.length ∧ l.length + 1 + 2 * i ≤ 2 * j
 | some k => OutIs (atomR s i) s i 0 j (some k) l
theorem SgIn.of_ok {s : List UInt8} {i j : Nat} {u : Rx} (hi : i ≤ s.length) (h : atomS s i = .ok u j) : SgIn s i j none (flat u):=by
 obtain ⟨g1,g2,g3,g4⟩:=(read_ok _ i (Nat.le_refl _) hi).1 _ _ h
 exact ⟨u,rfl,g3,by unfold atomR;rw [h],g1,g2,g4⟩
theorem SgIn.of_bad {s : List UInt8} {i j k : Nat} {l : List Nd} (h : atomS s i = .bad k) (hl : 0 < l.length) (h1 : l.length + 2 * i ≤ 2 * s.length) (h2 : j + i ≤ 2 * s.length + 3) : SgIn s i j (some k) l :=
 ⟨hl,by unfold atomR;rw [h],h1,h2⟩
theorem SgIn.len {s : List UInt8} {i j : Nat} {bad : Option Nat} {l : List Nd} (h : SgIn s i j bad l) : l.length ≤ 2 * s.length ∧ j ≤ 2 * s.length + 3:=by
 cases bad with
 | none => obtain ⟨u,_,_,_,h1,h2,h3⟩:=h;omega
 | some k => obtain ⟨_,_,h1,h2⟩:=h;omega
theorem SgIn.out {s : List UInt8} {i j : Nat} {l : List Nd} (h : SgIn s i j none l) (hg : ∀ c,s[j]? = some c → c ≠ 42 ∧ c ≠ 43 ∧ c ≠ 63) : OutIs (atomR s i) s i 0 j none l:=by
 obtain ⟨u,rfl,hok,ha,h1,h2,h3⟩:=h
 rw [signsS_end u hg] at ha
 exact ⟨flat_pos u,u,ha,rfl,by omega,h2,by omega⟩
theorem atomS_atR {s : List UInt8} {i : Nat} {c : UInt8} (h : s[i]? = some c) : atomS s i =
 if c = 40 then
  match orS s (i + 1) with
  | .bad k => .bad k
  | .ok t j => if s[j]? = some 41 then .ok t (j + 1) else .bad j
 else if c = 91 then
  match bracketS s (i + 1) with
  | .bad k => .bad k
  | .ok c j => .ok (.byte c) j
 else if c = 46 then .ok (.byte dotC) (i + 1)
 else if c = 94 then .ok .bgn (i + 1)
 else if c = 36 then .ok .fin (i + 1)
 else match oneS s i with
  | .bad k => .bad k
  | .ok b j => .ok (.byte (withB zc b)) j:=by
 obtain ⟨hi,he⟩:=List.getElem?_eq_some_iff.1 h
 rw [atomS,dif_pos hi,he]
 rfl
theorem atomS_oneR {s : List UInt8} {i : Nat} (h1 : s[i]? ≠ some 40) (h2 : s[i]? ≠ some 91) (h3 : s[i]? ≠ some 46) (h4 : s[i]? ≠ some 94) (h5 : s[i]? ≠ some 36) : atomS s i = match oneS s i with
 | .bad k => .bad k
 | .ok b j => .ok (.byte (withB zc b)) j:=by
 cases h : s[i]? with
 | none =>
   have:=List.getElem?_eq_none_iff.1 h
   rw [atomS,dif_neg (by omega)]
   unfold oneS
   rw [h]
 | some c =>
   rw [h] at h1 h2 h3 h4 h5
   rw [atomS_atR h,if_neg (fun e => h1 (by rw [e])),if_neg (fun e => h2 (by rw [e])),if_neg (fun e => h3 (by rw [e])),if_neg (fun e => h4 (by rw [e])),if_neg (fun e => h5 (by rw [e]))]
theorem okT_un {u v : Rx} {op : Int} (e : flat v = ⟨op,zc⟩ :: flat u) (h : okT u) : okT v:=by
 intro n hn
 rw [e] at hn
 rcases List.mem_cons.1 hn with rfl | hn
 ·exact okC_zc
 ·exact h n hn
theorem SgIn.more {s : List UInt8} {i j : Nat} {l : List Nd} (h : SgIn s i j none l) (op : Int) (hg : (s[j]? = some 42 ∧ op = 5) ∨ (s[j]? = some 43 ∧ op = 6) ∨ (s[j]? = some 63 ∧ op = 7)) : SgIn s i (j + 1) none (⟨op,zc⟩ :: l):=by
 obtain ⟨u,rfl,hok,ha,h1,h2,h3⟩:=h
 rcases hg with ⟨hg,rfl⟩ | ⟨hg,rfl⟩ | ⟨hg,rfl⟩
 ·have:=getE_lt hg
  exact ⟨.star u,rfl,okT_un rfl hok,by rw [ha,signsS_star u hg],by omega,by omega,by simp only [List.length_cons];omega⟩
 ·have:=getE_lt hg
  exact ⟨.plus u,rfl,okT_un rfl hok,by rw [ha,signsS_plus u hg],by omega,by omega,by simp only [List.length_cons];omega⟩
 ·have:=getE_lt hg
  exact ⟨.opt u,rfl,okT_un rfl hok,by rw [ha,signsS_opt u hg],by omega,by omega,by simp only [List.length_cons];omega⟩
end Wf
namespace Go.Proofs.YthcahjnniendnacGreatDoor
open Go.RowKit Wf
def RowIn (w : World) (lo : Nat) (v : Value) (l : List Nd) : Prop :=
 ∃ g cap cur,v = .slice (some ⟨g,0,none⟩) l.length cap ∧ 0 < l.length ∧ l.length ≤ cap ∧ cap ≤ 9223372036854775807 ∧ lo ≤ g ∧ Blk w g 41 cur ∧ ∀ (j : Nat) (u : Value),(l.flatMap ndCells)[j]? = some u → cur[j]? = some u
theorem RowIn.of_own {w : World} {lo g cap : Nat} {l : List Nd} (h : w.ownsRow lo 41 5 (.slice (some ⟨g,0,none⟩) l.length cap) l.length (l.flatMap ndCells)) (hl : 0 < l.length) : RowIn w lo (.slice (some ⟨g,0,none⟩) l.length cap) l:=by
 rcases h.2 with ⟨h0,_⟩ | ⟨g',cap',cur,hv,h1,h2,h3,h4,h5,h6⟩
 ·cases h0
 ·injection hv with e1 e2 e3
  injection e1 with e1
  injection e1 with e1
  subst e1
  subst e3
  refine ⟨g,cap,cur,rfl,hl,h3,by unfold maxLen at h4;omega,h1,h2,fun j u hu => ?_⟩
  rw [← Array.getElem?_toList]
  rw [← h6,List.getElem?_take] at hu
  split at hu
  ·exact hu
  ·cases hu
theorem RowIn.keep {w w' : World} {lo : Nat} {v : Value} {l : List Nd} (h : RowIn w lo v l) (hk : ∀ q,lo ≤ q → q < w.heap.size → w'.heap[q]? = w.heap[q]?) : RowIn w' lo v l:=by
 obtain ⟨g,cap,cur,hv,h1,h2,h3,h4,h5,h6⟩:=h
 exact ⟨g,cap,cur,hv,h1,h2,h3,h4,(hk g h4 (Blk.lt h5)).trans h5,h6⟩
theorem RowIn.below {w w' : World} {lo : Nat} {v : Value} {l : List Nd} (h : RowIn w lo v l) (hb : Below w.heap.size w w') : RowIn w' lo v l:=h.keep fun q _ hq => hb.block q hq
theorem RowIn.grown {w w' : World} {lo rb : Nat} {v : Value} {l : List Nd} (h : RowIn w lo v l) (hg : w.grownBy w' (some rb)) (hr : rb < lo) : RowIn w' lo v l:=h.keep fun q h1 hq => hg.block q hq (fun e => by have:=Option.some.inj e;omega)
theorem RowIn.lower {w : World} {lo lo' : Nat} {v : Value} {l : List Nd} (h : RowIn w lo v l) (hl : lo' ≤ lo) : RowIn w lo' v l:=by
 obtain ⟨g,cap,cur,hv,h1,h2,h3,h4,h5⟩:=h
 exact ⟨g,cap,cur,hv,h1,h2,h3,by omega,h5⟩
theorem RowIn.form {w : World} {lo : Nat} {v : Value} {l : List Nd} (h : RowIn w lo v l) : ∃ g cap,v = .slice (some ⟨g,0,none⟩) l.length cap ∧ 0 < l.length ∧ l.length ≤ cap ∧ cap ≤ 9223372036854775807 ∧ lo ≤ g ∧ g < w.heap.size ∧
 ∀ (W : World),W.heap[g]? = w.heap[g]? → ∀ (j : Nat) (u : Value),(l.flatMap ndCells)[j]? = some u → W.cell? ((⟨g,0,none⟩ : Addr).add j) = some u:=by
 obtain ⟨g,cap,cur,hv,h1,h2,h3,h4,h5,h6⟩:=h
 refine ⟨g,cap,hv,h1,h2,h3,h4,Blk.lt h5,fun W hW j u hu => ?_⟩
 have hB : Blk W g 41 cur:=hW.trans h5
 rw [add_mk,Nat.zero_add,hB.cell]
 exact h6 j u hu
theorem own_blk {w : World} {g base : Nat} {a b c d e : Value} (h : Blk w g 41 #[a,b,c,d,e]) (hb : base ≤ g) : w.ownsRow base 41 5 (.slice (some ⟨g,0,none⟩) 1 1) 1 [a,b,c,d,e] :=
 ⟨rfl,.inr ⟨g,1,_,rfl,hb,h,by omega,by unfold maxLen;omega,rfl,rfl⟩⟩
theorem RowIn.node {w : World} {g lo : Nat} {op : Int} {c0 c1 c2 c3 : Nat} (h : Blk w g 41 #[.int .i64 op,.int .u64 (c0 : Int),.int .u64 (c1 : Int),.int .u64 (c2 : Int),.int .u64 (c3 : Int)]) (hb : lo ≤ g) : RowIn w lo (.slice (some ⟨g,0,none⟩) 1 1) [⟨op,c0,c1,c2,c3⟩] :=
 RowIn.of_own (l:=[⟨op,c0,c1,c2,c3⟩]) (own_blk h hb) (by simp)
theorem new_node (W : World) (B : Nat) (hB : W.heap.size = B) {lo : Nat} (hlo : lo ≤ B) (op : Int) (c0 c1 c2 c3 : Nat) : RowIn (W.alloc (.cells #[.int .i64 op,.int .u64 (c0 : Int),.int .u64 (c1 : Int),.int .u64 (c2 : Int),.int .u64 (c3 : Int)] 41)) lo (.slice (some ⟨B,0,none⟩) 1 1) [⟨op,c0,c1,c2,c3⟩]:=by
 subst hB
 exact RowIn.node (Blk.new _ _ _) hlo
theorem RW.step {w0 w : World} {rb i : Nat} {bad : Option Nat} {s : ByteArray} (h : RW w0 rb s i bad w) : RW w0 rb s (i + 1) bad (w.setCell ⟨rb,1,none⟩ (.int .i64 ((i : Int) + 1))):=by
 have:=h.at (i + 1)
 push_cast at this
 exact this
theorem RowIn.step {w : World} {lo rb : Nat} {v u : Value} {l : List Nd} {o : Nat} (h : RowIn w lo v l) (hr : rb < lo) : RowIn (w.setCell ⟨rb,o,none⟩ u) lo v l:=h.keep fun q h1 _ => Below.heap_setCell w _ _ q (by show q ≠ rb;omega)
theorem RW.alloc {w0 w : World} {rb i : Nat} {bad : Option Nat} {s : ByteArray} (h : RW w0 rb s i bad w) (o : Obj) : RW w0 rb s i bad (w.alloc o):=h.below ((Below.refl _ _).alloc (Nat.le_refl _) o)
theorem RW.app {w0 w w' : World} {rb i b : Nat} {bad : Option Nat} {s : ByteArray} (h : RW w0 rb s i bad w) (hg : w.grownBy w' (some b)) (hb : w0.heap.size ≤ b) : RW w0 rb s i bad w':=by
 have hlt:=h.lt
 have hsz:=h.grow.size
 exact ⟨(hg.block rb (Blk.lt h.par) (fun e => by have:=Option.some.inj e;omega)).trans h.par,
  ⟨hg.os.trans h.grow.os,hg.tape.trans h.grow.tape,hg.output.trans h.grow.output,Nat.le_trans hsz hg.size,fun q hq hn => (hg.block q (by omega) (fun e => by have:=Option.some.inj e;omega)).trans (h.grow.block q hq hn)⟩,h.lt⟩
theorem ite_some {α : Type} {a b : α} {o : Option UInt8} {x : UInt8} (h : o = some x) : (if o = some x then a else b) = a:=if_pos h
def RRdIs (r : PR Rx) (rb : Nat) (s : ByteArray) (i m : Nat) (w : World) (e : Ending) (w' : World) : Prop :=
 ∃ g cap l j bad,e = .returned (.slice (some ⟨g,0,none⟩) l.length cap) ∧ RowIn w' w.heap.size (.slice (some ⟨g,0,none⟩) l.length cap) l ∧ RW w rb s j bad w' ∧ OutIs r s.data.toList i m j bad l
theorem ratom_c {rb : Nat} {s : ByteArray} {i : Nat} (w : World) (h : RW w rb s i none w) (hs : s.size ≤ 200) (hi0 : i < s.size) (hall : ∀ W,RW W rb s (i + 1) none W → i + 1 ≤ s.size → Calls Tryz.prog 39 #[.pointer (some ⟨rb,0,none⟩)] W (RRdIs (orS s.data.toList (i + 1)) rb s (i + 1) 1 W)) :
 Calls Tryz.prog 63 #[.pointer (some ⟨rb,0,none⟩)] w (RRdIs (atomR s.data.toList i) rb s i 0 w):=by
 obtain ⟨L,hL⟩ : ∃ L,L = s.data.toList:=⟨_,rfl⟩
 have hLZ : L.length = s.size:=by rw [hL];simp
 have HLZ:=hid hLZ
 have HSY : Hid (∀ (c : UInt8) (j : Nat) W,L[j]? = some c → RW w rb s j none W → Calls Tryz.prog 64 #[.pointer (some ⟨rb,0,none⟩),.int .u8 (c.toNat : Int)] W (RSeesIs true W)):=hid fun c j W hc hw => rsees_yes W hw.here hs (by rw [← hL];exact hc)
 have HSN : Hid (∀ (c : UInt8) (j : Nat) W,j ≤ s.size → L[j]? ≠ some c → RW w rb s j none W → Calls Tryz.prog 64 #[.pointer (some ⟨rb,0,none⟩),.int .u8 (c.toNat : Int)] W (RSeesIs false W)):=hid fun c j W hj hc hw => rsees_no W hw.here hs hj (by rw [← hL];exact hc)
 have HSB : Hid (∀ (c j k : Nat) W,RW w rb s j (some k) W → Calls Tryz.prog 64 #[.pointer (some ⟨rb,0,none⟩),.int .u8 (c : Int)] W (RSeesIs false W)):=hid fun c j k W hw => rsees_bad c W hw.here
 have HFL : Hid (∀ (j k : Nat) W,RW w rb s j none W → Calls Tryz.prog 40 #[.pointer (some ⟨rb,0,none⟩),.int .i64 (k : Int)] W (RFailIs rb s j (some k) W)):=hid fun j k W hw => rfail_good W hw.here k
 have HFB : Hid (∀ (j k k' : Nat) W,RW w rb s j (some k) W → Calls Tryz.prog 40 #[.pointer (some ⟨rb,0,none⟩),.int .i64 (k' : Int)] W (RFailIs rb s j (some k) W)):=hid fun j k k' W hw => rfail_bad W hw.here k'
 have HP:=hid h
 have hrb:=h.lt
 have hi : i ≤ s.size:=by omega
 have hi' : i ≤ L.length:=by omega
 unfold RSeesIs at HSY HSN HSB
 unfold RFailIs at HFL HFB
 obtain ⟨i0,hi0,hz0,hz1,hz2⟩:=info_parts info_node
 have HAL:=hid fun W (hw : RW w rb s (i + 1) none W) (h1 : i + 1 ≤ s.size) => hall W hw.here h1
 unfold RRdIs at HAL
 have HBR:=hid fun W (hw : RW w rb s (i + 1) none W) (h1 : i + 1 ≤ s.size) => rbr_c W hw.here hs h1
 have HON:=hid fun W (hw : RW w rb s i none W) => rone_c W hw.here hs hi
 have HOF:=hid fun W => ROfText_any ⟨#[10]⟩ W (by decide)
 have HOT : Hid (∀ (c0 c1 c2 c3 : Nat) (W : World),okC (c0,c1,c2,c3) → Calls Tryz.prog 55 #[.agg #[.int .u64 (c0 : Int),.int .u64 (c1 : Int),.int .u64 (c2 : Int),.int .u64 (c3 : Int)]] W (ClsIs (notC (c0,c1,c2,c3)) W)):=hid fun c0 c1 c2 c3 W h1 => ROthers_any c0 c1 c2 c3 W h1
 have HWT : Hid (∀ (a : Nat) (W : World),a < 256 → Calls Tryz.prog 79 #[.agg #[.int .u64 0,.int .u64 0,.int .u64 0,.int .u64 0],.int .i64 (a : Int)] W (ClsIs (withB zc a) W)):=hid fun a W h1 => RWith_any 0 0 0 0 a W okC_zc h1
 rw [← hL] at HBR HON
 unfold RBrIs at HBR
 unfold ROneIs ROneAt at HON
 unfold ClsIs at HOF HOT HWT
 unfold RRdIs
 rw [← hL] at HAL ⊢
 clear hL hLZ h hall
 go_enter Tryz.func63,Tryz.ntmps63
 go_upto_block 0 with fail
 go_cut [3] (fun v3 wx => ∃ (j : Nat) (l : List Nd) (bad : Option Nat),Hid (RowIn wx w.heap.size v3 l) ∧ Hid (RW w rb s j bad wx) ∧ Hid (SgIn L i j bad l))
 case first =>
  by_cases hc : L[i]? = some 40
  ·have H0:=hid hc
   clear hc
   go_wp2_with fail
   refine (HSY.out 40 i _ H0.out HP.out).mono ?_
   rintro e z ⟨rfl,hb⟩
   have Z:=hid (HP.out.below hb)
   clear hb
   have hi1 : i + 1 ≤ s.size:=by have:=getE_lt H0.out;rw [HLZ.out] at this;omega
   have r0:=Z.out.c0
   have r1:=Z.out.c1
   have rf:=Z.out.f1
   go_wp2_with fail
   clear r0 r1 rf
   have HZ:=hid Z.out.step
   refine (HAL.out _ HZ.out hi1).mono ?_
   rintro e w1 ⟨g,cap,l,j,bad,rfl,hrow,hrw,ho⟩
   have hsz1:=HZ.out.grow.size
   have HRow:=hid (hrow.lower hsz1)
   have HRW:=hid (HZ.out.trans hrw)
   have HO:=hid ho
   clear hrow hrw ho
   cases bad with
   | some k =>
     have hjj : j ≤ 2 * s.size + 3:=by have:=HO.out.2.2.2;rw [HLZ.out] at this;omega
     have q2 : _ = some (Value.int .i64 ((k : Nat) : Int)):=HRW.out.c2
     have dk : decide (((k : Nat) : Int) < 0) = false:=by simp
     go_wp2_with fail
     refine (HSB.out 41 j k _ HRW.out).mono ?_
     rintro e x1 ⟨rfl,hb⟩
     have HRow1:=hid (HRow.out.below hb)
     have HRW1:=hid (HRW.out.below hb)
     clear hb q2
     have r0:=HRW1.out.c0
     have r1:=HRW1.out.c1
     have rf:=HRW1.out.f1
     go_wp2_with fail
     refine (HFB.out j k j _ HRW1.out).mono ?_
     rintro e x2 ⟨rfl,hw2⟩
     have HRow2:=hid (HRow1.out.grown hw2.grow hrb)
     have HRW2:=hid (HRW1.out.trans hw2)
     clear r0 r1 rf hw2
     have r0:=HRW2.out.c0
     have r1:=HRW2.out.c1
     have rf:=HRW2.out.f1
     go_wp2_with fail
     go_meet
     have hA : atomS L i = .bad k:=by rw [atomS_atR H0.out,if_pos rfl,HO.out.2.1]
     have h1:=HO.out.1
     have h2:=HO.out.2.2.1
     have h3:=HO.out.2.2.2
     exact ⟨j + 1,l,some k,hid (HRow2.out.step hrb),hid HRW2.out.step,hid (SgIn.of_bad hA h1 (by omega) (by omega))⟩
   | none =>
     obtain ⟨t,hr,hl,h1,h2,h3⟩:=HO.out.2
     have hl0:=HO.out.1
     have HT : Hid (orS L (i + 1) = .ok t j ∧ l = flat t):=hid ⟨hr,hl⟩
     have hjL : j ≤ s.size:=by rw [HLZ.out] at h2;exact h2
     clear hr hl HO
     by_cases h41 : L[j]? = some 41
     ·go_wp2_with fail
      refine (HSY.out 41 j _ h41 HRW.out).mono ?_
      rintro e x1 ⟨rfl,hb⟩
      have HRow1:=hid (HRow.out.below hb)
      have HRW1:=hid (HRW.out.below hb)
      clear hb
      have r0:=HRW1.out.c0
      have r1:=HRW1.out.c1
      have rf:=HRW1.out.f1
      go_wp2_with fail
      go_meet
      have hA : atomS L i = .ok t (j + 1):=by rw [atomS_atR H0.out,if_pos rfl,HT.out.1];exact ite_some h41
      exact ⟨j + 1,l,none,hid (HRow1.out.step hrb),hid HRW1.out.step,hid (by rw [HT.out.2];exact SgIn.of_ok (by rw [HLZ.out];omega) hA)⟩
     ·go_wp2_with fail
      refine (HSN.out 41 j _ hjL h41 HRW.out).mono ?_
      rintro e x1 ⟨rfl,hb⟩
      have HRow1:=hid (HRow.out.below hb)
      have HRW1:=hid (HRW.out.below hb)
      clear hb
      have r0:=HRW1.out.c0
      have r1:=HRW1.out.c1
      have rf:=HRW1.out.f1
      go_wp2_with fail
      refine (HFL.out j j _ HRW1.out).mono ?_
      rintro e x2 ⟨rfl,hw2⟩
      have HRow2:=hid (HRow1.out.grown hw2.grow hrb)
      have HRW2:=hid (HRW1.out.trans hw2)
      clear r0 r1 rf hw2
      have r0:=HRW2.out.c0
      have r1:=HRW2.out.c1
      have rf:=HRW2.out.f1
      go_wp2_with fail
      go_meet
      have hA : atomS L i = .bad j:=by rw [atomS_atR H0.out,if_pos rfl,HT.out.1];simp only [if_neg h41]
      have h3' : l.length + 2 * (i + 1) ≤ 2 * j + 1:=h3
      exact ⟨j + 1,l,some j,hid (HRow2.out.step hrb),hid HRW2.out.step,hid (SgIn.of_bad hA hl0 (by rw [HLZ.out];omega) (by rw [HLZ.out];omega))⟩
  ·have N40:=hid hc
   clear hc
   by_cases hc : L[i]? = some 91
   ·have H0:=hid hc
    clear hc
    go_wp2_with fail
    refine (HSN.out 40 i _ hi (by rw [H0.out];decide) HP.out).mono ?_
    rintro e y1 ⟨rfl,hb⟩
    have Y1:=hid (HP.out.below hb)
    clear hb
    go_wp2_with fail
    refine (HSY.out 91 i _ H0.out Y1.out).mono ?_
    rintro e z ⟨rfl,hb⟩
    have Z:=hid (Y1.out.below hb)
    clear hb
    have hi1 : i + 1 ≤ s.size:=by have:=getE_lt H0.out;rw [HLZ.out] at this;omega
    have r0:=Z.out.c0
    have r1:=Z.out.c1
    have rf:=Z.out.f1
    go_wp2_with fail
    clear r0 r1 rf
    have HZ:=hid Z.out.step
    refine (HBR.out _ HZ.out hi1).mono ?_
    rintro e w1 ⟨d0,d1,d2,d3,j,bad,rfl,hok,hrw,ho⟩
    have hsz1:=(HZ.out.trans hrw).grow.size
    have HRW:=hid (HZ.out.trans hrw)
    have HO:=hid ho
    clear hrw ho
    go_wp2_with fail
    go_meet
    rcases HO.out with ⟨rfl,hr,hj1,hj2⟩ | ⟨k,rfl,hr,hj1,hj2⟩
    ·have hA : atomS L i = .ok (.byte (d0,d1,d2,d3)) j:=by rw [atomS_atR H0.out,if_neg (by decide),if_pos rfl,hr]
     exact ⟨j,[⟨1,d0,d1,d2,d3⟩],none,hid (new_node _ _ (by simp) (by omega) 1 d0 d1 d2 d3),hid ((HRW.out.alloc _).alloc _),hid (SgIn.of_ok (by rw [HLZ.out];omega) hA)⟩
    ·have hA : atomS L i = .bad k:=by rw [atomS_atR H0.out,if_neg (by decide),if_pos rfl,hr]
     exact ⟨j,[⟨1,d0,d1,d2,d3⟩],some k,hid (new_node _ _ (by simp) (by omega) 1 d0 d1 d2 d3),hid ((HRW.out.alloc _).alloc _),hid (SgIn.of_bad hA (by simp) (by simp;rw [HLZ.out];omega) (by rw [HLZ.out];omega))⟩
   ·have N91:=hid hc
    clear hc
    by_cases hc : L[i]? = some 46
    ·have H0:=hid hc
     clear hc
     go_wp2_with fail
     refine (HSN.out 40 i _ hi (by rw [H0.out];decide) HP.out).mono ?_
     rintro e y1 ⟨rfl,hb⟩
     have Y1:=hid (HP.out.below hb)
     clear hb
     go_wp2_with fail
     refine (HSN.out 91 i _ hi (by rw [H0.out];decide) Y1.out).mono ?_
     rintro e y2 ⟨rfl,hb⟩
     have Y2:=hid (Y1.out.below hb)
     clear hb
     go_wp2_with fail
     refine (HSY.out 46 i _ H0.out Y2.out).mono ?_
     rintro e z ⟨rfl,hb⟩
     have Z:=hid (Y2.out.below hb)
     clear hb
     have hi1 : i + 1 ≤ s.size:=by have:=getE_lt H0.out;rw [HLZ.out] at this;omega
     have r0:=Z.out.c0
     have r1:=Z.out.c1
     have rf:=Z.out.f1
     go_wp2_with fail
     clear r0 r1 rf
     have HZ:=hid Z.out.step
     refine (HOF.out _).mono ?_
     rintro e w1 ⟨d0,d1,d2,d3,rfl,hd,hb1⟩
     have HZ1:=hid (HZ.out.below hb1)
     have HD:=hid hd
     have hdok : okC (d0,d1,d2,d3):=by rw [hd];exact okC_ofL _ _ okC_zc
     clear hb1 hd
     go_wp2_with fail
     refine (HOT.out d0 d1 d2 d3 _ hdok).mono ?_
     rintro e w2 ⟨f0,f1,f2,f3,rfl,hf,hb2⟩
     have HZ2:=hid (HZ1.out.below hb2)
     have HF : Hid ((f0,f1,f2,f3) = dotC):=hid (by rw [hf,HD.out];rfl)
     have hsz2:=HZ2.out.grow.size
     clear hb2 hf
     go_wp2_with fail
     go_meet
     have hA : atomS L i = .ok (.byte (f0,f1,f2,f3)) (i + 1):=by rw [atomS_atR H0.out,if_neg (by decide),if_neg (by decide),if_pos rfl,HF.out]
     exact ⟨i + 1,[⟨1,f0,f1,f2,f3⟩],none,hid (new_node _ _ rfl hsz2 1 f0 f1 f2 f3),hid (HZ2.out.alloc _),hid (SgIn.of_ok (by rw [HLZ.out];omega) hA)⟩
    ·have N46:=hid hc
     clear hc
     by_cases hc : L[i]? = some 94
     ·have H0:=hid hc
      clear hc
      go_wp2_with fail
      refine (HSN.out 40 i _ hi (by rw [H0.out];decide) HP.out).mono ?_
      rintro e y1 ⟨rfl,hb⟩
      have Y1:=hid (HP.out.below hb)
      clear hb
      go_wp2_with fail
      refine (HSN.out 91 i _ hi (by rw [H0.out];decide) Y1.out).mono ?_
      rintro e y2 ⟨rfl,hb⟩
      have Y2:=hid (Y1.out.below hb)
      clear hb
      go_wp2_with fail
      refine (HSN.out 46 i _ hi (by rw [H0.out];decide) Y2.out).mono ?_
      rintro e y3 ⟨rfl,hb⟩
      have Y3:=hid (Y2.out.below hb)
      clear hb
      go_wp2_with fail
      refine (HSY.out 94 i _ H0.out Y3.out).mono ?_
      rintro e z ⟨rfl,hb⟩
      have Z:=hid (Y3.out.below hb)
      clear hb
      have hi1 : i + 1 ≤ s.size:=by have:=getE_lt H0.out;rw [HLZ.out] at this;omega
      have r0:=Z.out.c0
      have r1:=Z.out.c1
      have rf:=Z.out.f1
      have hszZ:=Z.out.grow.size
      go_wp2_with fail
      go_meet
      have hA : atomS L i = .ok .bgn (i + 1):=by rw [atomS_atR H0.out,if_neg (by decide),if_neg (by decide),if_neg (by decide),if_pos rfl]
      exact ⟨i + 1,[⟨8,0,0,0,0⟩],none,hid (new_node _ _ (by simp) (by omega) 8 0 0 0 0),hid (Z.out.step.alloc _),hid (SgIn.of_ok (by rw [HLZ.out];omega) hA)⟩
     ·have N94:=hid hc
      clear hc
      by_cases hc : L[i]? = some 36
      ·have H0:=hid hc
       clear hc
       go_wp2_with fail
       refine (HSN.out 40 i _ hi (by rw [H0.out];decide) HP.out).mono ?_
       rintro e y1 ⟨rfl,hb⟩
       have Y1:=hid (HP.out.below hb)
       clear hb
       go_wp2_with fail
       refine (HSN.out 91 i _ hi (by rw [H0.out];decide) Y1.out).mono ?_
       rintro e y2 ⟨rfl,hb⟩
       have Y2:=hid (Y1.out.below hb)
       clear hb
       go_wp2_with fail
       refine (HSN.out 46 i _ hi (by rw [H0.out];decide) Y2.out).mono ?_
       rintro e y3 ⟨rfl,hb⟩
       have Y3:=hid (Y2.out.below hb)
       clear hb
       go_wp2_with fail
       refine (HSN.out 94 i _ hi (by rw [H0.out];decide) Y3.out).mono ?_
       rintro e y4 ⟨rfl,hb⟩
       have Y4:=hid (Y3.out.below hb)
       clear hb
       go_wp2_with fail
       refine (HSY.out 36 i _ H0.out Y4.out).mono ?_
       rintro e z ⟨rfl,hb⟩
       have Z:=hid (Y4.out.below hb)
       clear hb
       have hi1 : i + 1 ≤ s.size:=by have:=getE_lt H0.out;rw [HLZ.out] at this;omega
       have r0:=Z.out.c0
       have r1:=Z.out.c1
       have rf:=Z.out.f1
       have hszZ:=Z.out.grow.size
       go_wp2_with fail
       go_meet
       have hA : atomS L i = .ok .fin (i + 1):=by rw [atomS_atR H0.out,if_neg (by decide),if_neg (by decide),if_neg (by decide),if_neg (by decide),if_pos rfl]
       exact ⟨i + 1,[⟨9,0,0,0,0⟩],none,hid (new_node _ _ (by simp) (by omega) 9 0 0 0 0),hid (Z.out.step.alloc _),hid (SgIn.of_ok (by rw [HLZ.out];omega) hA)⟩
      ·have N36:=hid hc
       clear hc
       go_wp2_with fail
       refine (HSN.out 40 i _ hi N40.out HP.out).mono ?_
       rintro e y1 ⟨rfl,hb⟩
       have Y1:=hid (HP.out.below hb)
       clear hb
       go_wp2_with fail
       refine (HSN.out 91 i _ hi N91.out Y1.out).mono ?_
       rintro e y2 ⟨rfl,hb⟩
       have Y2:=hid (Y1.out.below hb)
       clear hb
       go_wp2_with fail
       refine (HSN.out 46 i _ hi N46.out Y2.out).mono ?_
       rintro e y3 ⟨rfl,hb⟩
       have Y3:=hid (Y2.out.below hb)
       clear hb
       go_wp2_with fail
       refine (HSN.out 94 i _ hi N94.out Y3.out).mono ?_
       rintro e y4 ⟨rfl,hb⟩
       have Y4:=hid (Y3.out.below hb)
       clear hb
       go_wp2_with fail
       refine (HSN.out 36 i _ hi N36.out Y4.out).mono ?_
       rintro e y5 ⟨rfl,hb⟩
       have Y5:=hid (Y4.out.below hb)
       clear hb
       go_wp2_with fail
       refine (HON.out _ Y5.out).mono ?_
       rintro e w1 hone
       have hone' : ∃ a j bad,e = .returned (.int .i64 ((a : Nat) : Int)) ∧ a < 256 ∧ RW y5 rb s j bad w1 ∧ ((bad = none ∧ oneS L i = .ok a j) ∨ (∃ k,bad = some k ∧ oneS L i = .bad k ∧ j ≤ i + 1)):=by
        rcases hone with ⟨a,j,h1,h2,h3,h4,h5,h6⟩ | ⟨k,a,j,h1,h2,h3,h4,h5,h6⟩
        ·exact ⟨a,j,none,h5,h2,h6,.inl ⟨rfl,h1⟩⟩
        ·exact ⟨a,j,some k,h5,h2,h6,.inr ⟨k,rfl,h1,h4⟩⟩
       obtain ⟨a,j,bad,rfl,ha,hrw,ho⟩:=hone'
       have HRW:=hid (Y5.out.trans hrw)
       have HO:=hid ho
       clear hone hrw ho
       go_wp2_with fail
       refine (HWT.out a _ ha).mono ?_
       rintro e w2 ⟨d0,d1,d2,d3,rfl,hd,hb2⟩
       have HD:=hid hd
       have HRW2:=hid (HRW.out.below hb2)
       have hsz2:=HRW2.out.grow.size
       clear hd hb2
       go_wp2_with fail
       go_meet
       have hA0:=atomS_oneR N40.out N91.out N46.out N94.out N36.out
       rcases HO.out with ⟨rfl,hr⟩ | ⟨k,rfl,hr,hj1⟩
       ·have hA : atomS L i = .ok (.byte (d0,d1,d2,d3)) j:=by rw [hA0,hr,HD.out]
        exact ⟨j,[⟨1,d0,d1,d2,d3⟩],none,hid (new_node _ _ rfl hsz2 1 d0 d1 d2 d3),hid (HRW2.out.alloc _),hid (SgIn.of_ok (by rw [HLZ.out];omega) hA)⟩
       ·have hA : atomS L i = .bad k:=by rw [hA0,hr]
        exact ⟨j,[⟨1,d0,d1,d2,d3⟩],some k,hid (new_node _ _ rfl hsz2 1 d0 d1 d2 d3),hid (HRW2.out.alloc _),hid (SgIn.of_bad hA (by simp) (by simp;rw [HLZ.out];omega) (by rw [HLZ.out];omega))⟩
 case rest =>
  obtain ⟨j,l,bad,HRow,HRW,HSg⟩:=hcut
  go_wp2_with fail
  go_loopg [3] (s.size + 2) (fun gk v3 wr => ∃ (j : Nat) (l : List Nd) (bad : Option Nat),Hid (RowIn wr w.heap.size v3 l) ∧ Hid (RW w rb s j bad wr) ∧ Hid (SgIn L i j bad l) ∧ Hid (badM bad (s.size - j) < gk))
  case atStart => exact ⟨_,_,_,HRow,HRW,HSg,hid (by unfold badM;first | omega | (split <;> omega))⟩
  case round =>
   clear HRW HRow HSg
   obtain ⟨j,l,bad,HRow,HRW,HSg,HG⟩:=hrel
   obtain ⟨g,cap,rfl,hl0,hlc,hcap,hlo,hgl,hcs⟩:=HRow.out.form
   have hlen:=HSg.out.len
   rw [HLZ.out] at hlen
   obtain ⟨hlen,hj2⟩:=hlen
   have HCS:=hid hcs
   clear hcs
   cases bad with
   | some k =>
     have q2 : _ = some (Value.int .i64 ((k : Nat) : Int)):=HRW.out.c2
     have dk : decide (((k : Nat) : Int) < 0) = false:=by simp
     go_wp2_with fail
     go_ret
     exact ⟨g,cap,l,j,some k,rfl,HRow.out,HRW.out,HSg.out⟩
   | none =>
     have q2 : _ = some (Value.int .i64 (-1)):=HRW.out.c2
     have r0:=HRW.out.c0
     have r1:=HRW.out.c1
     have rf:=HRW.out.f1
     have hjL : j ≤ s.size:=by
      obtain ⟨_,_,_,_,_,h2,_⟩:=HSg.out
      rw [HLZ.out] at h2
      exact h2
     by_cases h42 : L[j]? = some 42
     ·go_wp2_with fail
      refine (HSY.out 42 j _ h42 HRW.out).mono ?_
      rintro e x1 ⟨rfl,hb⟩
      have H1:=hid (HRW.out.below hb)
      have HK1:=hid hb
      clear hb
      go_wp2_with fail
      refine (HSN.out 43 j _ hjL (by rw [h42];decide) H1.out).mono ?_
      rintro e x2 ⟨rfl,hb⟩
      have H2:=hid (H1.out.below hb)
      have HK2:=hid hb
      clear hb
      go_wp2_with fail
      refine (HSN.out 63 j _ hjL (by rw [h42];decide) H2.out).mono ?_
      rintro e x3 ⟨rfl,hb⟩
      have H3:=hid (H2.out.below hb)
      have HK3:=hid hb
      clear hb
      clear r0 r1 rf q2
      have r0:=H3.out.c0
      have r1:=H3.out.c1
      have rf:=H3.out.f1
      have hx3:=H3.out.grow.size
      have HO : Hid ((((x3.setCell ⟨rb,1,none⟩ (.int .i64 ((j : Int) + 1))).alloc (.cells #[.int .i64 5,.int .u64 0,.int .u64 0,.int .u64 0,.int .u64 0] 41))).ownsRow w.heap.size 41 5 (.slice (some ⟨x3.heap.size,0,none⟩) 1 1) 1 [.int .i64 5,.int .u64 0,.int .u64 0,.int .u64 0,.int .u64 0]):=hid (by
       have hB:=Blk.new (x3.setCell ⟨rb,1,none⟩ (.int .i64 ((j : Int) + 1))) 41 #[.int .i64 5,.int .u64 0,.int .u64 0,.int .u64 0,.int .u64 0]
       rw [World.size_setCell] at hB
       exact own_blk hB hx3)
      have HSRC:=hid (HCS.out ((x3.setCell ⟨rb,1,none⟩ (.int .i64 ((j : Int) + 1))).alloc (.cells #[.int .i64 5,.int .u64 0,.int .u64 0,.int .u64 0,.int .u64 0] 41)) (by
       have s1:=HK1.out.size
       have s2:=HK2.out.size
       have s3:=HK3.out.size
       exact (Below.heap_alloc _ _ _ (by simp;omega)).trans ((Below.heap_setCell _ _ _ _ (by show g ≠ rb;omega)).trans ((HK3.out.block g (by omega)).trans ((HK2.out.block g (by omega)).trans (HK1.out.block g hgl))))))
      have HNL : Hid ((l.flatMap ndCells).length = l.length * 5):=hid (flatMap_len l)
      have HON:=hid (ndCells_one l)
      have hlen4 : l.length ≤ 400:=by omega
      clear hlen hj2
      go_wp2_with (at_builtin;refine wpList_append_lies _ rfl (.tmp 138) (.tmp 139) _ rfl w.heap.size 41 i0 _ 5 40 Tryz.underlying22 hi0 hz0 hz1 hz2 rfl (by omega) _ 1 _ rfl HO.out ⟨g,0,none⟩ l.length _ (l.flatMap ndCells) rfl HNL.out HSRC.out HON.out hl0 (by unfold maxLen;omega) (by omega) (by simp;omega) _ rfl ?_)
      intro g5 cap5 x5 hown5 hgrow5 _ _
      have HR5 : Hid (RowIn x5 w.heap.size (.slice (some ⟨g5,0,none⟩) (1 + l.length) cap5) (⟨5,zc⟩ :: l)):=hid (by
       have e : 1 + l.length = (⟨5,zc⟩ :: l : List Nd).length:=by simp;omega
       rw [e] at hown5 ⊢
       exact RowIn.of_own hown5 (by simp))
      have HW5 : Hid (RW w rb s (j + 1) none x5):=hid ((H3.out.step.alloc _).app hgrow5 hx3)
      have HS5 : Hid (SgIn L i (j + 1) none (⟨5,zc⟩ :: l)):=hid (HSg.out.more 5 (.inl ⟨h42,rfl⟩))
      have HG5 : Hid (badM none (s.size - (j + 1)) < gk - 1 ∧ 0 < gk):=hid (by
       have h1:=HG.out
       have h2:=getE_lt h42
       rw [HLZ.out] at h2
       unfold badM at h1 ⊢
       dsimp only at h1 ⊢
       omega)
      clear hown5 hgrow5 HG HSg
      go_wp2_with fail
      go_roundg (gk - 1)
      case rel => exact ⟨j + 1,⟨5,zc⟩ :: l,none,HR5,HW5,HS5,hid HG5.out.1⟩
      all_goals (have:=HG5.out.2;omega)
     ·by_cases h43 : L[j]? = some 43
      ·go_wp2_with fail
       refine (HSN.out 42 j _ hjL h42 HRW.out).mono ?_
       rintro e x1 ⟨rfl,hb⟩
       have H1:=hid (HRW.out.below hb)
       have HK1:=hid hb
       clear hb
       go_wp2_with fail
       refine (HSY.out 43 j _ h43 H1.out).mono ?_
       rintro e x2 ⟨rfl,hb⟩
       have H2:=hid (H1.out.below hb)
       have HK2:=hid hb
       clear hb
       go_wp2_with fail
       refine (HSN.out 63 j _ hjL (by rw [h43];decide) H2.out).mono ?_
       rintro e x3 ⟨rfl,hb⟩
       have H3:=hid (H2.out.below hb)
       have HK3:=hid hb
       clear hb
       clear r0 r1 rf q2
       have r0:=H3.out.c0
       have r1:=H3.out.c1
       have rf:=H3.out.f1
       have hx3:=H3.out.grow.size
       have HO : Hid ((((x3.setCell ⟨rb,1,none⟩ (.int .i64 ((j : Int) + 1))).alloc (.cells #[.int .i64 6,.int .u64 0,.int .u64 0,.int .u64 0,.int .u64 0] 41))).ownsRow w.heap.size 41 5 (.slice (some ⟨x3.heap.size,0,none⟩) 1 1) 1 [.int .i64 6,.int .u64 0,.int .u64 0,.int .u64 0,.int .u64 0]):=hid (by
        have hB:=Blk.new (x3.setCell ⟨rb,1,none⟩ (.int .i64 ((j : Int) + 1))) 41 #[.int .i64 6,.int .u64 0,.int .u64 0,.int .u64 0,.int .u64 0]
        rw [World.size_setCell] at hB
        exact own_blk hB hx3)
       have HSRC:=hid (HCS.out ((x3.setCell ⟨rb,1,none⟩ (.int .i64 ((j : Int) + 1))).alloc (.cells #[.int .i64 6,.int .u64 0,.int .u64 0,.int .u64 0,.int .u64 0] 41)) (by
        have s1:=HK1.out.size
        have s2:=HK2.out.size
        have s3:=HK3.out.size
        exact (Below.heap_alloc _ _ _ (by simp;omega)).trans ((Below.heap_setCell _ _ _ _ (by show g ≠ rb;omega)).trans ((HK3.out.block g (by omega)).trans ((HK2.out.block g (by omega)).trans (HK1.out.block g hgl))))))
       have HNL : Hid ((l.flatMap ndCells).length = l.length * 5):=hid (flatMap_len l)
       have HON:=hid (ndCells_one l)
       have hlen4 : l.length ≤ 400:=by omega
       clear hlen hj2
       go_wp2_with (at_builtin;refine wpList_append_lies _ rfl (.tmp 138) (.tmp 139) _ rfl w.heap.size 41 i0 _ 5 40 Tryz.underlying22 hi0 hz0 hz1 hz2 rfl (by omega) _ 1 _ rfl HO.out ⟨g,0,none⟩ l.length _ (l.flatMap ndCells) rfl HNL.out HSRC.out HON.out hl0 (by unfold maxLen;omega) (by omega) (by simp;omega) _ rfl ?_)
       intro g5 cap5 x5 hown5 hgrow5 _ _
       have HR5 : Hid (RowIn x5 w.heap.size (.slice (some ⟨g5,0,none⟩) (1 + l.length) cap5) (⟨6,zc⟩ :: l)):=hid (by
        have e : 1 + l.length = (⟨6,zc⟩ :: l : List Nd).length:=by simp;omega
        rw [e] at hown5 ⊢
        exact RowIn.of_own hown5 (by simp))
       have HW5 : Hid (RW w rb s (j + 1) none x5):=hid ((H3.out.step.alloc _).app hgrow5 hx3)
       have HS5 : Hid (SgIn L i (j + 1) none (⟨6,zc⟩ :: l)):=hid (HSg.out.more 6 (.inr (.inl ⟨h43,rfl⟩)))
       have HG5 : Hid (badM none (s.size - (j + 1)) < gk - 1 ∧ 0 < gk):=hid (by
        have h1:=HG.out
        have h2:=getE_lt h43
        rw [HLZ.out] at h2
        unfold badM at h1 ⊢
        dsimp only at h1 ⊢
        omega)
       clear hown5 hgrow5 HG HSg
       go_wp2_with fail
       go_roundg (gk - 1)
       case rel => exact ⟨j + 1,⟨6,zc⟩ :: l,none,HR5,HW5,HS5,hid HG5.out.1⟩
       all_goals (have:=HG5.out.2;omega)
      ·by_cases h63 : L[j]? = some 63
       ·go_wp2_with fail
        refine (HSN.out 42 j _ hjL h42 HRW.out).mono ?_
        rintro e x1 ⟨rfl,hb⟩
        have H1:=hid (HRW.out.below hb)
        have HK1:=hid hb
        clear hb
        go_wp2_with fail
        refine (HSN.out 43 j _ hjL h43 H1.out).mono ?_
        rintro e x2 ⟨rfl,hb⟩
        have H2:=hid (H1.out.below hb)
        have HK2:=hid hb
        clear hb
        go_wp2_with fail
        refine (HSY.out 63 j _ h63 H2.out).mono ?_
        rintro e x3 ⟨rfl,hb⟩
        have H3:=hid (H2.out.below hb)
        have HK3:=hid hb
        clear hb
        clear r0 r1 rf q2
        have r0:=H3.out.c0
        have r1:=H3.out.c1
        have rf:=H3.out.f1
        have hx3:=H3.out.grow.size
        have HO : Hid ((((x3.setCell ⟨rb,1,none⟩ (.int .i64 ((j : Int) + 1))).alloc (.cells #[.int .i64 7,.int .u64 0,.int .u64 0,.int .u64 0,.int .u64 0] 41))).ownsRow w.heap.size 41 5 (.slice (some ⟨x3.heap.size,0,none⟩) 1 1) 1 [.int .i64 7,.int .u64 0,.int .u64 0,.int .u64 0,.int .u64 0]):=hid (by
         have hB:=Blk.new (x3.setCell ⟨rb,1,none⟩ (.int .i64 ((j : Int) + 1))) 41 #[.int .i64 7,.int .u64 0,.int .u64 0,.int .u64 0,.int .u64 0]
         rw [World.size_setCell] at hB
         exact own_blk hB hx3)
        have HSRC:=hid (HCS.out ((x3.setCell ⟨rb,1,none⟩ (.int .i64 ((j : Int) + 1))).alloc (.cells #[.int .i64 7,.int .u64 0,.int .u64 0,.int .u64 0,.int .u64 0] 41)) (by
         have s1:=HK1.out.size
         have s2:=HK2.out.size
         have s3:=HK3.out.size
         exact (Below.heap_alloc _ _ _ (by simp;omega)).trans ((Below.heap_setCell _ _ _ _ (by show g ≠ rb;omega)).trans ((HK3.out.block g (by omega)).trans ((HK2.out.block g (by omega)).trans (HK1.out.block g hgl))))))
        have HNL : Hid ((l.flatMap ndCells).length = l.length * 5):=hid (flatMap_len l)
        have HON:=hid (ndCells_one l)
        have hlen4 : l.length ≤ 400:=by omega
        clear hlen hj2
        go_wp2_with (at_builtin;refine wpList_append_lies _ rfl (.tmp 138) (.tmp 139) _ rfl w.heap.size 41 i0 _ 5 40 Tryz.underlying22 hi0 hz0 hz1 hz2 rfl (by omega) _ 1 _ rfl HO.out ⟨g,0,none⟩ l.length _ (l.flatMap ndCells) rfl HNL.out HSRC.out HON.out hl0 (by unfold maxLen;omega) (by omega) (by simp;omega) _ rfl ?_)
        intro g5 cap5 x5 hown5 hgrow5 _ _
        have HR5 : Hid (RowIn x5 w.heap.size (.slice (some ⟨g5,0,none⟩) (1 + l.length) cap5) (⟨7,zc⟩ :: l)):=hid (by
         have e : 1 + l.length = (⟨7,zc⟩ :: l : List Nd).length:=by simp;omega
         rw [e] at hown5 ⊢
         exact RowIn.of_own hown5 (by simp))
        have HW5 : Hid (RW w rb s (j + 1) none x5):=hid ((H3.out.step.alloc _).app hgrow5 hx3)
        have HS5 : Hid (SgIn L i (j + 1) none (⟨7,zc⟩ :: l)):=hid (HSg.out.more 7 (.inr (.inr ⟨h63,rfl⟩)))
        have HG5 : Hid (badM none (s.size - (j + 1)) < gk - 1 ∧ 0 < gk):=hid (by
         have h1:=HG.out
         have h2:=getE_lt h63
         rw [HLZ.out] at h2
         unfold badM at h1 ⊢
         dsimp only at h1 ⊢
         omega)
        clear hown5 hgrow5 HG HSg
        go_wp2_with fail
        go_roundg (gk - 1)
        case rel => exact ⟨j + 1,⟨7,zc⟩ :: l,none,HR5,HW5,HS5,hid HG5.out.1⟩
        all_goals (have:=HG5.out.2;omega)
       ·go_wp2_with fail
        refine (HSN.out 42 j _ hjL h42 HRW.out).mono ?_
        rintro e x1 ⟨rfl,hb⟩
        have H1:=hid (HRW.out.below hb)
        have HK1:=hid hb
        clear hb
        go_wp2_with fail
        refine (HSN.out 43 j _ hjL h43 H1.out).mono ?_
        rintro e x2 ⟨rfl,hb⟩
        have H2:=hid (H1.out.below hb)
        have HK2:=hid hb
        clear hb
        go_wp2_with fail
        refine (HSN.out 63 j _ hjL h63 H2.out).mono ?_
        rintro e x3 ⟨rfl,hb⟩
        have H3:=hid (H2.out.below hb)
        have HK3:=hid hb
        clear hb
        have HO : Hid (OutIs (atomR L i) L i 0 j none l):=hid (HSg.out.out fun c hc => ⟨fun e => h42 (by rw [hc,e]),fun e => h43 (by rw [hc,e]),fun e => h63 (by rw [hc,e])⟩)
        have HR3 : Hid (RowIn x3 w.heap.size (.slice (some ⟨g,0,none⟩) l.length cap) l):=hid (((HRow.out.below HK1.out).below HK2.out).below HK3.out)
        go_wp2_with fail
        go_ret
        exact ⟨g,cap,l,j,none,rfl,HR3.out,H3.out,HO.out⟩
end Go.Proofs.YthcahjnniendnacGreatDoor
namespace Wf
theorem AtomsIn.len {s : List UInt8} {i j : Nat} {bad : Option Nat} {rows : List (List Nd)} (h : AtomsIn s i j bad rows) : sumN rows ≤ 2 * s.length + 1 ∧ j ≤ 2 * s.length + 3:=by
 obtain ⟨_,_,h⟩:=h
 cases bad with
 | none => obtain ⟨ts,_,_,h1,h2,h3⟩:=h;omega
 | some k => obtain ⟨_,_,h1,h2⟩:=h;omega
theorem SidesOut.len {s : List UInt8} {i j : Nat} {bad : Option Nat} {rows : List (List Nd)} (h : SidesOut s i j bad rows) : sumN rows ≤ 2 * s.length + 2 ∧ 0 < rows.length:=by
 obtain ⟨_,_,hne,h⟩:=h
 refine ⟨?_,List.length_pos_iff.2 hne⟩
 cases bad with
 | none => obtain ⟨ts,_,_,h1,h2,h3⟩:=h;omega
 | some k => obtain ⟨_,h1,h2⟩:=h;omega
theorem OutIs.far {r : PR Rx} {s : List UInt8} {i j m : Nat} {bad : Option Nat} {l : List Nd} (h : OutIs r s i m j bad l) : j ≤ 2 * s.length + 3:=by
 obtain ⟨_,h⟩:=h
 cases bad with
 | none => obtain ⟨t,_,_,h1,h2,h3⟩:=h;omega
 | some k => obtain ⟨_,h1,h2⟩:=h;omega
end Wf
namespace Go.Proofs.YthcahjnniendnacGreatDoor
open Go.RowKit Wf
theorem info_row : (Tryz.prog.info? 22).map (fun i => (i.zero,i.size,i.bytes)) = some (some (.slice none 0 0),1,24):=by kernel_rfl
def RowsAt (w : World) (lo : Nat) (vs : List Value) (rows : List (List Nd)) : Prop:=vs.length = rows.length ∧ ∀ (k : Nat) (u : Value) (l : List Nd),vs[k]? = some u → rows[k]? = some l → RowIn w lo u l
theorem RowsAt.keep {w w' : World} {lo : Nat} {vs : List Value} {rows : List (List Nd)} (h : RowsAt w lo vs rows) (hk : ∀ u l,RowIn w lo u l → RowIn w' lo u l) : RowsAt w' lo vs rows:=⟨h.1,fun k u l h1 h2 => hk u l (h.2 k u l h1 h2)⟩
theorem RowsAt.snoc {w : World} {lo : Nat} {vs : List Value} {rows : List (List Nd)} {u : Value} {l : List Nd} (h : RowsAt w lo vs rows) (hu : RowIn w lo u l) : RowsAt w lo (vs ++ [u]) (rows ++ [l]):=by
 refine ⟨by simp [h.1],fun k v m h1 h2 => ?_⟩
 have hl:=h.1
 by_cases hk : k < vs.length
 ·rw [List.getElem?_append_left hk] at h1
  rw [List.getElem?_append_left (by omega)] at h2
  exact h.2 k v m h1 h2
 ·have h1':=List.getElem?_eq_some_iff.1 h1
  have hkl:=h1'.1
  simp at hkl
  obtain rfl : k = vs.length:=by omega
  simp at h1
  rw [hl] at h2
  simp at h2
  subst h1 h2
  exact hu
theorem RowsAt.nil (w : World) (lo : Nat) : RowsAt w lo [] []:=⟨rfl,fun k u l h1 => by simp at h1⟩
theorem RowIn.app {w w' : World} {lo base n : Nat} {v vv : Value} {xs : List Value} {l : List Nd} (h : RowIn w lo v l) (hown : w.ownsRow base 22 1 vv n xs) (hg : w.grownBy w' vv.ownBlock) : RowIn w' lo v l:=by
 obtain ⟨g,cap,cur,hv,h1,h2,h3,h4,h5,h6⟩:=h
 refine ⟨g,cap,cur,hv,h1,h2,h3,h4,(hg.block g (Blk.lt h5) ?_).trans h5,h6⟩
 intro e
 rcases hown.2 with ⟨rfl,_⟩ | ⟨g',cap',cur',rfl,_,k2,_⟩
 ·simp [Value.ownBlock] at e
 ·have hgg : g = g':=by simpa [Value.ownBlock] using e
  subst hgg
  have hc : some (Obj.cells cur' 22 (0,0)) = some (Obj.cells cur 41 (0,0)):=k2.symm.trans h5
  injection hc with hc
  injection hc with _ hc _
  exact absurd hc (by decide)
theorem RW.own {w0 w w' : World} {rb i base n size : Nat} {T : TypeId} {bad : Option Nat} {s : ByteArray} {vv : Value} {xs : List Value} (h : RW w0 rb s i bad w) (hown : w.ownsRow base T size vv n xs) (hb : w0.heap.size ≤ base) (hg : w.grownBy w' vv.ownBlock) : RW w0 rb s i bad w':=by
 have hlt:=h.lt
 have hsz:=h.grow.size
 exact ⟨(hg.block rb (Blk.lt h.par) (fun e => by have:=(hown.lt rb e.symm).1;omega)).trans h.par,
  ⟨hg.os.trans h.grow.os,hg.tape.trans h.grow.tape,hg.output.trans h.grow.output,Nat.le_trans hsz hg.size,fun q hq hn => (hg.block q (by omega) (fun e => by have:=(hown.lt q e.symm).1;omega)).trans (h.grow.block q hq hn)⟩,h.lt⟩
theorem own_oneR {w : World} {base n size : Nat} {T : TypeId} {v : Value} {xs : List Value} {w' : World} {rb : Nat} (h : w.ownsRow base T size v n xs) (hg : w.grownBy w' (some rb)) (hb : rb < base) : w'.ownsRow base T size v n xs :=
 World.ownsRow.kept h hg (.inr (fun e => by have:=(h.lt rb e).1;omega))
theorem own_below' {w : World} {base n size : Nat} {T : TypeId} {v : Value} {xs : List Value} {w' : World} (h : w.ownsRow base T size v n xs) (hb : Below w.heap.size w w') : w'.ownsRow base T size v n xs :=
 World.ownsRow.kept (row:=none) h ⟨hb.os,hb.tape,hb.output,hb.size,fun q hq _ => hb.block q hq⟩ (by cases v.ownBlock <;> simp)
theorem own_form1 {w : World} {base n : Nat} {T : TypeId} {v : Value} {xs : List Value} (h : w.ownsRow base T 1 v n xs) (hn : 0 < n) :
 ∃ g cap,v = .slice (some ⟨g,0,none⟩) n cap ∧ n ≤ cap ∧ cap ≤ 9223372036854775807 ∧ base ≤ g ∧ g < w.heap.size ∧ ∀ W : World,W.heap[g]? = w.heap[g]? → ∀ (k : Nat) (u : Value),xs[k]? = some u → W.cell? ⟨g,k,none⟩ = some u:=by
 rcases h.2 with ⟨_,h0⟩ | ⟨g,cap,cur,hv,h1,h2,h3,h4,h5,h6⟩
 ·omega
 ·refine ⟨g,cap,hv,h3,by unfold maxLen at h4;omega,h1,Blk.lt (show Blk w g T cur from h2),fun W hW k u hu => ?_⟩
  have hB : Blk W g T cur:=hW.trans h2
  rw [hB.cell,← Array.getElem?_toList]
  rw [← h6,List.getElem?_take] at hu
  split at hu
  ·exact hu
  ·cases hu
theorem new_oneR (W : World) (t : TypeId) (x : Value) (g : Nat) (hg : g = W.heap.size) : ∀ (j : Nat) (u : Value),[x][j]? = some u → (W.alloc (.cells #[x] t)).cell? ((⟨g,0,none⟩ : Addr).add j) = some u:=by
 intro j u hu
 subst hg
 rw [add_mk,Nat.zero_add,(Blk.new W t #[x]).cell]
 simpa using hu
theorem own_form0 {w : World} {base n : Nat} {T : TypeId} {v : Value} {xs : List Value} (h : w.ownsRow base T 1 v n xs) :
 ∃ A cap,v = .slice A n cap ∧ n ≤ cap ∧ cap ≤ 9223372036854775807 ∧ (0 < n → ∃ g,A = some ⟨g,0,none⟩ ∧ g < w.heap.size ∧ ∀ W : World,W.heap[g]? = w.heap[g]? → ∀ (k : Nat) (u : Value),xs[k]? = some u → W.cell? ⟨g,k,none⟩ = some u):=by
 rcases Nat.eq_zero_or_pos n with rfl | hn
 ·rcases h.2 with ⟨rfl,_⟩ | ⟨g,cap,cur,hv,h1,h2,h3,h4,h5,h6⟩
  ·exact ⟨none,0,rfl,by omega,by omega,fun h => by omega⟩
  ·exact ⟨_,cap,hv,h3,by unfold maxLen at h4;omega,fun h => by omega⟩
 ·obtain ⟨g,cap,hv,h1,h2,h3,h4,h5⟩:=own_form1 h hn
  exact ⟨_,cap,hv,h1,h2,fun _ => ⟨g,rfl,h4,h5⟩⟩
theorem stop_yesR {s : List UInt8} {j : Nat} (h : stopS s j = true) : s[j]? = none ∨ s[j]? = some 124 ∨ s[j]? = some 41:=by
 unfold stopS at h
 cases hc : s[j]? with
 | none => exact .inl rfl
 | some c =>
   rw [hc] at h
   simp only [Bool.or_eq_true,beq_iff_eq] at h
   rcases h with rfl | rfl
   ·exact .inr (.inl rfl)
   ·exact .inr (.inr rfl)
theorem stop_noR {s : List UInt8} {j : Nat} (h : ¬ stopS s j = true) : ∃ c,s[j]? = some c ∧ c.toNat ≠ 124 ∧ c.toNat ≠ 41:=by
 unfold stopS at h
 cases hc : s[j]? with
 | none => rw [hc] at h;exact absurd rfl h
 | some c =>
   rw [hc] at h
   simp only [Bool.or_eq_true,beq_iff_eq,not_or] at h
   exact ⟨c,rfl,fun e => h.1 (UInt8.toNat_inj.1 e),fun e => h.2 (UInt8.toNat_inj.1 e)⟩
theorem rall_w {rb : Nat} {s : ByteArray} {i : Nat} (w : World) (h : RW w rb s i none w) (hs : s.size ≤ 200) (hi : i ≤ s.size)
 (hat : ∀ j W,i ≤ j → j < s.size → RW W rb s j none W → Calls Tryz.prog 63 #[.pointer (some ⟨rb,0,none⟩)] W (RRdIs (atomR s.data.toList j) rb s j 0 W)) :
 Calls Tryz.prog 39 #[.pointer (some ⟨rb,0,none⟩)] w (RRdIs (orS s.data.toList i) rb s i 1 w):=by
 obtain ⟨L,hL⟩ : ∃ L,L = s.data.toList:=⟨_,rfl⟩
 have hLZ : L.length = s.size:=by rw [hL];simp
 have HLZ:=hid hLZ
 have HSY : Hid (∀ (j : Nat) W,L[j]? = some 124 → RW w rb s j none W → Calls Tryz.prog 64 #[.pointer (some ⟨rb,0,none⟩),.int .u8 124] W (RSeesIs true W)):=hid fun j W hc hw => rsees_yes (c:=124) W hw.here hs (by rw [← hL];exact hc)
 have HSN : Hid (∀ (j : Nat) (bad : Option Nat) W,(bad = none → j ≤ s.size ∧ L[j]? ≠ some 124) → RW w rb s j bad W → Calls Tryz.prog 64 #[.pointer (some ⟨rb,0,none⟩),.int .u8 124] W (RSeesIs false W)):=hid fun j bad W hj hw => by
  cases bad with
  | none => exact rsees_no (c:=124) W hw.here hs (hj rfl).1 (by rw [← hL];exact (hj rfl).2)
  | some k => exact rsees_bad 124 W hw.here
 have HGT : Hid (∀ (j : Nat) (c : UInt8),L[j]? = some c → ∃ hi : j < s.size,s[j] = c):=hid fun j c hc => at_getR (by rw [← hL];exact hc)
 have HAT:=hid hat
 have HP:=hid h
 have hrb:=h.lt
 unfold RSeesIs at HSY HSN
 unfold RRdIs at HAT ⊢
 rw [← hL] at HAT ⊢
 obtain ⟨i0,hi0,hz0,hz1,hz2⟩:=info_parts info_node
 obtain ⟨r0',hri0,hrz0,hrz1,hrz2⟩:=info_parts info_row
 clear hL hLZ h hat
 go_enter Tryz.func39,Tryz.ntmps39
 go_wp2_with fail
 go_loopg [3] (s.size + 2) (fun gk v3 wr => ∃ (j : Nat) (vs : List Value) (rows : List (List Nd)),Hid (wr.ownsRow w.heap.size 22 1 v3 rows.length vs) ∧ Hid (RowsAt wr w.heap.size vs rows) ∧ Hid (RW w rb s j none wr) ∧ Hid (SidesIn L i j rows) ∧ Hid (s.size - j + 1 < gk))
 case atStart => exact ⟨i,[],[],hid (World.ownsRow_nil _ _ _ _),hid (RowsAt.nil _ _),HP,hid (SidesIn.start (by rw [HLZ.out];exact hi)),hid (by omega)⟩
 case round =>
  rename World => wo
  obtain ⟨j,vS,sides,HOS,HRS,HRW,HSI,HG⟩:=hrel
  have hjj : i ≤ j ∧ j ≤ s.size:=by
   obtain ⟨_,_,_,_,_,h1,h2,_⟩:=HSI.out
   rw [HLZ.out] at h2
   exact ⟨h1,h2⟩
  obtain ⟨hij,hjs⟩:=hjj
  have hW:=HRW.out.grow.size
  have q2 : _ = some (Value.int .i64 (-1)):=HRW.out.c2
  go_upto_block 2 with fail
  go_cut [4,5] from 13 to 108 (fun v4 v5 wx => ∃ (j' : Nat) (bad : Option Nat) (vs : List Value) (rows : List (List Nd)),Hid (wx.ownsRow wo.heap.size 22 1 v4 rows.length vs) ∧ Hid (RowsAt wx wo.heap.size vs rows) ∧ Hid (RW wo rb s j' bad wx) ∧ Hid (AtomsIn L j j' bad rows) ∧ Hid (bad = none → stopS L j' = true))
  case first =>
   go_wp2_with fail
   go_loopg [4] (s.size + 2) (fun gk v4 wx => ∃ (j' : Nat) (bad : Option Nat) (vs : List Value) (rows : List (List Nd)),Hid (wx.ownsRow wo.heap.size 22 1 v4 rows.length vs) ∧ Hid (RowsAt wx wo.heap.size vs rows) ∧ Hid (RW wo rb s j' bad wx) ∧ Hid (AtomsIn L j j' bad rows) ∧ Hid (badM bad (s.size - j') < gk))
   case atStart => exact ⟨j,none,[],[],hid (World.ownsRow_nil _ _ _ _),hid (RowsAt.nil _ _),hid HRW.out.here,hid (AtomsIn.start (by rw [HLZ.out];exact hjs)),hid (by rw [badM_none];omega)⟩
   case round =>
    clear q2
    obtain ⟨j',bad,vs,rows,HOA,HRA,HRX,HAI,HG2⟩:=hrel
    have r0:=HRX.out.c0
    have r1:=HRX.out.c1
    cases bad with
    | some k =>
      have q2 : _ = some (Value.int .i64 ((k : Nat) : Int)):=HRX.out.c2
      have dk : decide (((k : Nat) : Int) < 0) = false:=by simp
      go_wp2_with fail
      go_quiet (fail)
      go_wp2_with fail
      go_meet
      exact ⟨j',some k,vs,rows,hid (own_below' HOA.out (below_drewN (Below.refl _ _) _)),hid (HRA.out.keep fun u l hr => hr.below (below_drewN (Below.refl _ _) _)),hid (HRX.out.below (below_drewN (Below.refl _ _) _)),HAI,hid fun h => by cases h⟩
    | none =>
      have q2 : _ = some (Value.int .i64 (-1)):=HRX.out.c2
      have hj' : j ≤ j' ∧ j' ≤ s.size ∧ rows.length ≤ 402:=by
       obtain ⟨_,_,ts,_,_,h1,h2,h3⟩:=HAI.out
       rw [HLZ.out] at h2
       have:=sumN_len rows
       exact ⟨h1,h2,by omega⟩
      obtain ⟨hj1,hj2,hrl⟩:=hj'
      by_cases hst : stopS L j' = true
      ·rcases stop_yesR hst with hc | hc | hc
       ·have hge:=List.getElem?_eq_none_iff.1 hc
        rw [HLZ.out] at hge
        have d1 : decide ((j' : Int) < (s.size : Int)) = false:=by simp;omega
        have d2 : decide (j' < s.size) = false:=by simp;omega
        clear hc hge
        go_wp2_with fail
        go_quiet (fail)
        go_wp2_with fail
        go_meet
        exact ⟨j',none,vs,rows,hid (own_below' HOA.out (below_drewN (Below.refl _ _) _)),hid (HRA.out.keep fun u l hr => hr.below (below_drewN (Below.refl _ _) _)),hid (HRX.out.below (below_drewN (Below.refl _ _) _)),HAI,hid fun _ => hst⟩
       ·obtain ⟨hjn,he⟩:=HGT.out _ _ hc
        have hz : (0 : Int) ≤ (j' : Int):=by omega
        have d1 : decide ((j' : Int) < (s.size : Int)) = true:=by simp;omega
        have d3 : ((s[j'].toNat : Int) != 124) = false:=by rw [he];decide
        clear hc he
        go_wp2_with fail
        go_quiet (fail)
        go_wp2_with fail
        go_meet
        exact ⟨j',none,vs,rows,hid (own_below' HOA.out (below_drewN (Below.refl _ _) _)),hid (HRA.out.keep fun u l hr => hr.below (below_drewN (Below.refl _ _) _)),hid (HRX.out.below (below_drewN (Below.refl _ _) _)),HAI,hid fun _ => hst⟩
       ·obtain ⟨hjn,he⟩:=HGT.out _ _ hc
        have hz : (0 : Int) ≤ (j' : Int):=by omega
        have d1 : decide ((j' : Int) < (s.size : Int)) = true:=by simp;omega
        have d3 : ((s[j'].toNat : Int) != 124) = true:=by rw [he];decide
        have d4 : ((s[j'].toNat : Int) != 41) = false:=by rw [he];decide
        clear hc he
        go_wp2_with fail
        go_quiet (fail)
        go_wp2_with fail
        go_meet
        exact ⟨j',none,vs,rows,hid (own_below' HOA.out (below_drewN (Below.refl _ _) _)),hid (HRA.out.keep fun u l hr => hr.below (below_drewN (Below.refl _ _) _)),hid (HRX.out.below (below_drewN (Below.refl _ _) _)),HAI,hid fun _ => hst⟩
      ·obtain ⟨c,hc,hc1,hc2⟩:=stop_noR hst
       obtain ⟨hjn,he⟩:=HGT.out _ _ hc
       have hz : (0 : Int) ≤ (j' : Int):=by omega
       have d1 : decide ((j' : Int) < (s.size : Int)) = true:=by simp;omega
       have d3 : ((s[j'].toNat : Int) != 124) = true:=by rw [he];simp;omega
       have d4 : ((s[j'].toNat : Int) != 41) = true:=by rw [he];simp;omega
       have hstf : stopS L j' = false:=by simpa using hst
       have HSTF:=hid hstf
       clear hc he hst hstf
       go_wp2_with fail
       go_quiet (fail)
       go_wp2_with fail
       have hBd : Below wr.heap.size wr (wr.drewN nq):=below_drewN (Below.refl _ _) _
       have HRXd:=hid (HRX.out.below hBd)
       have HRAd:=hid (HRA.out.keep fun u l hr => hr.below hBd)
       have HOAd:=hid (own_below' HOA.out hBd)
       have hszd : wo.heap.size ≤ (wr.drewN nq).heap.size:=HRXd.out.grow.size
       clear hBd
       generalize wr.drewN nq = wd at *
       refine (HAT.out j' wd (by omega) hjn HRXd.out.here).mono ?_
       rintro e x1 ⟨g,cap,l,j2,bad2,rfl,hrow,hrw,ho⟩
       have HX1:=hid (HRXd.out.trans hrw)
       have hrbo : rb < wo.heap.size:=by omega
       have HR1:=hid (HRAd.out.keep fun u l hr => hr.grown hrw.grow hrbo)
       have HN1:=hid (hrow.lower hszd)
       have HO1:=hid (own_oneR HOAd.out hrw.grow hrbo)
       have HAI2:=hid (HAI.out.more HSTF.out ho)
       have hx1:=HX1.out.grow.size
       have HG3 : Hid (badM bad2 (s.size - j2) < gk - 1 ∧ 0 < gk):=hid (by
        have h1:=HG2.out
        have h0:=ho.1
        rw [badM_none] at h1
        cases bad2 with
        | some k => exact ⟨by show 0 < gk - 1;omega,by omega⟩
        | none =>
          obtain ⟨_,t,_,_,h4,h5,h6⟩:=ho
          rw [HLZ.out] at h5
          rw [badM_none]
          omega)
       clear hrow hrw ho HG2
       go_wp2_with (at_builtin;refine wpList_append_own _ rfl (.tmp 61) (.tmp 63) _ rfl wo.heap.size 22 r0' _ 1 24 Tryz.underlying69 hri0 hrz0 hrz1 hrz2 rfl (by omega) _ rows.length vs rfl (HO1.out.alloc _) ⟨x1.heap.size,0,none⟩ 1 1 [.slice (some ⟨g,0,none⟩) l.length cap] rfl rfl (new_oneR _ _ _ _ rfl) (by intro u hu;simp at hu;subst hu;rfl) (by unfold maxLen;omega) (by omega) (by simp;omega) ?_)
       intro v' w' hown' hg' _
       have hBa : Below x1.heap.size x1 (x1.alloc (.cells #[.slice (some ⟨g,0,none⟩) l.length cap] 22)):=(Below.refl _ _).alloc (Nat.le_refl _) _
       have HO2 : Hid (w'.ownsRow wo.heap.size 22 1 v' (rows ++ [l]).length (vs ++ [.slice (some ⟨g,0,none⟩) l.length cap])):=hid (by rw [List.length_append];exact hown')
       have HR2 : Hid (RowsAt w' wo.heap.size (vs ++ [.slice (some ⟨g,0,none⟩) l.length cap]) (rows ++ [l])):=hid ((HR1.out.snoc HN1.out).keep fun u l hr => (hr.below hBa).app (HO1.out.alloc _) hg')
       have HX2 : Hid (RW wo rb s j2 bad2 w'):=hid ((HX1.out.alloc _).own (HO1.out.alloc _) (Nat.le_refl _) hg')
       clear hown' hg' hBa
       go_wp2_with fail
       go_roundg (gk - 1)
       case rel => exact ⟨j2,bad2,_,_,HO2,HR2,HX2,HAI2,hid HG3.out.1⟩
       all_goals (have:=HG3.out.2;omega)
  case rest =>
   rename World => wa
   obtain ⟨j',bad,vs,rows,HOA,HRA,HRX,HAI,HST⟩:=hcut
   have HRO:=hid (HAI.out.row HST.out)
   have hlen:=HAI.out.len
   rw [HLZ.out] at hlen
   have hrl:=sumN_len rows
   have HLN : Hid (sumN rows ≤ 402):=hid (by omega)
   have hrl2 : rows.length ≤ 402:=by omega
   obtain ⟨A,cap,rfl,hcap,hcap2,hmf⟩:=own_form0 HOA.out
   have HMF:=hid hmf
   have HRD:=HRA
   have hLO:=HRX.out.grow.size
   clear hmf hlen hrl q2 HAI HST
   go_wp2_with fail
   go_loopw [6,7] (fun vx vi wx => ∃ (k : Nat) (q : Int),k ≤ rows.length ∧ q = (k : Int) - 1 ∧ vi = .int .i64 q ∧ Hid (True → RowIn wx wo.heap.size vx (joinN 3 [⟨2,zc⟩] (rows.drop k))) ∧ Hid (Below wa.heap.size wa wx)) (fun _ vi _ => (intOf vi + 1).toNat)
   case atStart => exact ⟨rows.length,_,Nat.le_refl _,rfl,by go_num,hid (fun _ => by rw [List.drop_length];exact new_node _ _ rfl hLO 2 0 0 0 0),hid ((Below.refl _ _).alloc (Nat.le_refl _) _)⟩
   case round =>
    obtain ⟨k,q,hk,hq,rfl,HJ,HB⟩:=hrel
    have hsz:=HB.out.size
    cases k with
    | zero =>
      obtain rfl : q = -1:=by omega
      clear hq hk
      have hJ:=HJ.out trivial
      rw [List.drop_zero] at hJ
      obtain ⟨sd,hsd⟩ : ∃ sd,sd = joinN 3 [⟨2,zc⟩] rows:=⟨_,rfl⟩
      rw [← hsd] at hJ HRO
      clear hsd
      have HSD:=hid hJ
      obtain ⟨g6,cap6,rfl,hs0,hsc,hcp6,hlo6,hg6,_⟩:=hJ.form
      have HX:=hid (HRX.out.below HB.out)
      have HXW:=hid (HRW.out.trans HX.out)
      have hrbw : rb < w.heap.size:=hrb
      have HS1:=hid (own_oneR HOS.out HX.out.grow hrbw)
      have HSR1:=hid (HRS.out.keep fun u l hr => hr.grown HX.out.grow hrbw)
      have hsl : sides.length ≤ 402:=by
       obtain ⟨_,_,_,_,_,_,h2,h3⟩:=HSI.out
       rw [HLZ.out] at h2
       have:=sumN_len sides
       omega
      have hww : w.heap.size ≤ wr.heap.size:=HXW.out.grow.size
      have HSDW:=hid (HSD.out.lower hW)
      clear hJ HJ
      go_wp2_with (at_builtin;refine wpList_append_own _ rfl (.tmp 94) (.tmp 96) _ rfl w.heap.size 22 r0' _ 1 24 Tryz.underlying69 hri0 hrz0 hrz1 hrz2 rfl (by omega) _ sides.length vS rfl (HS1.out.alloc _) ⟨wr.heap.size,0,none⟩ 1 1 [.slice (some ⟨g6,0,none⟩) sd.length cap6] rfl rfl (new_oneR _ _ _ _ rfl) (by intro u hu;simp at hu;subst hu;rfl) (by unfold maxLen;omega) (by omega) (by simp;omega) ?_)
      intro v' w5 hown' hg' _
      have hBa : Below wr.heap.size wr (wr.alloc (.cells #[.slice (some ⟨g6,0,none⟩) sd.length cap6] 22)):=(Below.refl _ _).alloc (Nat.le_refl _) _
      have HO5 : Hid (w5.ownsRow w.heap.size 22 1 v' (sides ++ [sd]).length (vS ++ [.slice (some ⟨g6,0,none⟩) sd.length cap6])):=hid (by rw [List.length_append];exact hown')
      have HR5 : Hid (RowsAt w5 w.heap.size (vS ++ [.slice (some ⟨g6,0,none⟩) sd.length cap6]) (sides ++ [sd])):=hid ((HSR1.out.snoc HSDW.out).keep fun u l hr => (hr.below hBa).app (HS1.out.alloc _) hg')
      have HX5 : Hid (RW w rb s j' bad w5):=hid ((HXW.out.alloc _).own (HS1.out.alloc _) (Nat.le_refl _) hg')
      clear hown' hg' hBa
      by_cases hm : bad = none ∧ L[j']? = some 124
      ·obtain ⟨rfl,hm⟩:=hm
       have HSI2:=hid (HSI.out.more HRO.out hm)
       have HG2 : Hid (s.size - (j' + 1) + 1 < gk - 1 ∧ 0 < gk):=hid (by
        have h1:=HG.out
        obtain ⟨_,_,_,_,h4,h5,_⟩:=HRO.out
        have h6:=getE_lt hm
        rw [HLZ.out] at h6
        omega)
       have hjx : j' + 1 ≤ s.size:=by have:=getE_lt hm;rw [HLZ.out] at this;omega
       clear HG HSI
       go_wp2_with fail
       refine (HSY.out j' _ hm HX5.out).mono ?_
       rintro e w6 ⟨rfl,hb6⟩
       have HX6:=hid (HX5.out.below hb6)
       have HO6:=hid (own_below' HO5.out hb6)
       have HR6:=hid (HR5.out.keep fun u l hr => hr.below hb6)
       clear hb6
       have r0:=HX6.out.c0
       have r1:=HX6.out.c1
       have rf:=HX6.out.f1
       go_wp2_with fail
       go_roundg (gk - 1)
       case rel => exact ⟨j' + 1,_,_,hid (own_oneR HO6.out (HX6.out.here.step).grow hrbw),hid (HR6.out.keep fun u l hr => hr.step hrbw),hid HX6.out.step,HSI2,hid HG2.out.1⟩
       all_goals (have:=HG2.out.2;omega)
      ·have hm2 : bad = none → j' ≤ s.size ∧ L[j']? ≠ some 124:=by
        rintro rfl
        obtain ⟨_,_,_,_,_,h5,_⟩:=HRO.out
        rw [HLZ.out] at h5
        exact ⟨h5,fun e => hm ⟨rfl,e⟩⟩
       have HSO:=hid (HSI.out.last HRO.out fun e => (hm2 e).2)
       have HM2:=hid hm2
       clear hm hm2 HSI HG
       go_wp2_with fail
       refine (HSN.out j' bad _ HM2.out HX5.out).mono ?_
       rintro e x6 ⟨rfl,hb6⟩
       have HX6:=hid (HX5.out.below hb6)
       have HO6:=hid (own_below' HO5.out hb6)
       have HRD2:=hid (HR5.out.keep fun u l hr => hr.below hb6)
       clear hb6
       obtain ⟨R2,hR2⟩ : ∃ R2,R2 = sides ++ [sd]:=⟨_,rfl⟩
       obtain ⟨V2,hV2⟩ : ∃ V2,V2 = vS ++ [.slice (some ⟨g6,0,none⟩) sd.length cap6]:=⟨_,rfl⟩
       rw [← hR2] at HSO HO6 HRD2
       rw [← hV2] at HO6 HRD2
       clear hR2 hV2 HO5 HR5 HRD HMF HLN hLO
       have hlen2:=HSO.out.len
       rw [HLZ.out] at hlen2
       have hrl3:=sumN_len R2
       have hR0 : 0 < R2.length:=hlen2.2
       have HLN : Hid (sumN R2 ≤ 402):=hid (by omega)
       have hrl4 : R2.length ≤ 402:=by omega
       obtain ⟨A2,cap2',rfl,hcapb,hcapb2,hmf⟩:=own_form0 HO6.out
       have HMF:=hid hmf
       have HRD:=HRD2
       have hLO:=HX6.out.grow.size
       clear hmf hlen2 hrl3
       go_wp2_with fail
       go_loopw [10,11] (fun vx vi wx => ∃ (k : Nat) (q : Int),k ≤ R2.length ∧ q = (k : Int) - 1 ∧ vi = .int .i64 q ∧ Hid (k < R2.length → RowIn wx w.heap.size vx (joinN 4 [] (R2.drop k))) ∧ Hid (Below x6.heap.size x6 wx)) (fun _ vi _ => (intOf vi + 1).toNat)
       case atStart => exact ⟨R2.length,_,Nat.le_refl _,rfl,by go_num,hid (fun h => absurd h (Nat.lt_irrefl _)),hid (Below.refl _ _)⟩
       case round =>
        obtain ⟨k,q,hk,hq,rfl,HJ,HB⟩:=hrel
        have hsz:=HB.out.size
        cases k with
        | zero =>
          obtain rfl : q = -1:=by omega
          clear hq hk
          have hJ:=HJ.out hR0
          rw [List.drop_zero] at hJ
          have HAO:=hid HSO.out.all
          obtain ⟨sd2,hsd2⟩ : ∃ sd2,sd2 = joinN 4 [] R2:=⟨_,rfl⟩
          rw [← hsd2] at hJ HAO
          clear hsd2
          have HJJ:=hid hJ
          obtain ⟨g7,cap7,rfl,hs7,_,_,_,_,_⟩:=hJ.form
          have HX7:=hid (HX6.out.below HB.out)
          clear hJ HJ
          go_wp2_with fail
          go_ret
          exact ⟨g7,cap7,sd2,j',bad,rfl,HJJ.out,HX7.out,HAO.out⟩
        | succ m =>
          obtain rfl : q = (m : Int):=by push_cast at hq;omega
          clear hq
          obtain ⟨u,hu⟩ : ∃ u,V2[m]? = some u:=⟨_,List.getElem?_eq_getElem (by rw [HRD.out.1];omega)⟩
          obtain ⟨l,hl⟩ : ∃ l,R2[m]? = some l:=⟨_,List.getElem?_eq_getElem (by omega)⟩
          have hRm:=(HRD.out.2 m u l hu hl).keep (w':=wr) fun q _ hq => HB.out.block q hq
          obtain ⟨ga,rfl,hga,hcs⟩:=HMF.out (by omega)
          have hcell:=hcs wr (HB.out.block ga hga) m u hu
          have hga2 : ga < wr.heap.size:=by omega
          have hcell2:=hcs (wr.alloc (.cells #[.int .i64 4,.int .u64 0,.int .u64 0,.int .u64 0,.int .u64 0] 41)) ((Below.heap_alloc _ _ _ hga2).trans (HB.out.block ga hga)) m u hu
          have HRM:=hid hRm
          obtain ⟨g1,cap1,rfl,hl0,hlc,hcap1,hlo1,hg1,hcs1⟩:=hRm.form
          have HC1:=hid hcs1
          have hll : l.length + 1 ≤ 402:=Nat.le_trans (sumN_get R2 m l hl) HLN.out
          have hm1 : (m : Int) < (R2.length : Int):=by omega
          have HL:=hid hl
          clear hcs hu hl hcs1 hRm
          by_cases hlast : m + 1 = R2.length
          ·have d : ((m : Int) == (R2.length : Int) - 1) = true:=by simp;omega
           have HN : Hid (joinN 4 [] (R2.drop m) = l):=hid (joinN_last 4 [] HL.out hlast)
           clear hlast
           go_wp2_with fail
           go_roundw
           case rel => exact ⟨m,_,by omega,rfl,by go_num,hid fun _ => by rw [HN.out];exact HRM.out,HB⟩
           case measure => simp [intOf]
          ·have d : ((m : Int) == (R2.length : Int) - 1) = false:=by simp;omega
           have hlt : m + 1 < R2.length:=by omega
           have HN:=hid (joinN_step 4 [] HL.out hlt)
           have hJ:=HJ.out (by omega)
           have hle:=joinN_len 4 [] (R2.drop (m + 1))
           have hle2:=sumN_drop R2 (m + 1)
           obtain ⟨sd,hsd⟩ : ∃ sd,sd = joinN 4 [] (R2.drop (m + 1)):=⟨_,rfl⟩
           rw [← hsd] at HN hJ hle
           obtain ⟨g2,cap2,rfl,hs0,hsc,hcap2,hlo2,hg2,hcs2⟩:=hJ.form
           have hsl : sd.length ≤ 403:=by
            have h1:=HLN.out
            simp at hle
            omega
           have HC2:=hid hcs2
           have HO : Hid ((wr.alloc (.cells #[.int .i64 4,.int .u64 0,.int .u64 0,.int .u64 0,.int .u64 0] 41)).ownsRow x6.heap.size 41 5 (.slice (some ⟨wr.heap.size,0,none⟩) 1 1) 1 [.int .i64 4,.int .u64 0,.int .u64 0,.int .u64 0,.int .u64 0]):=hid (own_blk (Blk.new _ _ _) hsz)
           have HSRC:=hid (HC1.out (wr.alloc (.cells #[.int .i64 4,.int .u64 0,.int .u64 0,.int .u64 0,.int .u64 0] 41)) (Below.heap_alloc _ _ _ hg1))
           have HNL : Hid ((l.flatMap ndCells).length = l.length * 5):=hid (flatMap_len l)
           have HONE:=hid (ndCells_one l)
           have HNL2 : Hid ((sd.flatMap ndCells).length = sd.length * 5):=hid (flatMap_len sd)
           have HONE2:=hid (ndCells_one sd)
           have hbase : x6.heap.size ≤ (wr.alloc (.cells #[.int .i64 4,.int .u64 0,.int .u64 0,.int .u64 0,.int .u64 0] 41)).heap.size:=by simp;omega
           have HBA : Hid (Below x6.heap.size x6 (wr.alloc (.cells #[.int .i64 4,.int .u64 0,.int .u64 0,.int .u64 0,.int .u64 0] 41))):=hid (HB.out.alloc hsz _)
           clear hsd hJ hle hle2 hcs2 HJ
           go_wp2_with (first
            | (at_builtin;refine wpList_append_lies _ rfl (.tmp 127) (.tmp 131) _ rfl x6.heap.size 41 i0 _ 5 40 Tryz.underlying22 hi0 hz0 hz1 hz2 rfl (by omega) _ 1 _ rfl HO.out ⟨g1,0,none⟩ l.length _ (l.flatMap ndCells) rfl HNL.out HSRC.out HONE.out hl0 (by unfold maxLen;omega) (by omega) hbase _ rfl ?_;intro g3 cap3 w3 hown3 hgrow3 hat3 hlt3;have HGR:=hid hgrow3;have HO3:=hid hown3;have hs3:=hgrow3.size;have HSY : Hid (∀ (j : Nat) (u : Value),(sd.flatMap ndCells)[j]? = some u → w3.cell? ((⟨g2,0,none⟩ : Addr).add j) = some u):=hid (HC2.out w3 ((hgrow3.block g2 (by simp;omega) (fun e => absurd (show g2 = wr.heap.size from Option.some.inj e) (by omega))).trans (Below.heap_alloc _ _ _ hg2)));have hbase3 : x6.heap.size ≤ w3.heap.size:=(by omega);clear hown3 hgrow3 hat3)
            | (at_builtin;refine wpList_append_lies _ rfl (.tmp 133) (.tmp 134) _ rfl x6.heap.size 41 i0 _ 5 40 Tryz.underlying22 hi0 hz0 hz1 hz2 rfl (by omega) _ (1 + l.length) _ rfl HO3.out ⟨g2,0,none⟩ sd.length _ (sd.flatMap ndCells) rfl HNL2.out HSY.out HONE2.out hs0 (by unfold maxLen;omega) (by omega) hbase3 _ rfl ?_;intro g4 cap4 w4 hown4 hgrow4 hat4 hlt4))
           have HR4 : Hid (RowIn w4 w.heap.size (.slice (some ⟨g4,0,none⟩) (1 + l.length + sd.length) cap4) (joinN 4 [] (R2.drop m))):=hid (by
            have e1 : 1 + l.length + sd.length = (⟨4,zc⟩ :: (l ++ sd) : List Nd).length:=by simp;omega
            have e2 : [Value.int .i64 4,.int .u64 0,.int .u64 0,.int .u64 0,.int .u64 0] ++ l.flatMap ndCells ++ sd.flatMap ndCells = (⟨4,zc⟩ :: (l ++ sd) : List Nd).flatMap ndCells:=by simp [List.flatMap_append,ndCells,zc]
            rw [HN.out]
            rw [e1,e2] at hown4
            rw [e1]
            exact (RowIn.of_own hown4 (by simp)).lower hLO)
           have HB4 : Hid (Below x6.heap.size x6 w4):=hid ((HBA.out.grown HGR.out hbase fun q hq => (HO.out.lt q hq).1).grown hgrow4 hbase3 fun q hq => (HO3.out.lt q hq).1)
           clear hown4 hgrow4
           go_wp2_with fail
           go_roundw
           case rel => exact ⟨m,_,by omega,rfl,by go_num,hid fun _ => HR4.out,HB4⟩
           case measure => simp [intOf]
    | succ m =>
      obtain rfl : q = (m : Int):=by push_cast at hq;omega
      clear hq
      obtain ⟨u,hu⟩ : ∃ u,vs[m]? = some u:=⟨_,List.getElem?_eq_getElem (by rw [HRD.out.1];omega)⟩
      obtain ⟨l,hl⟩ : ∃ l,rows[m]? = some l:=⟨_,List.getElem?_eq_getElem (by omega)⟩
      have hRm:=(HRD.out.2 m u l hu hl).keep (w':=wr) fun q _ hq => HB.out.block q hq
      obtain ⟨ga,rfl,hga,hcs⟩:=HMF.out (by omega)
      have hcell:=hcs wr (HB.out.block ga hga) m u hu
      have hga2 : ga < wr.heap.size:=by omega
      have hcell2:=hcs (wr.alloc (.cells #[.int .i64 3,.int .u64 0,.int .u64 0,.int .u64 0,.int .u64 0] 41)) ((Below.heap_alloc _ _ _ hga2).trans (HB.out.block ga hga)) m u hu
      have HRM:=hid hRm
      obtain ⟨g1,cap1,rfl,hl0,hlc,hcap1,hlo1,hg1,hcs1⟩:=hRm.form
      have HC1:=hid hcs1
      have hll : l.length + 1 ≤ 402:=Nat.le_trans (sumN_get rows m l hl) HLN.out
      have hm1 : (m : Int) < (rows.length : Int):=by omega
      have HL:=hid hl
      clear hcs hu hl hcs1 hRm
      by_cases hlast : m + 1 = rows.length
      ·have d : ((m : Int) == (rows.length : Int) - 1) = true:=by simp;omega
       have HN : Hid (joinN 3 [⟨2,zc⟩] (rows.drop m) = l):=hid (joinN_last 3 [⟨2,zc⟩] HL.out hlast)
       clear hlast
       go_wp2_with fail
       go_roundw
       case rel => exact ⟨m,_,by omega,rfl,by go_num,hid fun _ => by rw [HN.out];exact HRM.out,HB⟩
       case measure => simp [intOf]
      ·have d : ((m : Int) == (rows.length : Int) - 1) = false:=by simp;omega
       have hlt : m + 1 < rows.length:=by omega
       have HN:=hid (joinN_step 3 [⟨2,zc⟩] HL.out hlt)
       have hJ:=HJ.out (trivial)
       have hle:=joinN_len 3 [⟨2,zc⟩] (rows.drop (m + 1))
       have hle2:=sumN_drop rows (m + 1)
       obtain ⟨sd,hsd⟩ : ∃ sd,sd = joinN 3 [⟨2,zc⟩] (rows.drop (m + 1)):=⟨_,rfl⟩
       rw [← hsd] at HN hJ hle
       obtain ⟨g2,cap2,rfl,hs0,hsc,hcap2,hlo2,hg2,hcs2⟩:=hJ.form
       have hsl : sd.length ≤ 403:=by
        have h1:=HLN.out
        simp at hle
        omega
       have HC2:=hid hcs2
       have HO : Hid ((wr.alloc (.cells #[.int .i64 3,.int .u64 0,.int .u64 0,.int .u64 0,.int .u64 0] 41)).ownsRow wa.heap.size 41 5 (.slice (some ⟨wr.heap.size,0,none⟩) 1 1) 1 [.int .i64 3,.int .u64 0,.int .u64 0,.int .u64 0,.int .u64 0]):=hid (own_blk (Blk.new _ _ _) hsz)
       have HSRC:=hid (HC1.out (wr.alloc (.cells #[.int .i64 3,.int .u64 0,.int .u64 0,.int .u64 0,.int .u64 0] 41)) (Below.heap_alloc _ _ _ hg1))
       have HNL : Hid ((l.flatMap ndCells).length = l.length * 5):=hid (flatMap_len l)
       have HONE:=hid (ndCells_one l)
       have HNL2 : Hid ((sd.flatMap ndCells).length = sd.length * 5):=hid (flatMap_len sd)
       have HONE2:=hid (ndCells_one sd)
       have hbase : wa.heap.size ≤ (wr.alloc (.cells #[.int .i64 3,.int .u64 0,.int .u64 0,.int .u64 0,.int .u64 0] 41)).heap.size:=by simp;omega
       have HBA : Hid (Below wa.heap.size wa (wr.alloc (.cells #[.int .i64 3,.int .u64 0,.int .u64 0,.int .u64 0,.int .u64 0] 41))):=hid (HB.out.alloc hsz _)
       clear hsd hJ hle hle2 hcs2 HJ
       go_wp2_with (first
        | (at_builtin;refine wpList_append_lies _ rfl (.tmp 85) (.tmp 89) _ rfl wa.heap.size 41 i0 _ 5 40 Tryz.underlying22 hi0 hz0 hz1 hz2 rfl (by omega) _ 1 _ rfl HO.out ⟨g1,0,none⟩ l.length _ (l.flatMap ndCells) rfl HNL.out HSRC.out HONE.out hl0 (by unfold maxLen;omega) (by omega) hbase _ rfl ?_;intro g3 cap3 w3 hown3 hgrow3 hat3 hlt3;have HGR:=hid hgrow3;have HO3:=hid hown3;have hs3:=hgrow3.size;have HSY : Hid (∀ (j : Nat) (u : Value),(sd.flatMap ndCells)[j]? = some u → w3.cell? ((⟨g2,0,none⟩ : Addr).add j) = some u):=hid (HC2.out w3 ((hgrow3.block g2 (by simp;omega) (fun e => absurd (show g2 = wr.heap.size from Option.some.inj e) (by omega))).trans (Below.heap_alloc _ _ _ hg2)));have hbase3 : wa.heap.size ≤ w3.heap.size:=(by omega);clear hown3 hgrow3 hat3)
        | (at_builtin;refine wpList_append_lies _ rfl (.tmp 91) (.tmp 92) _ rfl wa.heap.size 41 i0 _ 5 40 Tryz.underlying22 hi0 hz0 hz1 hz2 rfl (by omega) _ (1 + l.length) _ rfl HO3.out ⟨g2,0,none⟩ sd.length _ (sd.flatMap ndCells) rfl HNL2.out HSY.out HONE2.out hs0 (by unfold maxLen;omega) (by omega) hbase3 _ rfl ?_;intro g4 cap4 w4 hown4 hgrow4 hat4 hlt4))
       have HR4 : Hid (RowIn w4 wo.heap.size (.slice (some ⟨g4,0,none⟩) (1 + l.length + sd.length) cap4) (joinN 3 [⟨2,zc⟩] (rows.drop m))):=hid (by
        have e1 : 1 + l.length + sd.length = (⟨3,zc⟩ :: (l ++ sd) : List Nd).length:=by simp;omega
        have e2 : [Value.int .i64 3,.int .u64 0,.int .u64 0,.int .u64 0,.int .u64 0] ++ l.flatMap ndCells ++ sd.flatMap ndCells = (⟨3,zc⟩ :: (l ++ sd) : List Nd).flatMap ndCells:=by simp [List.flatMap_append,ndCells,zc]
        rw [HN.out]
        rw [e1,e2] at hown4
        rw [e1]
        exact (RowIn.of_own hown4 (by simp)).lower hLO)
       have HB4 : Hid (Below wa.heap.size wa w4):=hid ((HBA.out.grown HGR.out hbase fun q hq => (HO.out.lt q hq).1).grown hgrow4 hbase3 fun q hq => (HO3.out.lt q hq).1)
       clear hown4 hgrow4
       go_wp2_with fail
       go_roundw
       case rel => exact ⟨m,_,by omega,rfl,by go_num,hid fun _ => HR4.out,HB4⟩
       case measure => simp [intOf]
end Go.Proofs.YthcahjnniendnacGreatDoor
namespace Wf
theorem hexS_badle {s : List UInt8} {i k : Nat} (hi : i ≤ s.length) (h : hexS s i = .bad k) : k ≤ s.length:=by
 unfold hexS at h
 split at h
 ·cases h;omega
 ·split at h
  ·cases h;omega
  ·split at h
   ·cases h;omega
   ·split at h
    ·cases h;omega
    ·cases h
theorem oneS_badle {s : List UInt8} {i k : Nat} (hi : i ≤ s.length) (h : oneS s i = .bad k) : k ≤ s.length:=by
 unfold oneS at h
 split at h
 ·cases h;omega
 ·split at h
  ·split at h
   ·cases h;omega
   ·split at h
    ·exact hexS_badle hi h
    ·split at h
     ·cases h
     ·cases h;omega
  ·split at h
   ·cases h;omega
   ·cases h
theorem itemS_badle {s : List UInt8} {i k : Nat} (hi : i ≤ s.length) (h : itemS s i = .bad k) : k ≤ s.length:=by
 unfold itemS at h
 split at h
 ·rename_i k' e
  cases h
  exact oneS_badle hi e
 ·rename_i lo j e
  have h1:=oneS_ok e
  split at h
  ·rename_i e45
   have:=getE_lt e45
   split at h
   ·rename_i k' e2
    cases h
    exact oneS_badle (by omega) e2
   ·split at h
    ·cases h;omega
    ·cases h
  ·cases h
theorem itemsS_badle {s : List UInt8} : ∀ (n i : Nat) (c : Cls) (k : Nat),s.length - i ≤ n → i ≤ s.length → itemsS s i c = .bad k → k ≤ s.length:=by
 intro n
 induction n with
 | zero =>
   intro i c k hn hi h
   by_cases h1 : s[i]? = some 93
   ·rw [itemsS_end c h1] at h;cases h
   ·cases ht : itemS s i with
    | bad k' => rw [itemsS_bad c h1 ht] at h;cases h;exact itemS_badle hi ht
    | ok p j => have:=itemS_ok ht;omega
 | succ n ih =>
   intro i c k hn hi h
   by_cases h1 : s[i]? = some 93
   ·rw [itemsS_end c h1] at h;cases h
   ·cases ht : itemS s i with
    | bad k' => rw [itemsS_bad c h1 ht] at h;cases h;exact itemS_badle hi ht
    | ok p j =>
      have:=itemS_ok ht
      rw [itemsS_more c h1 ht] at h
      exact ih j _ k (by omega) this.2.1 h
theorem bracketS_badle {s : List UInt8} {i k : Nat} (hi : i ≤ s.length) (h : bracketS s i = .bad k) : k ≤ s.length:=by
 unfold bracketS at h
 split at h
 ·rename_i e
  have:=getE_lt e
  split at h
  ·rename_i k' e2
   cases h
   exact itemsS_badle _ _ _ _ (Nat.le_refl _) (by omega) e2
  ·cases h
 ·exact itemsS_badle _ _ _ _ (Nat.le_refl _) hi h
theorem read_badle {s : List UInt8} : ∀ (n i : Nat),s.length - i ≤ n → i ≤ s.length →
 (∀ k,atomS s i = .bad k → k ≤ s.length) ∧ (∀ k,catS s i = .bad k → k ≤ s.length) ∧ (∀ k,orS s i = .bad k → k ≤ s.length):=by
 intro n
 induction n with
 | zero =>
   intro i hn hi
   obtain rfl : i = s.length:=by omega
   have hst : stopS s s.length = true:=by unfold stopS;simp
   have hC : catS s s.length = .ok .empty s.length:=by rw [catS,if_pos hst]
   refine ⟨fun k h => ?_,fun k h => ?_,fun k h => ?_⟩
   ·rw [atomS,dif_neg (by omega)] at h;cases h;omega
   ·rw [hC] at h;cases h
   ·rw [orS,hC] at h;simp at h
 | succ n ih =>
   intro i hn hi
   have hA : ∀ k,atomS s i = .bad k → k ≤ s.length:=by
    intro k h
    rw [atomS] at h
    split at h
    ·rename_i hlt
     split at h
     ·split at h
      ·rename_i k' e
       cases h
       exact (ih (i + 1) (by omega) (by omega)).2.2 _ e
      ·rename_i t j e
       have:=(read_ok _ (i + 1) (Nat.le_refl _) (by omega)).2.2 _ _ e
       split at h
       ·cases h
       ·cases h;exact this.2.1
     ·split at h
      ·split at h
       ·rename_i k' e;cases h;exact bracketS_badle (by omega) e
       ·cases h
      ·split at h
       ·cases h
       ·split at h
        ·cases h
        ·split at h
         ·cases h
         ·split at h
          ·rename_i k' e;cases h;exact oneS_badle hi e
          ·cases h
    ·cases h;omega
   have hC : ∀ k,catS s i = .bad k → k ≤ s.length:=by
    intro k h
    rw [catS] at h
    split at h
    ·cases h
    ·split at h
     ·rename_i k' e;cases h;exact hA _ e
     ·rename_i t j e
      have h1:=(read_ok _ i (Nat.le_refl _) hi).1 _ _ e
      have h2:=signsS_ok _ j t (Nat.le_refl _) h1.2.1 h1.2.2.1
      split at h
      ·cases h
      ·split at h
       ·split at h
        ·rename_i k' e2;cases h;exact (ih _ (by omega) h2.2.1).2.1 _ e2
        ·cases h
       ·cases h;omega
   refine ⟨hA,hC,fun k h => ?_⟩
   rw [orS] at h
   split at h
   ·rename_i k' e;cases h;exact hC _ e
   ·rename_i t j e
    have h1:=(read_ok _ i (Nat.le_refl _) hi).2.1 _ _ e
    split at h
    ·rename_i e2
     have:=getE_lt e2
     split at h
     ·split at h
      ·rename_i k' e3;cases h;exact (ih (j + 1) (by omega) (by omega)).2.2 _ e3
      ·cases h
     ·cases h;omega
    ·cases h
theorem orS_badle {s : List UInt8} {k : Nat} (h : orS s 0 = .bad k) : k ≤ s.length:=(read_badle _ 0 (Nat.le_refl _) (by omega)).2.2 k h
end Wf
namespace Go.Proofs.YthcahjnniendnacGreatDoor
open Go.RowKit Wf
theorem rall_c {rb : Nat} {s : ByteArray} (hs : s.size ≤ 200) : ∀ (n i : Nat) (W : World),s.size - i < n → RW W rb s i none W → i ≤ s.size →
 Calls Tryz.prog 39 #[.pointer (some ⟨rb,0,none⟩)] W (RRdIs (orS s.data.toList i) rb s i 1 W):=by
 intro n
 induction n with
 | zero => intro i W hn;omega
 | succ n ih =>
   intro i W hn h hi
   exact rall_w W h hs hi fun j W' hij hj hw => ratom_c W' hw hs hj fun W'' hw' hj1 => ih (j + 1) W'' (by omega) hw' hj1
def RParseIs (s : ByteArray) (w : World) (e : Ending) (w' : World) : Prop:=Below w.heap.size w w' ∧
 ((200 < s.size ∧ e = .returned (.tuple #[.slice none 0 0,.int .i64 0,.int .i64 3])) ∨
  (s.size ≤ 200 ∧ ∃ t,orS s.data.toList 0 = .ok t s.size ∧ 60 < (flat t).length ∧ e = .returned (.tuple #[.slice none 0 0,.int .i64 0,.int .i64 3])) ∨
  (s.size ≤ 200 ∧ ∃ t g cap,orS s.data.toList 0 = .ok t s.size ∧ (flat t).length ≤ 60 ∧ e = .returned (.tuple #[.slice (some ⟨g,0,none⟩) (flat t).length cap,.int .i64 0,.int .i64 0]) ∧ RowIn w' w.heap.size (.slice (some ⟨g,0,none⟩) (flat t).length cap) (flat t)) ∨
  (s.size ≤ 200 ∧ ∃ k : Nat,(orS s.data.toList 0 = .bad k ∨ ∃ t,orS s.data.toList 0 = .ok t k ∧ k ≠ s.size) ∧ k ≤ s.size ∧ e = .returned (.tuple #[.slice none 0 0,.int .i64 (k : Int),.int .i64 5])))
theorem RW.out {w w' : World} {o : Obj} {i : Nat} {bad : Option Nat} {s : ByteArray} (h : RW (w.alloc o) w.heap.size s i bad w') : Below w.heap.size w w':=by
 have hg:=h.grow
 have hb : Below w.heap.size w (w.alloc o):=(Below.refl _ _).alloc (Nat.le_refl _) _
 exact ⟨hg.os.trans hb.os,hg.tape.trans hb.tape,hg.output.trans hb.output,Nat.le_trans hb.size hg.size,fun q hq => (hg.block q (by simp;omega) (fun e => by have:=Option.some.inj e;omega)).trans (hb.block q hq)⟩
theorem RParse_c (s : ByteArray) (w : World) (hs63 : s.size ≤ 9223372036854775807) : Calls Tryz.prog 12 #[.string s] w (RParseIs s w):=by
 by_cases hs : 200 < s.size
 ·have hd : decide ((200 : Int) < (s.size : Int)) = true:=by simp;omega
  have hd2 : (200 : Int) < (s.size : Int):=by omega
  unfold RParseIs
  go_enter Tryz.func12,Tryz.ntmps12
  go_wp2
  go_ret3
  exact ⟨Below.refl _ _,.inl ⟨hs,rfl⟩⟩
 ·have hd : decide ((200 : Int) < (s.size : Int)) = false:=by simp;omega
  have hs2 : s.size ≤ 200:=by omega
  have h0 : RW (w.alloc (.cells #[.string s,.int .i64 0,.int .i64 (-1)] 98)) w.heap.size s 0 none (w.alloc (.cells #[.string s,.int .i64 0,.int .i64 (-1)] 98)):=RW.start (Blk.new w _ _)
  have HAL:=hid (rall_c hs2 (s.size + 1) 0 _ (by omega) h0 (by omega))
  have hLZ : s.data.toList.length = s.size:=by simp
  have HLZ:=hid hLZ
  have HFL : Hid (∀ (j k : Nat) W,RW (w.alloc (.cells #[.string s,.int .i64 0,.int .i64 (-1)] 98)) w.heap.size s j none W → Calls Tryz.prog 40 #[.pointer (some ⟨w.heap.size,0,none⟩),.int .i64 (k : Int)] W (RFailIs w.heap.size s j (some k) W)):=hid fun j k W hw => rfail_good W hw.here k
  obtain ⟨W0,hW0⟩ : ∃ W0,W0 = w.alloc (.cells #[.string s,.int .i64 0,.int .i64 (-1)] 98):=⟨_,rfl⟩
  have HOUT : Hid (∀ i bad w',RW W0 w.heap.size s i bad w' → Below w.heap.size w w'):=hid (by rw [hW0];exact fun i bad w' h => h.out)
  have hsz0 : Hid (w.heap.size ≤ W0.heap.size):=hid (by rw [hW0];simp)
  have HW0:=hid hW0
  unfold RRdIs at HAL
  unfold RFailIs at HFL
  unfold RParseIs
  rw [← hW0] at HAL HFL
  clear h0 hLZ hs hW0
  go_enter Tryz.func12,Tryz.ntmps12
  go_wp2_with fail
  rw [← HW0.out]
  refine HAL.out.mono ?_
  rintro e w1 ⟨g,cap,l,j,bad,rfl,hrow,hrw,ho⟩
  have HX:=hid hrw
  have HRow:=hid (hrow.lower hsz0.out)
  have HO:=hid ho
  have r1:=hrw.c1
  clear hrow hrw ho HAL
  cases bad with
  | some k =>
    have q2 : w1.cell? ⟨w.heap.size,2,none⟩ = some (.int .i64 (k : Int)):=HX.out.c2
    have dk : decide ((k : Int) < 0) = false:=by simp
    have dk2 : decide ((0 : Int) ≤ (k : Int)) = true:=by simp
    have hks : k ≤ s.size:=by have:=orS_badle HO.out.2.1;rwa [HLZ.out] at this
    go_wp2_with fail
    go_region
    go_wp2_with fail
    go_ret3
    exact ⟨(HOUT.out _ _ _ HX.out).drew,.inr (.inr (.inr ⟨hs2,k,.inl HO.out.2.1,hks,rfl⟩))⟩
  | none =>
    have q2 : w1.cell? ⟨w.heap.size,2,none⟩ = some (.int .i64 (-1)):=HX.out.c2
    obtain ⟨t,hr,hl,h1,h2,h3⟩:=HO.out.2
    have h2':=h2
    rw [HLZ.out] at h2'
    have HR:=hid hr
    have HL:=hid hl
    clear hr hl h2 HO
    by_cases hj : j = s.size
    ·have d1 : decide ((j : Int) < (s.size : Int)) = false:=by simp;omega
     have d2 : decide (j < s.size) = false:=by simp;omega
     obtain ⟨N,hN⟩ : ∃ N,N = l.length:=⟨_,rfl⟩
     rw [← hN] at HRow ⊢
     have HN:=hid hN
     have HRow' : Hid (RowIn w1 w.heap.size (.slice (some ⟨g,0,none⟩) N cap) (flat t)):=hid (by have:=HRow.out;rwa [HL.out] at this)
     have HJ:=hid hj
     clear hN HRow hj
     by_cases h60 : 60 < N
     ·have d3 : decide ((60 : Int) < (N : Int)) = true:=by simp;omega
      go_wp2_with fail
      go_ret3
      exact ⟨HOUT.out _ _ _ HX.out,.inr (.inl ⟨hs2,t,by rw [HR.out,HJ.out],by rw [← HL.out,← HN.out];exact h60,rfl⟩)⟩
     ·have d3 : decide ((60 : Int) < (N : Int)) = false:=by simp;omega
      go_wp2_with fail
      go_ret3
      refine ⟨HOUT.out _ _ _ HX.out,.inr (.inr (.inl ⟨hs2,t,g,cap,by rw [HR.out,HJ.out],by rw [← HL.out,← HN.out];omega,by rw [← HL.out,← HN.out];rfl,?_⟩))⟩
      have h5:=HRow'.out
      rw [HN.out,HL.out] at h5
      exact h5
    ·have d1 : decide ((j : Int) < (s.size : Int)) = true:=by simp;omega
     have d2 : decide (j < s.size) = true:=by simp;omega
     have HJ:=hid hj
     clear hj
     go_wp2_with fail
     refine (HFL.out j j _ HX.out).mono ?_
     rintro e w2 ⟨rfl,hw2⟩
     have HX2:=hid (HX.out.trans hw2)
     have q3 : w2.cell? ⟨w.heap.size,2,none⟩ = some (.int .i64 (j : Int)):=hw2.c2
     have dk2 : decide ((0 : Int) ≤ (j : Int)) = true:=by simp
     clear hw2
     go_wp2_with fail
     go_region
     go_wp2_with fail
     go_ret3
     exact ⟨(HOUT.out _ _ _ HX2.out).drew,.inr (.inr (.inr ⟨hs2,j,.inr ⟨t,HR.out,HJ.out⟩,h2',rfl⟩))⟩
end Go.Proofs.YthcahjnniendnacGreatDoor
