/-
  FindA, FindB, FindC.
-/
import Derived.Test.YthhcpbfgoofppaaGreatDoorGAll
import Derived.Test.YthhcpbfgoofppaaGreatDoorGAuto
import Derived.Test.YthhcpbfgoofppaaGreatDoorGMake
import Derived.Test.YthhcpbfgoofppaaGreatDoorGPh
import Derived.Maps.AppendAt
set_option linter.unusedVariables false
set_option linter.unusedSimpArgs false
set_option maxRecDepth 100000
set_option maxHeartbeats 8000000
open Go.Lib (hid)
namespace Go.Proofs.YthhcpbfgoofppaaGreatDoor
open Go.RowKit Wf
def numO : Option Nat → Int
 | some j => (j : Int)
 | none => -1
theorem long_is (t : Rx) (s : List UInt8) (i : Nat) : lastL (runL (progL t) s i) = numO (longO s t i):=by
 unfold runL longO lastL
 rw [upTo_iff (fun k _ => ends_fits t s i k)]
 cases (Go.Proofs.YthhcpbfgoofppaaGreatDoor.upTo_ (Fits s t i) (s.length + 1)).getLast? <;> rfl
def chkF (l : List Nd) (n : Nat) : Int:=if chk l ≠ 0 then chk l else if 400 < n then 3 else 0
def FOfIs (t : Rx) (w : World) (e : Ending) (w' : World) : Prop :=
 ∃ (a km : Nat) (pv : Value) (Own : Nat → Prop),e = .returned (.tuple #[.agg #[.pointer (some ⟨a,0,none⟩)],.nilIface]) ∧ AEnv (progL t) a km pv Own [] [] w' ∧ Below w.heap.size w w' ∧ ∀ k,Own k → w.heap.size ≤ k
def FOfNo (n : Int) (w : World) (e : Ending) (w' : World) : Prop:=e = .returned (.tuple #[.agg #[.pointer none],errV n]) ∧ Below w.heap.size w w'
theorem fof_ok (l : List Nd) (t : Rx) (hl : l = flat t) (ht : l.length ≤ 60) (tx : ByteArray) (hx : tx.size ≤ 400) (v : Value) (w : World) (hr : RdN w v l) :
 Calls Tryz.prog 89 #[v,.string tx] w (FOfIs t w):=by
 have hchk : chk l = 0:=by rw [hl];exact chk_flat t (by rw [← hl];exact ht)
 have HCH:=hid hchk
 have HOF:=hid fun W h => Of_ok l t hl v W ht h
 have HNW:=hid fun pv W h => New_ok (progL t) (progL_ok t (by rw [← hl];exact ht)) pv W h
 have HR:=hid hr
 have hx1 : ¬ (400 < tx.size):=by omega
 have hx2 : decide ((400 : Int) < (tx.size : Int)) = false:=by simp;omega
 clear hr hchk hl hx1
 go_enter Tryz.func89,Tryz.ntmps89
 go_wp2_with fail
 have HW:=hid ((Below.refl w.heap.size w).alloc (Nat.le_refl _) (.cells #[.pointer none] 162))
 have HB:=hid (Blk.new w 162 #[.pointer none])
 refine (Check_any l v _ (HR.out.below HW.out)).mono ?_
 rintro e w1 ⟨rfl,hb1⟩
 rw [HCH.out,errV_zero]
 have hsz0 : (w.alloc (.cells #[.pointer none] 162)).heap.size = w.heap.size + 1:=by simp
 have HB1:=hid (HB.out.kept hb1)
 have HW1:=hid (HW.out.trans (hb1.mono (by omega)))
 have hs1 : w.heap.size + 1 ≤ w1.heap.size:=by have:=hb1.size;omega
 clear hb1 hsz0
 go_wp2_with fail
 refine (HOF.out w1 (HR.out.below HW1.out)).mono ?_
 rintro e w2 ⟨A,cap,rfl,hrd,_,hb2⟩
 have HRD:=hid hrd
 have HB2:=hid (HB1.out.kept hb2)
 have HW2:=hid (HW1.out.trans (hb2.mono (by omega)))
 have hs2 : w.heap.size + 1 ≤ w2.heap.size:=by have:=hb2.size;omega
 clear hb2 hrd
 go_wp2_with fail
 refine (HNW.out _ w2 HRD.out).mono ?_
 rintro e w3 ⟨a,km,pv,Own,rfl,he3,hb3,ho3⟩
 have HE3:=hid he3
 have HB3:=hid (HB2.out.kept hb3)
 have HW3:=hid (HW2.out.trans (hb3.mono (by omega)))
 have HO3:=hid ho3
 have hs3 : w.heap.size + 1 ≤ w3.heap.size:=by have:=hb3.size;omega
 have f0 : w3.cell? ⟨w.heap.size,0,none⟩ = some (.pointer none):=HB3.out.cell 0
 have z0 : w3.frozen? ⟨w.heap.size,0,none⟩ = false:=HB3.out.frozen 0
 clear he3 hb3 ho3
 go_wp2_with fail
 have hk:=HB3.out.set_ 0 (.pointer (some ⟨a,0,none⟩))
 have hno : ¬ Own w.heap.size:=fun h => by have:=HO3.out _ h;omega
 refine bodyPost_ret (v:=.tuple #[.agg #[.pointer (some ⟨a,0,none⟩)],.nilIface]) ?_ rfl ⟨a,km,pv,Own,rfl,HE3.out.set_ hno _,HW3.out.setCell (Nat.le_refl _) _,fun k hk => by have:=HO3.out k hk;omega⟩
 have k0 : (w3.setCell ⟨w.heap.size,0,none⟩ (.pointer (some ⟨a,0,none⟩))).cell? ⟨w.heap.size,0,none⟩ = some (.pointer (some ⟨a,0,none⟩)):=hk.cell 0
 simp [results,Tryz.results89,go_sem,k0]
theorem fof_no (l : List Nd) (tx : ByteArray) (hx : tx.size ≤ 9223372036854775807) (v : Value) (w : World) (hr : RdN w v l) (hne : chkF l tx.size ≠ 0) :
 Calls Tryz.prog 89 #[v,.string tx] w (FOfNo (chkF l tx.size) w):=by
 have HR:=hid hr
 have HW:=hid ((Below.refl w.heap.size w).alloc (Nat.le_refl _) (.cells #[.pointer none] 162))
 have HB:=hid (Blk.new w 162 #[.pointer none])
 have hsz0 : (w.alloc (.cells #[.pointer none] 162)).heap.size = w.heap.size + 1:=by simp
 have HSZ:=hid hsz0
 clear hr hsz0
 by_cases hc : chk l = 0
 ·have hlt : 400 < tx.size:=by
   unfold chkF at hne
   rw [if_neg (by simp [hc])] at hne
   split at hne
   ·assumption
   ·exact absurd rfl hne
  have HX : Hid (chkF l tx.size = 3):=hid (by unfold chkF;rw [if_neg (by simp [hc]),if_pos hlt])
  have hd : decide ((400 : Int) < (tx.size : Int)) = true:=by simp;omega
  have HC:=hid hc
  clear hne hc hlt
  go_enter Tryz.func89,Tryz.ntmps89
  go_wp2_with fail
  refine (Check_any l v _ (HR.out.below HW.out)).mono ?_
  rintro e w1 ⟨rfl,hb1⟩
  rw [HC.out,errV_zero]
  have HB1:=hid (HB.out.kept hb1)
  have HW1:=hid (HW.out.trans (hb1.mono (by have:=HSZ.out;omega)))
  have f0 : w1.cell? ⟨w.heap.size,0,none⟩ = some (.pointer none):=HB1.out.cell 0
  have z0 : w1.frozen? ⟨w.heap.size,0,none⟩ = false:=HB1.out.frozen 0
  clear hb1
  go_wp2_with fail
  have hk:=HB1.out.set_ 0 (.pointer none)
  refine bodyPost_ret (v:=.tuple #[.agg #[.pointer none],errV 3]) ?_ rfl ⟨by rw [HX.out],HW1.out.setCell (Nat.le_refl _) _⟩
  have k0 : (w1.setCell ⟨w.heap.size,0,none⟩ (.pointer none)).cell? ⟨w.heap.size,0,none⟩ = some (.pointer none):=hk.cell 0
  simp [results,Tryz.results89,go_sem,k0,errV]
 ·have HX : Hid (chkF l tx.size = chk l):=hid (by unfold chkF;rw [if_pos hc])
  have HE:=hid (errV_ne hc)
  clear hne hc
  go_enter Tryz.func89,Tryz.ntmps89
  go_wp2_with fail
  refine (Check_any l v _ (HR.out.below HW.out)).mono ?_
  rintro e w1 ⟨rfl,hb1⟩
  rw [HE.out]
  have HB1:=hid (HB.out.kept hb1)
  have HW1:=hid (HW.out.trans (hb1.mono (by have:=HSZ.out;omega)))
  have f0 : w1.cell? ⟨w.heap.size,0,none⟩ = some (.pointer none):=HB1.out.cell 0
  have z0 : w1.frozen? ⟨w.heap.size,0,none⟩ = false:=HB1.out.frozen 0
  clear hb1
  go_wp2_with fail
  have hk:=HB1.out.set_ 0 (.pointer none)
  refine bodyPost_ret (v:=.tuple #[.agg #[.pointer none],.iface 81 (.int .i64 (chk l))]) ?_ rfl ⟨by rw [HX.out,HE.out],HW1.out.setCell (Nat.le_refl _) _⟩
  have k0 : (w1.setCell ⟨w.heap.size,0,none⟩ (.pointer none)).cell? ⟨w.heap.size,0,none⟩ = some (.pointer none):=hk.cell 0
  simp [results,Tryz.results89,go_sem,k0]
def NxtIs (p : List St) (a km : Nat) (pv : Value) (Own : Nat → Prop) (Ss : List ASt) (r : Option (Nat × Nat)) (w : World) (e : Ending) (w' : World) : Prop :=
 (∃ x y : Nat,r = some (x,y) ∧ e = .returned (.tuple #[.agg #[.int .i64 (x : Int),.int .i64 (y : Int)],.bool true]) ∧ AutoAt p a km pv Own Ss w w') ∨
 (r = none ∧ e = .returned (.tuple #[.agg #[.int .i64 0,.int .i64 0],.bool false]) ∧ AutoAt p a km pv Own Ss w w')
theorem AutoAt.of_below {p : List St} {a km : Nat} {pv : Value} {Own : Nat → Prop} {Ss : List ASt} {L : List (ByteArray × Value)} {w w' : World} (h : AEnv p a km pv Own Ss L w) (hb : Below w.heap.size w w') : AutoAt p a km pv Own Ss w w':=⟨Own,Ss,L,h.below hb,Gr.of_below hb⟩
theorem AutoAt.trans {p : List St} {a km : Nat} {pv : Value} {Own Own1 : Nat → Prop} {Ss Ss1 : List ASt} {w w1 w' : World} (hg : Gr none Own Own1 Ss Ss1 w w1) (h : AutoAt p a km pv Own1 Ss1 w1 w') : AutoAt p a km pv Own Ss w w':=by
 obtain ⟨O,S,L,h1,h2⟩:=h
 exact ⟨O,S,L,h1,hg.trans h2 (by simp)⟩
theorem AutoAt.put {p : List St} {a km : Nat} {pv : Value} {Own : Nat → Prop} {Ss : List ASt} {L : List (ByteArray × Value)} {w W wr w' : World} (hE : AEnv p a km pv Own Ss L w) (hW : Below w.heap.size w W) (h : AutoAt p a km pv Own Ss W wr) {g : Nat} (h1 : w.heap.size ≤ g) (h2 : g < W.heap.size) (hg : wr.grownBy w' (some g)) :
 AutoAt p a km pv Own Ss w w':=by
 obtain ⟨O,S,L2,he,hgr⟩:=h
 have hno : ¬ O g:=fun ho => by
  rcases hgr.new g ho with e | e | e
  ·have:=hE.lt g e;omega
  ·cases e
  ·omega
 exact ⟨O,S,L2,he.grown hg (fun k e => by cases e;exact hno),((Gr.of_below hW).trans hgr (by simp)).trans (Gr.of_grown hg) (fun k e => by cases e;exact .inr h1)⟩
theorem grown_setF (W : World) (g i : Nat) (u : Value) : W.grownBy (W.setCell ⟨g,i,none⟩ u) (some g):=⟨rfl,rfl,rfl,by simp,fun k _ hk => Below.heap_setCell W _ _ k (fun e => hk (by rw [e]))⟩
theorem next_ok (t : Rx) (ht : (flat t).length ≤ 60) (hok : ∀ n ∈ flat t,okC n.cls) (a km : Nat) (pv : Value) (Own : Nat → Prop) (Ss : List ASt) (L : List (ByteArray × Value)) (w : World) (he : AEnv (progL t) a km pv Own Ss L w) (tx : ByteArray) (hx : tx.size ≤ 400) (f0 : Nat) (hf : f0 ≤ tx.size) :
 Calls Tryz.prog 90 #[.agg #[.pointer (some ⟨a,0,none⟩)],.string tx,.int .i64 (f0 : Int)] w (NxtIs (progL t) a km pv Own Ss (foundO tx.data.toList t f0) w):=by
 have HE:=hid he
 have HP:=hid (progL_ok t ht)
 have HOK:=hid (progL_cls okC okC_zc t hok)
 have HSZ : Hid (tx.data.toList.length = tx.size):=hid (by simp)
 have hb0 : Below w.heap.size w ((w.alloc (.cells #[.pointer (some ⟨a,0,none⟩)] 162)).alloc (.cells #[.int .i64 0,.int .i64 0] 68)):=((Below.refl _ _).alloc (Nat.le_refl _) _).alloc (by simp) _
 have hs0 : ((w.alloc (.cells #[.pointer (some ⟨a,0,none⟩)] 162)).alloc (.cells #[.int .i64 0,.int .i64 0] 68)).heap.size = w.heap.size + 2:=by simp
 have hs1 : (w.alloc (.cells #[.pointer (some ⟨a,0,none⟩)] 162)).heap.size = w.heap.size + 1:=by simp
 have hk0:=(Blk.new w 162 #[.pointer (some ⟨a,0,none⟩)]).alloc (.cells #[.int .i64 0,.int .i64 0] 68)
 have hk1:=Blk.new (w.alloc (.cells #[.pointer (some ⟨a,0,none⟩)] 162)) 68 #[.int .i64 0,.int .i64 0]
 rw [hs1] at hk1
 go_enter Tryz.func90,Tryz.ntmps90
 clear he hok ht
 obtain ⟨W,hW⟩ : ∃ W,W = (w.alloc (.cells #[.pointer (some ⟨a,0,none⟩)] 162)).alloc (.cells #[.int .i64 0,.int .i64 0] 68):=⟨_,rfl⟩
 rw [← hW] at hb0 hs0 hk0 hk1
 have HB:=hid hb0
 have HS:=hid hs0
 have HK0:=hid hk0
 have HK1:=hid hk1
 have HW:=hid hW
 have HEW:=hid (HE.out.below hb0)
 have hn0 : Hid (¬ Own w.heap.size ∧ ¬ Own (w.heap.size + 1)):=hid ⟨fun h => by have:=HE.out.lt _ h;omega,fun h => by have:=HE.out.lt _ h;omega⟩
 clear hb0 hs0 hk0 hk1 hs1 hW
 go_wp2_with fail
 rw [← HW.out]
 clear HW
 have HA0 : Hid (AutoAt (progL t) a km pv Own Ss W W):=hid (AutoAt.of_below HEW.out (Below.refl _ _))
 go_loopw [8] (fun v8 wr => ∃ (i : Nat),f0 ≤ i ∧ i ≤ tx.size + 1 ∧ v8 = .int .i64 (i : Int) ∧ Hid (foundO tx.data.toList t f0 = foundO tx.data.toList t i) ∧ Hid (AutoAt (progL t) a km pv Own Ss W wr)) (fun i _ => tx.size + 1 - (intOf i).toNat)
 case atStart => exact ⟨f0,Nat.le_refl _,by omega,rfl,hid rfl,HA0⟩
 case round =>
  clear HA0
  obtain ⟨i,hfi,his,rfl,HF,HA⟩:=hrel
  have hk0:=HA.out.blk HK0.out hn0.out.1
  have hk1:=HA.out.blk HK1.out hn0.out.2
  have c0 : wr.cell? ⟨w.heap.size,0,none⟩ = some (.pointer (some ⟨a,0,none⟩)):=hk0.cell 0
  have s0 : wr.cell? ⟨w.heap.size + 1,0,none⟩ = some (.int .i64 0):=hk1.cell 0
  have s1 : wr.cell? ⟨w.heap.size + 1,1,none⟩ = some (.int .i64 0):=hk1.cell 1
  have z0 : wr.frozen? ⟨w.heap.size + 1,0,none⟩ = false:=hk1.frozen 0
  have z1 : wr.frozen? ⟨w.heap.size + 1,1,none⟩ = false:=hk1.frozen 1
  have HK:=hid hk1
  clear hk0 hk1
  by_cases hlt : i ≤ tx.size
  ·have hd : decide (i ≤ tx.size) = true:=by simpa using hlt
   obtain ⟨Own2,Ss2,L2,he2,hg2⟩:=HA.out
   have HLO:=hid (long_ok (progL t) HP.out HOK.out a km pv Own2 Ss2 L2 wr he2 tx hx i hlt)
   rw [long_is] at HLO
   have HG2:=hid hg2
   clear he2 hg2
   cases hl : longO tx.data.toList t i with
   | some j =>
     have HF2 : Hid (foundO tx.data.toList t f0 = some (i,j)):=hid (by rw [HF.out];exact findO_some (by rw [HSZ.out];exact hlt) hl)
     rw [hl] at HLO
     have hj0 : (0 : Int) ≤ (j : Int):=by omega
     have hjl : j ≤ tx.size:=by have:=(longO_some hl).2;rw [HSZ.out] at this;exact this
     clear hl HF
     go_wp2_with fail
     refine HLO.out.mono ?_
     rintro e w4 ⟨rfl,Own4,Ss4,L4,he4,hg4⟩
     have HA4 : Hid (AutoAt (progL t) a km pv Own Ss W w4):=hid ⟨Own4,Ss4,L4,he4,HG2.out.trans hg4 (by simp)⟩
     have hk1:=HA4.out.blk HK1.out hn0.out.2
     have s0 : w4.cell? ⟨w.heap.size + 1,0,none⟩ = some (.int .i64 0):=hk1.cell 0
     have s1 : w4.cell? ⟨w.heap.size + 1,1,none⟩ = some (.int .i64 0):=hk1.cell 1
     have z0 : w4.frozen? ⟨w.heap.size + 1,0,none⟩ = false:=hk1.frozen 0
     have z1 : w4.frozen? ⟨w.heap.size + 1,1,none⟩ = false:=hk1.frozen 1
     have HK4:=hid hk1
     unfold numO
     clear he4 hg4 hk1
     go_wp2_with fail
     have hk:=(HK4.out.set_ 0 (.int .i64 (i : Int))).set_ 1 (.int .i64 (j : Int))
     refine bodyPost_ret (v:=.tuple #[.agg #[.int .i64 (i : Int),.int .i64 (j : Int)],.bool true]) ?_ rfl (.inl ⟨i,j,HF2.out,rfl,?_⟩)
     ·have k0:=hk.cell 0
      have k1:=hk.cell 1
      simp only [Array.getElem?_setIfInBounds] at k0 k1
      simp [results,Tryz.results90,go_sem,k0,k1]
     ·exact AutoAt.put HE.out HB.out HA4.out (g:=w.heap.size + 1) (by omega) (by have:=HS.out;omega) ((grown_setF _ _ _ _).trans (grown_setF _ _ _ _))
   | none =>
     have HF2 : Hid (foundO tx.data.toList t f0 = foundO tx.data.toList t (i + 1)):=hid (by rw [HF.out];exact findO_none (by rw [HSZ.out];exact hlt) hl)
     rw [hl] at HLO
     clear hl HF
     go_wp2_with fail
     refine HLO.out.mono ?_
     rintro e w4 ⟨rfl,Own4,Ss4,L4,he4,hg4⟩
     have HA4 : Hid (AutoAt (progL t) a km pv Own Ss W w4):=hid ⟨Own4,Ss4,L4,he4,HG2.out.trans hg4 (by simp)⟩
     unfold numO
     clear he4 hg4
     go_wp2_with fail
     go_roundw
     case rel => exact ⟨i + 1,by omega,by omega,by go_num,HF2,HA4⟩
     case measure => simp [intOf];omega
  ·have hd : decide (i ≤ tx.size) = false:=by simpa using hlt
   have HF2 : Hid (foundO tx.data.toList t f0 = none):=hid (by rw [HF.out];exact findO_end (by rw [HSZ.out];omega))
   clear hlt HF
   go_wp2_with fail
   have hk:=(HK.out.set_ 0 (.int .i64 0)).set_ 1 (.int .i64 0)
   refine bodyPost_ret (v:=.tuple #[.agg #[.int .i64 0,.int .i64 0],.bool false]) ?_ rfl (.inr ⟨HF2.out,rfl,?_⟩)
   ·have k0:=hk.cell 0
    have k1:=hk.cell 1
    simp only [Array.getElem?_setIfInBounds] at k0 k1
    simp [results,Tryz.results90,go_sem,k0,k1]
   ·exact AutoAt.put HE.out HB.out HA.out (g:=w.heap.size + 1) (by omega) (by have:=HS.out;omega) ((grown_setF _ _ _ _).trans (grown_setF _ _ _ _))
def AllIs (t : Rx) (s : List UInt8) (w : World) (e : Ending) (w' : World) : Prop :=
 ∃ (A : Option Addr) (cap : Nat),e = .returned (.tuple #[.slice A (spansO s t 0).length cap,.nilIface]) ∧ w'.ownsRow w.heap.size 68 2 (.slice A (spansO s t 0).length cap) (spansO s t 0).length (spanVals (spansO s t 0)) ∧ Below w.heap.size w w'
def AllNo (n : Int) (w : World) (e : Ending) (w' : World) : Prop:=e = .returned (.tuple #[.slice none 0 0,errV n]) ∧ Below w.heap.size w w'
structure AllAt (p : List St) (a km : Nat) (pv : Value) (B b : Nat) (v : Value) (l : List (Nat × Nat)) (Own : Nat → Prop) (Ss : List ASt) (L : List (ByteArray × Value)) (wr : World) : Prop where
 env : AEnv p a km pv Own Ss L wr
 ge : ∀ k,Own k → B ≤ k
 box : Blk wr b 162 #[.pointer (some ⟨a,0,none⟩)]
 nb : ¬ Own b
 row : wr.ownsRow B 68 2 v l.length (spanVals l)
 nr : ∀ g,v.ownBlock = some g → ¬ Own g
theorem AllAt.next_ {p : List St} {a km : Nat} {pv : Value} {B b : Nat} {v : Value} {l : List (Nat × Nat)} {Own Own' : Nat → Prop} {Ss Ss' : List ASt} {L L' : List (ByteArray × Value)} {wr w' : World} (h : AllAt p a km pv B b v l Own Ss L wr) (hB : B ≤ wr.heap.size) (he : AEnv p a km pv Own' Ss' L' w') (hg : Gr none Own Own' Ss Ss' wr w') :
 AllAt p a km pv B b v l Own' Ss' L' w':=by
 have hno : ∀ k,k < wr.heap.size → ¬ Own k → ¬ Own' k:=fun k hk hn ho => by
  rcases hg.new k ho with e | e | e
  ·exact hn e
  ·cases e
  ·omega
 refine ⟨he,hg.ge hB h.ge,(hg.kept b h.box.lt h.nb (by simp)).trans h.box,hno b h.box.lt h.nb,?_,fun g hv => hno g (h.row.lt g hv).2 (h.nr g hv)⟩
 exact own_fm (Own:=fun k => v.ownBlock = some k) (row:=none) h.row (fun g hg => hg) (fun k hk _ => hg.kept k (h.row.lt k hk).2 (h.nr k hk) (by simp)) (by simp)
theorem AllAt.alloc {p : List St} {a km : Nat} {pv : Value} {B b : Nat} {v : Value} {l : List (Nat × Nat)} {Own : Nat → Prop} {Ss : List ASt} {L : List (ByteArray × Value)} {wr : World} (h : AllAt p a km pv B b v l Own Ss L wr) (o : Obj) : AllAt p a km pv B b v l Own Ss L (wr.alloc o) :=
 ⟨h.env.alloc o,h.ge,h.box.alloc o,h.nb,h.row.alloc o,h.nr⟩
theorem AllAt.more {p : List St} {a km : Nat} {pv : Value} {B b : Nat} {v v' : Value} {l : List (Nat × Nat)} {Own : Nat → Prop} {Ss : List ASt} {L : List (ByteArray × Value)} {wr w' : World} (h : AllAt p a km pv B b v l Own Ss L wr) (x y : Nat) (hown : w'.ownsRow B 68 2 v' (l.length + 1) (spanVals l ++ [.int .i64 (x : Int),.int .i64 (y : Int)])) (hg : wr.grownBy w' v.ownBlock)
 (hat : v'.ownBlock = v.ownBlock ∨ v'.ownBlock = some wr.heap.size) : AllAt p a km pv B b v' (l ++ [(x,y)]) Own Ss L w':=by
 refine ⟨h.env.grown hg h.nr,h.ge,(hg.block b h.box.lt (fun e => ?_)).trans h.box,h.nb,by rw [List.length_append,spanVals_snoc];exact hown,fun g hv => ?_⟩
 ·rcases h.row.2 with ⟨rfl,_⟩ | ⟨g,cap,cur,rfl,_,hgg,_⟩
  ·simp [Value.ownBlock] at e
  ·simp only [Value.ownBlock,Option.some.injEq] at e
   subst e
   have:=h.box
   unfold Blk at this
   rw [this] at hgg
   simp at hgg
 ·rcases hat with e | e
  ·exact h.nr g (by rw [← e,hv])
  ·rw [hv] at e
   cases e
   exact fun ho => by have:=h.env.lt _ ho;omega
theorem all_ok (l : List Nd) (t : Rx) (hl : l = flat t) (ht : l.length ≤ 60) (hok : ∀ n ∈ l,okC n.cls) (tx : ByteArray) (hx : tx.size ≤ 400) (v : Value) (w : World) (hr : RdN w v l) :
 Calls Tryz.prog 55 #[v,.string tx] w (AllIs t tx.data.toList w):=by
 obtain ⟨i0,hi0,hz0,hz1,hz2⟩:=info_parts info_span
 have HOF:=hid (fof_ok l t hl ht tx hx v w hr)
 have HNX:=hid fun a km pv Own Ss L W he f0 hf => next_ok t (by rw [← hl];exact ht) (by rw [← hl];exact hok) a km pv Own Ss L W he tx hx f0 hf
 have HSZ : Hid (tx.data.toList.length = tx.size):=hid (by simp)
 clear hl ht hok hr
 go_enter Tryz.func55,Tryz.ntmps55
 go_wp2_with fail
 refine HOF.out.mono ?_
 rintro e w1 ⟨a,km,pv,Own,rfl,he1,hb1,ho1⟩
 have hE0 : AllAt (progL t) a km pv w.heap.size w1.heap.size (.slice none 0 0) [] Own [] [] (w1.alloc (.cells #[.pointer (some ⟨a,0,none⟩)] 162)) :=
  ⟨he1.alloc _,ho1,Blk.new w1 _ _,fun h => by have:=he1.lt _ h;omega,World.ownsRow_nil _ _ _ _,fun g hg => by simp [Value.ownBlock] at hg⟩
 have HE0:=hid hE0
 have HB0:=hid (hb1.alloc hb1.size (.cells #[.pointer (some ⟨a,0,none⟩)] 162))
 clear he1 hb1 ho1 hE0 HOF
 go_wp2_with fail
 go_loopw [8,9] (fun v8 v9 wr => ∃ (at_ : Nat) (sp : List (Nat × Nat)),at_ ≤ tx.size + 1 ∧ sp.length ≤ at_ ∧ v9 = .int .i64 (at_ : Int) ∧ Hid (Chain (longO tx.data.toList t) tx.data.toList.length 0 sp at_) ∧ Hid (Below w.heap.size w wr) ∧ Hid (∃ Own Ss L,AllAt (progL t) a km pv w.heap.size w1.heap.size v8 sp Own Ss L wr)) (fun _ i _ => tx.size + 1 - (intOf i).toNat)
 case atStart => exact ⟨0,[],by omega,by simp,rfl,hid (.nil 0),HB0,hid ⟨_,_,_,HE0.out⟩⟩
 case round =>
  clear HE0 HB0
  obtain ⟨at_,sp,hat,hsp,rfl,HC,HB,HA⟩:=hrel
  obtain ⟨Own2,Ss2,L2,ha2⟩:=HA.out
  have HA2:=hid ha2
  have c0 : wr.cell? ⟨w1.heap.size,0,none⟩ = some (.pointer (some ⟨a,0,none⟩)):=ha2.box.cell 0
  have hleh:=long_behind tx.data.toList t
  have HBH:=hid hleh
  clear ha2 HA hleh
  by_cases hlt : at_ ≤ tx.size
  ·have hd : decide (at_ ≤ tx.size) = true:=by simpa using hlt
   have HNC:=hid (HNX.out a km pv Own2 Ss2 L2 wr HA2.out.env at_ hlt)
   go_wp2_with fail
   refine HNC.out.mono ?_
   rintro e w3 (⟨x,y,hfo,rfl,Own3,Ss3,L3,he3,hg3⟩ | ⟨hfo,rfl,Own3,Ss3,L3,he3,hg3⟩)
   ·have hsize:=HB.out.size
    have hA3:=HA2.out.next_ hsize he3 hg3
    have HA3:=hid (hA3.alloc (.cells #[.int .i64 (x : Int),.int .i64 (y : Int)] 68))
    have HB3 : Hid (Below w.heap.size w (w3.alloc (.cells #[.int .i64 (x : Int),.int .i64 (y : Int)] 68))):=hid ((HB.out.trans (hg3.below hsize HA2.out.ge)).alloc (by have:=hg3.size;omega) _)
    have HC3:=hid (HC.out.snoc hfo)
    have hbg:=behind_gt HBH.out hfo
    rw [HSZ.out] at hbg
    have HK3:=hid ((Blk.new w3 68 #[.int .i64 (x : Int),.int .i64 (y : Int)]).alloc (.cells #[.int .i64 (x : Int),.int .i64 (y : Int)] 68))
    have hws3 : w.heap.size ≤ w3.heap.size:=by have:=hg3.size;omega
    have hRL:=HA3.out.row.lt
    have HRL : Hid (∀ g,u8.ownBlock = some g → g < w3.heap.size):=hid (fun g hg => (hA3.row.lt g hg).2)
    have hln:=hid (spanVals_len sp)
    clear hfo he3 hg3 hA3 HNC hRL c0
    have hb1 : at_ < behind x y:=hbg.1
    have hb2 : behind x y ≤ tx.size + 1:=hbg.2.1
    have hyl : y ≤ tx.size:=hbg.2.2.2
    clear hbg
    go_wp2_with (at_builtin;refine wpList_append_own_at _ rfl (.tmp 34) (.tmp 36) _ rfl w.heap.size 68 i0 _ 2 16 Tryz.underlying106 hi0 hz0 hz1 hz2 rfl (by omega) _ sp.length (spanVals sp) rfl (HA3.out.row.alloc _) ⟨w3.heap.size + 1,0,none⟩ 1 1 [.int .i64 (x : Int),.int .i64 (y : Int)] rfl rfl (new_two _ _ _ _ _ (by simp)) (by intro u hu;simp at hu;rcases hu with rfl | rfl <;> rfl) (by unfold maxLen;omega) (by omega) (by simp;omega) ?_)
    intro v' w' hown' hg' _ hat'
    have hbk:=(hg'.block w3.heap.size (by simp;omega) (fun e => by have:=HRL.out _ e.symm;omega)).trans HK3.out
    have HA5:=hid ((HA3.out.alloc _).more x y hown' hg' (by simpa using hat'))
    have HB5:=hid (below_own (HB3.out.alloc (by simp;omega) _) (Nat.le_refl _) (by simp;omega) (HA3.out.row.alloc _) hg')
    have b0 : w'.cell? ⟨w3.heap.size,0,none⟩ = some (.int .i64 (x : Int)):=Blk.cell hbk 0
    have b1 : w'.cell? ⟨w3.heap.size,1,none⟩ = some (.int .i64 (y : Int)):=Blk.cell hbk 1
    clear hown' hg' hat' hbk HK3 HRL
    by_cases exy : y = x
    ·have hd2 : decide (y = x) = true:=by simpa using exy
     have hd3 : ((y : Int) == (x : Int)) = true:=int_beq_t exy
     have hbe : behind x y = y + 1:=by unfold behind;rw [if_pos exy]
     have HBE:=hid hbe
     rw [hbe] at hb1 hb2
     clear exy hbe
     go_wp2_with fail
     go_roundw
     case rel => exact ⟨y + 1,sp ++ [(x,y)],hb2,by simp;omega,by go_num,hid (by have:=HC3.out;rw [HBE.out] at this;exact this),HB5,hid ⟨_,_,_,HA5.out⟩⟩
     case measure => simp [intOf];omega
    ·have hd2 : decide (y = x) = false:=by simpa using exy
     have hd3 : ((y : Int) == (x : Int)) = false:=int_beq_f exy
     have hbe : behind x y = y:=by unfold behind;rw [if_neg exy]
     have HBE:=hid hbe
     rw [hbe] at hb1 hb2
     clear exy hbe
     go_wp2_with fail
     go_roundw
     case rel => exact ⟨y,sp ++ [(x,y)],hb2,by simp;omega,by go_num,hid (by have:=HC3.out;rw [HBE.out] at this;exact this),HB5,hid ⟨_,_,_,HA5.out⟩⟩
     case measure => simp [intOf];omega
   ·have hsize:=HB.out.size
    have hA3:=HA2.out.next_ hsize he3 hg3
    have hspan : spansO tx.data.toList t 0 = sp:=by
     have:=HC.out.all HBH.out
     rw [allO_none hfo,List.append_nil] at this
     exact this
    have HSP:=hid hspan
    have HB3 : Hid (Below w.heap.size w (w3.alloc (.cells #[.int .i64 0,.int .i64 0] 68))):=hid ((HB.out.trans (hg3.below hsize HA2.out.ge)).alloc (by have:=hg3.size;omega) _)
    have hrow:=hA3.row.alloc (.cells #[.int .i64 0,.int .i64 0] 68)
    obtain ⟨VA,vn,vcap,rfl,_,_,hvl,_⟩:=Rd.of_own hrow
    rw [spanVals_len] at hvl
    obtain rfl : vn = sp.length:=by omega
    have HROW:=hid hrow
    clear hfo he3 hg3 hA3 HNC hspan hrow hvl
    go_wp2_with fail
    go_ret2
    unfold AllIs
    rw [HSP.out]
    exact ⟨VA,vcap,rfl,HROW.out,HB3.out⟩
  ·have hd : decide (at_ ≤ tx.size) = false:=by simpa using hlt
   have hspan : spansO tx.data.toList t 0 = sp:=by
    have:=HC.out.all HBH.out
    rw [allO_end (L:=longO tx.data.toList t) (N:=tx.data.toList.length) (at_:=at_) (by rw [HSZ.out];omega),List.append_nil] at this
    exact this
   have HSP:=hid hspan
   have hrow:=HA2.out.row
   obtain ⟨VA,vn,vcap,rfl,_,_,hvl,_⟩:=Rd.of_own hrow
   rw [spanVals_len] at hvl
   obtain rfl : vn = sp.length:=by omega
   have HROW:=hid hrow
   clear hspan hrow hvl hlt
   go_wp2_with fail
   go_ret2
   unfold AllIs
   rw [HSP.out]
   exact ⟨VA,vcap,rfl,HROW.out,HB.out⟩
theorem all_no (l : List Nd) (tx : ByteArray) (hx : tx.size ≤ 9223372036854775807) (v : Value) (w : World) (hr : RdN w v l) (hne : chkF l tx.size ≠ 0) :
 Calls Tryz.prog 55 #[v,.string tx] w (AllNo (chkF l tx.size) w):=by
 have HOF:=hid (fof_no l tx hx v w hr hne)
 have HEV:=hid (errV_ne hne)
 clear hr hne
 go_enter Tryz.func55,Tryz.ntmps55
 go_wp2_with fail
 refine HOF.out.mono ?_
 rintro e w1 ⟨he,hb1⟩
 rw [HEV.out] at he
 subst he
 go_wp2_with fail
 go_ret2
 exact ⟨by rw [HEV.out];rfl,hb1.alloc hb1.size _⟩
end Go.Proofs.YthhcpbfgoofppaaGreatDoor
