/-
  EmptyNo, EndsOf, FindR.
-/
import Derived.Test.YthcahjnniendnacGreatDoorGAll
import Derived.Test.YthcahjnniendnacGreatDoorGMean
import Derived.Test.YthcahjnniendnacGreatDoorGPh
import Derived.Test.YthcahjnniendnacGreatDoorGQ
import Derived.Test.YthcahjnniendnacGreatDoorGReach
import Derived.Test.YthcahjnniendnacGreatDoorGRex
import Derived.Test.YthcahjnniendnacGreatDoorGSim
import Derived.Test.YthcahjnniendnacGreatDoorQueue
set_option linter.unusedVariables false
set_option linter.unusedSimpArgs false
set_option maxRecDepth 100000
set_option maxHeartbeats 8000000
open Go.Lib (hid)
namespace Go.Proofs.YthcahjnniendnacGreatDoor
open Go.RowKit Wf
theorem flat_good (t : Rx) : ∀ n ∈ flat t,good n:=by
 intro n hn
 obtain ⟨i,hi,he⟩:=List.getElem_of_mem hn
 obtain ⟨u,hu⟩:=at_each t i hi
 obtain ⟨m,h1,_,h2⟩:=hu.node
 rw [List.getElem?_eq_getElem hi,he] at h1
 cases h1
 exact h2
def REndsOfIs (s : List UInt8) (t : Rx) (f : Nat) (w : World) (e : Ending) (w' : World) : Prop :=
 ∃ (A : Option Addr) (cap : Nat),e = .returned (.slice A (endsL s t f).length cap) ∧ Rd1 w' (.slice A (endsL s t f).length cap) (natVals (endsL s t f)) ∧ Below w.heap.size w w'
theorem REndsOf_ok (l : List Nd) (t : Rx) (hl : l = flat t) (hok : ∀ n ∈ l,okC n.cls) (hlen : l.length ≤ 60) (b off cap : Nat) (s : ByteArray) (hs : s.size ≤ 400) (f : Nat) (hf : f ≤ s.size) (w : World) (hr : RdN w (.slice (some ⟨b,off,none⟩) l.length cap) l) :
 Calls Tryz.prog 112 #[.slice (some ⟨b,off,none⟩) l.length cap,.string s,.int .i64 (f : Int)] w (REndsOfIs s.data.toList t f w):=by
 obtain ⟨i0,hi0,hz0,hz1,hz2⟩:=info_parts info_int
 have hgood : ∀ n ∈ l,good n:=by rw [hl];exact flat_good t
 have hwhole : At l 0 t:=by rw [hl];exact At.whole t
 have HRE:=hid (RReach_all l hgood hok hlen b off cap s hs t 0 hwhole)
 have hmk:=fun W => mk_bools (s.size + 1) (by omega) W
 rw [show ((s.size + 1 : Nat) : Int) = (s.size : Int) + 1 by omega] at hmk
 have hrg:=repA_get (s.size + 1) (.bool false) f (by omega)
 have hz : (0 : Int) ≤ (s.size : Int):=by omega
 have HSL:=hid (show s.data.toList.length = s.size by simp)
 have HR:=hid hr
 have h1 : (f : Int) < (s.size : Int) + 1:=by omega
 clear hr hok hgood hwhole hl
 go_enter Tryz.func112,Tryz.ntmps112
 go_wp2_with fail
 clear hmk hrg
 have hn1:=repA_set w (s.size + 1) f true
 have hb1 : Below w.heap.size w (w.alloc (.cells ((repA (s.size + 1) (.bool false)).setIfInBounds f (.bool true)) 4)):=(Below.refl _ _).alloc (Nat.le_refl _) _
 have hra:=HRE.out
 unfold ReachAt at hra
 refine (hra _ w.heap.size _ (HR.out.below hb1) hn1).mono ?_
 rintro e w2 ⟨g,D,rfl,hg,hto,hb2⟩
 have HG:=hid hg
 have HB:=hid (hb1.trans (hb2.mono hb1.size))
 have HGL:=hid hg.lt
 have HSZ:=hid (show w.heap.size + 1 ≤ w2.heap.size by have:=hb2.size;simp at this;omega)
 have HTO : Hid (∀ j,j < s.size + 1 → (D j = true ↔ Fits s.data.toList t f j)):=hid (fun j hj => by
  rw [hto j hj]
  constructor
  ·rintro ⟨k,hk,hd,hfit⟩
   unfold setD at hd
   split at hd
   ·rename_i e;subst e;exact hfit
   ·cases hd
  ·intro hfit
   exact ⟨f,by omega,by simp [setD],hfit⟩)
 clear hg hto hb1 hb2 hn1 hra
 have hRL : endsL s.data.toList t f = upTo_ (Fits s.data.toList t f) (s.size + 1):=by unfold endsL;rw [HSL.out]
 have HRL:=hid hRL
 clear hRL
 go_wp2_with fail
 go_loopw [9,10] (fun v9 v10 wy => ∃ k : Nat,k ≤ s.size + 1 ∧ v10 = .int .i64 (k : Int) ∧ Hid (wy.ownsRow w2.heap.size 3 1 v9 (upTo_ (Fits s.data.toList t f) k).length (natVals (upTo_ (Fits s.data.toList t f) k))) ∧ Hid (RB wy g (s.size + 1) D) ∧ Hid (Below w.heap.size w wy) ∧ w2.heap.size ≤ wy.heap.size) (fun _ i _ => s.size + 1 - (intOf i).toNat)
 case atStart => exact ⟨0,by omega,rfl,hid (World.ownsRow_nil _ _ _ _),HG,HB,Nat.le_refl _⟩
 case round =>
  clear HG HB
  obtain ⟨k,hk,rfl,hO,hE,hB,hsz⟩:=hrel
  by_cases hlt : k < s.size + 1
  ·have hcE:=hE.out.cell hlt
   have hk1 : (k : Int) < (s.size : Int) + 1:=by omega
   have hen:=HTO.out k hlt
   have HEN:=hid hen
   clear hen
   cases hb : D k with
   | false =>
     rw [hb] at hcE
     have HEK:=hid hb
     clear hb
     go_wp2
     go_roundw
     case rel =>
      have hno : ¬ Fits s.data.toList t f k:=fun h => by have:=HEN.out.2 h;rw [HEK.out] at this;cases this
      exact ⟨k + 1,by omega,by go_num,by rw [upTo_no hno];exact hO,hE,hB,hsz⟩
     case measure => simp [intOf];omega
   | true =>
     rw [hb] at hcE
     have HEK:=hid hb
     have HY:=hid (HEN.out.1 HEK.out)
     have HLEN:=hid (upTo_len (Fits s.data.toList t f) k)
     have HOA:=hid (hO.out.alloc (.cells #[.int .i64 (k : Int)] 3))
     clear hb
     generalize hxs : upTo_ (Fits s.data.toList t f) k = xs at *
     go_wp2_with (at_builtin;refine wpList_append_own _ rfl (.tmp 32) (.tmp 34) _ rfl w2.heap.size 3 i0 _ 1 8 Tryz.underlying181 hi0 hz0 hz1 hz2 rfl (by omega) _ xs.length (natVals xs) rfl HOA.out ⟨wr.heap.size,0,none⟩ 1 1 [.int .i64 (k : Int)] rfl rfl ?_ ?_ (by have:=HLEN.out;unfold maxLen;omega) (by have:=HLEN.out;omega) (by simp;omega) ?_)
     ·intro j v hv
      match j,hv with
      | 0,hv =>
        cases hv
        simp [add_mk]
      | j + 1,hv => simp at hv
     ·intro u hu
      simp at hu
      subst hu
      rfl
     ·intro v' w' hown' hg' _
      have hB1 : Below w.heap.size w (wr.alloc (.cells #[.int .i64 (k : Int)] 3)):=hB.out.alloc (by have:=hB.out.size;omega) _
      have hB' : Hid (Below w.heap.size w w'):=hid ⟨hg'.os.trans hB1.os,hg'.tape.trans hB1.tape,hg'.output.trans hB1.output,Nat.le_trans hB1.size hg'.size,fun i hi => (hg'.block i (by have:=hB1.size;omega) (fun e => by
       have h1:=(HOA.out.lt _ e.symm).1
       have h2:=HSZ.out
       omega)).trans (hB1.block i hi)⟩
      have hE':=hid ((hE.out.alloc (.cells #[.int .i64 (k : Int)] 3)).kept hg' (fun e => by
       have h1:=(HOA.out.lt _ e.symm).1
       have h2:=HGL.out
       omega))
      have hO' : Hid (w'.ownsRow w2.heap.size 3 1 v' (xs ++ [k]).length (natVals (xs ++ [k]))):=hid (by rw [natVals_snoc];simpa using hown')
      have hs2:=hg'.size
      have hs3 : w2.heap.size ≤ w'.heap.size:=by simp at hs2;omega
      clear hg' hown' hB1 hs2 hcE
      go_wp2
      go_roundw
      case rel => exact ⟨k + 1,by omega,by go_num,by rw [upTo_yes HY.out,hxs];exact hO',hE',hB',hs3⟩
      case measure => simp [intOf];omega
  ·obtain rfl : k = s.size + 1:=by omega
   rw [← HRL.out] at hO
   go_wp2
   go_ret
   have hO2:=hO.out
   obtain ⟨VA,vn,vcap,rfl,_,_,hvl,_⟩:=Rd.of_own hO2
   obtain rfl : vn = (endsL s.data.toList t f).length:=by simp [natVals] at hvl;omega
   exact ⟨VA,vcap,rfl,Rd.of_own hO2,hB.out⟩
theorem long_ends (s : List UInt8) (t : Rx) (i : Nat) : longO s t i = (endsL s t i).getLast?:=rfl
theorem last_get {xs : List Nat} {j : Nat} (h : xs.getLast? = some j) : 0 < xs.length ∧ xs[xs.length - 1]? = some j:=by
 rw [List.getLast?_eq_getElem?] at h
 exact ⟨by have:=(List.getElem?_eq_some_iff.1 h).1;omega,h⟩
def RFindOut (r : Option (Nat × Nat)) (w : World) (e : Ending) (w' : World) : Prop :=
 (∃ x y : Nat,r = some (x,y) ∧ e = .returned (.tuple #[.agg #[.int .i64 (x : Int),.int .i64 (y : Int)],.bool true]) ∧ Below w.heap.size w w') ∨
 (r = none ∧ e = .returned (.tuple #[.agg #[.int .i64 0,.int .i64 0],.bool false]) ∧ Below w.heap.size w w')
theorem RFind_ok (l : List Nd) (t : Rx) (hl : l = flat t) (hok : ∀ n ∈ l,okC n.cls) (hlen : l.length ≤ 60) (b off cap : Nat) (tx : ByteArray) (hx : tx.size ≤ 400) (f0 : Nat) (hf : f0 ≤ tx.size + 1) (w : World) (hr : RdN w (.slice (some ⟨b,off,none⟩) l.length cap) l) :
 Calls Tryz.prog 78 #[.slice (some ⟨b,off,none⟩) l.length cap,.string tx,.int .i64 (f0 : Int)] w (RFindOut (foundO tx.data.toList t f0) w):=by
 have HEN:=hid fun f hf W h => REndsOf_ok l t hl hok hlen b off cap tx hx f hf W h
 have HR:=hid hr
 have HSZ : Hid (tx.data.toList.length = tx.size):=hid (by simp)
 have HB0:=hid ((Below.refl w.heap.size w).alloc (Nat.le_refl _) (.cells #[.int .i64 0,.int .i64 0] 53))
 have HK0:=hid (Blk.new w 53 #[.int .i64 0,.int .i64 0])
 clear hl hok hlen hr
 go_enter Tryz.func78,Tryz.ntmps78
 go_wp2_with fail
 go_loopw [8] (fun v8 wr => ∃ (i : Nat),f0 ≤ i ∧ i ≤ tx.size + 1 ∧ v8 = .int .i64 (i : Int) ∧ Hid (foundO tx.data.toList t f0 = foundO tx.data.toList t i) ∧ Hid (Below w.heap.size w wr) ∧ Hid (Blk wr w.heap.size 53 #[.int .i64 0,.int .i64 0])) (fun i _ => tx.size + 1 - (intOf i).toNat)
 case atStart => exact ⟨f0,Nat.le_refl _,hf,rfl,hid rfl,HB0,HK0⟩
 case round =>
  clear HB0 HK0
  obtain ⟨i,hfi,his,rfl,HF,HB,HK⟩:=hrel
  by_cases hlt : i ≤ tx.size
  ·have hd : decide (i ≤ tx.size) = true:=by simpa using hlt
   have HE:=hid (HEN.out i hlt wr (HR.out.below HB.out))
   unfold REndsOfIs at HE
   have hlast:=long_ends tx.data.toList t i
   have hel : (endsL tx.data.toList t i).length ≤ 402:=by
    have:=upTo_len (Fits tx.data.toList t i) (tx.data.toList.length + 1)
    rw [HSZ.out] at this
    show (Go.Proofs.YthcahjnniendnacGreatDoor.upTo_ _ (tx.data.toList.length + 1)).length ≤ 402
    rw [HSZ.out]
    omega
   generalize endsL tx.data.toList t i = xs at *
   cases hl : longO tx.data.toList t i with
   | some j =>
     rw [hl] at hlast
     obtain ⟨hpos,hget⟩:=last_get hlast.symm
     have HF2 : Hid (foundO tx.data.toList t f0 = some (i,j)):=hid (by rw [HF.out];exact findO_some (by rw [HSZ.out];exact hlt) hl)
     have HG:=hid hget
     clear hl HF hlast hget
     go_wp2_with fail
     refine HE.out.mono ?_
     rintro e w2 ⟨A,cp,rfl,hrd,hb2⟩
     obtain ⟨A',cap',hv,hcf,hcf2,hmf⟩:=Rd1.open_ hrd
     have hnl : (natVals xs).length = xs.length:=by simp [natVals]
     rw [hnl] at hv hcf hmf
     injection hv with e1 _ e2
     subst e1
     subst e2
     obtain ⟨bf,of,rfl,hbf,hc⟩:=hmf hpos
     have g0:=hc w2 (fun _ => rfl) (xs.length - 1) (.int .i64 (j : Int)) (by simp [natVals,HG.out])
     have hk2:=HK.out.kept hb2
     have s0 : w2.cell? ⟨w.heap.size,0,none⟩ = some (.int .i64 0):=hk2.cell 0
     have s1 : w2.cell? ⟨w.heap.size,1,none⟩ = some (.int .i64 0):=hk2.cell 1
     have z0 : w2.frozen? ⟨w.heap.size,0,none⟩ = false:=hk2.frozen 0
     have z1 : w2.frozen? ⟨w.heap.size,1,none⟩ = false:=hk2.frozen 1
     have HK2:=hid hk2
     have HB2:=hid (HB.out.trans (hb2.mono HB.out.size))
     have i1 : (0 : Int) < (xs.length : Int):=by omega
     have i2 : decide (0 < xs.length) = true:=by simpa using hpos
     have hcast : ((xs.length - 1 : Nat) : Int) = (xs.length : Int) - 1:=by omega
     have htn : ((xs.length : Int) - 1).toNat = xs.length - 1:=by omega
     have i3 : (0 : Int) ≤ (xs.length : Int) - 1:=by omega
     have i4 : (1 : Int) ≤ (xs.length : Int):=by omega
     have i5 : (xs.length : Int) - 1 < (xs.length : Int):=by omega
     have HC:=hid hcast
     clear hrd hb2 hk2 hmf hc hnl hcast
     go_wp2_with fail
     have hk:=(HK2.out.set_ 0 (.int .i64 (i : Int))).set_ 1 (.int .i64 (j : Int))
     refine bodyPost_ret (v:=.tuple #[.agg #[.int .i64 (i : Int),.int .i64 (j : Int)],.bool true]) ?_ rfl (.inl ⟨i,j,HF2.out,rfl,(HB2.out.setCell (Nat.le_refl _) _).setCell (Nat.le_refl _) _⟩)
     have k0:=hk.cell 0
     have k1:=hk.cell 1
     simp only [Array.getElem?_setIfInBounds] at k0 k1
     simp [results,Tryz.results78,go_sem,k0,k1]
   | none =>
     rw [hl] at hlast
     have hxs : xs = []:=List.getLast?_eq_none_iff.1 hlast.symm
     have HF2 : Hid (foundO tx.data.toList t f0 = foundO tx.data.toList t (i + 1)):=hid (by rw [HF.out];exact findO_none (by rw [HSZ.out];exact hlt) hl)
     have i2 : decide (0 < xs.length) = false:=by rw [hxs];simp
     have HXS:=hid hxs
     clear hl HF hlast hxs
     go_wp2_with fail
     refine HE.out.mono ?_
     rintro e w2 ⟨A,cp,rfl,hrd,hb2⟩
     have HK2:=hid (HK.out.kept hb2)
     have HB2:=hid (HB.out.trans (hb2.mono HB.out.size))
     clear hrd hb2
     go_wp2_with fail
     go_roundw
     case rel => exact ⟨i + 1,by omega,by omega,by go_num,HF2,HB2,HK2⟩
     case measure => simp [intOf];omega
  ·have hd : decide (i ≤ tx.size) = false:=by simpa using hlt
   have HF2 : Hid (foundO tx.data.toList t f0 = none):=hid (by rw [HF.out];exact findO_end (by rw [HSZ.out];omega))
   have s0 : wr.cell? ⟨w.heap.size,0,none⟩ = some (.int .i64 0):=HK.out.cell 0
   have s1 : wr.cell? ⟨w.heap.size,1,none⟩ = some (.int .i64 0):=HK.out.cell 1
   have z0 : wr.frozen? ⟨w.heap.size,0,none⟩ = false:=HK.out.frozen 0
   have z1 : wr.frozen? ⟨w.heap.size,1,none⟩ = false:=HK.out.frozen 1
   clear hlt HF
   go_wp2_with fail
   have hk:=(HK.out.set_ 0 (.int .i64 0)).set_ 1 (.int .i64 0)
   refine bodyPost_ret (v:=.tuple #[.agg #[.int .i64 0,.int .i64 0],.bool false]) ?_ rfl (.inr ⟨HF2.out,rfl,(HB.out.setCell (Nat.le_refl _) _).setCell (Nat.le_refl _) _⟩)
   have k0:=hk.cell 0
   have k1:=hk.cell 1
   simp only [Array.getElem?_setIfInBounds] at k0 k1
   simp [results,Tryz.results78,go_sem,k0,k1]
theorem int_beqt {i n : Nat} (h : i = n) : ((i : Int) == (n : Int)) = true:=by subst h;simp
theorem int_beqf {i n : Nat} (h : i ≠ n) : ((i : Int) == (n : Int)) = false:=by simp;omega
def RAllOwn (t : Rx) (s : List UInt8) (w : World) (e : Ending) (w' : World) : Prop :=
 ∃ (A : Option Addr) (cap : Nat),e = .returned (.slice A (spansO s t 0).length cap) ∧ w'.ownsRow w.heap.size 53 2 (.slice A (spansO s t 0).length cap) (spansO s t 0).length (spanVals (spansO s t 0)) ∧ Below w.heap.size w w'
theorem RAll_own (l : List Nd) (t : Rx) (hl : l = flat t) (hok : ∀ n ∈ l,okC n.cls) (hlen : l.length ≤ 60) (b off cap : Nat) (tx : ByteArray) (hx : tx.size ≤ 400) (w : World) (hr : RdN w (.slice (some ⟨b,off,none⟩) l.length cap) l) :
 Calls Tryz.prog 52 #[.slice (some ⟨b,off,none⟩) l.length cap,.string tx] w (RAllOwn t tx.data.toList w):=by
 obtain ⟨i0,hi0,hz0,hz1,hz2⟩:=info_parts info_span
 have HFN:=hid fun f hf W h => RFind_ok l t hl hok hlen b off cap tx hx f hf W h
 have HR:=hid hr
 have HSZ : Hid (tx.data.toList.length = tx.size):=hid (by simp)
 have HBH:=hid (long_behind tx.data.toList t)
 clear hl hok hlen hr
 go_enter Tryz.func52,Tryz.ntmps52
 go_wp2_with fail
 go_loopw [5,6] (fun v5 v6 wr => ∃ (at_ : Nat) (sp : List (Nat × Nat)),at_ ≤ tx.size + 1 ∧ sp.length ≤ at_ ∧ v6 = .int .i64 (at_ : Int) ∧ Hid (Chain (longO tx.data.toList t) tx.data.toList.length 0 sp at_) ∧ Hid (wr.ownsRow w.heap.size 53 2 v5 sp.length (spanVals sp)) ∧ Hid (Below w.heap.size w wr)) (fun _ i _ => tx.size + 1 - (intOf i).toNat)
 case atStart => exact ⟨0,[],by omega,by simp,rfl,hid (.nil 0),hid (World.ownsRow_nil _ _ _ _),hid (Below.refl _ _)⟩
 case round =>
  obtain ⟨at_,sp,hat,hsp,rfl,HC,HO,HB⟩:=hrel
  by_cases hlt : at_ ≤ tx.size
  ·have hd : decide (at_ ≤ tx.size) = true:=by simpa using hlt
   have HNC:=hid (HFN.out at_ (by omega) wr (HR.out.below HB.out))
   have hsize:=HB.out.size
   go_wp2_with fail
   refine HNC.out.mono ?_
   rintro e w3 (⟨x,y,hfo,rfl,hb3⟩ | ⟨hfo,rfl,hb3⟩)
   ·have hs3:=hb3.size
    have HB3:=hid ((HB.out.trans (hb3.mono hsize)).alloc (by omega) (.cells #[.int .i64 (x : Int),.int .i64 (y : Int)] 53))
    have HO3:=hid ((own_below HO.out hb3).alloc (.cells #[.int .i64 (x : Int),.int .i64 (y : Int)] 53))
    have HC3:=hid (HC.out.snoc hfo)
    have hbg:=behind_gt HBH.out hfo
    rw [HSZ.out] at hbg
    have HK3:=hid ((Blk.new w3 53 #[.int .i64 (x : Int),.int .i64 (y : Int)]).alloc (.cells #[.int .i64 (x : Int),.int .i64 (y : Int)] 53))
    have HRL : Hid (∀ g,u5.ownBlock = some g → g < w3.heap.size):=hid (fun g hg => by have:=(HO.out.lt g hg).2;omega)
    clear hfo hb3 HNC
    have hb1 : at_ < behind x y:=hbg.1
    have hb2 : behind x y ≤ tx.size + 1:=hbg.2.1
    have hyl : y ≤ tx.size:=hbg.2.2.2
    clear hbg
    go_wp2_with (at_builtin;refine wpList_append_own _ rfl (.tmp 22) (.tmp 24) _ rfl w.heap.size 53 i0 _ 2 16 Tryz.underlying61 hi0 hz0 hz1 hz2 rfl (by omega) _ sp.length (spanVals sp) rfl (HO3.out.alloc _) ⟨w3.heap.size + 1,0,none⟩ 1 1 [.int .i64 (x : Int),.int .i64 (y : Int)] rfl rfl (new_two _ _ _ _ _ (by simp)) (by intro u hu;simp at hu;rcases hu with rfl | rfl <;> rfl) (by unfold maxLen;omega) (by omega) (by simp;omega) ?_)
    intro v' w' hown' hg' _
    have hbk:=(hg'.block w3.heap.size (by simp;omega) (fun e => by have:=HRL.out _ e.symm;omega)).trans HK3.out
    have HO5 : Hid (w'.ownsRow w.heap.size 53 2 v' (sp ++ [(x,y)]).length (spanVals (sp ++ [(x,y)]))):=hid (by rw [List.length_append,spanVals_snoc];exact hown')
    have HB5:=hid (below_own (HB3.out.alloc (by simp;omega) _) (Nat.le_refl _) (by simp;omega) (HO3.out.alloc _) hg')
    have b0 : w'.cell? ⟨w3.heap.size,0,none⟩ = some (.int .i64 (x : Int)):=Blk.cell hbk 0
    have b1 : w'.cell? ⟨w3.heap.size,1,none⟩ = some (.int .i64 (y : Int)):=Blk.cell hbk 1
    clear hown' hg' hbk HK3 HRL
    by_cases exy : x = y
    ·have hd3 : ((x : Int) == (y : Int)) = true:=int_beqt exy
     have hbe : behind x y = y + 1:=by unfold behind;rw [if_pos exy.symm]
     have HBE:=hid hbe
     rw [hbe] at hb1 hb2
     clear exy hbe
     go_wp2_with fail
     go_roundw
     case rel => exact ⟨y + 1,sp ++ [(x,y)],hb2,by simp;omega,by go_num,hid (by have:=HC3.out;rw [HBE.out] at this;exact this),HO5,HB5⟩
     case measure => simp [intOf];omega
    ·have hd3 : ((x : Int) == (y : Int)) = false:=int_beqf exy
     have hbe : behind x y = y:=by unfold behind;rw [if_neg (fun e => exy e.symm)]
     have HBE:=hid hbe
     rw [hbe] at hb1 hb2
     clear exy hbe
     go_wp2_with fail
     go_roundw
     case rel => exact ⟨y,sp ++ [(x,y)],hb2,by simp;omega,by go_num,hid (by have:=HC3.out;rw [HBE.out] at this;exact this),HO5,HB5⟩
     case measure => simp [intOf];omega
   ·have hs3:=hb3.size
    have hspan : spansO tx.data.toList t 0 = sp:=by
     have:=HC.out.all HBH.out
     rw [allO_none hfo,List.append_nil] at this
     exact this
    have HSP:=hid hspan
    have HB3 : Hid (Below w.heap.size w (w3.alloc (.cells #[.int .i64 0,.int .i64 0] 53))):=hid ((HB.out.trans (hb3.mono hsize)).alloc (by omega) _)
    have hrow:=(own_below HO.out hb3).alloc (.cells #[.int .i64 0,.int .i64 0] 53)
    obtain ⟨VA,vn,vcap,rfl,_,_,hvl,_⟩:=Rd.of_own hrow
    rw [spanVals_len] at hvl
    obtain rfl : vn = sp.length:=by omega
    have HROW:=hid hrow
    clear hfo hb3 HNC hspan hrow hvl
    go_wp2_with fail
    go_ret
    unfold RAllOwn
    rw [HSP.out]
    exact ⟨VA,vcap,rfl,HROW.out,HB3.out⟩
  ·have hd : decide (at_ ≤ tx.size) = false:=by simpa using hlt
   have hspan : spansO tx.data.toList t 0 = sp:=by
    have:=HC.out.all HBH.out
    rw [allO_end (L:=longO tx.data.toList t) (N:=tx.data.toList.length) (at_:=at_) (by rw [HSZ.out];omega),List.append_nil] at this
    exact this
   have HSP:=hid hspan
   have hrow:=HO.out
   obtain ⟨VA,vn,vcap,rfl,_,_,hvl,_⟩:=Rd.of_own hrow
   rw [spanVals_len] at hvl
   obtain rfl : vn = sp.length:=by omega
   have HROW:=hid hrow
   clear hspan hrow hvl hlt
   go_wp2_with fail
   go_ret
   unfold RAllOwn
   rw [HSP.out]
   exact ⟨VA,vcap,rfl,HROW.out,HB.out⟩
end Go.Proofs.YthcahjnniendnacGreatDoor
