/-
  DsD, DsE.
-/
import Derived.Test.YthcahjnniendnacGreatDoorGAll
import Derived.Test.YthcahjnniendnacGreatDoorGDs
import Derived.Test.YthcahjnniendnacGreatDoorGRb
import Derived.Test.YthcahjnniendnacGreatDoorGRw
set_option linter.unusedVariables false
set_option linter.unusedSimpArgs false
set_option maxRecDepth 100000
set_option maxHeartbeats 16000000
open Go.Lib (hid)
namespace Wf
noncomputable def hitsK (s : List UInt8) (ms : List Mb) (k : Nat) : List (Nat × Nat × Nat):=(ms.take k).flatMap (hitsOf s)
def triesK (on : Bool) (s : List UInt8) (ms : List Mb) (k : Nat) : Nat:=((ms.take k).filter fun x => !on || stands (litL x.t).1 s).length
theorem take_sn2 {α : Type} {l : List α} {k : Nat} {x : α} (h : l[k]? = some x) : l.take (k + 1) = l.take k ++ [x]:=by
 rw [List.take_add_one,h];rfl
theorem hitsK_succ {s : List UInt8} {ms : List Mb} {k : Nat} {q : Mb} (h : ms[k]? = some q) : hitsK s ms (k + 1) = hitsK s ms k ++ hitsOf s q:=by
 unfold hitsK;rw [take_sn2 h];simp
theorem triesK_succ {on : Bool} {s : List UInt8} {ms : List Mb} {k : Nat} {q : Mb} (h : ms[k]? = some q) : triesK on s ms (k + 1) = triesK on s ms k + if !on || stands (litL q.t).1 s then 1 else 0:=by
 unfold triesK;rw [take_sn2 h,List.filter_append,List.length_append]
 congr 1
 simp only [List.filter_cons,List.filter_nil]
 split <;> rfl
theorem triesK_le (on : Bool) (s : List UInt8) (ms : List Mb) (k : Nat) : triesK on s ms k ≤ k:=by
 unfold triesK
 have:=List.length_filter_le (fun x : Mb => !on || stands (litL x.t).1 s) (ms.take k)
 have h2 : (ms.take k).length ≤ k:=by simp;omega
 omega
def thrK (n s : List UInt8) (a : Nat) : Bool:=(List.range a).any fun i => n.isPrefixOf (s.drop i)
theorem thrK_succ (n s : List UInt8) (a : Nat) : thrK n s (a + 1) = (thrK n s a || n.isPrefixOf (s.drop a)):=by
 unfold thrK;rw [List.range_succ,List.any_append];simp
theorem thrK_all (n s : List UInt8) : thrK n s (s.length + 1) = stands n s:=rfl
def hitsJ (id : Nat) (sp : List (Nat × Nat)) (j : Nat) : List (Nat × Nat × Nat):=(sp.take j).map fun p => (id,p.1,p.2)
theorem hitsJ_succ (id : Nat) {sp : List (Nat × Nat)} {j : Nat} {a b : Nat} (h : sp[j]? = some (a,b)) : hitsJ id sp (j + 1) = hitsJ id sp j ++ [(id,a,b)]:=by
 unfold hitsJ;rw [take_sn2 h];simp
theorem hitsJ_all (s : List UInt8) (q : Mb) : hitsJ q.id (spansO s q.t 0) (spansO s q.t 0).length = hitsOf s q:=by
 unfold hitsJ hitsOf;rw [List.take_length]
end Wf
namespace Go.Proofs.YthcahjnniendnacGreatDoor.setW
open Go.RowKit Wf
set_option linter.unusedVariables false
theorem hitsK_len (s : ByteArray) (hs : s.size ≤ 400) (ms : List Mb) (k : Nat) : (hitsK s.data.toList ms k).length ≤ 401 * k:=by
 induction k with
 | zero => simp [hitsK]
 | succ k ih =>
   cases h : ms[k]? with
   | none =>
     have : hitsK s.data.toList ms (k + 1) = hitsK s.data.toList ms k:=by
      unfold hitsK
      have:=List.getElem?_eq_none_iff.1 h
      rw [List.take_of_length_le (by omega),List.take_of_length_le (by omega)]
     rw [this];omega
   | some q =>
     rw [hitsK_succ h,List.length_append]
     have:=spans_few s q.t hs
     have h2 : (hitsOf s.data.toList q).length = (spansO s.data.toList q.t 0).length:=by unfold hitsOf;simp
     omega
theorem stands_at {s p : ByteArray} {a : Nat} (ha : a ≤ s.size) : (a + p.size ≤ s.size ∧ s.extract a (a + p.size) = p) ↔ p.data.toList.isPrefixOf (s.data.toList.drop a) = true:=by
 rw [List.isPrefixOf_iff_prefix,List.prefix_iff_eq_take]
 have h1 : (s.extract a (a + p.size)).data.toList = (s.data.toList.drop a).take p.size:=by simp [List.take_drop]
 have h2 : p.data.toList.length = p.size:=by simp
 have h3 : s.data.toList.length = s.size:=by simp
 rw [h2,← h1]
 constructor
 ·rintro ⟨_,h⟩
  rw [h]
 ·intro h
  have hx : s.extract a (a + p.size) = p:=ByteArray.ext (Array.toList_inj.1 h.symm)
  refine ⟨?_,hx⟩
  have h4:=congrArg List.length h
  rw [h1,List.length_take,List.length_drop,h2,h3] at h4
  omega
def RStandsIs (s : ByteArray) (a : Nat) (p : ByteArray) (w : World) (e : Ending) (w' : World) : Prop:=e = .returned (.bool (p.data.toList.isPrefixOf (s.data.toList.drop a))) ∧ w = w'
theorem RStands_c (s p : ByteArray) (a : Nat) (w : World) (hs : s.size ≤ 400) (ha : a ≤ s.size) (hp : p.size ≤ 400) : Calls Tryz.prog 51 #[.string s,.int .i64 (a : Int),.string p] w (RStandsIs s a p w):=by
 have hst:=stands_at (s:=s) (p:=p) ha
 have i0 : (0 : Int) ≤ (a : Int):=by omega
 have d0 : decide ((0 : Int) ≤ (a : Int)) = true:=by simp
 have hwr : IntKind.i64.wrap ((a : Int) + (p.size : Int)) = (a : Int) + (p.size : Int):=IntWalk.i64_in _ (by omega)
 obtain ⟨R,hR⟩ : ∃ R,R = p.data.toList.isPrefixOf (s.data.toList.drop a):=⟨_,rfl⟩
 unfold RStandsIs
 rw [← hR] at hst ⊢
 have HST:=hid hst
 clear hst hR
 by_cases h : a + p.size ≤ s.size
 ·have d1 : decide ((a : Int) + (p.size : Int) ≤ (s.size : Int)) = true:=by simp;omega
  have i1 : (a : Int) + (p.size : Int) ≤ (s.size : Int):=by omega
  have i2 : (a : Int) ≤ (a : Int) + (p.size : Int):=by omega
  go_enter Tryz.func51,Tryz.ntmps51
  go_wp2
  go_ret
  have hb : ((s.extract a (a + p.size)).toList == p.toList) = R:=by
   rw [Bool.eq_iff_iff,Lib.bytes_beq_iff]
   exact ⟨fun h' => HST.out.1 ⟨h,h'⟩,fun h' => (HST.out.2 h').2⟩
  refine ⟨?_,by first | rfl | trivial⟩
  rw [← hb]
  rfl
 ·have d1 : decide ((a : Int) + (p.size : Int) ≤ (s.size : Int)) = false:=by simp;omega
  have d2 : decide (a + p.size ≤ s.size) = false:=by simp;omega
  have HR : Hid (R = false):=hid (by
   cases hh : R with
   | false => rfl
   | true => exact absurd (HST.out.2 hh).1 h)
  clear h
  go_enter Tryz.func51,Tryz.ntmps51
  go_wp2
  go_ret
  exact ⟨by rw [HR.out];rfl,by first | rfl | trivial⟩
theorem DK.app {B b n size : Nat} {w w1 w2 : World} {e : TypeId} {v : Value} {xs : List Value} (h : DK B b w w1) (ho : w1.ownsRow w.heap.size e size v n xs) (hB : B ≤ w.heap.size) (hg : w1.grownBy w2 v.ownBlock) : DK B b w w2:=by
 have hs:=h.bel.size
 refine ⟨⟨hg.os.trans h.bel.os,hg.tape.trans h.bel.tape,hg.output.trans h.bel.output,Nat.le_trans hs hg.size,fun i hi => (hg.block i (by omega) fun e => by have:=(ho.lt i e.symm).1;omega).trans (h.bel.block i hi)⟩,fun i cs t h1 h2 h3 hb => ?_⟩
 have hl:=Blk.lt hb
 exact (hg.block i (by omega) fun e => by have:=(ho.lt i e.symm).1;omega).trans (h.keep i cs t h1 h2 h3 hb)
theorem RowIn.rdD {w : World} {lo : Nat} {v : Value} {l : List Nd} (h : RowIn w lo v l) : RdN w v l:=by
 obtain ⟨g,cap,cur,rfl,h1,h2,h3,h4,h5,h6⟩:=h
 refine ⟨_,l.length,cap,rfl,h2,h3,flatMap_len l,fun _ => ⟨g,0,rfl,fun j u hu => ?_⟩⟩
 rw [Nat.zero_add,Blk.cell h5]
 exact h6 j u hu
theorem flat_goodD (t : Rx) : ∀ n ∈ flat t,good n:=by
 intro n hn
 obtain ⟨i,hi,he⟩:=List.getElem_of_mem hn
 obtain ⟨u,hu⟩:=at_each t i hi
 obtain ⟨m,h1,_,h2⟩:=hu.node
 rw [List.getElem?_eq_getElem hi,he] at h1
 cases h1
 exact h2
def RScanIs (m : SS) (s : List UInt8) (B b : Nat) (AI AP : Value) (vs : List Value) (w : World) (e : Ending) (w' : World) : Prop :=
 ∃ (A : Option Addr) (cap : Nat),e = .returned (.tuple #[.slice A (m.hits s).length cap,.int .i64 0]) ∧ w'.ownsRow w.heap.size 55 3 (.slice A (m.hits s).length cap) (m.hits s).length ((m.hits s).flatMap hitCells) ∧ DAt B b (m.scan s) AI AP vs w' ∧ DK B b w w'
theorem RScan_long (b : Nat) (s : ByteArray) (w : World) (hs : 400 < s.size) :
 Calls Tryz.prog 28 #[.pointer (some ⟨b,0,none⟩),.string s] w (fun e w' => e = .returned (.tuple #[.slice none 0 0,.int .i64 3]) ∧ w = w'):=by
 have hd : decide ((400 : Int) < (s.size : Int)) = true:=by simp;omega
 go_enter Tryz.func28,Tryz.ntmps28
 go_wp2
 go_ret2
 exact ⟨rfl,by first | rfl | trivial⟩
theorem RScan_c (B b : Nat) (m : SS) (AI AP : Value) (vs : List Value) (s : ByteArray) (w : World) (h : DAt B b m AI AP vs w) (hs : s.size ≤ 400) :
 Calls Tryz.prog 28 #[.pointer (some ⟨b,0,none⟩),.string s] w (RScanIs m s.data.toList B b AI AP vs w):=by
 obtain ⟨i0,hi0,hz0,hz1,hz2⟩:=info_parts info_hit
 have hd : decide ((400 : Int) < (s.size : Int)) = false:=by simp;omega
 obtain ⟨A,cap,A2,cap2,rfl,rfl⟩:=h.form
 have hlen:=h.ok.len
 obtain ⟨L,hL⟩ : ∃ L,L = s.data.toList:=⟨_,rfl⟩
 have hLZ : L.length = s.size:=by rw [hL];simp
 have HLZ:=hid hLZ
 have HLL:=hid hL
 obtain ⟨n,hn⟩ : ∃ n,n = m.ms.length:=⟨_,rfl⟩
 have HNN:=hid hn
 have HKL : Hid (∀ k,(hitsK L m.ms k).length ≤ 401 * k):=hid fun k => by rw [hL];exact hitsK_len s hs m.ms k
 have HND : Hid (∀ (q : Mb) (v : Value) W lo,q ∈ m.ms → RowIn W lo v (flat q.t) → Calls Tryz.prog 50 #[v,.int .i64 0] W (RNeedIs (litL q.t) W)):=hid fun q v W lo hq hr => by
  obtain ⟨_,_,h60,hokt,_⟩:=parseE_some (h.ok.read q hq)
  obtain ⟨g,cp,rfl,_⟩:=hr.form
  exact RNeed_all (flat q.t) (flat_goodD q.t) hokt h60 g 0 cp q.t 0 W (At.whole q.t) (RowIn.rdD hr)
 have HAL : Hid (∀ (q : Mb) (v : Value) W lo,q ∈ m.ms → RowIn W lo v (flat q.t) → Calls Tryz.prog 52 #[v,.string s] W (RAllOwn q.t L W)):=hid fun q v W lo hq hr => by
  obtain ⟨_,_,h60,hokt,_⟩:=parseE_some (h.ok.read q hq)
  obtain ⟨g,cp,rfl,_⟩:=hr.form
  rw [hL]
  exact RAll_own (flat q.t) q.t rfl hokt h60 g 0 cp s hs W (RowIn.rdD hr)
 have HSF : Hid (∀ q : Mb,(spansO L q.t 0).length ≤ 401):=hid fun q => by rw [hL];exact spans_few s q.t hs
 have HST : Hid (∀ (p : ByteArray) (a : Nat) W,a ≤ s.size → p.size ≤ 60 → Calls Tryz.prog 51 #[.string s,.int .i64 (a : Int),.string p] W (RStandsIs s a p W)):=hid fun p a W h1 h2 => RStands_c s p a W hs h1 (by omega)
 have HOK:=hid h.ok
 have HLB:=hid h.lastb
 have hbb:=h.hB
 have hblt:=h.lt
 have f4:=h.blk.frozen 4
 have t4 : w.cell? ⟨b,4,none⟩ = some (.int .i64 (m.tried : Int)):=h.blk.cell 4
 have hokz : ∀ k,SS.ok { m with tried:=triesK m.on L m.ms k }:=fun k => ⟨h.ok.len,h.ok.up,h.ok.pos,h.ok.read⟩
 have HOZ:=hid hokz
 have HD0 : Hid (DAt B b { m with tried:=triesK m.on L m.ms 0 } (.slice A n cap) (.slice A2 n cap2) vs (w.setCell ⟨b,4,none⟩ (.int .i64 0))):=hid (by
  have:=h.put ({ m with tried:=triesK m.on L m.ms 0 }) rfl (hokz 0) h.lastb 4 (.int .i64 0) (by simp [triesK])
  rw [← hn] at this
  exact this)
 have HFIN : Hid (∀ (A' : Option Addr) (cp : Nat) (W : World) (e : Ending),e = .returned (.tuple #[.slice A' (hitsK L m.ms n).length cp,.int .i64 0]) → W.ownsRow w.heap.size 55 3 (.slice A' (hitsK L m.ms n).length cp) (hitsK L m.ms n).length ((hitsK L m.ms n).flatMap hitCells) → DAt B b { m with tried:=triesK m.on L m.ms n } (.slice A n cap) (.slice A2 n cap2) vs W → DK B b w W → RScanIs m s.data.toList B b (.slice A m.ms.length cap) (.slice A2 m.ms.length cap2) vs w e W):=hid fun A' cp W e h1 h2 h3 h4 => by
  have e1 : hitsK L m.ms n = m.hits s.data.toList:=by unfold hitsK SS.hits;rw [hn,List.take_length,hL]
  have e2 : { m with tried:=triesK m.on L m.ms n } = m.scan s.data.toList:=by
   unfold SS.scan SS.tries triesK
   rw [if_pos (by rw [← hL,hLZ];exact hs),hn,List.take_length,hL]
  rw [e1] at h1 h2
  rw [e2,hn] at h3
  exact ⟨A',cp,h1,h2,h3,h4⟩
 generalize hRR : RScanIs m s.data.toList B b (.slice A m.ms.length cap) (.slice A2 m.ms.length cap2) vs w = RR at *
 rw [← hn] at hlen
 clear h hL hLZ hokz hRR hn
 go_enter Tryz.func28,Tryz.ntmps28
 go_wp2_with fail
 go_loopw [6,7] (fun v6 v7 wx => ∃ k : Nat,k ≤ n ∧ v7 = .int .i64 (k : Int) ∧ Hid (wx.ownsRow w.heap.size 55 3 v6 (hitsK L m.ms k).length ((hitsK L m.ms k).flatMap hitCells)) ∧ Hid (DAt B b { m with tried:=triesK m.on L m.ms k } (.slice A n cap) (.slice A2 n cap2) vs wx) ∧ Hid (DK B b w wx)) (fun _ v _ => n - (intOf v).toNat)
 case atStart => exact ⟨0,by omega,rfl,hid (by simp [hitsK];exact World.ownsRow_nil _ _ _ _),HD0,hid (DK.set hbb _ _ _)⟩
 case round =>
  clear HD0 f4 t4
  obtain ⟨k,hk,rfl,HO,HD,HK⟩:=hrel
  rename World => wo
  have r0 : wo.cell? ⟨b,0,none⟩ = some (.slice A n cap):=HD.out.blk.cell 0
  have r1 : wo.cell? ⟨b,1,none⟩ = some (.slice A2 n cap2):=HD.out.blk.cell 1
  have hww : w.heap.size ≤ wo.heap.size:=HK.out.bel.size
  by_cases hkn : k < n
  ·have d1 : decide (k < n) = true:=by simpa using hkn
   have d2 : decide ((k : Int) < (n : Int)) = true:=by simp;omega
   have hk0 : (0 : Int) ≤ (k : Int):=by omega
   have hk1 : (k : Int) < (n : Int):=by omega
   have hknm : k < m.ms.length:=by rw [← HNN.out];exact hkn
   obtain ⟨q,hq⟩ : ∃ q,m.ms[k]? = some q:=⟨_,List.getElem?_eq_getElem hknm⟩
   have HQ:=hid hq
   have hqm:=hid (List.mem_of_getElem? hq)
   obtain ⟨u,hu⟩ : ∃ u,vs[k]? = some u:=⟨_,List.getElem?_eq_getElem (by rw [HD.out.rows.1,List.length_map];exact hknm)⟩
   have hrow:=HD.out.rows.2 k u (flat q.t) hu (by rw [List.getElem?_map,hq];rfl)
   have HR:=hid hrow
   have HPCX : Hid (∀ W : World,W.ownsRow B 22 1 (.slice A2 n cap2) n vs → ∃ ga,A2 = some ⟨ga,0,none⟩ ∧ W.cell? ⟨ga,k,none⟩ = some u):=hid fun W hW => by
    obtain ⟨ga,c',hv,_,_,_,_,hc⟩:=own_form1 hW (by omega)
    injection hv with e1 _ _
    exact ⟨ga,e1,hc W rfl k u hu⟩
   have hDP : wo.ownsRow B 22 1 (.slice A2 n cap2) n vs:=by have:=HD.out.pts;rw [← HNN.out] at this;exact this
   obtain ⟨ga,rfl,gk0⟩:=HPCX.out wo hDP
   obtain ⟨g1,cap1,rfl,hl0,hlc,_,_,_,_⟩:=hrow.form
   obtain ⟨N,hN⟩ : ∃ N,N = (flat q.t).length:=⟨_,rfl⟩
   rw [← hN] at HR gk0 HPCX
   have HPC : Hid (∀ W : World,W.ownsRow B 22 1 (.slice (some ⟨ga,0,none⟩) n cap2) m.ms.length vs → W.cell? ⟨ga,k,none⟩ = some (.slice (some ⟨g1,0,none⟩) N cap1)):=hid fun W hW => by
    rw [← HNN.out] at hW
    obtain ⟨ga',e1,h2⟩:=HPCX.out W hW
    injection e1 with e1
    injection e1 with e1
    subst e1
    exact h2
   clear hq hu hrow hN hDP HPCX
   go_wp2_with fail
   refine (HND.out q _ wo B hqm.out HR.out).mono ?_
   rintro e w2 ⟨nd,rfl,hnd,hns,hb2⟩
   have HD2:=hid (HD.out.below hb2)
   have HO2:=hid (own_low HO.out hb2)
   have HK2:=hid (HK.out.trans (DK.of_below HD.out.hBw hb2))
   have HR2:=hid (HR.out.below hb2)
   have HNDE:=hid hnd
   have hww2 : w.heap.size ≤ w2.heap.size:=HK2.out.bel.size
   clear hb2 hnd r0 r1 HD HO HK HR gk0
   go_wp2_with fail
   go_loopw [9,10] (fun v9 v10 wx => ∃ (a : Nat) (r : Bool),a ≤ s.size + 1 ∧ v10 = .int .i64 (a : Int) ∧ v9 = .bool r ∧ Hid (r = thrK (litL q.t).1 L a) ∧ Hid (w2 = wx)) (fun _ v _ => s.size + 1 - (intOf v).toNat)
   case atStart => exact ⟨0,false,by omega,rfl,rfl,hid (by simp [thrK]),hid (by first | rfl | trivial)⟩
   case round =>
    obtain ⟨a,r,ha,rfl,rfl,HTH,HW⟩:=hrel
    have hw2:=HW.out
    subst hw2
    by_cases hal : a < s.size + 1
    ·have da : decide ((a : Int) ≤ (s.size : Int)) = true:=by simp;omega
     cases r with
     | true =>
       go_wp2_with fail
       go_roundw
       case rel => exact ⟨a + 1,true,by omega,by go_num,rfl,hid (by rw [thrK_succ,← HTH.out];rfl),hid (by first | rfl | trivial)⟩
       case measure => simp [intOf];omega
     | false =>
       go_wp2_with fail
       refine (HST.out nd a _ (by omega) hns).mono ?_
       rintro e w3 ⟨rfl,hw3⟩
       subst hw3
       obtain ⟨r2,hr2⟩ : ∃ r2,r2 = nd.data.toList.isPrefixOf (s.data.toList.drop a):=⟨_,rfl⟩
       have HR2':=hid hr2
       rw [← hr2]
       clear hr2
       go_wp2_with fail
       go_roundw
       case rel => exact ⟨a + 1,r2,by omega,by go_num,rfl,hid (by rw [thrK_succ,← HTH.out,HR2'.out,HNDE.out,HLL.out];rfl),hid (by first | rfl | trivial)⟩
       case measure => simp [intOf];omega
    ·obtain rfl : a = s.size + 1:=by omega
     have da : decide (((s.size + 1 : Nat) : Int) ≤ (s.size : Int)) = false:=by simp;omega
     have HTH2 : Hid (stands (litL q.t).1 L = r):=hid (by rw [HTH.out,← thrK_all,HLZ.out])
     have r4 : w2.cell? ⟨b,4,none⟩ = some (.int .i64 (triesK m.on L m.ms k : Int)):=HD2.out.blk.cell 4
     have z4 : w2.frozen? ⟨b,4,none⟩ = false:=HD2.out.blk.frozen 4
     have r0 : w2.cell? ⟨b,0,none⟩ = some (.slice A n cap):=HD2.out.blk.cell 0
     have htk:=triesK_le m.on L m.ms k
     cases r with
     | true =>
       have HTR : Hid (triesK m.on L m.ms (k + 1) = triesK m.on L m.ms k + 1):=hid (by rw [triesK_succ HQ.out,HTH2.out];simp)
       have HD3 : Hid (DAt B b { m with tried:=triesK m.on L m.ms (k + 1) } (.slice A n cap) (.slice (some ⟨ga,0,none⟩) n cap2) vs (w2.setCell ⟨b,4,none⟩ (.int .i64 ((triesK m.on L m.ms k : Int) + 1)))):=hid (by
        have:=HD2.out.put ({ m with tried:=triesK m.on L m.ms (k + 1) }) rfl (HOZ.out _) HLB.out 4 (.int .i64 ((triesK m.on L m.ms k : Int) + 1)) (by simp [HTR.out])
        exact this)
       have HK3 : Hid (DK B b w (w2.setCell ⟨b,4,none⟩ (.int .i64 ((triesK m.on L m.ms k : Int) + 1)))):=hid (HK2.out.trans (DK.set hbb _ _ _))
       have HO3 : Hid ((w2.setCell ⟨b,4,none⟩ (.int .i64 ((triesK m.on L m.ms k : Int) + 1))).ownsRow w.heap.size 55 3 u6 (hitsK L m.ms k).length ((hitsK L m.ms k).flatMap hitCells)):=hid (HO2.out.kept (grown_setS w2 b 4 _) (.inr (own_not HO2.out HD2.out.blk (by decide))))
       have HR3 : Hid (RowIn (w2.setCell ⟨b,4,none⟩ (.int .i64 ((triesK m.on L m.ms k : Int) + 1))) B (.slice (some ⟨g1,0,none⟩) N cap1) (flat q.t)):=hid (row_set HR2.out HD2.out.blk (by decide))
       have hW3 : w.heap.size ≤ ((w2.setCell ⟨b,4,none⟩ (.int .i64 ((triesK m.on L m.ms k : Int) + 1)))).heap.size:=by simp;omega
       have r1' : w2.cell? ⟨b,1,none⟩ = some (.slice (some ⟨ga,0,none⟩) n cap2):=HD2.out.blk.cell 1
       have gk' : w2.cell? ⟨ga,k,none⟩ = some (.slice (some ⟨g1,0,none⟩) N cap1):=HPC.out _ HD2.out.pts
       have hgab : ga ≠ b:=fun e => own_not HD2.out.pts HD2.out.blk (by decide) (by rw [e];rfl)
       have hgab2 : b ≠ ga:=fun e => hgab e.symm
       have r1 : ((w2.setCell ⟨b,4,none⟩ (.int .i64 ((triesK m.on L m.ms k : Int) + 1)))).cell? ⟨b,1,none⟩ = some (.slice (some ⟨ga,0,none⟩) n cap2):=HD3.out.blk.cell 1
       have gk : ((w2.setCell ⟨b,4,none⟩ (.int .i64 ((triesK m.on L m.ms k : Int) + 1)))).cell? ⟨ga,k,none⟩ = some (.slice (some ⟨g1,0,none⟩) N cap1):=HPC.out _ HD3.out.pts
       go_wp2_with fail
       refine (HAL.out q _ _ B hqm.out HR3.out).mono ?_
       rintro e w4 ⟨SA,scap,rfl,hso,hb4⟩
       have HD4:=hid (HD3.out.below hb4)
       have HK4:=hid (HK3.out.trans (DK.of_below HD3.out.hBw hb4))
       have HO4:=hid (own_low HO3.out hb4)
       have HS4:=hid hso
       have hsf:=HSF.out q
       obtain ⟨sp,hsp⟩ : ∃ sp,sp = spansO L q.t 0:=⟨_,rfl⟩
       have HSPE:=hid hsp
       rw [← hsp] at HS4 hsf ⊢
       clear hb4 hso hsp
       go_wp2_with fail
       obtain ⟨X,hX⟩ : ∃ X,X = hitsK L m.ms k:=⟨_,rfl⟩
       have HXE:=hid hX
       have hxl:=HKL.out k
       rw [← hX] at HO4 hxl
       clear hX
       go_loopw [6,12] (fun v6 v12 wx => ∃ j : Nat,j ≤ sp.length ∧ v12 = .int .i64 (j : Int) ∧ Hid (wx.ownsRow w.heap.size 55 3 v6 (X.length + j) (X.flatMap hitCells ++ (hitsJ q.id sp j).flatMap hitCells)) ∧ Hid (DAt B b { m with tried:=triesK m.on L m.ms (k + 1) } (.slice A n cap) (.slice (some ⟨ga,0,none⟩) n cap2) vs wx) ∧ Hid (DK B b w wx) ∧ Hid (wx.ownsRow w.heap.size 53 2 (.slice SA sp.length scap) sp.length (spanVals sp))) (fun _ v _ => sp.length - (intOf v).toNat)
       case atStart => exact ⟨0,by omega,rfl,hid (by have:=HO4.out;simpa [hitsJ] using this),HD4,HK4,hid (own_baseD HS4.out hW3)⟩
       case round =>
        clear HO4 HD4 HK4 HS4
        obtain ⟨j,hj,rfl,HO5,HD5,HK5,HS5⟩:=hrel
        have q0 : wr.cell? ⟨b,0,none⟩ = some (.slice A n cap):=HD5.out.blk.cell 0
        by_cases hjl : j < sp.length
        ·have dj : decide (j < sp.length) = true:=by simpa using hjl
         have dj2 : decide ((j : Int) < (sp.length : Int)) = true:=by simp;omega
         have hj0 : (0 : Int) ≤ (j : Int):=by omega
         have hj1 : (j : Int) < (sp.length : Int):=by omega
         obtain ⟨A',c',hv,_,_,hmi⟩:=it_open (Rd.of_own HD5.out.its)
         have e1 : A = A':=by injection hv
         clear hv
         obtain ⟨gi,oi,hgi,hgil,hci⟩:=hmi (by have:=HNN.out;show 0 < m.ms.length;omega)
         rw [hgi] at e1
         clear hgi
         subst e1
         obtain ⟨hid0,_⟩:=hci wr (fun _ => rfl) k q HQ.out
         obtain ⟨A'',c'',hv2,_,_,hms⟩:=span_open (Rd.of_own HS5.out)
         have e2 : SA = A'':=by injection hv2
         clear hv2
         obtain ⟨gs,os,hgs,hgsl,hcs⟩:=hms (by omega)
         rw [hgs] at e2
         clear hgs
         subst e2
         obtain ⟨⟨x,y⟩,hxy⟩ : ∃ p,sp[j]? = some p:=⟨_,List.getElem?_eq_getElem hjl⟩
         obtain ⟨s0,s1⟩:=hcs wr (fun _ => rfl) j x y hxy
         have HXY:=hid hxy
         have HNW : Hid (∀ (j : Nat) (u : Value),([.int .i64 (q.id : Int),.int .i64 (x : Int),.int .i64 (y : Int)] : List Value)[j]? = some u →
          (wr.alloc (.cells #[.int .i64 (q.id : Int),.int .i64 (x : Int),.int .i64 (y : Int)] 55)).drew.cell? ((⟨wr.heap.size,0,none⟩ : Addr).add j) = some u):=hid (by
          intro j u hu
          rw [add_mk,Nat.zero_add]
          have:=((Blk.new wr 55 #[.int .i64 (q.id : Int),.int .i64 (x : Int),.int .i64 (y : Int)]).drew).cell j
          rw [this]
          simpa using hu)
         have HON : Hid (∀ u ∈ ([.int .i64 (q.id : Int),.int .i64 (x : Int),.int .i64 (y : Int)] : List Value),u.oneCell' = true):=hid (by
          intro u hu
          simp only [List.mem_cons,List.not_mem_nil,or_false] at hu
          rcases hu with rfl | rfl | rfl <;> rfl)
         have hBa:=((Below.refl wr.heap.size wr).alloc (Nat.le_refl _) (.cells #[.int .i64 (q.id : Int),.int .i64 (x : Int),.int .i64 (y : Int)] 55)).drew
         have HBA:=hid hBa
         have HO6:=hid (own_low HO5.out hBa)
         have HD6:=hid (HD5.out.below hBa)
         have HS6:=hid (own_low HS5.out hBa)
         have HK6:=hid (HK5.out.trans (DK.of_below HD5.out.hBw hBa))
         have hww : w.heap.size ≤ wr.heap.size:=HK5.out.bel.size
         clear hBa hxy hcs hci
         go_wp2_with fail
         go_region_law (refine step_append_lies _ rfl (.tmp 79) (.tmp 93) 49 rfl w.heap.size 55 i0 _ 3 24 Tryz.underlying49 hi0 hz0 hz1 hz2 rfl (by decide) _ (X.length + j) _ ?a1 HO6.out ⟨wr.heap.size,0,none⟩ 1 1 [.int .i64 (q.id : Int),.int .i64 (x : Int),.int .i64 (y : Int)] ?a2 rfl HNW.out HON.out ?a4 ?a5 ?a6 ?a7 _ rfl ?_;(case a1 => simp [Act.eval,Act.put]);(case a2 => simp [Act.eval,Act.put]);(case a4 => omega);(case a5 => unfold maxLen;omega);(case a6 => omega);(case a7 => simp;omega);intro g' cp' w5 hown hg hat hlt5;have HOW:=hid hown;have HGW:=hid hg;clear hown hg hat hlt5)
         all_goals (
          have HD7 : Hid (DAt B b { m with tried:=triesK m.on L m.ms (k + 1) } _ _ vs w5):=hid ⟨hbb,blk_ty HD6.out.blk HO6.out HGW.out (by decide),own_ty HD6.out.its HO6.out HGW.out (by decide),own_ty HD6.out.pts HO6.out HGW.out (by decide),HD6.out.rows.keep fun u l hr => row_ty hr HO6.out HGW.out (by decide),HOZ.out _,HLB.out⟩
          have HK7 : Hid (DK B b w w5):=hid (HK6.out.app HO6.out (by omega) HGW.out)
          go_wp2_with fail
          go_roundw
          case rel => exact ⟨j + 1,by omega,by go_num,hid (by rw [hitsJ_succ q.id HXY.out];have:=HOW.out;simpa [hitCells,Nat.add_assoc] using this),HD7,HK7,hid (own_ty HS6.out HO6.out HGW.out (by decide))⟩
          case measure => simp [intOf];omega)
        ·obtain rfl : j = sp.length:=by omega
         have dj : decide (sp.length < sp.length) = false:=by simp
         have dj2 : decide ((sp.length : Int) < (sp.length : Int)) = false:=by simp
         have HO8 : Hid (wr.ownsRow w.heap.size 55 3 u6 (hitsK L m.ms (k + 1)).length ((hitsK L m.ms (k + 1)).flatMap hitCells)):=hid (by
          have e1 : hitsJ q.id sp sp.length = hitsOf L q:=by rw [HSPE.out];exact hitsJ_all L q
          have h1:=HO5.out
          rw [e1] at h1
          rw [hitsK_succ HQ.out,List.flatMap_append,List.length_append,← HXE.out]
          have e2 : (hitsOf L q).length = sp.length:=by rw [HSPE.out];unfold hitsOf;simp
          rw [e2]
          exact h1)
         go_wp2_with fail
         go_roundw
         case rel => exact ⟨k + 1,by omega,by go_num,HO8,HD5,HK5⟩
         case measure => simp [intOf];omega
     | false =>
       rcases Bool.eq_false_or_eq_true m.on with hon | hon
       ·skip
        have r3 : w2.cell? ⟨b,3,none⟩ = some (.bool true):=by have:=HD2.out.blk.cell 3;rw [← hon];exact this
        have HTR : Hid (triesK m.on L m.ms (k + 1) = triesK m.on L m.ms k + 0):=hid (by rw [triesK_succ HQ.out,HTH2.out];simp [hon])
        clear hon
        have HD3 : Hid (DAt B b { m with tried:=triesK m.on L m.ms (k + 1) } (.slice A n cap) (.slice (some ⟨ga,0,none⟩) n cap2) vs w2):=hid (by have:=HD2.out;rw [HTR.out,Nat.add_zero];exact this)
        have HK3:=HK2
        have HO3:=HO2
        have HR3:=HR2
        have hW3 : w.heap.size ≤ (w2).heap.size:=by exact hww2
        have r1' : w2.cell? ⟨b,1,none⟩ = some (.slice (some ⟨ga,0,none⟩) n cap2):=HD2.out.blk.cell 1
        have gk' : w2.cell? ⟨ga,k,none⟩ = some (.slice (some ⟨g1,0,none⟩) N cap1):=HPC.out _ HD2.out.pts
        have hgab : ga ≠ b:=fun e => own_not HD2.out.pts HD2.out.blk (by decide) (by rw [e];rfl)
        have hgab2 : b ≠ ga:=fun e => hgab e.symm
        have r1 : (w2).cell? ⟨b,1,none⟩ = some (.slice (some ⟨ga,0,none⟩) n cap2):=HD3.out.blk.cell 1
        have gk : (w2).cell? ⟨ga,k,none⟩ = some (.slice (some ⟨g1,0,none⟩) N cap1):=HPC.out _ HD3.out.pts
        go_wp2_with fail
        refine (HAL.out q _ _ B hqm.out HR3.out).mono ?_
        rintro e w4 ⟨SA,scap,rfl,hso,hb4⟩
        have HD4:=hid (HD3.out.below hb4)
        have HK4:=hid (HK3.out.trans (DK.of_below HD3.out.hBw hb4))
        have HO4:=hid (own_low HO3.out hb4)
        have HS4:=hid hso
        have hsf:=HSF.out q
        obtain ⟨sp,hsp⟩ : ∃ sp,sp = spansO L q.t 0:=⟨_,rfl⟩
        have HSPE:=hid hsp
        rw [← hsp] at HS4 hsf ⊢
        clear hb4 hso hsp
        go_wp2_with fail
        obtain ⟨X,hX⟩ : ∃ X,X = hitsK L m.ms k:=⟨_,rfl⟩
        have HXE:=hid hX
        have hxl:=HKL.out k
        rw [← hX] at HO4 hxl
        clear hX
        go_loopw [6,12] (fun v6 v12 wx => ∃ j : Nat,j ≤ sp.length ∧ v12 = .int .i64 (j : Int) ∧ Hid (wx.ownsRow w.heap.size 55 3 v6 (X.length + j) (X.flatMap hitCells ++ (hitsJ q.id sp j).flatMap hitCells)) ∧ Hid (DAt B b { m with tried:=triesK m.on L m.ms (k + 1) } (.slice A n cap) (.slice (some ⟨ga,0,none⟩) n cap2) vs wx) ∧ Hid (DK B b w wx) ∧ Hid (wx.ownsRow w.heap.size 53 2 (.slice SA sp.length scap) sp.length (spanVals sp))) (fun _ v _ => sp.length - (intOf v).toNat)
        case atStart => exact ⟨0,by omega,rfl,hid (by have:=HO4.out;simpa [hitsJ] using this),HD4,HK4,hid (own_baseD HS4.out hW3)⟩
        case round =>
         clear HO4 HD4 HK4 HS4
         obtain ⟨j,hj,rfl,HO5,HD5,HK5,HS5⟩:=hrel
         have q0 : wr.cell? ⟨b,0,none⟩ = some (.slice A n cap):=HD5.out.blk.cell 0
         by_cases hjl : j < sp.length
         ·have dj : decide (j < sp.length) = true:=by simpa using hjl
          have dj2 : decide ((j : Int) < (sp.length : Int)) = true:=by simp;omega
          have hj0 : (0 : Int) ≤ (j : Int):=by omega
          have hj1 : (j : Int) < (sp.length : Int):=by omega
          obtain ⟨A',c',hv,_,_,hmi⟩:=it_open (Rd.of_own HD5.out.its)
          have e1 : A = A':=by injection hv
          clear hv
          obtain ⟨gi,oi,hgi,hgil,hci⟩:=hmi (by have:=HNN.out;show 0 < m.ms.length;omega)
          rw [hgi] at e1
          clear hgi
          subst e1
          obtain ⟨hid0,_⟩:=hci wr (fun _ => rfl) k q HQ.out
          obtain ⟨A'',c'',hv2,_,_,hms⟩:=span_open (Rd.of_own HS5.out)
          have e2 : SA = A'':=by injection hv2
          clear hv2
          obtain ⟨gs,os,hgs,hgsl,hcs⟩:=hms (by omega)
          rw [hgs] at e2
          clear hgs
          subst e2
          obtain ⟨⟨x,y⟩,hxy⟩ : ∃ p,sp[j]? = some p:=⟨_,List.getElem?_eq_getElem hjl⟩
          obtain ⟨s0,s1⟩:=hcs wr (fun _ => rfl) j x y hxy
          have HXY:=hid hxy
          have HNW : Hid (∀ (j : Nat) (u : Value),([.int .i64 (q.id : Int),.int .i64 (x : Int),.int .i64 (y : Int)] : List Value)[j]? = some u →
           (wr.alloc (.cells #[.int .i64 (q.id : Int),.int .i64 (x : Int),.int .i64 (y : Int)] 55)).drew.cell? ((⟨wr.heap.size,0,none⟩ : Addr).add j) = some u):=hid (by
           intro j u hu
           rw [add_mk,Nat.zero_add]
           have:=((Blk.new wr 55 #[.int .i64 (q.id : Int),.int .i64 (x : Int),.int .i64 (y : Int)]).drew).cell j
           rw [this]
           simpa using hu)
          have HON : Hid (∀ u ∈ ([.int .i64 (q.id : Int),.int .i64 (x : Int),.int .i64 (y : Int)] : List Value),u.oneCell' = true):=hid (by
           intro u hu
           simp only [List.mem_cons,List.not_mem_nil,or_false] at hu
           rcases hu with rfl | rfl | rfl <;> rfl)
          have hBa:=((Below.refl wr.heap.size wr).alloc (Nat.le_refl _) (.cells #[.int .i64 (q.id : Int),.int .i64 (x : Int),.int .i64 (y : Int)] 55)).drew
          have HBA:=hid hBa
          have HO6:=hid (own_low HO5.out hBa)
          have HD6:=hid (HD5.out.below hBa)
          have HS6:=hid (own_low HS5.out hBa)
          have HK6:=hid (HK5.out.trans (DK.of_below HD5.out.hBw hBa))
          have hww : w.heap.size ≤ wr.heap.size:=HK5.out.bel.size
          clear hBa hxy hcs hci
          go_wp2_with fail
          go_region_law (refine step_append_lies _ rfl (.tmp 79) (.tmp 93) 49 rfl w.heap.size 55 i0 _ 3 24 Tryz.underlying49 hi0 hz0 hz1 hz2 rfl (by decide) _ (X.length + j) _ ?a1 HO6.out ⟨wr.heap.size,0,none⟩ 1 1 [.int .i64 (q.id : Int),.int .i64 (x : Int),.int .i64 (y : Int)] ?a2 rfl HNW.out HON.out ?a4 ?a5 ?a6 ?a7 _ rfl ?_;(case a1 => simp [Act.eval,Act.put]);(case a2 => simp [Act.eval,Act.put]);(case a4 => omega);(case a5 => unfold maxLen;omega);(case a6 => omega);(case a7 => simp;omega);intro g' cp' w5 hown hg hat hlt5;have HOW:=hid hown;have HGW:=hid hg;clear hown hg hat hlt5)
          all_goals (
           have HD7 : Hid (DAt B b { m with tried:=triesK m.on L m.ms (k + 1) } _ _ vs w5):=hid ⟨hbb,blk_ty HD6.out.blk HO6.out HGW.out (by decide),own_ty HD6.out.its HO6.out HGW.out (by decide),own_ty HD6.out.pts HO6.out HGW.out (by decide),HD6.out.rows.keep fun u l hr => row_ty hr HO6.out HGW.out (by decide),HOZ.out _,HLB.out⟩
           have HK7 : Hid (DK B b w w5):=hid (HK6.out.app HO6.out (by omega) HGW.out)
           go_wp2_with fail
           go_roundw
           case rel => exact ⟨j + 1,by omega,by go_num,hid (by rw [hitsJ_succ q.id HXY.out];have:=HOW.out;simpa [hitCells,Nat.add_assoc] using this),HD7,HK7,hid (own_ty HS6.out HO6.out HGW.out (by decide))⟩
           case measure => simp [intOf];omega)
         ·obtain rfl : j = sp.length:=by omega
          have dj : decide (sp.length < sp.length) = false:=by simp
          have dj2 : decide ((sp.length : Int) < (sp.length : Int)) = false:=by simp
          have HO8 : Hid (wr.ownsRow w.heap.size 55 3 u6 (hitsK L m.ms (k + 1)).length ((hitsK L m.ms (k + 1)).flatMap hitCells)):=hid (by
           have e1 : hitsJ q.id sp sp.length = hitsOf L q:=by rw [HSPE.out];exact hitsJ_all L q
           have h1:=HO5.out
           rw [e1] at h1
           rw [hitsK_succ HQ.out,List.flatMap_append,List.length_append,← HXE.out]
           have e2 : (hitsOf L q).length = sp.length:=by rw [HSPE.out];unfold hitsOf;simp
           rw [e2]
           exact h1)
          go_wp2_with fail
          go_roundw
          case rel => exact ⟨k + 1,by omega,by go_num,HO8,HD5,HK5⟩
          case measure => simp [intOf];omega
       ·skip
        have r3 : w2.cell? ⟨b,3,none⟩ = some (.bool false):=by have:=HD2.out.blk.cell 3;rw [← hon];exact this
        have HTR : Hid (triesK m.on L m.ms (k + 1) = triesK m.on L m.ms k + 1):=hid (by rw [triesK_succ HQ.out,HTH2.out];simp [hon])
        clear hon
        have HD3 : Hid (DAt B b { m with tried:=triesK m.on L m.ms (k + 1) } (.slice A n cap) (.slice (some ⟨ga,0,none⟩) n cap2) vs (w2.setCell ⟨b,4,none⟩ (.int .i64 ((triesK m.on L m.ms k : Int) + 1)))):=hid (by
         have:=HD2.out.put ({ m with tried:=triesK m.on L m.ms (k + 1) }) rfl (HOZ.out _) HLB.out 4 (.int .i64 ((triesK m.on L m.ms k : Int) + 1)) (by simp [HTR.out])
         exact this)
        have HK3 : Hid (DK B b w (w2.setCell ⟨b,4,none⟩ (.int .i64 ((triesK m.on L m.ms k : Int) + 1)))):=hid (HK2.out.trans (DK.set hbb _ _ _))
        have HO3 : Hid ((w2.setCell ⟨b,4,none⟩ (.int .i64 ((triesK m.on L m.ms k : Int) + 1))).ownsRow w.heap.size 55 3 u6 (hitsK L m.ms k).length ((hitsK L m.ms k).flatMap hitCells)):=hid (HO2.out.kept (grown_setS w2 b 4 _) (.inr (own_not HO2.out HD2.out.blk (by decide))))
        have HR3 : Hid (RowIn (w2.setCell ⟨b,4,none⟩ (.int .i64 ((triesK m.on L m.ms k : Int) + 1))) B (.slice (some ⟨g1,0,none⟩) N cap1) (flat q.t)):=hid (row_set HR2.out HD2.out.blk (by decide))
        have hW3 : w.heap.size ≤ ((w2.setCell ⟨b,4,none⟩ (.int .i64 ((triesK m.on L m.ms k : Int) + 1)))).heap.size:=by simp;omega
        have r1' : w2.cell? ⟨b,1,none⟩ = some (.slice (some ⟨ga,0,none⟩) n cap2):=HD2.out.blk.cell 1
        have gk' : w2.cell? ⟨ga,k,none⟩ = some (.slice (some ⟨g1,0,none⟩) N cap1):=HPC.out _ HD2.out.pts
        have hgab : ga ≠ b:=fun e => own_not HD2.out.pts HD2.out.blk (by decide) (by rw [e];rfl)
        have hgab2 : b ≠ ga:=fun e => hgab e.symm
        have r1 : ((w2.setCell ⟨b,4,none⟩ (.int .i64 ((triesK m.on L m.ms k : Int) + 1)))).cell? ⟨b,1,none⟩ = some (.slice (some ⟨ga,0,none⟩) n cap2):=HD3.out.blk.cell 1
        have gk : ((w2.setCell ⟨b,4,none⟩ (.int .i64 ((triesK m.on L m.ms k : Int) + 1)))).cell? ⟨ga,k,none⟩ = some (.slice (some ⟨g1,0,none⟩) N cap1):=HPC.out _ HD3.out.pts
        go_wp2_with fail
        refine (HAL.out q _ _ B hqm.out HR3.out).mono ?_
        rintro e w4 ⟨SA,scap,rfl,hso,hb4⟩
        have HD4:=hid (HD3.out.below hb4)
        have HK4:=hid (HK3.out.trans (DK.of_below HD3.out.hBw hb4))
        have HO4:=hid (own_low HO3.out hb4)
        have HS4:=hid hso
        have hsf:=HSF.out q
        obtain ⟨sp,hsp⟩ : ∃ sp,sp = spansO L q.t 0:=⟨_,rfl⟩
        have HSPE:=hid hsp
        rw [← hsp] at HS4 hsf ⊢
        clear hb4 hso hsp
        go_wp2_with fail
        obtain ⟨X,hX⟩ : ∃ X,X = hitsK L m.ms k:=⟨_,rfl⟩
        have HXE:=hid hX
        have hxl:=HKL.out k
        rw [← hX] at HO4 hxl
        clear hX
        go_loopw [6,12] (fun v6 v12 wx => ∃ j : Nat,j ≤ sp.length ∧ v12 = .int .i64 (j : Int) ∧ Hid (wx.ownsRow w.heap.size 55 3 v6 (X.length + j) (X.flatMap hitCells ++ (hitsJ q.id sp j).flatMap hitCells)) ∧ Hid (DAt B b { m with tried:=triesK m.on L m.ms (k + 1) } (.slice A n cap) (.slice (some ⟨ga,0,none⟩) n cap2) vs wx) ∧ Hid (DK B b w wx) ∧ Hid (wx.ownsRow w.heap.size 53 2 (.slice SA sp.length scap) sp.length (spanVals sp))) (fun _ v _ => sp.length - (intOf v).toNat)
        case atStart => exact ⟨0,by omega,rfl,hid (by have:=HO4.out;simpa [hitsJ] using this),HD4,HK4,hid (own_baseD HS4.out hW3)⟩
        case round =>
         clear HO4 HD4 HK4 HS4
         obtain ⟨j,hj,rfl,HO5,HD5,HK5,HS5⟩:=hrel
         have q0 : wr.cell? ⟨b,0,none⟩ = some (.slice A n cap):=HD5.out.blk.cell 0
         by_cases hjl : j < sp.length
         ·have dj : decide (j < sp.length) = true:=by simpa using hjl
          have dj2 : decide ((j : Int) < (sp.length : Int)) = true:=by simp;omega
          have hj0 : (0 : Int) ≤ (j : Int):=by omega
          have hj1 : (j : Int) < (sp.length : Int):=by omega
          obtain ⟨A',c',hv,_,_,hmi⟩:=it_open (Rd.of_own HD5.out.its)
          have e1 : A = A':=by injection hv
          clear hv
          obtain ⟨gi,oi,hgi,hgil,hci⟩:=hmi (by have:=HNN.out;show 0 < m.ms.length;omega)
          rw [hgi] at e1
          clear hgi
          subst e1
          obtain ⟨hid0,_⟩:=hci wr (fun _ => rfl) k q HQ.out
          obtain ⟨A'',c'',hv2,_,_,hms⟩:=span_open (Rd.of_own HS5.out)
          have e2 : SA = A'':=by injection hv2
          clear hv2
          obtain ⟨gs,os,hgs,hgsl,hcs⟩:=hms (by omega)
          rw [hgs] at e2
          clear hgs
          subst e2
          obtain ⟨⟨x,y⟩,hxy⟩ : ∃ p,sp[j]? = some p:=⟨_,List.getElem?_eq_getElem hjl⟩
          obtain ⟨s0,s1⟩:=hcs wr (fun _ => rfl) j x y hxy
          have HXY:=hid hxy
          have HNW : Hid (∀ (j : Nat) (u : Value),([.int .i64 (q.id : Int),.int .i64 (x : Int),.int .i64 (y : Int)] : List Value)[j]? = some u →
           (wr.alloc (.cells #[.int .i64 (q.id : Int),.int .i64 (x : Int),.int .i64 (y : Int)] 55)).drew.cell? ((⟨wr.heap.size,0,none⟩ : Addr).add j) = some u):=hid (by
           intro j u hu
           rw [add_mk,Nat.zero_add]
           have:=((Blk.new wr 55 #[.int .i64 (q.id : Int),.int .i64 (x : Int),.int .i64 (y : Int)]).drew).cell j
           rw [this]
           simpa using hu)
          have HON : Hid (∀ u ∈ ([.int .i64 (q.id : Int),.int .i64 (x : Int),.int .i64 (y : Int)] : List Value),u.oneCell' = true):=hid (by
           intro u hu
           simp only [List.mem_cons,List.not_mem_nil,or_false] at hu
           rcases hu with rfl | rfl | rfl <;> rfl)
          have hBa:=((Below.refl wr.heap.size wr).alloc (Nat.le_refl _) (.cells #[.int .i64 (q.id : Int),.int .i64 (x : Int),.int .i64 (y : Int)] 55)).drew
          have HBA:=hid hBa
          have HO6:=hid (own_low HO5.out hBa)
          have HD6:=hid (HD5.out.below hBa)
          have HS6:=hid (own_low HS5.out hBa)
          have HK6:=hid (HK5.out.trans (DK.of_below HD5.out.hBw hBa))
          have hww : w.heap.size ≤ wr.heap.size:=HK5.out.bel.size
          clear hBa hxy hcs hci
          go_wp2_with fail
          go_region_law (refine step_append_lies _ rfl (.tmp 79) (.tmp 93) 49 rfl w.heap.size 55 i0 _ 3 24 Tryz.underlying49 hi0 hz0 hz1 hz2 rfl (by decide) _ (X.length + j) _ ?a1 HO6.out ⟨wr.heap.size,0,none⟩ 1 1 [.int .i64 (q.id : Int),.int .i64 (x : Int),.int .i64 (y : Int)] ?a2 rfl HNW.out HON.out ?a4 ?a5 ?a6 ?a7 _ rfl ?_;(case a1 => simp [Act.eval,Act.put]);(case a2 => simp [Act.eval,Act.put]);(case a4 => omega);(case a5 => unfold maxLen;omega);(case a6 => omega);(case a7 => simp;omega);intro g' cp' w5 hown hg hat hlt5;have HOW:=hid hown;have HGW:=hid hg;clear hown hg hat hlt5)
          all_goals (
           have HD7 : Hid (DAt B b { m with tried:=triesK m.on L m.ms (k + 1) } _ _ vs w5):=hid ⟨hbb,blk_ty HD6.out.blk HO6.out HGW.out (by decide),own_ty HD6.out.its HO6.out HGW.out (by decide),own_ty HD6.out.pts HO6.out HGW.out (by decide),HD6.out.rows.keep fun u l hr => row_ty hr HO6.out HGW.out (by decide),HOZ.out _,HLB.out⟩
           have HK7 : Hid (DK B b w w5):=hid (HK6.out.app HO6.out (by omega) HGW.out)
           go_wp2_with fail
           go_roundw
           case rel => exact ⟨j + 1,by omega,by go_num,hid (by rw [hitsJ_succ q.id HXY.out];have:=HOW.out;simpa [hitCells,Nat.add_assoc] using this),HD7,HK7,hid (own_ty HS6.out HO6.out HGW.out (by decide))⟩
           case measure => simp [intOf];omega)
         ·obtain rfl : j = sp.length:=by omega
          have dj : decide (sp.length < sp.length) = false:=by simp
          have dj2 : decide ((sp.length : Int) < (sp.length : Int)) = false:=by simp
          have HO8 : Hid (wr.ownsRow w.heap.size 55 3 u6 (hitsK L m.ms (k + 1)).length ((hitsK L m.ms (k + 1)).flatMap hitCells)):=hid (by
           have e1 : hitsJ q.id sp sp.length = hitsOf L q:=by rw [HSPE.out];exact hitsJ_all L q
           have h1:=HO5.out
           rw [e1] at h1
           rw [hitsK_succ HQ.out,List.flatMap_append,List.length_append,← HXE.out]
           have e2 : (hitsOf L q).length = sp.length:=by rw [HSPE.out];unfold hitsOf;simp
           rw [e2]
           exact h1)
          go_wp2_with fail
          go_roundw
          case rel => exact ⟨k + 1,by omega,by go_num,HO8,HD5,HK5⟩
          case measure => simp [intOf];omega
  ·obtain rfl : k = n:=by omega
   have d1 : decide (k < k) = false:=by simp
   have d2 : decide ((k : Int) < (k : Int)) = false:=by simp
   obtain ⟨A',cp,rfl⟩:=hits_form HO.out
   go_wp2_with fail
   exact HFIN.out _ _ _ _ rfl HO.out HD.out HK.out
set_option linter.unusedVariables false
theorem Items_same (l : List Mb) (va vb : Value) (w : World) (ha : Rd w 2 va (l.flatMap itCells)) (hb : Rd w 2 vb (l.flatMap itCells)) :
 Calls Tryz.prog 29 #[va,vb] w (fun e w' => e = .returned (.bool true) ∧ Below w.heap.size w w'):=by
 obtain ⟨A,ca,rfl,hca,hca2,hma⟩:=it_open ha
 obtain ⟨B,cb,rfl,hcb,hcb2,hmb⟩:=it_open hb
 have MA:=hid hma
 have MB:=hid hmb
 have hne : ((l.length : Int) != (l.length : Int)) = false:=by simp
 clear hma hmb ha hb
 go_enter Tryz.func29,Tryz.ntmps29
 go_wp2
 go_loopw [5] (fun v5 wr => ∃ k : Nat,k ≤ l.length ∧ v5 = .int .i64 k ∧ Hid (Below w.heap.size w wr)) (fun i _ => l.length - (intOf i).toNat)
 case atStart => exact ⟨0,by omega,rfl,hid (Below.refl _ _)⟩
 case round =>
  obtain ⟨k,hk,rfl,hbl⟩:=hrel
  by_cases hlt : k < l.length
  ·obtain ⟨b1,off1,rfl,hb1,hc1⟩:=MA.out (by omega)
   obtain ⟨b2,off2,rfl,hb2,hc2⟩:=MB.out (by omega)
   obtain ⟨q,hq⟩ : ∃ q,l[k]? = some q:=⟨_,List.getElem?_eq_getElem hlt⟩
   obtain ⟨g0,g1⟩:=hc1 wr (fun o => hbl.out.cell (p:=⟨b1,o,none⟩) hb1) k q hq
   obtain ⟨q0,q1⟩:=hc2 wr (fun o => hbl.out.cell (p:=⟨b2,o,none⟩) hb2) k q hq
   clear hq hc1 hc2
   have hk0 : (0 : Int) ≤ (k : Int):=by omega
   have hk1 : (k : Int) < (l.length : Int):=by omega
   have hd : decide (k < l.length) = true:=by simpa using hlt
   have hst : (q.text.toList == q.text.toList) = true:=by simp
   go_wp2
   go_quiet (fail)
   go_wp2
   go_roundw
   case rel => exact ⟨k + 1,by omega,by go_num,hid (below_drewN hbl.out _)⟩
   case measure => simp [intOf];omega
  ·obtain rfl : k = l.length:=by omega
   have hd : decide (l.length < l.length) = false:=by simp
   go_wp2
   go_ret
   exact ⟨rfl,hbl.out⟩
end Go.Proofs.YthcahjnniendnacGreatDoor.setW
