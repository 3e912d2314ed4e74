/-
  ConI, Vals, EachA.
-/
import Derived.Test.YthhcpbfgoofppaaGreatDoorGKd
import Derived.Test.YthhcpbfgoofppaaGreatDoorGWd
import Derived.Test.YthhcpbfgoofppaaGreatDoorSort
import Derived.Laws.AppendOwnNone
import Derived.RangeFuncBox
import Derived.RangeFuncLeaves
import Derived.RangeFuncNested
import Derived.RangeFuncBound
import Derived.RangeFuncCalls
import Derived.Shelf.Abstract
import Derived.Shelf.RegionOpen
import Derived.WalkKit
import Derived.OwnWalkIn
import Derived.TacticsInMore
import Derived.LoopNIn
import Derived.LoopIn
import Derived.Deep.AppendLies
import Derived.Maps.AppendAt
set_option linter.unusedVariables false
set_option linter.unusedSimpArgs false
set_option maxRecDepth 100000
set_option maxHeartbeats 8000000
open Go.Lib (hid)
namespace Go.Proofs.YthhcpbfgoofppaaGreatDoor
open Go.RowKit Wf
theorem natVals_lenC (l : List Nat) : (natVals l).length = l.length:=by simp [natVals]
def GrowII (n : Nat) (w : World) (e : Ending) (w' : World) : Prop :=
 ∃ A cap,e = .returned (.slice A 0 cap) ∧ (n = 0 → A = none ∧ cap = 0) ∧ w'.ownsRow w.heap.size 3 1 (.slice A 0 cap) 0 [] ∧ Below w.heap.size w w'
theorem GrowI_any (n : Nat) (w : World) (h1 : n ≤ 10000) : Calls Tryz.prog 180 #[.slice none 0 0,.int .i64 (n : Int)] w (GrowII n w):=by
 by_cases h0 : n = 0
 ·subst h0
  go_enter Tryz.func180,Tryz.ntmps180
  go_wp2_with fail
  go_ret
  exact ⟨none,0,rfl,fun _ => ⟨rfl,rfl⟩,World.ownsRow_nil _ _ _ _,Below.refl _ _⟩
 ·have h0 : 0 < n:=by omega
  obtain ⟨i0,hi0,hz0,hz1,hz2⟩:=info_parts info_int
  have hap:=fun W => run_append_make_nil (P:=Tryz.prog) W 191 3 191 3 i0 _ .i64 Tryz.underlying191 Tryz.underlying3 hi0 hz0 n h0 (by omega) (by rw [hz2];omega) (by rw [hz1];omega)
  have hfin : ∀ W : World,∃ cap : Nat,cap = grownCap W n 0 3 ∧ n ≤ cap ∧ cap ≤ maxLen:=fun W => ⟨_,rfl,grownCap_ge W n 0 _,grownCap_le_maxLen W n 0 _ (by unfold maxLen;omega)⟩
  obtain ⟨cap,hcap,hge,hle⟩:=hfin w
  have hle' : cap ≤ 9223372036854775807:=by unfold maxLen at hle;omega
  have hap':=hap w
  rw [← hcap] at hap'
  have hsz : ∀ z : Array Value,z.size = 1 → (Builtin.zeroCells z n ++ Builtin.zeroCells z (cap - n)).size = cap * 1:=fun z hz => by
   rw [Array.size_append,size_zeroCells,size_zeroCells,hz];omega
  have HS:=hid hsz
  have hge' : (n : Int) ≤ (cap : Int):=by omega
  have hn0 : (0 : Int) < (n : Int):=by omega
  have HAP:=hid hap'
  clear hfin hcap hap hsz hi0 hz0 hz1 hz2 hap'
  go_enter Tryz.func180,Tryz.ntmps180
  go_wp2_with (at_builtin;refine wpList_append_make _ rfl (.tmp 20) (.tmp 21) _ _ rfl _ _ rfl rfl _ _ HAP.out ?_)
  go_ret
  refine ⟨_,cap,rfl,fun h => absurd h (by omega),?_,?_⟩
  ·exact World.ownsRow_made w.drew _ cap (Nat.le_refl _) hle (HS.out _ rfl)
  ·exact ((Below.refl _ _).drew).alloc (Nat.le_refl _) _
def SrcI (w : World) (v : Value) (xs : List Nat) : Prop:=(v = .slice none 0 0 ∧ xs = []) ∨ 0 < xs.length ∧ Rd1 w v (natVals xs)
theorem RowK.src {w0 w : World} {v : Value} {xs : List Nat} (h : RowK w0 w v xs) : SrcI w v xs:=by
 by_cases e : xs = []
 ·exact .inl ⟨h.1.2 e,e⟩
 ·exact .inr ⟨List.length_pos_iff.2 e,Rd.of_own h.2⟩
theorem SrcI.below {w w' : World} {v : Value} {xs : List Nat} (h : SrcI w v xs) (hb : Below w.heap.size w w') : SrcI w' v xs:=by
 rcases h with h | ⟨h0,h⟩
 ·exact .inl h
 ·exact .inr ⟨h0,h.below hb⟩
theorem SrcI.form {w : World} {v : Value} {xs : List Nat} (h : SrcI w v xs) : ∃ A cap,v = .slice A xs.length cap:=by
 rcases h with ⟨rfl,rfl⟩ | ⟨_,h⟩
 ·exact ⟨none,0,rfl⟩
 ·obtain ⟨A,n,cap,rfl,_,_,hl,_⟩:=h
  have : n = xs.length:=by simpa [natVals] using hl.symm
  subst this
  exact ⟨A,cap,rfl⟩
def ConcatII (l : List Nat) (w : World) (e : Ending) (w' : World) : Prop :=
 ∃ A cap,e = .returned (.slice A l.length cap) ∧ RowK w w' (.slice A l.length cap) l ∧ Below w.heap.size w w'
theorem ConcatI_any (ls : List (List Nat)) (vs : List Value) (b cap0 : Nat) (w : World) (hlen : vs.length = ls.length) (hcap : vs.length ≤ cap0) (hcap2 : cap0 ≤ 9223372036854775807) (hfew : ls.length ≤ 100)
 (hc : ∀ (j : Nat) (u : Value),vs[j]? = some u → w.cell? ⟨b,j,none⟩ = some u) (hbl : b < w.heap.size)
 (hr : ∀ (j : Nat) (u : Value) (l : List Nat),vs[j]? = some u → ls[j]? = some l → SrcI w u l) (h1 : ls.flatten.length ≤ 10000) :
 Calls Tryz.prog 155 #[.slice (some ⟨b,0,none⟩) vs.length cap0] w (ConcatII ls.flatten w):=by
 obtain ⟨i0,hi0,hz0,hz1,hz2⟩:=info_parts info_int
 have HC:=hid hc
 have HR:=hid hr
 have HL:=hid hlen
 have hfew' : vs.length ≤ 100:=by omega
 have hle : ∀ k,(ls.take k).flatten.length ≤ ls.flatten.length:=flatten_take_le ls
 have HLE:=hid hle
 have hall : (ls.take vs.length).flatten = ls.flatten:=by rw [hlen,List.take_length]
 have HALL:=hid hall
 clear hc hr hlen hle hall
 go_enter Tryz.func155,Tryz.ntmps155
 go_wp2
 go_loop [3,11] (fun v3 v11 => ∃ k n : Nat,k ≤ vs.length ∧ v11 = .int .i64 (k : Int) ∧ v3 = .int .i64 (n : Int) ∧ Hid (n = (ls.take k).flatten.length)) (fun _ i => vs.length - (intOf i).toNat)
 case atStart => exact ⟨0,0,by omega,rfl,rfl,hid rfl⟩
 case round =>
  obtain ⟨k,n,hk,rfl,rfl,hn⟩:=hrel
  by_cases hlt : k < vs.length
  ·obtain ⟨u,hu⟩:=getD_get hlt
   obtain ⟨l,hl⟩:=getD_get (show k < ls.length by rw [← HL.out];exact hlt)
   have hrn:=HR.out k u l hu hl
   obtain ⟨A,cap,rfl⟩:=hrn.form
   have hcell:=HC.out k _ hu
   have hnext : (ls.take (k + 1)).flatten.length = n + l.length:=by rw [flatten_take_succ hl,List.length_append,hn.out]
   have hb1:=HLE.out (k + 1)
   have hbound : n + l.length ≤ 10000:=by omega
   have HN:=hid hnext
   clear hnext hb1 hu hl hrn
   go_wp2
   go_round
   case rel => exact ⟨k + 1,n + l.length,by omega,by go_num,by go_num,hid HN.out.symm⟩
   case measure => simp [intOf];omega
  ·obtain rfl : k = vs.length:=by omega
   have hnn : n = ls.flatten.length:=by rw [hn.out,HALL.out]
   have hn1 : n ≤ 10000:=by omega
   have HNN:=hid hnn
   clear hnn hn
   go_wp2_with fail
   refine (GrowI_any n _ hn1).mono ?_
   rintro e w1 ⟨A,cap,rfl,hnil,hown,hb1⟩
   have hown' : Hid (w1.ownsRow w.heap.size 3 1 (.slice A 0 cap) 0 (natVals ((ls.take 0).flatten))):=hid hown
   have HNIL:=hid hnil
   clear hown hnil
   go_wp2_with fail
   go_loopw [6,27] (fun v6 v27 wr => ∃ (k m cap : Nat) (A : Option Addr),k ≤ vs.length ∧ v27 = .int .i64 (k : Int) ∧ v6 = .slice A m cap ∧ Hid (m = (ls.take k).flatten.length) ∧ Hid (ls.flatten = [] → A = none ∧ cap = 0) ∧ Hid (wr.ownsRow w.heap.size 3 1 (.slice A m cap) m (natVals (ls.take k).flatten)) ∧ Below w.heap.size w wr) (fun _ i _ => vs.length - (intOf i).toNat)
   case atStart => exact ⟨0,0,cap,A,by omega,rfl,rfl,hid rfl,hid (fun h => HNIL.out (by rw [HNN.out,h];rfl)),hown',hb1⟩
   case round =>
    obtain ⟨k,m,cap,A,hk,rfl,rfl,hm0,hnil,hown,hbr⟩:=hrel
    by_cases hlt : k < vs.length
    ·obtain ⟨u,hu⟩:=getD_get hlt
     obtain ⟨l,hl⟩:=getD_get (show k < ls.length by rw [← HL.out];exact hlt)
     have hnext : (ls.take (k + 1)).flatten = (ls.take k).flatten ++ l:=flatten_take_succ hl
     have hcell:=(hbr.cell (p:=⟨b,k,none⟩) hbl).trans (HC.out k _ hu)
     have hb1:=HLE.out (k + 1)
     have hbound : m + l.length ≤ 10000:=by rw [hnext,List.length_append,← hm0.out] at hb1;omega
     rcases (HR.out k u l hu hl).below hbr with ⟨rfl,rfl⟩ | ⟨hpos,hrn⟩
     ·have HN:=hid hnext
      clear hnext hb1 hu hl
      go_wp2_with (at_builtin;refine wpList_append_own_none rfl (.tmp 31) (.tmp 32) _ rfl w.heap.size 3 i0 1 Tryz.underlying191 hi0 _ m _ rfl hown.out rfl ?_)
      go_roundw
      case rel => exact ⟨k + 1,m,cap,A,by omega,by go_num,rfl,hid (by rw [HN.out,List.append_nil];exact hm0.out),hnil,hid (by rw [HN.out,List.append_nil];exact hown.out),hbr⟩
      case measure => simp [intOf];omega
     ·obtain ⟨B,q,capu,rfl,hm,hsrc⟩:=hrn.src (by omega)
      rw [natVals_lenC] at hm
      obtain rfl : q = l.length:=by omega
      obtain ⟨ad,rfl,hadb,hcells⟩:=hsrc hpos
      have hone : ∀ u ∈ natVals l,u.oneCell' = true:=fun u hu => by
       obtain ⟨x,_,rfl⟩:=List.mem_map.1 hu
       rfl
      have hnl : (natVals l).length = l.length * 1:=by rw [natVals_lenC];omega
      have hne : ls.flatten ≠ []:=fun e => by
       have h2:=HLE.out (k + 1)
       rw [hnext,List.length_append] at h2
       have h3 : ls.flatten.length = 0:=by rw [e];rfl
       omega
      have HNE:=hid hne
      have HN:=hid hnext
      have HCS:=hid hcells
      have HONE:=hid hone
      have HNL:=hid hnl
      have hbase:=hbr.size
      clear hnext hb1 hu hl hrn hcells hone hnl hm hsrc hne
      go_wp2_with (at_builtin;refine wpList_append_lies _ rfl (.tmp 31) (.tmp 32) _ rfl w.heap.size 3 i0 _ 1 8 Tryz.underlying191 hi0 hz0 hz1 hz2 rfl (by omega) _ _ _ rfl hown.out _ l.length _ (natVals l) rfl HNL.out HCS.out HONE.out hpos (by unfold maxLen;omega) (by omega) hbase _ rfl ?_;intro g2 cap2 w2 hown2 hgrow2 hat2 hlt2)
      go_roundw
      case rel =>
       refine ⟨k + 1,m + l.length,cap2,some ⟨g2,0,none⟩,by omega,by go_num,rfl,hid (by rw [HN.out,List.length_append,← hm0.out]),hid (fun e => absurd e HNE.out),hid (by rw [HN.out];unfold natVals at hown2 ⊢;rw [List.map_append];exact hown2),?_⟩
       exact hbr.grown hgrow2 hbase fun q hq => (hown.out.lt q hq).1
      case measure => simp [intOf];omega
    ·obtain rfl : k = vs.length:=by omega
     have h1 : m = ls.flatten.length:=by rw [hm0.out,HALL.out]
     have h2:=hown.out
     rw [HALL.out,h1] at h2
     have H1:=hid h1
     have H2:=hid h2
     clear h1 h2
     go_wp2
     go_ret
     refine ⟨A,cap,by rw [H1.out];rfl,⟨⟨fun e => ?_,fun e => ?_⟩,H2.out⟩,hbr⟩
     ·injection e with _ e2 _
      exact List.eq_nil_of_length_eq_zero e2
     ·obtain ⟨rfl,rfl⟩:=hnil.out e
      rw [e]
      rfl
theorem Concat2I (l1 l2 : List Nat) (v1 v2 : Value) (b : Nat) (w : World) (h1 : SrcI w v1 l1) (h2 : SrcI w v2 l2) (c0 : w.cell? ⟨b,0,none⟩ = some v1) (c1 : w.cell? ⟨b,1,none⟩ = some v2) (hb : b < w.heap.size) (hl : l1.length + l2.length ≤ 10000) :
 Calls Tryz.prog 155 #[.slice (some ⟨b,0,none⟩) 2 2] w (ConcatII (l1 ++ l2) w):=by
 have h:=ConcatI_any [l1,l2] [v1,v2] b 2 w rfl (by simp) (by omega) (by simp) (fun j u hj => by
  match j,hj with
  | 0,hj => simp at hj;subst hj;exact c0
  | 1,hj => simp at hj;subst hj;exact c1) hb (fun j u l hj hl => by
  match j,hj,hl with
  | 0,hj,hl => simp at hj hl;subst hj;subst hl;exact h1
  | 1,hj,hl => simp at hj hl;subst hj;subst hl;exact h2) (by simpa using hl)
 simpa using h
end Go.Proofs.YthhcpbfgoofppaaGreatDoor
namespace Go.Proofs.YthhcpbfgoofppaaGreatDoor
open Go.RowKit Go.Shelf Wf
attribute [local go_sem] Oper.semAt_some
theorem wpListIn_app_v {F : Fence} {n : Nat} {P : Program} (w : World) {ops : Array Oper} {rest : List Oper} {o : Oper} {a : Act} {Q : Exit → Act → World → Prop}
 (hg : o.guard = none) (s x : Operand) (t : TypeId) (hop : o.op = Op.call { callee:=Callee.builtin Builtin.append,args:=#[s,x],argTypes:=#[t,t] })
 (base : Nat) (e : TypeId) (i : TypeInfo) (z : Value) (size bytes : Nat) (h1 : P.underlying t = some (.slice e)) (h2 : P.info? e = some i) (h3 : i.zero = some z) (h4 : i.size = size) (h5 : i.bytes = bytes) (h6 : z.cells.size = size) (h7 : 0 < size)
 (v : Value) (k : Nat) (xs : List Value) (hs : a.eval s = v) (hown : w.ownsRow base e size v k xs) (ad : Addr) (m c : Nat) (news : List Value) (hx : a.eval x = .slice (some ad) m c) (hn : news.length = m * size)
 (hc : ∀ j u,news[j]? = some u → w.cell? (ad.add j) = some u) (h1c : ∀ u ∈ news,u.oneCell' = true) (hm : 0 < m) (b1 : k + m ≤ maxLen) (b2 : (k + m) * bytes ≤ 140737488355328) (b3 : base ≤ w.heap.size)
 (hK : ∀ g cap w',w'.ownsRow base e size (.slice (some ⟨g,0,none⟩) (k + m) cap) (k + m) (xs ++ news) → w.grownBy w' v.ownBlock → (v.ownBlock = some g ∨ g = w.heap.size) → g < w'.heap.size → wpListIn F n P ops Q rest (a.put o.dst (.slice (some ⟨g,0,none⟩) (k + m) cap)) w') :
 wpListIn F n P ops Q (o :: rest) a w:=by
 refine wpListIn_plain hg fun K hK' => ?_
 obtain ⟨g,cap,w',hrun,r1,r2,r3,r4⟩:=run_append_lies (P:=P) w t o.type base e i z size bytes h1 h2 h3 h4 h5 h6 h7 v k xs hown ad m c news hn hc h1c hm b1 b2 b3 _ rfl
 unfold Oper.wpIn
 refine ⟨?_,?_⟩
 ·simp [Oper.about,hop,resolve,Target.leads,Sem.run_pure]
 ·rw [Oper.semAt_plain F _ _ (by rw [hop];intro c hc';cases hc')]
  simp [execOp,hop,resolve,invoke,builtin,hs,hx,hrun,Result.andThen]
  exact hK' _ _ (hK g cap w' r1 r2 r3 r4)
def upV (zs : List Nat) (k : Nat) : List Nat:=(List.range k).map fun j => zs.getD j 0
theorem upV_succ (zs : List Nat) (k : Nat) : upV zs (k + 1) = upV zs k ++ [zs.getD k 0]:=by simp [upV,List.range_succ]
theorem upV_len (zs : List Nat) (k : Nat) : (upV zs k).length = k:=by simp [upV]
theorem upV_all (zs : List Nat) : upV zs zs.length = zs:=by
 apply List.ext_getElem
 ·simp [upV]
 ·intro i h1 h2
  simp [upV,List.getD,h2]
theorem valsA_in (n : Nat) (hn : 1 ≤ n) (l Bs n₀ b off len cap : Nat) (zs : List Nat) (hlen : len ≤ 10000) (hb : b < n₀) (J Jx : List Nat → World → Prop)
 (hY : ∀ pre x W,J pre W → pre.length < len → YieldAt Fence.wide (n - 1) Tryz.prog l #[.int .i64 ((x : Nat) : Int)] W fun e W' =>
   (e = .returned (.bool true) ∧ J (pre ++ [x]) W' ∧ Below n₀ W W') ∨ (e = .returned (.bool false) ∧ Jx (pre ++ [x]) W'))
 (W : World) (hBs : W.cell? ⟨Bs,0,none⟩ = some (.slice (some ⟨b,off,none⟩) len cap)) (hc : ∀ j,j < len → W.cell? ⟨b,off + j,none⟩ = some (.int .i64 ((zs.getD j 0 : Nat) : Int))) (h0 : J [] W) :
 CallsIn Fence.wide n Tryz.prog 158 #[.func (.yield l) #[] #[],.pointer (some ⟨Bs,0,none⟩)] W fun e W' => (∃ v,e = .returned v) ∧
  ((∃ ys,ys = upV zs len ∧ J ys W') ∨ (∃ pre,True ∧ Jx pre W')):=by
 refine callsIn_of_wp Tryz.func158 rfl trivial ?_ rfl
 simp only [Tryz.ntmps158,List.size_toArray,List.length_cons,List.length_nil,Nat.reduceAdd,Nat.reduceSub,Array.replicate_succ,Array.replicate_zero,List.push_toArray,List.append_toArray,List.nil_append,List.cons_append]
 gi_wp2
 gi_loopw [7] (fun i wr => ∃ k : Nat,k ≤ len ∧ i = .int .i64 k ∧ J (upV zs k) wr ∧ Below n₀ W wr)
  (fun i _ => len - (intOf i).toNat)
 case atStart => exact ⟨0,Nat.zero_le _,rfl,h0,Below.refl _ _⟩
 case round =>
  obtain ⟨k,hk,rfl,hJs,hnx⟩:=hrel
  have hcx : k < len → wr.cell? ⟨b,off + k,none⟩ = some (.int .i64 ((zs.getD k 0 : Nat) : Int)):=fun h => (hnx.cell (p:=⟨b,off + k,none⟩) hb).trans (hc k h)
  by_cases hlt : k < len
  ·obtain ⟨fn,tmps,assign,body,hy,hR⟩:=hY _ (zs.getD k 0) wr hJs (by rw [upV_len];exact hlt)
   have hcx':=hcx hlt
   have HU:=hid (upV_succ zs k)
   generalize zs.getD k 0 = z at *
   gi_wp2
   refine hR.mono ?_
   rintro e W3 (⟨rfl,hJ3,hk3⟩ | ⟨rfl,hJx3⟩)
   ·gi_wp2
    go_roundw
    case rel => exact ⟨k + 1,by omega,by simp,by rw [HU.out];exact hJ3,hnx.trans hk3⟩
    case measure => simp [intOf];omega
   ·gi_wp2
    refine bodyPost_ret (results_none rfl _ _ _) rfl ?_
    exact ⟨⟨_,rfl⟩,.inr ⟨_,trivial,hJx3⟩⟩
  ·obtain rfl : k = len:=by omega
   gi_wp2
   go_end0
   exact ⟨⟨_,rfl⟩,.inl ⟨_,rfl,hJs⟩⟩
theorem valsA_nil (n l Bs : Nat) (J : List Nat → World → Prop) (W : World) (hBs : W.cell? ⟨Bs,0,none⟩ = some (.slice none 0 0)) (h0 : J [] W) :
 CallsIn Fence.wide n Tryz.prog 158 #[.func (.yield l) #[] #[],.pointer (some ⟨Bs,0,none⟩)] W fun e W' => (∃ v,e = .returned v) ∧ J [] W':=by
 refine callsIn_of_wp Tryz.func158 rfl trivial ?_ rfl
 simp only [Tryz.ntmps158,List.size_toArray,List.length_cons,List.length_nil,Nat.reduceAdd,Nat.reduceSub,Array.replicate_succ,Array.replicate_zero,List.push_toArray,List.append_toArray,List.nil_append,List.cons_append]
 gi_wp2
 gi_loopw [7] (fun i wr => i = .int .i64 0 ∧ J [] wr) (fun _ _ => 0)
 case atStart => exact ⟨rfl,h0⟩
 case round =>
  obtain ⟨rfl,hJs⟩:=hrel
  gi_wp2
  go_end0
  exact ⟨⟨_,rfl⟩,hJs⟩
def VInts (n₀ : Nat) (W : World) (sv : Value) (zs : List Nat) : Prop :=
 (sv = .slice none 0 0 ∧ zs = []) ∨ ∃ b off cap,sv = .slice (some ⟨b,off,none⟩) zs.length cap ∧ b < n₀ ∧ ∀ j,j < zs.length → W.cell? ⟨b,off + j,none⟩ = some (.int .i64 ((zs.getD j 0 : Nat) : Int))
theorem VInts.below {n₀ : Nat} {A B : World} (h : Below n₀ A B) {sv : Value} {zs : List Nat} : VInts n₀ A sv zs → VInts n₀ B sv zs
 | .inl e => .inl e
 | .inr ⟨b,off,cap,e,hb,hc⟩ => .inr ⟨b,off,cap,e,hb,fun j hj => (h.cell (p:=⟨b,off + j,none⟩) hb).trans (hc j hj)⟩
theorem SrcI.vints {w : World} {v : Value} {zs : List Nat} (h : SrcI w v zs) : VInts w.heap.size w v zs:=by
 rcases h with h | ⟨h0,A,n,cap,hv,h1,h2,h3,h4⟩
 ·exact .inl h
 ·have hn : n = zs.length:=by simpa [natVals] using h3.symm
  subst hn
  obtain ⟨b,off,rfl,hc⟩:=h4 h0
  have hget : ∀ j,j < zs.length → w.cell? ⟨b,off + j,none⟩ = some (.int .i64 ((zs.getD j 0 : Nat) : Int)):=fun j hj => hc j _ (by simp [natVals,List.getD,List.getElem?_eq_getElem hj])
  have hlt:=World.block_lt_of_cell? w _ (hget 0 h0)
  exact .inr ⟨b,off,cap,hv,hlt,hget⟩
theorem vals_stops (n : Nat) (hn : 1 ≤ n) (Bs n₀ : Nat) (sv : Value) (zs : List Nat) (hlen : zs.length ≤ 10000) (w : World) (hBs : Bs < w.heap.size) (hn₀ : n₀ ≤ w.heap.size)
 (hc : w.cell? ⟨Bs,0,none⟩ = some sv) (hI : VInts n₀ w sv zs) :
 SeqStopsK Fence.wide n Tryz.prog 158 #[.pointer (some ⟨Bs,0,none⟩)] (fun x : Nat => #[Value.int .i64 (x : Int)]) (Below n₀) (fun ys => ys = zs) (fun _ => True) zs.length w:=fun l J Jx W hW _ _ hY h0 => by
 have hc':=(hW.cell (p:=⟨Bs,0,none⟩) hBs).trans hc
 rcases hI.below (hW.mono hn₀) with ⟨rfl,rfl⟩ | ⟨b,off,cap,rfl,hb,hcs⟩
 ·exact (valsA_nil n l Bs J W hc' h0).mono fun e W' ⟨he,hj⟩ => ⟨he,.inl ⟨_,rfl,hj⟩⟩
 ·refine (valsA_in n hn l Bs n₀ b off zs.length cap zs hlen hb J Jx hY W hc' hcs h0).mono ?_
  rintro e W' ⟨he,⟨ys,rfl,hj⟩ | ⟨pre,_,hj⟩⟩
  ·exact ⟨he,.inl ⟨_,upV_all zs,hj⟩⟩
  ·exact ⟨he,.inr ⟨_,trivial,hj⟩⟩
theorem AppendSeq_c (Bs : Nat) (sv : Value) (zs : List Nat) (hlen : zs.length ≤ 10000) (w : World) (hc : w.cell? ⟨Bs,0,none⟩ = some sv) (hI : VInts w.heap.size w sv zs) :
 Calls Tryz.prog 181 #[.slice none 0 0,.func (.func 158) #[] #[.pointer (some ⟨Bs,0,none⟩)]] w (fun e w' => ∃ A cap,e = .returned (.slice A zs.length cap) ∧ RowK w w' (.slice A zs.length cap) zs ∧ Below w.heap.size w w'):=by
 obtain ⟨i0,hi,hz0,hz1,hz2⟩:=info_parts info_int
 have hBs:=World.block_lt_of_cell? w _ hc
 refine (callsIn_wide (n:=5)).1 ?_
 refine callsIn_of_wp_marks Tryz.func181 rfl trivial ?_ rfl
 simp only [Tryz.ntmps181,List.size_toArray,List.length_cons,List.length_nil,Nat.reduceAdd,Nat.reduceSub,Array.replicate_succ,Array.replicate_zero,List.push_toArray,List.append_toArray,List.nil_append,List.cons_append]
 gi_wp2_with fail
 have bO:=Boxed.new w 191 (.slice none 0 0)
 have hB0 : Below w.heap.size w (w.alloc (.cells #[.slice none 0 0] 191)):=(Below.refl _ w).alloc (Nat.le_refl _) _
 refine wpIn_rangeFunc_ownF rfl (by omega) (gf:=158) (lb:=#[.pointer (some ⟨Bs,0,none⟩)]) rfl trivial (enters_of Tryz.func158 (by kernel_rfl) rfl)
  (vals_stops 4 (by omega) Bs w.heap.size sv zs hlen _ (by simp;omega) (by simp) ((hB0.cell (p:=⟨Bs,0,none⟩) hBs).trans hc) (hI.below hB0)) belowK_t (belowK_b (by simp)) (Below.refl _ _) (fun _ => rfl)
  (fun pre W => (∃ v,Boxed W w.heap.size 191 v ∧ W.ownsRow w.heap.size 3 1 v pre.length (natVals pre) ∧ (v = .slice none 0 0 ↔ pre = [])) ∧ Below w.heap.size w W)
  (fun _ _ _ => False)
  (OwnFrom.and (Own.from (holdsRow_own w.heap.size w.heap.size 191 3 1 (fun pre : List Nat => pre.length) (fun pre => natVals pre) (fun pre v => v = .slice none 0 0 ↔ pre = [])) _) (ownFrom_below (Nat.le_refl _) (by simp)))
  (fun _ _ _ _ _ hs _ _ => hs)
  ⟨⟨_,bO,World.ownsRow_nil _ _ _ _,by simp⟩,hB0⟩
  (fun x => { tmps:=#[.slice none 0 0,.func (.func 158) #[] #[.pointer (some ⟨Bs,0,none⟩)],.pointer (some ⟨w.heap.size,0,none⟩),undef,.slice none 0 0,.int .i64 (x : Int),.func (.func 158) #[] #[.pointer (some ⟨Bs,0,none⟩)],.int .i64 (x : Int),undef,undef,undef,undef,undef],defers:=[] }) ?assign ?body ?done ?stop
 case assign =>
  intro l x W K hK
  gi_wp2
  exact hK
 case body =>
  rintro l pre x W ⟨⟨v,hv,hrow,_⟩,hB⟩ hlt
  have hc:=hv.cell
  have hle:=hB.size
  have hlW:=hv.lt
  gi_wp2_with (first
   | (gi_at_builtin;refine wpListIn_app_v _ rfl (.tmp 8) (.tmp 10) 191 rfl w.heap.size 3 i0 _ 1 8 Tryz.underlying191 hi hz0 hz1 hz2 rfl (by decide) _ pre.length (natVals pre) rfl (hrow.alloc _) ⟨W.heap.size,0,none⟩ 1 1 [.int .i64 (x : Int)] rfl rfl (cell_one_new _ _ _) (by simp [Value.oneCell']) (by omega) (by unfold maxLen;omega) (by omega) (by simp;omega) ?_;intro g cap' w4 hown' hgrow hat hlt4;obtain ⟨hv1,hv2,hr2,hk2,hb2⟩:=hv.appended (by decide) hrow hB.size (by omega) hown' hgrow;have hc1:=hv1.cell;have hf1:=hv1.frozen))
  exact ⟨hk2,hb2,⟨_,hv2,by unfold natVals at *;simpa using hr2,by simp⟩,hB.trans hb2⟩
 case done =>
  rintro D ys W hD rfl ⟨⟨v,hv,hrow,hnil⟩,hB⟩ hK
  have hc:=hv.cell
  obtain ⟨VA,vn,vcap,rfl,_,_,hvl,_⟩:=Rd.of_own hrow
  obtain rfl : vn = ys.length:=by simp [natVals] at hvl;omega
  gi_wp2
  refine ⟨by simp,.inl ⟨_,_,rfl,run_takeDeferred hK,?_⟩⟩
  exact ⟨_,results_tmp rfl _ _ _,VA,vcap,rfl,⟨hnil,ownsRow_putObj hrow _ hK rfl⟩,hB.trans (belowK_b (w:=w) (Nat.le_refl _) W D _ _ (by simp at hD;omega) hK rfl rfl)⟩
 case stop =>
  rintro D c pre W _ _ h _
  exact h.elim
end Go.Proofs.YthhcpbfgoofppaaGreatDoor
namespace Wf
theorem nodup_of : ∀ (ys xs : List Nat),xs.Nodup → (∀ j ∈ xs,j ∈ ys) → ys.length ≤ xs.length → ys.Nodup
 | [],_,_,_,_ => List.nodup_nil
 | y :: r,xs,hn,h,hl => by
   have hyr : y ∉ r:=fun hy => by
    have:=List.Nodup.length_le_of_subset hn (l₂:=r) (fun j hj => by
     rcases List.mem_cons.1 (h j hj) with rfl | h
     ·exact hy
     ·exact h)
    simp at hl
    omega
   refine List.nodup_cons.2 ⟨hyr,nodup_of r (xs.erase y) (hn.erase y) (fun j hj => ?_) ?_⟩
   ·have h2:=(hn.mem_erase_iff).1 hj
    rcases List.mem_cons.1 (h j h2.2) with rfl | h
    ·exact absurd rfl h2.1
    ·exact h
   ·have:=List.le_length_erase (a:=y) (l:=xs)
    simp at hl
    omega
theorem endl_sorted {ws : List (List UInt8)} {t : List UInt8} {l l' : List Nat} (h : EndL ws t l) (hm : ∀ j,j ∈ l' ↔ j ∈ l) (hl : l'.length = l.length) (hs : l'.Pairwise (· ≤ ·)) : l' = endAt ws t:=by
 have hn:=nodup_of l' l h.1 (fun j hj => (hm j).2 hj) (Nat.le_of_eq hl)
 refine sorted_uniq l' _ ?_ (endAt_up ws t) fun j => by rw [hm,h.2,endAt_mem]
 have hb : l'.Pairwise fun x y => x ≤ y ∧ x ≠ y:=List.pairwise_and_iff.2 ⟨hs,hn⟩
 exact hb.imp fun h => by omega
def toldAt (ws : List (List UInt8)) (t : List UInt8) (e : Nat) : List (Nat × Nat):=(endAt ws (t.take e)).map fun i => (i,e)
def toldTo (ws : List (List UInt8)) (t : List UInt8) (n : Nat) : List (Nat × Nat):=(List.range n).flatMap fun i => toldAt ws t (i + 1)
theorem toldTo_succ (ws : List (List UInt8)) (t : List UInt8) (n : Nat) : toldTo ws t (n + 1) = toldTo ws t n ++ toldAt ws t (n + 1):=by
 simp [toldTo,List.range_succ,List.flatMap_append]
end Wf
namespace Go.Proofs.YthhcpbfgoofppaaGreatDoor
open Go.RowKit Wf
theorem Values_c (A : Option Addr) (n cap : Nat) (w : World) : Calls Tryz.prog 128 #[.slice A n cap] w (fun e w' => e = .returned (.func (.func 158) #[] #[.pointer (some ⟨w.heap.size,0,none⟩)]) ∧ w' = w.alloc (.cells #[.slice A n cap] 191)):=by
 have hmf : ∀ (fn : Fn) (first cap : Array Value) (w : World),(Instr.makeFunc fn first cap).run Tryz.prog w = .ok (.func fn first cap) w:=fun _ _ _ _ => rfl
 go_enter Tryz.func128,Tryz.ntmps128
 go_wp2_with fail
 go_ret
 exact ⟨rfl,rfl⟩
theorem Collect_c (Bs : Nat) (sv : Value) (zs : List Nat) (hlen : zs.length ≤ 10000) (w : World) (hc : w.cell? ⟨Bs,0,none⟩ = some sv) (hI : VInts w.heap.size w sv zs) :
 Calls Tryz.prog 156 #[.func (.func 158) #[] #[.pointer (some ⟨Bs,0,none⟩)]] w (fun e w' => ∃ A cap,e = .returned (.slice A zs.length cap) ∧ RowK w w' (.slice A zs.length cap) zs ∧ Below w.heap.size w w'):=by
 obtain ⟨N,hN⟩ : ∃ N,N = zs.length:=⟨_,rfl⟩
 have HA : Hid (Calls Tryz.prog 181 #[.slice none 0 0,.func (.func 158) #[] #[.pointer (some ⟨Bs,0,none⟩)]] w (fun e w' => ∃ A cap,e = .returned (.slice A N cap) ∧ RowK w w' (.slice A N cap) zs ∧ Below w.heap.size w w')):=hid (by rw [hN];exact AppendSeq_c Bs sv zs hlen w hc hI)
 rw [← hN]
 clear hc hI hN
 go_enter Tryz.func156,Tryz.ntmps156
 go_wp2_with (go_at_call 181;refine HA.out.mono ?_;rintro e w' ⟨A,cap,rfl,h1,h2⟩)
 go_ret
 exact ⟨A,cap,rfl,h1,h2⟩
def SortedIs (xs : List Nat) (N : Nat) (w : World) (e : Ending) (w' : World) : Prop:=∃ A cap ys,e = .returned (.slice A N cap) ∧ ys.length = xs.length ∧ (∀ j,j ∈ ys ↔ j ∈ xs) ∧ ys.Pairwise (· ≤ ·) ∧ w'.ownsRow w.heap.size 3 1 (.slice A N cap) N (natVals ys) ∧ Below w.heap.size w w'
theorem Sorted_c (Bs : Nat) (sv : Value) (zs : List Nat) (hlen : zs.length ≤ 1000) (N : Nat) (hN : N = zs.length) (w : World) (hc : w.cell? ⟨Bs,0,none⟩ = some sv) (hI : VInts w.heap.size w sv zs) :
 Calls Tryz.prog 127 #[.func (.func 158) #[] #[.pointer (some ⟨Bs,0,none⟩)]] w (SortedIs zs N w):=by
 have HA : Hid (Calls Tryz.prog 156 #[.func (.func 158) #[] #[.pointer (some ⟨Bs,0,none⟩)]] w (fun e w' => ∃ A cap,e = .returned (.slice A N cap) ∧ RowK w w' (.slice A N cap) zs ∧ Below w.heap.size w w')):=hid (by rw [hN];exact Collect_c Bs sv zs (by omega) w hc hI)
 have HS : Hid (∀ (v : Value) (w1 : World),w1.ownsRow w.heap.size 3 1 v N (natVals zs) → Calls Tryz.prog 157 #[v] w1 (SortIs w.heap.size zs v w1)):=hid (fun v w1 h => Sort_c w.heap.size zs v w1 (by rw [← hN];exact h) hlen)
 have HN:=hid hN
 clear hc hI hN
 unfold SortedIs
 go_enter Tryz.func127,Tryz.ntmps127
 go_wp2_with (first
  | (go_at_call 156;refine HA.out.mono ?_;rintro e w1 ⟨A,cap,rfl,hrow1,hb1⟩;have HR1:=hid hrow1;clear hrow1)
  | (go_at_call 157;refine (HS.out _ w1 (by have:=HR1.out.2;rw [← HN.out] at this;exact this)).mono ?_;rintro e w2 ⟨rfl,ys,h1,h2,h3,h4,h5⟩))
 go_ret
 refine ⟨A,cap,ys,rfl,h1,h2,h3,by rw [HN.out] at h4 ⊢;exact h4,hb1.grown h5 hb1.size (fun g hg => (HR1.out.2.lt g hg).1)⟩
end Go.Proofs.YthhcpbfgoofppaaGreatDoor
