/-
  RexA, RexB, RexC, ClsA.
-/
import Derived.Test.YthhcpbfgoofppaaGreatDoorGPl
import Derived.Test.YthhcpbfgoofppaaGreatDoorLaws
import Derived.Test.YthhcpbfgoofppaaGreatDoorMem
import Derived.Test.YthhcpbfgoofppaaGreatDoorRows
import Derived.WalkKit
import Derived.WalkLawsBesides
import Derived.WalkSpells
import Derived.Outline
import Derived.Deep.LoopGhost
import Derived.Deep.QuietTactic
import Derived.BigQuiet
import Derived.WalkSmall
import Derived.Deep.RegionHeld3
set_option linter.unusedVariables false
set_option linter.unusedSimpArgs false
set_option maxRecDepth 100000
set_option maxHeartbeats 4000000
open Go.Lib (hid)
namespace Go.Proofs.YthhcpbfgoofppaaGreatDoor
open Go.RowKit Wf
def errV (n : Int) : Value:=if n = 0 then .nilIface else .iface 81 (.int .i64 n)
theorem errV_zero : errV 0 = .nilIface:=rfl
theorem errV_ne {n : Int} (h : n ≠ 0) : errV n = .iface 81 (.int .i64 n):=by simp [errV,h]
def PartsIs (n : Int) (w : World) (e : Ending) (w' : World) : Prop:=e = .returned (.int .i64 (parts n)) ∧ w = w'
theorem Parts_any (n : Int) (w : World) : Calls Tryz.prog 103 #[.int .i64 n] w (PartsIs n w):=by
 have key : ∀ m : Int,m = (parts n : Int) → PartsIs n w (.returned (.int .i64 m)) w:=fun m h => ⟨by rw [h],rfl⟩
 have k2 : (n = 3 ∨ n = 4) → (2 : Int) = parts n:=fun h => by simp [parts,h]
 have k1 : ¬ (n = 3 ∨ n = 4) → (n = 5 ∨ n = 6 ∨ n = 7) → (1 : Int) = parts n:=fun h h' => by unfold parts;rw [if_neg h,if_pos h'];rfl
 have k0 : ¬ (n = 3 ∨ n = 4) → ¬ (n = 5 ∨ n = 6 ∨ n = 7) → (0 : Int) = parts n:=fun h h' => by unfold parts;rw [if_neg h,if_neg h'];rfl
 have H2:=hid k2
 have H1:=hid k1
 have H0:=hid k0
 have HK:=hid key
 clear k2 k1 k0 key
 go_enter Tryz.func103,Tryz.ntmps103
 go_wp2
 all_goals go_ret
 all_goals refine HK.out _ ?_
 all_goals simp only [beq_iff_eq,beq_eq_false_iff_ne] at *
 all_goals first | exact H2.out (by omega) | exact H1.out (by omega) (by omega) | exact H0.out (by omega) (by omega)
def CheckIs (l : List Nd) (w : World) (e : Ending) (w' : World) : Prop:=e = .returned (errV (chk l)) ∧ Below w.heap.size w w'
theorem getD_get {α : Type} {l : List α} {k : Nat} (h : k < l.length) : ∃ x,l[k]? = some x:=⟨_,List.getElem?_eq_getElem h⟩
theorem Check_any (l : List Nd) (v : Value) (w : World) (hr : RdN w v l) : Calls Tryz.prog 71 #[v] w (CheckIs l w):=by
 obtain ⟨A,cap,rfl,hcap,hcap2,hmem⟩:=hr.open_
 have key : ∀ (m : Value) (w' : World),m = errV (chk l) → Below w.heap.size w w' → CheckIs l w (.returned m) w':=fun m w' h hb => ⟨by rw [h],hb⟩
 have HK:=hid key
 have HM:=hid hmem
 clear key hmem hr
 by_cases h60 : 60 < l.length
 ·have hc : chk l = 3:=by unfold chk;rw [if_pos h60]
  have HC:=hid hc
  clear hc
  go_enter Tryz.func71,Tryz.ntmps71
  go_wp2
  go_ret
  exact HK.out _ _ (by rw [HC.out];rfl) (Below.refl _ _)
 ·have hc : chk l = chkLoop l 1 true:=by unfold chk;rw [if_neg h60]
  have HC:=hid hc
  clear hc
  go_enter Tryz.func71,Tryz.ntmps71
  go_wp2
  go_loopw [3,4,13] (fun v3 v4 v13 wr => ∃ (k : Nat) (need : Int) (whole : Bool),k ≤ l.length ∧ v13 = .int .i64 k ∧ v3 = .int .i64 need ∧ v4 = .bool whole ∧ need ≤ 1 + k ∧ 1 - k ≤ need ∧
   Hid (chkLoop (l.drop k) need whole = chkLoop l 1 true) ∧ Below w.heap.size w wr) (fun _ _ i _ => l.length - (intOf i).toNat)
  case atStart => exact ⟨0,1,true,by omega,rfl,rfl,rfl,by omega,by omega,rfl,Below.refl _ _⟩
  case round =>
   obtain ⟨k,need,whole,hk,rfl,rfl,rfl,hn1,hn2,HL,hb⟩:=hrel
   by_cases hlt : k < l.length
   ·obtain ⟨b,off,rfl,hbl,hcells⟩:=HM.out (by omega)
    obtain ⟨n,hn⟩:=getD_get hlt
    obtain ⟨g0,g1,g2,g3,g4⟩:=hcells wr (fun o => hb.cell (p:=⟨b,o,none⟩) hbl) k n hn
    have hdrop : l.drop k = n :: l.drop (k + 1):=by
     rw [List.drop_eq_getElem_cons hlt];congr 1
     have:=List.getElem?_eq_getElem hlt
     rw [hn] at this
     exact (Option.some.inj this).symm
    have hd : chkLoop l 1 true = chkLoop (n :: l.drop (k + 1)) need whole:=by rw [← HL.out,hdrop]
    have HD:=hid hd
    clear hd HL
    clear hdrop hn hcells
    have hsz:=hb.size
    obtain ⟨op,c0,c1,c2,c3⟩:=n
    dsimp only at g0 g1 g2 g3 g4
    have hp:=parts_le op
    have hp' : (parts op : Int) ≤ 2:=by omega
    have hp0 : (0 : Int) ≤ (parts op : Int):=by omega
    have hz : (cls4 c0 c1 c2 c3 0 0 0 0 = true) ∨ (cls4 c0 c1 c2 c3 0 0 0 0 = false):=by cases cls4 c0 c1 c2 c3 0 0 0 0 <;> simp
    have hzc : cls4 c0 c1 c2 c3 0 0 0 0 = true ↔ (c0,c1,c2,c3) = zc:=cls4_iff c0 c1 c2 c3 0 0 0 0
    have HZ:=hid hzc
    have fin1 : (op < 1 ∨ 9 < op) → chkLoop l 1 true = 1:=fun h => by rw [HD.out];unfold chkLoop;rw [if_pos h]
    have fin2 : 1 ≤ op → op ≤ 9 → op ≠ 1 → cls4 c0 c1 c2 c3 0 0 0 0 = false → chkLoop l 1 true = 2:=fun h1 h2 h3 h4 => by
     rw [HD.out];unfold chkLoop;rw [if_neg (by simp;omega),if_pos ⟨h3,fun h => by rw [HZ.out.2 h] at h4;cases h4⟩]
    have goes : 1 ≤ op → op ≤ 9 → (op = 1 ∨ cls4 c0 c1 c2 c3 0 0 0 0 = true) → chkLoop (l.drop (k + 1)) (need + ((parts op : Int) - 1)) (whole && decide (0 < need)) = chkLoop l 1 true:=fun h1 h2 h3 => by
     rw [HD.out,chkLoop,if_neg (by simp;omega),if_neg]
     rintro ⟨h4,h5⟩
     rcases h3 with h3 | h3
     ·exact h4 h3
     ·exact h5 (HZ.out.1 h3)
    have F1:=hid fin1
    have F2:=hid fin2
    have GO:=hid goes
    clear hzc hp fin1 fin2 goes HZ
    rcases hz with hz | hz <;> by_cases hop : op = 1
    all_goals (try subst hop)
    all_goals cases whole
    all_goals go_wp2_with (go_at_call 103;refine (Parts_any _ _).mono ?_;rintro e w' ⟨rfl,rfl⟩)
    all_goals first
     | (go_ret;exact HK.out _ _ (by rw [HC.out];first | (rw [F1.out (by omega)];rfl) | (rw [F2.out (by omega) (by omega) (by omega) hz];rfl)) (hb.alloc hsz _))
     | (go_roundw
        case rel => exact ⟨k + 1,_,_,by omega,by go_num,rfl,rfl,by omega,by omega,by first | exact hid (GO.out (by omega) (by omega) (.inr hz)) | exact hid (GO.out (by omega) (by omega) (.inl (by first | trivial | rfl))),hb.alloc hsz _⟩
        case measure => simp [intOf];omega)
   ·have hkk : k = l.length:=by omega
    have hd : chkLoop l 1 true = (if whole = true ∧ need = 0 then 0 else 2):=by
     rw [← HL.out,hkk,List.drop_length];rfl
    have HD:=hid hd
    clear hd HL hkk
    by_cases hn : need = 0
    all_goals cases whole
    all_goals (try subst hn)
    all_goals go_wp2
    all_goals first
     | (go_ret;exact HK.out _ _ (by rw [HC.out,HD.out];first | (simp [errV];done) | (rw [if_neg (by simp;omega)];rfl)) hb)
theorem info_int : (Tryz.prog.info? 3).map (fun i => (i.zero,i.size,i.bytes)) = some (some (.int .i64 0),1,8):=by kernel_rfl
theorem info_bool : (Tryz.prog.info? 4).map (fun i => (i.zero,i.size,i.bytes)) = some (some (.bool false),1,1):=by kernel_rfl
theorem mk_ints (n : Nat) (h : n ≤ 100000) (w : World) : (Instr.makeSlice 191 (.int .i64 (n : Int)) (.int .i64 (n : Int))).run Tryz.prog w = .ok (.slice (some ⟨w.heap.size,0,none⟩) n n) (w.alloc (.cells (repA n (.int .i64 0)) 3)):=by
 obtain ⟨i0,hi0,hz0,hz1,hz2⟩:=info_parts info_int
 exact run_mk _ _ i0 _ Tryz.underlying191 hi0 hz0 hz1 rfl n (by rw [hz2];omega) (by omega) w
theorem mk_bools (n : Nat) (h : n ≤ 100000) (w : World) : (Instr.makeSlice 278 (.int .i64 (n : Int)) (.int .i64 (n : Int))).run Tryz.prog w = .ok (.slice (some ⟨w.heap.size,0,none⟩) n n) (w.alloc (.cells (repA n (.bool false)) 4)):=by
 obtain ⟨i0,hi0,hz0,hz1,hz2⟩:=info_parts info_bool
 exact run_mk _ _ i0 _ Tryz.underlying278 hi0 hz0 hz1 rfl n (by rw [hz2];omega) (by omega) w
def natVals (xs : List Nat) : List Value:=xs.map fun (n : Nat) => Value.int .i64 (n : Int)
def EndsIs (l : List Nd) (w : World) (e : Ending) (w' : World) : Prop :=
 ∃ (g : Nat) (xs : List Nat),e = .returned (.slice (some ⟨g,0,none⟩) l.length l.length) ∧ IsEnds l xs ∧ w.heap.size ≤ g ∧ g < w'.heap.size ∧ (∀ (j x : Nat),xs[j]? = some x → w'.cell? ⟨g,j,none⟩ = some (.int .i64 (x : Int))) ∧ Below w.heap.size w w'
def EndsTo (l : List Nd) (m : Nat) (cs : Array Value) : Prop:=cs.size = l.length ∧ (∀ j,j < cs.size → ∃ x : Int,cs[j]? = some (.int .i64 x)) ∧ ∀ j u,m ≤ j → At l j u → cs[j]? = some (.int .i64 ((j + (flat u).length : Nat) : Int))
theorem EndsTo.start (l : List Nd) : EndsTo l l.length (repA l.length (.int .i64 0)):=by
 refine ⟨repA_size _ _,fun j hj => ⟨0,repA_get _ _ _ (by rw [repA_size] at hj;exact hj)⟩,fun j u hj h => ?_⟩
 have:=h.lt
 have:=flat_pos u
 omega
theorem EndsTo.step {l : List Nd} {i : Nat} {cs : Array Value} {u : Rx} (h : EndsTo l (i + 1) cs) (hu : At l i u) : EndsTo l i (cs.setIfInBounds i (.int .i64 ((i + (flat u).length : Nat) : Int))):=by
 obtain ⟨h1,h2,h3⟩:=h
 have hlt:=hu.lt
 have hp:=flat_pos u
 refine ⟨by simpa using h1,fun j hj => ?_,fun j v hj hv => ?_⟩
 ·rw [Array.getElem?_setIfInBounds]
  split
  ·exact ⟨_,by rw [if_pos (by simp at hj;omega)]⟩
  ·exact h2 j (by simpa using hj)
 ·rw [Array.getElem?_setIfInBounds]
  split
  ·rename_i e
   subst e
   rw [hv.inj hu]
   rw [if_pos (by omega)]
  ·exact h3 j v (by omega) hv
theorem EndsTo.done {t : Rx} {cs : Array Value} (h : EndsTo (flat t) 0 cs) : ∃ xs : List Nat,IsEnds (flat t) xs ∧ ∀ (j x : Nat),xs[j]? = some x → cs[j]? = some (.int .i64 (x : Int)):=by
 obtain ⟨h1,h2,h3⟩:=h
 have key : ∀ j,j < (flat t).length → ∃ n : Nat,cs[j]? = some (.int .i64 (n : Int)) ∧ ∀ u,At (flat t) j u → n = j + (flat u).length:=by
  intro j hj
  obtain ⟨u,hu⟩:=at_each t j hj
  exact ⟨_,h3 j u (by omega) hu,fun v hv => by rw [hv.inj hu]⟩
 have build : ∀ m,m ≤ (flat t).length → ∃ xs : List Nat,xs.length = m ∧ ∀ j,j < m → ∃ n,xs[j]? = some n ∧ cs[j]? = some (.int .i64 (n : Int)) ∧ ∀ u,At (flat t) j u → n = j + (flat u).length:=by
  intro m
  induction m with
  | zero => intro _;exact ⟨[],rfl,fun j hj => by omega⟩
  | succ m ih =>
    intro hm
    obtain ⟨xs,hl,hx⟩:=ih (by omega)
    obtain ⟨n,hn⟩:=key m (by omega)
    refine ⟨xs ++ [n],by simp [hl],fun j hj => ?_⟩
    by_cases hjm : j < m
    ·obtain ⟨k,hk⟩:=hx j hjm
     exact ⟨k,by rw [List.getElem?_append_left (by omega)];exact hk.1,hk.2⟩
    ·obtain rfl : j = m:=by omega
     exact ⟨n,by simp [hl],hn⟩
 obtain ⟨xs,hl,hx⟩:=build _ (Nat.le_refl _)
 refine ⟨xs,⟨hl,fun i u hu => ?_⟩,fun j x hxj => ?_⟩
 ·have:=hu.lt
  have:=flat_pos u
  obtain ⟨n,hn,_,h⟩:=hx i (by omega)
  rw [hn,h u hu]
 ·obtain ⟨n',hn',hc,_⟩:=hx j (by
   have:=(List.getElem?_eq_some_iff.1 hxj).1
   omega)
  rw [hn'] at hxj
  cases hxj
  exact hc
theorem Ends_any (l : List Nd) (t : Rx) (hl : l = flat t) (v : Value) (w : World) (ht : l.length ≤ 60) (hr : RdN w v l) : Calls Tryz.prog 113 #[v] w (EndsIs l w):=by
 obtain ⟨A,cap,rfl,hcap,hcap2,hmem⟩:=hr.open_
 have hall : ∀ i,i < l.length → ∃ u,At l i u:=fun i hi => by subst hl;exact at_each t i hi
 have hdone : ∀ cs,EndsTo l 0 cs → ∃ xs : List Nat,IsEnds l xs ∧ ∀ (j x : Nat),xs[j]? = some x → cs[j]? = some (.int .i64 (x : Int)):=fun cs h => by subst hl;exact h.done
 have hpos : 0 < l.length:=by rw [hl];exact flat_pos t
 obtain ⟨b,off,rfl,hbl,hcells⟩:=hmem hpos
 have HD:=hid hdone
 have HA:=hid hall
 have HC:=hid hcells
 clear hdone hall hcells hr hmem hl
 have hmk:=fun W => mk_ints l.length (by omega) W
 have hstart:=hid (EndsTo.start l)
 go_enter Tryz.func113,Tryz.ntmps113
 go_wp2
 clear hmk
 go_loopw [4] (fun v4 wr => ∃ (m : Nat) (cs : Array Value),m ≤ l.length ∧ v4 = .int .i64 ((m : Int) - 1) ∧ Hid (EndsTo l m cs) ∧ Blk wr w.heap.size 3 cs ∧ Below w.heap.size w wr) (fun i _ => (intOf i + 1).toNat)
 case atStart => exact ⟨l.length,_,by omega,rfl,hstart,Blk.new _ _ _,(Below.refl _ _).alloc (Nat.le_refl _) _⟩
 case round =>
  obtain ⟨m,cs,hm,hv4,HE,hblk,hb⟩:=hrel
  rcases m with _ | i
  ·obtain rfl : u4 = .int .i64 (-1):=hv4
   go_wp2
   go_ret
   obtain ⟨xs,hx1,hx3⟩:=HD.out cs HE.out
   exact ⟨_,xs,rfl,hx1,Nat.le_refl _,hblk.lt,fun j x hx => by rw [hblk.cell];exact hx3 j x hx,hb⟩
  ·obtain rfl : u4 = .int .i64 (i : Int):=by rw [hv4];congr 1;omega
   clear hv4
   obtain ⟨u,hu⟩:=HA.out i (by omega)
   obtain ⟨⟨op,cl⟩,hn,hpn,_⟩:=hu.node
   have hilt : i < l.length:=by omega
   obtain ⟨g0,_,_,_,_⟩:=HC.out wr (fun o => hb.cell (p:=⟨b,o,none⟩) hbl) i _ hn
   dsimp only at hpn g0
   have hp2:=parts_le op
   have hkid : ∀ j,j < parts op → ∃ v,(kids u)[j]? = some v:=fun j hj => ⟨_,List.getElem?_eq_getElem (by omega)⟩
   have hnext : ∀ j,j < parts op → ∃ e' : Nat,i + pre u j < l.length ∧ e' ≤ l.length ∧ e' = i + pre u (j + 1) ∧ cs[i + pre u j]? = some (.int .i64 (e' : Int)):=fun j hj => by
    obtain ⟨v,hv⟩:=hkid j hj
    have hat:=hu.kid j v hv
    have h1:=hat.lt
    have h2:=flat_pos v
    have h3:=pre_succ u j v hv
    refine ⟨i + pre u j + (flat v).length,by omega,by omega,by omega,?_⟩
    rw [HE.out.2.2 (i + pre u j) v (by unfold pre;omega) hat]
   have hend : pre u (parts op) = (flat u).length:=by rw [hpn];exact pre_all u
   have hlast:=hu.lt
   have hstep:=EndsTo.step HE.out hu
   obtain ⟨x0,hx0⟩:=HE.out.2.1 i (by rw [HE.out.1];exact hilt)
   have gst : wr.cell? ⟨w.heap.size,i,none⟩ = some (.int .i64 x0):=by rw [hblk.cell];exact hx0
   have gfr : wr.frozen? ⟨w.heap.size,i,none⟩ = false:=hblk.frozen i
   have HB:=hid hblk
   have HN:=hid hnext
   have HEND:=hid hend
   have HS:=hid hstep
   have hlast':=hid hlast
   have h10 : pre u 0 = 1:=pre_zero u
   have H10:=hid h10
   clear hkid hnext hend hpn hn hu hstep hblk hlast h10 HC HA HE hx0
   have hmul : Hid (i + 1 = i + pre u 0):=by rw [H10.out];exact hid rfl
   go_wp2_with (go_at_call 103;refine (Parts_any _ _).mono ?_;rintro e w' ⟨rfl,rfl⟩)
   go_loop [5,24] (fun v5 v24 => ∃ j e : Nat,j ≤ parts op ∧ v24 = .int .i64 (j : Int) ∧ v5 = .int .i64 (e : Int) ∧ Hid (e = i + pre u j)) (fun _ i => parts op - (intOf i).toNat)
   case atStart => exact ⟨0,i + 1,by omega,rfl,by go_num,hmul⟩
   case round =>
    obtain ⟨j,e,hj,rfl,rfl,he⟩:=hrel
    by_cases hlt : j < parts op
    ·obtain ⟨e',h1,h2,h3,h4⟩:=HN.out j hlt
     rw [← he.out] at h1 h4
     have gl : wr.cell? ⟨w.heap.size,e,none⟩ = some (.int .i64 (e' : Int)):=by rw [HB.out.cell];exact h4
     have H3:=hid h3
     clear h3 h4
     go_wp2
     go_round
     case rel => exact ⟨j + 1,e',by omega,by go_num,rfl,H3⟩
     case measure => simp [intOf];omega
    ·obtain rfl : j = parts op:=by omega
     have he2 : Hid (e = i + (flat u).length):=by have:=he.out;rw [HEND.out] at this;exact this
     go_wp2
     go_roundw
     case rel => 
      refine ⟨i,cs.setIfInBounds i (.int .i64 (e : Int)),by omega,rfl,?_,HB.out.set_ _ _,hb.setCell (Nat.le_refl _) _⟩
      have:=HS.out
      rw [← he2.out] at this
      exact this
     case measure => simp [intOf]
theorem below_drewN {B : Nat} {a w : World} (h : Below B a w) (n : Nat) : Below B a (w.drewN n):=⟨h.os,h.tape,h.output,h.size,h.block⟩
theorem take_snoc {α : Type} {l : List α} {k : Nat} {x : α} (h : l[k]? = some x) : l.take (k + 1) = l.take k ++ [x]:=by
 rw [List.take_add_one,h];rfl
def MayTo (l : List Nd) (m : Nat) (cs : Array Value) : Prop:=cs.size = l.length ∧ (∀ j,j < cs.size → ∃ x : Bool,cs[j]? = some (.bool x)) ∧ (∀ j,j < m → j < cs.size → cs[j]? = some (.bool false)) ∧ ∀ j u,m ≤ j → At l j u → cs[j]? = some (.bool (may u))
theorem MayTo.start (l : List Nd) : MayTo l l.length (repA l.length (.bool false)):=by
 refine ⟨repA_size _ _,fun j hj => ⟨false,repA_get _ _ _ (by rw [repA_size] at hj;exact hj)⟩,fun j hj _ => repA_get _ _ _ hj,fun j u hj h => ?_⟩
 have:=h.lt
 have:=flat_pos u
 omega
theorem MayTo.step {l : List Nd} {i : Nat} {cs : Array Value} {u : Rx} (h : MayTo l (i + 1) cs) (hu : At l i u) : MayTo l i (cs.setIfInBounds i (.bool (may u))):=by
 obtain ⟨h1,h2,h0,h3⟩:=h
 have hlt:=hu.lt
 have hp:=flat_pos u
 refine ⟨by simpa using h1,fun j hj => ?_,fun j hj hj' => ?_,fun j v hj hv => ?_⟩
 ·rw [Array.getElem?_setIfInBounds]
  split
  ·exact ⟨_,by rw [if_pos (by simp at hj;omega)]⟩
  ·exact h2 j (by simpa using hj)
 ·rw [Array.getElem?_setIfInBounds]
  split
  ·omega
  ·exact h0 j (by omega) (by simpa using hj')
 ·rw [Array.getElem?_setIfInBounds]
  split
  ·rename_i e
   subst e
   rw [hv.inj hu]
   rw [if_pos (by omega)]
  ·exact h3 j v (by omega) hv
theorem MayTo.skip {l : List Nd} {i : Nat} {cs : Array Value} {u : Rx} (h : MayTo l (i + 1) cs) (hu : At l i u) (hm : may u = false) : MayTo l i cs:=by
 obtain ⟨h1,h2,h0,h3⟩:=h
 have hlt:=hu.lt
 have hp:=flat_pos u
 refine ⟨h1,h2,fun j hj hj' => h0 j (by omega) hj',fun j v hj hv => ?_⟩
 by_cases e : j = i
 ·subst e
  rw [hv.inj hu,hm]
  exact h0 j (by omega) (by omega)
 ·exact h3 j v (by omega) hv
def clsV (c : Cls) : Value:=.agg #[.int .u64 (c.1 : Int),.int .u64 (c.2.1 : Int),.int .u64 (c.2.2.1 : Int),.int .u64 (c.2.2.2 : Int)]
theorem word_get (c : Cls) (q : Nat) (h : q < 4) : [Value.int .u64 (c.1 : Int),.int .u64 (c.2.1 : Int),.int .u64 (c.2.2.1 : Int),.int .u64 (c.2.2.2 : Int)][q]? = some (.int .u64 (word c q : Int)):=by
 match q,h with
 | 0,_ => rfl
 | 1,_ => rfl
 | 2,_ => rfl
 | 3,_ => rfl
theorem bit_has (n k : Nat) (hn : n < 18446744073709551616) : (bits .and .u64 ((n : Int) / 2 ^ k) 1 == 1) = n.testBit k:=by
 have e : (n : Int) / 2 ^ k = ((n / 2 ^ k : Nat) : Int):=by simp
 have hle : n / 2 ^ k ≤ n:=Nat.div_le_self _ _
 rw [e,Nat.testBit_eq_decide_div_mod_eq]
 generalize n / 2 ^ k = m at *
 rw [and_one_u64 _ (by omega) (by omega)]
 rw [Bool.eq_iff_iff]
 simp
 omega
def HasIs (c : Cls) (b : Nat) (w : World) (e : Ending) (w' : World) : Prop:=e = .returned (.bool (has c b)) ∧ Below w.heap.size w w'
theorem Has_any (c0 c1 c2 c3 b : Nat) (w : World) (hok : okC (c0,c1,c2,c3)) (hb : b < 256) :
 Calls Tryz.prog 140 #[.agg #[.int .u64 (c0 : Int),.int .u64 (c1 : Int),.int .u64 (c2 : Int),.int .u64 (c3 : Int)],.int .u8 (b : Int)] w (HasIs (c0,c1,c2,c3) b w):=by
 have hget:=word_get (c0,c1,c2,c3) (b / 64) (by omega)
 have hcw:=word_lt hok (b / 64)
 have hbit:=bit_has (word (c0,c1,c2,c3) (b / 64)) (b % 64) hcw
 have hfin : has (c0,c1,c2,c3) b = (word (c0,c1,c2,c3) (b / 64)).testBit (b % 64):=rfl
 rw [← hbit] at hfin
 dsimp only at hget
 have HF:=hid hfin
 clear hfin hbit hok
 generalize word (c0,c1,c2,c3) (b / 64) = cw at *
 go_enter Tryz.func140,Tryz.ntmps140
 go_wp2
 go_ret
 exact ⟨by rw [HF.out];rfl,(Below.refl _ _).alloc (Nat.le_refl _) _⟩
def ClsIs (c : Cls) (w : World) (e : Ending) (w' : World) : Prop:=∃ d0 d1 d2 d3 : Nat,e = .returned (.agg #[.int .u64 (d0 : Int),.int .u64 (d1 : Int),.int .u64 (d2 : Int),.int .u64 (d3 : Int)]) ∧ (d0,d1,d2,d3) = c ∧ Below w.heap.size w w'
theorem ClsIs.of {c : Cls} {w w' : World} (h : Below w.heap.size w w') : ClsIs c w (.returned (clsV c)) w':=⟨c.1,c.2.1,c.2.2.1,c.2.2.2,rfl,rfl,h⟩
theorem or_pow (a b : Nat) (ha : a < 18446744073709551616) : bits .or .u64 (a : Int) (IntKind.u64.wrap (2 ^ (b % 64))) = ((a ||| 2 ^ (b % 64) : Nat) : Int):=by
 have hp:=pow_lt64 b
 have e : IntKind.u64.wrap (2 ^ (b % 64)) = ((2 ^ (b % 64) : Nat) : Int):=by
  rw [IntKind.wrap_u64]
  have : (2 : Int) ^ (b % 64) = ((2 ^ (b % 64) : Nat) : Int):=by simp
  rw [this]
  generalize 2 ^ (b % 64) = p at *
  omega
 rw [e,u64_or_nat _ _ ha hp]
theorem with_any (c0 c1 c2 c3 b : Nat) (w : World) (hok : okC (c0,c1,c2,c3)) (hb : b < 256) :
 Calls Tryz.prog 196 #[.agg #[.int .u64 (c0 : Int),.int .u64 (c1 : Int),.int .u64 (c2 : Int),.int .u64 (c3 : Int)],.int .u8 (b : Int)] w (ClsIs (withB (c0,c1,c2,c3) b) w):=by
 obtain ⟨h0,h1,h2,h3⟩:=hok
 have q4 : b / 64 = 0 ∨ b / 64 = 1 ∨ b / 64 = 2 ∨ b / 64 = 3:=by omega
 have e0:=or_pow c0 b h0
 have e1:=or_pow c1 b h1
 have e2:=or_pow c2 b h2
 have e3:=or_pow c3 b h3
 have E0:=hid e0
 have E1:=hid e1
 have E2:=hid e2
 have E3:=hid e3
 clear e0 e1 e2 e3 h0 h1 h2 h3
 rcases q4 with hq | hq | hq | hq
 all_goals
  have hfin : clsV (withB (c0,c1,c2,c3) b) = clsV (withB (c0,c1,c2,c3) b):=rfl
  conv at hfin => rhs;unfold clsV withB;simp only [hq]
  simp at hfin
  have HF:=hid hfin
  clear hfin
  go_enter Tryz.func196,Tryz.ntmps196
  go_wp2
  refine bodyPost_ret (v:=clsV (withB (c0,c1,c2,c3) b)) ?_ rfl (ClsIs.of (((Below.refl _ _).alloc (Nat.le_refl _) _).alloc (by simp) _))
  rw [HF.out]
  simp [results,Tryz.results196,go_sem,E0.out,E1.out,E2.out,E3.out]
theorem bytes_take (s : ByteArray) (k : Nat) (h : k < s.size) : s.data.toList.take (k + 1) = s.data.toList.take k ++ [s[k]]:=by
 rw [List.take_succ_eq_append_getElem (by simpa using h)];rfl
theorem Blk4 {w : World} {g : Nat} {t : TypeId} {a b c d : Value} (h : Blk w g t #[a,b,c,d]) :
 (w.cell? ⟨g,0,none⟩ = some a ∧ w.cell? ⟨g,1,none⟩ = some b ∧ w.cell? ⟨g,2,none⟩ = some c ∧ w.cell? ⟨g,3,none⟩ = some d) ∧
   (w.frozen? ⟨g,0,none⟩ = false ∧ w.frozen? ⟨g,1,none⟩ = false ∧ w.frozen? ⟨g,2,none⟩ = false ∧ w.frozen? ⟨g,3,none⟩ = false) :=
 ⟨⟨h.cell 0,h.cell 1,h.cell 2,h.cell 3⟩,h.frozen 0,h.frozen 1,h.frozen 2,h.frozen 3⟩
theorem Blk4_set {w : World} {g : Nat} {t : TypeId} {a b c d : Value} (h : Blk w g t #[a,b,c,d]) (a' b' c' d' : Value) :
 Blk ((((w.setCell ⟨g,0,none⟩ a').setCell ⟨g,1,none⟩ b').setCell ⟨g,2,none⟩ c').setCell ⟨g,3,none⟩ d') g t #[a',b',c',d'] :=
 (((h.set_ 0 a').set_ 1 b').set_ 2 c').set_ 3 d'
theorem Of_any (s : ByteArray) (w : World) (hs : s.size ≤ 9223372036854775807) :
 Calls Tryz.prog 172 #[.string s] w (ClsIs (ofL s.data.toList zc) w):=by
 go_enter Tryz.func172,Tryz.ntmps172
 go_wp2
 go_loopw [7] (fun v7 wr => ∃ (k : Nat) (c0 c1 c2 c3 : Nat),k ≤ s.size ∧ v7 = .int .i64 (k : Int) ∧ okC (c0,c1,c2,c3) ∧ Hid ((c0,c1,c2,c3) = ofL (s.data.toList.take k) zc) ∧
  Blk wr (w.heap.size + 1) 112 #[.int .u64 (c0 : Int),.int .u64 (c1 : Int),.int .u64 (c2 : Int),.int .u64 (c3 : Int)] ∧ (∃ d,Blk wr w.heap.size 112 #[.int .u64 0,.int .u64 0,.int .u64 0,.int .u64 d]) ∧ Below w.heap.size w wr) (fun i _ => s.size - (intOf i).toNat)
 case atStart => exact ⟨0,0,0,0,0,by omega,rfl,okC_zc,hid rfl,by have h:=Blk.new (w.alloc (.cells #[.int .u64 0,.int .u64 0,.int .u64 0,.int .u64 0] 112)) 112 #[.int .u64 0,.int .u64 0,.int .u64 0,.int .u64 0];simpa using h,⟨0,(Blk.new _ _ _).alloc _⟩,((Below.refl _ _).alloc (Nat.le_refl _) _).alloc (by simp) _⟩
 case round =>
  obtain ⟨k,c0,c1,c2,c3,hk,rfl,hok,hc,hblk,⟨d,hblk0⟩,hb⟩:=hrel
  by_cases hlt : k < s.size
  ·have hsz:=hblk.lt
   have hbyte : (s[k].toNat : Int) < 256:=by have:=s[k].toNat_lt;omega
   have hbyte' : s[k].toNat < 256:=s[k].toNat_lt
   obtain ⟨⟨x0,x1,x2,x3⟩,y0,y1,y2,y3⟩:=Blk4 hblk
   have hnext : withB (c0,c1,c2,c3) s[k].toNat = ofL (s.data.toList.take (k + 1)) zc:=by rw [bytes_take s k hlt,ofL_snoc,hc.out]
   have HN:=hid hnext
   have hokn:=hid (okC_with hok s[k].toNat)
   have HOK:=hid hok
   have HB:=hid hblk
   have HB0:=hid hblk0
   have HBB:=hid hb
   have hsz2:=hb.size
   clear hnext hok hblk hblk0 hb hc
   have hk0 : (0 : Int) ≤ (k : Int):=by omega
   have hk1 : (k : Int) < (s.size : Int):=by omega
   go_wp2_with fail
   go_region_with (first
    | (go_at_call 196;refine (with_any c0 c1 c2 c3 s[k].toNat _ HOK.out hbyte').mono ?_;rintro e w1 ⟨d0,d1,d2,d3,rfl,hd,hb1⟩;have HD:=hid hd;have hbx : Below wr.heap.size wr w1:=((Below.refl wr.heap.size wr).drew).trans hb1;have hblk1:=HB.out.kept hbx;obtain ⟨⟨x0,x1,x2,x3⟩,y0,y1,y2,y3⟩:=Blk4 hblk1;have HB1:=hid hblk1;have hsz1:=hbx.size;have HBL:=hid hbx;clear hd hblk1 hb1 hbx))
   all_goals (
    go_wp2
    go_roundw
    case rel =>
     have hok':=hokn.out
     rw [← HD.out] at hok'
     refine ⟨k + 1,d0,d1,d2,d3,by omega,by go_num,hok',hid (by rw [HD.out,HN.out]),Blk4_set HB1.out _ _ _ _,?_,?_⟩
     ·refine ⟨d,((((HB0.out.kept HBL.out).far ?_ _).far ?_ _).far ?_ _).far ?_ _⟩ <;> simp
     ·exact ((((HBB.out.trans (HBL.out.mono hsz2)).setCell (by simp) _).setCell (by simp) _).setCell (by simp) _).setCell (by simp) _
    case measure => simp [intOf];omega)
  ·obtain rfl : k = s.size:=by omega
   obtain ⟨⟨x0,x1,x2,x3⟩,y0,y1,y2,y3⟩:=Blk4 hblk
   obtain ⟨⟨z0,z1,z2,z3⟩,t0,t1,t2,t3⟩:=Blk4 hblk0
   have hfin : (c0,c1,c2,c3) = ofL s.data.toList zc:=by rw [hc.out,List.take_of_length_le (by simp)]
   have HF:=hid hfin
   have HB:=hid hb
   have HB0:=hid hblk0
   clear hfin hc hb hblk hblk0 hok
   go_wp2
   refine bodyPost_ret (v:=clsV (ofL s.data.toList zc)) ?_ rfl (ClsIs.of ?_)
   ·rw [← HF.out]
    have h4:=(Blk4 (Blk4_set HB0.out (.int .u64 c0) (.int .u64 c1) (.int .u64 c2) (.int .u64 c3))).1
    obtain ⟨h0,h1,h2,h3⟩:=h4
    simp [results,Tryz.results172,go_sem,clsV,h0,h1,h2,h3]
   ·exact (((HB.out.setCell (Nat.le_refl _) _).setCell (Nat.le_refl _) _).setCell (Nat.le_refl _) _).setCell (Nat.le_refl _) _
end Go.Proofs.YthhcpbfgoofppaaGreatDoor
