/-
  RefA, RefB, RefC.
-/
import Derived.Test.YthcahjnniendnacGreatDoorGPl
import Derived.Test.YthcahjnniendnacGreatDoorGRex
set_option linter.unusedVariables false
set_option linter.unusedSimpArgs false
set_option maxRecDepth 100000
set_option maxHeartbeats 4000000
open Go.Lib (hid)
namespace Go.Proofs.YthcahjnniendnacGreatDoor
open Go.RowKit Wf
theorem half_bit (n i : Nat) : (n / 2 ^ i % 2 == 1) = n.testBit i:=by
 rw [Nat.testBit_eq_decide_div_mod_eq]
 by_cases h : n / 2 ^ i % 2 = 1 <;> simp [h]
def RInIs (c : Cls) (b : Nat) (w : World) (e : Ending) (w' : World) : Prop:=e = .returned (.bool (has c b)) ∧ Below w.heap.size w w'
theorem RIn_any (c0 c1 c2 c3 b : Nat) (w : World) (hok : okC (c0,c1,c2,c3)) (hb : b < 256) :
 Calls Tryz.prog 53 #[.agg #[.int .u64 (c0 : Int),.int .u64 (c1 : Int),.int .u64 (c2 : Int),.int .u64 (c3 : Int)],.int .i64 (b : Int)] w (RInIs (c0,c1,c2,c3) b w):=by
 have hw:=word_lt hok (b / 64)
 have hbl:=Blk.new w 39 #[.int .u64 (c0 : Int),.int .u64 (c1 : Int),.int .u64 (c2 : Int),.int .u64 (c3 : Int)]
 have hq : b / 64 < 4:=by omega
 have hcell : (w.alloc (.cells #[.int .u64 (c0 : Int),.int .u64 (c1 : Int),.int .u64 (c2 : Int),.int .u64 (c3 : Int)] 39)).cell? ⟨w.heap.size,b / 64,none⟩ = some (.int .u64 (word (c0,c1,c2,c3) (b / 64) : Int)):=by
  rw [hbl.cell]
  unfold word
  obtain h | h | h | h : b / 64 = 0 ∨ b / 64 = 1 ∨ b / 64 = 2 ∨ b / 64 = 3:=by omega
  all_goals (rw [h];simp)
 have hH : Hid (∀ n,n = word (c0,c1,c2,c3) (b / 64) / 2 ^ (b % 64) → (n % 2 == 1) = has (c0,c1,c2,c3) b):=hid (by rintro n rfl;rw [half_bit];rfl)
 generalize word (c0,c1,c2,c3) (b / 64) = W at *
 have hW2 : W < 18446744073709551616:=hw
 clear hbl hok hw
 go_enter Tryz.func53,Tryz.ntmps53
 go_wp2
 go_loopw [5,6] (fun v5 v6 wr => ∃ k x : Nat,k ≤ b % 64 ∧ v6 = .int .i64 (k : Int) ∧ v5 = .int .u64 (x : Int) ∧ x < 18446744073709551616 ∧ Hid (x = W / 2 ^ k) ∧ Hid (Below w.heap.size w wr)) (fun _ i _ => b % 64 - (intOf i).toNat)
 case atStart => exact ⟨0,W,by omega,rfl,rfl,hW2,hid (by simp),hid ((Below.refl _ _).alloc (Nat.le_refl _) _)⟩
 case round =>
  obtain ⟨k,x,hk,rfl,rfl,hx,HX,HB⟩:=hrel
  have hb64 : b % 64 < 64:=by omega
  by_cases hlt : k < b % 64
  ·have d1 : decide (k < b % 64) = true:=by simpa using hlt
   have d2 : decide ((k : Int) < (b : Int) % 64) = true:=by simp;omega
   have i2 : (k : Int) < (b : Int) % 64:=by omega
   go_wp2
   go_roundw
   case rel => exact ⟨k + 1,x / 2,by omega,by go_num,by go_num,by omega,hid (by rw [HX.out,Nat.div_div_eq_div_mul,Nat.pow_succ]),HB⟩
   case measure => simp [intOf];omega
  ·obtain rfl : k = b % 64:=by omega
   have d1 : decide (b % 64 < b % 64) = false:=by simp
   have d2 : decide (((b % 64 : Nat) : Int) < (b : Int) % 64) = false:=by simp
   have hres:=hH.out x HX.out
   have HRES : Hid (((x : Int) % 2 == 1) = has (c0,c1,c2,c3) b):=hid (by
    rw [← hres,Bool.eq_iff_iff];simp;omega)
   clear hres
   go_wp2
   go_ret
   refine ⟨?_,HB.out⟩
   rw [← HRES.out]
   rfl
def cntR (c : Cls) (k : Nat) : Nat:=(List.range k).countP fun x => has c x
theorem cntR_succ (c : Cls) (k : Nat) : cntR c (k + 1) = cntR c k + if has c k then 1 else 0:=by
 unfold cntR
 rw [List.range_succ,List.countP_append]
 simp [List.countP_cons]
def RCountIs (c : Cls) (w : World) (e : Ending) (w' : World) : Prop:=e = .returned (.int .i64 (cntR c 256 : Int)) ∧ Below w.heap.size w w'
theorem RCount_any (c0 c1 c2 c3 : Nat) (w : World) (hok : okC (c0,c1,c2,c3)) :
 Calls Tryz.prog 30 #[.agg #[.int .u64 (c0 : Int),.int .u64 (c1 : Int),.int .u64 (c2 : Int),.int .u64 (c3 : Int)]] w (RCountIs (c0,c1,c2,c3) w):=by
 have HBL:=hid (Blk.new w 39 #[.int .u64 (c0 : Int),.int .u64 (c1 : Int),.int .u64 (c2 : Int),.int .u64 (c3 : Int)])
 have HIN:=hid (fun (b : Nat) (hb : b < 256) (W : World) => RIn_any c0 c1 c2 c3 b W hok hb)
 clear hok
 generalize hc : (c0,c1,c2,c3) = c at *
 have HC:=hid hc
 clear hc
 go_enter Tryz.func30,Tryz.ntmps30
 go_wp2
 go_loopw [3,4] (fun v3 v4 wr => ∃ k m : Nat,k ≤ 256 ∧ m ≤ k ∧ v4 = .int .i64 (k : Int) ∧ v3 = .int .i64 (m : Int) ∧ Hid (m = cntR c k) ∧ Hid (Below (w.heap.size + 1) (w.alloc (.cells #[.int .u64 (c0 : Int),.int .u64 (c1 : Int),.int .u64 (c2 : Int),.int .u64 (c3 : Int)] 39)) wr)) (fun _ i _ => 256 - (intOf i).toNat)
 case atStart => exact ⟨0,0,by omega,by omega,rfl,rfl,hid (by simp [cntR]),hid (Below.refl _ _)⟩
 case round =>
  obtain ⟨k,m,hk,hm,rfl,rfl,HM,HB⟩:=hrel
  by_cases hlt : k < 256
  ·have hbl:=HBL.out.below HB.out (Nat.lt_succ_self _)
   have q0:=hbl.cell 0
   have q1:=hbl.cell 1
   have q2:=hbl.cell 2
   have q3:=hbl.cell 3
   simp only [List.getElem?_toArray,List.getElem?_cons_succ,List.getElem?_cons_zero] at q0 q1 q2 q3
   have hk1 : (k : Int) < 256:=by omega
   have hsz : w.heap.size + 1 ≤ wr.heap.size:=by have:=HB.out.size;simpa using this
   clear hbl
   go_wp2_with fail
   refine (HIN.out k hlt _).mono ?_
   rintro e w1 ⟨he,hb1⟩
   have HB1:=hid (HB.out.trans (hb1.mono hsz))
   clear hb1
   cases hh : has c k with
   | true =>
     rw [hh] at he
     subst he
     have HH:=hid hh
     clear hh
     go_wp2_with fail
     go_roundw
     case rel => exact ⟨k + 1,m + 1,by omega,by omega,by go_num,by go_num,hid (by rw [cntR_succ,HH.out,HM.out];rfl),HB1⟩
     case measure => simp [intOf];omega
   | false =>
     rw [hh] at he
     subst he
     have HH:=hid hh
     clear hh
     go_wp2_with fail
     go_roundw
     case rel => exact ⟨k + 1,m,by omega,by omega,by go_num,rfl,hid (by rw [cntR_succ,HH.out,HM.out];rfl),HB1⟩
     case measure => simp [intOf];omega
  ·obtain rfl : k = 256:=by omega
   go_wp2_with fail
   go_ret
   refine ⟨?_,?_⟩
   ·rw [← HM.out];rfl
   ·exact ((Below.refl w.heap.size w).alloc (Nat.le_refl _) _).trans (HB.out.mono (Nat.le_succ _))
theorem RParts_any (op : Int) (w : World) : Calls Tryz.prog 54 #[.int .i64 op] w (fun e w' => e = .returned (.int .i64 (parts op : Int)) ∧ w = w'):=by
 by_cases h2 : op = 3 ∨ op = 4
 ·have hp : parts op = 2:=by simp [parts,h2]
  rw [hp]
  rcases h2 with rfl | rfl
  ·go_enter Tryz.func54,Tryz.ntmps54
   go_wp2
   go_ret
   exact ⟨rfl,rfl⟩
  ·go_enter Tryz.func54,Tryz.ntmps54
   go_wp2
   go_ret
   exact ⟨rfl,rfl⟩
 ·by_cases h1 : op = 5 ∨ op = 6 ∨ op = 7
  ·have hp : parts op = 1:=by unfold parts;rw [if_neg h2,if_pos h1]
   rw [hp]
   rcases h1 with rfl | rfl | rfl
   all_goals (
    go_enter Tryz.func54,Tryz.ntmps54
    go_wp2
    go_ret
    exact ⟨rfl,rfl⟩)
  ·have hp : parts op = 0:=by unfold parts;rw [if_neg h2,if_neg h1]
   rw [hp]
   have n3 : (op == 3) = false:=by simp;omega
   have n4 : (op == 4) = false:=by simp;omega
   have n5 : (op == 5) = false:=by simp;omega
   have n6 : (op == 6) = false:=by simp;omega
   have n7 : (op == 7) = false:=by simp;omega
   clear h1 h2 hp
   go_enter Tryz.func54,Tryz.ntmps54
   go_wp2
   go_ret
   exact ⟨rfl,rfl⟩
def REndIs (r : Int) (w : World) (e : Ending) (w' : World) : Prop:=e = .returned (.int .i64 r) ∧ w = w'
theorem REnd_all (l : List Nd) (hg : ∀ n ∈ l,good n) (hlen : l.length ≤ 60) (A : Option Addr) (cap : Nat) : ∀ (m i : Nat) (w : World),l.length ≤ i + m → i ≤ l.length → RdN w (.slice A l.length cap) l →
 Calls Tryz.prog 31 #[.slice A l.length cap,.int .i64 (i : Int)] w (REndIs (eo l i) w):=by
 have HGD:=hid hg
 clear hg
 intro m
 induction m with
 | zero =>
   intro i w hm hi hr
   obtain rfl : i = l.length:=by omega
   have d1 : decide (l.length ≤ l.length) = true:=by simp
   have HE : Hid (eo l l.length = -1):=hid (eo_none (fun ⟨u,hu⟩ => by have:=hu.lt;have:=flat_pos u;omega))
   rw [HE.out]
   clear hr
   go_enter Tryz.func31,Tryz.ntmps31
   go_wp2
   go_ret
   exact ⟨rfl,rfl⟩
 | succ m ih =>
   intro i w hm hi hr
   by_cases hlt : i < l.length
   ·obtain ⟨A',cap',hv,hcap,hcap2,hmem⟩:=hr.open_
    obtain ⟨b,off,hA,hbl,hcell⟩:=hmem (by omega)
    injection hv with e1 _ e2
    subst e2
    rw [hA] at e1
    subst e1
    have hn : l[i]? = some (l[i]'hlt):=List.getElem?_eq_getElem hlt
    generalize l[i]'hlt = n at hn
    obtain ⟨q0,_,_,_,_⟩:=hcell w (fun _ => rfl) i n hn
    have HES:=hid (eo_step hn (HGD.out n (List.mem_of_getElem? hn)))
    have hpl:=parts_le n.op
    have HIH:=hid ih
    have HR:=hid hr
    have d1 : decide (l.length ≤ i) = false:=by simp;omega
    have d2 : decide ((l.length : Int) ≤ (i : Int)) = false:=by simp;omega
    have i1 : (i : Int) < (l.length : Int):=by omega
    obtain ⟨op,c⟩:=n
    dsimp only at q0 HES hpl
    obtain ⟨pn,hpn⟩ : ∃ X,X = parts op:=⟨_,rfl⟩
    have HPN:=hid hpn
    rw [← hpn] at hpl
    obtain ⟨tg,htg⟩ : ∃ X,X = eo l i:=⟨_,rfl⟩
    have HTG : Hid (tg = eoN l pn ((i + 1 : Nat) : Int)):=hid (by rw [htg,hpn];exact HES.out)
    rw [← htg]
    clear ih hr hmem hcell hn hpn htg HES
    go_enter Tryz.func31,Tryz.ntmps31
    go_wp2_with fail
    refine (RParts_any op _).mono ?_
    rintro e w1 ⟨he,rfl⟩
    rw [← HPN.out] at he
    subst he
    go_wp2_with fail
    go_loopw [1,5] (fun v1 v5 wr => ∃ (c : Int) (k : Nat),k ≤ 2 ∧ v1 = .int .i64 c ∧ v5 = .int .i64 (k : Int) ∧ c ≤ l.length ∧ (c = -1 ∨ (i : Int) < c) ∧ Hid (tg = eoN l k c) ∧ wr = w) (fun _ v _ => (intOf v).toNat)
    case atStart => exact ⟨((i : Nat) : Int) + 1,pn,hpl,rfl,rfl,by omega,by omega,HTG,rfl⟩
    case round =>
     obtain ⟨c,k,hk,rfl,rfl,hc1,hc2,HT,rfl⟩:=hrel
     cases k with
     | zero =>
       have HT0 : Hid (tg = c):=HT
       go_wp2_with fail
       go_ret
       exact ⟨by rw [HT0.out];rfl,rfl⟩
     | succ k =>
       by_cases hneg : c < 0
       ·have hn : decide (0 ≤ c) = false:=by simp;omega
        have HT0 : Hid (tg = c):=hid (by rw [HT.out];exact eoN_neg _ _ _ hneg)
        clear hneg
        go_wp2_with fail
        go_ret
        exact ⟨by rw [HT0.out];rfl,rfl⟩
       ·have hn : decide (0 ≤ c) = true:=by simp;omega
        obtain ⟨cn,rfl⟩ : ∃ n : Nat,c = (n : Int):=⟨c.toNat,by omega⟩
        have HT1 : Hid (tg = eoN l k (eo l cn)):=hid (by rw [HT.out];simp only [eoN];rw [if_neg (by omega)];simp)
        have hle:=eo_le l cn
        have hge:=eo_ge l cn
        have HCALL:=hid (HIH.out cn wr (by omega) (by omega) HR.out)
        obtain ⟨nx,hnx⟩ : ∃ X,X = eo l cn:=⟨_,rfl⟩
        rw [← hnx] at hle hge HCALL HT1
        clear hnx hneg
        go_wp2_with fail
        refine HCALL.out.mono ?_
        rintro e w2 ⟨rfl,rfl⟩
        go_wp2_with fail
        go_roundw
        case rel => exact ⟨nx,k,by omega,rfl,by go_num,hle,by omega,HT1,by first | rfl | trivial⟩
        case measure => simp [intOf]
   ·obtain rfl : i = l.length:=by omega
    have d1 : decide (l.length ≤ l.length) = true:=by simp
    have HE : Hid (eo l l.length = -1):=hid (eo_none (fun ⟨u,hu⟩ => by have:=hu.lt;have:=flat_pos u;omega))
    rw [HE.out]
    clear hr ih
    go_enter Tryz.func31,Tryz.ntmps31
    go_wp2
    go_ret
    exact ⟨rfl,rfl⟩
end Go.Proofs.YthcahjnniendnacGreatDoor
