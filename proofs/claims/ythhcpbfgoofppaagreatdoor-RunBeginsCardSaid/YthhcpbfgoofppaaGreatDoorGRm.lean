/-
  RunA, RunN, RunC.
-/
import Derived.Test.YthhcpbfgoofppaaGreatDoorGAuto
import Derived.Test.YthhcpbfgoofppaaGreatDoorGLib
import Derived.Test.YthhcpbfgoofppaaGreatDoorGLit
import Derived.Test.YthhcpbfgoofppaaGreatDoorGPh
import Derived.Test.YthhcpbfgoofppaaGreatDoorGRn
import Derived.Test.YthhcpbfgoofppaaGreatDoorGSetC
import Derived.Test.YthhcpbfgoofppaaGreatDoorGSynA
import Derived.Test.YthhcpbfgoofppaaGreatDoorSwapA
import Derived.Lib.AtoiTie
import Derived.Lib.IndexLaws
set_option linter.unusedVariables false
set_option linter.unusedSimpArgs false
set_option maxRecDepth 100000
set_option maxHeartbeats 4000000
open Go.Lib (hid)
namespace Go.Proofs.YthhcpbfgoofppaaGreatDoor
open Go.RowKit Wf
set_option linter.unusedVariables false
theorem as_nil (t : Addr) (w : World) : Calls Tryz.prog 49 #[.nilIface,.iface 102 (.pointer (some t))] w (fun e w' => e = .returned (.bool false) ∧ w' = w):=by
 go_enter Tryz.func49,Tryz.ntmps49
 go_wp2
 go_ret
 exact ⟨rfl,rfl⟩
def ToldTo (r : List UInt8) (w : World) (e : Ending) (w' : World) : Prop:=∃ t : ByteArray,e = .returned (.string t) ∧ t.data.toList = r ∧ Below w.heap.size w w'
theorem toldW_no {s : List UInt8} {p e : Nat} (h0 : e ≠ 0) (h5 : e ≠ 5) : toldW s p e = errT e:=by unfold toldW;rw [if_neg h0,if_neg h5]
theorem told_c (s : ByteArray) (place e : Nat) (he : e ≤ 6) (hp : place ≤ 1000) (w : World) (hg : ErrT w) (ht : Tab10 w) :
 Calls Tryz.prog 23 #[.string s,.int .i64 (place : Int),errV (e : Int)] w (ToldTo (toldW s.data.toList place e) w):=by
 unfold ToldTo
 by_cases hn : e = 0
 ·subst hn
  rw [show errV ((0 : Nat) : Int) = .nilIface from errV_zero]
  have HB:=hid ((Below.refl w.heap.size w).alloc (Nat.le_refl _) (.cells #[.int .i64 0] 81))
  have HAS:=hid (as_nil ⟨w.heap.size,0,none⟩ (w.alloc (.cells #[.int .i64 0] 81)))
  clear hg ht
  go_enter Tryz.func23,Tryz.ntmps23
  go_wp2_with fail
  refine HAS.out.mono ?_
  rintro f w1 ⟨rfl,rfl⟩
  go_wp2_with fail
  go_ret
  exact ⟨_,rfl,rfl,HB.out⟩
 ·rw [errV_ne (show (e : Int) ≠ 0 by omega)]
  have hal:=hg.below ((Below.refl _ w).alloc (Nat.le_refl _) (.cells #[.int .i64 0] 81))
  have hb:=Blk.new w 81 #[.int .i64 0]
  have HAS:=hid (as_hit (e : Int) ⟨w.heap.size,0,none⟩ (.int .i64 0) (w.alloc (.cells #[.int .i64 0] 81)) hal (hb.cell 0) (hb.frozen 0))
  have HE:=hid (Err_c e he)
  have HD : Hid (∀ W,Below w.heap.size w W → Calls Tryz.prog 20 #[.int .i64 (place : Int)] W (fun e w' => e = .returned (.string ⟨(Lib.decDigits place).toArray⟩) ∧ Below W.heap.size W w')):=hid fun W hW => Itoa_c place hp W (ht.below hW)
  have HN:=hid hn
  have HZD:=hid (decN_len (n:=place) (by omega))
  clear hg hal hb ht he hn
  go_enter Tryz.func23,Tryz.ntmps23
  go_wp2_with fail
  refine HAS.out.mono ?_
  rintro f w1 ⟨rfl,hw1⟩
  have hb1 : Blk w1 w.heap.size 81 #[.int .i64 (e : Int)]:=by
   rw [hw1]
   have:=((((Blk.new w 81 #[.int .i64 0]).alloc (.cells #[.pointer (some ⟨w.heap.size,0,none⟩)] 102)).alloc (.cells #[.pointer (some ⟨7,102,none⟩),.pointer (some ⟨(w.alloc (.cells #[.int .i64 0] 81)).heap.size,0,none⟩),.int .u64 150] 142)).alloc (.cells #[.pointer (some ⟨7,102,none⟩),.pointer (some ⟨(w.alloc (.cells #[.int .i64 0] 81)).heap.size,0,none⟩),.int .u64 150] 142)).alloc (.cells #[.int .i64 (e : Int)] 81)
   exact this.set_ 0 (.int .i64 (e : Int))
  have hbw : Below w.heap.size w w1:=by
   rw [hw1]
   exact below_setAs ((((((Below.refl _ w).alloc (Nat.le_refl _) _).alloc (by simp) _).alloc (by simp;omega) _).alloc (by simp;omega) _).alloc (by simp;omega) _) (Nat.le_refl _)
  have c1 : w1.cell? ⟨w.heap.size,0,none⟩ = some (.int .i64 (e : Int)):=hb1.cell 0
  have HB:=hid hbw
  clear hw1 hb1 hbw
  by_cases h5 : e = 5
  ·subst h5
   go_wp2_with fail
   refine (HE.out w1).mono ?_
   rintro f w2 ⟨t,rfl,hte,htz,rfl⟩
   have HT:=hid hte
   clear hte
   go_wp2_with fail
   refine (HD.out _ HB.out).mono ?_
   rintro f w3 ⟨rfl,hb3⟩
   obtain ⟨D,hD⟩ : ∃ D,D = Lib.decDigits place:=⟨_,rfl⟩
   have hDZ:=HZD.out
   rw [← hD] at hDZ
   have hDs : (⟨D.toArray⟩ : ByteArray).size = D.length:=by simp [ByteArray.size]
   have hDs2 : (⟨D.toArray⟩ : ByteArray).size ≤ 5:=by omega
   have HB3:=hid (HB.out.trans (hb3.mono HB.out.size))
   have HDD:=hid hD
   rw [← hD]
   clear hb3 hDs hD
   go_wp2_with fail
   go_ret
   refine ⟨_,rfl,?_,HB3.out⟩
   rw [data_app,data_app,HT.out,HDD.out]
   rfl
  ·have d2 : ((e : Int) == 5) = false:=by rw [beq_eq_false_iff_ne];omega
   go_wp2_with fail
   refine (HE.out w1).mono ?_
   rintro f w2 ⟨t,rfl,hte,htz,rfl⟩
   have HT:=hid hte
   clear hte
   go_wp2_with fail
   go_ret
   refine ⟨_,rfl,?_,HB.out⟩
   rw [HT.out]
   exact (toldW_no HN.out h5).symm
def CloneNIs (l : List Nd) (w : World) (e : Ending) (w' : World) : Prop :=
 ∃ (A : Option Addr) (cap : Nat),e = .returned (.slice A l.length cap) ∧ w'.ownsRow w.heap.size 114 5 (.slice A l.length cap) l.length (l.flatMap ndCells) ∧ Below w.heap.size w w'
theorem CloneN_c (p : List Nd) (hp : 0 < p.length) (hp2 : p.length ≤ 60) (pv : Value) (w : World) (hr : RdN w pv p) :
 Calls Tryz.prog 56 #[pv] w (CloneNIs p w):=by
 obtain ⟨i0,hi0,hz0,hz1,hz2⟩:=info_parts info_node
 have hsrc:=Rd.src hr (by omega)
 obtain ⟨A,n,cap,rfl,hn,hsrc⟩:=hsrc
 rw [flatMap_len] at hn
 obtain rfl : n = p.length:=by omega
 obtain ⟨ad,rfl,had,hc⟩:=hsrc hp
 have HC : Hid (∀ j u,(p.flatMap ndCells)[j]? = some u → (w.alloc (.cells #[] 114)).cell? (ad.add j) = some u):=hid (fun j u hu => by
  have h1:=hc j u hu
  rwa [World.cell?_of_block (Below.heap_alloc w _ _ (by rw [block_add];exact had))])
 have hnil : ∀ W,(binOp .eql 73 (.slice (some ad) p.length cap) (.slice none 0 0)).run Tryz.prog W = .ok (.bool false) W:=fun W => Lib.run_eql_slice_nil W _ _ _ _ _ _ _ Tryz.underlying73
 have HO:=hid (own_empty w 114 5)
 have HL:=hid (flatMap_len p)
 clear hr hc hsrc
 go_enter Tryz.func56,Tryz.ntmps56
 go_wp2_with (at_builtin;refine wpList_append_own _ rfl (.tmp 5) (.tmp 6) _ rfl w.heap.size 114 i0 _ 5 40 Tryz.underlying73 hi0 hz0 hz1 hz2 rfl (by omega) _ 0 [] rfl HO.out ad p.length cap (p.flatMap ndCells) rfl HL.out HC.out (ndCells_one p) (by unfold maxLen;omega) (by omega) (by simp) ?_;intro v' w' hown' hg' _)
 have hrd:=hown'
 simp only [Nat.zero_add,List.nil_append] at hrd
 have hbel : Below w.heap.size w w':=below_own ((Below.refl _ _).alloc (Nat.le_refl _) _) (Nat.le_refl _) (by simp) HO.out hg'
 obtain ⟨VA,vn,vcap,rfl,_,_,hvl,_⟩:=Rd.of_own hrd
 rw [flatMap_len] at hvl
 obtain rfl : vn = p.length:=by omega
 have HRD:=hid hrd
 have HBEL:=hid hbel
 clear hrd hbel hown' hg' hvl
 go_wp2_with fail
 go_ret
 exact ⟨VA,vcap,rfl,HRD.out,HBEL.out⟩
theorem repl_long (l : List Nd) (tx bx : ByteArray) (hx : tx.size ≤ 9223372036854775807) (hx4 : 400 < tx.size) (hc : chk l = 0) (v : Value) (w : World) (hr : RdN w v l) :
 Calls Tryz.prog 30 #[v,.string tx,.string bx] w (ReplNo 3 w):=by
 have hch : chkF l tx.size = 3:=by unfold chkF;rw [if_neg (by rw [hc];simp),if_pos hx4]
 have HSP:=hid (split_no l tx hx v w hr (by rw [hch];decide))
 rw [hch] at HSP
 have hev : errV 3 = .iface 81 (.int .i64 3):=errV_ne (by decide)
 unfold ReplNo
 unfold SplitNo at HSP
 rw [hev] at HSP ⊢
 clear hr hch hc hev
 go_enter Tryz.func30,Tryz.ntmps30
 go_wp2_with fail
 refine HSP.out.mono ?_
 rintro e w1 ⟨rfl,hb1⟩
 have HB:=hid hb1
 clear hb1
 go_wp2_with fail
 go_ret2
 exact ⟨rfl,HB.out⟩
end Go.Proofs.YthhcpbfgoofppaaGreatDoor
namespace Go.Proofs.YthhcpbfgoofppaaGreatDoor.setW
open Go.RowKit Wf
def PatIs (m : SS) (x : Int) (w : World) (e : Ending) (w' : World) : Prop:=Below w.heap.size w w' ∧
 ((m.place x = none ∧ e = .returned (.tuple #[.slice none 0 0,.iface 81 (.int .i64 4)])) ∨
  (∃ (k : Nat) (q : Mb) (A : Option Addr) (cap : Nat),m.place x = some k ∧ m.ms[k]? = some q ∧ e = .returned (.tuple #[.slice A (flat q.t).length cap,.nilIface]) ∧ RdN w' (.slice A (flat q.t).length cap) (flat q.t)))
theorem Pattern_set (B b : Nat) (m : SS) (ml : List Mr) (A : Value) (x : Int) (w : World) (h : SetAt B b m ml A w) :
 Calls Tryz.prog 29 #[.pointer (some ⟨b,0,none⟩),.int .i64 x] w (PatIs m x w):=by
 have HAT:=hid (at_c B b m ml A x w h)
 unfold PatIs
 cases hp : m.place x with
 | none =>
   rw [hp] at HAT
   clear h hp
   go_enter Tryz.func29,Tryz.ntmps29
   go_wp2_with fail
   refine HAT.out.mono ?_
   rintro e w1 ⟨rfl,hb⟩
   have HB:=hid hb
   clear hb
   simp only [numP]
   go_wp2_with fail
   go_ret2
   exact ⟨HB.out,.inl ⟨by first | rfl | trivial,rfl⟩⟩
 | some k =>
   rw [hp] at HAT
   have hk:=place_lt hp
   have hms:=h.ms
   have hlen : m.ms.length = ml.length:=by rw [hms,List.length_map]
   obtain ⟨q,hq⟩ : ∃ q,ml[k]? = some q:=⟨_,List.getElem?_eq_getElem (by omega)⟩
   have hmq : m.ms[k]? = some q.1:=by rw [hms,List.getElem?_map,hq];rfl
   have hk12:=h.len
   have hok:=h.ok.read q.1 (List.mem_of_getElem? hmq)
   have hfl:=(parseE_some hok).2.2.1
   have hT:=(h.mem q (List.mem_of_getElem? hq)).1
   have HCL : Hid (∀ W,Below w.heap.size w W → Calls Tryz.prog 56 #[rvOf q] W (CloneNIs (flat q.1.t) W)):=hid fun W hW => CloneN_c _ (flat_pos _) hfl _ W (Rd.of_own (hT.below hW))
   have hc0 : Hid (∀ W,Below w.heap.size w W → W.cell? ⟨b,0,none⟩ = some A):=hid fun W hW => (h.below hW).blk.cell 0
   obtain ⟨Ao,cap,hA,hc1,hc2,hmem⟩:=h.open_
   obtain ⟨g,rfl,hg,hcell⟩:=hmem (by omega)
   have HM : Hid (∀ W,Below w.heap.size w W → W.cell? ⟨g,k * 4 + 2,none⟩ = some (rvOf q)):=hid fun W hW => (hcell W (fun o => hW.cell (p:=⟨g,o,none⟩) hg) k q hq).2.2.1
   subst hA
   unfold rvOf at HCL HM
   unfold CloneNIs at HCL
   have HMQ:=hid hmq
   have hkl : k < ml.length:=by omega
   clear h hms hlen hmq hok hfl hT hmem hcell hq hp hk
   go_enter Tryz.func29,Tryz.ntmps29
   go_wp2_with fail
   refine HAT.out.mono ?_
   rintro e w1 ⟨rfl,hb⟩
   have c0:=hc0.out w1 hb
   have c2:=HM.out w1 hb
   have HB:=hid hb
   clear hb
   simp only [numP]
   obtain ⟨F,hF⟩ : ∃ F,F = flat q.1.t:=⟨_,rfl⟩
   rw [← hF] at HCL c2
   have HF:=hid hF
   clear hF
   go_wp2_with fail
   refine (HCL.out _ HB.out).mono ?_
   rintro e w2 ⟨VA,vcap,rfl,hown,hb2⟩
   have HB2:=hid (HB.out.trans (hb2.mono HB.out.size))
   have HO:=hid (Rd.of_own hown)
   clear hown hb2
   go_wp2_with fail
   go_ret2
   exact ⟨HB2.out,.inr ⟨k,q.1,VA,vcap,by first | rfl | trivial,HMQ.out,by rw [← HF.out];rfl,by rw [← HF.out];exact HO.out⟩⟩
end Go.Proofs.YthhcpbfgoofppaaGreatDoor.setW
namespace Wf
theorem digN_dec (l : List UInt8) : ∀ n,digN l n = Go.Lib.decFrom n l:=by
 induction l with
 | nil => intro n;rfl
 | cons c l ih =>
   intro n
   have hlt:=c.toNat_lt
   by_cases hc : c < 48 ∨ 57 < c
   ·have h2 : Go.Lib.digitVal c = none:=by
     unfold Go.Lib.digitVal
     rw [if_neg]
     rw [UInt8.lt_iff_toNat_lt,UInt8.lt_iff_toNat_lt] at hc
     have e1 : (48 : UInt8).toNat = 48:=rfl
     have e2 : (57 : UInt8).toNat = 57:=rfl
     omega
    unfold digN Go.Lib.decFrom
    rw [if_pos hc,h2]
   ·have h2 : Go.Lib.digitVal c = some (c.toNat - 48):=by
     unfold Go.Lib.digitVal
     rw [if_pos]
     rw [UInt8.lt_iff_toNat_lt,UInt8.lt_iff_toNat_lt] at hc
     have e1 : (48 : UInt8).toNat = 48:=rfl
     have e2 : (57 : UInt8).toNat = 57:=rfl
     omega
    unfold digN Go.Lib.decFrom
    rw [if_neg hc,h2,ih]
theorem digN_bound (l : List UInt8) : ∀ k n,digN l k = some n → n < (k + 1) * 10 ^ l.length:=by
 induction l with
 | nil => intro k n h;simp [digN] at h;simp;omega
 | cons c l ih =>
   intro k n h
   unfold digN at h
   split at h
   ·cases h
   ·rename_i hc
    rw [UInt8.lt_iff_toNat_lt,UInt8.lt_iff_toNat_lt] at hc
    have e1 : (48 : UInt8).toNat = 48:=rfl
    have e2 : (57 : UInt8).toNat = 57:=rfl
    have h1:=ih _ n h
    rw [List.length_cons,Nat.pow_succ,Nat.mul_comm (10 ^ l.length) 10,← Nat.mul_assoc]
    exact Nat.lt_of_lt_of_le h1 (Nat.mul_le_mul_right _ (by omega))
theorem dec_snoc {k d : Nat} (hk : 0 < k) (hd : d < 10) : Go.Lib.decDigits (k * 10 + d) = Go.Lib.decDigits k ++ [UInt8.ofNat (48 + d)]:=by
 conv => lhs;rw [Go.Lib.decDigits]
 rw [dif_neg (by omega),show (k * 10 + d) / 10 = k by omega,show (k * 10 + d) % 10 = d by omega]
theorem digN_back (l : List UInt8) : ∀ k n,0 < k → digN l k = some n → Go.Lib.decDigits n = Go.Lib.decDigits k ++ l:=by
 induction l with
 | nil => intro k n _ h;simp [digN] at h;simp [h]
 | cons c l ih =>
   intro k n hk h
   unfold digN at h
   split at h
   ·cases h
   ·rename_i hc
    rw [UInt8.lt_iff_toNat_lt,UInt8.lt_iff_toNat_lt] at hc
    have e1 : (48 : UInt8).toNat = 48:=rfl
    have e2 : (57 : UInt8).toNat = 57:=rfl
    have h1:=ih _ n (by omega) h
    rw [h1,dec_snoc hk (by omega),show UInt8.ofNat (48 + (c.toNat - 48)) = c by
     rw [show 48 + (c.toNat - 48) = c.toNat by omega];simp]
    simp
theorem num_ok {l : List UInt8} {n : Nat} (h : numS l = some n) : Go.Lib.atoiAll l = .ok (n : Int) ∧ l.length ≤ 4 ∧ Go.Lib.itoa (n : Int) = l ∧ n < 10000:=by
 unfold numS at h
 split at h
 ·cases h
 ·rename_i hc
  have hl4 : l.length ≤ 4:=by omega
  have hn : n < 10000:=by
   have h1:=digN_bound l 0 n h
   have h2 : 10 ^ l.length ≤ 10 ^ 4:=Nat.pow_le_pow_right (by omega) hl4
   omega
  rw [Go.Lib.itoa_nonneg]
  cases l with
  | nil => simp at hc
  | cons c r =>
    have h0:=h
    unfold digN at h
    split at h
    ·cases h
    ·rename_i hd
     rw [UInt8.lt_iff_toNat_lt,UInt8.lt_iff_toNat_lt] at hd
     have e1 : (48 : UInt8).toNat = 48:=rfl
     have e2 : (57 : UInt8).toNat = 57:=rfl
     refine ⟨?_,hl4,?_,hn⟩
     ·rw [Go.Lib.atoiAll_short _ (by omega)]
      have g1 : (c == 45) = false:=by rw [beq_eq_false_iff_ne];rintro rfl;exact hd (.inl (by decide))
      have g2 : (c == 43) = false:=by rw [beq_eq_false_iff_ne];rintro rfl;exact hd (.inl (by decide))
      unfold Go.Lib.atoi
      simp only [g1,g2,Bool.false_eq_true,if_false]
      unfold Go.Lib.decNat
      rw [if_neg (by simp),← digN_dec,h0]
      rfl
     ·by_cases h48 : c.toNat = 48
      ·have hc48 : c = 48:=UInt8.toNat_inj.1 (by rw [h48];rfl)
       subst hc48
       cases r with
       | nil => simp [digN] at h;subst h;decide +kernel
       | cons d r => simp at hc
      ·rw [digN_back r _ n (by omega) h]
       rw [Go.Lib.decDigits,dif_pos (by omega),show UInt8.ofNat (48 + (0 * 10 + (c.toNat - 48))) = c by
        rw [show 48 + (0 * 10 + (c.toNat - 48)) = c.toNat by omega];simp]
       rfl
theorem digN_app (a b : List UInt8) : ∀ n,digN (a ++ b) n = (digN a n).bind (digN b):=by
 induction a with
 | nil => intro n;rfl
 | cons c a ih =>
   intro n
   rw [List.cons_append]
   unfold digN
   split
   ·rfl
   ·exact ih _
theorem dig_one {d k : Nat} (hd : d < 10) : digN [UInt8.ofNat (48 + d)] k = some (k * 10 + d):=by
 have e : (UInt8.ofNat (48 + d)).toNat = 48 + d:=by rw [UInt8.toNat_ofNat'];omega
 unfold digN digN
 rw [if_neg,e]
 ·congr 1;omega
 ·rw [UInt8.lt_iff_toNat_lt,UInt8.lt_iff_toNat_lt,e]
  show ¬ (48 + d < 48 ∨ 57 < 48 + d)
  omega
theorem digN_of : ∀ u,digN (Go.Lib.decDigits u) 0 = some u:=by
 intro u
 induction u using Nat.strongRecOn with
 | _ u ih =>
   rw [Go.Lib.decDigits]
   split
   ·rename_i h;rw [dig_one h];simp
   ·rename_i h
    rw [digN_app,ih (u / 10) (by omega)]
    show digN _ (u / 10) = _
    rw [dig_one (by omega)]
    congr 1
    omega
theorem dec_head : ∀ u,0 < u → ∃ c,(Go.Lib.decDigits u)[0]? = some c ∧ c ≠ 48:=by
 intro u
 induction u using Nat.strongRecOn with
 | _ u ih =>
   intro h0
   rw [Go.Lib.decDigits]
   split
   ·rename_i h
    refine ⟨_,rfl,fun e => ?_⟩
    have e2:=congrArg UInt8.toNat e
    rw [UInt8.toNat_ofNat'] at e2
    have e1 : (48 : UInt8).toNat = 48:=rfl
    omega
   ·rename_i h
    obtain ⟨c,hc,hn⟩:=ih (u / 10) (by omega) (by omega)
    obtain ⟨hlt,_⟩:=List.getElem?_eq_some_iff.1 hc
    exact ⟨c,by rw [List.getElem?_append_left hlt];exact hc,hn⟩
theorem num_back {l : List UInt8} {v : Int} (h0 : 0 ≤ v) (h4 : l.length ≤ 4) (hi : Go.Lib.itoa v = l) : numS l = some v.toNat:=by
 obtain ⟨u,rfl⟩:=Int.eq_ofNat_of_zero_le h0
 rw [Go.Lib.itoa_nonneg] at hi
 subst hi
 unfold numS
 rw [if_neg,digN_of]
 ·rfl
 ·rintro (h | h | ⟨h1,h2⟩)
  ·by_cases hu : 0 < u
   ·obtain ⟨c,hc,_⟩:=dec_head u hu
    obtain ⟨hlt,_⟩:=List.getElem?_eq_some_iff.1 hc
    omega
   ·have : u = 0:=by omega
    subst this
    revert h
    decide +kernel
  ·omega
  ·by_cases hu : 0 < u
   ·obtain ⟨c,hc,hn⟩:=dec_head u hu
    rw [h2] at hc
    injection hc with hc
    exact hn hc.symm
   ·have : u = 0:=by omega
    subst this
    revert h1
    decide +kernel
end Wf
namespace Go.Proofs.YthhcpbfgoofppaaGreatDoor
open Go.RowKit Wf
def RngE (rv : Value) (w : World) : Prop:=w.cell? ⟨4,0,none⟩ = some rv ∧ (rv = .nilIface ∨ ∃ te pe,rv = .iface te pe)
theorem RngE.below {rv : Value} {w w' : World} (h : RngE rv w) (hb : Below w.heap.size w w') : RngE rv w':=⟨(hb.cell (p:=⟨4,0,none⟩) (World.block_lt_of_cell? w _ h.1)).trans h.1,h.2⟩
def AtoiNo (w : World) (e : Ending) (w' : World) : Prop:=∃ (v : Int) (N : Nat),e = .returned (.tuple #[.int .i64 v,.iface 213 (.pointer (some ⟨N,0,none⟩))]) ∧ Below w.heap.size w w'
theorem Atoi_no (s : ByteArray) (hs : s.size ≤ 3000) (h : ∀ v,Lib.atoiAll s.data.toList ≠ .ok v) (w : World) {ev rv : Value} (hev : SynE ev w) (hrv : RngE rv w) :
 Calls Tryz.prog 53 #[.string s] w (AtoiNo w):=by
 rcases hc : Lib.atoiAll s.data.toList with v | _ | _
 ·exact absurd hc (h v)
 ·refine (Any.strconv_Atoi_syntax layAtoi s (by omega) hc ev w hev.1 hev.2).mono ?_
  rintro e w' ⟨N,rfl,_,_,hb⟩
  exact ⟨_,N,rfl,hb⟩
 ·refine (Any.strconv_Atoi_range layAtoi s (by omega) hc rv w hrv.1 hrv.2).mono ?_
  rintro e w' ⟨N,rfl,_,_,hb⟩
  exact ⟨_,N,rfl,hb⟩
theorem Atoi_yes (s : ByteArray) (hs : s.size ≤ 3000) (v : Int) (h : Lib.atoiAll s.data.toList = .ok v) (w : World) :
 Calls Tryz.prog 53 #[.string s] w (fun e w' => e = .returned (.tuple #[.int .i64 v,.nilIface]) ∧ Below w.heap.size w w'):=by
 refine (Any.strconv_Atoi_ok layAtoi s (by omega) v h w).mono ?_
 rintro e w' ⟨rfl,rfl | ⟨t,rfl⟩⟩
 ·exact ⟨rfl,Below.refl _ _⟩
 ·exact ⟨rfl,Lib.bytesWorld_below _ _ _⟩
theorem Itoa_z (n : Int) (h0 : -9223372036854775808 ≤ n) (h1 : n ≤ 9223372036854775807) (w : World) (ht : Tab10 w) :
 Calls Tryz.prog 20 #[.int .i64 n] w (fun e w' => e = .returned (.string ⟨(Lib.itoa n).toArray⟩) ∧ Below w.heap.size w w'):=by
 refine (Any.strconv_Itoa layItoa n h0 h1 w ht).mono ?_
 rintro e w' ⟨rfl,k,os,rfl⟩
 exact ⟨rfl,below_grow w k os⟩
def unreadV : Value:=.iface 49 (.agg #[])
theorem number_some (s : ByteArray) (hs : s.size ≤ 3000) (n : Nat) (h : numS s.data.toList = some n) (w : World) (ht : Tab10 w) :
 Calls Tryz.prog 25 #[.string s] w (fun e w' => e = .returned (.int .i64 (n : Int)) ∧ Below w.heap.size w w'):=by
 obtain ⟨h1,h2,h3,h4⟩:=num_ok h
 have hZ : s.data.toList.length = s.size:=by simp
 have HA:=hid (Atoi_yes s hs (n : Int) h1 w)
 have hsame : (⟨(Lib.itoa (n : Int)).toArray⟩ : ByteArray) = s:=by rw [h3]
 have HI : Hid (∀ W,Below w.heap.size w W → Calls Tryz.prog 20 #[.int .i64 (n : Int)] W (fun e w' => e = .returned (.string s) ∧ Below W.heap.size W w')):=hid fun W hW => (Itoa_z (n : Int) (by omega) (by omega) W (ht.below hW)).mono fun e w' ⟨a,b⟩ => ⟨by rw [a,hsame],b⟩
 have d1 : decide ((n : Int) < 0) = false:=decide_eq_false (by omega)
 have d2 : decide ((4 : Int) < (s.size : Int)) = false:=decide_eq_false (by omega)
 clear h h1 h2 h3 hZ ht hsame
 go_enter Tryz.func25,Tryz.ntmps25
 go_wp2_with fail
 refine HA.out.mono ?_
 rintro e w1 ⟨rfl,hb⟩
 have HB:=hid hb
 clear hb
 go_wp2_with fail
 refine (HI.out _ HB.out).mono ?_
 rintro e w2 ⟨rfl,hb⟩
 have HB2:=hid (HB.out.trans (hb.mono HB.out.size))
 clear hb
 go_wp2_with fail
 go_ret
 exact ⟨rfl,HB2.out⟩
theorem number_none (s : ByteArray) (hs : s.size ≤ 3000) (h : numS s.data.toList = none) (w : World) (ht : Tab10 w) {ev rv : Value} (hev : SynE ev w) (hrv : RngE rv w) :
 Calls Tryz.prog 25 #[.string s] w (fun e w' => e = .panicked [{ v:=unreadV,recovered:=false }] ∧ Below w.heap.size w w'):=by
 have hZ : s.data.toList.length = s.size:=by simp
 unfold unreadV
 by_cases hok : ∃ v,Lib.atoiAll s.data.toList = .ok v
 ·obtain ⟨v,hv⟩:=hok
  obtain ⟨hv1,hv2⟩:=Lib.atoiAll_bounds hv
  have HA:=hid (Atoi_yes s hs v hv w)
  have HI : Hid (∀ W,Below w.heap.size w W → Calls Tryz.prog 20 #[.int .i64 v] W (fun e w' => e = .returned (.string ⟨(Lib.itoa v).toArray⟩) ∧ Below W.heap.size W w')):=hid fun W hW => Itoa_z v hv1 hv2 W (ht.below hW)
  by_cases hn : v < 0
  ·have d1 : decide (v < 0) = true:=decide_eq_true hn
   clear h hv hZ ht hev hrv hn
   go_enter Tryz.func25,Tryz.ntmps25
   go_wp2_with fail
   refine HA.out.mono ?_
   rintro e w1 ⟨rfl,hb⟩
   have HB:=hid hb
   clear hb
   go_wp2_with fail
   exact ⟨rfl,rfl,HB.out⟩
  ·have d1 : decide (v < 0) = false:=decide_eq_false hn
   by_cases h4 : 4 < s.size
   ·have d2 : decide ((4 : Int) < (s.size : Int)) = true:=decide_eq_true (by omega)
    clear h hv hZ ht hev hrv hn h4
    go_enter Tryz.func25,Tryz.ntmps25
    go_wp2_with fail
    refine HA.out.mono ?_
    rintro e w1 ⟨rfl,hb⟩
    have HB:=hid hb
    clear hb
    go_wp2_with fail
    exact ⟨rfl,rfl,HB.out⟩
   ·have d2 : decide ((4 : Int) < (s.size : Int)) = false:=decide_eq_false (by omega)
    have hne : Lib.itoa v ≠ s.data.toList:=fun e => by
     have:=num_back (by omega) (by omega) e
     rw [h] at this
     cases this
    obtain ⟨X,hX⟩ : ∃ X : ByteArray,X = ⟨(Lib.itoa v).toArray⟩:=⟨_,rfl⟩
    rw [← hX] at HI
    have hxs : X ≠ s:=fun e => hne (by rw [← e,hX])
    have d4 : decide (X = s) = false:=decide_eq_false hxs
    have d5 : (X.toList == s.toList) = false:=by
     rw [beq_eq_false_iff_ne]
     intro e
     exact hxs (ByteArray.ext (Array.toList_inj.1 (by rw [← Lib.toList_data,← Lib.toList_data];exact e)))
    clear h hv hZ ht hev hrv hn h4 hne hX
    go_enter Tryz.func25,Tryz.ntmps25
    go_wp2_with fail
    refine HA.out.mono ?_
    rintro e w1 ⟨rfl,hb⟩
    have HB:=hid hb
    clear hb
    go_wp2_with fail
    refine (HI.out _ HB.out).mono ?_
    rintro e w2 ⟨rfl,hb⟩
    have HB2:=hid (HB.out.trans (hb.mono HB.out.size))
    clear hb
    go_wp2_with fail
    exact ⟨rfl,rfl,HB2.out⟩
 ·have HA:=hid (Atoi_no s hs (fun v hv => hok ⟨v,hv⟩) w hev hrv)
  unfold AtoiNo at HA
  clear h hZ ht hev hrv hok
  go_enter Tryz.func25,Tryz.ntmps25
  go_wp2_with fail
  refine HA.out.mono ?_
  rintro e w1 ⟨v,N,rfl,hb⟩
  have HB:=hid hb
  clear hb
  go_wp2_with fail
  exact ⟨rfl,rfl,HB.out⟩
end Go.Proofs.YthhcpbfgoofppaaGreatDoor
namespace Wf
theorem cutAt_none {c : UInt8} {l : List UInt8} (h : Go.Lib.indexByte l c = -1) : cutAt c l = none:=by
 unfold cutAt
 have : l.findIdx? (· == c) = none:=by
  rw [List.findIdx?_eq_none_iff]
  intro x hx
  obtain ⟨k,hk,he⟩:=List.getElem_of_mem hx
  have:=Go.Lib.indexByte_none h k
  rw [List.getElem?_eq_getElem hk,he] at this
  rw [beq_eq_false_iff_ne]
  exact fun e => this (congrArg some e)
 rw [this]
theorem cutAt_some {c : UInt8} {l : List UInt8} {o : Nat} (h : Go.Lib.indexByte l c = o) : cutAt c l = some (l.take o,l.drop (o + 1)) ∧ o < l.length:=by
 obtain ⟨h1,h2⟩:=Go.Lib.indexByte_some h
 obtain ⟨hlt,hv⟩:=List.getElem?_eq_some_iff.1 h1
 have : l.findIdx? (· == c) = some o:=by
  rw [List.findIdx?_eq_some_iff_getElem]
  refine ⟨hlt,by simp [hv],fun j hj => ?_⟩
  have h3:=h2 j hj
  rw [List.getElem?_eq_getElem (by omega)] at h3
  intro e
  exact h3 (congrArg some (beq_iff_eq.1 e))
 unfold cutAt
 rw [this]
 exact ⟨rfl,hlt⟩
theorem cut_parts {c : UInt8} {s a b : List UInt8} (h : cutAt c s = some (a,b)) : s = a ++ c :: b ∧ ∀ d ∈ a,d ≠ c:=by
 unfold cutAt at h
 split at h
 ·cases h
 ·rename_i k hk
  obtain ⟨hlt,hv,hn⟩:=List.findIdx?_eq_some_iff_getElem.1 hk
  injection h with h
  injection h with h1 h2
  subst h1
  subst h2
  have hv : s[k] = c:=beq_iff_eq.1 hv
  refine ⟨?_,?_⟩
  ·conv => lhs;rw [← List.take_append_drop k s]
   rw [List.drop_eq_getElem_cons hlt,hv]
  ·intro d hd e
   obtain ⟨j,hj,he⟩:=List.getElem_of_mem hd
   rw [List.length_take] at hj
   rw [List.getElem_take] at he
   apply hn j (by omega)
   rw [he,e]
   exact beq_self_eq_true c
theorem cut_no {c : UInt8} {s : List UInt8} (h : cutAt c s = none) : ∀ d ∈ s,d ≠ c:=by
 unfold cutAt at h
 split at h
 ·rename_i hk
  rw [List.findIdx?_eq_none_iff] at hk
  intro d hd e
  have:=hk d hd
  rw [e,beq_self_eq_true] at this
  cases this
 ·cases h
theorem lines_of_cut {s a b : List UInt8} (h : cutAt 10 s = some (a,b)) : linesOf s = a :: linesOf b:=by
 obtain ⟨rfl,hn⟩:=cut_parts h
 exact lines_cut b hn
theorem lines_of_none {s : List UInt8} (h : cutAt 10 s = none) (h0 : s ≠ []) : linesOf s = [s]:=lines_one (cut_no h) h0
end Wf
namespace Go.Proofs.YthhcpbfgoofppaaGreatDoor
open Go.RowKit Wf
def CutIs (c : UInt8) (s : ByteArray) (w : World) (e : Ending) (w' : World) : Prop:=Below w.heap.size w w' ∧
 ((cutAt c s.data.toList = none ∧ e = .returned (.tuple #[.string s,.string ⟨#[]⟩,.bool false])) ∨
  (∃ a b : ByteArray,cutAt c s.data.toList = some (a.data.toList,b.data.toList) ∧ a.size + b.size < s.size ∧ e = .returned (.tuple #[.string a,.string b,.bool true])))
theorem LCut_c (s : ByteArray) (c : UInt8) (hs : s.size ≤ 100000) (w : World) : Calls Tryz.prog 13 #[.string s,.string ⟨#[c]⟩] w (CutIs c s w):=by
 have HI:=hid (Index1_c s c w)
 unfold CutIs
 have hge:=Go.Lib.indexByte_ge s.data.toList c
 have hZ : s.data.toList.length = s.size:=by simp
 by_cases hm : Go.Lib.indexByte s.data.toList c = -1
 ·have HC:=hid (cutAt_none hm)
  rw [hm] at HI
  clear hge hm hZ
  go_enter Tryz.func13,Tryz.ntmps13
  go_wp2_with fail
  refine HI.out.mono ?_
  rintro e w1 ⟨rfl,rfl⟩
  go_wp2_with fail
  go_ret3
  exact ⟨Below.refl _ _,.inl ⟨HC.out,rfl⟩⟩
 ·obtain ⟨i,hi⟩ : ∃ i : Nat,Go.Lib.indexByte s.data.toList c = i:=⟨(Go.Lib.indexByte s.data.toList c).toNat,by omega⟩
  obtain ⟨hc,hlt⟩:=cutAt_some hi
  rw [hi] at HI
  have hlt2 : i < s.size:=by omega
  have hA : (s.extract 0 i).data.toList = s.data.toList.take i:=by rw [ext_list];simp
  have hB : (s.extract (i + 1) s.size).data.toList = s.data.toList.drop (i + 1):=by rw [ext_list,List.take_of_length_le (by omega)]
  have hz : (s.extract 0 i).size + (s.extract (i + 1) s.size).size < s.size:=by rw [ByteArray.size_extract,ByteArray.size_extract];omega
  have HC : Hid (cutAt c s.data.toList = some ((s.extract 0 i).data.toList,(s.extract (i + 1) s.size).data.toList)):=hid (by rw [hA,hB];exact hc)
  have HZ:=hid hz
  have c1 : (0 : Int) ≤ (i : Int):=by omega
  have c2 : (i : Int) ≤ (s.size : Int):=by omega
  have c3 : (0 : Int) ≤ (i : Int) + 1:=by omega
  have c4 : (i : Int) + 1 ≤ (s.size : Int):=by omega
  have c5 : IntKind.i64.wrap ((i : Int) + 1) = (i : Int) + 1:=by rw [IntKind.wrap_i64];omega
  clear hge hm hZ hi hc hlt hA hB hz
  go_enter Tryz.func13,Tryz.ntmps13
  go_wp2_with fail
  refine HI.out.mono ?_
  rintro e w1 ⟨rfl,rfl⟩
  go_wp2_with fail
  go_region
  go_wp2
  go_ret3
  exact ⟨below_drewN (Below.refl _ _) 1,.inr ⟨_,_,HC.out,HZ.out,rfl⟩⟩
theorem Cut_c (s : ByteArray) (c : UInt8) (hs : s.size ≤ 100000) (w : World) : Calls Tryz.prog 8 #[.string s,.string ⟨#[c]⟩] w (CutIs c s w):=by
 have HI:=hid (LCut_c s c hs w)
 unfold CutIs at HI ⊢
 go_enter Tryz.func8,Tryz.ntmps8
 go_wp2_with fail
 refine HI.out.mono ?_
 rintro e w1 ⟨hb,⟨hc,rfl⟩ | ⟨a,b,hc,hz,rfl⟩⟩
 ·have HB:=hid hb
  have HC:=hid hc
  clear hb hc
  go_wp2_with fail
  go_ret3
  exact ⟨HB.out,.inl ⟨HC.out,rfl⟩⟩
 ·have HB:=hid hb
  have HC:=hid hc
  have HZ:=hid hz
  clear hb hc hz
  go_wp2_with fail
  go_ret3
  exact ⟨HB.out,.inr ⟨a,b,HC.out,HZ.out,rfl⟩⟩
end Go.Proofs.YthhcpbfgoofppaaGreatDoor
