/-
  Walks of package swap: Split, Replace.
-/
import Derived.Test.YthhcpbfgoofppaaGreatDoorGFind
import Derived.Test.YthhcpbfgoofppaaGreatDoorGLib
import Derived.Test.YthhcpbfgoofppaaGreatDoorGPh
import Derived.Test.YthhcpbfgoofppaaGreatDoorStrs
set_option linter.unusedVariables false
set_option linter.unusedSimpArgs false
set_option maxRecDepth 100000
set_option maxHeartbeats 8000000
open Go.Lib (hid)
namespace Go.Proofs.YthhcpbfgoofppaaGreatDoor
open Go.RowKit Wf
def SplitIs (xs : List ByteArray) (w : World) (e : Ending) (w' : World) : Prop :=
 ∃ (g cap : Nat),e = .returned (.tuple #[.slice (some ⟨g,0,none⟩) xs.length cap,.nilIface]) ∧ w'.ownsRow w.heap.size 9 1 (.slice (some ⟨g,0,none⟩) xs.length cap) xs.length (strVals xs) ∧ Below w.heap.size w w'
def SplitNo (n : Int) (w : World) (e : Ending) (w' : World) : Prop:=e = .returned (.tuple #[.slice none 0 0,errV n]) ∧ Below w.heap.size w w'
theorem split_ok (l : List Nd) (t : Rx) (hl : l = flat t) (ht : l.length ≤ 60) (hok : ∀ n ∈ l,okC n.cls) (tx : ByteArray) (hx : tx.size ≤ 400) (v : Value) (w : World) (hr : RdN w v l) :
 Calls Tryz.prog 57 #[v,.string tx] w (SplitIs (piecesB tx (spansO tx.data.toList t 0)) w):=by
 obtain ⟨i0,hi0,hz0,hz1,hz2⟩:=info_parts info_str
 have HALL:=hid (all_ok l t hl ht hok tx hx v w hr)
 have hSZ : tx.data.toList.length = tx.size:=by simp
 have hri:=allO_rise (long_behind tx.data.toList t) 0
 have hlen:=allO_len (long_behind tx.data.toList t) 0
 rw [hSZ] at hri hlen
 unfold AllIs at HALL
 unfold spansO at HALL ⊢
 rw [hSZ] at HALL ⊢
 generalize allO (longO tx.data.toList t) tx.size 0 = sp at *
 have HRI:=hid hri
 have hsp : sp.length ≤ 401:=by omega
 clear hl ht hok hr hri hSZ hlen
 go_enter Tryz.func57,Tryz.ntmps57
 go_wp2_with fail
 refine HALL.out.mono ?_
 rintro e w1 ⟨A,cap,rfl,hown1,hb1⟩
 have HB1:=hid hb1
 obtain ⟨A',cap',hv,hcf,hcf2,hmf⟩:=span_open (Rd.of_own hown1)
 injection hv with e1 _ e2
 subst e1
 subst e2
 have HMF:=hid hmf
 clear hown1 hb1 hmf HALL
 go_wp2_with fail
 go_loopw [8,9,23] (fun v8 v9 v23 wr => ∃ (k f : Nat),k ≤ sp.length ∧ v23 = .int .i64 (k : Int) ∧ v9 = .int .i64 (f : Int) ∧ f ≤ tx.size ∧ Hid (f = lastB 0 (sp.take k)) ∧ Hid (wr.ownsRow w1.heap.size 9 1 v8 k (strVals (cutB tx 0 (sp.take k)))) ∧ Hid (Below w1.heap.size w1 wr)) (fun _ _ i _ => sp.length - (intOf i).toNat)
 case atStart => exact ⟨0,0,by omega,rfl,rfl,by omega,hid rfl,hid (World.ownsRow_nil _ _ _ _),hid (Below.refl _ _)⟩
 case round =>
  obtain ⟨k,f,hk,rfl,rfl,hf,HF,HO,HB⟩:=hrel
  have hsz:=HB.out.size
  by_cases hlt : k < sp.length
  ·obtain ⟨bs,os,rfl,hbs,hcs⟩:=HMF.out (by omega)
   have hi : sp[k]? = some (sp[k]'hlt):=List.getElem?_eq_getElem hlt
   generalize sp[k]'hlt = q at hi
   obtain ⟨a,b⟩:=q
   obtain ⟨g0,g1⟩:=hcs wr (fun o => HB.out.cell (p:=⟨bs,o,none⟩) hbs) k a b hi
   have hfa : f ≤ a ∧ a ≤ b ∧ b ≤ tx.size:=by
    have h1:=HRI.out
    have h2:=split_at hi
    rw [h2] at h1
    rw [HF.out]
    exact h1.at_
   obtain ⟨hfa1,hab,hbx⟩:=hfa
   have hk1 : (k : Int) < (sp.length : Int):=by omega
   have HT : Hid (sp.take (k + 1) = sp.take k ++ [(a,b)]):=hid (take_snoc hi)
   have HF2 : Hid (b = lastB 0 (sp.take (k + 1))):=hid (by rw [HT.out,lastB_snoc])
   have HX : Hid (strVals (cutB tx 0 (sp.take (k + 1))) = strVals (cutB tx 0 (sp.take k)) ++ [.string (tx.extract f a)]):=hid (by rw [HT.out,cutB_snoc,strVals_snoc,← HF.out])
   have i1 : (f : Int) ≤ (a : Int):=by omega
   have i2 : (a : Int) ≤ (tx.size : Int):=by omega
   clear hi hcs
   generalize strVals (cutB tx 0 (sp.take k)) = xs at HO HX
   go_wp2_with (at_builtin;refine wpList_append_own _ rfl (.tmp 27) (.tmp 33) _ rfl w1.heap.size 9 i0 _ 1 16 Tryz.underlying94 hi0 hz0 hz1 hz2 rfl (by omega) _ k xs rfl ((HO.out.alloc _).alloc _) ⟨wr.heap.size + 1,0,none⟩ 1 1 [.string (tx.extract f a)] rfl rfl (new_one _ _ _ _ (by simp)) (by intro u hu;simp at hu;subst hu;rfl) (by unfold maxLen;omega) (by omega) (by simp;omega) ?_)
   intro v' w' hown' hg' _
   have hu8 : ∀ g,u8.ownBlock = some g → g < wr.heap.size:=fun g hg => (HO.out.lt g hg).2
   have hbk : Blk w' wr.heap.size 68 #[.int .i64 (a : Int),.int .i64 (b : Int)]:=(hg'.block wr.heap.size (by simp;omega) (fun e => by have:=hu8 _ e.symm;omega)).trans ((Blk.new wr _ _).alloc _)
   have hbw : Below w1.heap.size w1 ((wr.alloc (.cells #[.int .i64 (a : Int),.int .i64 (b : Int)] 68)).alloc (.cells #[.string (tx.extract f a)] 9)):=(HB.out.alloc hsz _).alloc (by simp;omega) _
   have HBN:=hid (below_own hbw (Nat.le_refl _) (by simp;omega) ((HO.out.alloc _).alloc _) hg')
   have HON : Hid (w'.ownsRow w1.heap.size 9 1 v' (k + 1) (strVals (cutB tx 0 (sp.take (k + 1))))):=hid (by rw [HX.out];exact hown')
   have b1 : w'.cell? ⟨wr.heap.size,1,none⟩ = some (.int .i64 (b : Int)):=hbk.cell 1
   clear hown' hg' hu8 hbk hbw
   go_wp2_with fail
   go_roundw
   case rel => exact ⟨k + 1,b,by omega,by go_num,rfl,hbx,HF2,HON,HBN⟩
   case measure => simp [intOf];omega
  ·obtain rfl : k = sp.length:=by omega
   have HX : Hid (strVals (piecesB tx sp) = strVals (cutB tx 0 sp) ++ [.string (tx.extract f tx.size)]):=hid (by
    have h1:=HF.out
    rw [List.take_length] at h1
    rw [piecesB,strVals_snoc,← h1])
   have HO2 : Hid (wr.ownsRow w1.heap.size 9 1 u8 sp.length (strVals (cutB tx 0 sp))):=hid (by have:=HO.out;rwa [List.take_length] at this)
   have HPL:=hid (piecesB_len tx sp)
   have i1 : (f : Int) ≤ (tx.size : Int):=by omega
   clear HO HF
   generalize strVals (cutB tx 0 sp) = xs at HO2 HX
   go_wp2_with (at_builtin;refine wpList_append_lies _ rfl (.tmp 38) (.tmp 42) _ rfl w1.heap.size 9 i0 _ 1 16 Tryz.underlying94 hi0 hz0 hz1 hz2 rfl (by omega) _ sp.length xs rfl (HO2.out.alloc _) ⟨wr.heap.size,0,none⟩ 1 1 [.string (tx.extract f tx.size)] rfl rfl (new_one _ _ _ _ rfl) (by intro u hu;simp at hu;subst hu;rfl) (by omega) (by unfold maxLen;omega) (by omega) (by simp;omega) (wr.heap.size + 1) (by simp) ?_)
   intro g cap' w' hown' hg' hat' hlt'
   have hbw : Below w1.heap.size w1 (wr.alloc (.cells #[.string (tx.extract f tx.size)] 9)):=HB.out.alloc hsz _
   have HBN:=hid (HB1.out.trans ((below_own hbw (Nat.le_refl _) (by simp;omega) (HO2.out.alloc _) hg').mono HB1.out.size))
   have HON:=hid (own_base hown' HB1.out.size)
   clear hown' hg' hat' hlt' hbw
   go_wp2_with fail
   go_ret2
   refine ⟨g,cap',by rw [HPL.out];rfl,?_,HBN.out⟩
   rw [HPL.out,HX.out]
   exact HON.out
theorem split_no (l : List Nd) (tx : ByteArray) (hx : tx.size ≤ 9223372036854775807) (v : Value) (w : World) (hr : RdN w v l) (hne : chkF l tx.size ≠ 0) :
 Calls Tryz.prog 57 #[v,.string tx] w (SplitNo (chkF l tx.size) w):=by
 have HALL:=hid (all_no l tx hx v w hr hne)
 have HEV:=hid (errV_ne hne)
 clear hr hne
 go_enter Tryz.func57,Tryz.ntmps57
 go_wp2_with fail
 refine HALL.out.mono ?_
 rintro e w1 ⟨he,hb1⟩
 rw [HEV.out] at he
 subst he
 go_wp2_with fail
 go_ret2
 exact ⟨by rw [HEV.out];rfl,hb1⟩
def swapL (tx bx : ByteArray) (sp : List (Nat × Nat)) : List UInt8:=Go.Lib.join ((piecesB tx sp).map (·.data.toList)) bx.data.toList
def chkSw (l : List Nd) (tx bx : ByteArray) (sp : List (Nat × Nat)) : Int:=if chkF l tx.size ≠ 0 then chkF l tx.size else if 400 < bx.size then 3 else if 400 < (swapL tx bx sp).length then 3 else 0
def ReplIs (r : List UInt8) (w : World) (e : Ending) (w' : World) : Prop:=e = .returned (.tuple #[.string ⟨r.toArray⟩,.nilIface]) ∧ Below w.heap.size w w'
def ReplNo (n : Int) (w : World) (e : Ending) (w' : World) : Prop:=e = .returned (.tuple #[.string ⟨#[]⟩,errV n]) ∧ Below w.heap.size w w'
theorem repl_any (l : List Nd) (t : Rx) (hl : l = flat t) (ht : l.length ≤ 60) (hok : ∀ n ∈ l,okC n.cls) (tx bx : ByteArray) (hx : tx.size ≤ 400) (hbx : bx.size ≤ 9223372036854775807) (v : Value) (w : World) (hr : RdN w v l) :
 Calls Tryz.prog 30 #[v,.string tx,.string bx] w (fun e w' => (chkSw l tx bx (spansO tx.data.toList t 0) = 0 ∧ ReplIs (swapL tx bx (spansO tx.data.toList t 0)) w e w') ∨ (chkSw l tx bx (spansO tx.data.toList t 0) = 3 ∧ ReplNo 3 w e w')):=by
 have HSP:=hid (split_ok l t hl ht hok tx hx v w hr)
 have hlen : (spansO tx.data.toList t 0).length ≤ 401:=by
  have:=allO_len (long_behind tx.data.toList t) 0
  have hSZ : tx.data.toList.length = tx.size:=by simp
  rw [hSZ] at this
  unfold spansO
  rw [hSZ]
  omega
 have hchk : chkF l tx.size = 0:=by
  unfold chkF
  rw [if_neg (by rw [hl,chk_flat t (by rw [← hl];exact ht)];simp),if_neg (by omega)]
 have HCH:=hid hchk
 generalize spansO tx.data.toList t 0 = sp at *
 have hps:=piecesB_size tx sp
 have hpl:=piecesB_len tx sp
 clear hl ht hok hr hchk
 by_cases hb : 400 < bx.size
 ·have HX : Hid (chkSw l tx bx sp = 3):=hid (by unfold chkSw;rw [if_neg (by simp [HCH.out]),if_pos hb])
  have d1 : decide ((400 : Int) < (bx.size : Int)) = true:=by simp;omega
  clear hb hps
  go_enter Tryz.func30,Tryz.ntmps30
  go_wp2_with fail
  refine HSP.out.mono ?_
  rintro e w1 ⟨g,cap,rfl,hown1,hb1⟩
  have HB1:=hid hb1
  clear hown1 hb1
  go_wp2_with fail
  go_ret2
  exact .inr ⟨HX.out,rfl,HB1.out⟩
 ·have d1 : decide ((400 : Int) < (bx.size : Int)) = false:=by simp;omega
  have hjl : (swapL tx bx sp).length ≤ 400000:=by
   have h1:=join_le bx.data.toList 400 ((piecesB tx sp).map (·.data.toList)) (fun x hx' => by
    obtain ⟨s,hs,rfl⟩:=List.mem_map.1 hx'
    have:=hps s hs
    simp
    omega)
   rw [List.length_map,hpl,show bx.data.toList.length = bx.size by simp] at h1
   unfold swapL
   have h2 : (sp.length + 1) * (400 + bx.size) ≤ 402 * 800:=Nat.mul_le_mul (by omega) (by omega)
   omega
  have HJL:=hid hjl
  have HPL:=hid hpl
  have HNB:=hid hb
  generalize hpc : piecesB tx sp = pc at *
  have HPC:=hid hpc
  have hpc2 : pc.length ≤ 402:=by omega
  clear hps hpl hjl hpc hb
  go_enter Tryz.func30,Tryz.ntmps30
  go_wp2_with fail
  refine HSP.out.mono ?_
  rintro e w1 ⟨g,cap,rfl,hown1,hb1⟩
  have HB1:=hid hb1
  have hrd:=Rd.of_own hown1
  obtain ⟨A',n',cap',hv,hn1,hn2,hn3,hn4⟩:=hrd
  injection hv with e1 e2 e3
  subst e1
  subst e2
  subst e3
  have hcell : ∀ (j : Nat) x,pc[j]? = some x → w1.cell? ⟨g,0 + j,none⟩ = some (.string x):=fun j x hj => by
   have hj':=(List.getElem?_eq_some_iff.1 hj).1
   obtain ⟨b',off',he,hc⟩:=hn4 (by omega)
   injection he with he
   injection he with h1 h2
   subst h1
   subst h2
   exact hc j (.string x) (by simp [strVals,hj])
  have hgl : g < w1.heap.size:=(hown1.lt g rfl).2
  have HJ:=hid (Join_c g 0 cap pc bx w1 hcell hgl (by omega) hn1 (by have:=HJL.out;unfold swapL at this;rw [HPC.out] at this;omega))
  clear hown1 hb1 hcell hn1 hn2 hn3 hn4
  go_wp2_with fail
  refine HJ.out.mono ?_
  rintro e w2 ⟨rfl,hb2⟩
  have HB2:=hid (HB1.out.trans (hb2.mono HB1.out.size))
  obtain ⟨r,hr⟩ : ∃ r,r = swapL tx bx sp:=⟨_,rfl⟩
  have hr2 : Go.Lib.join (pc.map (·.data.toList)) bx.data.toList = r:=by rw [hr];unfold swapL;rw [HPC.out]
  rw [hr2]
  have HR:=hid hr
  have hrs : (ByteArray.mk r.toArray).size = r.length:=by show r.toArray.size = _;simp
  clear hb2 HJ hr hr2
  by_cases h4 : 400 < r.length
  ·have HX : Hid (chkSw l tx bx sp = 3):=hid (by unfold chkSw;rw [if_neg (by simp [HCH.out]),if_neg HNB.out,if_pos (by rw [← HR.out];exact h4)])
   have d2 : decide ((400 : Int) < ((ByteArray.mk r.toArray).size : Int)) = true:=by rw [hrs];simp;omega
   have d3 : decide ((400 : Int) < (r.length : Int)) = true:=by simp;omega
   clear h4
   go_wp2_with fail
   go_ret2
   exact .inr ⟨HX.out,rfl,HB2.out⟩
  ·have HX : Hid (chkSw l tx bx sp = 0):=hid (by unfold chkSw;rw [if_neg (by simp [HCH.out]),if_neg HNB.out,if_neg (by rw [← HR.out];exact h4)])
   have d2 : decide ((400 : Int) < ((ByteArray.mk r.toArray).size : Int)) = false:=by rw [hrs];simp;omega
   have d3 : decide ((400 : Int) < (r.length : Int)) = false:=by simp;omega
   clear h4
   go_wp2_with fail
   go_ret2
   exact .inl ⟨HX.out,by rw [← HR.out];rfl,HB2.out⟩
end Go.Proofs.YthhcpbfgoofppaaGreatDoor
