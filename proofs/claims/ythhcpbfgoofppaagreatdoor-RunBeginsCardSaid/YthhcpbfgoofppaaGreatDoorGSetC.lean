/-
  SetC, SetD, SetE.
-/
import Derived.Test.YthhcpbfgoofppaaGreatDoorGLit
import Derived.Test.YthhcpbfgoofppaaGreatDoorGRex
import Derived.Test.YthhcpbfgoofppaaGreatDoorGSetA
import Derived.Deep.RegionLaw
set_option linter.unusedVariables false
set_option linter.unusedSimpArgs false
set_option maxRecDepth 100000
set_option maxHeartbeats 8000000
open Go.Lib (hid)
namespace Go.Proofs.YthhcpbfgoofppaaGreatDoor.setW
open Go.RowKit Wf
set_option linter.unusedVariables false
def setAll (cs : Array Value) : Nat → List Value → Array Value
 | _,[] => cs
 | o,v :: r => setAll (cs.setIfInBounds o v) (o + 1) r
theorem setAll_size (vs : List Value) : ∀ (cs : Array Value) (o : Nat),(setAll cs o vs).size = cs.size:=by
 induction vs with
 | nil => intro cs o;rfl
 | cons v r ih => intro cs o;rw [setAll,ih];simp
theorem setAll_get (vs : List Value) : ∀ (cs : Array Value) (o j : Nat),o + vs.length ≤ cs.size → (setAll cs o vs)[j]? = if o ≤ j ∧ j < o + vs.length then vs[j - o]? else cs[j]?:=by
 induction vs with
 | nil => intro cs o j _;rw [setAll,if_neg (by rw [List.length_nil];omega)]
 | cons v r ih =>
   intro cs o j h
   rw [List.length_cons] at h
   rw [setAll,ih _ _ _ (by simp;omega)]
   by_cases h1 : o + 1 ≤ j ∧ j < o + 1 + r.length
   ·rw [if_pos h1,if_pos (by simp;omega),show j - o = (j - (o + 1)) + 1 by omega]
    rfl
   ·rw [if_neg h1]
    by_cases h2 : j = o
    ·subst h2
     rw [if_pos (by simp),Nat.sub_self,Array.getElem?_setIfInBounds_self_of_lt (by omega),List.getElem?_cons_zero]
    ·rw [if_neg (by simp;omega),Array.getElem?_setIfInBounds_ne (by omega)]
theorem blk_setCells {g : Nat} {t : TypeId} (vs : List Value) : ∀ (w : World) (o : Nat) (cs : Array Value),Blk w g t cs → Blk (w.setCells g o vs) g t (setAll cs o vs):=by
 induction vs with
 | nil => intro w o cs h;exact h
 | cons v r ih => intro w o cs h;exact ih _ _ _ (h.set_ o v)
theorem far_setCells {g i : Nat} {t : TypeId} {cs : Array Value} (hi : i ≠ g) (vs : List Value) : ∀ (w : World) (o : Nat),Blk w i t cs → Blk (w.setCells g o vs) i t cs:=by
 induction vs with
 | nil => intro w o h;exact h
 | cons v r ih => intro w o h;exact ih _ _ (h.far (p:=⟨g,o,none⟩) hi v)
theorem below_cells {B g : Nat} (hB : B ≤ g) (vs : List Value) : ∀ (a w : World) (o : Nat),Below B a w → Below B a (w.setCells g o vs):=by
 induction vs with
 | nil => intro a w o h;exact h
 | cons v r ih => intro a w o h;exact ih _ _ _ (h.setCell (p:=⟨g,o,none⟩) hB v)
theorem sk_cells {B g : Nat} (hB : B ≤ g) (w : World) (o : Nat) (vs : List Value) : SK B g w (w.setCells g o vs):=⟨below_cells hB vs _ _ _ (Below.refl _ _),fun i cs t h1 _ h => far_setCells h1 vs w o h⟩
theorem info_mb : (Tryz.prog.info? 97).map (fun i => (i.zero,i.size,i.bytes)) = some (some (.agg #[.int .i64 0,.string ⟨#[]⟩,.slice none 0 0,.string ⟨#[]⟩]),4,64):=by kernel_rfl
theorem zero_mb : ∀ w,(zeroValue 97).run Tryz.prog w = .ok (.agg #[.int .i64 0,.string ⟨#[]⟩,.slice none 0 0,.string ⟨#[]⟩]) w:=by intro w;kernel_rfl
def zeros4 : List Value:=[.int .i64 0,.string ⟨#[]⟩,.slice none 0 0,.string ⟨#[]⟩]
theorem run_clear_mb (w : World) (ty : TypeId) (b o c : Nat) (hc : ∀ j,j < 4 → (w.cell? ⟨b,o + j,none⟩).isSome = true) (hf : ∀ j,j < 4 → w.frozen? ⟨b,o + j,none⟩ = false) :
 (Builtin.clear_ #[45] ty #[.slice (some ⟨b,o,none⟩) 1 c]).run Tryz.prog w = .ok (.tuple #[]) (w.setCells b o zeros4):=by
 have hst:=run_storeCells_cells (P:=Tryz.prog) b o zeros4 0 w (by simpa [zeros4] using hc) (by simpa [zeros4] using hf) (by intro v hv;simp [zeros4] at hv;rcases hv with rfl | rfl | rfl | rfl <;> rfl)
 simp only [Nat.add_zero] at hst
 have hzc : (Builtin.zeroCells (Value.agg #[.int .i64 0,.string ⟨#[]⟩,.slice none 0 0,.string ⟨#[]⟩]).cells 1).toList = zeros4:=by kernel_rfl
 simp [Builtin.clear_,run_underlying Tryz.underlying45,zero_mb,hzc,hst]
theorem mr_one (l : List Mr) : ∀ u ∈ l.flatMap mrCells,u.oneCell' = true:=by
 intro u hu
 obtain ⟨q,_,hq⟩:=List.mem_flatMap.1 hu
 simp only [mrCells,List.mem_cons,List.not_mem_nil,or_false] at hq
 rcases hq with rfl | rfl | rfl | rfl <;> rfl
theorem mr_drop (l : List Mr) (k : Nat) : (l.flatMap mrCells).drop (k * 4) = (l.drop k).flatMap mrCells:=by
 induction l generalizing k with
 | nil => simp
 | cons q r ih =>
   cases k with
   | zero => simp
   | succ k =>
     rw [List.flatMap_cons,List.drop_append,List.drop_eq_nil_of_le (by simp [mrCells];omega),show (k + 1) * 4 - (mrCells q).length = k * 4 by simp [mrCells];omega,List.nil_append,ih,List.drop_succ_cons]
theorem Delete_c (B g cap k N : Nat) (ml : List Mr) (cur : Array Value) (w : World) (hN : N = ml.length) (hk : k < N) (hB : B ≤ g) (hg : Blk w g 97 cur) (hcap : N ≤ cap) (hc2 : cap ≤ 9223372036854775807) (hcs : cur.size = cap * 4) (hcur : cur.toList.take (N * 4) = ml.flatMap mrCells) :
 Calls Tryz.prog 52 #[.slice (some ⟨g,0,none⟩) N cap,.int .i64 (k : Int),.int .i64 ((k : Int) + 1)] w (fun e w' => e = .returned (.slice (some ⟨g,0,none⟩) (k + (N - (k + 1))) cap) ∧ (∃ cur' : Array Value,Blk w' g 97 cur' ∧ cur'.size = cap * 4 ∧ cur'.toList.take ((N - 1) * 4) = (ml.eraseIdx k).flatMap mrCells) ∧ SK B g w w'):=by
 obtain ⟨i0,hi0,hz0,hz1,hz2⟩:=info_parts info_mb
 obtain ⟨news,hnews⟩ : ∃ news,news = (ml.drop (k + 1)).flatMap mrCells:=⟨_,rfl⟩
 have hnl : news.length = (N - (k + 1)) * 4:=by rw [hnews,mr_len,List.length_drop,hN]
 have hcell : ∀ j,j < N * 4 → w.cell? ⟨g,j,none⟩ = (ml.flatMap mrCells)[j]?:=fun j hj => by
  rw [hg.cell,← hcur,List.getElem?_take,if_pos hj]
  simp
 have hsrc0 : ∀ t u,news[t]? = some u → w.cell? ⟨g,(k + 1) * 4 + t,none⟩ = some u:=fun t u hu => by
  have ht:=(List.getElem?_eq_some_iff.1 hu).1
  rw [hcell _ (by omega),← hu,hnews,← mr_drop,List.getElem?_drop]
 obtain ⟨AD,hA,hsrc⟩ : ∃ AD : Addr,(if cap = k + 1 then some (⟨g,0,none⟩ : Addr) else some ⟨g,(k + 1) * 4,none⟩) = some AD ∧ Hid (∀ t u,news[t]? = some u → w.drew.cell? (AD.add t) = some u):=by
  by_cases h : cap = k + 1
  ·refine ⟨⟨g,0,none⟩,by simp [h],hid fun t u hu => ?_⟩
   have h0 : news.length = 0:=by rw [hnl];omega
   rw [List.length_eq_zero_iff.1 h0] at hu
   simp at hu
  ·refine ⟨⟨g,(k + 1) * 4,none⟩,by simp [h],hid fun t u hu => ?_⟩
   rw [add_mk]
   exact hsrc0 t u hu
 have s1 : Hid (news.length = (N - (k + 1)) * 4):=hid hnl
 have s2 : Hid (∀ u ∈ news,u.oneCell' = true):=hid (by rw [hnews];exact mr_one _)
 have s3 : Hid (∀ t,t < news.length → (w.drew.cell? ⟨g,0 + k * 4 + t,none⟩).isSome = true ∧ w.drew.frozen? ⟨g,0 + k * 4 + t,none⟩ = false):=hid fun t ht => by
  refine ⟨?_,hg.frozen _⟩
  show (w.cell? _).isSome = true
  rw [hg.cell,Array.getElem?_eq_getElem (by omega)]
  rfl
 obtain ⟨W1,hW1⟩ : ∃ W1,W1 = w.drew.setCells g (0 + k * 4) news:=⟨_,rfl⟩
 have hb1 : Blk W1 g 97 (setAll cur (0 + k * 4) news):=by rw [hW1];exact blk_setCells news _ _ _ hg
 have hk1 : SK B g w W1:=by rw [hW1];exact (SK.of_below (by have:=hg.lt;omega) ((Below.refl _ _).drew)).trans (sk_cells hB _ _ _)
 have hsz1 : (setAll cur (0 + k * 4) news).size = cap * 4:=by rw [setAll_size,hcs]
 have e1 : N - (k + (N - (k + 1))) = 1:=by omega
 have e2 : k + (N - (k + 1)) = N - 1:=by omega
 have hcl : ∀ ty,(Builtin.clear_ #[45] ty #[.slice (some ⟨g,(k + (N - (k + 1))) * 4,none⟩) (N - (k + (N - (k + 1)))) (cap - (k + (N - (k + 1))))]).run Tryz.prog W1 = .ok (.tuple #[]) (W1.setCells g ((k + (N - (k + 1))) * 4) zeros4):=fun ty => by
  rw [e1]
  exact run_clear_mb W1 ty g _ _ (fun j hj => by rw [hb1.cell,Array.getElem?_eq_getElem (by rw [hsz1];omega)];rfl) (fun j _ => hb1.frozen _)
 have hfin : Hid ((∃ cur' : Array Value,Blk (W1.setCells g ((k + (N - (k + 1))) * 4) zeros4) g 97 cur' ∧ cur'.size = cap * 4 ∧ cur'.toList.take ((N - 1) * 4) = (ml.eraseIdx k).flatMap mrCells) ∧ SK B g w (W1.setCells g ((k + (N - (k + 1))) * 4) zeros4)):=hid (by
  refine ⟨⟨_,blk_setCells zeros4 _ _ _ hb1,by rw [setAll_size,hsz1],?_⟩,hk1.trans (sk_cells hB _ _ _)⟩
  have hel : ml.eraseIdx k = ml.take k ++ ml.drop (k + 1):=List.eraseIdx_eq_take_drop_succ ..
  have htl : (ml.take k).length = k:=by rw [List.length_take];omega
  have htk : ((ml.take k).flatMap mrCells).length = k * 4:=by rw [mr_len,htl]
  refine List.ext_getElem? fun j => ?_
  rw [hel,List.flatMap_append,← hnews,List.getElem?_take]
  by_cases hj : j < (N - 1) * 4
  ·rw [if_pos hj,Array.getElem?_toList,setAll_get _ _ _ _ (by rw [hsz1];simp [zeros4];omega),if_neg (by omega),setAll_get _ _ _ _ (by rw [hcs,hnl];omega),Nat.zero_add]
   by_cases hjk : j < k * 4
   ·rw [if_neg (by omega),List.getElem?_append_left (by rw [htk];exact hjk)]
    have h1:=hcell j (by omega)
    rw [hg.cell] at h1
    rw [h1]
    have h2 : ml.flatMap mrCells = (ml.take k).flatMap mrCells ++ (ml.drop k).flatMap mrCells:=by rw [← List.flatMap_append,List.take_append_drop]
    rw [h2,List.getElem?_append_left (by rw [htk];exact hjk)]
   ·rw [if_pos (by omega),List.getElem?_append_right (by rw [htk];omega),htk]
  ·rw [if_neg hj]
   symm
   rw [List.getElem?_eq_none_iff,List.length_append,htk,hnl]
   omega)
 have hW : Hid (W1 = w.drew.setCells g (0 + k * 4) news):=hid hW1
 have hic : k ≤ cap:=by omega
 have hjc : k + 1 ≤ cap:=by omega
 have i1 : (k : Int) ≤ (k : Int) + 1:=by omega
 have i2 : (k : Int) + 1 ≤ (N : Int):=by omega
 have i3 : (N : Int) ≤ (cap : Int):=by omega
 have i4 : ((k : Int) == (k : Int) + 1) = false:=by rw [beq_eq_false_iff_ne];omega
 have i5 : (0 : Int) ≤ (k : Int):=by omega
 have i6 : (k : Int) ≤ (cap : Int):=by omega
 have i7 : (0 : Int) ≤ (k : Int) + 1:=by omega
 have i8 : ((k + (N - (k + 1)) : Nat) : Int) ≤ (N : Int):=by omega
 have i9 : ¬ cap = k + (N - (k + 1)):=by omega
 have i10 : (k : Int) + ((N - (k + 1) : Nat) : Int) ≤ (N : Int):=by omega
 have i11 : (0 : Int) ≤ (k : Int) + ((N - (k + 1) : Nat) : Int):=by omega
 clear hW1 hb1 hk1 hsz1 hcell hsrc0 hnl hnews hcur hcs hg hN e1 e2
 go_enter Tryz.func52,Tryz.ntmps52
 go_wp2_with fail
 go_region_law (refine step_append_room rfl (.tmp 22) (.tmp 25) 45 rfl 97 i0 4 Tryz.underlying45 hi0 hz1 g 0 k cap (by simp [Act.eval,Act.put]) AD (N - (k + 1)) (cap - (k + 1)) news (by simp [Act.eval,Act.put]) s1.out hsrc.out s2.out (by omega) s3.out ?_;rw [← hW.out])
 go_wp2
 go_ret
 exact ⟨rfl,hfin.out⟩
set_option linter.unusedVariables false
theorem place_lt {m : SS} {x : Int} {k : Nat} (h : m.place x = some k) : k < m.ms.length:=by
 unfold SS.place at h
 rw [List.findIdx?_eq_some_iff_getElem] at h
 exact h.1
def SetTo (ret : Value) (B b : Nat) (m : SS) (w : World) (e : Ending) (w' : World) : Prop:=e = .returned ret ∧ ∃ (ml : List Mr) (A : Value),SetAt B b m ml A w' ∧ SK B b w w'
theorem SK.row {B b g : Nat} {w w' : World} {cur : Array Value} (hg : Blk w g 97 cur) (h : SK B g w w') : SK B b w w' :=
 ⟨h.bel,fun i cs t h1 h2 h3 => h.keep i cs t (fun e => by
   subst e
   have h3' : w.heap[i]? = some (.cells cs t (0,0)):=h3
   have hg' : w.heap[i]? = some (.cells cur 97 (0,0)):=hg
   rw [h3'] at hg'
   injection hg' with hg'
   injection hg' with _ hg' _
   exact h2 hg') h2 h3⟩
theorem Remove_set (B b : Nat) (m : SS) (ml : List Mr) (A : Value) (x : Int) (w : World) (h : SetAt B b m ml A w) :
 Calls Tryz.prog 24 #[.pointer (some ⟨b,0,none⟩),.int .i64 x] w (SetTo (errV (m.removed x)) B b (m.remove x) w):=by
 have HAT:=hid (at_c B b m ml A x w h)
 cases hp : m.place x with
 | none =>
   have hrm : m.removed x = 4:=by unfold SS.removed;rw [hp]
   have hre : m.remove x = m:=by unfold SS.remove;rw [hp]
   rw [hrm,hre,errV_ne (by decide)]
   rw [hp] at HAT
   have H:=hid h
   unfold SetTo
   clear h hp hrm hre
   go_enter Tryz.func24,Tryz.ntmps24
   go_wp2_with fail
   refine HAT.out.mono ?_
   rintro e w1 ⟨rfl,hb1⟩
   have H1:=hid (H.out.below hb1)
   have HK:=hid (SK.of_below (b:=b) H.out.hBw hb1)
   clear hb1
   go_wp2_with fail
   go_ret
   exact ⟨rfl,ml,A,H1.out,HK.out⟩
 | some k =>
   have hkl : k < ml.length:=by have:=place_lt hp;rw [h.ms,List.length_map] at this;exact this
   have hrm : m.removed x = 0:=by unfold SS.removed;rw [hp]
   have hre : m.remove x = { m with ms:=m.ms.eraseIdx k }:=by unfold SS.remove;rw [hp]
   rw [hrm,errV_zero]
   rw [hp] at HAT
   obtain ⟨g,cap,cur,rfl,hBg,hgg,hc1,hc2,hcs,hcur⟩ : ∃ g cap cur,A = .slice (some ⟨g,0,none⟩) ml.length cap ∧ B ≤ g ∧ w.heap[g]? = some (.cells cur 97 (0,0)) ∧ ml.length ≤ cap ∧ cap ≤ maxLen ∧ cur.size = cap * 4 ∧ cur.toList.take (ml.length * 4) = ml.flatMap mrCells:=by
    rcases h.own.2 with ⟨_,hz⟩ | ⟨g,cap,cur,hv,r⟩
    ·omega
    ·exact ⟨g,cap,cur,hv,r⟩
   unfold maxLen at hc2
   obtain ⟨N,hN⟩ : ∃ N,N = ml.length:=⟨_,rfl⟩
   rw [← hN] at hkl hc1 hcur
   have HD:=hid fun W (hb : Below w.heap.size w W) => Delete_c B g cap k N ml cur W hN hkl hBg ((show Blk w g 97 cur from hgg).kept hb) hc1 (by omega) hcs hcur
   have HG : Hid (Blk w g 97 cur):=hid hgg
   have hok2 : (m.remove x).ok:=h.ok.remove x
   have HOK:=hid hok2
   have HRE:=hid hre
   have H:=hid h
   have HN:=hid hN
   have c0 : w.cell? ⟨b,0,none⟩ = some (.slice (some ⟨g,0,none⟩) N cap):=by rw [hN];exact h.blk.cell 0
   have e2 : k + (N - (k + 1)) ≤ cap:=by omega
   have hgb : g ≠ b:=fun e => by
    subst e
    have h1 : w.heap[g]? = _:=h.blk
    rw [h1] at hgg
    injection hgg with hgg
    injection hgg with _ hgg _
    exact absurd hgg (by decide)
   have d0 : (k : Int) < 0 ↔ False:=by simp
   have hkd : decide ((k : Int) < 0) = false:=by simp
   unfold SetTo
   clear h hp hrm hre hok2 hgg hcs hcur hN d0
   go_enter Tryz.func24,Tryz.ntmps24
   go_wp2_with fail
   refine HAT.out.mono ?_
   rintro e w1 ⟨rfl,hb1⟩
   have c1 : w1.cell? ⟨b,0,none⟩ = some (.slice (some ⟨g,0,none⟩) N cap):=(hb1.cell (p:=⟨b,0,none⟩) H.out.lt).trans c0
   have HD1:=hid (HD.out w1 hb1)
   have H1:=hid (H.out.below hb1)
   have HG1:=hid (HG.out.kept hb1)
   have HK1:=hid (SK.of_below (b:=b) H.out.hBw hb1)
   have hnum : numP (some k) = (k : Int):=rfl
   rw [hnum]
   clear hb1 c0 HD HAT hnum
   go_wp2_with fail
   refine HD1.out.mono ?_
   rintro e w2 ⟨rfl,⟨cur',hb',hs',ht'⟩,hk2⟩
   have HB2 : Hid (Blk w2 g 97 cur'):=hid hb'
   have HS2:=hid (And.intro hs' ht')
   have HK2:=hid hk2
   have hbb : Blk w2 b 47 _:=hk2.keep b _ _ (fun e => hgb e.symm) (by decide) H1.out.blk
   have z0 : w2.frozen? ⟨b,0,none⟩ = false:=hbb.frozen 0
   have q0 : w2.cell? ⟨b,0,none⟩ = _:=hbb.cell 0
   have HBB:=hid hbb
   clear hb' hs' ht' hk2 hbb
   go_wp2_with fail
   go_ret
   have eN : k + (N - (k + 1)) = (ml.eraseIdx k).length:=by rw [List.length_eraseIdx,if_pos (by rw [← HN.out];exact hkl),← HN.out];omega
   have hSB:=(HK2.out.row (b:=b) HG1.out)
   have hk3:=hSB.trans (SK.set H1.out.hB w2 0 (.slice (some ⟨g,0,none⟩) (k + (N - (k + 1))) cap))
   rw [eN] at hk3 ⊢
   refine ⟨rfl,ml.eraseIdx k,.slice (some ⟨g,0,none⟩) (ml.eraseIdx k).length cap,⟨H1.out.hB,?_,?_,?_,?_,HOK.out,?_⟩,HK1.out.trans hk3⟩
   ·rw [HRE.out]
    show m.ms.eraseIdx k = _
    rw [H1.out.ms,List.eraseIdx_eq_take_drop_succ,List.eraseIdx_eq_take_drop_succ,List.map_append,List.map_take,List.map_drop]
   ·rw [HRE.out]
    have:=HBB.out.set_ 0 (.slice (some ⟨g,0,none⟩) (ml.eraseIdx k).length cap)
    simpa using this
   ·have hl : (ml.eraseIdx k).length = N - 1:=by rw [← eN];omega
    refine ⟨by rw [mr_len],.inr ⟨g,cap,cur',rfl,hBg,HB2.out.far (p:=⟨b,0,none⟩) hgb _,by rw [hl];omega,by unfold maxLen;omega,HS2.out.1,by rw [hl];exact HS2.out.2⟩⟩
   ·intro q hq
    have hm:=H1.out.mem q (List.mem_of_mem_eraseIdx hq)
    exact ⟨own_sk hm.1 hk3 (by decide) (own_not hm.1 H1.out.blk (by decide)),hm.2⟩
   ·rw [SS.last_remove];exact H1.out.lastb
set_option linter.unusedVariables false
def ReadsTo (s : ByteArray) (w : World) (e : Ending) (w' : World) : Prop:=Below w.heap.size w w' ∧
 ((∃ t g cap,parseE s = (0,0,some t) ∧ e = .returned (.tuple #[.slice (some ⟨g,0,none⟩) (flat t).length cap,.int .i64 0,.nilIface]) ∧ OwnT w' w.heap.size (.slice (some ⟨g,0,none⟩) (flat t).length cap) (flat t)) ∨
  (∃ (c : Int) (k : Nat),parseE s = (c,k,none) ∧ c ≠ 0 ∧ e = .returned (.tuple #[.slice none 0 0,.int .i64 (k : Int),.iface 81 (.int .i64 c)])))
theorem Parse_e {ev : Value} (s : ByteArray) (w : World) (hev : SynE ev w) : Calls Tryz.prog 47 #[.string s] w (ReadsTo s w):=by
 refine (Parse_c s w hev).mono ?_
 rintro e w' ⟨hb,⟨h1,h2⟩ | ⟨h1,t,h2,h3,h4⟩ | ⟨h1,t,g,cap,h2,h3,h4,h5⟩ | ⟨h1,k,h2,h3⟩⟩
 ·exact ⟨hb,.inr ⟨3,0,by unfold parseE;rw [if_pos h1],by decide,h2⟩⟩
 ·refine ⟨hb,.inr ⟨3,0,?_,by decide,h4⟩⟩
  unfold parseE
  rw [if_neg (by omega),h2]
  dsimp only
  rw [if_pos rfl,if_neg (by omega)]
 ·refine ⟨hb,.inl ⟨t,g,cap,?_,h4,h5⟩⟩
  unfold parseE
  rw [if_neg (by omega),h2]
  dsimp only
  rw [if_pos rfl,if_pos h3]
 ·refine ⟨hb,.inr ⟨5,k,?_,by decide,h3⟩⟩
  unfold parseE
  rw [if_neg (by omega)]
  rcases h2 with h2 | ⟨t,h2,h4⟩
  ·rw [h2]
  ·rw [h2]
   dsimp only
   rw [if_neg h4]
theorem SetAt.more {B b : Nat} {m m' : SS} {ml : List Mr} {A A' : Value} {q : Mr} {W W1 : World} (h : SetAt B b m ml A W)
 (hown : W1.ownsRow B 97 4 A' (ml.length + 1) (ml.flatMap mrCells ++ mrCells q)) (hg : W.grownBy W1 A.ownBlock)
 (hms : m'.ms = m.ms ++ [q.1]) (hlast : m'.last = m.last) (hon : m'.on = m.on) (htr : m'.tried = m.tried) (hok : m'.ok) (hq : OwnT W B (rvOf q) (flat q.1.t) ∧ q.2.2.data.toList = (litL q.1.t).1) :
 SetAt B b m' (ml ++ [q]) A' (W1.setCell ⟨b,0,none⟩ A') ∧ SK B b W (W1.setCell ⟨b,0,none⟩ A'):=by
 have hk : SK B b W W1:=SK.grown h.hBw h.own hg
 have hb1 : Blk W1 b 47 _:=(hg.block b h.lt (fun e => own_not h.own h.blk (by decide) e.symm)).trans h.blk
 have hks : SK B b W (W1.setCell ⟨b,0,none⟩ A'):=hk.trans (SK.set h.hB W1 0 A')
 have hne : A'.ownBlock ≠ some b:=own_not hown hb1 (by decide)
 refine ⟨⟨h.hB,by rw [hms,h.ms,List.map_append];rfl,?_,?_,?_,hok,by rw [hlast];exact h.lastb⟩,hks⟩
 ·have:=hb1.set_ 0 A'
  rw [hlast,hon,htr]
  simpa using this
 ·rw [List.length_append,List.flatMap_append]
  have:=hown.kept (grown_setS W1 b 0 A') (.inr hne)
  simpa using this
 ·intro q' hq'
  rcases List.mem_append.1 hq' with hq' | hq'
  ·have hm:=h.mem q' hq'
   exact ⟨own_sk hm.1 hks (by decide) (own_not hm.1 h.blk (by decide)),hm.2⟩
  ·rw [List.mem_singleton.1 hq']
   exact ⟨own_sk hq.1 hks (by decide) (own_not hq.1 h.blk (by decide)),hq.2⟩
def addV (r : Nat × Nat × Int) : Value:=.tuple #[.int .i64 (r.1 : Int),.int .i64 (r.2.1 : Int),errV r.2.2]
theorem Add_set {ev : Value} (B b : Nat) (m : SS) (ml : List Mr) (A : Value) (s : ByteArray) (w : World) (h : SetAt B b m ml A w) (hev : SynE ev w) (hl : m.last < 1000000) :
 Calls Tryz.prog 22 #[.pointer (some ⟨b,0,none⟩),.string s] w (SetTo (addV (m.added s)) B b (m.add s) w):=by
 obtain ⟨i0,hi0,hz0,hz1,hz2⟩:=info_parts info_mb
 have HPA:=hid (Parse_e s w hev)
 unfold ReadsTo at HPA
 have H:=hid h
 obtain ⟨Ao,cap,rfl,hc1,hc2,_⟩:=h.open_
 have hlen:=h.len
 have hlt:=h.lt
 unfold SetTo addV
 have c0 : w.cell? ⟨b,0,none⟩ = some (.slice Ao ml.length cap):=h.blk.cell 0
 have c1 : w.cell? ⟨b,1,none⟩ = some (.int .i64 (m.last : Int)):=h.blk.cell 1
 cases hp : (parseE s).2.2 with
 | none =>
   have hne : (parseE s).1 ≠ 0:=fun e => by obtain ⟨t,ht⟩:=parseE_zero.1 e;rw [ht] at hp;cases hp
   have ha : m.added s = (0,(parseE s).2.1,(parseE s).1):=by unfold SS.added;rw [if_pos hne]
   have hs : m.add s = m:=by unfold SS.add;rw [hp]
   rw [ha,hs]
   dsimp only
   rw [errV_ne hne]
   have HP:=hid hp
   clear h hev hp ha hs hne c0 c1
   go_enter Tryz.func22,Tryz.ntmps22
   go_wp2_with fail
   refine HPA.out.mono ?_
   rintro e w1 ⟨hb1,⟨t,g,cp,hq,_,_⟩ | ⟨c,k,hq,hc,rfl⟩⟩
   ·have:=HP.out;rw [hq] at this;cases this
   ·have HQ:=hid hq
    have H1:=hid (H.out.below hb1)
    have HK:=hid (SK.of_below (b:=b) H.out.hBw hb1)
    clear hb1 hq hc
    go_wp2_with fail
    go_ret3
    exact ⟨by rw [HQ.out];rfl,ml,_,H1.out,HK.out⟩
 | some t =>
   obtain ⟨_,_,h60,hokt,hpe⟩:=parseE_some hp
   have h0 : ¬ (parseE s).1 ≠ 0:=by rw [hpe];simp
   have HPE:=hid hpe
   by_cases h12 : ml.length = 12
   ·have hms : ¬ m.ms.length < 12:=by rw [h.ms,List.length_map];omega
    have ha : m.added s = (0,0,3):=by unfold SS.added;rw [if_neg h0,if_neg hms]
    have hs : m.add s = m:=by unfold SS.add;rw [hp];dsimp only;rw [if_neg hms]
    rw [ha,hs]
    dsimp only
    rw [errV_ne (by decide)]
    have d12 : ((ml.length : Int) == 12) = true:=by rw [h12];rfl
    clear h hev hp ha hs h0 hms hpe h12
    go_enter Tryz.func22,Tryz.ntmps22
    go_wp2_with fail
    refine HPA.out.mono ?_
    rintro e w1 ⟨hb1,⟨t',g,cp,hq,rfl,_⟩ | ⟨c,k,hq,hc,rfl⟩⟩
    ·have H1:=hid (H.out.below hb1)
     have HK:=hid (SK.of_below (b:=b) H.out.hBw hb1)
     have c0' : w1.cell? ⟨b,0,none⟩ = some (.slice Ao ml.length cap):=H1.out.blk.cell 0
     clear hb1 hq c0 c1
     go_wp2_with fail
     go_ret3
     exact ⟨rfl,ml,_,H1.out,HK.out⟩
    ·rw [HPE.out] at hq;cases hq
   ·have hms : m.ms.length < 12:=by rw [h.ms,List.length_map];omega
    have ha : m.added s = (m.last + 1,0,0):=by unfold SS.added;rw [if_neg h0,if_pos hms]
    have hs : m.add s = { m with ms:=m.ms ++ [⟨m.last + 1,s,t⟩],last:=m.last + 1 }:=by unfold SS.add;rw [hp];dsimp only;rw [if_pos hms]
    have hok2 : (m.add s).ok:=h.ok.add s
    have HOK:=hid hok2
    have HS:=hid hs
    rw [ha]
    dsimp only
    rw [errV_zero]
    have d12 : ((ml.length : Int) == 12) = false:=by rw [beq_eq_false_iff_ne];omega
    have HND:=hid fun (v : Value) (W : World) (hr : RdN W v (flat t)) => Needed_ok (flat t) t rfl hokt v W h60 hr
    unfold NeededIs at HND
    have hlz:=h.lastb
    have hiw : IntKind.i64.wrap ((m.last : Int) + 1) = (m.last : Int) + 1:=by rw [IntKind.wrap_i64];omega
    have HHB:=hid h.hB
    obtain ⟨N,hN⟩ : ∃ N,N = (flat t).length:=⟨_,rfl⟩
    have HN:=hid hN
    have z1:=h.blk.frozen 1
    clear h hev hp ha hs h0 hms hpe h12 hok2 hN
    go_enter Tryz.func22,Tryz.ntmps22
    go_wp2_with fail
    refine HPA.out.mono ?_
    rintro e w1 ⟨hb1,⟨t',g,cp,hq,rfl,ho1⟩ | ⟨c,k,hq,hc,rfl⟩⟩
    ·have ht : t' = t:=by rw [HPE.out] at hq;cases hq;rfl
     subst ht
     have H1:=hid (H.out.below hb1)
     have HK1:=hid (SK.of_below (b:=b) H.out.hBw hb1)
     have c0' : w1.cell? ⟨b,0,none⟩ = some (.slice Ao ml.length cap):=H1.out.blk.cell 0
     have HO1:=hid (ho1.base H.out.hBw)
     rw [← HN.out] at HO1 ⊢
     have HND1:=hid (HND.out _ w1 (Rd.of_own HO1.out))
     clear hb1 hq c0 c1 ho1 HPA HND
     go_wp2_with fail
     refine HND1.out.mono ?_
     rintro e w2 ⟨nd,rfl,hnd,hb2⟩
     have H2:=hid (H1.out.below hb2)
     have HK2:=hid (HK1.out.trans (SK.of_below (b:=b) H1.out.hBw hb2))
     have c0 : w2.cell? ⟨b,0,none⟩ = some (.slice Ao ml.length cap):=H2.out.blk.cell 0
     have c1 : w2.cell? ⟨b,1,none⟩ = some (.int .i64 (m.last : Int)):=H2.out.blk.cell 1
     have z1 : w2.frozen? ⟨b,1,none⟩ = false:=H2.out.blk.frozen 1
     have HO2:=hid (HO1.out.below hb2)
     have HNE:=hid hnd
     have hlt2:=H2.out.lt
     clear hb2 hnd c0' HND1
     go_wp2_with fail
     have H3 : Hid (SetAt B b { m with last:=m.last + 1 } ml (.slice Ao ml.length cap) (w2.setCell ⟨b,1,none⟩ (.int .i64 ((m.last : Int) + 1)))):=hid (by
      have:=H2.out.put { m with last:=m.last + 1 } rfl ⟨H2.out.ok.len,H2.out.ok.up,fun x hx => ⟨(H2.out.ok.pos x hx).1,Nat.le_succ_of_le (H2.out.ok.pos x hx).2⟩,H2.out.ok.read⟩ (by show m.last + 1 ≤ 1000000;omega) 1 (.int .i64 ((m.last : Int) + 1)) (by simp)
      exact this)
     have HK3 : Hid (SK B b w (w2.setCell ⟨b,1,none⟩ (.int .i64 ((m.last : Int) + 1)))):=hid (HK2.out.trans (SK.set HHB.out w2 1 _))
     have HO3 : Hid (OwnT (w2.setCell ⟨b,1,none⟩ (.int .i64 ((m.last : Int) + 1))) B (.slice (some ⟨g,0,none⟩) N cp) (flat t')):=hid (own_sk HO2.out (SK.set HHB.out w2 1 _) (by decide) (own_not HO2.out H2.out.blk (by decide)))
     generalize w2.setCell ⟨b,1,none⟩ (.int .i64 ((m.last : Int) + 1)) = w3 at *
     have e0 : w3.cell? ⟨b,0,none⟩ = some (.slice Ao ml.length cap):=H3.out.blk.cell 0
     have e1 : w3.cell? ⟨b,1,none⟩ = some (.int .i64 ((m.last : Int) + 1)):=by have:=H3.out.blk.cell 1;simpa using this
     have hlt3:=H3.out.lt
     have hBw3:=H3.out.hBw
     have hnews : ∀ (j : Nat) (u : Value),([.int .i64 ((m.last : Int) + 1),.string s,.slice (some ⟨g,0,none⟩) N cp,.string nd] : List Value)[j]? = some u →
      (w3.alloc (.cells #[.int .i64 ((m.last : Int) + 1),.string s,.slice (some ⟨g,0,none⟩) N cp,.string nd] 97)).drew.cell? ((⟨w3.heap.size,0,none⟩ : Addr).add j) = some u:=by
      intro j u hu
      rw [add_mk,Nat.zero_add]
      have:=((Blk.new w3 97 #[.int .i64 ((m.last : Int) + 1),.string s,.slice (some ⟨g,0,none⟩) N cp,.string nd]).drew).cell j
      rw [this]
      simpa using hu
     have hone : ∀ u ∈ ([.int .i64 ((m.last : Int) + 1),.string s,.slice (some ⟨g,0,none⟩) N cp,.string nd] : List Value),u.oneCell' = true:=by
      intro u hu
      simp only [List.mem_cons,List.not_mem_nil,or_false] at hu
      rcases hu with rfl | rfl | rfl | rfl <;> rfl
     have HNW:=hid hnews
     have HON:=hid hone
     have HA3:=hid (((Below.refl w3.heap.size w3).alloc (Nat.le_refl _) (.cells #[.int .i64 ((m.last : Int) + 1),.string s,.slice (some ⟨g,0,none⟩) N cp,.string nd] 97)).drew)
     have H4:=hid (H3.out.below HA3.out)
     have HO4:=hid (HO3.out.below HA3.out)
     have HK4:=hid (HK3.out.trans (SK.of_below hBw3 HA3.out))
     clear hnews hone c0 c1 z1 hlt2
     go_region_law (refine step_append_lies _ rfl (.tmp 45) (.tmp 55) 45 rfl B 97 i0 _ 4 64 Tryz.underlying45 hi0 hz0 hz1 hz2 rfl (by decide) (.slice Ao ml.length cap) ml.length (ml.flatMap mrCells) ?a1 H4.out.own ⟨w3.heap.size,0,none⟩ 1 1 [.int .i64 ((m.last : Int) + 1),.string s,.slice (some ⟨g,0,none⟩) N cp,.string nd] ?a2 rfl HNW.out HON.out ?a4 ?a5 ?a6 ?a7 _ rfl ?_;(case a1 => simp [Act.eval,Act.put]);(case a2 => simp [Act.eval,Act.put]);(case a4 => omega);(case a5 => unfold maxLen;omega);(case a6 => omega);(case a7 => simp;omega);intro g' cp' w5 hown hg hat hlt5;have hbk : Blk w5 b 47 _:=(hg.block b H4.out.lt (fun e => own_not H4.out.own H4.out.blk (by decide) e.symm)).trans H4.out.blk;have o1 : w5.cell? ⟨b,0,none⟩ = some (.slice Ao ml.length cap):=hbk.cell 0;have f1 : w5.frozen? ⟨b,0,none⟩ = false:=hbk.frozen 0;have HOW:=hid hown;have HGW:=hid hg;clear hbk hown hg hat hlt5)
     all_goals (
      obtain ⟨q,hq⟩ : ∃ q : Mr,q = (⟨m.last + 1,s,t'⟩,(g,cp),nd):=⟨_,rfl⟩
      have hqc : mrCells q = [.int .i64 ((m.last : Int) + 1),.string s,.slice (some ⟨g,0,none⟩) N cp,.string nd]:=by
       rw [hq,HN.out]
       simp [mrCells,rvOf]
      have hrv : rvOf q = .slice (some ⟨g,0,none⟩) N cp:=by rw [hq,HN.out];rfl
      obtain ⟨hs1,hs2⟩:=H4.out.more (m':=m.add s) (q:=q) (by rw [hqc];exact HOW.out) HGW.out (by rw [HS.out,hq]) (by rw [HS.out]) (by rw [HS.out]) (by rw [HS.out]) HOK.out ⟨by rw [hrv,hq];exact HO4.out,by rw [hq];exact HNE.out⟩
      have y1 : (w5.setCell ⟨b,0,none⟩ (.slice (some ⟨g',0,none⟩) (ml.length + 1) cp')).cell? ⟨b,1,none⟩ = some (.int .i64 ((m.last : Int) + 1)):=by
       have:=hs1.blk.cell 1
       rw [HS.out] at this
       simpa using this
      have HS1:=hid hs1
      have HS2:=hid (HK4.out.trans hs2)
      clear hs1 hs2 hqc hrv hq
      generalize (w5.setCell ⟨b,0,none⟩ (.slice (some ⟨g',0,none⟩) (ml.length + 1) cp')) = w6 at *
      go_wp2
      go_ret3
      exact ⟨rfl,_,_,HS1.out,HS2.out⟩)
    ·rw [HPE.out] at hq;cases hq
end Go.Proofs.YthhcpbfgoofppaaGreatDoor.setW
