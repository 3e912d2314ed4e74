/-
  Lit, As.
-/
import Derived.Test.YthhcpbfgoofppaaGreatDoorGCls
import Derived.Test.YthhcpbfgoofppaaGreatDoorGPl
import Derived.Test.YthhcpbfgoofppaaGreatDoorGRex
import Derived.Laws.IdiomStrings
import Derived.OwnWalk
import Derived.WalkKit
import Derived.LaidEql
import Derived.Stop.Asserts
import Derived.RowKitTokens
set_option linter.unusedVariables false
set_option linter.unusedSimpArgs false
set_option maxRecDepth 100000
set_option maxHeartbeats 8000000
open Go.Lib (hid)
namespace Go.Proofs.YthhcpbfgoofppaaGreatDoor
open Go.RowKit Wf
def NeedIs (n : List UInt8 × Bool) (w : World) (e : Ending) (w' : World) : Prop:=∃ (s : ByteArray) (x : Bool),e = .returned (.agg #[.string s,.bool x]) ∧ s.data.toList = n.1 ∧ x = n.2 ∧ Below w.heap.size w w'
theorem cat_any (s1 s2 : ByteArray) (x1 x2 : Bool) (w : World) (h1 : s1.size ≤ 60) (h2 : s2.size ≤ 60) :
 Calls Tryz.prog 115 #[.agg #[.string s1,.bool x1],.agg #[.string s2,.bool x2]] w (NeedIs (catL (s1.data.toList,x1) (s2.data.toList,x2)) w):=by
 have hc : catL (s1.data.toList,x1) (s2.data.toList,x2) = if x1 = true ∧ x2 = true then ((s1 ++ s2).data.toList,true) else if s2.size > s1.size then (s2.data.toList,false) else (s1.data.toList,false):=by
  unfold catL
  rw [data_app,sz_list,sz_list]
 have HC:=hid hc
 clear hc
 cases x1 <;> cases x2
 all_goals
  go_enter Tryz.func115,Tryz.ntmps115
  go_wp2
 all_goals
  first
   | (have hlt : s1.size < s2.size:=(by assumption)
      refine bodyPost_ret (v:=.agg #[.string s2,.bool false]) (by simp [results,Tryz.results115,go_sem]) rfl ⟨s2,false,rfl,?_,?_,?_⟩
      ·rw [HC.out];simp [hlt]
      ·rw [HC.out];simp [hlt]
      ·exact (((Below.refl _ _).alloc (Nat.le_refl _) _).alloc (by simp) _).alloc (by simp;omega) _)
   | (have hlt : ¬ s1.size < s2.size:=(by assumption)
      refine bodyPost_ret (v:=.agg #[.string s1,.bool false]) (by simp [results,Tryz.results115,go_sem]) rfl ⟨s1,false,rfl,?_,?_,?_⟩
      ·rw [HC.out];simp [hlt]
      ·rw [HC.out];simp [hlt]
      ·exact (((Below.refl _ _).alloc (Nat.le_refl _) _).alloc (by simp) _).alloc (by simp;omega) _)
   | (refine bodyPost_ret (v:=.agg #[.string (s1 ++ s2),.bool true]) (by simp [results,Tryz.results115,go_sem]) rfl ⟨s1 ++ s2,true,rfl,?_,?_,?_⟩
      ·rw [HC.out];simp
      ·rw [HC.out];simp
      ·exact (((Below.refl _ _).alloc (Nat.le_refl _) _).alloc (by simp) _).alloc (by simp;omega) _)
theorem below2' (w : World) (o o' : Obj) : Below w.heap.size w ((w.alloc o).alloc o'):=((Below.refl _ _).alloc (Nat.le_refl _) _).alloc (by simp) _
def NeedTo (l : List Nd) (m : Nat) (cs : Array Value) : Prop :=
 cs.size = l.length * 2 ∧ (∀ j,j < l.length → ∃ (s : ByteArray) (x : Bool),cs[j * 2]? = some (.string s) ∧ cs[j * 2 + 1]? = some (.bool x)) ∧
  (∀ j,j < m → j < l.length → cs[j * 2]? = some (.string ⟨#[]⟩) ∧ cs[j * 2 + 1]? = some (.bool false)) ∧
  ∀ j u,m ≤ j → At l j u → ∃ s : ByteArray,s.data.toList = (litL u).1 ∧ cs[j * 2]? = some (.string s) ∧ cs[j * 2 + 1]? = some (.bool (litL u).2)
theorem NeedTo.start (l : List Nd) : NeedTo l l.length (madeCells #[.string ⟨#[]⟩,.bool false] (l.length * 2)):=by
 have h0 : ∀ j,j < l.length → (madeCells #[.string ⟨#[]⟩,.bool false] (l.length * 2))[j * 2]? = some (.string ⟨#[]⟩):=by
  intro j hj
  have : j * 2 < l.length * 2:=by omega
  simp [madeCells,this]
 have h1 : ∀ j,j < l.length → (madeCells #[.string ⟨#[]⟩,.bool false] (l.length * 2))[j * 2 + 1]? = some (.bool false):=by
  intro j hj
  have : j * 2 + 1 < l.length * 2:=by omega
  have e : (j * 2 + 1) % 2 = 1:=by omega
  simp [madeCells,this,e]
 refine ⟨size_madeCells _ _,fun j hj => ⟨_,_,h0 j hj,h1 j hj⟩,fun j _ hj => ⟨h0 j hj,h1 j hj⟩,fun j u hj h => ?_⟩
 have:=h.lt
 have:=flat_pos u
 omega
theorem get_set2 {cs : Array Value} {i j : Nat} {a b : Value} (hi : i * 2 + 1 < cs.size) :
 ((cs.setIfInBounds (i * 2) a).setIfInBounds (i * 2 + 1) b)[j * 2]? = (if i = j then some a else cs[j * 2]?) ∧
 ((cs.setIfInBounds (i * 2) a).setIfInBounds (i * 2 + 1) b)[j * 2 + 1]? = (if i = j then some b else cs[j * 2 + 1]?):=by
 constructor
 ·rw [Array.getElem?_setIfInBounds,if_neg (by omega),Array.getElem?_setIfInBounds]
  by_cases e : i = j
  ·rw [if_pos (by omega),if_pos e,if_pos (by first | omega | (simp;omega))]
  ·rw [if_neg (by omega),if_neg e]
 ·rw [Array.getElem?_setIfInBounds,Array.getElem?_setIfInBounds]
  by_cases e : i = j
  ·rw [if_pos (by omega),if_pos e,if_pos (by first | omega | (simp;omega))]
  ·rw [if_neg (by omega),if_neg (by omega),if_neg e]
theorem NeedTo.step {l : List Nd} {i : Nat} {cs : Array Value} {u : Rx} (h : NeedTo l (i + 1) cs) (hu : At l i u) (s : ByteArray) (x : Bool) (hs : s.data.toList = (litL u).1) (hx : x = (litL u).2) :
 NeedTo l i ((cs.setIfInBounds (i * 2) (.string s)).setIfInBounds (i * 2 + 1) (.bool x)):=by
 obtain ⟨h1,h2,h0,h3⟩:=h
 have hlt:=hu.lt
 have hp:=flat_pos u
 have hg:=fun j => get_set2 (cs:=cs) (i:=i) (j:=j) (a:=.string s) (b:=.bool x) (by omega)
 refine ⟨by simpa using h1,fun j hj => ?_,fun j hj hj' => ?_,fun j v hj hv => ?_⟩
 ·rw [(hg j).1,(hg j).2]
  by_cases e : i = j
  ·rw [if_pos e,if_pos e];exact ⟨_,_,rfl,rfl⟩
  ·rw [if_neg e,if_neg e];exact h2 j hj
 ·rw [(hg j).1,(hg j).2,if_neg (by omega),if_neg (by omega)]
  exact h0 j (by omega) hj'
 ·rw [(hg j).1,(hg j).2]
  by_cases e : i = j
  ·subst e
   rw [if_pos rfl,if_pos rfl,hv.inj hu]
   exact ⟨s,hs,rfl,by rw [hx]⟩
  ·rw [if_neg e,if_neg e]
   exact h3 j v (by omega) hv
theorem NeedTo.stepB {l : List Nd} {i : Nat} {cs : Array Value} {u : Rx} (h : NeedTo l (i + 1) cs) (hu : At l i u) (hs : (litL u).1 = []) (hx : (litL u).2 = true) :
 NeedTo l i (cs.setIfInBounds (i * 2 + 1) (.bool true)):=by
 have hlt:=hu.lt
 have hp:=flat_pos u
 have h0:=(h.2.2.1 i (by omega) (by omega)).1
 have e : cs = cs.setIfInBounds (i * 2) (.string ⟨#[]⟩):=by
  apply Array.ext_getElem?
  intro k
  rw [Array.getElem?_setIfInBounds]
  split
  ·rename_i hk;subst hk;split
   ·exact h0
   ·rename_i hk;rw [Array.getElem?_eq_none (by omega)]
  ·rfl
 have hst:=NeedTo.step h hu ⟨#[]⟩ true (by rw [hs]) hx.symm
 rw [← e] at hst
 exact hst
theorem NeedTo.skip {l : List Nd} {i : Nat} {cs : Array Value} {u : Rx} (h : NeedTo l (i + 1) cs) (hu : At l i u) (hm : litL u = ([],false)) : NeedTo l i cs:=by
 obtain ⟨h1,h2,h0,h3⟩:=h
 have hlt:=hu.lt
 have hp:=flat_pos u
 refine ⟨h1,h2,fun j hj hj' => h0 j (by omega) hj',fun j v hj hv => ?_⟩
 by_cases e : j = i
 ·subst e
  rw [hv.inj hu,hm]
  have:=h0 j (by omega) (by omega)
  exact ⟨⟨#[]⟩,rfl,this.1,this.2⟩
 ·exact h3 j v (by omega) hv
def NV (w : World) (g : Nat) (xs : List Nat) (cs : Array Value) (w' : World) : Prop :=
 Blk w' (w.heap.size + 1) 138 cs ∧ Blk w' w.heap.size 138 #[.string ⟨#[]⟩,.bool false] ∧ (∀ (j x : Nat),xs[j]? = some x → w'.cell? ⟨g,j,none⟩ = some (.int .i64 (x : Int))) ∧ Below w.heap.size w w'
theorem NV.kept {w w1 w2 : World} {g : Nat} {xs : List Nat} {cs : Array Value} (h : NV w g xs cs w1) (hb : Below w1.heap.size w1 w2) : NV w g xs cs w2 :=
 ⟨h.1.kept hb,h.2.1.kept hb,fun j x hx => by
   have:=h.2.2.1 j x hx
   rw [hb.cell (p:=⟨g,j,none⟩) (World.block_lt_of_cell? w1 _ this)]
   exact this,h.2.2.2.trans (hb.mono h.2.2.2.size)⟩
theorem NV.set_ {w w1 : World} {g : Nat} {xs : List Nat} {cs : Array Value} (h : NV w g xs cs w1) (hg : g ≠ w.heap.size + 1) (k : Nat) (v : Value) : NV w g xs (cs.setIfInBounds k v) (w1.setCell ⟨w.heap.size + 1,k,none⟩ v) :=
 ⟨h.1.set_ k v,h.2.1.far (by show w.heap.size ≠ w.heap.size + 1;omega) v,fun j x hx => by
   have:=h.2.2.1 j x hx
   rw [World.cell?_of_block (Below.heap_setCell w1 _ v g (by show g ≠ w.heap.size + 1;exact hg))]
   exact this,h.2.2.2.setCell (by show w.heap.size ≤ w.heap.size + 1;omega) v⟩
def NVx (w : World) (g : Nat) (xs : List Nat) (cs : Array Value) (i : Nat) (w' : World) : Prop :=
 NV w g xs cs w' ∨ ∃ (w0 : World) (s : ByteArray) (x : Bool),w' = (w0.setCell ⟨w.heap.size + 1,i * 2,none⟩ (.string s)).setCell ⟨w.heap.size + 1,i * 2 + 1,none⟩ (.bool x) ∧ NV w g xs cs w0
theorem conv_byte (bb : Nat) (hb : bb < 256) (w : World) : (convert 30 9 (.slice (some ⟨w.heap.size,0,none⟩) 1 1)).run Tryz.prog (w.alloc (.cells #[.int .u8 (bb : Int)] 5)) = .ok (.string ⟨#[UInt8.ofNat bb]⟩) (w.alloc (.cells #[.int .u8 (bb : Int)] 5)):=by
 have h:=run_convert_bytes_back (P:=Tryz.prog) (w.alloc (.cells #[.int .u8 (bb : Int)] 5)) 30 9 5 ⟨w.heap.size,0,none⟩ 1 [UInt8.ofNat bb] Tryz.underlying30 Tryz.underlying5 Tryz.underlying9 (by
  intro j hj
  have : j = 0:=by simpa using hj
  subst this
  have e : (UInt8.ofNat bb).toNat = bb:=by simp;omega
  rw [add_mk,Nat.add_zero,(Blk.new w 5 #[.int .u8 (bb : Int)]).cell 0]
  simp [Nat.mod_eq_of_lt hb])
 exact h
theorem info_need : (Tryz.prog.info? 138).map (fun i => (i.zero,i.size,i.bytes)) = some (some (.agg #[.string ⟨#[]⟩,.bool false]),2,24):=by kernel_rfl
theorem mk_needs (n : Nat) (h : n ≤ 100000) (w : World) : (Instr.makeSlice 190 (.int .i64 (n : Int)) (.int .i64 (n : Int))).run Tryz.prog w = .ok (.slice (some ⟨w.heap.size,0,none⟩) n n) (w.alloc (.cells (madeCells #[.string ⟨#[]⟩,.bool false] (n * 2)) 138)):=by
 obtain ⟨i,hi,hz,hs,hb⟩:=info_parts info_need
 have hr:=run_make (P:=Tryz.prog) w 190 138 i _ Tryz.underlying190 hi hz .i64 .i64 n n (by omega) (by omega) (by rw [hb];omega) (by omega)
 simp only [Int.toNat_natCast,hs] at hr
 exact hr
theorem needs_ok (l : List Nd) (t : Rx) (hl : l = flat t) (hok : ∀ n ∈ l,okC n.cls) (v : Value) (w : World) (ht : l.length ≤ 60) (hr : RdN w v l) : Calls Tryz.prog 76 #[v] w (NeedIs (litL t) w):=by
 obtain ⟨A,cap,rfl,hcap,hcap2,hmem⟩:=hr.open_
 have hpos : 0 < l.length:=by rw [hl];exact flat_pos t
 have hall : ∀ i,i < l.length → ∃ u,At l i u:=fun i hi => by subst hl;exact at_each t i hi
 have hdone : ∀ cs,NeedTo l 0 cs → ∃ s : ByteArray,s.data.toList = (litL t).1 ∧ cs[0]? = some (.string s) ∧ cs[1]? = some (.bool (litL t).2):=fun cs h => h.2.2.2 0 t (by omega) (by rw [hl];exact At.whole t)
 have hends : ∀ W,RdN W (.slice A l.length cap) l → Calls Tryz.prog 113 #[.slice A l.length cap] W (EndsIs l W):=fun W h => Ends_any l t hl _ W ht h
 obtain ⟨b,off,rfl,hbl,hcells⟩:=hmem hpos
 have hb0 : ∀ o o',Below w.heap.size w ((w.alloc o).alloc o'):=fun o o' => below2' w o o'
 have HD:=hid hdone
 have HA:=hid hall
 have HC:=hid hcells
 have HR:=hid hr
 have HE:=hid hends
 have HOK:=hid hok
 have HB0:=hid hb0
 clear hdone hall hcells hr hmem hends hl hok hb0
 have hstart:=hid (NeedTo.start l)
 have hmk:=fun W => mk_needs l.length (by omega) W
 obtain ⟨cs0,hcs0⟩ : ∃ cs,cs = madeCells #[.string ⟨#[]⟩,.bool false] (l.length * 2):=⟨_,rfl⟩
 rw [← hcs0] at hmk hstart
 clear hcs0
 go_enter Tryz.func76,Tryz.ntmps76
 go_wp2_with fail
 refine (HE.out _ (HR.out.below (HB0.out _ _))).mono ?_
 rintro e w2 ⟨g,xs,rfl,hx1,hg1,hg2,hxc,hb2⟩
 have hgne : g ≠ w.heap.size + 1:=by simp at hg1;omega
 have hnv : NV w g xs cs0 w2:=⟨(Blk.new2 _ _ _ _).kept hb2,((Blk.new _ _ _).alloc _).kept hb2,hxc,(HB0.out _ _).trans (hb2.mono (by simp;omega))⟩
 have HX1:=hid hx1
 have HNV:=hid hnv
 have HGN:=hid hgne
 clear hx1 hxc hnv hmk hg1 hg2 hb2 hgne
 go_wp2_with fail
 go_loopw [5] (fun v5 wr => ∃ (m : Nat) (cs : Array Value),m ≤ l.length ∧ v5 = .int .i64 ((m : Int) - 1) ∧ Hid (NeedTo l m cs) ∧ Hid (NV w g xs cs wr)) (fun i _ => (intOf i + 1).toNat)
 case atStart => exact ⟨l.length,cs0,by omega,rfl,hstart,HNV⟩
 case round =>
  clear HNV hstart
  obtain ⟨m,cs,hm,hv5,HM,HNV⟩:=hrel
  rcases m with _ | i
  ·obtain rfl : u5 = .int .i64 (-1):=hv5
   obtain ⟨s,hs,c0,c1⟩:=HD.out cs HM.out
   have g0 : wr.cell? ⟨w.heap.size + 1,0,none⟩ = some (.string s):=by rw [HNV.out.1.cell];exact c0
   have g1 : wr.cell? ⟨w.heap.size + 1,1,none⟩ = some (.bool (litL t).2):=by rw [HNV.out.1.cell];exact c1
   have r0 : wr.cell? ⟨w.heap.size,0,none⟩ = some (.string ⟨#[]⟩):=by rw [HNV.out.2.1.cell];rfl
   have r1 : wr.cell? ⟨w.heap.size,1,none⟩ = some (.bool false):=by rw [HNV.out.2.1.cell];rfl
   have z0:=HNV.out.2.1.frozen 0
   have z1:=HNV.out.2.1.frozen 1
   have hpos' : (0 : Int) < (l.length : Int):=by omega
   have HSS:=hid hs
   clear hs c0 c1 HM
   generalize hx : (litL t).2 = x at *
   go_wp2
   have hk:=((HNV.out.2.1.set_ 0 (.string s)).set_ 1 (.bool x))
   refine bodyPost_ret (v:=.agg #[.string s,.bool x]) ?_ rfl ⟨s,x,rfl,HSS.out,hx.symm,?_⟩
   ·have k0:=hk.cell 0
    have k1:=hk.cell 1
    simp at k0 k1
    simp [results,Tryz.results76,go_sem,k0,k1]
   ·exact (HNV.out.2.2.2.setCell (Nat.le_refl _) _).setCell (Nat.le_refl _) _
  ·obtain rfl : u5 = .int .i64 (i : Int):=by rw [hv5];congr 1;omega
   clear hv5
   have hilt : i < l.length:=by omega
   obtain ⟨u,hu⟩:=HA.out i hilt
   have hcl:=HC.out wr (fun o => HNV.out.2.2.2.cell (p:=⟨b,o,none⟩) hbl) i
   have hcellB : ∀ (j : Nat) (x : Value),cs[j]? = some x → wr.cell? ⟨w.heap.size + 1,j,none⟩ = some x:=fun j x h => by rw [HNV.out.1.cell];exact h
   have hrest:=HM.out.2.2.2
   have hbig : i + (flat u).length ≤ l.length:=hu.lt
   have hstep:=fun s x h1 h2 => NeedTo.step HM.out hu s x h1 h2
   have hstepB:=fun h1 h2 => NeedTo.stepB HM.out hu h1 h2
   have hskip:=fun h => NeedTo.skip HM.out hu h
   have hends:=HX1.out.2
   obtain ⟨os,ox,o0,o1⟩:=HM.out.2.1 i hilt
   have gst0:=hcellB _ _ o0
   have gst1:=hcellB _ _ o1
   have gfr0:=HNV.out.1.frozen (i * 2)
   have gfr1:=HNV.out.1.frozen (i * 2 + 1)
   have HSK:=hid hskip
   have HST:=hid hstep
   have HSB:=hid hstepB
   clear hskip hstep hstepB HC HA
   cases u with
   | bgn =>
     obtain ⟨q0,_⟩:=hcl _ hu.bgn
     dsimp only at q0
     clear hcl hrest hends hcellB hu hbig o0 o1
     go_wp2
     go_roundw
     case rel => exact ⟨i,cs,by omega,by go_num,hid (HSK.out rfl),HNV⟩
     case measure => simp [intOf]
   | fin =>
     obtain ⟨q0,_⟩:=hcl _ hu.fin
     dsimp only at q0
     clear hcl hrest hends hcellB hu hbig o0 o1
     go_wp2
     go_roundw
     case rel => exact ⟨i,cs,by omega,by go_num,hid (HSK.out rfl),HNV⟩
     case measure => simp [intOf]
   | star a =>
     obtain ⟨q0,_⟩:=hcl _ hu.star.1
     dsimp only at q0
     clear hcl hrest hends hcellB hu hbig o0 o1
     go_wp2
     go_roundw
     case rel => exact ⟨i,cs,by omega,by go_num,hid (HSK.out rfl),HNV⟩
     case measure => simp [intOf]
   | opt a =>
     obtain ⟨q0,_⟩:=hcl _ hu.opt.1
     dsimp only at q0
     clear hcl hrest hends hcellB hu hbig o0 o1
     go_wp2
     go_roundw
     case rel => exact ⟨i,cs,by omega,by go_num,hid (HSK.out rfl),HNV⟩
     case measure => simp [intOf]
   | alt a b' =>
     obtain ⟨q0,_⟩:=hcl _ hu.alt.1
     dsimp only at q0
     clear hcl hrest hends hcellB hu hbig o0 o1
     go_wp2
     go_roundw
     case rel => exact ⟨i,cs,by omega,by go_num,hid (HSK.out rfl),HNV⟩
     case measure => simp [intOf]
   | empty =>
     obtain ⟨q0,_⟩:=hcl _ hu.empty
     dsimp only at q0
     clear hcl hrest hends hcellB hu hbig o0 o1
     go_wp2
     go_roundw
     case rel => exact ⟨i,_,by omega,by go_num,hid (HSB.out rfl rfl),hid (HNV.out.set_ HGN.out _ _)⟩
     case measure => simp [intOf]
   | plus a =>
     obtain ⟨hn,h1⟩:=hu.plus
     obtain ⟨q0,_⟩:=hcl _ hn
     obtain ⟨sa,hsa,ca,_⟩:=hrest (i + 1) a (by omega) h1
     have c1:=hcellB _ _ ca
     have l1:=h1.lt
     have p1:=flat_pos a
     have HSA:=hid hsa
     dsimp only at q0
     clear hcl hrest hends hcellB hu h1 hn hsa ca o0 o1
     go_wp2
     go_roundw
     case rel => exact ⟨i,_,by omega,by go_num,hid (HST.out sa false HSA.out rfl),hid ((HNV.out.set_ HGN.out _ _).set_ HGN.out _ _)⟩
     case measure => simp [intOf]
   | byte c =>
     obtain ⟨q0,q1,q2,q3,q4⟩:=hcl _ hu.byte
     have hc:=HOK.out _ (List.mem_of_getElem? hu.byte)
     obtain ⟨c0,c1,c2,c3⟩:=c
     dsimp only at q0 q1 q2 q3 q4 hc
     have hlit : litL (.byte (c0,c1,c2,c3)) = if cntC (c0,c1,c2,c3) = 1 then ([UInt8.ofNat (least (c0,c1,c2,c3) 0)],true) else ([],false):=rfl
     have HLI:=hid hlit
     have HON:=hid fun W => Only_any c0 c1 c2 c3 W hc
     have O0:=hid o0
     have O1:=hid o1
     clear hcl hrest hends hcellB hu hbig hlit hc o0 o1
     by_cases h1 : cntC (c0,c1,c2,c3) = 1
     ·have H1:=hid h1
      have HO : Hid (∀ W,Calls Tryz.prog 114 #[.agg #[.int .u64 (c0 : Int),.int .u64 (c1 : Int),.int .u64 (c2 : Int),.int .u64 (c3 : Int)]] W (fun e w' => ∃ g : Nat,e = .returned (.tuple #[.int .u8 (g : Int),.bool true]) ∧ g = least (c0,c1,c2,c3) 0 ∧ g < 256 ∧ Below W.heap.size W w')):=hid fun W => (HON.out W).mono (by
       rintro e w' (⟨b,e1,e2,e3,e4,e5⟩ | ⟨_,h,_⟩)
       ·exact ⟨b,e1,e3,e4,e5⟩
       ·exact absurd h1 h)
      clear h1 HON gst0 gst1 gfr0 gfr1
      have o0':=O0.out
      have o1':=O1.out
      go_wp2_with (go_at_call 114;refine (HO.out _).mono ?_;rintro e w3 ⟨bb,rfl,hbb,hlt8,hb3⟩;have HBB:=hid hbb;have hn3:=(HNV.out.kept hb3);have HN3:=hid (fun o => hn3.kept ((Below.refl _ _).alloc (Nat.le_refl _) o));clear hn3;have hcv:=conv_byte bb hlt8 w3;have gs0:=(fun o => ((HN3.out o).1.cell (i * 2)).trans o0');have gs1:=(fun o => ((HN3.out o).1.cell (i * 2 + 1)).trans o1');have gf0:=(fun o => (HN3.out o).1.frozen (i * 2));have gf1:=(fun o => (HN3.out o).1.frozen (i * 2 + 1));clear hbb hb3 HO o0' o1')
      go_roundw
      case rel => exact ⟨i,_,by omega,by go_num,hid (HST.out ⟨#[UInt8.ofNat bb]⟩ true (by rw [HLI.out,if_pos H1.out,HBB.out]) (by rw [HLI.out,if_pos H1.out])),hid (((HN3.out _).set_ HGN.out _ _).set_ HGN.out _ _)⟩
      case measure => simp [intOf]
     ·have HO : Hid (∀ W,Calls Tryz.prog 114 #[.agg #[.int .u64 (c0 : Int),.int .u64 (c1 : Int),.int .u64 (c2 : Int),.int .u64 (c3 : Int)]] W (fun e w' => e = .returned (.tuple #[.int .u8 0,.bool false]) ∧ Below W.heap.size W w')):=hid fun W => (HON.out W).mono (by
       rintro e w' (⟨b,e1,e2,e3,e4,e5⟩ | ⟨h,_,h'⟩)
       ·exact absurd e2 h1
       ·exact ⟨h,h'⟩)
      have HSK2:=hid (HSK.out (by rw [HLI.out,if_neg h1]))
      clear h1 HON
      go_wp2_with (go_at_call 114;refine (HO.out _).mono ?_;rintro e w3 ⟨rfl,hb3⟩;have HN3:=hid (HNV.out.kept hb3);clear hb3 HO)
      go_roundw
      case rel => exact ⟨i,cs,by omega,by go_num,HSK2,HN3⟩
      case measure => simp [intOf]
   | cat a b' =>
     obtain ⟨hn,h1,h2⟩:=hu.cat
     obtain ⟨q0,_⟩:=hcl _ hn
     obtain ⟨sa,hsa,ca0,ca1⟩:=hrest (i + 1) a (by omega) h1
     have ce:=hends (i + 1) a h1
     obtain ⟨sb,hsb,cb0,cb1⟩:=hrest (i + 1 + (flat a).length) b' (by omega) h2
     have l1:=h1.lt
     have l2:=h2.lt
     have p1:=flat_pos a
     have p2:=flat_pos b'
     have za : sa.size ≤ 60:=by rw [sz_list,hsa];have:=litL_len a;omega
     have zb : sb.size ≤ 60:=by rw [sz_list,hsb];have:=litL_len b';omega
     obtain ⟨e2,he2⟩ : ∃ e2,e2 = i + 1 + (flat a).length:=⟨_,rfl⟩
     rw [← he2] at ce cb0 cb1 l2
     have he2l : e2 < l.length:=by omega
     have he2i : i + 1 < e2:=by omega
     have HLC : Hid (litL (.cat a b') = catL (sa.data.toList,(litL a).2) (sb.data.toList,(litL b').2)):=hid (by rw [hsa,hsb];rfl)
     have HCAT : Hid (∀ w',Hid (NV w g xs cs w') → Calls Tryz.prog 115 #[.agg #[.string sa,.bool (litL a).2],.agg #[.string sb,.bool (litL b').2]] w' (fun e w2 => ∃ (s : ByteArray) (x : Bool),e = .returned (.agg #[.string s,.bool x]) ∧ Hid (s.data.toList = (litL (.cat a b')).1 ∧ x = (litL (.cat a b')).2) ∧ Hid (NV w g xs cs w2))):=hid fun w' h => (cat_any sa sb _ _ w' za zb).mono (by
      rintro e w2 ⟨s,x,e1,e2,e3,e4⟩
      exact ⟨s,x,e1,hid ⟨by rw [HLC.out,e2],by rw [HLC.out,e3]⟩,hid (h.out.kept e4)⟩)
     have hfacts : ∀ w',NV w g xs cs w' → (w'.cell? ⟨w.heap.size + 1,(i + 1) * 2,none⟩ = some (.string sa) ∧ w'.cell? ⟨w.heap.size + 1,(i + 1) * 2 + 1,none⟩ = some (.bool (litL a).2) ∧ w'.cell? ⟨g,i + 1,none⟩ = some (.int .i64 (e2 : Int)) ∧ w'.cell? ⟨w.heap.size + 1,e2 * 2,none⟩ = some (.string sb) ∧ w'.cell? ⟨w.heap.size + 1,e2 * 2 + 1,none⟩ = some (.bool (litL b').2)):=fun w' h =>
      ⟨(h.1.cell _).trans ca0,(h.1.cell _).trans ca1,h.2.2.1 _ _ ce,(h.1.cell _).trans cb0,(h.1.cell _).trans cb1⟩
     have hGN:=HGN.out
     have hS0 : ∀ w',Hid (NVx w g xs cs i w') → (w'.cell? ⟨w.heap.size + 1,(i + 1) * 2,none⟩ = some (.string sa) ∧ w'.cell? ⟨w.heap.size + 1,(i + 1) * 2 + 1,none⟩ = some (.bool (litL a).2) ∧ w'.cell? ⟨g,i + 1,none⟩ = some (.int .i64 (e2 : Int)) ∧ w'.cell? ⟨w.heap.size + 1,e2 * 2,none⟩ = some (.string sb) ∧ w'.cell? ⟨w.heap.size + 1,e2 * 2 + 1,none⟩ = some (.bool (litL b').2)):=fun w' h => by
      rcases h.out with h0 | ⟨w0,s,x,rfl,h0⟩
      ·exact hfacts w' h0
      ·have h1:=(h0.set_ hGN (i * 2) (.string s)).set_ hGN (i * 2 + 1) (.bool x)
       have hne : i * 2 + 1 < cs.size:=by have:=HM.out.1;omega
       have hq:=fun j => get_set2 (cs:=cs) (i:=i) (j:=j) (a:=.string s) (b:=.bool x) hne
       refine ⟨(h1.1.cell _).trans ?_,(h1.1.cell _).trans ?_,h1.2.2.1 _ _ ce,(h1.1.cell _).trans ?_,(h1.1.cell _).trans ?_⟩
       ·rw [(hq (i + 1)).1,if_neg (by omega)];exact ca0
       ·rw [(hq (i + 1)).2,if_neg (by omega)];exact ca1
       ·rw [(hq e2).1,if_neg (by omega)];exact cb0
       ·rw [(hq e2).2,if_neg (by omega)];exact cb1
     have hS : ∀ w',Hid (NVx w g xs cs i w') → (w'.cell? ⟨w.heap.size + 1,(i + 1) * 2,none⟩ = some (.string sa) ∧ w'.cell? ⟨w.heap.size + 1,(i + 1) * 2 + 1,none⟩ = some (.bool (litL a).2) ∧ w'.cell? ⟨g,i + 1,none⟩ = some (.int .i64 (e2 : Int)) ∧ w'.cell? ⟨w.heap.size + 1,e2 * 2,none⟩ = some (.string sb) ∧ w'.cell? ⟨w.heap.size + 1,e2 * 2 + 1,none⟩ = some (.bool (litL b').2) ∧ Hid (NVx w g xs cs i w')):=fun w' h => ⟨(hS0 w' h).1,(hS0 w' h).2.1,(hS0 w' h).2.2.1,(hS0 w' h).2.2.2.1,(hS0 w' h).2.2.2.2,h⟩
     have HS:=hid hS
     have HND : Hid (NV w g xs cs wr.drew):=hid (HNV.out.kept (Below.refl _ _).drew)
     have HST0 : Hid (∀ w',NV w g xs cs w' → (w'.cell? ⟨w.heap.size + 1,i * 2,none⟩ = some (.string os) ∧ w'.cell? ⟨w.heap.size + 1,i * 2 + 1,none⟩ = some (.bool ox) ∧ w'.frozen? ⟨w.heap.size + 1,i * 2,none⟩ = false ∧ w'.frozen? ⟨w.heap.size + 1,i * 2 + 1,none⟩ = false)):=hid fun w' h => ⟨(h.1.cell _).trans o0,(h.1.cell _).trans o1,h.1.frozen _,h.1.frozen _⟩
     have d1 : (i : Int) + 1 < (l.length : Int):=by omega
     have d2 : (e2 : Int) < (l.length : Int):=by omega
     have d3 : (i : Int) < (l.length : Int):=by omega
     have d4 : (0 : Int) ≤ (i : Int) + 1:=by omega
     have hwr : IntKind.i64.wrap ((i : Int) + 1) = (i : Int) + 1:=IntWalk.i64_in _ (by omega)
     have d5 : (0 : Int) ≤ (e2 : Int):=by omega
     have d6 : (0 : Int) ≤ (i : Int):=by omega
     have HX : Hid (NVx w g xs cs i wr):=hid (.inl HNV.out)
     obtain ⟨f0,f1,f2,f3,f4⟩:=hfacts wr HNV.out
     dsimp only at q0
     clear hcl hrest hends hcellB hu h1 h2 hn hsa hsb ca0 ca1 cb0 cb1 o0 o1 hS hS0 hfacts ce he2 gst0 gst1 gfr0 gfr1 hGN HM
     generalize (litL a).2 = xa at *
     generalize (litL b').2 = xb at *
     go_wp2_with fail
     go_region_held3 (fun w' => w'.cell? ⟨w.heap.size + 1,(i + 1) * 2,none⟩ = some (.string sa) ∧ w'.cell? ⟨w.heap.size + 1,(i + 1) * 2 + 1,none⟩ = some (.bool xa) ∧ w'.cell? ⟨g,i + 1,none⟩ = some (.int .i64 (e2 : Int)) ∧ w'.cell? ⟨w.heap.size + 1,e2 * 2,none⟩ = some (.string sb) ∧ w'.cell? ⟨w.heap.size + 1,e2 * 2 + 1,none⟩ = some (.bool xb) ∧ Hid (NVx w g xs cs i w'))
      (exact HS.out _ (by first | exact hid (.inl (Hid.out (by assumption))) | exact hid (.inr ⟨_,_,_,rfl,Hid.out (by assumption)⟩)))
      (first | (go_at_call 115;refine (HCAT.out _ (by assumption)).mono ?_;rintro e w5 ⟨s,x,rfl,hsx,henv⟩;obtain ⟨g0,g1,g2,g3⟩:=HST0.out _ henv.out))
     go_wp2_with fail
     go_roundw
     case rel => exact ⟨i,_,by omega,by go_num,hid (HST.out s x hsx.out.1 hsx.out.2),hid ((henv.out.set_ HGN.out _ _).set_ HGN.out _ _)⟩
     case measure => simp [intOf]
theorem need_field (s : ByteArray) (x : Bool) (w : World) : (Instr.field 138 (.agg #[.string s,.bool x]) 0).run Tryz.prog w = .ok (.string s) w:=by kernel_rfl
def NeededIs (t : Rx) (w : World) (e : Ending) (w' : World) : Prop:=∃ s : ByteArray,e = .returned (.tuple #[.string s,.nilIface]) ∧ s.data.toList = (litL t).1 ∧ Below w.heap.size w w'
theorem Needed_ok (l : List Nd) (t : Rx) (hl : l = flat t) (hok : ∀ n ∈ l,okC n.cls) (v : Value) (w : World) (ht : l.length ≤ 60) (hr : RdN w v l) : Calls Tryz.prog 48 #[v] w (NeededIs t w):=by
 have hchk : chk l = 0:=by rw [hl];exact chk_flat t (by rw [← hl];exact ht)
 have HCH:=hid hchk
 have HN:=hid fun W h => needs_ok l t hl hok v W ht h
 have HR:=hid hr
 obtain ⟨A,cap,rfl,hcap,hcap2,hmem⟩:=hr.open_
 clear hchk hr hmem hok hl
 go_enter Tryz.func48,Tryz.ntmps48
 go_wp2_with fail
 refine (Check_any l _ _ HR.out).mono ?_
 rintro e w1 ⟨rfl,hb1⟩
 rw [HCH.out,errV_zero]
 have HB1:=hid hb1
 clear hb1
 go_wp2_with fail
 refine (HN.out _ (HR.out.below HB1.out)).mono ?_
 rintro e w2 ⟨s,x,rfl,hs,hx,hb2⟩
 have HS:=hid hs
 have HB2:=hid hb2
 clear hs hx hb2
 have hfd:=fun W => need_field s x W
 go_wp2_with fail
 go_ret2
 exact ⟨s,rfl,HS.out,HB1.out.trans (HB2.out.mono HB1.out.size)⟩
end Go.Proofs.YthhcpbfgoofppaaGreatDoor
namespace Go.Proofs.YthhcpbfgoofppaaGreatDoor
open Go.RowKit Go.Extern.Stop Go.Stop Go.Extern Wf
theorem asValueOfP (t : Addr) (w : World) : (ReflectliteValue.unpack (.iface 102 (.pointer (some t)))).run Tryz.prog w
 = .ok (.agg #[.pointer (some ⟨7,102,none⟩),.pointer (some ⟨w.heap.size,0,none⟩),.int .u64 150]) (w.alloc (.cells #[.pointer (some t)] 102)):=by kernel_rfl
theorem asTypeP (a : Addr) (w : World) : (ReflectliteValue.methodAny (ReflectliteValue.valueError "reflectlite.Value.Type" 0) (fun t _ _ _ => ReflectliteType.toType t) #[.agg #[.pointer (some ⟨7, 102, none⟩), .pointer (some a), .int .u64 150]]).run Tryz.prog w
 = .ok (.iface 197 (.agg #[.pointer (some ⟨7,102,none⟩)])) w:=by kernel_rfl
theorem asMethodKind (h : Value) (w : World) : (Go.method 455 197 (.agg #[h]) "Kind").run Tryz.prog w = .ok (240, h) w := by kernel_rfl
theorem asKindP (w : World) : ((ReflectliteType.abiMethod fun t => (fun a : Nat => Value.int IntKind.u8 (a : Int)) <$> Rtype.kind t) #[.pointer (some ⟨7,102,none⟩)]).run Tryz.prog w = .ok (.int .u8 22) w:=by kernel_rfl
theorem asKindE (w : World) : ((ReflectliteType.abiMethod fun t => (fun a : Nat => Value.int IntKind.u8 (a : Int)) <$> Rtype.kind t) #[.pointer (some ⟨7,81,none⟩)]).run Tryz.prog w = .ok (.int .u8 2) w:=by kernel_rfl
theorem asRlm (z : Sem Value) (f : TypeId → Addr → Nat → Nat → Sem Value) (v : Value) :
 ReflectliteValue.method z f #[v] = (do match ← ReflectliteValue.parts v with | none => z | some (t,a,fl) => f t a fl (fl % 32)):=rfl
theorem asPartsP (a : Addr) (w : World) : (ReflectliteValue.parts (.agg #[.pointer (some ⟨7,102,none⟩),.pointer (some a),.int .u64 150])).run Tryz.prog w = .ok (some (102,a,150)) w:=by kernel_rfl
theorem asIsNilP (a p : Addr) (W : World) (ha : W.cell? a = some (.pointer (some p))) :
 (ReflectliteValue.method (ReflectliteValue.valueError "reflectlite.Value.IsNil" 0) ReflectliteValue.isNil #[.agg #[.pointer (some ⟨7, 102, none⟩), .pointer (some a), .int .u64 150]]).run Tryz.prog W = .ok (.bool false) W := by
 rw [asRlm]
 simp only [Sem.run_bind,asPartsP,Result.andThen]
 simp [ReflectliteValue.isNil,loadVar,isAgg,underlying,Tryz.underlying102,ha,Result.andThen]
theorem asMethodElem (h : Value) (w : World) : (Go.method 455 197 (.agg #[h]) "Elem").run Tryz.prog w = .ok (251, .agg #[h]) w := by kernel_rfl
theorem asMethodImplements (h : Value) (w : World) : (Go.method 455 197 (.agg #[h]) "Implements").run Tryz.prog w = .ok (252, .agg #[h]) w := by kernel_rfl
theorem asMethodAssignableTo (h : Value) (w : World) : (Go.method 455 197 (.agg #[h]) "AssignableTo").run Tryz.prog w = .ok (249, .agg #[h]) w := by kernel_rfl
theorem asElemP (w : World) : (ReflectliteType.method ReflectliteType.elem #[.agg #[.pointer (some ⟨7,102,none⟩)]]).run Tryz.prog w = .ok (.iface 197 (.agg #[.pointer (some ⟨7,81,none⟩)])) w:=by kernel_rfl
theorem asImplementsE (w : World) : (ReflectliteType.relation "Implements" ReflectliteType.implements_ #[.agg #[.pointer (some ⟨7, 81, none⟩)], .iface 197 (.agg #[.pointer (some ⟨7, 36, none⟩)])]).run Tryz.prog w = .ok (.bool true) w := by kernel_rfl
theorem asTypeOfE (v : Value) (w : World) : (ReflectliteType.typeOf #[.iface 81 v]).run Tryz.prog w = .ok (.iface 197 (.agg #[.pointer (some ⟨7,81,none⟩)])) w:=by kernel_rfl
theorem asAssignableE (w : World) : (ReflectliteType.relation "AssignableTo" ReflectliteType.assignableTo #[.agg #[.pointer (some ⟨7, 81, none⟩)], .iface 197 (.agg #[.pointer (some ⟨7, 81, none⟩)])]).run Tryz.prog w = .ok (.bool true) w := by kernel_rfl
theorem asValueOfE (n : Int) (w : World) : (ReflectliteValue.unpack (.iface 81 (.int .i64 n))).run Tryz.prog w
 = .ok (.agg #[.pointer (some ⟨7,81,none⟩),.pointer (some ⟨w.heap.size,0,none⟩),.int .u64 130]) (w.alloc (.cells #[.int .i64 n] 81)):=by kernel_rfl
theorem asElemOfP (w : World) : (Rtype.elem? 102).run Tryz.prog w = .ok (some 81) w:=by kernel_rfl
theorem asMkE (p : Addr) (w : World) : (ReflectliteValue.mk 81 p ReflectliteValue.flagAddr).run Tryz.prog w = .ok (.agg #[.pointer (some ⟨7,81,none⟩),.pointer (some p),.int .u64 386]) w:=by kernel_rfl
theorem asElemVP (a p : Addr) (W : World) (ha : W.cell? a = some (.pointer (some p))) :
 (ReflectliteValue.method (ReflectliteValue.valueError "reflectlite.Value.Elem" 0) ReflectliteValue.elem #[.agg #[.pointer (some ⟨7, 102, none⟩), .pointer (some a), .int .u64 150]]).run Tryz.prog W
   = .ok (.agg #[.pointer (some ⟨7,81,none⟩),.pointer (some p),.int .u64 386]) W:=by
 rw [asRlm]
 simp only [Sem.run_bind,asPartsP,Result.andThen]
 simp [ReflectliteValue.elem,loadVar,isAgg,underlying,Tryz.underlying102,ha,Result.andThen,asElemOfP,asMkE]
theorem asRls (v x : Value) : ReflectliteValue.set #[v,x] = (do
 let (some (dst,a,fl),some (src,b,_)):=(← ReflectliteValue.parts v,← ReflectliteValue.parts x)
  | unsupported (.noEntry "extern/(internal/reflectlite.Value).Set.zeroValue")
 if fl / ReflectliteValue.flagAddr % 2 == 0 then unsupported (.noEntry "extern/(internal/reflectlite.Value).Set.unaddressable")
 let val ← loadVar src b
 if ← Rtype.directlyAssignable dst src then storeVar dst a val
 else if ← Rtype.implements dst src then
  if (← Rtype.kind src) == 20 then
   match val with
   | .nilIface => unsupported (.noEntry "extern/reflectlite: a nil value of one interface type handed on as a value of another")
   | _ => storeVar dst a val
  else storeVar dst a (.iface src val)
 else panicString ("reflectlite.Set: value of type " ++ (← Rtype.spelt src) ++ " is not assignable to type " ++ (← Rtype.spelt dst))
 pure (.tuple #[])):=rfl
theorem asPartsEa (a : Addr) (w : World) : (ReflectliteValue.parts (.agg #[.pointer (some ⟨7,81,none⟩),.pointer (some a),.int .u64 386])).run Tryz.prog w = .ok (some (81,a,386)) w:=by kernel_rfl
theorem asPartsE (a : Addr) (w : World) : (ReflectliteValue.parts (.agg #[.pointer (some ⟨7,81,none⟩),.pointer (some a),.int .u64 130])).run Tryz.prog w = .ok (some (81,a,130)) w:=by kernel_rfl
theorem asDirectE (w : World) : (Rtype.directlyAssignable 81 81).run Tryz.prog w = .ok true w:=by kernel_rfl
theorem asSetE (ta b : Addr) (n : Int) (old : Value) (W : World) (hb : W.cell? b = some (.int .i64 n)) (ht : W.cell? ta = some old) (hf : W.frozen? ta = false) :
 (ReflectliteValue.set #[.agg #[.pointer (some ⟨7,81,none⟩),.pointer (some ta),.int .u64 386],.agg #[.pointer (some ⟨7,81,none⟩),.pointer (some b),.int .u64 130]]).run Tryz.prog W
   = .ok (.tuple #[]) (W.setCell ta (.int .i64 n)):=by
 rw [asRls]
 simp only [Sem.run_bind,asPartsEa,asPartsE,Result.andThen]
 simp [ReflectliteValue.flagAddr,loadVar,isAgg,underlying,Tryz.underlying81,hb,Result.andThen,asDirectE,storeVar,Value.cells,storeCells,Addr.add]
 rw [run_store Tryz.prog W ta _ _ (by rfl)]
 simp [ht,hf]
def ErrT (w : World) : Prop:=w.cell? ⟨1,0,none⟩ = some (.iface 197 (.agg #[.pointer (some ⟨7,36,none⟩)]))
theorem ErrT.below {w w' : World} (h : ErrT w) (hb : Below w.heap.size w w') : ErrT w':=(hb.cell (p:=⟨1,0,none⟩) (World.block_lt_of_cell? w _ h)).trans h
theorem as_hit (n : Int) (t : Addr) (old : Value) (w : World) (hg : ErrT w) (ht0 : w.cell? t = some old) (hf0 : w.frozen? t = false) :
 Calls Tryz.prog 49 #[.iface 81 (.int .i64 n),.iface 102 (.pointer (some t))] w fun ev w' => ev = .returned (.bool true) ∧
  w' = ((((w.alloc (.cells #[.pointer (some t)] 102)).alloc (.cells #[.pointer (some ⟨7,102,none⟩),.pointer (some ⟨w.heap.size,0,none⟩),.int .u64 150] 142)).alloc (.cells #[.pointer (some ⟨7,102,none⟩),.pointer (some ⟨w.heap.size,0,none⟩),.int .u64 150] 142)).alloc (.cells #[.int .i64 n] 81)).setCell t (.int .i64 n):=by
 have h6:=@run_callFunc_extern Tryz.prog 77 _ (fun args => ReflectliteValue.unpack (args.getD 0 (.tuple #[]))) Tryz.func77 (by kernel_rfl) (by kernel_rfl) (by kernel_rfl) (by kernel_rfl)
 have h7 := @run_callFunc_extern Tryz.prog 78 _ (ReflectliteValue.methodAny (ReflectliteValue.valueError "reflectlite.Value.Type" 0) (fun t _ _ _ => ReflectliteType.toType t)) Tryz.func78 (by kernel_rfl) (by kernel_rfl) (by kernel_rfl) (by kernel_rfl)
 have h8 := @run_callFunc_extern Tryz.prog 79 _ (ReflectliteValue.method (ReflectliteValue.valueError "reflectlite.Value.IsNil" 0) ReflectliteValue.isNil) Tryz.func79 (by kernel_rfl) (by kernel_rfl) (by kernel_rfl) (by kernel_rfl)
 have h27:=@run_callFunc_extern Tryz.prog 240 _ (ReflectliteType.abiMethod fun t => do pure (.int .u8 (← Rtype.kind t))) Tryz.func240 (by kernel_rfl) (by kernel_rfl) (by kernel_rfl) (by kernel_rfl)
 have h37:=@run_callFunc_extern Tryz.prog 251 _ (ReflectliteType.method ReflectliteType.elem) Tryz.func251 (by kernel_rfl) (by kernel_rfl) (by kernel_rfl) (by kernel_rfl)
 have h38 := @run_callFunc_extern Tryz.prog 252 _ (ReflectliteType.relation "Implements" ReflectliteType.implements_) Tryz.func252 (by kernel_rfl) (by kernel_rfl) (by kernel_rfl) (by kernel_rfl)
 have h10:=@run_callFunc_extern Tryz.prog 116 _ ReflectliteType.typeOf Tryz.func116 (by kernel_rfl) (by kernel_rfl) (by kernel_rfl) (by kernel_rfl)
 have h35 := @run_callFunc_extern Tryz.prog 249 _ (ReflectliteType.relation "AssignableTo" ReflectliteType.assignableTo) Tryz.func249 (by kernel_rfl) (by kernel_rfl) (by kernel_rfl) (by kernel_rfl)
 have h11 := @run_callFunc_extern Tryz.prog 117 _ (ReflectliteValue.method (ReflectliteValue.valueError "reflectlite.Value.Elem" 0) ReflectliteValue.elem) Tryz.func117 (by kernel_rfl) (by kernel_rfl) (by kernel_rfl) (by kernel_rfl)
 have h12:=@run_callFunc_extern Tryz.prog 118 _ ReflectliteValue.set Tryz.func118 (by kernel_rfl) (by kernel_rfl) (by kernel_rfl) (by kernel_rfl)
 have tO:=asTypeOfE
 have mA:=asMethodAssignableTo
 have a25:=asAssignableE
 have v25:=asValueOfE
 have f6:=asValueOfP
 have f7:=asTypeP
 have mK:=asMethodKind
 have mE:=asMethodElem
 have mI:=asMethodImplements
 have k27:=asKindP
 have k25:=asKindE
 have e27:=asElemP
 have i25:=asImplementsE
 have n8:=asIsNilP ⟨w.heap.size,0,none⟩ t ((w.alloc (.cells #[.pointer (some t)] 102)).alloc (.cells #[.pointer (some ⟨7,102,none⟩),.pointer (some ⟨w.heap.size,0,none⟩),.int .u64 150] 142)) (by simp)
 have hlt : 1 < w.heap.size:=World.block_lt_of_cell? w _ hg
 have hg2 : ((w.alloc (.cells #[.pointer (some t)] 102)).alloc (.cells #[.pointer (some ⟨7,102,none⟩),.pointer (some ⟨w.heap.size,0,none⟩),.int .u64 150] 142)).cell? ⟨1,0,none⟩ = some (.iface 197 (.agg #[.pointer (some ⟨7,36,none⟩)])):=by
  rw [World.cell?_alloc_lt _ _ ⟨1,0,none⟩ (by simp <;> omega),World.cell?_alloc_lt _ _ ⟨1,0,none⟩ hlt];exact hg
 have htl : t.block < w.heap.size:=World.block_lt_of_cell? w _ ht0
 have el:=asElemVP ⟨w.heap.size,0,none⟩ t (((w.alloc (.cells #[.pointer (some t)] 102)).alloc (.cells #[.pointer (some ⟨7,102,none⟩),.pointer (some ⟨w.heap.size,0,none⟩),.int .u64 150] 142)).alloc (.cells #[.pointer (some ⟨7,102,none⟩),.pointer (some ⟨w.heap.size,0,none⟩),.int .u64 150] 142)) (by rw [World.cell?_alloc_lt _ _ ⟨w.heap.size,0,none⟩ (by simp;omega)];simp)
 have st:=asSetE t ⟨w.heap.size + 1 + 1 + 1,0,none⟩ n old ((((w.alloc (.cells #[.pointer (some t)] 102)).alloc (.cells #[.pointer (some ⟨7,102,none⟩),.pointer (some ⟨w.heap.size,0,none⟩),.int .u64 150] 142)).alloc (.cells #[.pointer (some ⟨7,102,none⟩),.pointer (some ⟨w.heap.size,0,none⟩),.int .u64 150] 142)).alloc (.cells #[.int .i64 n] 81))
  (by rw [World.cell?_alloc_at _ _ _ _ (by simp)];rfl)
  (by rw [World.cell?_alloc_lt _ _ t (by simp;omega),World.cell?_alloc_lt _ _ t (by simp;omega),World.cell?_alloc_lt _ _ t (by simp;omega),World.cell?_alloc_lt _ _ t htl];exact ht0)
  (by rw [World.frozen?_alloc_old _ _ t (by simp;omega),World.frozen?_alloc_old _ _ t (by simp;omega),World.frozen?_alloc_old _ _ t (by simp;omega),World.frozen?_alloc_old _ _ t (Nat.ne_of_lt htl)];exact hf0)
 clear hg
 go_enter Tryz.func49,Tryz.ntmps49
 go_wp2
 refine wp_loop_rounds 1 ?_
 rw [rounds_succ]
 go_wp2
 go_ret
 exact ⟨rfl,rfl⟩
theorem below_setAs {w W : World} {t : Addr} {v : Value} {B : Nat} (h : Below B w W) (ht : B ≤ t.block) : Below B w (W.setCell t v):=h.setCell ht v
end Go.Proofs.YthhcpbfgoofppaaGreatDoor
