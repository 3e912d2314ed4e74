/-
  Pneed, SetI, SetJ.
-/
import Derived.Test.YthhcpbfgoofppaaGreatDoorGPu
import Derived.Test.YthhcpbfgoofppaaGreatDoorGSetF
import Derived.Test.YthhcpbfgoofppaaGreatDoorGVals
import Derived.Test.YthhcpbfgoofppaaGreatDoorWordA
set_option linter.unusedVariables false
set_option linter.unusedSimpArgs false
set_option maxRecDepth 100000
set_option maxHeartbeats 8000000
open Go.Lib (hid)
namespace Wf
open Classical
noncomputable def addN (acc : List ByteArray) (n : ByteArray) : List ByteArray:=if n.size ≠ 0 ∧ n ∉ acc then acc ++ [n] else acc
noncomputable def needL (ns : List ByteArray) : List ByteArray:=ns.foldl addN []
theorem needL_snoc {ns : List ByteArray} {k : Nat} {n : ByteArray} (h : ns[k]? = some n) : needL (ns.take (k + 1)) = addN (needL (ns.take k)) n:=by
 unfold needL
 rw [List.take_add_one,h,Option.toList_some,List.foldl_append]
 rfl
theorem foldN (ns : List ByteArray) : ∀ acc : List ByteArray,acc.Nodup → (∀ s ∈ acc,s.size ≠ 0) →
 (ns.foldl addN acc).Nodup ∧ (∀ s,s ∈ ns.foldl addN acc ↔ s ∈ acc ∨ (s ∈ ns ∧ s.size ≠ 0)) ∧ (ns.foldl addN acc).length ≤ acc.length + ns.length:=by
 induction ns with
 | nil => intro acc h1 h2;exact ⟨h1,fun s => by simp,by simp⟩
 | cons n r ih =>
   intro acc h1 h2
   rw [List.foldl_cons]
   by_cases hn : n.size ≠ 0 ∧ n ∉ acc
   ·rw [show addN acc n = acc ++ [n] from if_pos hn]
    obtain ⟨i1,i2,i3⟩:=ih (acc ++ [n]) (List.nodup_append.2 ⟨h1,by simp,fun a ha b hb e => by rw [List.mem_singleton.1 hb] at e;rw [e] at ha;exact hn.2 ha⟩) (fun s hs => by
     rcases List.mem_append.1 hs with hs | hs
     ·exact h2 s hs
     ·rw [List.mem_singleton.1 hs];exact hn.1)
    refine ⟨i1,fun s => ?_,by rw [List.length_cons];first | omega | (rw [List.length_append,List.length_singleton] at i3;omega)⟩
    rw [i2 s]
    simp only [List.mem_append,List.mem_singleton,List.mem_cons,List.not_mem_nil,or_false]
    constructor
    ·rintro ((h | h) | h)
     ·exact .inl h
     ·exact .inr ⟨.inl h,by rw [h];exact hn.1⟩
     ·exact .inr ⟨.inr h.1,h.2⟩
    ·rintro (h | ⟨h | h,h'⟩)
     ·exact .inl (.inl h)
     ·exact .inl (.inr h)
     ·exact .inr ⟨h,h'⟩
   ·rw [show addN acc n = acc from if_neg hn]
    obtain ⟨i1,i2,i3⟩:=ih acc h1 h2
    refine ⟨i1,fun s => ?_,by rw [List.length_cons];first | omega | (rw [List.length_append,List.length_singleton] at i3;omega)⟩
    rw [i2 s]
    simp only [List.mem_cons]
    constructor
    ·rintro (h | h)
     ·exact .inl h
     ·exact .inr ⟨.inr h.1,h.2⟩
    ·rintro (h | ⟨h | h,h'⟩)
     ·exact .inl h
     ·subst h
      exact .inl (Classical.byContradiction fun e => hn ⟨h',e⟩)
     ·exact .inr ⟨h,h'⟩
theorem needL_mem {ns : List ByteArray} {s : ByteArray} : s ∈ needL ns ↔ s ∈ ns ∧ s.size ≠ 0:=by
 have:=(foldN ns [] List.nodup_nil (fun s h => by cases h)).2.1 s
 unfold needL
 rw [this]
 simp
theorem needL_nodup (ns : List ByteArray) : (needL ns).Nodup:=(foldN ns [] List.nodup_nil (fun s h => by cases h)).1
theorem needL_len (ns : List ByteArray) : (needL ns).length ≤ ns.length:=by have:=(foldN ns [] List.nodup_nil (fun s h => by cases h)).2.2;simpa [needL] using this
theorem told_stands (ws : List (List UInt8)) (t : List UInt8) (n : List UInt8) (hn : n ≠ []) : (∃ p ∈ toldTo ws t t.length,ws.getD p.1 [] = n) ↔ n ∈ ws ∧ stands n t = true:=by
 rw [stands_iff]
 constructor
 ·rintro ⟨⟨i,e⟩,hp,hg⟩
  unfold toldTo toldAt at hp
  simp only [List.mem_flatMap,List.mem_range,List.mem_map] at hp
  obtain ⟨j,hj,i',hi,he⟩:=hp
  injection he with he1 he2
  subst he1
  obtain ⟨x,hx,hs⟩:=endAt_mem.1 hi
  have : x = n:=by simpa [List.getD,hx] using hg
  subst this
  obtain ⟨p,hp⟩:=hs
  refine ⟨List.mem_of_getElem? hx,p,t.drop (j + 1),?_⟩
  rw [hp,List.take_append_drop]
 ·rintro ⟨hm,p,q,hpq⟩
  obtain ⟨i,hi⟩:=List.mem_iff_getElem?.1 hm
  have hl : 0 < n.length:=List.length_pos_iff.2 hn
  refine ⟨(i,p.length + n.length),?_,by simp [List.getD,hi]⟩
  unfold toldTo toldAt
  simp only [List.mem_flatMap,List.mem_range,List.mem_map]
  have htl : t.length = p.length + n.length + q.length:=by rw [hpq,List.length_append,List.length_append]
  refine ⟨p.length + n.length - 1,by omega,i,?_,by rw [show p.length + n.length - 1 + 1 = p.length + n.length by omega]⟩
  rw [show p.length + n.length - 1 + 1 = p.length + n.length by omega]
  refine endAt_mem.2 ⟨n,hi,p,?_⟩
  rw [hpq,show p.length + n.length = (p ++ n).length by simp,List.take_left]
end Wf
namespace Go.Proofs.YthhcpbfgoofppaaGreatDoor.setW
open Go.RowKit Wf
set_option linter.unusedVariables false
theorem Has_row (v : Value) (zs : List ByteArray) (x : ByteArray) (w : World) (hr : Rd1 w v (strVals zs)) (hb : zs.length ≤ 1000) (r : Bool) (hx : r = true ↔ x ∈ zs) :
 Calls Tryz.prog 85 #[v,.string x] w (fun e w' => e = .returned (.bool r) ∧ w = w'):=by
 obtain ⟨A,cap,rfl,hc1,hc2,hm⟩:=str_open hr
 by_cases h0 : zs.length = 0
 ·rw [h0]
  have : zs = []:=List.eq_nil_of_length_eq_zero h0
  have hr : r = false:=by cases r with | false => rfl | true => have:=hx.1 rfl;rw [List.eq_nil_of_length_eq_zero h0] at this;cases this
  rw [hr]
  exact Has_none A cap x w
 ·obtain ⟨b,off,rfl,hbl,hcs⟩:=hm (by omega)
  refine (Has_c b off zs.length cap zs x w (Nat.le_refl _) (by omega) (hcs w (fun _ => rfl))).mono ?_
  rintro e w' ⟨r',rfl,h1,h2⟩
  rw [List.take_length] at h1
  have : r' = r:=by rw [Bool.eq_iff_iff,h1,hx]
  rw [this]
  exact ⟨rfl,h2⟩
theorem info_str : (Tryz.prog.info? 9).map (fun i => (i.zero,i.size,i.bytes)) = some (some (.string ⟨#[]⟩),1,16):=by kernel_rfl
theorem zero_intN (w : World) : (zeroValue 3).run Tryz.prog w = .ok (.int .i64 0) w:=by kernel_rfl
theorem new_one (W : World) (t : TypeId) (x : Value) (g : Nat) (hg : g = W.heap.size) : ∀ (j : Nat) (u : Value),[x][j]? = some u → (W.alloc (.cells #[x] t)).cell? ((⟨g,0,none⟩ : Addr).add j) = some u:=by
 intro j u hu
 subst hg
 rw [add_mk,Nat.zero_add,(Blk.new W t #[x]).cell]
 simpa using hu
def needsOf (ml : List Mr) : List ByteArray:=ml.map (·.2.2)
def ThereIs (ml : List Mr) (s : ByteArray) (w : World) (e : Ending) (w' : World) : Prop :=
 ∃ M lst,e = .returned (.map (some M)) ∧ Mp w' M sv lst ∧ (∀ q ∈ ml,getL lst q.2.2 = if stands (litL q.1.t).1 s.data.toList then some one1 else none) ∧ Below w.heap.size w w'
theorem bytes_nil {n : ByteArray} (h : n.size = 0) : n = ⟨#[]⟩:=ByteArray.ext (Array.eq_empty_of_size_eq_zero (by simpa using h))
theorem there_get (l ns : List ByteArray) (hl : l = needL ns) (s nd : ByteArray) (hn : nd ∈ ns) : getL (lstOf l (toldTo (l.map fun s => s.data.toList) s.data.toList s.size)) nd = if stands nd.data.toList s.data.toList then some one1 else none:=by
 rw [lst_get]
 have key : ((∃ p ∈ toldTo (l.map fun s => s.data.toList) s.data.toList s.size,l.getD p.1 ⟨#[]⟩ = nd) ∨ nd = ⟨#[]⟩) ↔ stands nd.data.toList s.data.toList = true:=by
  by_cases h0 : nd.size = 0
  ·have he:=bytes_nil h0
   refine ⟨fun _ => ?_,fun _ => .inr he⟩
   rw [stands_iff,he]
   exact ⟨[],s.data.toList,rfl⟩
  ·have hne : nd ≠ ⟨#[]⟩:=fun e => h0 (by rw [e];rfl)
   have hml : nd ∈ l:=by rw [hl];exact needL_mem.2 ⟨hn,h0⟩
   have hnl : nd.data.toList ≠ []:=fun e => h0 (by
    have : nd.data.toList.length = nd.size:=by simp
    rw [e] at this
    simpa using this.symm)
   have ht:=told_stands (l.map fun s => s.data.toList) s.data.toList nd.data.toList hnl
   rw [show s.data.toList.length = s.size by simp] at ht
   have hw : nd.data.toList ∈ l.map (fun s => s.data.toList):=List.mem_map.2 ⟨nd,hml,rfl⟩
   constructor
   ·rintro (⟨p,hp,hg⟩ | h)
    ·refine (ht.1 ⟨p,hp,?_⟩).2
     rw [← hg]
     simp only [List.getD,List.getElem?_map]
     cases l[p.1]? <;> rfl
    ·exact absurd h hne
   ·intro h
    obtain ⟨p,hp,hg⟩:=ht.2 ⟨hw,h⟩
    refine .inl ⟨p,hp,?_⟩
    simp only [List.getD,List.getElem?_map] at hg ⊢
    cases hx : l[p.1]? with
    | none => rw [hx] at hg;exact absurd hg.symm hnl
    | some x =>
      rw [hx] at hg
      exact ByteArray.ext (Array.toList_inj.1 hg)
 by_cases h : stands nd.data.toList s.data.toList = true
 ·rw [if_pos (key.2 h),if_pos h]
 ·rw [if_neg (fun e => h (key.1 e)),if_neg h]
theorem needs_okN {B b : Nat} {m : SS} {ml : List Mr} {A : Value} {w : World} (h : SetAt B b m ml A w) : okN (needL (needsOf ml)):=by
 refine ⟨?_,fun s hs => ?_,needL_nodup _⟩
 ·have h1:=needL_len (needsOf ml)
  have h2:=h.len
  unfold needsOf at h1 ⊢
  rw [List.length_map] at h1
  omega
 ·obtain ⟨h1,h2⟩:=needL_mem.1 hs
  obtain ⟨q,hq,rfl⟩:=List.mem_map.1 h1
  refine ⟨by omega,?_⟩
  have h3:=(h.mem q hq).2
  have h4:=h.ok.read q.1 (by rw [h.ms];exact List.mem_map.2 ⟨q,hq,rfl⟩)
  obtain ⟨_,_,h5,_⟩:=parseE_some h4
  have h6:=litL_len q.1.t
  have h7 : q.2.2.data.toList.length = q.2.2.size:=by simp
  rw [h3] at h7
  omega
theorem newN_tied (l : List ByteArray) (lv : Value) (w : World) (hr : Rd1 w lv (strVals l)) (hok : okN l) (ws : List (List UInt8)) (hws : ws = l.map (fun s => s.data.toList)) :
 Calls Tryz.prog 86 #[lv] w (fun e w' => e = .returned (.pointer (some ⟨w.heap.size + 2,0,none⟩)) ∧ IsTied w (w.heap.size + 2) lv ws w'):=by
 have hlen : ws.length = l.length:=by rw [hws];simp
 refine New_c l lv w hr hok ws hws (fun Nb w' => IsTied w Nb lv ws w') (fun Ks ev ch W hN => ?_)
 refine (tie_c w W (w.heap.size + 2) lv _ ws Ks ev ch hN (by rw [hlen];exact hok.1) (fun x hx => ?_)).mono ?_
 ·rw [hws] at hx
  obtain ⟨s,hs,rfl⟩:=List.mem_map.1 hx
  have h1:=hok.2.1 s hs
  have h2 : s.data.toList.length = s.size:=by simp
  refine ⟨fun e => ?_,by omega⟩
  rw [e] at h2
  simp at h2
  omega
 ·rintro e w' ⟨rfl,bk,ev',ht⟩
  exact ⟨rfl,_,Ks,ch,bk,ev',ht⟩
theorem each_there (B : Nat) (w w4 w5 : World) (M ob lb Nb : Nat) (lv : Value) (l : List ByteArray) (s : ByteArray) (hs : s.size ≤ 400) (hok : okN l) (hB : B = w.heap.size) (hM : M < w4.heap.size) (hww : w.heap.size ≤ w4.heap.size) (hb : Below w.heap.size w w5) (hT : IsTied w4 Nb lv (l.map fun s => s.data.toList) w5) (hA : ThereAt B M ob lb lv l [] w5) :
 Calls Tryz.prog 87 #[.pointer (some ⟨Nb,0,none⟩),.string s,.func (.func 88) #[] #[.pointer (some ⟨ob,0,none⟩),.pointer (some ⟨lb,0,none⟩)]] w5 (fun e w' => e = .returned (.tuple #[]) ∧ ThereAt B M ob lb lv l (toldTo (l.map fun s => s.data.toList) s.data.toList s.size) w' ∧ Below w.heap.size w w'):=by
 obtain ⟨ws,hws⟩ : ∃ ws,ws = l.map (fun s => s.data.toList):=⟨_,rfl⟩
 rw [← hws] at hT ⊢
 have hwl : ws.length ≤ 20:=by rw [hws,List.length_map];exact hok.1
 obtain ⟨root,Ks,ch,bk,ev,ht⟩:=hT
 have hkm : ∀ k ∈ Ks,k.m ≠ M:=fun k hk e => by have:=ht.net.om k hk;omega
 have ht2:=ht.older hww hb
 refine (EachS_c w Nb lv root ws Ks ch bk ev hwl s hs _ _ (fun done W => Tied w Nb lv root ws Ks ch bk ev W ∧ ThereAt B M ob lb lv l done W) (fun _ _ h => h.1) ⟨fun done W W' h hb => ⟨h.1.below hb,h.2.below hb⟩,fun done W i e h hle he hd => ?_⟩ w5 ⟨ht2,hA⟩).mono ?_
 ·obtain ⟨x,hxi,hxl⟩:=hle
  rw [hws,List.getElem?_map] at hxi
  cases hli : l[i]? with
  | none => rw [hli] at hxi;cases hxi
  | some sx =>
    refine (Th1_c B M ob lb lv l done W h.2 i e sx hli).mono ?_
    rintro en w' ⟨rfl,h1,h2⟩
    have hd:=h.1.below (Below.refl _ _).drew
    have hmd:=(h.2.below (Below.refl _ _).drew).mp
    refine ⟨rfl,⟨tied_map hd hmd (by rw [← hB];exact h.2.bM) hkm h2,h1⟩,fun g cur hg => ?_⟩
    have hgl : g < W.drew.heap.size:=(Array.getElem?_eq_some_iff.1 hg).1
    refine (h2.block g hgl (fun e => ?_)).trans hg
    injection e with e
    subst e
    obtain ⟨es,clock,hb',_⟩:=hmd
    have hg' : W.drew.heap[g]? = some (Obj.cells cur 3 (0,0)):=hg
    rw [hb'] at hg'
    cases hg'
 ·rintro e w' ⟨rfl,h1,h2⟩
  exact ⟨rfl,h2,h1.net.keep⟩
theorem there_c (B b : Nat) (m : SS) (ml : List Mr) (A : Value) (s : ByteArray) (w : World) (h : SetAt B b m ml A w) (hs : s.size ≤ 400) :
 Calls Tryz.prog 54 #[.pointer (some ⟨b,0,none⟩),.string s] w (ThereIs ml s w):=by
 obtain ⟨i0,hi0,hz0,hz1,hz2⟩:=info_parts info_str
 have H:=hid h
 obtain ⟨Ao,cap,rfl,hc1,hc2,hmem⟩:=h.open_
 have hlen:=h.len
 have c0 : w.cell? ⟨b,0,none⟩ = some (.slice Ao ml.length cap):=h.blk.cell 0
 have HM:=hid hmem
 have hlt:=h.lt
 have hmf : ∀ (fn : Fn) (first cap : Array Value) (w : World),(Instr.makeFunc fn first cap).run Tryz.prog w = .ok (.func fn first cap) w:=fun _ _ _ _ => rfl
 clear h hmem
 unfold ThereIs
 go_enter Tryz.func54,Tryz.ntmps54
 go_wp2_with fail
 have HB0 : Hid (Blk (w.alloc (.cells #[.slice none 0 0] 94)) w.heap.size 94 #[.slice none 0 0]):=hid (Blk.new _ _ _)
 have HL0 : Hid (Below w.heap.size w (w.alloc (.cells #[.slice none 0 0] 94))):=hid ((Below.refl _ _).alloc (Nat.le_refl _) _)
 go_loopw [14] (fun v14 wr => ∃ k : Nat,k ≤ ml.length ∧ v14 = .int .i64 (k : Int) ∧ Hid (∃ v,Blk wr w.heap.size 94 #[v] ∧ wr.ownsRow w.heap.size 9 1 v (needL ((needsOf ml).take k)).length (strVals (needL ((needsOf ml).take k)))) ∧ Hid (Below w.heap.size w wr)) (fun i _ => ml.length - (intOf i).toNat)
 case atStart => exact ⟨0,by omega,rfl,hid ⟨_,HB0.out,World.ownsRow_nil _ _ _ _⟩,HL0⟩
 case round =>
  clear HB0 HL0
  obtain ⟨k,hk,rfl,HO,HB⟩:=hrel
  obtain ⟨v,hbox,hown⟩:=HO.out
  by_cases hlk : k < ml.length
  ·obtain ⟨g,rfl,hg,hcs⟩:=HM.out (by omega)
   have hget : ml[k]? = some (ml[k]'hlk):=List.getElem?_eq_getElem hlk
   generalize ml[k]'hlk = q at hget
   obtain ⟨m0,m1,m2,m3⟩:=hcs wr (fun o => HB.out.cell (p:=⟨g,o,none⟩) hg) k q hget
   have hnd : (needsOf ml)[k]? = some q.2.2:=by unfold needsOf;rw [List.getElem?_map,hget];rfl
   have hsn:=needL_snoc hnd
   have HSN:=hid hsn
   obtain ⟨⟨id,tx,t⟩,⟨ng,nc⟩,nd⟩:=q
   unfold rvOf at m2
   dsimp only at m0 m1 m2 m3 hsn HSN
   generalize (flat t).length = N at m2
   have k0 : (0 : Int) ≤ (k : Int):=by omega
   have k1 : (k : Int) < (ml.length : Int):=by omega
   have HBW:=hid HB.out.size
   have hfew : (needL ((needsOf ml).take k)).length ≤ 12:=by
    have h1:=needL_len ((needsOf ml).take k)
    rw [List.length_take] at h1
    omega
   generalize needL ((needsOf ml).take k) = L at *
   have HCP:=hid ((Below.refl wr.heap.size wr).alloc (Nat.le_refl _) (.cells #[.int .i64 (id : Int),.string tx,.slice (some ⟨ng,0,none⟩) N nc,.string nd] 97))
   have x0 : wr.cell? ⟨w.heap.size,0,none⟩ = some v:=hbox.cell 0
   have xf:=hbox.frozen 0
   have hbl:=hbox.lt
   have HROW:=hid hown
   have HBOX:=hid hbox
   have hRD:=Rd.of_own hown
   obtain ⟨VA,vc,rfl,_,_,_⟩:=str_open hRD
   have HHAS:=hid fun W (hb : Below wr.heap.size wr W) (r : Bool) (hr : r = true ↔ nd ∈ L) => Has_row _ L nd W (Rd.below hRD hb) (by omega) r hr
   obtain ⟨N2,hN2⟩ : ∃ N,N = L.length:=⟨_,rfl⟩
   have HN2:=hid hN2
   rw [← hN2] at x0 HHAS HROW HBOX hfew
   clear hget hcs hnd hsn hbox hown hRD HO
   by_cases h0 : nd.size = 0
   ·have e2 : nd.toList.isEmpty = true:=by rw [emp_list];simp [h0]
    have hno : addN L nd = L:=if_neg (fun e => e.1 h0)
    have HNO:=hid hno
    clear h0 hno hN2
    go_wp2_with fail
    refine ⟨⟨k + 1,by omega,by go_num,hid ⟨_,by rw [HSN.out,HNO.out];exact ⟨HBOX.out.alloc _,by rw [← HN2.out];exact HROW.out.alloc _⟩⟩,hid (HB.out.alloc HBW.out _)⟩,by simp [intOf];omega⟩
   ·have e2 : nd.toList.isEmpty = false:=by rw [emp_list];exact decide_eq_false h0
    by_cases hin : nd ∈ L
    ·have hno : addN L nd = L:=if_neg (fun e => e.2 hin)
     have HNO:=hid hno
     have HH:=hid (HHAS.out _ HCP.out true ⟨fun _ => hin,fun _ => rfl⟩)
     have x1 : (wr.alloc (.cells #[.int .i64 (id : Int),.string tx,.slice (some ⟨ng,0,none⟩) N nc,.string nd] 97)).cell? ⟨w.heap.size,0,none⟩ = some (.slice VA N2 vc):=(HBOX.out.alloc _).cell 0
     clear h0 hno hN2 hin HHAS
     go_wp2_with (go_at_call 85;refine HH.out.mono ?_;rintro e w2 ⟨rfl,rfl⟩)
     refine ⟨⟨k + 1,by omega,by go_num,hid ⟨_,by rw [HSN.out,HNO.out];exact ⟨HBOX.out.alloc _,by rw [← HN2.out];exact HROW.out.alloc _⟩⟩,hid (HB.out.alloc HBW.out _)⟩,by simp [intOf];omega⟩
    ·have hyes : addN L nd = L ++ [nd]:=if_pos ⟨h0,hin⟩
     have HYES:=hid hyes
     have HH:=hid (HHAS.out _ HCP.out false ⟨(fun e => by cases e),fun e => absurd e hin⟩)
     have x1 : (wr.alloc (.cells #[.int .i64 (id : Int),.string tx,.slice (some ⟨ng,0,none⟩) N nc,.string nd] 97)).cell? ⟨w.heap.size,0,none⟩ = some (.slice VA N2 vc):=(HBOX.out.alloc _).cell 0
     have HR:=hid ((HROW.out.alloc (.cells #[.int .i64 (id : Int),.string tx,.slice (some ⟨ng,0,none⟩) N nc,.string nd] 97)).alloc (.cells #[.string nd] 9))
     have HBX:=hid ((HBOX.out.alloc (.cells #[.int .i64 (id : Int),.string tx,.slice (some ⟨ng,0,none⟩) N nc,.string nd] 97)).alloc (.cells #[.string nd] 9))
     have HBR:=hid ((HB.out.alloc HBW.out (.cells #[.int .i64 (id : Int),.string tx,.slice (some ⟨ng,0,none⟩) N nc,.string nd] 97)).alloc (by have:=HBW.out;simp;omega) (.cells #[.string nd] 9))
     have hsl : (strVals L).length = N2:=by rw [strVals_len];exact hN2.symm
     clear h0 hyes hN2 hin HHAS
     go_wp2_with (first
      | (go_at_call 85;refine HH.out.mono ?_;rintro e w2 ⟨rfl,rfl⟩)
      | (at_builtin;refine wpList_append_own_at _ rfl (.tmp 28) (.tmp 31) _ rfl w.heap.size 9 i0 _ 1 16 Tryz.underlying94 hi0 hz0 hz1 hz2 rfl (by omega) _ N2 (strVals L) rfl HR.out ⟨wr.heap.size + 1,0,none⟩ 1 1 [.string nd] rfl rfl (new_one _ _ _ _ (by simp)) (by simp [Value.oneCell']) (by unfold maxLen;omega) (by omega) (by have:=HBW.out;simp;omega) ?_))
     intro v' w' hown' hg' _ hat'
     obtain ⟨VA2,n2,vc2,rfl,_,_,_,_⟩:=Rd.of_own hown'
     have hnb : some w.heap.size ≠ (Value.slice VA N2 vc).ownBlock:=fun e => own_not HR.out HBX.out (by decide) e.symm
     have hbk:=blk_grown HBX.out hg' hnb
     have o1 : w'.cell? ⟨w.heap.size,0,none⟩ = some (.slice VA N2 vc):=hbk.cell 0
     have f1 : w'.frozen? ⟨w.heap.size,0,none⟩ = false:=hbk.frozen 0
     have HOW:=hid hown'
     have HGW:=hid hg'
     have HBK:=hid hbk
     clear hown' hg' hat' hbk hnb
     go_wp2_with fail
     have hbb:=below_own HBR.out (Nat.le_refl _) (by have:=HBW.out;simp;omega) HR.out HGW.out
     refine ⟨⟨k + 1,by omega,by go_num,hid ⟨_,HBK.out.set_ 0 _,?_⟩,hid (hbb.setCell (p:=⟨w.heap.size,0,none⟩) (Nat.le_refl _) _)⟩,by simp [intOf];omega⟩
     rw [HSN.out,HYES.out,List.length_append,List.length_singleton,← HN2.out]
     have h1 : strVals (L ++ [nd]) = strVals L ++ [.string nd]:=by simp [strVals]
     rw [h1]
     exact HOW.out.kept (grown_setS w' w.heap.size 0 _) (.inr (own_not HOW.out HBK.out (by decide)))
  ·obtain rfl : k = ml.length:=by omega
   have hmm:=@run_makeMap Tryz.prog
   have hok:=needs_okN H.out
   have hl2 : (needsOf ml).take ml.length = needsOf ml:=List.take_of_length_le (by simp [needsOf])
   rw [hl2] at hown
   have HGET:=hid fun q (hq : q ∈ ml) => there_get _ (needsOf ml) rfl s q.2.2 (List.mem_map.2 ⟨q,hq,rfl⟩)
   have hfew : (needL (needsOf ml)).length ≤ 20:=hok.1
   generalize needL (needsOf ml) = L at *
   have HOK:=hid hok
   have hbl:=hbox.lt
   have hBW:=HB.out.size
   obtain ⟨W3,hup,hmp3,hg3,hs3⟩:=(Mp.new wr sv).update str_keyW Tryz.underlying104 ⟨#[]⟩ one1
   replace hup : (Instr.mapUpdate 104 (.map (some wr.heap.size)) (.string ⟨#[]⟩) (.int .i64 1)).run Tryz.prog (wr.alloc (.map #[] 0)) = .ok () W3:=hup
   have hs3' : W3.heap.size = wr.heap.size + 1:=by rw [hs3];simp
   have hA3 : ThereAt w.heap.size wr.heap.size W3.heap.size w.heap.size v L [] (W3.alloc (.cells #[.map (some wr.heap.size)] 104)):=by
    have hb1:=hbox.alloc (.map #[] 0)
    have hr1:=hown.alloc (.map #[] 0)
    exact ⟨hBW,Blk.new W3 _ _,(blk_grown hb1 hg3 (not_cells hb1 (Mp.new wr sv))).alloc _,(hr1.kept hg3 (row_not hr1 (Mp.new wr sv))).alloc _,hmp3.below ((Below.refl _ _).alloc (Nat.le_refl _) _)⟩
   have hB3 : Below w.heap.size w W3:=((HB.out.alloc hBW (.map #[] 0))).grown hg3 (by simp;omega) (fun g e => by injection e with e;omega)
   obtain ⟨W4,hW4⟩ : ∃ W4,W4 = W3.alloc (.cells #[.map (some wr.heap.size)] 104):=⟨_,rfl⟩
   have hB4 : Below w.heap.size w W4:=by rw [hW4];exact hB3.alloc (by omega) _
   rw [← hW4] at hA3
   have HA4:=hid hA3
   have HB4:=hid hB4
   have HNEW:=hid (newN_tied L v W4 (Rd.of_own hA3.row) hok _ rfl)
   have l4 : W4.cell? ⟨w.heap.size,0,none⟩ = some v:=hA3.box.cell 0
   obtain ⟨VA,vn,vc,rfl,_,_,_,_⟩:=Rd.of_own hA3.row
   have hs4 : W4.heap.size = wr.heap.size + 2:=by rw [hW4];simp [hs3']
   have hs4' : w.heap.size ≤ W4.heap.size:=by omega
   have hM4 : wr.heap.size < W4.heap.size:=by omega
   have HE : Hid (∀ w5 Nb,Below W4.heap.size W4 w5 → IsTied W4 Nb (.slice VA vn vc) (L.map fun s => s.data.toList) w5 → Calls Tryz.prog 87 #[.pointer (some ⟨Nb,0,none⟩),.string s,.func (.func 88) #[] #[.pointer (some ⟨W3.heap.size,0,none⟩),.pointer (some ⟨w.heap.size,0,none⟩)]] w5 (fun e w' => e = .returned (.tuple #[]) ∧ ThereAt w.heap.size wr.heap.size W3.heap.size w.heap.size (.slice VA vn vc) L (toldTo (L.map fun s => s.data.toList) s.data.toList s.size) w' ∧ Below w.heap.size w w')):=hid fun w5 Nb hb ht =>
    each_there w.heap.size w W4 w5 wr.heap.size W3.heap.size w.heap.size Nb _ L s hs HOK.out rfl hM4 hs4' (HB4.out.trans (hb.mono hs4')) ht (HA4.out.below hb)
   rw [hs3'] at HE
   rw [hs4] at HNEW
   have HM2 : Hid (∀ w',ThereAt w.heap.size wr.heap.size (wr.heap.size + 1) w.heap.size (.slice VA vn vc) L (toldTo (L.map fun s => s.data.toList) s.data.toList s.size) w' → w'.cell? ⟨wr.heap.size + 1,0,none⟩ = some (.map (some wr.heap.size))):=hid fun w' h => h.out.cell 0
   have HSUF : Hid (∀ w5,IsTied W4 (wr.heap.size + 2 + 2) (.slice VA vn vc) (L.map fun s => s.data.toList) w5 → Below W4.heap.size W4 w5 ∧ w5.cell? ⟨wr.heap.size + 1,0,none⟩ = some (.map (some wr.heap.size))):=hid fun w5 ht => by
    obtain ⟨_,_,_,_,_,ht⟩:=ht
    refine ⟨ht.net.keep,?_⟩
    have:=(HA4.out.below ht.net.keep).out.cell 0
    rw [hs3'] at this
    exact this
   obtain ⟨ws,hws⟩ : ∃ ws,ws = L.map (fun s => s.data.toList):=⟨_,rfl⟩
   rw [← hws] at HNEW HE HM2 HSUF HGET
   have HWS:=hid hws
   subst hW4
   clear hbox hown hmp3 hg3 hA3 hB3 hB4 hok hl2 HO HA4 hws
   go_wp2_with (go_at_call 86;refine HNEW.out.mono ?_;rintro e w5 ⟨rfl,ht⟩;have HT5:=hid ht;have h5:=(HSUF.out w5 ht).2;have HE5:=hid (HE.out w5 _ (HSUF.out w5 ht).1 ht);clear ht)
   refine HE5.out.mono ?_
   rintro e w6 ⟨rfl,h6,hb6⟩
   have o6:=HM2.out w6 h6
   have H6:=hid h6
   have HB6:=hid hb6
   clear h6 hb6 h5
   go_wp2_with fail
   go_ret
   refine ⟨wr.heap.size,_,rfl,H6.out.mp,fun q hq => ?_,HB6.out⟩
   have:=HGET.out q hq
   rw [(H.out.mem q hq).2] at this
   exact this
set_option linter.unusedVariables false
theorem own_own {w : World} {b1 b2 n1 n2 s1 s2 : Nat} {e1 e2 : TypeId} {v1 v2 : Value} {x1 x2 : List Value} (h1 : w.ownsRow b1 e1 s1 v1 n1 x1) (h2 : w.ownsRow b2 e2 s2 v2 n2 x2) (hne : e1 ≠ e2) : v1.ownBlock = none ∨ v1.ownBlock ≠ v2.ownBlock:=by
 rcases h1.2 with ⟨rfl,_⟩ | ⟨g,cap,cur,rfl,_,hgg,_⟩
 ·exact .inl rfl
 ·refine .inr fun e => ?_
  rcases h2.2 with ⟨rfl,_⟩ | ⟨g',cap',cur',rfl,_,hgg',_⟩
  ·cases e
  ·have : g = g':=Option.some.inj e
   subst this
   rw [hgg] at hgg'
   injection hgg' with hgg'
   injection hgg' with _ hgg' _
   exact hne hgg'
noncomputable def hitsTo (s : List UInt8) (ml : List Mr) (k : Nat) : List (Nat × Nat × Nat):=((ml.take k).map (·.1)).flatMap (hitsOf s)
def triesTo (on : Bool) (s : List UInt8) (ml : List Mr) (k : Nat) : Nat:=(((ml.take k).map (·.1)).filter fun x => !on || stands (litL x.t).1 s).length
theorem hitsTo_succ {s : List UInt8} {ml : List Mr} {k : Nat} {q : Mr} (h : ml[k]? = some q) : hitsTo s ml (k + 1) = hitsTo s ml k ++ hitsOf s q.1:=by
 unfold hitsTo
 rw [take_snoc h,List.map_append,List.flatMap_append]
 simp
theorem triesTo_succ {on : Bool} {s : List UInt8} {ml : List Mr} {k : Nat} {q : Mr} (h : ml[k]? = some q) : triesTo on s ml (k + 1) = triesTo on s ml k + if !on || stands (litL q.1.t).1 s then 1 else 0:=by
 unfold triesTo
 rw [take_snoc h,List.map_append,List.filter_append,List.length_append]
 congr 1
 simp only [List.map_cons,List.map_nil,List.filter_cons,List.filter_nil]
 split <;> rfl
theorem spans_few (s : ByteArray) (t : Rx) (hs : s.size ≤ 400) : (spansO s.data.toList t 0).length ≤ 401:=by
 have:=allO_len (long_behind s.data.toList t) 0
 have h2 : s.data.toList.length = s.size:=by simp
 unfold spansO
 omega
theorem own_low {w w' : World} {base n size : Nat} {e : TypeId} {v : Value} {xs : List Value} (h : w.ownsRow base e size v n xs) (hb : Below w.heap.size w w') : w'.ownsRow base e size v n xs:=h.kept (row:=none) ⟨hb.os,hb.tape,hb.output,hb.size,fun i hi _ => hb.block i hi⟩ (by cases v.ownBlock <;> simp)
theorem newThree (W : World) (t : TypeId) (x y z : Value) (g : Nat) (hg : g = W.heap.size) : ∀ (j : Nat) (u : Value),[x,y,z][j]? = some u → (W.alloc (.cells #[x,y,z] t)).cell? ((⟨g,0,none⟩ : Addr).add j) = some u:=by
 intro j u hu
 subst hg
 rw [add_mk,Nat.zero_add,(Blk.new W t #[x,y,z]).cell]
 simpa using hu
def ScanIs (m : SS) (s : List UInt8) (B b : Nat) (w : World) (e : Ending) (w' : World) : Prop :=
 ∃ (v : Value) (ml : List Mr) (A : Value),e = .returned (.tuple #[v,.nilIface]) ∧ w'.ownsRow w.heap.size 70 3 v (m.hits s).length ((m.hits s).flatMap hitCells) ∧ SetAt B b (m.scan s) ml A w' ∧ SK B b w w'
theorem Scan_long (B b : Nat) (m : SS) (ml : List Mr) (A : Value) (s : ByteArray) (w : World) (h : SetAt B b m ml A w) (hs : 400 < s.size) :
 Calls Tryz.prog 26 #[.pointer (some ⟨b,0,none⟩),.string s] w (fun e w' => e = .returned (.tuple #[.slice none 0 0,errV 3]) ∧ w = w'):=by
 have hd : decide ((400 : Int) < (s.size : Int)) = true:=by simp;omega
 rw [errV_ne (by decide)]
 clear h
 go_enter Tryz.func26,Tryz.ntmps26
 go_wp2
 go_ret2
 exact ⟨rfl,rfl⟩
theorem Scan_g (B b : Nat) (m : SS) (ml : List Mr) (A : Value) (s : ByteArray) (w : World) (h : SetAt B b m ml A w) (hs : s.size ≤ 400) :
 Calls Tryz.prog 26 #[.pointer (some ⟨b,0,none⟩),.string s] w (fun e w' => ScanIs m s.data.toList B b w e w' ∧ w.grownBy w' (some b)):=by
 obtain ⟨i0,hi0,hz0,hz1,hz2⟩:=info_parts info_hit
 have H:=hid h
 have HTH:=hid (there_c B b m ml A s w h hs)
 unfold ThereIs at HTH
 obtain ⟨Ao,cap,rfl,hc1,hc2,hmem⟩:=h.open_
 have hlen:=h.len
 have hd : decide ((400 : Int) < (s.size : Int)) = false:=by simp;omega
 have c0 : w.cell? ⟨b,0,none⟩ = some (.slice Ao ml.length cap):=h.blk.cell 0
 have c2 : w.cell? ⟨b,2,none⟩ = some (.bool m.on):=h.blk.cell 2
 have HM:=hid hmem
 have hlt:=h.lt
 have HSF:=hid fun t => spans_few s t hs
 have HSZ:=hid hs
 obtain ⟨on,hon⟩ : ∃ on,on = m.on:=⟨_,rfl⟩
 have HON:=hid hon
 rw [← hon] at c2
 clear h hmem hs hon
 unfold ScanIs
 go_enter Tryz.func26,Tryz.ntmps26
 go_wp2_with fail
 refine HTH.out.mono ?_
 rintro e w1 ⟨M,lst,rfl,hmp,hget,hb1⟩
 have HMP:=hid hmp
 have HGET:=hid hget
 have HB1:=hid hb1
 have H1:=hid (H.out.below hb1)
 have d0 : w1.cell? ⟨b,0,none⟩ = some (.slice Ao ml.length cap):=(hb1.cell (p:=⟨b,0,none⟩) hlt).trans c0
 clear hmp hget hb1 HTH
 go_wp2_with fail
 go_loopw [7,8,27] (fun v7 v8 v27 wr => ∃ (k n : Nat),k ≤ ml.length ∧ n ≤ k ∧ v27 = .int .i64 (k : Int) ∧ v8 = .int .i64 (n : Int) ∧ Hid (n = triesTo on s.data.toList ml k) ∧ Hid (wr.ownsRow w.heap.size 70 3 v7 (hitsTo s.data.toList ml k).length ((hitsTo s.data.toList ml k).flatMap hitCells)) ∧ Hid ((hitsTo s.data.toList ml k).length ≤ 401 * k) ∧ Hid (Below w.heap.size w wr) ∧ Hid (Mp wr M sv lst)) (fun _ _ i _ => ml.length - (intOf i).toNat)
 case atStart => exact ⟨0,0,by omega,by omega,rfl,rfl,hid rfl,hid (World.ownsRow_nil _ _ _ _),hid (by simp [hitsTo]),HB1,HMP⟩
 case round =>
  clear HMP HB1 d0 H1
  obtain ⟨k,n,hk,hnk,rfl,rfl,HN,HO,HF,HB,HMP⟩:=hrel
  by_cases hlk : k < ml.length
  ·obtain ⟨g,rfl,hg,hcs⟩:=HM.out (by omega)
   have hget : ml[k]? = some (ml[k]'hlk):=List.getElem?_eq_getElem hlk
   generalize ml[k]'hlk = q at hget
   obtain ⟨m0,m1,m2,m3⟩:=hcs wr (fun o => HB.out.cell (p:=⟨g,o,none⟩) hg) k q hget
   have hq:=HGET.out q (List.mem_of_getElem? hget)
   have HHS:=hid (hitsTo_succ (s:=s.data.toList) hget)
   have HTS:=hid (triesTo_succ (on:=on) (s:=s.data.toList) hget)
   have hmq:=H.out.mem q (List.mem_of_getElem? hget)
   have hrq:=H.out.ok.read q.1 (by rw [H.out.ms];exact List.mem_map.2 ⟨q,List.mem_of_getElem? hget,rfl⟩)
   obtain ⟨_,_,h60,hokt,_⟩:=parseE_some hrq
   have HALL:=hid fun W (hb : Below w.heap.size w W) => all_ok (flat q.1.t) q.1.t rfl h60 hokt s HSZ.out (rvOf q) W (Rd.below (Rd.of_own hmq.1) hb)
   unfold AllIs at HALL
   have HSFQ:=hid (HSF.out q.1.t)
   have hNT : stands (litL q.1.t).1 s.data.toList = false → hitsOf s.data.toList q.1 = []:=fun h => by unfold hitsOf;rw [not_tried h];rfl
   have HNT:=hid hNT
   obtain ⟨⟨id,tx,t⟩,⟨ng,nc⟩,nd⟩:=q
   unfold rvOf at m2 HALL
   dsimp only at m0 m1 m2 m3 hq HHS HTS HALL HSFQ HNT
   generalize (flat t).length = N at m2 HALL
   unfold hitsOf at HHS HNT
   dsimp only at HHS HNT
   generalize spansO s.data.toList t 0 = SP at HHS HNT HSFQ HALL
   generalize stands (litL t).1 s.data.toList = st at hq HTS HNT
   generalize hitsTo s.data.toList ml k = S at *
   obtain ⟨S',hSE⟩ : ∃ S',S' = hitsTo s.data.toList ml (k + 1):=⟨_,rfl⟩
   rw [← hSE] at HHS
   have HSE:=hid hSE
   clear hSE
   have k0 : (0 : Int) ≤ (k : Int):=by omega
   have k1 : (k : Int) < (ml.length : Int):=by omega
   have e2 : wr.cell? ⟨b,2,none⟩ = some (.bool on):=(HB.out.cell (p:=⟨b,2,none⟩) hlt).trans c2
   have e0 : wr.cell? ⟨b,0,none⟩ = some (.slice (some ⟨g,0,none⟩) ml.length cap):=(HB.out.cell (p:=⟨b,0,none⟩) hlt).trans c0
   have hlr : b < wr.heap.size:=Nat.lt_of_lt_of_le hlt HB.out.size
   have HBC:=hid (HB.out.alloc HB.out.size (.cells #[.int .i64 (id : Int),.string tx,.slice (some ⟨ng,0,none⟩) N nc,.string nd] 97))
   have HMPC:=hid (HMP.out.below ((Below.refl wr.heap.size wr).alloc (Nat.le_refl _) (.cells #[.int .i64 (id : Int),.string tx,.slice (some ⟨ng,0,none⟩) N nc,.string nd] 97)))
   clear hget hcs hmq hrq hokt hNT
   cases on with
   | false =>
     go_wp2_with fail
     refine (HALL.out _ HBC.out).mono ?_
     rintro e w2 ⟨A2,cp2,rfl,ho2,hb2⟩
     have HB2:=hid (HBC.out.trans (hb2.mono HBC.out.size))
     have HO2:=hid (own_low (HO.out.alloc (.cells #[.int .i64 (id : Int),.string tx,.slice (some ⟨ng,0,none⟩) N nc,.string nd] 97)) hb2)
     have HMP2:=hid (HMPC.out.below hb2)
     have HCP2:=hid ((Blk.new wr 97 #[.int .i64 (id : Int),.string tx,.slice (some ⟨ng,0,none⟩) N nc,.string nd]).kept hb2)
     have HSPR:=hid ho2
     have hSl:=HF.out
     have hSPl:=HSFQ.out
     generalize (wr.alloc (.cells #[.int .i64 (id : Int),.string tx,.slice (some ⟨ng,0,none⟩) N nc,.string nd] 97)).heap.size = BS at HSPR
     clear ho2 hb2 HALL HO HMP HMPC HB HBC e0 e2 m0 m1 m2 m3 HF
     clear hlr
     generalize wr.heap.size = CB at *
     go_wp2_with fail
     go_loopw [7,56] (fun v7 v56 wx => ∃ (j : Nat),j ≤ SP.length ∧ v56 = .int .i64 (j : Int) ∧ Hid (wx.ownsRow w.heap.size 70 3 v7 (S.length + j) ((S ++ (SP.take j).map (fun p => (id,p.1,p.2))).flatMap hitCells)) ∧ Hid (wx.ownsRow BS 68 2 (.slice A2 SP.length cp2) SP.length (spanVals SP)) ∧ Hid (Below w.heap.size w wx) ∧ Hid (Mp wx M sv lst) ∧ Hid (Blk wx CB 97 #[.int .i64 (id : Int),.string tx,.slice (some ⟨ng,0,none⟩) N nc,.string nd])) (fun _ v _ => SP.length - (intOf v).toNat)
     case atStart => exact ⟨0,by omega,rfl,by simpa using HO2,HSPR,HB2,HMP2,HCP2⟩
     case round =>
      have hwr2 : True:=trivial
      clear HO2 HSPR HB2 HMP2 HCP2
      obtain ⟨j,hj,rfl,HO,HSP,HB,HMP,HCP⟩:=hrel
      by_cases hjl : j < SP.length
      ·obtain ⟨A3,cp3,hv3,hc3,hc4,hsm⟩:=span_open (Rd.of_own HSP.out)
       injection hv3 with hv3 _ hv5
       subst hv3
       subst hv5
       obtain ⟨b2,off2,rfl,hb2l,hcs2⟩:=hsm (by omega)
       have hgj : SP[j]? = some (SP[j]'hjl):=List.getElem?_eq_getElem hjl
       generalize SP[j]'hjl = p at hgj
       obtain ⟨x,y⟩:=p
       obtain ⟨x0,x1⟩:=hcs2 _ (fun _ => rfl) j x y hgj
       have HTJ:=hid (take_snoc hgj)
       have y0:=HCP.out.cell 0
       have hcl:=HCP.out.lt
       have HBW:=hid HB.out.size
       have j0 : (0 : Int) ≤ (j : Int):=by omega
       have j1 : (j : Int) < (SP.length : Int):=by omega
       have hll : Hid (((S ++ (SP.take j).map (fun p => (id,p.1,p.2)))).length = S.length + j):=hid (by rw [List.length_append,List.length_map,List.length_take];omega)
       have HR:=hid ((HO.out.alloc (.cells #[.int .i64 (x : Int),.int .i64 (y : Int)] 68)).alloc (.cells #[.int .i64 (id : Int),.int .i64 (x : Int),.int .i64 (y : Int)] 70))
       have HSR:=hid ((HSP.out.alloc (.cells #[.int .i64 (x : Int),.int .i64 (y : Int)] 68)).alloc (.cells #[.int .i64 (id : Int),.int .i64 (x : Int),.int .i64 (y : Int)] 70))
       have HBR:=hid ((HB.out.alloc HBW.out (.cells #[.int .i64 (x : Int),.int .i64 (y : Int)] 68)).alloc (by have:=HBW.out;simp;omega) (.cells #[.int .i64 (id : Int),.int .i64 (x : Int),.int .i64 (y : Int)] 70))
       have HCR:=hid ((HCP.out.alloc (.cells #[.int .i64 (x : Int),.int .i64 (y : Int)] 68)).alloc (.cells #[.int .i64 (id : Int),.int .i64 (x : Int),.int .i64 (y : Int)] 70))
       have HMR:=hid (HMP.out.below (((Below.refl wr.heap.size wr).alloc (Nat.le_refl _) (.cells #[.int .i64 (x : Int),.int .i64 (y : Int)] 68)).alloc (by simp) (.cells #[.int .i64 (id : Int),.int .i64 (x : Int),.int .i64 (y : Int)] 70)))
       have hTS : ((S ++ (SP.take (j + 1)).map (fun p => (id,p.1,p.2)))).flatMap hitCells = (S ++ (SP.take j).map (fun p => (id,p.1,p.2))).flatMap hitCells ++ [.int .i64 (id : Int),.int .i64 (x : Int),.int .i64 (y : Int)]:=by
        rw [HTJ.out,List.map_append,← List.append_assoc,List.flatMap_append]
        simp [hitCells]
       have HTS2:=hid hTS
       have hxl : ((S ++ (SP.take j).map (fun p => (id,p.1,p.2))).flatMap hitCells).length = (S.length + j) * 3:=by rw [hits_len,hll.out]
       generalize (S ++ (SP.take j).map (fun p => (id,p.1,p.2))).flatMap hitCells = L3 at *
       clear hgj hcs2 hsm hTS HO HSP HB HMP HCP hll
       go_wp2_with (at_builtin;refine wpList_append_own_at _ rfl (.tmp 60) (.tmp 66) _ rfl w.heap.size 70 i0 _ 3 24 Tryz.underlying64 hi0 hz0 hz1 hz2 rfl (by omega) _ (S.length + j) L3 rfl HR.out ⟨wr.heap.size + 1,0,none⟩ 1 1 [.int .i64 (id : Int),.int .i64 (x : Int),.int .i64 (y : Int)] rfl rfl (newThree _ _ _ _ _ _ (by simp)) (by intro u hu;simp at hu;rcases hu with rfl | rfl | rfl <;> rfl) (by unfold maxLen;omega) (by omega) (by have:=HBW.out;simp;omega) ?_)
       intro v' w' hown' hg' _ hat'
       have HO3:=hid hown'
       have HS3:=hid (HSR.out.kept hg' (own_own HSR.out HR.out (by decide)))
       have HB3:=hid (below_own HBR.out (Nat.le_refl _) (by have:=HBW.out;simp;omega) HR.out hg')
       have HM3:=hid (HMR.out.kept hg' (fun e => by
        rcases row_not HR.out HMR.out with h | h
        ·rw [h] at e;cases e
        ·exact h e.symm))
       have HC3:=hid (blk_grown HCR.out hg' (fun e => own_not HR.out HCR.out (by decide) e.symm))
       clear hown' hg' hat' HR HSR HBR HMR HCR
       go_wp2_with fail
       go_roundw
       case rel => exact ⟨j + 1,by omega,by go_num,hid (by rw [HTS2.out];exact HO3.out),HS3,HB3,HM3,HC3⟩
       case measure => simp [intOf];omega
      ·obtain rfl : j = SP.length:=by omega
       have hS2 : S' = S ++ SP.map (fun p => (id,p.1,p.2)):=HHS.out
       have HOF : Hid (wr.ownsRow w.heap.size 70 3 u7 S'.length (S'.flatMap hitCells)):=hid (by
        have:=HO.out
        rw [List.take_length] at this
        rw [hS2,List.length_append,List.length_map]
        exact this)
       have HLF : Hid (S'.length ≤ 401 * (k + 1)):=hid (by rw [hS2,List.length_append,List.length_map];omega)
       clear HO hS2
       go_wp2_with fail
       go_roundw
       case rel => exact ⟨k + 1,n + 1,by omega,by omega,by go_num,by go_num,hid (by rw [HTS.out,← HN.out];simp),hid (by rw [← HSE.out];exact HOF.out),hid (by rw [← HSE.out];exact HLF.out),HB,HMP⟩
       case measure => simp [intOf];omega
   | true =>
     cases st with
     | true =>
       have hlk:=HMPC.out.look_some str_keyW Tryz.underlying104 (a:=nd) (v:=one1) (by rw [hq];rfl) false
       simp only [sv,one1,Bool.false_eq_true,if_false] at hlk
       clear hq
       go_wp2_with fail
       refine (HALL.out _ HBC.out).mono ?_
       rintro e w2 ⟨A2,cp2,rfl,ho2,hb2⟩
       have HB2:=hid (HBC.out.trans (hb2.mono HBC.out.size))
       have HO2:=hid (own_low (HO.out.alloc (.cells #[.int .i64 (id : Int),.string tx,.slice (some ⟨ng,0,none⟩) N nc,.string nd] 97)) hb2)
       have HMP2:=hid (HMPC.out.below hb2)
       have HCP2:=hid ((Blk.new wr 97 #[.int .i64 (id : Int),.string tx,.slice (some ⟨ng,0,none⟩) N nc,.string nd]).kept hb2)
       have HSPR:=hid ho2
       have hSl:=HF.out
       have hSPl:=HSFQ.out
       generalize (wr.alloc (.cells #[.int .i64 (id : Int),.string tx,.slice (some ⟨ng,0,none⟩) N nc,.string nd] 97)).heap.size = BS at HSPR
       clear ho2 hb2 HALL HO HMP HMPC HB HBC e0 e2 m0 m1 m2 m3 HF
       clear hlr
       generalize wr.heap.size = CB at *
       go_wp2_with fail
       go_loopw [7,56] (fun v7 v56 wx => ∃ (j : Nat),j ≤ SP.length ∧ v56 = .int .i64 (j : Int) ∧ Hid (wx.ownsRow w.heap.size 70 3 v7 (S.length + j) ((S ++ (SP.take j).map (fun p => (id,p.1,p.2))).flatMap hitCells)) ∧ Hid (wx.ownsRow BS 68 2 (.slice A2 SP.length cp2) SP.length (spanVals SP)) ∧ Hid (Below w.heap.size w wx) ∧ Hid (Mp wx M sv lst) ∧ Hid (Blk wx CB 97 #[.int .i64 (id : Int),.string tx,.slice (some ⟨ng,0,none⟩) N nc,.string nd])) (fun _ v _ => SP.length - (intOf v).toNat)
       case atStart => exact ⟨0,by omega,rfl,by simpa using HO2,HSPR,HB2,HMP2,HCP2⟩
       case round =>
        have hwr2 : True:=trivial
        clear HO2 HSPR HB2 HMP2 HCP2
        obtain ⟨j,hj,rfl,HO,HSP,HB,HMP,HCP⟩:=hrel
        by_cases hjl : j < SP.length
        ·obtain ⟨A3,cp3,hv3,hc3,hc4,hsm⟩:=span_open (Rd.of_own HSP.out)
         injection hv3 with hv3 _ hv5
         subst hv3
         subst hv5
         obtain ⟨b2,off2,rfl,hb2l,hcs2⟩:=hsm (by omega)
         have hgj : SP[j]? = some (SP[j]'hjl):=List.getElem?_eq_getElem hjl
         generalize SP[j]'hjl = p at hgj
         obtain ⟨x,y⟩:=p
         obtain ⟨x0,x1⟩:=hcs2 _ (fun _ => rfl) j x y hgj
         have HTJ:=hid (take_snoc hgj)
         have y0:=HCP.out.cell 0
         have hcl:=HCP.out.lt
         have HBW:=hid HB.out.size
         have j0 : (0 : Int) ≤ (j : Int):=by omega
         have j1 : (j : Int) < (SP.length : Int):=by omega
         have hll : Hid (((S ++ (SP.take j).map (fun p => (id,p.1,p.2)))).length = S.length + j):=hid (by rw [List.length_append,List.length_map,List.length_take];omega)
         have HR:=hid ((HO.out.alloc (.cells #[.int .i64 (x : Int),.int .i64 (y : Int)] 68)).alloc (.cells #[.int .i64 (id : Int),.int .i64 (x : Int),.int .i64 (y : Int)] 70))
         have HSR:=hid ((HSP.out.alloc (.cells #[.int .i64 (x : Int),.int .i64 (y : Int)] 68)).alloc (.cells #[.int .i64 (id : Int),.int .i64 (x : Int),.int .i64 (y : Int)] 70))
         have HBR:=hid ((HB.out.alloc HBW.out (.cells #[.int .i64 (x : Int),.int .i64 (y : Int)] 68)).alloc (by have:=HBW.out;simp;omega) (.cells #[.int .i64 (id : Int),.int .i64 (x : Int),.int .i64 (y : Int)] 70))
         have HCR:=hid ((HCP.out.alloc (.cells #[.int .i64 (x : Int),.int .i64 (y : Int)] 68)).alloc (.cells #[.int .i64 (id : Int),.int .i64 (x : Int),.int .i64 (y : Int)] 70))
         have HMR:=hid (HMP.out.below (((Below.refl wr.heap.size wr).alloc (Nat.le_refl _) (.cells #[.int .i64 (x : Int),.int .i64 (y : Int)] 68)).alloc (by simp) (.cells #[.int .i64 (id : Int),.int .i64 (x : Int),.int .i64 (y : Int)] 70)))
         have hTS : ((S ++ (SP.take (j + 1)).map (fun p => (id,p.1,p.2)))).flatMap hitCells = (S ++ (SP.take j).map (fun p => (id,p.1,p.2))).flatMap hitCells ++ [.int .i64 (id : Int),.int .i64 (x : Int),.int .i64 (y : Int)]:=by
          rw [HTJ.out,List.map_append,← List.append_assoc,List.flatMap_append]
          simp [hitCells]
         have HTS2:=hid hTS
         have hxl : ((S ++ (SP.take j).map (fun p => (id,p.1,p.2))).flatMap hitCells).length = (S.length + j) * 3:=by rw [hits_len,hll.out]
         generalize (S ++ (SP.take j).map (fun p => (id,p.1,p.2))).flatMap hitCells = L3 at *
         clear hgj hcs2 hsm hTS HO HSP HB HMP HCP hll
         go_wp2_with (at_builtin;refine wpList_append_own_at _ rfl (.tmp 60) (.tmp 66) _ rfl w.heap.size 70 i0 _ 3 24 Tryz.underlying64 hi0 hz0 hz1 hz2 rfl (by omega) _ (S.length + j) L3 rfl HR.out ⟨wr.heap.size + 1,0,none⟩ 1 1 [.int .i64 (id : Int),.int .i64 (x : Int),.int .i64 (y : Int)] rfl rfl (newThree _ _ _ _ _ _ (by simp)) (by intro u hu;simp at hu;rcases hu with rfl | rfl | rfl <;> rfl) (by unfold maxLen;omega) (by omega) (by have:=HBW.out;simp;omega) ?_)
         intro v' w' hown' hg' _ hat'
         have HO3:=hid hown'
         have HS3:=hid (HSR.out.kept hg' (own_own HSR.out HR.out (by decide)))
         have HB3:=hid (below_own HBR.out (Nat.le_refl _) (by have:=HBW.out;simp;omega) HR.out hg')
         have HM3:=hid (HMR.out.kept hg' (fun e => by
          rcases row_not HR.out HMR.out with h | h
          ·rw [h] at e;cases e
          ·exact h e.symm))
         have HC3:=hid (blk_grown HCR.out hg' (fun e => own_not HR.out HCR.out (by decide) e.symm))
         clear hown' hg' hat' HR HSR HBR HMR HCR
         go_wp2_with fail
         go_roundw
         case rel => exact ⟨j + 1,by omega,by go_num,hid (by rw [HTS2.out];exact HO3.out),HS3,HB3,HM3,HC3⟩
         case measure => simp [intOf];omega
        ·obtain rfl : j = SP.length:=by omega
         have hS2 : S' = S ++ SP.map (fun p => (id,p.1,p.2)):=HHS.out
         have HOF : Hid (wr.ownsRow w.heap.size 70 3 u7 S'.length (S'.flatMap hitCells)):=hid (by
          have:=HO.out
          rw [List.take_length] at this
          rw [hS2,List.length_append,List.length_map]
          exact this)
         have HLF : Hid (S'.length ≤ 401 * (k + 1)):=hid (by rw [hS2,List.length_append,List.length_map];omega)
         clear HO hS2
         go_wp2_with fail
         go_roundw
         case rel => exact ⟨k + 1,n + 1,by omega,by omega,by go_num,by go_num,hid (by rw [HTS.out,← HN.out];simp),hid (by rw [← HSE.out];exact HOF.out),hid (by rw [← HSE.out];exact HLF.out),HB,HMP⟩
         case measure => simp [intOf];omega
     | false =>
       have hlk:=HMPC.out.look_none str_keyW Tryz.underlying104 (a:=nd) (zero_intN _) (by rw [hq];rfl) false
       simp only [sv,Bool.false_eq_true,if_false] at hlk
       have hS2 : S' = S:=by rw [HHS.out,HNT.out rfl,List.append_nil]
       have HS2:=hid hS2
       have HO2:=hid (HO.out.alloc (.cells #[.int .i64 (id : Int),.string tx,.slice (some ⟨ng,0,none⟩) N nc,.string nd] 97))
       clear hq hS2 HALL
       go_wp2_with fail
       go_roundw
       case rel => exact ⟨k + 1,n,by omega,by omega,by go_num,rfl,hid (by rw [HTS.out,← HN.out];simp),hid (by rw [← HSE.out,HS2.out];exact HO2.out),hid (by rw [← HSE.out,HS2.out];have:=HF.out;omega),HBC,HMPC⟩
       case measure => simp [intOf];omega
  ·obtain rfl : k = ml.length:=by omega
   have hk2 : SK B b w wr:=SK.of_below H.out.hBw HB.out
   have hH2:=H.out.below HB.out
   have hms : ml.map (·.1) = m.ms:=H.out.ms.symm
   have ht : hitsTo s.data.toList ml ml.length = m.hits s.data.toList:=by unfold hitsTo SS.hits;rw [List.take_length,hms]
   have hn : n = (m.tries s.data.toList).length:=by rw [HN.out];unfold triesTo SS.tries;rw [List.take_length,hms,HON.out]
   have hsl : s.data.toList.length = s.size:=by simp
   have hsc : m.scan s.data.toList = { m with tried:=n }:=by unfold SS.scan;rw [if_pos (by rw [hsl];exact HSZ.out),hn]
   have hput:=hH2.put { m with tried:=n } rfl (H.out.ok.tried m.on n) H.out.lastb 3 (.int .i64 (n : Int)) (by simp)
   have hf3:=hH2.blk.frozen 3
   have h3 : wr.cell? ⟨b,3,none⟩ = some (.int .i64 (m.tried : Int)):=hH2.blk.cell 3
   rw [← hsc] at hput
   rw [ht] at HO
   have HO3:=hid (HO.out.kept (grown_setS wr b 3 (.int .i64 (n : Int))) (.inr (own_not HO.out hH2.blk (by decide))))
   have HPUT:=hid hput
   have HK2:=hid (hk2.trans (SK.set H.out.hB wr 3 (.int .i64 (n : Int))))
   have hlr : b < wr.heap.size:=hH2.lt
   have HG : Hid (w.grownBy (wr.setCell ⟨b,3,none⟩ (.int .i64 (n : Int))) (some b)):=hid ⟨HB.out.os,HB.out.tape,HB.out.output,by simpa using HB.out.size,fun i hi hne => (Below.heap_setCell wr _ _ i (fun e => hne (by rw [e]))).trans (HB.out.block i hi)⟩
   clear hk2 hH2 hms ht hn hsl hsc hput HN HO HF
   go_wp2_with fail
   go_ret2
   exact ⟨⟨_,ml,_,rfl,HO3.out,HPUT.out,HK2.out⟩,HG.out⟩
theorem Scan_ok (B b : Nat) (m : SS) (ml : List Mr) (A : Value) (s : ByteArray) (w : World) (h : SetAt B b m ml A w) (hs : s.size ≤ 400) :
 Calls Tryz.prog 26 #[.pointer (some ⟨b,0,none⟩),.string s] w (ScanIs m s.data.toList B b w):=(Scan_g B b m ml A s w h hs).mono fun _ _ h => h.1
end Go.Proofs.YthhcpbfgoofppaaGreatDoor.setW
