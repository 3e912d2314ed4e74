/-
  KnotC, KnotD.
-/
import Derived.Test.YthhcpbfgoofppaaGreatDoorGKn
import Derived.Test.YthhcpbfgoofppaaGreatDoorGRex
import Derived.Test.YthhcpbfgoofppaaGreatDoorMem
import Derived.Test.YthhcpbfgoofppaaGreatDoorPo
import Derived.Test.YthhcpbfgoofppaaGreatDoorStrs
import Derived.BigQuiet
set_option linter.unusedVariables false
set_option linter.unusedSimpArgs false
set_option maxRecDepth 100000
set_option maxHeartbeats 8000000
open Go.Lib (hid)
namespace Go.Proofs.YthhcpbfgoofppaaGreatDoor
open Go.RowKit Wf
theorem upd_const {β : Type} (k : Kn) (v : β) : upd (fun _ => v) k v = fun _ => v:=by
 funext x
 unfold upd
 split <;> rfl
theorem Net.start (w : World) (wv : Value) : Net w (w.heap.size + 2) wv ⟨w.heap.size + 1,w.heap.size,[]⟩ [⟨w.heap.size + 1,w.heap.size,[]⟩] (fun _ => .pointer none) (fun _ => .slice none 0 0) (fun _ => [])
 (((w.alloc (.map #[] 0)).alloc (.cells #[.map (some w.heap.size),.pointer none,.slice none 0 0] 220)).alloc (.cells #[kptr (w.heap.size + 1),wv] 222)):=by
 have hb2 : Blk ((w.alloc (.map #[] 0)).alloc (.cells #[.map (some w.heap.size),.pointer none,.slice none 0 0] 220)) (w.heap.size + 1) 220 #[.map (some w.heap.size),.pointer none,.slice none 0 0]:=by
  have:=Blk.new (w.alloc (.map #[] 0)) 220 #[.map (some w.heap.size),.pointer none,.slice none 0 0]
  simpa using this
 have hb3:=Blk.new ((w.alloc (.map #[] 0)).alloc (.cells #[.map (some w.heap.size),.pointer none,.slice none 0 0] 220)) 222 #[kptr (w.heap.size + 1),wv]
 have hm:=(((Mp.new w byteW).below ((Below.refl _ _).alloc (Nat.le_refl _) (.cells #[.map (some w.heap.size),.pointer none,.slice none 0 0] 220))).below ((Below.refl _ _).alloc (Nat.le_refl _) (.cells #[kptr (w.heap.size + 1),wv] 222)))
 refine ⟨by simpa using hb3,by omega,List.mem_singleton.2 rfl,rfl,?_,?_,?_,?_,?_,?_,?_,?_,?_,?_,?_⟩
 ·intro k hk
  rw [List.mem_singleton.1 hk]
  exact hb2.alloc _
 ·intro k hk
  rw [List.mem_singleton.1 hk]
  exact hm
 ·intro k hk
  rw [List.mem_singleton.1 hk]
  exact Nat.le_succ _
 ·intro k hk
  rw [List.mem_singleton.1 hk]
  exact Nat.le_refl _
 ·intro s hs t ht _
  rw [List.mem_singleton.1 hs,List.mem_singleton.1 ht]
 ·intro s hs t ht _
  rw [List.mem_singleton.1 hs,List.mem_singleton.1 ht]
 ·intro s hs t ht _
  rw [List.mem_singleton.1 hs,List.mem_singleton.1 ht]
 ·intro k _ c v hv
  cases hv
 ·intro k hk t ht c _ e
  rw [List.mem_singleton.1 hk,List.mem_singleton.1 ht] at e
  have:=congrArg List.length e
  simp at this
 ·intro t ht hne
  rw [List.mem_singleton.1 ht] at hne
  exact absurd rfl hne
 ·exact (((Below.refl _ _).alloc (Nat.le_refl _) _).alloc (by simp) _).alloc (by simp;omega) _
def RowK (w0 w : World) (v : Value) (xs : List Nat) : Prop:=(v = .slice none 0 0 ↔ xs = []) ∧ w.ownsRow w0.heap.size 3 1 v xs.length (natVals xs)
theorem RowK.nil (w0 w : World) : RowK w0 w (.slice none 0 0) []:=⟨by simp,World.ownsRow_nil _ _ _ _⟩
theorem RowK.kept {w0 w w' : World} {v : Value} {xs : List Nat} {row : Option Nat} (h : RowK w0 w v xs) (hg : w.grownBy w' row) (hn : v.ownBlock = none ∨ v.ownBlock ≠ row) : RowK w0 w' v xs:=⟨h.1,h.2.kept hg hn⟩
theorem RowK.below {w0 w w' : World} {v : Value} {xs : List Nat} (h : RowK w0 w v xs) (hb : Below w.heap.size w w') : RowK w0 w' v xs :=
 h.kept (row:=none) ⟨hb.os,hb.tape,hb.output,hb.size,fun i hi _ => hb.block i hi⟩ (by cases v.ownBlock <;> simp)
structure NewAt (w0 : World) (Nb : Nat) (wv : Value) (root : Kn) (ws : List (List UInt8)) (i j : Nat) (Ks : List Kn) (ev : Kn → Value) (ch : Kn → List (Nat × Value)) (w : World) : Prop where
 net : Net w0 Nb wv root Ks (fun _ => .pointer none) ev ch w
 pre : ∀ u,PreK ws i j u ↔ ∃ k ∈ Ks,k.u = u
 rows : ∀ k ∈ Ks,∃ xs,OwnL ws i k.u xs ∧ RowK w0 w (ev k) xs
theorem getL_dec {w0 w : World} {Nb : Nat} {wv : Value} {root k : Kn} {Ks : List Kn} {bk ev : Kn → Value} {ch : Kn → List (Nat × Value)} (h : Net w0 Nb wv root Ks bk ev ch w) (hk : k ∈ Ks) (c : UInt8) :
 (getL (ch k) c.toNat = none ∧ ∀ t ∈ Ks,t.u ≠ k.u ++ [c]) ∨ ∃ t ∈ Ks,getL (ch k) c.toNat = some (kptr t.b) ∧ t.u = k.u ++ [c]:=by
 have hc : c.toNat < 256:=c.toNat_lt
 have he : UInt8.ofNat c.toNat = c:=by simp
 cases hg : getL (ch k) c.toNat with
 | none =>
   refine .inl ⟨rfl,fun t ht e => ?_⟩
   have:=h.all k hk t ht c.toNat hc (by rw [he];exact e)
   rw [hg] at this
   cases this
 | some v =>
   obtain ⟨t,ht,rfl,_,hu⟩:=h.kids k hk _ v hg
   exact .inr ⟨t,ht,rfl,by rw [he] at hu;exact hu⟩
theorem fresh_own {ws : List (List UInt8)} {i j : Nat} {u : List UInt8} (hn : ¬ PreK ws i j u) : OwnL ws i u []:=by
 refine ⟨List.nodup_nil,fun a => ⟨(fun h => by cases h),?_⟩⟩
 rintro ⟨ha,hau⟩
 exact absurd (.inr (.inl ⟨u,List.mem_of_getElem? (i:=a) (by rw [List.getElem?_take_of_lt ha];exact hau),List.prefix_refl _⟩)) hn
section
variable {w0 w w' : World} {Nb : Nat} {wv : Value} {root k : Kn} {ws : List (List UInt8)} {i j : Nat} {Ks : List Kn} {ev : Kn → Value} {ch : Kn → List (Nat × Value)} {wd : List UInt8} {c : UInt8}
theorem RowK.apart {v : Value} {xs : List Nat} {g : Nat} (h : RowK w0 w v xs) (hno : ∀ cur,w.heap[g]? ≠ some (.cells cur 3 (0,0))) : v.ownBlock = none ∨ v.ownBlock ≠ some g:=by
 rcases h.2.2 with ⟨rfl,_⟩ | ⟨b,cap,cur,rfl,_,hb,_⟩
 ·exact .inl rfl
 ·refine .inr fun e => ?_
  have e2 : b = g:=by simpa [Value.ownBlock] using e
  exact hno cur (by rw [← e2];exact hb)
theorem RowK.not_map {v : Value} {xs : List Nat} {m : Nat} {l : List (Nat × Value)} (h : RowK w0 w v xs) (hm : Mp w m byteW l) : v.ownBlock = none ∨ v.ownBlock ≠ some m:=by
 obtain ⟨es,clock,hb,_⟩:=hm
 exact h.apart (fun cur e => by rw [hb] at e;cases e)
theorem RowK.not_blk {v : Value} {xs : List Nat} {g : Nat} {t : TypeId} {cs : Array Value} (h : RowK w0 w v xs) (hb : Blk w g t cs) (ht : t ≠ 3) : v.ownBlock = none ∨ v.ownBlock ≠ some g :=
 h.apart (fun cur e => by unfold Blk at hb;rw [hb] at e;cases e;exact ht rfl)
theorem NewAt.has (h : NewAt w0 Nb wv root ws i j Ks ev ch w) (hw : ws[i]? = some wd) (hc : wd[j]? = some c) {t : Kn} (ht : t ∈ Ks) (hu : t.u = wd.take j ++ [c]) : NewAt w0 Nb wv root ws i (j + 1) Ks ev ch w:=by
 refine ⟨h.net,fun u => ?_,h.rows⟩
 rw [PreK_more hw hc,h.pre]
 constructor
 ·rintro (h1 | rfl)
  ·exact h1
  ·exact ⟨t,ht,hu⟩
 ·exact .inl
theorem NewAt.new (h : NewAt w0 Nb wv root ws i j Ks ev ch w) (hw : ws[i]? = some wd) (hc : wd[j]? = some c) (hk : k ∈ Ks) (hku : k.u = wd.take j) (hn : getL (ch k) c.toNat = none) {w1 : World}
 (hw1 : w1 = (w.alloc (.map #[] 0)).alloc (.cells #[.map (some w.heap.size),.pointer none,.slice none 0 0] 220)) {t : Kn} (ht : t = ⟨w.heap.size + 1,w.heap.size,k.u ++ [c]⟩)
 (hmp : Mp w' k.m byteW (putL (ch k) c.toNat (kptr t.b))) (hg : w1.grownBy w' (some k.m)) :
 NewAt w0 Nb wv root ws i (j + 1) (t :: Ks) (upd ev t (.slice none 0 0)) (upd (upd ch t []) k (putL (ch k) c.toNat (kptr t.b))) w':=by
 have he : UInt8.ofNat c.toNat = c:=by simp
 obtain ⟨hnet,htn⟩:=h.net.insert hk (c:=c.toNat) c.toNat_lt hn hw1 (by rw [he];exact ht) hmp hg
 rw [upd_const] at hnet
 have hno : ∀ s ∈ Ks,s.u ≠ k.u ++ [c]:=by
  rcases getL_dec h.net hk c with ⟨_,h1⟩ | ⟨t',_,h1,_⟩
  ·exact h1
  ·rw [hn] at h1;cases h1
 have hb1 : Below w.heap.size w w1:=by rw [hw1];exact ((Below.refl _ _).alloc (Nat.le_refl _) _).alloc (by simp) _
 refine ⟨hnet,fun u => ?_,fun s hs => ?_⟩
 ·rw [PreK_more hw hc,h.pre]
  constructor
  ·rintro (⟨s,hs,h1⟩ | rfl)
   ·exact ⟨s,List.mem_cons_of_mem _ hs,h1⟩
   ·exact ⟨t,List.mem_cons_self ..,by rw [ht,hku]⟩
  ·rintro ⟨s,hs,h1⟩
   rcases List.mem_cons.1 hs with rfl | hs
   ·exact .inr (by rw [← h1,ht,hku])
   ·exact .inl ⟨s,hs,h1⟩
 ·rcases List.mem_cons.1 hs with e | hs
  ·rw [e,upd_same]
   refine ⟨[],fresh_own (j:=j) (fun hp => ?_),RowK.nil _ _⟩
   obtain ⟨q,hq,hqu⟩:=(h.pre _).1 hp
   exact hno q hq (by rw [hqu,ht])
  ·rw [upd_other _ _ (fun (e : s = t) => htn (by rw [← e];exact hs))]
   obtain ⟨xs,h1,h2⟩:=h.rows s hs
   have h3:=h2.below hb1
   exact ⟨xs,h1,h3.kept hg (h3.not_map (((h.net.below hb1)).mp k hk))⟩
theorem NewAt.word (h : NewAt w0 Nb wv root ws i wd.length Ks ev ch w) (hw : ws[i]? = some wd) (hnd : ws.Nodup) (hk : k ∈ Ks) (hku : k.u = wd) {v : Value} {w1 : World} (hb : Below w.heap.size w w1) (hv : RowK w0 w1 v [i]) :
 NewAt w0 Nb wv root ws (i + 1) 0 Ks (upd ev k v) ch (w1.setCell ⟨k.b,2,none⟩ v):=by
 have hn1:=h.net.below hb
 have hg:=grown_setK w1 ⟨k.b,2,none⟩ v
 have hint : 220 ≠ 3:=by decide
 have hone : ∀ a : Nat,ws[a]? = some wd → a = i:=fun a ha => by
  exact (List.getElem?_inj (List.getElem?_eq_some_iff.1 ha).1 hnd).1 (ha.trans hw.symm)
 refine ⟨hn1.setEnds hk v,fun u => ?_,fun s hs => ?_⟩
 ·rw [PreK_next hw,h.pre]
 ·by_cases e : s = k
  ·rw [e,upd_same]
   refine ⟨[i],⟨by simp,fun a => ?_⟩,hv.kept hg (hv.not_blk (hn1.blk k hk) hint)⟩
   rw [List.mem_singleton,hku]
   exact ⟨fun ha => by rw [ha];exact ⟨Nat.lt_succ_self _,hw⟩,fun ⟨_,ha⟩ => hone a ha⟩
  ·rw [upd_other _ _ e]
   obtain ⟨xs,h1,h2⟩:=h.rows s hs
   have h3:=h2.below hb
   refine ⟨xs,⟨h1.1,fun a => ?_⟩,h3.kept hg (h3.not_blk (hn1.blk k hk) hint)⟩
   rw [h1.2]
   constructor
   ·exact fun ⟨x,y⟩ => ⟨by omega,y⟩
   ·rintro ⟨x,y⟩
    refine ⟨?_,y⟩
    rcases Nat.lt_or_ge a i with hlt | hge
    ·exact hlt
    ·exfalso
     obtain rfl : a = i:=by omega
     rw [hw] at y
     exact e (h.net.iu s hs k hk ((Option.some.inj y).symm.trans hku.symm))
end
theorem letter {s : ByteArray} {j : Nat} (h : j < s.size) : s.data.toList[j]? = some s[j]:=by
 have h2 : j < s.data.toList.length:=by simpa using h
 rw [List.getElem?_eq_getElem h2]
 simp [ByteArray.getElem_eq_getElem_data]
theorem words_nodup {l : List ByteArray} (h : l.Nodup) : (l.map (fun s => s.data.toList)).Nodup:=by
 rw [List.nodup_iff_pairwise_ne,List.pairwise_map]
 rw [List.nodup_iff_pairwise_ne] at h
 exact h.imp fun hne e => hne (ByteArray.ext (Array.toList_inj.1 e))
theorem NewAt.below {w0 w w' : World} {Nb : Nat} {wv : Value} {root : Kn} {ws : List (List UInt8)} {i j : Nat} {Ks : List Kn} {ev : Kn → Value} {ch : Kn → List (Nat × Value)} (h : NewAt w0 Nb wv root ws i j Ks ev ch w) (hb : Below w.heap.size w w') : NewAt w0 Nb wv root ws i j Ks ev ch w' :=
 ⟨h.net.below hb,h.pre,fun k hk => by
   obtain ⟨xs,h1,h2⟩:=h.rows k hk
   exact ⟨xs,h1,h2.below hb⟩⟩
theorem NewAt.bare {w0 w : World} {Nb : Nat} {wv : Value} {root k : Kn} {ws : List (List UInt8)} {i j : Nat} {Ks : List Kn} {ev : Kn → Value} {ch : Kn → List (Nat × Value)} (h : NewAt w0 Nb wv root ws i j Ks ev ch w) (hnd : ws.Nodup) (hk : k ∈ Ks) (hw : ws[i]? = some k.u) : ev k = .slice none 0 0:=by
 obtain ⟨xs,h1,h2⟩:=h.rows k hk
 refine h2.1.2 (List.eq_nil_iff_forall_not_mem.2 fun a ha => ?_)
 obtain ⟨hlt,haw⟩:=(h1.2 a).1 ha
 have:=(List.getElem?_inj (List.getElem?_eq_some_iff.1 haw).1 hnd).1 (haw.trans hw.symm)
 omega
def okN (l : List ByteArray) : Prop:=l.length ≤ 20 ∧ (∀ s ∈ l,0 < s.size ∧ s.size ≤ 60) ∧ l.Nodup
theorem New_c (l : List ByteArray) (v : Value) (w : World) (hr : Rd1 w v (strVals l)) (hok : okN l) (ws : List (List UInt8)) (hws : ws = l.map (fun s => s.data.toList)) (P : Nat → World → Prop)
 (htie : ∀ (Ks : List Kn) (ev : Kn → Value) (ch : Kn → List (Nat × Value)) (W : World),NewAt w (w.heap.size + 2) v ⟨w.heap.size + 1,w.heap.size,[]⟩ ws ws.length 0 Ks ev ch W →
   Calls Tryz.prog 125 #[.pointer (some ⟨w.heap.size + 2,0,none⟩)] W (fun e w' => e = .returned (.tuple #[]) ∧ P (w.heap.size + 2) w')) :
 Calls Tryz.prog 86 #[v] w (fun e w' => e = .returned (.pointer (some ⟨w.heap.size + 2,0,none⟩)) ∧ P (w.heap.size + 2) w'):=by
 have hlen : ws.length = l.length:=by rw [hws];simp
 have hnd : ws.Nodup:=by rw [hws];exact words_nodup hok.2.2
 have hfew : l.length ≤ 20:=hok.1
 have HSZ:=hid hok.2.1
 obtain ⟨A,cap,rfl,hcap,hcap2,hmem⟩:=str_open hr
 have HTIE:=hid htie
 have HM:=hid hmem
 have HSTART : Hid (NewAt w (w.heap.size + 2) (.slice A l.length cap) ⟨w.heap.size + 1,w.heap.size,[]⟩ ws 0 0 [⟨w.heap.size + 1,w.heap.size,[]⟩] (fun _ => .slice none 0 0) (fun _ => []) (((w.alloc (.map #[] 0)).alloc (.cells #[.map (some w.heap.size),.pointer none,.slice none 0 0] 220)).alloc (.cells #[kptr (w.heap.size + 1),.slice A l.length cap] 222))):=hid
  ⟨Net.start w _,fun u => by
    rw [PreK_zero]
    constructor
    ·rintro rfl;exact ⟨_,List.mem_singleton.2 rfl,rfl⟩
    ·rintro ⟨k,hk,rfl⟩;rw [List.mem_singleton.1 hk],fun k hk => ⟨[],⟨List.nodup_nil,fun a => ⟨(fun h => by cases h),(fun h => by omega)⟩⟩,RowK.nil _ _⟩⟩
 have HND:=hid hnd
 have HWS:=hid hws
 have hmm:=@run_makeMap Tryz.prog
 have hnl : Hid (ws.length = l.length):=hid hlen
 clear hmem hr hok htie hnd hws hlen
 go_enter Tryz.func86,Tryz.ntmps86
 go_wp2_with fail
 unfold kptr at HSTART
 generalize hR : (⟨w.heap.size + 1,w.heap.size,[]⟩ : Kn) = root at *
 have hrb : root.b = w.heap.size + 1:=by rw [← hR]
 clear hR
 go_loopw [16] (fun v16 wr => ∃ (i : Nat) (Ks : List Kn) (ev : Kn → Value) (ch : Kn → List (Nat × Value)),i ≤ l.length ∧ v16 = .int .i64 (i : Int) ∧ Hid (NewAt w (w.heap.size + 2) (.slice A l.length cap) root ws i 0 Ks ev ch wr)) (fun i _ => l.length - (intOf i).toNat)
 case atStart => exact ⟨0,_,_,_,by omega,rfl,HSTART⟩
 case round =>
  clear HSTART
  obtain ⟨i,Ks,ev,ch,hi,rfl,HN⟩:=hrel
  have n0 : wr.cell? ⟨w.heap.size + 2,0,none⟩ = some (.pointer (some ⟨root.b,0,none⟩)):=HN.out.net.net.cell 0
  by_cases hlt : i < l.length
  ·obtain ⟨wdB,hwd⟩ : ∃ x,l[i]? = some x:=⟨_,List.getElem?_eq_getElem hlt⟩
   obtain ⟨b,off,rfl,hbl,hcell⟩:=HM.out (by omega)
   have hc:=hcell wr (fun o => HN.out.net.keep.cell (p:=⟨b,o,none⟩) hbl) i wdB hwd
   have hsz : wdB.size ≤ 60:=(HSZ.out wdB (List.mem_of_getElem? hwd)).2
   have HW : Hid (ws[i]? = some wdB.data.toList):=hid (by rw [HWS.out,List.getElem?_map,hwd];rfl)
   have HST : Hid (root ∈ Ks ∧ root.u = wdB.data.toList.take 0):=hid ⟨HN.out.net.rt,by rw [HN.out.net.ru];rfl⟩
   clear hwd hcell hbl hrb
   go_wp2_with fail
   go_loopw [6,27] (fun v6 v27 wx => ∃ (j : Nat) (k : Kn) (Ks : List Kn) (ev : Kn → Value) (ch : Kn → List (Nat × Value)),j ≤ wdB.size ∧ v27 = .int .i64 (j : Int) ∧ v6 = .pointer (some ⟨k.b,0,none⟩) ∧ Hid (k ∈ Ks ∧ k.u = wdB.data.toList.take j) ∧ Hid (NewAt w (w.heap.size + 2) (.slice (some ⟨b,off,none⟩) l.length cap) root ws i j Ks ev ch wx)) (fun _ v _ => wdB.size - (intOf v).toNat)
   case atStart => exact ⟨0,root,Ks,ev,ch,by omega,rfl,rfl,HST,HN⟩
   case round =>
    clear n0 hc HN HST
    obtain ⟨j,k,Ks,ev,ch,hj,rfl,rfl,HK,HN⟩:=hrel
    by_cases hjl : j < wdB.size
    ·have hlet:=letter hjl
     obtain ⟨hk,hku⟩:=HK.out
     have k0 : wr.cell? ⟨k.b,0,none⟩ = some (.map (some k.m)):=(HN.out.net.blk k hk).cell 0
     rcases getL_dec HN.out.net hk wdB[j] with ⟨hg,hno⟩ | ⟨t,ht,hg,htu⟩
     ·have hlk:=fun n => ((HN.out.below (below_drewN (Below.refl _ _) n)).net.mp k hk).look_none byte_keyW Tryz.underlying218 (zero_knot _) hg false
      simp only [byteW,Bool.false_eq_true,if_false] at hlk
      go_wp2_with fail
      go_quiet (fail)
      have HN1:=hid (HN.out.below (below_drewN (Below.refl _ _) nq))
      generalize wr.drewN nq = W1 at HN1 ⊢
      clear HN k0 hlk
      go_wp2_with fail
      have HN2:=hid (HN1.out.below (Below.refl _ _).drew)
      have hwb : Below W1.drew.heap.size W1.drew ((W1.drew.alloc (.map #[] 0)).alloc (.cells #[.map (some W1.heap.size),.pointer none,.slice none 0 0] 220)):=((Below.refl _ _).alloc (Nat.le_refl _) _).alloc (by simp) _
      obtain ⟨W3,hup,hmp3,hg3,hs3⟩:=Mp.update ((HN2.out.net.mp k hk).below hwb) byte_keyW Tryz.underlying218 wdB[j].toNat (kptr (W1.heap.size + 1))
      have HNX:=hid (HN2.out.new (t:=⟨W1.heap.size + 1,W1.heap.size,k.u ++ [wdB[j]]⟩) HW.out hlet hk hku hg rfl rfl hmp3 hg3)
      have k0 : W1.drew.cell? ⟨k.b,0,none⟩ = some (.map (some k.m)):=(HN2.out.net.blk k hk).cell 0
      have k1 : (W1.alloc (.map #[] 0)).drew.cell? ⟨k.b,0,none⟩ = some (.map (some k.m)):=((HN2.out.net.blk k hk).alloc _).cell 0
      have k2 : ((W1.alloc (.map #[] 0)).alloc (.cells #[.map (some W1.heap.size),.pointer none,.slice none 0 0] 220)).drew.cell? ⟨k.b,0,none⟩ = some (.map (some k.m)):=(((HN2.out.net.blk k hk).alloc _).alloc _).cell 0
      have hmp4 : Mp W3 k.m byteW (putL (ch k) wdB[j].toNat (kptr (W1.heap.size + 1))):=hmp3
      have hkt : k ∈ (⟨W1.heap.size + 1,W1.heap.size,k.u ++ [wdB[j]]⟩ : Kn) :: Ks:=List.mem_cons_of_mem _ hk
      have HK3 : Hid (W3.cell? ⟨k.b,0,none⟩ = some (.map (some k.m))):=hid ((HNX.out.net.blk k hkt).cell 0)
      have HLK : Hid (∀ n,Mp (W3.drewN n) k.m byteW (putL (ch k) wdB[j].toNat (kptr (W1.heap.size + 1)))):=hid fun n => hmp4.below (below_drewN (Below.refl _ _) n)
      have HTX : Hid ((⟨W1.heap.size + 1,W1.heap.size,k.u ++ [wdB[j]]⟩ : Kn) ∈ (⟨W1.heap.size + 1,W1.heap.size,k.u ++ [wdB[j]]⟩ : Kn) :: Ks ∧ (⟨W1.heap.size + 1,W1.heap.size,k.u ++ [wdB[j]]⟩ : Kn).u = wdB.data.toList.take (j + 1)):=hid ⟨List.mem_cons_self ..,by rw [take_snoc hlet,← hku]⟩
      simp only [byteW,kptr] at hup
      replace hup : (Instr.mapUpdate 218 (.map (some k.m)) (.int .u8 (wdB[j].toNat : Int)) (.pointer (some ⟨W1.heap.size + 1,0,none⟩))).run Tryz.prog (((W1.alloc (.map #[] 0)).alloc (.cells #[.map (some W1.heap.size),.pointer none,.slice none 0 0] 220)).drew) = .ok () W3:=hup
      clear hg hno hku hlet hmp3 hmp4 hg3 hs3 HN1 HN2 hwb hkt
      go_region
      all_goals (
       clear k0 k1 k2 hup
       have k3:=HK3.out
       have hlk:=fun n => (HLK.out n).look_some byte_keyW Tryz.underlying218 (a:=wdB[j].toNat) (v:=kptr (W1.heap.size + 1)) (by rw [getL_put,if_pos rfl]) false
       simp only [byteW,kptr,Bool.false_eq_true,if_false] at hlk
       go_wp2_with fail
       go_quiet (fail)
       go_wp2_with fail
       go_roundw
       case rel => exact ⟨j + 1,_,_,_,_,by omega,by go_num,rfl,HTX,hid (HNX.out.below (below_drewN (Below.refl _ _) nq))⟩
       case measure => simp [intOf];omega)
     ·have hlk:=fun n => ((HN.out.below (below_drewN (Below.refl _ _) n)).net.mp k hk).look_some byte_keyW Tryz.underlying218 hg false
      simp only [byteW,kptr,Bool.false_eq_true,if_false] at hlk
      have HNX:=hid (HN.out.has HW.out hlet ht (by rw [htu,hku]))
      have HTX : Hid (t ∈ Ks ∧ t.u = wdB.data.toList.take (j + 1)):=hid ⟨ht,by rw [htu,hku,take_snoc hlet]⟩
      clear htu hku hlet
      go_wp2_with fail
      go_quiet (fail)
      have HN1:=hid (HN.out.below (below_drewN (Below.refl _ _) nq))
      have HNX1:=hid (HNX.out.below (below_drewN (Below.refl _ _) nq))
      generalize wr.drewN nq = W1 at HN1 HNX1 ⊢
      clear k0 hlk HN HNX
      have k0 : W1.cell? ⟨k.b,0,none⟩ = some (.map (some k.m)):=(HN1.out.net.blk k hk).cell 0
      have hlk:=fun n => ((HN1.out.below (below_drewN (Below.refl _ _) n)).net.mp k hk).look_some byte_keyW Tryz.underlying218 hg false
      simp only [byteW,kptr,Bool.false_eq_true,if_false] at hlk
      go_wp2_with fail
      go_quiet (fail)
      go_wp2_with fail
      go_roundw
      case rel => exact ⟨j + 1,t,Ks,ev,ch,by omega,by go_num,rfl,HTX,hid (HNX1.out.below (below_drewN (Below.refl _ _) nq))⟩
      case measure => simp [intOf];omega
    ·obtain rfl : j = wdB.size:=by omega
     obtain ⟨hk,hku⟩:=HK.out
     have hku2 : k.u = wdB.data.toList:=by rw [hku,show wdB.size = wdB.data.toList.length by simp,List.take_length]
     have hbare:=HN.out.bare HND.out hk (by rw [hku2];exact HW.out)
     have k2 : wr.cell? ⟨k.b,2,none⟩ = some (.slice none 0 0):=by
      have:=(HN.out.net.blk k hk).cell 2
      rw [hbare] at this
      exact this
     have HKB:=hid (HN.out.net.blk k hk)
     have hkl:=HKB.out.lt
     obtain ⟨i0,hi0,hz0,hz1,hz2⟩:=info_parts info_int
     have hbs:=HN.out.net.keep.size
     have HKU:=hid hku2
     have hkb:=HN.out.net.blk k hk
     rw [hbare] at hkb
     have HKB2:=hid hkb
     clear hku hku2 hbare HK hkb
     go_wp2_with (at_builtin;refine wpList_append_lies _ rfl (.tmp 62) (.tmp 64) _ rfl w.heap.size 3 i0 _ 1 8 Tryz.underlying191 hi0 hz0 hz1 hz2 rfl (by omega) _ 0 [] rfl (World.ownsRow_nil _ _ _ _) ⟨wr.heap.size,0,none⟩ 1 1 [.int .i64 (i : Int)] rfl rfl (cell_one_new _ _ _) (by simp [Value.oneCell']) (by omega) (by unfold maxLen;omega) (by omega) (by simp;omega) _ rfl ?_;intro g2 cap2 w2 hown2 hgrow2 hat2 hlt2;have hgr : (wr.alloc (.cells #[.int .i64 (i : Int)] 3)).grownBy w2 none:=hgrow2;have hk3:=blk_grown (HKB2.out.alloc (.cells #[.int .i64 (i : Int)] 3)) hgr (by simp);have k3 : w2.cell? ⟨k.b,2,none⟩ = some (.slice none 0 0):=hk3.cell 2;have y3:=hk3.frozen 2)
     have hbl2 : Below wr.heap.size wr w2:=by
      have hb1:=(Below.refl wr.heap.size wr).alloc (Nat.le_refl _) (.cells #[.int .i64 (i : Int)] 3)
      exact hb1.grown hgr (by simp) (fun g e => by cases e)
     go_roundw
     case rel =>
      refine ⟨i + 1,Ks,_,ch,by omega,by go_num,hid (HN.out.word HW.out HND.out hk HKU.out hbl2 ⟨⟨(fun e => by cases e),(fun e => by cases e)⟩,?_⟩)⟩
      simpa [natVals] using hown2
     case measure => simp [intOf];omega
  ·obtain rfl : i = l.length:=by omega
   have HN2 : Hid (∀ e w',e = Ending.returned (.tuple #[]) ∧ P (w.heap.size + 2) w' → e = .returned (.tuple #[]) ∧ P (w.heap.size + 2) w'):=hid fun _ _ h => h
   have HT:=hid (HTIE.out Ks ev ch wr (by rw [hnl.out];exact HN.out))
   clear HN HTIE
   go_wp2_with (go_at_call 125;refine HT.out.mono ?_;rintro e w' ⟨rfl,hp⟩)
   go_ret
   exact ⟨rfl,hp⟩
end Go.Proofs.YthhcpbfgoofppaaGreatDoor
