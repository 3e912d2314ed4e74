/-
  RB, ReachA, ReachB, ReachC, ReachD, ReachE, ReachF, ReachG, ReachH.
-/
import Derived.Test.YthcahjnniendnacGreatDoorGPl
import Derived.Test.YthcahjnniendnacGreatDoorGRef
import Derived.Test.YthcahjnniendnacGreatDoorGRex
import Derived.BigQuiet
import Derived.Laws.CopyOwn
import Derived.Deep.RegionHeld3
import Derived.StillTailTactics
import Derived.Deep.RegionWith
set_option linter.unusedVariables false
set_option linter.unusedSimpArgs false
set_option maxRecDepth 100000
set_option maxHeartbeats 16000000
open Go.Lib (hid)
namespace Go.Proofs.YthcahjnniendnacGreatDoor
open Go.RowKit Wf
def RB (w : World) (g N : Nat) (D : Nat → Bool) : Prop:=∃ cs : Array Value,Blk w g 4 cs ∧ cs.size = N ∧ ∀ k,k < N → cs[k]? = some (.bool (D k))
section
variable {w w' : World} {g N : Nat} {D D' : Nat → Bool}
theorem RB.lt (h : RB w g N D) : g < w.heap.size:=by
 obtain ⟨cs,hb,_⟩:=h
 exact hb.lt
theorem RB.below (h : RB w g N D) (hb : Below w.heap.size w w') : RB w' g N D:=by
 obtain ⟨cs,hk,h2⟩:=h
 exact ⟨cs,hk.kept hb,h2⟩
theorem RB.as (h : RB w g N D) (hd : ∀ k,k < N → D k = D' k) : RB w g N D':=by
 obtain ⟨cs,hb,hs,hc⟩:=h
 exact ⟨cs,hb,hs,fun k hk => by rw [hc k hk,hd k hk]⟩
theorem RB.cell (h : RB w g N D) {k : Nat} (hk : k < N) : w.cell? ⟨g,k,none⟩ = some (.bool (D k)):=by
 obtain ⟨cs,hb,_,hc⟩:=h
 rw [hb.cell]
 exact hc k hk
theorem RB.frozen (h : RB w g N D) (k : Nat) : w.frozen? ⟨g,k,none⟩ = false:=by
 obtain ⟨cs,hb,_⟩:=h
 exact hb.frozen k
theorem RB.set_ (h : RB w g N D) (k : Nat) (b : Bool) : RB (w.setCell ⟨g,k,none⟩ (.bool b)) g N (setD D k b):=by
 obtain ⟨cs,hb,hs,hc⟩:=h
 refine ⟨_,hb.set_ k (.bool b),by simpa using hs,fun j hj => ?_⟩
 rw [Array.getElem?_setIfInBounds]
 unfold setD
 by_cases e : k = j
 ·subst e
  rw [if_pos rfl,if_pos (by omega),if_pos rfl]
 ·rw [if_neg e,if_neg (fun h => e h.symm)]
  exact hc j hj
theorem RB.new (w : World) (N : Nat) : RB (w.alloc (.cells (repA N (.bool false)) 4)) w.heap.size N (fun _ => false) :=
 ⟨_,Blk.new _ _ _,repA_size _ _,fun _ hk => repA_get _ _ _ hk⟩
theorem RB.alloc (h : RB w g N D) (o : Obj) : RB (w.alloc o) g N D:=h.below ((Below.refl _ _).alloc (Nat.le_refl _) _)
end
theorem RB.kept {w w' : World} {g N : Nat} {D : Nat → Bool} {row : Option Nat} (h : RB w g N D) (hg : w.grownBy w' row) (hne : some g ≠ row) : RB w' g N D:=by
 obtain ⟨cs,hb,h2⟩:=h
 exact ⟨cs,(hg.block g hb.lt hne).trans hb,h2⟩
theorem RB.far {w : World} {g N g2 k : Nat} {D : Nat → Bool} (h : RB w g N D) (hne : g ≠ g2) (v : Value) : RB (w.setCell ⟨g2,k,none⟩ v) g N D:=by
 obtain ⟨cs,hb,h2⟩:=h
 exact ⟨cs,hb.far hne v,h2⟩
def NewB (N : Nat) (P : (Nat → Bool) → Prop) (w : World) (e : Ending) (w' : World) : Prop :=
 ∃ (g : Nat) (D : Nat → Bool),e = .returned (.slice (some ⟨g,0,none⟩) N N) ∧ RB w' g N D ∧ P D ∧ Below w.heap.size w w'
def JoinIs (N : Nat) (A B : Nat → Bool) (w : World) (e : Ending) (w' : World) : Prop :=
 ∃ g : Nat,e = .returned (.slice (some ⟨g,0,none⟩) N N) ∧ RB w' g N (fun j => A j || B j) ∧ Below w.heap.size w w'
theorem joined_any (ga gb N : Nat) (hN : N ≤ 1000) (A B : Nat → Bool) (w : World) (ha : RB w ga N A) (hb : RB w gb N B) :
 Calls Tryz.prog 146 #[.slice (some ⟨ga,0,none⟩) N N,.slice (some ⟨gb,0,none⟩) N N] w (JoinIs N A B w):=by
 have HA:=hid ha
 have HB:=hid hb
 have hmk:=fun W => mk_bools N (by omega) W
 have hla:=ha.lt
 have hlb:=hb.lt
 clear ha hb
 go_enter Tryz.func146,Tryz.ntmps146
 go_wp2
 clear hmk
 go_loopw [6] (fun v4 wr => ∃ k : Nat,k ≤ N ∧ v4 = .int .i64 (k : Int) ∧ Hid (RB wr w.heap.size N (fun j => decide (j < k) && (A j || B j))) ∧ Hid (Below w.heap.size w wr)) (fun i _ => N - (intOf i).toNat)
 case atStart => exact ⟨0,by omega,rfl,hid ((RB.new w N).as fun j _ => by simp),hid ((Below.refl _ _).alloc (Nat.le_refl _) _)⟩
 case round =>
  obtain ⟨k,hk,rfl,hR,hBL⟩:=hrel
  by_cases hlt : k < N
  ·have x1:=(HA.out.below hBL.out).cell hlt
   have x2:=(HB.out.below hBL.out).cell hlt
   have x3:=hR.out.cell hlt
   have hfz:=hR.out.frozen k
   have hk1 : (k : Int) < (N : Int):=by omega
   obtain ⟨x,hx⟩ : ∃ x,x = A k:=⟨_,rfl⟩
   obtain ⟨y,hy⟩ : ∃ y,y = B k:=⟨_,rfl⟩
   rw [← hx] at x1
   rw [← hy] at x2
   have HX:=hid hx
   have HY:=hid hy
   clear hx hy
   have key : Hid (RB (wr.setCell ⟨w.heap.size,k,none⟩ (.bool (x || y))) w.heap.size N (fun j => decide (j < k + 1) && (A j || B j))):=hid ((hR.out.set_ k _).as fun j hj => by
    unfold setD
    by_cases e : j = k
    ·subst e
     rw [if_pos rfl,HX.out,HY.out]
     simp
    ·rw [if_neg e]
     have : decide (j < k + 1) = decide (j < k):=by rw [decide_eq_decide];omega
     rw [this])
   clear HX HY
   cases x <;> cases y
   all_goals
    go_wp2
    go_roundw
    case rel => exact ⟨k + 1,by omega,by go_num,key,hid (hBL.out.setCell (Nat.le_refl _) _)⟩
    case measure => simp [intOf];omega
  ·obtain rfl : k = N:=by omega
   go_wp2
   go_ret
   exact ⟨_,rfl,hR.out.as fun j hj => by simp [hj],hBL.out⟩
def ReachAt (l : List Nd) (b off cap : Nat) (s : ByteArray) (u : Rx) (i : Nat) : Prop:=∀ (w : World) (g : Nat) (D : Nat → Bool),RdN w (.slice (some ⟨b,off,none⟩) l.length cap) l → RB w g (s.size + 1) D →
 Calls Tryz.prog 134 #[.slice (some ⟨b,off,none⟩) l.length cap,.int .i64 (i : Int),.string s,.slice (some ⟨g,0,none⟩) (s.size + 1) (s.size + 1)] w (NewB (s.size + 1) (ToD (Fits s.data.toList u) (s.size + 1) D) w)
theorem closed_any (l : List Nd) (b off cap : Nat) (s : ByteArray) (hs : s.size ≤ 400) (u : Rx) (i : Nat) (hR : ReachAt l b off cap s u i) (w : World) (g : Nat) (D : Nat → Bool) (hr : RdN w (.slice (some ⟨b,off,none⟩) l.length cap) l) (hg : RB w g (s.size + 1) D) :
 Calls Tryz.prog 147 #[.slice (some ⟨b,off,none⟩) l.length cap,.int .i64 (i : Int),.string s,.slice (some ⟨g,0,none⟩) (s.size + 1) (s.size + 1)] w (NewB (s.size + 1) (ToD (Star (Fits s.data.toList u)) (s.size + 1) D) w):=by
 have hBD : ∀ x y,Fits s.data.toList u x y → x < s.size + 1 → y < s.size + 1:=fun x y h hx => by
  have:=(fits_bound s.data.toList u x y h (by simp;omega)).2
  simp at this
  omega
 have hN : s.size + 1 ≤ 401:=by omega
 unfold ReachAt at hR
 clear hs
 generalize s.size + 1 = N at *
 have HR:=hid hR
 have HRD:=hid hr
 have HG:=hid hg
 have HBD:=hid hBD
 clear hR hr hg hBD
 go_enter Tryz.func147,Tryz.ntmps147
 go_wp2_with fail
 go_loopg [3] (N + 1) (fun gk v3 wr => ∃ (g : Nat) (Df : Nat → Bool),v3 = .slice (some ⟨g,0,none⟩) N N ∧ Hid (RB wr g N Df) ∧ Hid (Part (Fits s.data.toList u) N D Df) ∧ Hid (Below w.heap.size w wr) ∧ Hid (N - cntD N Df < gk))
 case atStart => exact ⟨g,D,rfl,HG,hid (Part.start _ _ _),hid (Below.refl _ _),hid (by omega)⟩
 case round =>
  obtain ⟨g,Df,rfl,hG,hP,hB,hM⟩:=hrel
  go_wp2_with fail
  refine (HR.out wr g Df (HRD.out.below hB.out) hG.out).mono ?_
  rintro e w1 ⟨g1,Dn,rfl,hg1,hto,hb1⟩
  have HG1:=hid hg1
  have HTO:=hid hto
  have HGa:=hid (hG.out.below (hb1.mono (Nat.le_refl _)))
  have HB1:=hid (hB.out.trans (hb1.mono hB.out.size))
  clear hg1 hto hb1 hG hB
  go_wp2_with fail
  refine (joined_any g g1 N (by omega) Df Dn w1 HGa.out HG1.out).mono ?_
  rintro e w2 ⟨g2,rfl,hg2,hb2⟩
  have HG2:=hid hg2
  have HGb:=hid (HGa.out.below hb2)
  have HB2:=hid (HB1.out.trans (hb2.mono HB1.out.size))
  clear hg2 hb2 HGa HG1 HB1
  go_wp2_with fail
  go_loopw [10,11] (fun v10 v11 wx => ∃ (k : Nat) (x : Bool),k ≤ N ∧ v11 = .int .i64 (k : Int) ∧ v10 = .bool x ∧ Hid (x = true ↔ ∀ j,j < k → (Df j || Dn j) = Df j) ∧ Hid (RB wx g2 N (fun j => Df j || Dn j)) ∧ Hid (RB wx g N Df) ∧ Hid (Below w.heap.size w wx)) (fun _ i _ => N - (intOf i).toNat)
  case atStart => exact ⟨0,true,by omega,rfl,rfl,hid ⟨fun _ j hj => by omega,fun _ => rfl⟩,HG2,HGb,HB2⟩
  case round =>
   clear HG2 HGb HB2
   obtain ⟨k,x,hk,rfl,rfl,hX,hG2,hG,hB⟩:=hrel
   by_cases hlt : k < N
   ·have y1:=hG2.out.cell hlt
    have y2:=hG.out.cell hlt
    have hk1 : (k : Int) < (N : Int):=by omega
    have hk0 : (0 : Int) ≤ (k : Int):=by omega
    have hd:=below_drewN (Below.refl wr.heap.size wr) 
    obtain ⟨y,hy⟩ : ∃ y,y = (Df k || Dn k):=⟨_,rfl⟩
    obtain ⟨z,hz⟩ : ∃ z,z = Df k:=⟨_,rfl⟩
    rw [← hy] at y1
    rw [← hz] at y2
    have hnext : ∀ x',(x' = true ↔ x = true ∧ y = z) → Hid (x' = true ↔ ∀ j,j < k + 1 → (Df j || Dn j) = Df j):=fun x' h => hid (by
     rw [h,hX.out]
     constructor
     ·rintro ⟨h1,h2⟩ j hj
      by_cases e : j = k
      ·subst e;rw [← hy,← hz];exact h2
      ·exact h1 j (by omega)
     ·intro h1
      exact ⟨fun j hj => h1 j (by omega),by rw [hy,hz];exact h1 k (by omega)⟩)
    have HNX:=hid hnext
    clear hnext hy hz hX
    cases x with
    | false =>
      go_wp2_with fail
      go_quiet (fail)
      go_wp2
      go_roundw
      case rel => exact ⟨k + 1,false,by omega,by go_num,rfl,HNX.out false (by simp),hid (hG2.out.below (hd _)),hid (hG.out.below (hd _)),hid (below_drewN hB.out _)⟩
      case measure => simp [intOf];omega
    | true =>
      have HE:=hid (HNX.out (y == z) (by simp))
      clear HNX
      cases y <;> cases z
      all_goals
       go_wp2_with fail
       go_quiet (fail)
       go_wp2
       go_roundw
       case rel => exact ⟨k + 1,_,by omega,by go_num,rfl,HE.out,hid (hG2.out.below (hd _)),hid (hG.out.below (hd _)),hid (below_drewN hB.out _)⟩
       case measure => simp [intOf];omega
   ·obtain rfl : k = N:=by omega
    cases x with
    | true =>
      have hall:=hX.out.1 rfl
      have HALL:=hid hall
      clear hall hX
      go_wp2
      go_ret
      exact ⟨g2,_,rfl,hG2.out,Part.done hP.out HTO.out HBD.out HALL.out,hB.out⟩
    | false =>
      have hno : ∃ j,j < k ∧ (Df j || Dn j) ≠ Df j:=Classical.byContradiction fun hn => by
       have:=hX.out.2 fun j hj => Classical.byContradiction fun h => hn ⟨j,hj,h⟩
       cases this
      have HNO:=hid hno
      have HP2:=hid (Part.step hP.out HTO.out)
      clear hno hX hP
      go_wp2
      go_roundg (gk - 1)
      case measure => have:=hM.out;omega
      case rel =>
       obtain ⟨j,hj,hne⟩:=HNO.out
       have h1:=Part.more hj hne
       have h2:=cntD_le k (fun j => Df j || Dn j)
       have h3:=hM.out
       exact ⟨g2,_,rfl,hG2,HP2,hB,hid (by omega)⟩
theorem repA_set (w : World) (N f : Nat) (x : Bool) : RB (w.alloc (.cells ((repA N (.bool false)).setIfInBounds f (.bool x)) 4)) w.heap.size N (setD (fun _ => false) f x) :=
 ⟨_,Blk.new _ _ _,by simp [repA_size],fun k hk => by
   rw [Array.getElem?_setIfInBounds]
   unfold setD
   by_cases e : f = k
   ·subst e;rw [if_pos rfl,if_pos (by rw [repA_size];exact hk),if_pos rfl]
   ·rw [if_neg e,repA_get _ _ _ hk,if_neg (fun h => e h.symm)]⟩
def rowOf (N : Nat) (D : Nat → Bool) : List Value:=(List.range N).map fun j => .bool (D j)
theorem rowOf_len (N : Nat) (D : Nat → Bool) : (rowOf N D).length = N:=by simp [rowOf]
theorem rowOf_get {N : Nat} {D : Nat → Bool} {j : Nat} (h : j < N) : (rowOf N D)[j]? = some (.bool (D j)):=by simp [rowOf,h]
theorem rowOf_one (N : Nat) (D : Nat → Bool) : ∀ v ∈ rowOf N D,v.oneCell' = true:=by
 intro v hv
 simp [rowOf] at hv
 obtain ⟨j,_,rfl⟩:=hv
 rfl
theorem rowOf_min (N : Nat) (D : Nat → Bool) : (rowOf N D).length = Nat.min N N:=by rw [rowOf_len];exact (Nat.min_self _).symm
theorem rowOf_fit (N : Nat) (D : Nat → Bool) : 0 + (rowOf N D).length ≤ (repA N (.bool false)).size:=by rw [rowOf_len,repA_size];omega
theorem RB.src {w : World} {g N : Nat} {D : Nat → Bool} (h : RB w g N D) : ∀ j v,(rowOf N D)[j]? = some v → w.cell? ((⟨g,0,none⟩ : Addr).add j) = some v:=by
 intro j v hv
 have hj : j < N:=by have:=(List.getElem?_eq_some_iff.1 hv).1;rw [rowOf_len] at this;exact this
 rw [rowOf_get hj] at hv
 cases hv
 rw [add_mk,Nat.zero_add]
 exact h.cell hj
theorem RB.copied {w : World} {H N : Nat} {D : Nat → Bool} {cur : Array Value} (h : w.heap[H]? = some (.cells cur 4 (0,0))) (hs : cur.size = N) : RB (w.setRow H (rowOf N D ++ cur.toList.drop (rowOf N D).length).toArray) H N D:=by
 have e : cur.toList.drop (rowOf N D).length = []:=List.drop_eq_nil_of_le (by rw [rowOf_len];simp;omega)
 rw [e]
 refine ⟨_,setRow_heap w H cur _ 4 _ h,by simp [rowOf_len],fun k hk => ?_⟩
 simp only [List.append_nil,List.getElem?_toArray]
 exact rowOf_get hk
def BE (w : World) (g N : Nat) (D E : Nat → Bool) (c0 c1 c2 c3 : Nat) (w' : World) : Prop :=
 RB w' w.heap.size N E ∧ Blk w' (w.heap.size + 1) 41 #[.int .i64 1,.int .u64 (c0 : Int),.int .u64 (c1 : Int),.int .u64 (c2 : Int),.int .u64 (c3 : Int)] ∧ RB w' g N D ∧ Below w.heap.size w w'
section
variable {w w1 w2 : World} {g N : Nat} {D E : Nat → Bool} {c0 c1 c2 c3 : Nat}
theorem BE.kept (h : BE w g N D E c0 c1 c2 c3 w1) (hb : Below w1.heap.size w1 w2) : BE w g N D E c0 c1 c2 c3 w2 :=
 ⟨h.1.below hb,h.2.1.kept hb,h.2.2.1.below hb,h.2.2.2.trans (hb.mono h.2.2.2.size)⟩
theorem BE.put (h : BE w g N D E c0 c1 c2 c3 w1) (hg : g < w.heap.size) (k : Nat) (x : Bool) : BE w g N D (setD E k x) c0 c1 c2 c3 (w1.setCell ⟨w.heap.size,k,none⟩ (.bool x)) :=
 ⟨h.1.set_ k x,h.2.1.far (by simp) _,h.2.2.1.far (by omega) _,h.2.2.2.setCell (Nat.le_refl _) _⟩
theorem BE.cells (h : BE w g N D E c0 c1 c2 c3 w1) : w1.cell? ⟨w.heap.size + 1,1,none⟩ = some (.int .u64 (c0 : Int)) ∧ w1.cell? ⟨w.heap.size + 1,2,none⟩ = some (.int .u64 (c1 : Int)) ∧ w1.cell? ⟨w.heap.size + 1,3,none⟩ = some (.int .u64 (c2 : Int)) ∧ w1.cell? ⟨w.heap.size + 1,4,none⟩ = some (.int .u64 (c3 : Int)):=⟨h.2.1.cell 1,h.2.1.cell 2,h.2.1.cell 3,h.2.1.cell 4⟩
end
def BEx (w : World) (g N : Nat) (D E : Nat → Bool) (c0 c1 c2 c3 k : Nat) (r : Bool) (w' : World) : Prop :=
 BE w g N D E c0 c1 c2 c3 w' ∨ ∃ w0,w' = w0.setCell ⟨w.heap.size,k,none⟩ (.bool r) ∧ BE w g N D E c0 c1 c2 c3 w0
structure InBox (p : Prop) : Prop where
 out : p
section
variable {P : Program} {ops : Array Oper} {w : World} {Q : Act → Prop} {a : Act} {o : Oper} {rest : List Oper}
theorem still_one (h : ∀ K : Act → Prop,(∀ a,InBox (wpStill P ops w Q rest a) → K a) → if Region.wanted o (yielded ops a.tmps) then o.still P a w K else K (a.put o.dst undef)) : InBox (wpStill P ops w Q (o :: rest) a) :=
 InBox.mk (wpStill_step fun K hK => h K fun a ha => hK a ha.out)
theorem still_skip (hw : Region.wanted o (yielded ops a.tmps) = false) (h : InBox (wpStill P ops w Q rest (a.put o.dst undef))) : InBox (wpStill P ops w Q (o :: rest) a) :=
 InBox.mk (wpStill_step fun K hK => by rw [if_neg (by rw [hw];simp)];exact hK _ h.out)
theorem still_end (h : Q a) : InBox (wpStill P ops w Q [] a):=InBox.mk (wpStill_nil h)
theorem still_tail {id : Nat} {Q : Exit → Act → World → Prop} {l : List Oper} (n : Nat) (hm : P.follows .mixedOrders = true) (hB : Region.lexTailB .any l.toArray n = true)
 (h : InBox (wpStill P l.toArray { w with drawn:=w.drawn + 1 } (fun a' => wpList P l.toArray Q (l.drop n) a' { w with drawn:=w.drawn + 1 }) (l.take n) a)) : (Code.region id l.toArray true).wp P Q a w :=
 wp_region_still_tail n hm hB h.out
end
theorem i64_byte (n : Nat) (h : n < 256) : IntKind.i64.wrap (n : Int) = (n : Int):=by
 unfold IntKind.wrap
 simp [IntKind.signed,IntKind.bits]
 omega
theorem Reach_empty (l : List Nd) (hg : ∀ n ∈ l,good n) (hok : ∀ n ∈ l,okC n.cls) (hlen : l.length ≤ 60) (b off cap : Nat) (s : ByteArray) (hs : s.size ≤ 400) (i : Nat) (hat : At l i (.empty)) : ReachAt l b off cap s (.empty) i:=by
 have HM : Hid (∀ (w : World),RdN w (.slice (some ⟨b,off,none⟩) l.length cap) l → ∀ k n,l[k]? = some n →
  w.cell? ⟨b,off + k * 5,none⟩ = some (.int .i64 n.op) ∧ w.cell? ⟨b,off + k * 5 + 1,none⟩ = some (.int .u64 (n.cls.1 : Int)) ∧ w.cell? ⟨b,off + k * 5 + 2,none⟩ = some (.int .u64 (n.cls.2.1 : Int)) ∧
  w.cell? ⟨b,off + k * 5 + 3,none⟩ = some (.int .u64 (n.cls.2.2.1 : Int)) ∧ w.cell? ⟨b,off + k * 5 + 4,none⟩ = some (.int .u64 (n.cls.2.2.2 : Int))):=hid (fun w hr k n hk => by
  obtain ⟨A',cap',hv,hcap,hcap2,hmem⟩:=hr.open_
  injection hv with e1 _ e2
  obtain ⟨b',off',hA,_,hc⟩:=hmem (by have:=(List.getElem?_eq_some_iff.1 hk).1;omega)
  rw [hA] at e1
  cases e1
  exact hc w (fun _ => rfl) k n hk)
 have HBL : Hid (∀ (w : World),RdN w (.slice (some ⟨b,off,none⟩) l.length cap) l → 0 < l.length → b < w.heap.size):=hid (fun w hr hk => by
  obtain ⟨A',cap',hv,hcap,hcap2,hmem⟩:=hr.open_
  injection hv with e1 _ e2
  obtain ⟨b',off',hA,hb,_⟩:=hmem hk
  rw [hA] at e1
  cases e1
  exact hb)
 have HEND:=hid (fun (i : Nat) (hi : i ≤ l.length) (w : World) (hr : RdN w (.slice (some ⟨b,off,none⟩) l.length cap) l) => REnd_all l hg hlen (some ⟨b,off,none⟩) cap l.length i w (by omega) hi hr)
 have HOK:=hid hok
 have HSL:=hid (show s.data.toList.length = s.size by simp)
 have HCLO:=hid (fun (u : Rx) (i : Nat) (h : ReachAt l b off cap s u i) => closed_any l b off cap s hs u i h)
 have HBW : Hid (∀ (w : World) (o o' : Obj),Below w.heap.size w ((w.alloc o).alloc o')):=hid fun w o o' => ((Below.refl _ _).alloc (Nat.le_refl _) _).alloc (by simp) _
 have hmk0:=fun W => mk_bools (s.size + 1) (by omega) W
 have hmk:=hmk0
 rw [show ((s.size + 1 : Nat) : Int) = (s.size : Int) + 1 by omega] at hmk
 have hrg:=fun f (hf : f < s.size + 1) => repA_get (s.size + 1) (.bool false) f hf
 have HRG:=hid hrg
 clear hg hok hrg
 ·intro w g D hr hD
  obtain ⟨q0,q1,q2,q3,q4⟩:=HM.out w hr i _ hat.empty
  have hlt:=hat.lt
  have hpos:=flat_pos (.empty)
  have hi1 : (i : Int) < (l.length : Int):=by omega
  have hgl:=hD.lt
  have hbl:=HBL.out w hr (by omega)
  have HR:=hid hr
  have HD:=hid hD
  dsimp only [zc] at q0 q1 q2 q3 q4
  have hcp:=run_copy_row (P:=Tryz.prog) ((w.alloc (.cells (repA (s.size + 1) (.bool false)) 4)).alloc (.cells #[.int .i64 2,.int .u64 0,.int .u64 0,.int .u64 0,.int .u64 0] 41)) 249 249 3 4 w.heap.size 0 (s.size + 1) (s.size + 1) ⟨g,0,none⟩ (s.size + 1) (s.size + 1) (repA (s.size + 1) (.bool false)) 4 (rowOf (s.size + 1) D) Tryz.underlying249 (by kernel_rfl) ((Blk.new w 4 (repA (s.size + 1) (.bool false))).alloc _) (rowOf_min _ _) ((HD.out.below (HBW.out w _ _)).src) (rowOf_fit _ _) (rowOf_one _ _)
  clear hat hr hD
  go_enter Tryz.func134,Tryz.ntmps134
  go_wp2
  go_ret
  exact ⟨w.heap.size,D,rfl,RB.copied ((Blk.new w 4 (repA (s.size + 1) (.bool false))).alloc _) (repA_size _ _),to_empty _ _ _,below_setRow (HBW.out w _ _) (Nat.le_refl _) _⟩
theorem Reach_bgn (l : List Nd) (hg : ∀ n ∈ l,good n) (hok : ∀ n ∈ l,okC n.cls) (hlen : l.length ≤ 60) (b off cap : Nat) (s : ByteArray) (hs : s.size ≤ 400) (i : Nat) (hat : At l i (.bgn)) : ReachAt l b off cap s (.bgn) i:=by
 have HM : Hid (∀ (w : World),RdN w (.slice (some ⟨b,off,none⟩) l.length cap) l → ∀ k n,l[k]? = some n →
  w.cell? ⟨b,off + k * 5,none⟩ = some (.int .i64 n.op) ∧ w.cell? ⟨b,off + k * 5 + 1,none⟩ = some (.int .u64 (n.cls.1 : Int)) ∧ w.cell? ⟨b,off + k * 5 + 2,none⟩ = some (.int .u64 (n.cls.2.1 : Int)) ∧
  w.cell? ⟨b,off + k * 5 + 3,none⟩ = some (.int .u64 (n.cls.2.2.1 : Int)) ∧ w.cell? ⟨b,off + k * 5 + 4,none⟩ = some (.int .u64 (n.cls.2.2.2 : Int))):=hid (fun w hr k n hk => by
  obtain ⟨A',cap',hv,hcap,hcap2,hmem⟩:=hr.open_
  injection hv with e1 _ e2
  obtain ⟨b',off',hA,_,hc⟩:=hmem (by have:=(List.getElem?_eq_some_iff.1 hk).1;omega)
  rw [hA] at e1
  cases e1
  exact hc w (fun _ => rfl) k n hk)
 have HBL : Hid (∀ (w : World),RdN w (.slice (some ⟨b,off,none⟩) l.length cap) l → 0 < l.length → b < w.heap.size):=hid (fun w hr hk => by
  obtain ⟨A',cap',hv,hcap,hcap2,hmem⟩:=hr.open_
  injection hv with e1 _ e2
  obtain ⟨b',off',hA,hb,_⟩:=hmem hk
  rw [hA] at e1
  cases e1
  exact hb)
 have HEND:=hid (fun (i : Nat) (hi : i ≤ l.length) (w : World) (hr : RdN w (.slice (some ⟨b,off,none⟩) l.length cap) l) => REnd_all l hg hlen (some ⟨b,off,none⟩) cap l.length i w (by omega) hi hr)
 have HOK:=hid hok
 have HSL:=hid (show s.data.toList.length = s.size by simp)
 have HCLO:=hid (fun (u : Rx) (i : Nat) (h : ReachAt l b off cap s u i) => closed_any l b off cap s hs u i h)
 have HBW : Hid (∀ (w : World) (o o' : Obj),Below w.heap.size w ((w.alloc o).alloc o')):=hid fun w o o' => ((Below.refl _ _).alloc (Nat.le_refl _) _).alloc (by simp) _
 have hmk0:=fun W => mk_bools (s.size + 1) (by omega) W
 have hmk:=hmk0
 rw [show ((s.size + 1 : Nat) : Int) = (s.size : Int) + 1 by omega] at hmk
 have hrg:=fun f (hf : f < s.size + 1) => repA_get (s.size + 1) (.bool false) f hf
 have HRG:=hid hrg
 clear hg hok hrg
 ·intro w g D hr hD
  obtain ⟨q0,q1,q2,q3,q4⟩:=HM.out w hr i _ hat.bgn
  have hlt:=hat.lt
  have hpos:=flat_pos (.bgn)
  have hi1 : (i : Int) < (l.length : Int):=by omega
  have hgl:=hD.lt
  have hbl:=HBL.out w hr (by omega)
  have HR:=hid hr
  have HD:=hid hD
  dsimp only [zc] at q0 q1 q2 q3 q4
  have hc:=HD.out.cell (k:=0) (by omega)
  have hrg:=HRG.out 0 (by omega)
  have hz0 : (0 : Int) < (s.size : Int) + 1:=by omega
  clear hat hr hD
  obtain ⟨x,hx⟩ : ∃ x,x = D 0:=⟨_,rfl⟩
  rw [← hx] at hc
  have HX:=hid hx
  clear hx
  go_enter Tryz.func134,Tryz.ntmps134
  go_wp2
  go_ret
  have hto:=to_bgn s.data.toList (s.size + 1) D
  refine ⟨w.heap.size,setD (fun _ => false) 0 (D 0),rfl,by rw [← HX.out];exact (repA_set w (s.size + 1) 0 x).alloc _,?_,HBW.out w _ _⟩
  exact hto
theorem Reach_fin (l : List Nd) (hg : ∀ n ∈ l,good n) (hok : ∀ n ∈ l,okC n.cls) (hlen : l.length ≤ 60) (b off cap : Nat) (s : ByteArray) (hs : s.size ≤ 400) (i : Nat) (hat : At l i (.fin)) : ReachAt l b off cap s (.fin) i:=by
 have HM : Hid (∀ (w : World),RdN w (.slice (some ⟨b,off,none⟩) l.length cap) l → ∀ k n,l[k]? = some n →
  w.cell? ⟨b,off + k * 5,none⟩ = some (.int .i64 n.op) ∧ w.cell? ⟨b,off + k * 5 + 1,none⟩ = some (.int .u64 (n.cls.1 : Int)) ∧ w.cell? ⟨b,off + k * 5 + 2,none⟩ = some (.int .u64 (n.cls.2.1 : Int)) ∧
  w.cell? ⟨b,off + k * 5 + 3,none⟩ = some (.int .u64 (n.cls.2.2.1 : Int)) ∧ w.cell? ⟨b,off + k * 5 + 4,none⟩ = some (.int .u64 (n.cls.2.2.2 : Int))):=hid (fun w hr k n hk => by
  obtain ⟨A',cap',hv,hcap,hcap2,hmem⟩:=hr.open_
  injection hv with e1 _ e2
  obtain ⟨b',off',hA,_,hc⟩:=hmem (by have:=(List.getElem?_eq_some_iff.1 hk).1;omega)
  rw [hA] at e1
  cases e1
  exact hc w (fun _ => rfl) k n hk)
 have HBL : Hid (∀ (w : World),RdN w (.slice (some ⟨b,off,none⟩) l.length cap) l → 0 < l.length → b < w.heap.size):=hid (fun w hr hk => by
  obtain ⟨A',cap',hv,hcap,hcap2,hmem⟩:=hr.open_
  injection hv with e1 _ e2
  obtain ⟨b',off',hA,hb,_⟩:=hmem hk
  rw [hA] at e1
  cases e1
  exact hb)
 have HEND:=hid (fun (i : Nat) (hi : i ≤ l.length) (w : World) (hr : RdN w (.slice (some ⟨b,off,none⟩) l.length cap) l) => REnd_all l hg hlen (some ⟨b,off,none⟩) cap l.length i w (by omega) hi hr)
 have HOK:=hid hok
 have HSL:=hid (show s.data.toList.length = s.size by simp)
 have HCLO:=hid (fun (u : Rx) (i : Nat) (h : ReachAt l b off cap s u i) => closed_any l b off cap s hs u i h)
 have HBW : Hid (∀ (w : World) (o o' : Obj),Below w.heap.size w ((w.alloc o).alloc o')):=hid fun w o o' => ((Below.refl _ _).alloc (Nat.le_refl _) _).alloc (by simp) _
 have hmk0:=fun W => mk_bools (s.size + 1) (by omega) W
 have hmk:=hmk0
 rw [show ((s.size + 1 : Nat) : Int) = (s.size : Int) + 1 by omega] at hmk
 have hrg:=fun f (hf : f < s.size + 1) => repA_get (s.size + 1) (.bool false) f hf
 have HRG:=hid hrg
 clear hg hok hrg
 ·intro w g D hr hD
  obtain ⟨q0,q1,q2,q3,q4⟩:=HM.out w hr i _ hat.fin
  have hlt:=hat.lt
  have hpos:=flat_pos (.fin)
  have hi1 : (i : Int) < (l.length : Int):=by omega
  have hgl:=hD.lt
  have hbl:=HBL.out w hr (by omega)
  have HR:=hid hr
  have HD:=hid hD
  dsimp only [zc] at q0 q1 q2 q3 q4
  have hc:=HD.out.cell (k:=s.size) (by omega)
  have hrg:=HRG.out s.size (by omega)
  have hz0 : (0 : Int) < (s.size : Int) + 1:=by omega
  clear hat hr hD
  obtain ⟨x,hx⟩ : ∃ x,x = D s.size:=⟨_,rfl⟩
  rw [← hx] at hc
  have HX:=hid hx
  clear hx
  go_enter Tryz.func134,Tryz.ntmps134
  go_wp2
  go_ret
  have hto:=to_fin s.data.toList D
  refine ⟨w.heap.size,setD (fun _ => false) s.size (D s.size),rfl,by rw [← HX.out];exact (repA_set w (s.size + 1) s.size x).alloc _,?_,HBW.out w _ _⟩
  rw [HSL.out] at hto;exact hto
theorem Reach_byte (l : List Nd) (hg : ∀ n ∈ l,good n) (hok : ∀ n ∈ l,okC n.cls) (hlen : l.length ≤ 60) (b off cap : Nat) (s : ByteArray) (hs : s.size ≤ 400) (c : Cls) (i : Nat) (hat : At l i (.byte c)) : ReachAt l b off cap s (.byte c) i:=by
 have HM : Hid (∀ (w : World),RdN w (.slice (some ⟨b,off,none⟩) l.length cap) l → ∀ k n,l[k]? = some n →
  w.cell? ⟨b,off + k * 5,none⟩ = some (.int .i64 n.op) ∧ w.cell? ⟨b,off + k * 5 + 1,none⟩ = some (.int .u64 (n.cls.1 : Int)) ∧ w.cell? ⟨b,off + k * 5 + 2,none⟩ = some (.int .u64 (n.cls.2.1 : Int)) ∧
  w.cell? ⟨b,off + k * 5 + 3,none⟩ = some (.int .u64 (n.cls.2.2.1 : Int)) ∧ w.cell? ⟨b,off + k * 5 + 4,none⟩ = some (.int .u64 (n.cls.2.2.2 : Int))):=hid (fun w hr k n hk => by
  obtain ⟨A',cap',hv,hcap,hcap2,hmem⟩:=hr.open_
  injection hv with e1 _ e2
  obtain ⟨b',off',hA,_,hc⟩:=hmem (by have:=(List.getElem?_eq_some_iff.1 hk).1;omega)
  rw [hA] at e1
  cases e1
  exact hc w (fun _ => rfl) k n hk)
 have HBL : Hid (∀ (w : World),RdN w (.slice (some ⟨b,off,none⟩) l.length cap) l → 0 < l.length → b < w.heap.size):=hid (fun w hr hk => by
  obtain ⟨A',cap',hv,hcap,hcap2,hmem⟩:=hr.open_
  injection hv with e1 _ e2
  obtain ⟨b',off',hA,hb,_⟩:=hmem hk
  rw [hA] at e1
  cases e1
  exact hb)
 have HEND:=hid (fun (i : Nat) (hi : i ≤ l.length) (w : World) (hr : RdN w (.slice (some ⟨b,off,none⟩) l.length cap) l) => REnd_all l hg hlen (some ⟨b,off,none⟩) cap l.length i w (by omega) hi hr)
 have HOK:=hid hok
 have HSL:=hid (show s.data.toList.length = s.size by simp)
 have HCLO:=hid (fun (u : Rx) (i : Nat) (h : ReachAt l b off cap s u i) => closed_any l b off cap s hs u i h)
 have HBW : Hid (∀ (w : World) (o o' : Obj),Below w.heap.size w ((w.alloc o).alloc o')):=hid fun w o o' => ((Below.refl _ _).alloc (Nat.le_refl _) _).alloc (by simp) _
 have hmk0:=fun W => mk_bools (s.size + 1) (by omega) W
 have hmk:=hmk0
 rw [show ((s.size + 1 : Nat) : Int) = (s.size : Int) + 1 by omega] at hmk
 have hrg:=fun f (hf : f < s.size + 1) => repA_get (s.size + 1) (.bool false) f hf
 have HRG:=hid hrg
 clear hg hok hrg
 ·intro w g D hr hD
  obtain ⟨c0,c1,c2,c3⟩:=c
  obtain ⟨q0,q1,q2,q3,q4⟩:=HM.out w hr i _ hat.byte
  have hlt:=hat.lt
  have hpos:=flat_pos (.byte (c0,c1,c2,c3))
  have hi1 : (i : Int) < (l.length : Int):=by omega
  have hgl:=hD.lt
  have hbl:=HBL.out w hr (by omega)
  have HR:=hid hr
  have HD:=hid hD
  dsimp only at q0 q1 q2 q3 q4
  have hcok:=HOK.out _ (List.mem_of_getElem? hat.byte)
  have HIN:=hid (fun (x : Nat) (hx : x < 256) (W : World) => RIn_any c0 c1 c2 c3 x W hcok hx)
  have HBE : Hid (BE w g (s.size + 1) D (byteD s.data.toList (c0,c1,c2,c3) D 0) c0 c1 c2 c3 ((w.alloc (.cells (repA (s.size + 1) (.bool false)) 4)).alloc (.cells #[.int .i64 1,.int .u64 (c0 : Int),.int .u64 (c1 : Int),.int .u64 (c2 : Int),.int .u64 (c3 : Int)] 41))):=hid (by
   rw [byteD_zero]
   refine ⟨(RB.new w (s.size + 1)).alloc _,?_,HD.out.below (HBW.out w _ _),HBW.out w _ _⟩
   have h:=Blk.new (w.alloc (.cells (repA (s.size + 1) (.bool false)) 4)) 41 #[.int .i64 1,.int .u64 (c0 : Int),.int .u64 (c1 : Int),.int .u64 (c2 : Int),.int .u64 (c3 : Int)]
   rw [World.size_alloc] at h
   exact h)
  clear hat hr hD hcok
  go_enter Tryz.func134,Tryz.ntmps134
  go_wp2_with fail
  clear q0 q1 q2 q3 q4 hmk0 hmk
  go_loopw [11] (fun v11 wx => ∃ k : Nat,k ≤ s.size ∧ v11 = .int .i64 (k : Int) ∧ Hid (BE w g (s.size + 1) D (byteD s.data.toList (c0,c1,c2,c3) D k) c0 c1 c2 c3 wx)) (fun i _ => s.size - (intOf i).toNat)
  case atStart => exact ⟨0,by omega,rfl,HBE⟩
  case round =>
   clear HBE
   obtain ⟨k,hk,rfl,hE⟩:=hrel
   by_cases hlt : k < s.size
   ·have hbyte : s[k].toNat < 256:=s[k].toNat_lt
    have hsk : s.data.toList[k]? = some s[k]:=by
     rw [List.getElem?_eq_getElem (by rw [HSL.out];exact hlt)]
     rfl
    have hbs:=byteD_succ (s:=s.data.toList) (c:=(c0,c1,c2,c3)) (D:=D) hsk
    have HI0:=hid (HIN.out s[k].toNat hbyte)
    unfold RInIs at HI0
    obtain ⟨x,hx⟩ : ∃ x,x = D k:=⟨_,rfl⟩
    have hcD:=hE.out.2.2.1.cell (k:=k) (by omega)
    obtain ⟨y1,y2,y3,y4⟩:=hE.out.cells
    have hcO:=hE.out.1.cell (k:=k + 1) (by omega)
    have hfO:=hE.out.1.frozen (k + 1)
    have hsz : w.heap.size + 1 < wr.heap.size:=hE.out.2.1.lt
    rw [← hx] at hcD hbs
    have i1 : (k : Int) < (s.size : Int):=by omega
    have i2 : (k : Int) + 1 < (s.size : Int) + 1:=by omega
    have i3 : (k : Int) < (s.size : Int) + 1:=by omega
    have i4 : (0 : Int) ≤ (k : Int) + 1:=by omega
    have i5 : (0 : Int) ≤ (k : Int):=by omega
    have hwr : IntKind.i64.wrap ((k : Int) + 1) = (k : Int) + 1:=IntWalk.i64_in _ (by omega)
    have HBS:=hid hbs
    have HX:=hid hx
    clear hbs hx hsk
    generalize hEE : byteD s.data.toList (c0,c1,c2,c3) D k = E at *
    clear hEE
    cases x with
    | false =>
      have HBX:=hid HBS.out
      rw [Bool.false_and] at HBX
      have HS : Hid (∀ w',Hid (BEx w g (s.size + 1) D E c0 c1 c2 c3 (k + 1) false w') → (w'.cell? ⟨g,k,none⟩ = some (.bool (D k)) ∧ Hid (BEx w g (s.size + 1) D E c0 c1 c2 c3 (k + 1) false w'))):=hid (fun w' h => by
       rcases h.out with h1 | ⟨w0,rfl,h1⟩
       ·exact ⟨h1.2.2.1.cell (by omega),h⟩
       ·exact ⟨(h1.put hgl (k + 1) false).2.2.1.cell (by omega),h⟩)
      rw [← HX.out] at HS
      have HEN : Hid (byteD s.data.toList (c0,c1,c2,c3) D (k + 1) = setD E (k + 1) false):=hid (by rw [HBX.out])
      have HED : Hid (BE w g (s.size + 1) D E c0 c1 c2 c3 wr.drew):=hid (hE.out.kept (Below.refl _ _).drew)
      have y5:=HED.out.1.cell (k:=k + 1) (by omega)
      have y6:=HED.out.1.frozen (k + 1)
      clear HI0 HX HBS HBX
      go_wp2_with fail
      refine still_tail 17 (by kernel_rfl) (by kernel_rfl) ?_
      simp only [List.take_succ_cons,List.take_zero,List.drop_succ_cons,List.drop_zero]
      refine still_one (fun K hK => ?_)
      go_simp
      refine hK _ ?_
      clear hK K
      refine still_one (fun K hK => ?_)
      go_simp
      refine hK _ ?_
      clear hK K
      refine still_one (fun K hK => ?_)
      go_simp
      refine hK _ ?_
      clear hK K
      refine still_one (fun K hK => ?_)
      go_simp
      refine hK _ ?_
      clear hK K
      refine still_one (fun K hK => ?_)
      go_simp
      refine hK _ ?_
      clear hK K
      refine still_one (fun K hK => ?_)
      go_simp
      refine hK _ ?_
      clear hK K
      refine still_one (fun K hK => ?_)
      go_simp
      refine hK _ ?_
      clear hK K
      refine still_one (fun K hK => ?_)
      go_simp
      refine hK _ ?_
      clear hK K
      refine still_skip (by kernel_rfl) ?_
      refine still_skip (by kernel_rfl) ?_
      refine still_skip (by kernel_rfl) ?_
      refine still_skip (by kernel_rfl) ?_
      refine still_skip (by kernel_rfl) ?_
      refine still_skip (by kernel_rfl) ?_
      refine still_skip (by kernel_rfl) ?_
      refine still_one (fun K hK => ?_)
      go_simp
      refine hK _ ?_
      clear hK K
      refine still_one (fun K hK => ?_)
      go_simp
      refine hK _ ?_
      clear hK K
      refine still_end ?_
      change wpList _ _ _ _ _ wr.drew
      go_wp2_with fail
      go_roundw
      case rel => exact ⟨k + 1,by omega,by go_num,hid (by rw [HEN.out];exact HED.out.put hgl (k + 1) false)⟩
      case measure => simp [intOf];omega
    | true =>
      obtain ⟨r,hr⟩ : ∃ r,r = has (c0,c1,c2,c3) s[k].toNat:=⟨_,rfl⟩
      rw [← hr] at HI0
      have HCI : Hid (∀ W,Hid (BE w g (s.size + 1) D E c0 c1 c2 c3 W) → Calls Tryz.prog 53 #[.agg #[.int .u64 (c0 : Int),.int .u64 (c1 : Int),.int .u64 (c2 : Int),.int .u64 (c3 : Int)],.int .i64 (IntKind.i64.wrap (s[k].toNat : Int))] W (fun e W' => e = .returned (.bool r) ∧ Hid (BE w g (s.size + 1) D E c0 c1 c2 c3 W'))):=hid (fun W h => by
       rw [show IntKind.i64.wrap (s[k].toNat : Int) = (s[k].toNat : Int) from i64_byte _ hbyte]
       exact (HI0.out W).mono fun e W' ⟨h1,h2⟩ => ⟨h1,hid (h.out.kept h2)⟩)
      have HS : Hid (∀ w',Hid (BEx w g (s.size + 1) D E c0 c1 c2 c3 (k + 1) r w') → (w'.cell? ⟨w.heap.size + 1,1,none⟩ = some (.int .u64 (c0 : Int)) ∧ w'.cell? ⟨w.heap.size + 1,2,none⟩ = some (.int .u64 (c1 : Int)) ∧ w'.cell? ⟨w.heap.size + 1,3,none⟩ = some (.int .u64 (c2 : Int)) ∧ w'.cell? ⟨w.heap.size + 1,4,none⟩ = some (.int .u64 (c3 : Int)) ∧ w'.cell? ⟨g,k,none⟩ = some (.bool (D k)) ∧ Hid (BEx w g (s.size + 1) D E c0 c1 c2 c3 (k + 1) r w'))):=hid (fun w' h => by
       rcases h.out with h1 | ⟨w0,rfl,h1⟩
       ·obtain ⟨a1,a2,a3,a4⟩:=h1.cells
        exact ⟨a1,a2,a3,a4,h1.2.2.1.cell (by omega),h⟩
       ·obtain ⟨a1,a2,a3,a4⟩:=(h1.put hgl (k + 1) r).cells
        exact ⟨a1,a2,a3,a4,(h1.put hgl (k + 1) r).2.2.1.cell (by omega),h⟩)
      rw [← HX.out] at HS
      have HST : Hid (∀ w',BE w g (s.size + 1) D E c0 c1 c2 c3 w' → (w'.cell? ⟨w.heap.size,k + 1,none⟩ = some (.bool (E (k + 1))) ∧ w'.frozen? ⟨w.heap.size,k + 1,none⟩ = false)):=hid (fun w' h => ⟨h.1.cell (by omega),h.1.frozen _⟩)
      have HEN : Hid (byteD s.data.toList (c0,c1,c2,c3) D (k + 1) = setD E (k + 1) r):=hid (by rw [HBS.out,Bool.true_and,hr])
      have HED : Hid (BE w g (s.size + 1) D E c0 c1 c2 c3 wr.drew):=hid (hE.out.kept (Below.refl _ _).drew)
      have hbI : (s[k].toNat : Int) < 256:=by omega
      clear hr HBS HX HI0
      go_wp2_with fail
      go_region_held3 (fun w' => w'.cell? ⟨w.heap.size + 1,1,none⟩ = some (.int .u64 (c0 : Int)) ∧ w'.cell? ⟨w.heap.size + 1,2,none⟩ = some (.int .u64 (c1 : Int)) ∧ w'.cell? ⟨w.heap.size + 1,3,none⟩ = some (.int .u64 (c2 : Int)) ∧ w'.cell? ⟨w.heap.size + 1,4,none⟩ = some (.int .u64 (c3 : Int)) ∧ w'.cell? ⟨g,k,none⟩ = some (.bool true) ∧ Hid (BEx w g (s.size + 1) D E c0 c1 c2 c3 (k + 1) r w'))
       (exact HS.out _ (by first | exact hid (.inl (Hid.out (by assumption))) | exact hid (.inr ⟨_,rfl,Hid.out (by assumption)⟩)))
       (first | (go_at_call 53;refine (HCI.out _ (by assumption)).mono ?_;rintro e w5 ⟨rfl,henv⟩;obtain ⟨z0,z1⟩:=HST.out _ henv.out))
      go_wp2_with fail
      go_roundw
      case rel => exact ⟨k + 1,by omega,by go_num,hid (by rw [HEN.out];exact henv.out.put hgl (k + 1) r)⟩
      case measure => simp [intOf];omega
   ·obtain rfl : k = s.size:=by omega
    have hto:=to_byte s.data.toList (c0,c1,c2,c3) D
    rw [HSL.out] at hto
    have HTO:=hid hto
    clear hto
    go_wp2
    go_ret
    exact ⟨w.heap.size,_,rfl,hE.out.1,HTO.out,hE.out.2.2.2⟩
theorem Reach_star (l : List Nd) (hg : ∀ n ∈ l,good n) (hok : ∀ n ∈ l,okC n.cls) (hlen : l.length ≤ 60) (b off cap : Nat) (s : ByteArray) (hs : s.size ≤ 400) (a : Rx) (iha : ∀ i,At l i a → ReachAt l b off cap s a i) (i : Nat) (hat : At l i (.star a)) : ReachAt l b off cap s (.star a) i:=by
 have HM : Hid (∀ (w : World),RdN w (.slice (some ⟨b,off,none⟩) l.length cap) l → ∀ k n,l[k]? = some n →
  w.cell? ⟨b,off + k * 5,none⟩ = some (.int .i64 n.op) ∧ w.cell? ⟨b,off + k * 5 + 1,none⟩ = some (.int .u64 (n.cls.1 : Int)) ∧ w.cell? ⟨b,off + k * 5 + 2,none⟩ = some (.int .u64 (n.cls.2.1 : Int)) ∧
  w.cell? ⟨b,off + k * 5 + 3,none⟩ = some (.int .u64 (n.cls.2.2.1 : Int)) ∧ w.cell? ⟨b,off + k * 5 + 4,none⟩ = some (.int .u64 (n.cls.2.2.2 : Int))):=hid (fun w hr k n hk => by
  obtain ⟨A',cap',hv,hcap,hcap2,hmem⟩:=hr.open_
  injection hv with e1 _ e2
  obtain ⟨b',off',hA,_,hc⟩:=hmem (by have:=(List.getElem?_eq_some_iff.1 hk).1;omega)
  rw [hA] at e1
  cases e1
  exact hc w (fun _ => rfl) k n hk)
 have HBL : Hid (∀ (w : World),RdN w (.slice (some ⟨b,off,none⟩) l.length cap) l → 0 < l.length → b < w.heap.size):=hid (fun w hr hk => by
  obtain ⟨A',cap',hv,hcap,hcap2,hmem⟩:=hr.open_
  injection hv with e1 _ e2
  obtain ⟨b',off',hA,hb,_⟩:=hmem hk
  rw [hA] at e1
  cases e1
  exact hb)
 have HEND:=hid (fun (i : Nat) (hi : i ≤ l.length) (w : World) (hr : RdN w (.slice (some ⟨b,off,none⟩) l.length cap) l) => REnd_all l hg hlen (some ⟨b,off,none⟩) cap l.length i w (by omega) hi hr)
 have HOK:=hid hok
 have HSL:=hid (show s.data.toList.length = s.size by simp)
 have HCLO:=hid (fun (u : Rx) (i : Nat) (h : ReachAt l b off cap s u i) => closed_any l b off cap s hs u i h)
 have HBW : Hid (∀ (w : World) (o o' : Obj),Below w.heap.size w ((w.alloc o).alloc o')):=hid fun w o o' => ((Below.refl _ _).alloc (Nat.le_refl _) _).alloc (by simp) _
 have hmk0:=fun W => mk_bools (s.size + 1) (by omega) W
 have hmk:=hmk0
 rw [show ((s.size + 1 : Nat) : Int) = (s.size : Int) + 1 by omega] at hmk
 have hrg:=fun f (hf : f < s.size + 1) => repA_get (s.size + 1) (.bool false) f hf
 have HRG:=hid hrg
 clear hg hok hrg
 ·intro w g D hr hD
  obtain ⟨q0,q1,q2,q3,q4⟩:=HM.out w hr i _ hat.star.1
  have hlt:=hat.lt
  have hpos:=flat_pos (.star a)
  have hi1 : (i : Int) < (l.length : Int):=by omega
  have hgl:=hD.lt
  have hbl:=HBL.out w hr (by omega)
  have HR:=hid hr
  have HD:=hid hD
  dsimp only [zc] at q0 q1 q2 q3 q4
  have HCL:=hid (HCLO.out a (i + 1) (iha (i + 1) hat.star.2))
  clear hat hr hD iha
  go_enter Tryz.func134,Tryz.ntmps134
  go_wp2_with fail
  refine (HCL.out _ g D (HR.out.below (HBW.out w _ _)) (HD.out.below (HBW.out w _ _))).mono ?_
  rintro e w1 ⟨g1,D1,rfl,hg1,hto1,hb1⟩
  have HG1:=hid hg1
  have HTO1:=hid hto1
  have HB1:=hid (((HBW.out w _ _)).trans (hb1.mono ((HBW.out w _ _)).size))
  clear hg1 hto1 hb1
  go_wp2_with fail
  go_ret
  exact ⟨g1,D1,rfl,HG1.out,to_star HTO1.out,HB1.out⟩
theorem Reach_plus (l : List Nd) (hg : ∀ n ∈ l,good n) (hok : ∀ n ∈ l,okC n.cls) (hlen : l.length ≤ 60) (b off cap : Nat) (s : ByteArray) (hs : s.size ≤ 400) (a : Rx) (iha : ∀ i,At l i a → ReachAt l b off cap s a i) (i : Nat) (hat : At l i (.plus a)) : ReachAt l b off cap s (.plus a) i:=by
 have HM : Hid (∀ (w : World),RdN w (.slice (some ⟨b,off,none⟩) l.length cap) l → ∀ k n,l[k]? = some n →
  w.cell? ⟨b,off + k * 5,none⟩ = some (.int .i64 n.op) ∧ w.cell? ⟨b,off + k * 5 + 1,none⟩ = some (.int .u64 (n.cls.1 : Int)) ∧ w.cell? ⟨b,off + k * 5 + 2,none⟩ = some (.int .u64 (n.cls.2.1 : Int)) ∧
  w.cell? ⟨b,off + k * 5 + 3,none⟩ = some (.int .u64 (n.cls.2.2.1 : Int)) ∧ w.cell? ⟨b,off + k * 5 + 4,none⟩ = some (.int .u64 (n.cls.2.2.2 : Int))):=hid (fun w hr k n hk => by
  obtain ⟨A',cap',hv,hcap,hcap2,hmem⟩:=hr.open_
  injection hv with e1 _ e2
  obtain ⟨b',off',hA,_,hc⟩:=hmem (by have:=(List.getElem?_eq_some_iff.1 hk).1;omega)
  rw [hA] at e1
  cases e1
  exact hc w (fun _ => rfl) k n hk)
 have HBL : Hid (∀ (w : World),RdN w (.slice (some ⟨b,off,none⟩) l.length cap) l → 0 < l.length → b < w.heap.size):=hid (fun w hr hk => by
  obtain ⟨A',cap',hv,hcap,hcap2,hmem⟩:=hr.open_
  injection hv with e1 _ e2
  obtain ⟨b',off',hA,hb,_⟩:=hmem hk
  rw [hA] at e1
  cases e1
  exact hb)
 have HEND:=hid (fun (i : Nat) (hi : i ≤ l.length) (w : World) (hr : RdN w (.slice (some ⟨b,off,none⟩) l.length cap) l) => REnd_all l hg hlen (some ⟨b,off,none⟩) cap l.length i w (by omega) hi hr)
 have HOK:=hid hok
 have HSL:=hid (show s.data.toList.length = s.size by simp)
 have HCLO:=hid (fun (u : Rx) (i : Nat) (h : ReachAt l b off cap s u i) => closed_any l b off cap s hs u i h)
 have HBW : Hid (∀ (w : World) (o o' : Obj),Below w.heap.size w ((w.alloc o).alloc o')):=hid fun w o o' => ((Below.refl _ _).alloc (Nat.le_refl _) _).alloc (by simp) _
 have hmk0:=fun W => mk_bools (s.size + 1) (by omega) W
 have hmk:=hmk0
 rw [show ((s.size + 1 : Nat) : Int) = (s.size : Int) + 1 by omega] at hmk
 have hrg:=fun f (hf : f < s.size + 1) => repA_get (s.size + 1) (.bool false) f hf
 have HRG:=hid hrg
 clear hg hok hrg
 ·intro w g D hr hD
  obtain ⟨q0,q1,q2,q3,q4⟩:=HM.out w hr i _ hat.plus.1
  have hlt:=hat.lt
  have hpos:=flat_pos (.plus a)
  have hi1 : (i : Int) < (l.length : Int):=by omega
  have hgl:=hD.lt
  have hbl:=HBL.out w hr (by omega)
  have HR:=hid hr
  have HD:=hid hD
  dsimp only [zc] at q0 q1 q2 q3 q4
  have HCL:=hid (HCLO.out a (i + 1) (iha (i + 1) hat.plus.2))
  have hRA:=iha (i + 1) hat.plus.2
  unfold ReachAt at hRA
  have HRA:=hid hRA
  clear hat hr hD iha hRA
  go_enter Tryz.func134,Tryz.ntmps134
  go_wp2_with fail
  refine (HRA.out _ g D (HR.out.below (HBW.out w _ _)) (HD.out.below (HBW.out w _ _))).mono ?_
  rintro e w1 ⟨g1,D1,rfl,hg1,hto1,hb1⟩
  have HG1:=hid hg1
  have HTO1:=hid hto1
  have HB1:=hid (((HBW.out w _ _)).trans (hb1.mono ((HBW.out w _ _)).size))
  clear hg1 hto1 hb1
  go_wp2_with fail
  refine (HCL.out _ g1 D1 (HR.out.below HB1.out) (HG1.out)).mono ?_
  rintro e w2 ⟨g2,D2,rfl,hg2,hto2,hb2⟩
  have HG2:=hid hg2
  have HTO2:=hid hto2
  have HB2:=hid ((HB1.out).trans (hb2.mono (HB1.out).size))
  clear hg2 hto2 hb2
  go_wp2_with fail
  go_ret
  exact ⟨g2,D2,rfl,HG2.out,by have h1:=HTO1.out;have h2:=HTO2.out;rw [← HSL.out] at h1 h2 ⊢;exact to_plus h1 h2,HB2.out⟩
theorem Reach_opt (l : List Nd) (hg : ∀ n ∈ l,good n) (hok : ∀ n ∈ l,okC n.cls) (hlen : l.length ≤ 60) (b off cap : Nat) (s : ByteArray) (hs : s.size ≤ 400) (a : Rx) (iha : ∀ i,At l i a → ReachAt l b off cap s a i) (i : Nat) (hat : At l i (.opt a)) : ReachAt l b off cap s (.opt a) i:=by
 have HM : Hid (∀ (w : World),RdN w (.slice (some ⟨b,off,none⟩) l.length cap) l → ∀ k n,l[k]? = some n →
  w.cell? ⟨b,off + k * 5,none⟩ = some (.int .i64 n.op) ∧ w.cell? ⟨b,off + k * 5 + 1,none⟩ = some (.int .u64 (n.cls.1 : Int)) ∧ w.cell? ⟨b,off + k * 5 + 2,none⟩ = some (.int .u64 (n.cls.2.1 : Int)) ∧
  w.cell? ⟨b,off + k * 5 + 3,none⟩ = some (.int .u64 (n.cls.2.2.1 : Int)) ∧ w.cell? ⟨b,off + k * 5 + 4,none⟩ = some (.int .u64 (n.cls.2.2.2 : Int))):=hid (fun w hr k n hk => by
  obtain ⟨A',cap',hv,hcap,hcap2,hmem⟩:=hr.open_
  injection hv with e1 _ e2
  obtain ⟨b',off',hA,_,hc⟩:=hmem (by have:=(List.getElem?_eq_some_iff.1 hk).1;omega)
  rw [hA] at e1
  cases e1
  exact hc w (fun _ => rfl) k n hk)
 have HBL : Hid (∀ (w : World),RdN w (.slice (some ⟨b,off,none⟩) l.length cap) l → 0 < l.length → b < w.heap.size):=hid (fun w hr hk => by
  obtain ⟨A',cap',hv,hcap,hcap2,hmem⟩:=hr.open_
  injection hv with e1 _ e2
  obtain ⟨b',off',hA,hb,_⟩:=hmem hk
  rw [hA] at e1
  cases e1
  exact hb)
 have HEND:=hid (fun (i : Nat) (hi : i ≤ l.length) (w : World) (hr : RdN w (.slice (some ⟨b,off,none⟩) l.length cap) l) => REnd_all l hg hlen (some ⟨b,off,none⟩) cap l.length i w (by omega) hi hr)
 have HOK:=hid hok
 have HSL:=hid (show s.data.toList.length = s.size by simp)
 have HCLO:=hid (fun (u : Rx) (i : Nat) (h : ReachAt l b off cap s u i) => closed_any l b off cap s hs u i h)
 have HBW : Hid (∀ (w : World) (o o' : Obj),Below w.heap.size w ((w.alloc o).alloc o')):=hid fun w o o' => ((Below.refl _ _).alloc (Nat.le_refl _) _).alloc (by simp) _
 have hmk0:=fun W => mk_bools (s.size + 1) (by omega) W
 have hmk:=hmk0
 rw [show ((s.size + 1 : Nat) : Int) = (s.size : Int) + 1 by omega] at hmk
 have hrg:=fun f (hf : f < s.size + 1) => repA_get (s.size + 1) (.bool false) f hf
 have HRG:=hid hrg
 clear hg hok hrg
 ·intro w g D hr hD
  obtain ⟨q0,q1,q2,q3,q4⟩:=HM.out w hr i _ hat.opt.1
  have hlt:=hat.lt
  have hpos:=flat_pos (.opt a)
  have hi1 : (i : Int) < (l.length : Int):=by omega
  have hgl:=hD.lt
  have hbl:=HBL.out w hr (by omega)
  have HR:=hid hr
  have HD:=hid hD
  dsimp only [zc] at q0 q1 q2 q3 q4
  have hRA:=iha (i + 1) hat.opt.2
  unfold ReachAt at hRA
  have HRA:=hid hRA
  clear hat hr hD iha hRA
  go_enter Tryz.func134,Tryz.ntmps134
  go_wp2_with fail
  refine (HRA.out _ g D (HR.out.below (HBW.out w _ _)) (HD.out.below (HBW.out w _ _))).mono ?_
  rintro e w1 ⟨g1,D1,rfl,hg1,hto1,hb1⟩
  have HG1:=hid hg1
  have HTO1:=hid hto1
  have HB1:=hid (((HBW.out w _ _)).trans (hb1.mono ((HBW.out w _ _)).size))
  have HD1:=hid ((HD.out.below (HBW.out w _ _)).below hb1)
  clear hg1 hto1 hb1
  go_wp2_with fail
  refine (joined_any g g1 (s.size + 1) (by omega) D D1 _ (HD1.out) (HG1.out)).mono ?_
  rintro e w2 ⟨g2,rfl,hg2,hb2⟩
  have HG2:=hid hg2
  have HB2:=hid ((HB1.out).trans (hb2.mono (HB1.out).size))
  clear hg2 hb2
  go_wp2_with fail
  go_ret
  exact ⟨g2,_,rfl,HG2.out,to_opt HTO1.out,HB2.out⟩
theorem Reach_cat (l : List Nd) (hg : ∀ n ∈ l,good n) (hok : ∀ n ∈ l,okC n.cls) (hlen : l.length ≤ 60) (b off cap : Nat) (s : ByteArray) (hs : s.size ≤ 400) (a c : Rx) (iha : ∀ i,At l i a → ReachAt l b off cap s a i) (ihc : ∀ i,At l i c → ReachAt l b off cap s c i) (i : Nat) (hat : At l i (.cat a c)) : ReachAt l b off cap s (.cat a c) i:=by
 have HM : Hid (∀ (w : World),RdN w (.slice (some ⟨b,off,none⟩) l.length cap) l → ∀ k n,l[k]? = some n →
  w.cell? ⟨b,off + k * 5,none⟩ = some (.int .i64 n.op) ∧ w.cell? ⟨b,off + k * 5 + 1,none⟩ = some (.int .u64 (n.cls.1 : Int)) ∧ w.cell? ⟨b,off + k * 5 + 2,none⟩ = some (.int .u64 (n.cls.2.1 : Int)) ∧
  w.cell? ⟨b,off + k * 5 + 3,none⟩ = some (.int .u64 (n.cls.2.2.1 : Int)) ∧ w.cell? ⟨b,off + k * 5 + 4,none⟩ = some (.int .u64 (n.cls.2.2.2 : Int))):=hid (fun w hr k n hk => by
  obtain ⟨A',cap',hv,hcap,hcap2,hmem⟩:=hr.open_
  injection hv with e1 _ e2
  obtain ⟨b',off',hA,_,hc⟩:=hmem (by have:=(List.getElem?_eq_some_iff.1 hk).1;omega)
  rw [hA] at e1
  cases e1
  exact hc w (fun _ => rfl) k n hk)
 have HBL : Hid (∀ (w : World),RdN w (.slice (some ⟨b,off,none⟩) l.length cap) l → 0 < l.length → b < w.heap.size):=hid (fun w hr hk => by
  obtain ⟨A',cap',hv,hcap,hcap2,hmem⟩:=hr.open_
  injection hv with e1 _ e2
  obtain ⟨b',off',hA,hb,_⟩:=hmem hk
  rw [hA] at e1
  cases e1
  exact hb)
 have HEND:=hid (fun (i : Nat) (hi : i ≤ l.length) (w : World) (hr : RdN w (.slice (some ⟨b,off,none⟩) l.length cap) l) => REnd_all l hg hlen (some ⟨b,off,none⟩) cap l.length i w (by omega) hi hr)
 have HOK:=hid hok
 have HSL:=hid (show s.data.toList.length = s.size by simp)
 have HCLO:=hid (fun (u : Rx) (i : Nat) (h : ReachAt l b off cap s u i) => closed_any l b off cap s hs u i h)
 have HBW : Hid (∀ (w : World) (o o' : Obj),Below w.heap.size w ((w.alloc o).alloc o')):=hid fun w o o' => ((Below.refl _ _).alloc (Nat.le_refl _) _).alloc (by simp) _
 have hmk0:=fun W => mk_bools (s.size + 1) (by omega) W
 have hmk:=hmk0
 rw [show ((s.size + 1 : Nat) : Int) = (s.size : Int) + 1 by omega] at hmk
 have hrg:=fun f (hf : f < s.size + 1) => repA_get (s.size + 1) (.bool false) f hf
 have HRG:=hid hrg
 clear hg hok hrg
 ·intro w g D hr hD
  obtain ⟨q0,q1,q2,q3,q4⟩:=HM.out w hr i _ hat.cat.1
  have hlt:=hat.lt
  have hpos:=flat_pos (.cat a c)
  have hi1 : (i : Int) < (l.length : Int):=by omega
  have hgl:=hD.lt
  have hbl:=HBL.out w hr (by omega)
  have HR:=hid hr
  have HD:=hid hD
  dsimp only [zc] at q0 q1 q2 q3 q4
  obtain ⟨_,hata,hatc⟩:=hat.cat
  have hRA:=iha (i + 1) hata
  have hRC:=ihc (i + 1 + (flat a).length) hatc
  unfold ReachAt at hRA hRC
  have hpa:=flat_pos a
  have hla:=hata.lt
  have HE:=hid (fun W h => HEND.out (i + 1) (by omega) W h)
  rw [eo_at hata] at HE
  generalize i + 1 + (flat a).length = e2 at *
  have HRA:=hid hRA
  have HRC:=hid hRC
  clear hat hr hD iha ihc hRA hRC hata hatc
  go_enter Tryz.func134,Tryz.ntmps134
  go_wp2_with fail
  refine (HE.out _ (HR.out.below (HBW.out w _ _))).mono ?_
  rintro e w1' ⟨rfl,rfl⟩
  go_wp2_with fail
  refine (HRA.out _ g D (HR.out.below (HBW.out w _ _)) (HD.out.below (HBW.out w _ _))).mono ?_
  rintro e w1 ⟨g1,D1,rfl,hg1,hto1,hb1⟩
  have HG1:=hid hg1
  have HTO1:=hid hto1
  have HB1:=hid (((HBW.out w _ _)).trans (hb1.mono ((HBW.out w _ _)).size))
  clear hg1 hto1 hb1
  go_wp2_with fail
  refine (HRC.out _ g1 D1 (HR.out.below HB1.out) (HG1.out)).mono ?_
  rintro e w2 ⟨g2,D2,rfl,hg2,hto2,hb2⟩
  have HG2:=hid hg2
  have HTO2:=hid hto2
  have HB2:=hid ((HB1.out).trans (hb2.mono (HB1.out).size))
  clear hg2 hto2 hb2
  go_wp2_with fail
  go_ret
  exact ⟨g2,D2,rfl,HG2.out,by have h1:=HTO1.out;have h2:=HTO2.out;rw [← HSL.out] at h1 h2 ⊢;exact to_cat h1 h2,HB2.out⟩
theorem Reach_alt (l : List Nd) (hg : ∀ n ∈ l,good n) (hok : ∀ n ∈ l,okC n.cls) (hlen : l.length ≤ 60) (b off cap : Nat) (s : ByteArray) (hs : s.size ≤ 400) (a c : Rx) (iha : ∀ i,At l i a → ReachAt l b off cap s a i) (ihc : ∀ i,At l i c → ReachAt l b off cap s c i) (i : Nat) (hat : At l i (.alt a c)) : ReachAt l b off cap s (.alt a c) i:=by
 have HM : Hid (∀ (w : World),RdN w (.slice (some ⟨b,off,none⟩) l.length cap) l → ∀ k n,l[k]? = some n →
  w.cell? ⟨b,off + k * 5,none⟩ = some (.int .i64 n.op) ∧ w.cell? ⟨b,off + k * 5 + 1,none⟩ = some (.int .u64 (n.cls.1 : Int)) ∧ w.cell? ⟨b,off + k * 5 + 2,none⟩ = some (.int .u64 (n.cls.2.1 : Int)) ∧
  w.cell? ⟨b,off + k * 5 + 3,none⟩ = some (.int .u64 (n.cls.2.2.1 : Int)) ∧ w.cell? ⟨b,off + k * 5 + 4,none⟩ = some (.int .u64 (n.cls.2.2.2 : Int))):=hid (fun w hr k n hk => by
  obtain ⟨A',cap',hv,hcap,hcap2,hmem⟩:=hr.open_
  injection hv with e1 _ e2
  obtain ⟨b',off',hA,_,hc⟩:=hmem (by have:=(List.getElem?_eq_some_iff.1 hk).1;omega)
  rw [hA] at e1
  cases e1
  exact hc w (fun _ => rfl) k n hk)
 have HBL : Hid (∀ (w : World),RdN w (.slice (some ⟨b,off,none⟩) l.length cap) l → 0 < l.length → b < w.heap.size):=hid (fun w hr hk => by
  obtain ⟨A',cap',hv,hcap,hcap2,hmem⟩:=hr.open_
  injection hv with e1 _ e2
  obtain ⟨b',off',hA,hb,_⟩:=hmem hk
  rw [hA] at e1
  cases e1
  exact hb)
 have HEND:=hid (fun (i : Nat) (hi : i ≤ l.length) (w : World) (hr : RdN w (.slice (some ⟨b,off,none⟩) l.length cap) l) => REnd_all l hg hlen (some ⟨b,off,none⟩) cap l.length i w (by omega) hi hr)
 have HOK:=hid hok
 have HSL:=hid (show s.data.toList.length = s.size by simp)
 have HCLO:=hid (fun (u : Rx) (i : Nat) (h : ReachAt l b off cap s u i) => closed_any l b off cap s hs u i h)
 have HBW : Hid (∀ (w : World) (o o' : Obj),Below w.heap.size w ((w.alloc o).alloc o')):=hid fun w o o' => ((Below.refl _ _).alloc (Nat.le_refl _) _).alloc (by simp) _
 have hmk0:=fun W => mk_bools (s.size + 1) (by omega) W
 have hmk:=hmk0
 rw [show ((s.size + 1 : Nat) : Int) = (s.size : Int) + 1 by omega] at hmk
 have hrg:=fun f (hf : f < s.size + 1) => repA_get (s.size + 1) (.bool false) f hf
 have HRG:=hid hrg
 clear hg hok hrg
 ·intro w g D hr hD
  obtain ⟨q0,q1,q2,q3,q4⟩:=HM.out w hr i _ hat.alt.1
  have hlt:=hat.lt
  have hpos:=flat_pos (.alt a c)
  have hi1 : (i : Int) < (l.length : Int):=by omega
  have hgl:=hD.lt
  have hbl:=HBL.out w hr (by omega)
  have HR:=hid hr
  have HD:=hid hD
  dsimp only [zc] at q0 q1 q2 q3 q4
  obtain ⟨_,hata,hatc⟩:=hat.alt
  have hRA:=iha (i + 1) hata
  have hRC:=ihc (i + 1 + (flat a).length) hatc
  unfold ReachAt at hRA hRC
  have hpa:=flat_pos a
  have hla:=hata.lt
  have HE:=hid (fun W h => HEND.out (i + 1) (by omega) W h)
  rw [eo_at hata] at HE
  generalize i + 1 + (flat a).length = e2 at *
  have HRA:=hid hRA
  have HRC:=hid hRC
  clear hat hr hD iha ihc hRA hRC hata hatc
  go_enter Tryz.func134,Tryz.ntmps134
  go_wp2_with fail
  refine (HRA.out _ g D (HR.out.below (HBW.out w _ _)) (HD.out.below (HBW.out w _ _))).mono ?_
  rintro e w1 ⟨g1,D1,rfl,hg1,hto1,hb1⟩
  have HG1:=hid hg1
  have HTO1:=hid hto1
  have HB1:=hid (((HBW.out w _ _)).trans (hb1.mono ((HBW.out w _ _)).size))
  have HD1:=hid ((HD.out.below (HBW.out w _ _)).below hb1)
  clear hg1 hto1 hb1
  go_wp2_with fail
  refine (HE.out _ (HR.out.below HB1.out)).mono ?_
  rintro e w1' ⟨rfl,rfl⟩
  go_wp2_with fail
  refine (HRC.out _ g D (HR.out.below HB1.out) (HD1.out)).mono ?_
  rintro e w2 ⟨g2,D2,rfl,hg2,hto2,hb2⟩
  have HG2:=hid hg2
  have HTO2:=hid hto2
  have HB2:=hid ((HB1.out).trans (hb2.mono (HB1.out).size))
  have HG1b:=hid (HG1.out.below hb2)
  clear hg2 hto2 hb2
  go_wp2_with fail
  refine (joined_any g1 g2 (s.size + 1) (by omega) D1 D2 _ (HG1b.out) (HG2.out)).mono ?_
  rintro e w3 ⟨g3,rfl,hg3,hb3⟩
  have HG3:=hid hg3
  have HB3:=hid ((HB2.out).trans (hb3.mono (HB2.out).size))
  clear hg3 hb3
  go_wp2_with fail
  go_ret
  exact ⟨g3,_,rfl,HG3.out,to_alt HTO1.out HTO2.out,HB3.out⟩
theorem RReach_all (l : List Nd) (hg : ∀ n ∈ l,good n) (hok : ∀ n ∈ l,okC n.cls) (hlen : l.length ≤ 60) (b off cap : Nat) (s : ByteArray) (hs : s.size ≤ 400) : ∀ (u : Rx) (i : Nat),At l i u → ReachAt l b off cap s u i:=by
 intro u
 induction u with
 | byte c => exact fun i => Reach_byte l hg hok hlen b off cap s hs c i
 | empty => exact fun i => Reach_empty l hg hok hlen b off cap s hs i
 | bgn => exact fun i => Reach_bgn l hg hok hlen b off cap s hs i
 | fin => exact fun i => Reach_fin l hg hok hlen b off cap s hs i
 | star a iha => exact fun i => Reach_star l hg hok hlen b off cap s hs a iha i
 | plus a iha => exact fun i => Reach_plus l hg hok hlen b off cap s hs a iha i
 | opt a iha => exact fun i => Reach_opt l hg hok hlen b off cap s hs a iha i
 | cat a c iha ihc => exact fun i => Reach_cat l hg hok hlen b off cap s hs a c iha ihc i
 | alt a c iha ihc => exact fun i => Reach_alt l hg hok hlen b off cap s hs a c iha ihc i
end Go.Proofs.YthcahjnniendnacGreatDoor
