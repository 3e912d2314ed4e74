/-
  SimA, SimB, SimC, SimD, SimE.
-/
import Derived.Test.YthhcpbfgoofppaaGreatDoorGQ
import Derived.Test.YthhcpbfgoofppaaGreatDoorGRex
import Derived.Test.YthhcpbfgoofppaaGreatDoorGRun
import Derived.Test.YthhcpbfgoofppaaGreatDoorGStep
import Derived.RangeFuncNested
import Derived.RangeFuncBound
import Derived.RangeFuncCalls
import Derived.RangeFuncLeaves
import Derived.Shelf.Abstract
import Derived.Shelf.RegionOpen
import Derived.WalkKit
import Derived.OwnWalkIn
import Derived.TacticsInMore
import Derived.LoopNIn
import Derived.LoopIn
set_option linter.unusedVariables false
set_option linter.unusedSimpArgs false
set_option maxRecDepth 100000
set_option maxHeartbeats 8000000
open Go.Lib (hid)
namespace Go.Proofs.YthhcpbfgoofppaaGreatDoor
open Go.RowKit Wf
def seenA (n : Nat) (S : Nat → Bool) : Array Value:=⟨(List.range n).map fun j => Value.bool (S j)⟩
theorem seenA_size (n : Nat) (S : Nat → Bool) : (seenA n S).size = n:=by simp [seenA]
theorem seenA_get (n : Nat) (S : Nat → Bool) (j : Nat) (h : j < n) : (seenA n S)[j]? = some (.bool (S j)):=by simp [seenA,h]
theorem seenA_set (n : Nat) (S : Nat → Bool) (i : Nat) (h : i < n) : (seenA n S).setIfInBounds i (.bool true) = seenA n (Wf.mark S i):=by
 apply Array.ext_getElem?
 intro j
 rw [Array.getElem?_setIfInBounds]
 by_cases hj : j < n
 ·rw [seenA_get n (Wf.mark S i) j hj]
  by_cases e : i = j
  ·subst e
   rw [if_pos rfl,if_pos (by rw [seenA_size];exact h)]
   simp [Wf.mark]
  ·rw [if_neg e,seenA_get n S j hj]
   have : (j == i) = false:=by simp;omega
   simp [Wf.mark,this]
 ·have hr : (seenA n (Wf.mark S i))[j]? = none:=Array.getElem?_eq_none (by rw [seenA_size];omega)
  have hl : (seenA n S)[j]? = none:=Array.getElem?_eq_none (by rw [seenA_size];omega)
  rw [hr,hl,if_neg (by omega)]
theorem cnt_mono {S S' : Nat → Bool} (h : ∀ j,S j = true → S' j = true) : ∀ n,cnt S' n ≤ cnt S n:=by
 have key : ∀ j,(if S' j = true then 0 else 1) ≤ (if S j = true then 0 else 1):=by
  intro j
  by_cases hj : S j = true
  ·rw [if_pos hj,if_pos (h j hj)];omega
  ·rw [if_neg hj];split <;> omega
 intro n
 induction n with
 | zero => exact key 0
 | succ n ih => simp only [cnt];have:=key (n + 1);omega
structure Fk (B : Nat) (w w' : World) : Prop where
 size : w.heap.size ≤ w'.heap.size
 kept : ∀ k,k < w.heap.size → k ≠ B + 4 → k ≠ B + 5 → (∀ cs fr,w.heap[k]? ≠ some (.cells cs 3 fr)) → w'.heap[k]? = w.heap[k]?
theorem Fk.refl (B : Nat) (w : World) : Fk B w w:=⟨Nat.le_refl _,fun _ _ _ _ _ => rfl⟩
theorem Fk.trans {B : Nat} {a b c : World} (h : Fk B a b) (k : Fk B b c) : Fk B a c :=
 ⟨Nat.le_trans h.size k.size,fun j h1 h2 h3 h4 => by
   have e:=h.kept j h1 h2 h3 h4
   rw [k.kept j (Nat.lt_of_lt_of_le h1 h.size) h2 h3 (by rw [e];exact h4),e]⟩
theorem Fk.alloc {B : Nat} {a w : World} (h : Fk B a w) (o : Obj) : Fk B a (w.alloc o) :=
 h.trans ⟨by simp,fun k hk _ _ _ => Below.heap_alloc w o k hk⟩
theorem Fk.set4 {B : Nat} {a w : World} (h : Fk B a w) (j : Nat) (v : Value) : Fk B a (w.setCell ⟨B + 4,j,none⟩ v) :=
 h.trans ⟨by simp,fun k hk h4 _ _ => Below.heap_setCell w _ v k h4⟩
theorem Fk.set5 {B : Nat} {a w : World} (h : Fk B a w) (j : Nat) (v : Value) : Fk B a (w.setCell ⟨B + 5,j,none⟩ v) :=
 h.trans ⟨by simp,fun k hk _ h5 _ => Below.heap_setCell w _ v k h5⟩
theorem Fk.grown {B : Nat} {a w w' : World} {base n : Nat} {v : Value} {xs : List Value} (h : Fk B a w) (ho : w.ownsRow base 3 1 v n xs) (hg : w.grownBy w' v.ownBlock) : Fk B a w' :=
 h.trans ⟨hg.size,fun k hk _ _ h6 => hg.block k hk (fun e => by
  rcases ho.2 with ⟨rfl,_⟩ | ⟨g,cap,cur,rfl,_,hgg,_⟩
  ·simp [Value.ownBlock] at e
  ·simp only [Value.ownBlock,Option.some.injEq] at e
   subst e
   exact h6 _ _ hgg)⟩
theorem Blk.fk {B : Nat} {w w' : World} {k : Nat} {t : TypeId} {cs : Array Value} (h : Blk w k t cs) (hf : Fk B w w') (ht : t ≠ 3) (h4 : k ≠ B + 4) (h5 : k ≠ B + 5) : Blk w' k t cs :=
 (hf.kept k h.lt h4 h5 (fun cs' fr e => by
   unfold Blk at h
   rw [h] at e
   simp at e
   exact ht e.2.1)).trans h
def walkV (B : Nat) : Value:=.func (.func 209) #[] #[.pointer (some ⟨B + 6,0,none⟩),.pointer (some ⟨B,0,none⟩),.pointer (some ⟨B + 4,0,none⟩),.pointer (some ⟨B + 7,0,none⟩),.pointer (some ⟨B + 1,0,none⟩),.pointer (some ⟨B + 2,0,none⟩)]
structure SEnv (w0 : World) (n : Nat) (pv : Value) (f l : Bool) (S : Nat → Bool) (L : List Nat) (d : Bool) (v : Value) (w : World) : Prop where
 bp : Blk w w0.heap.size 228 #[pv]
 bf : Blk w (w0.heap.size + 1) 4 #[.bool f]
 bl : Blk w (w0.heap.size + 2) 4 #[.bool l]
 fr : Blk w (w0.heap.size + 4) 295 #[v,.bool d]
 own : w.ownsRow (w0.heap.size + 8) 3 1 v L.length (natVals L)
 seen : Blk w (w0.heap.size + 5) 4 (seenA n S)
 sb : Blk w (w0.heap.size + 6) 278 #[.slice (some ⟨w0.heap.size + 5,0,none⟩) n n]
 wb : Blk w (w0.heap.size + 7) 127 #[walkV w0.heap.size]
 bel : Below w0.heap.size w0 w
section
variable {w0 w : World} {n : Nat} {pv : Value} {f l : Bool} {S : Nat → Bool} {L : List Nat} {d : Bool} {v : Value}
theorem SEnv.alloc (h : SEnv w0 n pv f l S L d v w) (o : Obj) : SEnv w0 n pv f l S L d v (w.alloc o) :=
 ⟨h.bp.alloc o,h.bf.alloc o,h.bl.alloc o,h.fr.alloc o,h.own.alloc o,h.seen.alloc o,h.sb.alloc o,h.wb.alloc o,h.bel.alloc h.bel.size o⟩
theorem SEnv.mark (h : SEnv w0 n pv f l S L d v w) (i : Nat) (hi : i < n) : SEnv w0 n pv f l (Wf.mark S i) L d v (w.setCell ⟨w0.heap.size + 5,i,none⟩ (.bool true)):=by
 have hown:=fun k hk => h.own.lt k hk
 refine ⟨h.bp.far (by show w0.heap.size ≠ w0.heap.size + 5;omega) _,h.bf.far (by show w0.heap.size + 1 ≠ w0.heap.size + 5;omega) _,h.bl.far (by show w0.heap.size + 2 ≠ w0.heap.size + 5;omega) _,h.fr.far (by show w0.heap.size + 4 ≠ w0.heap.size + 5;omega) _,?_,?_,h.sb.far (by show w0.heap.size + 6 ≠ w0.heap.size + 5;omega) _,h.wb.far (by show w0.heap.size + 7 ≠ w0.heap.size + 5;omega) _,h.bel.setCell (by show w0.heap.size ≤ w0.heap.size + 5;omega) _⟩
 ·refine h.own.kept (row:=some (w0.heap.size + 5)) ⟨rfl,rfl,rfl,by simp,fun k _ hk => Below.heap_setCell w _ _ k (fun e => hk (by rw [e]))⟩ ?_
  cases hv : v.ownBlock with
  | none => exact .inl rfl
  | some k => exact .inr (fun e => by have:=(hown k hv).1;simp at e;omega)
 ·have:=h.seen.set_ i (.bool true)
  rw [seenA_set n S i hi] at this
  exact this
theorem SEnv.end_ (h : SEnv w0 n pv f l S L d v w) : SEnv w0 n pv f l S L true v (w.setCell ⟨w0.heap.size + 4,1,none⟩ (.bool true)):=by
 have hown:=fun k hk => h.own.lt k hk
 refine ⟨h.bp.far (by show w0.heap.size ≠ w0.heap.size + 4;omega) _,h.bf.far (by show w0.heap.size + 1 ≠ w0.heap.size + 4;omega) _,h.bl.far (by show w0.heap.size + 2 ≠ w0.heap.size + 4;omega) _,?_,?_,h.seen.far (by show w0.heap.size + 5 ≠ w0.heap.size + 4;omega) _,h.sb.far (by show w0.heap.size + 6 ≠ w0.heap.size + 4;omega) _,h.wb.far (by show w0.heap.size + 7 ≠ w0.heap.size + 4;omega) _,h.bel.setCell (by show w0.heap.size ≤ w0.heap.size + 4;omega) _⟩
 ·have:=h.fr.set_ 1 (.bool true)
  exact this
 ·refine h.own.kept (row:=some (w0.heap.size + 4)) ⟨rfl,rfl,rfl,by simp,fun k _ hk => Below.heap_setCell w _ _ k (fun e => hk (by rw [e]))⟩ ?_
  cases hv : v.ownBlock with
  | none => exact .inl rfl
  | some k => exact .inr (fun e => by have:=(hown k hv).1;simp at e;omega)
theorem SEnv.take (h : SEnv w0 n pv f l S L d v w) {w' : World} {v' : Value} {i : Nat} (hown' : w'.ownsRow (w0.heap.size + 8) 3 1 v' (L.length + 1) (natVals L ++ [.int .i64 (i : Int)])) (hg : w.grownBy w' v.ownBlock) :
 Blk w' (w0.heap.size + 4) 295 #[v,.bool d] ∧ SEnv w0 n pv f l S (L ++ [i]) d v' (w'.setCell ⟨w0.heap.size + 4,0,none⟩ v'):=by
 have hown:=fun k hk => h.own.lt k hk
 have kp : ∀ {k : Nat} {t : TypeId} {cs : Array Value},Blk w k t cs → k < w0.heap.size + 8 → Blk w' k t cs:=fun hb hk => (hg.block _ hb.lt (fun e => by have:=(hown _ e.symm).1;omega)).trans hb
 have hfr:=kp h.fr (by omega)
 have hbel : Below w0.heap.size w0 w':=h.bel.trans ⟨hg.os,hg.tape,hg.output,hg.size,fun k hk => by
  have hk' : k < w.heap.size:=by have:=h.bp.lt;omega
  exact hg.block k hk' (fun e => by have:=(hown _ e.symm).1;omega)⟩
 refine ⟨hfr,?_,?_,?_,?_,?_,?_,?_,?_,?_⟩
 ·exact (kp h.bp (by omega)).far (by show w0.heap.size ≠ w0.heap.size + 4;omega) _
 ·exact (kp h.bf (by omega)).far (by show w0.heap.size + 1 ≠ w0.heap.size + 4;omega) _
 ·exact (kp h.bl (by omega)).far (by show w0.heap.size + 2 ≠ w0.heap.size + 4;omega) _
 ·exact hfr.set_ 0 v'
 ·have hlt':=fun k hk => hown'.lt k hk
  have hn : natVals (L ++ [i]) = natVals L ++ [.int .i64 (i : Int)]:=by simp [natVals]
  rw [hn,List.length_append]
  refine hown'.kept (row:=some (w0.heap.size + 4)) ⟨rfl,rfl,rfl,by simp,fun k _ hk => Below.heap_setCell w' _ _ k (fun e => hk (by rw [e]))⟩ ?_
  cases hv : v'.ownBlock with
  | none => exact .inl rfl
  | some k => exact .inr (fun e => by have:=(hlt' k hv).1;simp at e;omega)
 ·exact (kp h.seen (by omega)).far (by show w0.heap.size + 5 ≠ w0.heap.size + 4;omega) _
 ·exact (kp h.sb (by omega)).far (by show w0.heap.size + 6 ≠ w0.heap.size + 4;omega) _
 ·exact (kp h.wb (by omega)).far (by show w0.heap.size + 7 ≠ w0.heap.size + 4;omega) _
 ·exact hbel.setCell (by show w0.heap.size ≤ w0.heap.size + 4;omega) _
end
theorem own_succ {w : World} {base size n : Nat} {e : TypeId} {v : Value} {xs : List Value} (h : w.ownsRow base e size v (n + 1) xs) : ∃ g cap,v = .slice (some ⟨g,0,none⟩) (n + 1) cap:=by
 rcases h.2 with ⟨_,h0⟩ | ⟨g,cap,cur,hv,_⟩
 ·omega
 ·exact ⟨g,cap,hv⟩
theorem mark_is (S : Nat → Bool) (i : Nat) : (fun j => S j = true ∨ j = i) = (fun j => Wf.mark S i j = true):=by
 funext j
 simp [Wf.mark]
 constructor
 ·rintro (h | h)
  ·exact .inr h
  ·exact .inl h
 ·rintro (h | h)
  ·exact .inr h
  ·exact .inl h
theorem new_one (W : World) (t : TypeId) (x : Value) (g : Nat) (hg : g = W.heap.size) : ∀ (j : Nat) (u : Value),[x][j]? = some u → (W.alloc (.cells #[x] t)).cell? ((⟨g,0,none⟩ : Addr).add j) = some u:=by
 intro j u hu
 subst hg
 rw [add_mk,Nat.zero_add,(Blk.new W t #[x]).cell]
 simpa using hu
def WalkIs (w0 : World) (p : List St) (pv : Value) (f l : Bool) (S : Nat → Bool) (L : List Nat) (d : Bool) (i : Nat) (w : World) (e : Ending) (w' : World) : Prop :=
 e = .returned (.tuple #[]) ∧ ∃ (S' : Nat → Bool) (L' : List Nat) (d' : Bool) (D : Prop) (v' : Value),Walked p f l (fun j => S j = true) (fun j => S' j = true) i L' D ∧ (d' = true ↔ d = true ∨ D) ∧
  SEnv w0 p.length pv f l S' (L ++ L') d' v' w' ∧ Fk w0.heap.size w w' ∧ (L ++ L').length + cnt S' p.length ≤ 1000
theorem walk_all (w0 : World) (p : List St) (hp : okP p) (b off cap : Nat) (hcap : p.length ≤ cap) (hcap2 : cap ≤ 9223372036854775807) (f l : Bool)
 (hcell : ∀ (w' : World),Below w0.heap.size w0 w' → ∀ k n,p[k]? = some n →
   w'.cell? ⟨b,off + k * 7,none⟩ = some (.int .i64 n.op) ∧ w'.cell? ⟨b,off + k * 7 + 1,none⟩ = some (.int .u64 (n.cls.1 : Int)) ∧ w'.cell? ⟨b,off + k * 7 + 2,none⟩ = some (.int .u64 (n.cls.2.1 : Int)) ∧
   w'.cell? ⟨b,off + k * 7 + 3,none⟩ = some (.int .u64 (n.cls.2.2.1 : Int)) ∧ w'.cell? ⟨b,off + k * 7 + 4,none⟩ = some (.int .u64 (n.cls.2.2.2 : Int)) ∧
   w'.cell? ⟨b,off + k * 7 + 5,none⟩ = some (.int .i64 n.x) ∧ w'.cell? ⟨b,off + k * 7 + 6,none⟩ = some (.int .i64 n.y)) :
 ∀ (m : Nat) (S : Nat → Bool) (L : List Nat) (d : Bool) (v : Value) (w : World) (i : Nat),cnt S p.length ≤ m → i < p.length → L.length + cnt S p.length ≤ 1000 →
  SEnv w0 p.length (.slice (some ⟨b,off,none⟩) p.length cap) f l S L d v w →
  Calls Tryz.prog 209 #[.int .i64 (i : Int),.pointer (some ⟨w0.heap.size + 6,0,none⟩),.pointer (some ⟨w0.heap.size,0,none⟩),.pointer (some ⟨w0.heap.size + 4,0,none⟩),.pointer (some ⟨w0.heap.size + 7,0,none⟩),.pointer (some ⟨w0.heap.size + 1,0,none⟩),.pointer (some ⟨w0.heap.size + 2,0,none⟩)] w (WalkIs w0 p (.slice (some ⟨b,off,none⟩) p.length cap) f l S L d i w):=by
 obtain ⟨i0,hi0,hz0,hz1,hz2⟩:=info_parts info_int
 have HP:=hid hp
 have HCELL:=hid hcell
 clear hp hcell
 have hn200 : p.length ≤ 200:=HP.out.2.1
 intro m
 induction m with
 | zero =>
   intro S L d v w i hm hi hL h
   have c0:=h.sb.cell 0
   have hs : S i = true:=by
    cases hS : S i with
    | true => rfl
    | false => have:=cnt_mark S i hS p.length (by omega);omega
   have c1 : w.cell? ⟨w0.heap.size + 5,i,none⟩ = some (.bool true):=by rw [h.seen.cell,seenA_get _ _ _ hi,hs]
   have hi1 : (i : Int) < (p.length : Int):=by omega
   have H:=hid h
   have HSI:=hid hs
   clear h hm hs
   go_enter Tryz.func209,Tryz.ntmps209
   go_wp2
   refine bodyPost_ret (results_none rfl _ _ _) rfl ⟨rfl,S,[],d,False,v,Walked.seen HSI.out,by simp,by rw [List.append_nil];exact H.out,Fk.refl _ _,by rw [List.append_nil];exact hL⟩
 | succ m ih =>
   intro S L d v w i hm hi hL h
   have c0:=h.sb.cell 0
   have hi1 : (i : Int) < (p.length : Int):=by omega
   by_cases hs : S i = true
   ·have c1 : w.cell? ⟨w0.heap.size + 5,i,none⟩ = some (.bool true):=by rw [h.seen.cell,seenA_get _ _ _ hi,hs]
    have H:=hid h
    have HSI:=hid hs
    clear h hm hs ih
    go_enter Tryz.func209,Tryz.ntmps209
    go_wp2
    refine bodyPost_ret (results_none rfl _ _ _) rfl ⟨rfl,S,[],d,False,v,Walked.seen HSI.out,by simp,by rw [List.append_nil];exact H.out,Fk.refl _ _,by rw [List.append_nil];exact hL⟩
   ·have hs0 : S i = false:=by simpa using hs
    have c1 : w.cell? ⟨w0.heap.size + 5,i,none⟩ = some (.bool false):=by rw [h.seen.cell,seenA_get _ _ _ hi,hs0]
    have z1:=h.seen.frozen i
    have hcm:=cnt_mark S i hs0 p.length (by omega)
    have HM:=hid (h.mark i hi)
    have HM2 : Hid (∀ o,SEnv w0 p.length (.slice (some ⟨b,off,none⟩) p.length cap) f l (Wf.mark S i) L d v ((w.setCell ⟨w0.heap.size + 5,i,none⟩ (.bool true)).alloc o)):=hid fun o => HM.out.alloc o
    have hsp : p[i]? = some (p[i]'hi):=List.getElem?_eq_getElem hi
    generalize p[i]'hi = s at hsp
    have m0:=HM.out.bp.cell 0
    have m4:=fun o => (HM2.out o).fr.cell 0
    obtain ⟨q0,q1,q2,q3,q4,q5,q6⟩:=HCELL.out _ HM.out.bel i s hsp
    have hone:=oneP_zero (HP.out.2.2 s (List.mem_of_getElem? hsp))
    obtain ⟨op,⟨k0,k1,k2,k3⟩,x,y⟩:=s
    dsimp only at q0 q1 q2 q3 q4 q5 q6 hone
    have HSP:=hid hsp
    have HS0:=hid hs
    have HSF:=hid hs0
    have HIH:=hid ih
    obtain ⟨⟨o1,o5⟩,ox,oy,_,_,_⟩:=hone
    clear h ih hsp hs hs0
    have hop : op = 1 ∨ op = 2 ∨ op = 3 ∨ op = 4 ∨ op = 5:=by omega
    rcases hop with rfl | rfl | rfl | rfl | rfl
    ·have hw:=Walked.leaf (p:=p) (f:=f) (l:=l) (S:=fun j => S j = true) HSP.out HS0.out (by
      rintro k ⟨s,hs,hh⟩
      rw [HSP.out] at hs
      cases hs
      simp at hh)
     rw [mark_is] at hw
     have HW : Hid (Walked p f l (fun j => S j = true) (fun j => Wf.mark S i j = true) i [i] False):=hid (by simpa using hw)
     have hLm : L.length ≤ 1000:=by omega
     clear hw ox oy o1 o5
     go_enter Tryz.func209,Tryz.ntmps209
     go_wp2_with (at_builtin;refine wpList_append_own _ rfl (.tmp 25) (.tmp 27) _ rfl (w0.heap.size + 8) 3 i0 _ 1 8 Tryz.underlying191 hi0 hz0 hz1 hz2 rfl (by omega) _ L.length (natVals L) rfl ((HM2.out _).own.alloc _) ⟨w.heap.size + 1,0,none⟩ 1 1 [.int .i64 (i : Int)] rfl rfl (new_one _ _ _ _ (by simp)) (by intro u hu;simp at hu;subst hu;rfl) (by unfold maxLen;omega) (by omega) (by have:=HM.out.wb.lt;simp at this ⊢;omega) ?_)
     intro v' w' hown' hg' _
     obtain ⟨g',cap',rfl⟩:=own_succ hown'
     obtain ⟨hf4,henv⟩:=((HM2.out _).alloc _).take hown' hg'
     have g4:=hf4.cell 0
     have z4:=hf4.frozen 0
     have HENV:=hid henv
     have HFK:=hid (((((Fk.refl w0.heap.size w).set5 i (.bool true)).alloc _).alloc _).grown ((HM2.out _).own.alloc _) hg')
     clear henv hown' hg' hf4 m4 m0 q0 q1 q2 q3 q4 q5 q6 c0 c1 z1
     go_wp2
     go_end0
     refine ⟨rfl,Wf.mark S i,[i],d,False,_,HW.out,by simp,HENV.out,HFK.out.set4 _ _,?_⟩
     simp;omega
    ·have ⟨hx0,hx1⟩:=ox (by omega)
     have ⟨hy0,hy1⟩:=oy rfl
     obtain ⟨xn,rfl⟩ : ∃ n : Nat,x = (n : Int):=⟨x.toNat,by omega⟩
     obtain ⟨yn,rfl⟩ : ∃ n : Nat,y = (n : Int):=⟨y.toNat,by omega⟩
     have hxn : xn < p.length:=by omega
     have hyn : yn < p.length:=by omega
     have hC1 : cnt (Wf.mark S i) p.length ≤ m:=by omega
     have hC2 : L.length + cnt (Wf.mark S i) p.length ≤ 1000:=by omega
     have HEPS : Hid (∀ k,Eps p f l i k ↔ k = xn ∨ k = yn):=hid (by
      intro k
      constructor
      ·rintro ⟨s,hs,hh⟩
       rw [HSP.out] at hs
       cases hs
       simp at hh
       omega
      ·intro h
       exact ⟨_,HSP.out,.inl ⟨rfl,by simp;omega⟩⟩)
     have mw:=fun o => (HM2.out o).wb.cell 0
     unfold walkV at mw
     simp only [List.getElem?_toArray,List.getElem?_cons_zero] at mw
     clear ox oy o1 o5 hx0 hx1 hy0 hy1
     go_enter Tryz.func209,Tryz.ntmps209
     have hszw : w0.heap.size + 7 < w.heap.size:=by have:=HM.out.wb.lt;simpa using this
     go_wp2_with fail
     refine (HIH.out _ _ _ _ _ xn hC1 hxn hC2 (HM2.out _)).mono ?_
     rintro e w1 ⟨rfl,S1,L1,d1,D1,v1,hw1,hd1,henv1,hfk1,hb1⟩
     have hsb:=Blk.new (w.setCell ⟨w0.heap.size + 5,i,none⟩ (.bool true)) 262 #[.int .i64 2,.int .u64 (k0 : Int),.int .u64 (k1 : Int),.int .u64 (k2 : Int),.int .u64 (k3 : Int),.int .i64 (xn : Int),.int .i64 (yn : Int)]
     have hsz : (w.setCell ⟨w0.heap.size + 5,i,none⟩ (.bool true)).heap.size = w.heap.size:=by simp
     rw [hsz] at hsb
     have hsb1:=(Blk.fk (B:=w0.heap.size) (show Blk _ _ _ _ from hsb) hfk1 (by decide) (by omega) (by omega)).cell 6
     simp only [List.getElem?_toArray,List.getElem?_cons_succ,List.getElem?_cons_zero] at hsb1
     have mw1:=henv1.wb.cell 0
     unfold walkV at mw1
     simp only [List.getElem?_toArray,List.getElem?_cons_zero] at mw1
     have hC3 : cnt S1 p.length ≤ m:=Nat.le_trans (cnt_mono (fun j hj => hw1.mono j hj) _) hC1
     rw [← mark_is] at hw1
     have HW1:=hid hw1
     have HD1:=hid hd1
     have HENV1:=hid henv1
     have HFK1:=hid ((((Fk.refl w0.heap.size w).set5 i (.bool true)).alloc _).trans hfk1)
     clear hw1 hd1 henv1 hfk1 hsb m4 m0 q0 q1 q2 q3 q4 q5 q6 c0 c1 z1 mw
     go_wp2_with fail
     refine (HIH.out _ _ _ _ _ yn hC3 hyn hb1 HENV1.out).mono ?_
     rintro e w2 ⟨rfl,S2,L2,d2,D2,v2,hw2,hd2,henv2,hfk2,hb2⟩
     have HW:=hid (Walked.two HSP.out HS0.out (by simp) (by simp) HEPS.out HW1.out hw2)
     have HD : Hid (d2 = true ↔ d = true ∨ (D1 ∨ D2)):=hid (by rw [hd2,HD1.out,or_assoc])
     rw [List.append_assoc] at henv2 hb2
     have HENV:=hid henv2
     have HFK:=hid (HFK1.out.trans hfk2)
     have HB:=hid hb2
     clear hw2 hd2 henv2 hfk2 hb2 mw1 hsb1
     go_wp2
     go_end0
     exact ⟨rfl,S2,L1 ++ L2,d2,D1 ∨ D2,v2,HW.out,HD.out,HENV.out,HFK.out,HB.out⟩
    ·have ⟨hx0,hx1⟩:=ox (by omega)
     obtain ⟨xn,rfl⟩ : ∃ n : Nat,x = (n : Int):=⟨x.toNat,by omega⟩
     have hxn : xn < p.length:=by omega
     have hC1 : cnt (Wf.mark S i) p.length ≤ m:=by omega
     have hC2 : L.length + cnt (Wf.mark S i) p.length ≤ 1000:=by omega
     have mw:=fun o => (HM2.out o).wb.cell 0
     unfold walkV at mw
     simp only [List.getElem?_toArray,List.getElem?_cons_zero] at mw
     have mf:=fun o => (HM2.out o).bf.cell 0
     clear ox oy o1 o5 hx0 hx1
     cases f with
     | true =>
       have HEPS : Hid (∀ k,Eps p true l i k ↔ k = xn):=hid (by
        intro k
        constructor
        ·rintro ⟨s,hs,hh⟩
         rw [HSP.out] at hs
         cases hs
         simp at hh
         omega
        ·intro h
         exact ⟨_,HSP.out,.inr (.inl ⟨rfl,rfl,by simp;omega⟩)⟩)
       go_enter Tryz.func209,Tryz.ntmps209
       go_wp2_with fail
       refine (HIH.out _ _ _ _ _ xn hC1 hxn hC2 (HM2.out _)).mono ?_
       rintro e w1 ⟨rfl,S1,L1,d1,D1,v1,hw1,hd1,henv1,hfk1,hb1⟩
       rw [← mark_is] at hw1
       have HW:=hid (Walked.one HSP.out HS0.out (by simp) (by simp) HEPS.out hw1)
       have HD:=hid hd1
       have HENV:=hid henv1
       have HFK:=hid (((Fk.refl w0.heap.size w).set5 i (.bool true)).alloc _ |>.trans hfk1)
       have HB:=hid hb1
       clear hw1 hd1 henv1 hfk1 hb1 m4 m0 q0 q1 q2 q3 q4 q5 q6 c0 c1 z1 mw mf
       go_wp2
       go_end0
       exact ⟨rfl,S1,L1,d1,D1,v1,HW.out,HD.out,HENV.out,HFK.out,HB.out⟩
     | false =>
       have hw:=Walked.leaf (p:=p) (f:=false) (l:=l) (S:=fun j => S j = true) HSP.out HS0.out (by
        rintro k ⟨s,hs,hh⟩
        rw [HSP.out] at hs
        cases hs
        simp at hh)
       rw [mark_is] at hw
       have HW:=hid hw
       clear hw
       go_enter Tryz.func209,Tryz.ntmps209
       go_wp2
       go_end0
       refine ⟨rfl,Wf.mark S i,[],d,False,v,by simpa using HW.out,by simp,by rw [List.append_nil];exact HM2.out _,((Fk.refl w0.heap.size w).set5 i (.bool true)).alloc _,?_⟩
       simp;omega
    ·have ⟨hx0,hx1⟩:=ox (by omega)
     obtain ⟨xn,rfl⟩ : ∃ n : Nat,x = (n : Int):=⟨x.toNat,by omega⟩
     have hxn : xn < p.length:=by omega
     have hC1 : cnt (Wf.mark S i) p.length ≤ m:=by omega
     have hC2 : L.length + cnt (Wf.mark S i) p.length ≤ 1000:=by omega
     have mw:=fun o => (HM2.out o).wb.cell 0
     unfold walkV at mw
     simp only [List.getElem?_toArray,List.getElem?_cons_zero] at mw
     have mf:=fun o => (HM2.out o).bl.cell 0
     clear ox oy o1 o5 hx0 hx1
     cases l with
     | true =>
       have HEPS : Hid (∀ k,Eps p f true i k ↔ k = xn):=hid (by
        intro k
        constructor
        ·rintro ⟨s,hs,hh⟩
         rw [HSP.out] at hs
         cases hs
         simp at hh
         omega
        ·intro h
         exact ⟨_,HSP.out,.inr (.inr ⟨rfl,rfl,by simp;omega⟩)⟩)
       go_enter Tryz.func209,Tryz.ntmps209
       go_wp2_with fail
       refine (HIH.out _ _ _ _ _ xn hC1 hxn hC2 (HM2.out _)).mono ?_
       rintro e w1 ⟨rfl,S1,L1,d1,D1,v1,hw1,hd1,henv1,hfk1,hb1⟩
       rw [← mark_is] at hw1
       have HW:=hid (Walked.one HSP.out HS0.out (by simp) (by simp) HEPS.out hw1)
       have HD:=hid hd1
       have HENV:=hid henv1
       have HFK:=hid (((Fk.refl w0.heap.size w).set5 i (.bool true)).alloc _ |>.trans hfk1)
       have HB:=hid hb1
       clear hw1 hd1 henv1 hfk1 hb1 m4 m0 q0 q1 q2 q3 q4 q5 q6 c0 c1 z1 mw mf
       go_wp2
       go_end0
       exact ⟨rfl,S1,L1,d1,D1,v1,HW.out,HD.out,HENV.out,HFK.out,HB.out⟩
     | false =>
       have hw:=Walked.leaf (p:=p) (f:=f) (l:=false) (S:=fun j => S j = true) HSP.out HS0.out (by
        rintro k ⟨s,hs,hh⟩
        rw [HSP.out] at hs
        cases hs
        simp at hh)
       rw [mark_is] at hw
       have HW:=hid hw
       clear hw
       go_enter Tryz.func209,Tryz.ntmps209
       go_wp2
       go_end0
       refine ⟨rfl,Wf.mark S i,[],d,False,v,by simpa using HW.out,by simp,by rw [List.append_nil];exact HM2.out _,((Fk.refl w0.heap.size w).set5 i (.bool true)).alloc _,?_⟩
       simp;omega
    ·have hw:=Walked.leaf (p:=p) (f:=f) (l:=l) (S:=fun j => S j = true) HSP.out HS0.out (by
      rintro k ⟨s,hs,hh⟩
      rw [HSP.out] at hs
      cases hs
      simp at hh)
     rw [mark_is] at hw
     have HW:=hid hw
     have m41:=fun o => (HM2.out o).fr.cell 1
     have z41:=fun o => (HM2.out o).fr.frozen 1
     clear ox oy o1 o5 hw
     go_enter Tryz.func209,Tryz.ntmps209
     go_wp2
     go_end0
     refine ⟨rfl,Wf.mark S i,[],true,True,v,by simpa using HW.out,by simp,by rw [List.append_nil];exact (HM2.out _).end_,(((Fk.refl w0.heap.size w).set5 i (.bool true)).alloc _).set4 _ _,?_⟩
     simp;omega
@[go_sem] theorem run_store_fn {P : Program} (w : World) (a : Addr) (fn : Fn) (ts bs : Array Value) (m : Mode) : (store a (.func fn ts bs) m).run P w = stored P w a (.func fn ts bs) m:=run_store P w a _ m rfl
theorem blk_at (W : World) (k : Nat) (hk : W.heap.size = k) (t : TypeId) (cs : Array Value) : Blk (W.alloc (.cells cs t)) k t cs:=by subst hk;exact Blk.new _ _ _
theorem seenA_none (n : Nat) : repA n (.bool false) = seenA n (fun _ => false):=by
 unfold repA seenA
 congr 1
 rw [List.map_const']
 simp
theorem SEnv.new (w : World) (n : Nat) (pv : Value) (f l : Bool) :
 SEnv w n pv f l (fun _ => false) [] false (.slice none 0 0) ((((((((w.alloc (.cells #[pv] 228)).alloc (.cells #[.bool f] 4)).alloc (.cells #[.bool l] 4)).alloc (.cells #[.slice none 0 0,.bool false] 295)).alloc (.cells #[.slice none 0 0,.bool false] 295)).alloc (.cells (repA n (.bool false)) 4)).alloc (.cells #[.slice (some ⟨w.heap.size + 5,0,none⟩) n n] 278)).alloc (.cells #[walkV w.heap.size] 127)) ∧
 Blk ((((((((w.alloc (.cells #[pv] 228)).alloc (.cells #[.bool f] 4)).alloc (.cells #[.bool l] 4)).alloc (.cells #[.slice none 0 0,.bool false] 295)).alloc (.cells #[.slice none 0 0,.bool false] 295)).alloc (.cells (repA n (.bool false)) 4)).alloc (.cells #[.slice (some ⟨w.heap.size + 5,0,none⟩) n n] 278)).alloc (.cells #[walkV w.heap.size] 127)) (w.heap.size + 3) 295 #[.slice none 0 0,.bool false]:=by
 refine ⟨⟨?_,?_,?_,?_,World.ownsRow_nil _ _ _ _,?_,?_,?_,?_⟩,?_⟩
 ·exact (((((((blk_at _ _ (by simp) _ _).alloc _).alloc _).alloc _).alloc _).alloc _).alloc _).alloc _
 ·exact ((((((blk_at _ _ (by simp) _ _).alloc _).alloc _).alloc _).alloc _).alloc _).alloc _
 ·exact (((((blk_at _ _ (by simp) _ _).alloc _).alloc _).alloc _).alloc _).alloc _
 ·exact (((blk_at _ _ (by simp) _ _).alloc _).alloc _).alloc _
 ·rw [← seenA_none];exact ((blk_at _ _ (by simp) _ _).alloc _).alloc _
 ·exact (blk_at _ _ (by simp) _ _).alloc _
 ·exact blk_at _ _ (by simp) _ _
 ·exact (((((((((Below.refl _ _).alloc (Nat.le_refl _) _).alloc (by simp) _).alloc (by simp;omega) _).alloc (by simp;omega) _).alloc (by simp;omega) _).alloc (by simp;omega) _).alloc (by simp;omega) _).alloc (by simp;omega) _)
 ·exact ((((blk_at _ _ (by simp) _ _).alloc _).alloc _).alloc _).alloc _
theorem own_base {w : World} {base base' size n : Nat} {e : TypeId} {v : Value} {xs : List Value} (h : w.ownsRow base e size v n xs) (hb : base' ≤ base) : w.ownsRow base' e size v n xs:=by
 refine ⟨h.1,?_⟩
 rcases h.2 with hn | ⟨g,cap,cur,hv,h1,rest⟩
 ·exact .inl hn
 ·exact .inr ⟨g,cap,cur,hv,Nat.le_trans hb h1,rest⟩
def SpreadIs (p : List St) (f l : Bool) (fs : List Nat) (w : World) (e : Ending) (w' : World) : Prop :=
 ∃ (A : Option Addr) (cap : Nat) (L : List Nat) (d : Bool),e = .returned (.agg #[.slice A L.length cap,.bool d]) ∧ Front p f l fs L d ∧ w'.ownsRow w.heap.size 3 1 (.slice A L.length cap) L.length (natVals L) ∧ Below w.heap.size w w'
theorem Spread_any (p : List St) (hp : okP p) (pv fv : Value) (fs : List Nat) (hfs : ∀ i ∈ fs,i < p.length) (f l : Bool) (w : World) (hr : RdS w pv p) (hf : Rd1 w fv (natVals fs)) :
 Calls Tryz.prog 188 #[pv,fv,.bool f,.bool l] w (SpreadIs p f l fs w):=by
 have hn200 : p.length ≤ 200:=hp.2.1
 have hpos : 0 < p.length:=hp.1
 obtain ⟨A,cap,rfl,hcap,hcap2,hmem⟩:=hr.open_
 obtain ⟨b,off,rfl,hbl,hcells⟩:=hmem hpos
 rw [show Rd1 w fv (natVals fs) = RdI w fv (toInts fs) by rw [natVals_ints];rfl] at hf
 obtain ⟨F,capf,rfl,hcf,hcf2,hmf⟩:=hf.open_
 have HW:=hid (walk_all w p hp b off cap hcap hcap2 f l (fun w' hb k n hk => hcells w' (fun o => hb.cell (p:=⟨b,o,none⟩) hbl) k n hk))
 have HMF:=hid hmf
 have HNEW:=hid (SEnv.new w p.length (.slice (some ⟨b,off,none⟩) p.length cap) f l)
 have hmk:=fun W => mk_bools p.length (by omega) W
 have hfl : (toInts fs).length = fs.length:=toInts_len fs
 have hzl : (toInts fs).length ≤ 9223372036854775807:=by omega
 rw [hfl] at hcf hmf
 have HFS:=hid hfs
 have HZ : Hid (∀ k x,(toInts fs)[k]? = some x → ∃ i : Nat,fs[k]? = some i ∧ x = (i : Int) ∧ i < p.length):=hid (by
  intro k x hx
  rw [toInts_get] at hx
  cases hq : fs[k]? with
  | none => rw [hq] at hx;cases hx
  | some i => rw [hq] at hx;simp at hx;exact ⟨i,hq,hx.symm,hfs i (List.mem_of_getElem? hq)⟩)
 have HFL:=hid hfl
 have HP:=hid hp
 clear hcells hmem hmf hr hf hfs hp hfl
 generalize hzs : toInts fs = zs at *
 clear hzs
 go_enter Tryz.func188,Tryz.ntmps188
 go_wp2_with fail
 go_loopw [20] (fun v20 wr => ∃ (k : Nat) (S : Nat → Bool) (L : List Nat) (d : Bool) (D : Prop) (v : Value),k ≤ zs.length ∧ v20 = .int .i64 (k : Int) ∧ Hid (Acc p f l (fs.take k) (fun j => S j = true) L D) ∧ Hid (d = true ↔ D) ∧ Hid (SEnv w p.length (.slice (some ⟨b,off,none⟩) p.length cap) f l S L d v wr) ∧ L.length + cnt S p.length ≤ 1000 ∧ Hid (Blk wr (w.heap.size + 3) 295 #[.slice none 0 0,.bool false])) (fun i _ => zs.length - (intOf i).toNat)
 case atStart => exact ⟨0,fun _ => false,[],false,False,.slice none 0 0,by omega,rfl,hid (by simpa using Acc.start p f l),hid (by simp),hid HNEW.out.1,by have:=cnt_le (fun _ => false) p.length;simp;omega,hid HNEW.out.2⟩
 case round =>
  clear HNEW hmk
  obtain ⟨k,S,L,d,D,v,hk,rfl,HACC,HD,HENV,hcn,HRES⟩:=hrel
  by_cases hlt : k < zs.length
  ·obtain ⟨bf,of,rfl,hbf,hcf'⟩:=HMF.out (by omega)
   obtain ⟨x,hx⟩:=getD_get hlt
   obtain ⟨i,hi,rfl,hin⟩:=HZ.out k x hx
   have g0:=hcf' wr (fun o => HENV.out.bel.cell (p:=⟨bf,o,none⟩) hbf) k (i : Int) hx
   have w0 : wr.cell? ⟨w.heap.size + 1 + 1 + 1 + 1 + 1 + 1 + 1,0,none⟩ = some (walkV w.heap.size):=HENV.out.wb.cell 0
   unfold walkV at w0
   have hk1 : (k : Int) < (zs.length : Int):=by omega
   have HI:=hid hi
   clear hx hi hcf'
   go_wp2_with fail
   refine (HW.out (cnt S p.length) S L d v wr i (Nat.le_refl _) hin hcn HENV.out).mono ?_
   rintro e w1 ⟨rfl,S1,L1,d1,D1,v1,hw1,hd1,henv1,hfk1,hb1⟩
   have HW1:=hid hw1
   have HD1 : Hid (d1 = true ↔ D ∨ D1):=hid (by rw [hd1,HD.out])
   have HENV1:=hid henv1
   have hsz7:=HENV.out.wb.lt
   have HRES1:=hid (Blk.fk (B:=w.heap.size) HRES.out hfk1 (by decide) (by omega) (by omega))
   clear hw1 hd1 henv1 hfk1 w0 g0
   go_wp2_with fail
   go_roundw
   case rel => exact ⟨k + 1,S1,L ++ L1,d1,D ∨ D1,v1,by omega,by go_num,hid (by rw [take_snoc HI.out];exact HACC.out.step HW1.out),HD1,HENV1,hb1,HRES1⟩
   case measure => simp [intOf];omega
  ·obtain rfl : k = zs.length:=by omega
   have HACC2 : Hid (Acc p f l fs (fun j => S j = true) L D):=hid (by have:=HACC.out;rw [HFL.out,List.take_length] at this;exact this)
   obtain ⟨VA,vn,vcap,rfl,_,_,hvl,_⟩:=Rd.of_own HENV.out.own
   obtain rfl : vn = L.length:=by simp [natVals] at hvl;omega
   have f0 : wr.cell? ⟨w.heap.size + 1 + 1 + 1 + 1,0,none⟩ = some (.slice VA L.length vcap):=HENV.out.fr.cell 0
   have f1 : wr.cell? ⟨w.heap.size + 1 + 1 + 1 + 1,1,none⟩ = some (.bool d):=HENV.out.fr.cell 1
   have r0 : wr.cell? ⟨w.heap.size + 1 + 1 + 1,0,none⟩ = some (.slice none 0 0):=HRES.out.cell 0
   have r1 : wr.cell? ⟨w.heap.size + 1 + 1 + 1,1,none⟩ = some (.bool false):=HRES.out.cell 1
   have z0 : wr.frozen? ⟨w.heap.size + 1 + 1 + 1,0,none⟩ = false:=HRES.out.frozen 0
   have z1 : wr.frozen? ⟨w.heap.size + 1 + 1 + 1,1,none⟩ = false:=HRES.out.frozen 1
   clear HACC hvl
   go_wp2
   have hk:=(HRES.out.set_ 0 (.slice VA L.length vcap)).set_ 1 (.bool d)
   refine bodyPost_ret (v:=.agg #[.slice VA L.length vcap,.bool d]) ?_ rfl ⟨VA,vcap,L,d,rfl,HACC2.out.front HD.out,?_,?_⟩
   ·have k0 : (((wr.setCell ⟨w.heap.size + 1 + 1 + 1,0,none⟩ (.slice VA L.length vcap)).setCell ⟨w.heap.size + 1 + 1 + 1,1,none⟩ (.bool d))).cell? ⟨w.heap.size + 1 + 1 + 1,0,none⟩ = some (.slice VA L.length vcap):=hk.cell 0
    have k1 : (((wr.setCell ⟨w.heap.size + 1 + 1 + 1,0,none⟩ (.slice VA L.length vcap)).setCell ⟨w.heap.size + 1 + 1 + 1,1,none⟩ (.bool d))).cell? ⟨w.heap.size + 1 + 1 + 1,1,none⟩ = some (.bool d):=hk.cell 1
    simp [results,Tryz.results188,go_sem,k0,k1]
   ·have hlt:=fun q hq => HENV.out.own.lt q hq
    have hg : wr.grownBy ((wr.setCell ⟨w.heap.size + 1 + 1 + 1,0,none⟩ (.slice VA L.length vcap)).setCell ⟨w.heap.size + 1 + 1 + 1,1,none⟩ (.bool d)) (some (w.heap.size + 3)):=⟨rfl,rfl,rfl,by simp,fun q hq hne => by
     rw [Below.heap_setCell _ _ _ q (fun e => hne (by rw [e])),Below.heap_setCell _ _ _ q (fun e => hne (by rw [e]))]⟩
    refine own_base (HENV.out.own.kept hg ?_) (Nat.le_add_right _ _)
    cases hv : (Value.slice VA L.length vcap).ownBlock with
    | none => exact .inl rfl
    | some q => exact .inr (fun e => by have:=(hlt q hv).1;simp at e;omega)
   ·exact (HENV.out.bel.setCell (by show w.heap.size ≤ w.heap.size + 3;omega) _).setCell (by show w.heap.size ≤ w.heap.size + 3;omega) _
theorem own_below {w w' : World} {base size n : Nat} {e : TypeId} {v : Value} {xs : List Value} (h : w.ownsRow base e size v n xs) (hb : Below w.heap.size w w') : w'.ownsRow base e size v n xs :=
 h.kept (row:=none) ⟨hb.os,hb.tape,hb.output,hb.size,fun q hq _ => hb.block q hq⟩ (by cases v.ownBlock <;> simp)
theorem below_own {B base n size : Nat} {a w w' : World} {e : TypeId} {v : Value} {xs : List Value} (h : Below B a w) (hB : B ≤ base) (hBw : B ≤ w.heap.size) (ho : w.ownsRow base e size v n xs) (hg : w.grownBy w' v.ownBlock) : Below B a w' :=
 ⟨hg.os.trans h.os,hg.tape.trans h.tape,hg.output.trans h.output,Nat.le_trans h.size hg.size,fun i hi =>
   (hg.block i (by omega) (fun e => by have:=(ho.lt i e.symm).1;omega)).trans (h.block i hi)⟩
def GoIs (p : List St) (b : Nat) (L : List Nat) (w : World) (e : Ending) (w' : World) : Prop :=
 ∃ (A : Option Addr) (cap : Nat),e = .returned (.slice A (goL p b L).length cap) ∧ w'.ownsRow (w.heap.size + 1) 3 1 (.slice A (goL p b L).length cap) (goL p b L).length (natVals (goL p b L)) ∧ Below w.heap.size w w'
theorem natVals_snoc' (L : List Nat) (i : Nat) : natVals (L ++ [i]) = natVals L ++ [.int .i64 (i : Int)]:=by simp [natVals]
theorem Go_any (p : List St) (hok : ∀ s ∈ p,okC s.cls) (hx : ∀ s ∈ p,0 ≤ s.x) (pv : Value) (A : Option Addr) (cap : Nat) (L : List Nat) (d : Bool) (hL : ∀ i ∈ L,i < p.length) (hL2 : L.length ≤ 200) (b : Nat) (hb : b < 256) (w : World) (hr : RdS w pv p)
 (hf : Rd1 w (.slice A L.length cap) (natVals L)) :
 Calls Tryz.prog 189 #[.agg #[.slice A L.length cap,.bool d],pv,.int .u8 (b : Int)] w (GoIs p b L w):=by
 obtain ⟨i0,hi0,hz0,hz1,hz2⟩:=info_parts info_int
 obtain ⟨P,pcap,rfl,hpc,hpc2,hpm⟩:=hr.open_
 obtain ⟨A',cap',hv,hcf,hcf2,hmf⟩:=Rd1.open_ hf
 have hnl : (natVals L).length = L.length:=by simp [natVals]
 rw [hnl] at hv hcf hmf
 injection hv with e1 _ e2
 subst e1
 subst e2
 have HPM:=hid hpm
 have HMF:=hid hmf
 have HOK:=hid hok
 have HX:=hid hx
 have HL:=hid hL
 clear hpm hmf hr hf hok hL hx hnl
 go_enter Tryz.func189,Tryz.ntmps189
 go_wp2
 go_loopw [7,13] (fun v7 v13 wr => ∃ k : Nat,k ≤ L.length ∧ v13 = .int .i64 (k : Int) ∧ Hid (wr.ownsRow (w.heap.size + 1) 3 1 v7 (goL p b (L.take k)).length (natVals (goL p b (L.take k)))) ∧ Hid (Below w.heap.size w wr) ∧ Hid (w.heap.size + 1 ≤ wr.heap.size)) (fun _ i _ => L.length - (intOf i).toNat)
 case atStart => exact ⟨0,by omega,rfl,hid (World.ownsRow_nil _ _ _ _),hid ((Below.refl _ _).alloc (Nat.le_refl _) _),hid (by simp)⟩
 case round =>
  obtain ⟨k,hk,rfl,HO,HB,HSZ⟩:=hrel
  by_cases hlt : k < L.length
  ·obtain ⟨bf,of,rfl,hbf,hcf'⟩:=HMF.out (by omega)
   have hi : L[k]? = some (L[k]'hlt):=List.getElem?_eq_getElem hlt
   generalize L[k]'hlt = i at hi
   have hin:=HL.out i (List.mem_of_getElem? hi)
   have g0:=hcf' wr (fun o => HB.out.cell (p:=⟨bf,o,none⟩) hbf) k (.int .i64 (i : Int)) (by simp [natVals,hi])
   obtain ⟨pb,po,rfl,hpb,hpcell⟩:=HPM.out (by omega)
   have hs : p[i]? = some (p[i]'hin):=List.getElem?_eq_getElem hin
   generalize p[i]'hin = s at hs
   obtain ⟨_,q1,q2,q3,q4,q5,_⟩:=hpcell wr (fun o => HB.out.cell (p:=⟨pb,o,none⟩) hpb) i s hs
   have hq5 : Hid (∀ w',Below wr.heap.size wr w' → w'.cell? ⟨pb,po + i * 7 + 5,none⟩ = some (.int .i64 s.x)):=hid fun w' h => (hpcell w' (fun o => (HB.out.trans (h.mono HB.out.size)).cell (p:=⟨pb,o,none⟩) hpb) i s hs).2.2.2.2.2.1
   have hsx:=HX.out s (List.mem_of_getElem? hs)
   have hsc:=HOK.out s (List.mem_of_getElem? hs)
   have HSN : Hid (goL p b (L.take (k + 1)) = goL p b (L.take k) ++ (if has s.cls b then [s.x.toNat] else [])):=hid (by rw [take_snoc hi,goL_snoc p b _ i s hs])
   have HLN:=hid (Nat.le_trans (goL_len p b (L.take k)) (by simp;omega : (L.take k).length ≤ 200))
   obtain ⟨op,⟨c0,c1,c2,c3⟩,x,y⟩:=s
   dsimp only at q1 q2 q3 q4 q5 hq5 hsx hsc
   obtain ⟨xn,rfl⟩ : ∃ n : Nat,x = (n : Int):=⟨x.toNat,by omega⟩
   have HH:=hid fun W => Has_any c0 c1 c2 c3 b W hsc hb
   have hk1 : (k : Int) < (L.length : Int):=by omega
   have hi1 : (i : Int) < (p.length : Int):=by omega
   clear hs hi hcf' hpcell hsc
   cases hh : has (c0,c1,c2,c3) b with
   | true =>
     have HHH:=hid hh
     clear hh
     have hgl:=goL_len p b (L.take k)
     have hgl2 : (goL p b (L.take k)).length ≤ 200:=HLN.out
     generalize hgo : goL p b (L.take k) = go at *
     clear hgo hgl
     go_wp2_with (first
      | (go_at_call 140;refine (HH.out _).mono ?_;rw [show HasIs (c0,c1,c2,c3) b wr = fun e w' => e = .returned (.bool true) ∧ Below wr.heap.size wr w' from by unfold HasIs;rw [HHH.out]];rintro e w2 ⟨rfl,hb2⟩;have q5':=hq5.out w2 hb2;have HB2:=hid hb2;have HO2:=hid (own_below HO.out hb2);clear hb2)
      | (at_builtin;refine wpList_append_own _ rfl (.tmp 24) (.tmp 30) _ rfl (w.heap.size + 1) 3 i0 _ 1 8 Tryz.underlying191 hi0 hz0 hz1 hz2 rfl (by omega) _ go.length (natVals go) rfl (HO2.out.alloc _) ⟨w2.heap.size,0,none⟩ 1 1 [.int .i64 (xn : Int)] rfl rfl (new_one _ _ _ _ rfl) (by intro u hu;simp at hu;subst hu;rfl) (by unfold maxLen;omega) (by omega) (by have:=HSZ.out;have:=HB2.out.size;simp;omega) ?_))
     intro v' w' hown' hg' _
     have hbw : Below w.heap.size w (w2.alloc (.cells #[.int .i64 (xn : Int)] 3)):=(HB.out.trans (HB2.out.mono HB.out.size)).alloc (Nat.le_trans HB.out.size HB2.out.size) _
     have HBN:=hid (below_own hbw (Nat.le_succ _) (by have:=HB.out.size;have:=HB2.out.size;simp;omega) (HO2.out.alloc _) hg')
     have hsx2 : goL p b (L.take (k + 1)) = go ++ [xn]:=by rw [HSN.out];simp [HHH.out]
     have HON : Hid (w'.ownsRow (w.heap.size + 1) 3 1 v' (goL p b (L.take (k + 1))).length (natVals (goL p b (L.take (k + 1))))):=hid (by rw [hsx2,natVals_snoc'];simpa using hown')
     have HSZN : Hid (w.heap.size + 1 ≤ w'.heap.size):=hid (by have:=HSZ.out;have:=HB2.out.size;have:=hg'.size;simp at this;omega)
     clear hown' hg' hbw hsx2
     go_wp2
     go_roundw
     case rel => exact ⟨k + 1,by omega,by go_num,HON,HBN,HSZN⟩
     case measure => simp [intOf];omega
   | false =>
     have HHH:=hid hh
     clear hh
     go_wp2_with (go_at_call 140;refine (HH.out _).mono ?_;rw [show HasIs (c0,c1,c2,c3) b wr = fun e w' => e = .returned (.bool false) ∧ Below wr.heap.size wr w' from by unfold HasIs;rw [HHH.out]];rintro e w2 ⟨rfl,hb2⟩;have HB2:=hid hb2;clear hb2)
     have HE : Hid (goL p b (L.take (k + 1)) = goL p b (L.take k)):=hid (by rw [HSN.out];simp [HHH.out])
     go_roundw
     case rel =>
      refine ⟨k + 1,by omega,by go_num,?_,hid (HB.out.trans (HB2.out.mono HB.out.size)),hid (Nat.le_trans HSZ.out HB2.out.size)⟩
      rw [HE.out]
      exact hid (own_below HO.out HB2.out)
     case measure => simp [intOf];omega
  ·obtain rfl : k = L.length:=by omega
   have HO2 : Hid (wr.ownsRow (w.heap.size + 1) 3 1 u7 (goL p b L).length (natVals (goL p b L))):=hid (by have:=HO.out;rw [List.take_length] at this;exact this)
   have hrd:=HO2.out
   obtain ⟨VA,vn,vcap,rfl,_,_,hvl,_⟩:=Rd.of_own hrd
   obtain rfl : vn = (goL p b L).length:=by simp [natVals] at hvl;omega
   have HRD:=hid hrd
   clear hrd hvl HO HO2
   generalize hgl : goL p b L = gl at *
   go_wp2
   go_ret
   refine ⟨VA,vcap,?_,?_,HB.out⟩
   ·rw [hgl];rfl
   ·rw [hgl];exact HRD.out
end Go.Proofs.YthhcpbfgoofppaaGreatDoor
namespace Go.Proofs.YthhcpbfgoofppaaGreatDoor
open Go.RowKit Go.Shelf Wf
attribute [local go_sem] Oper.semAt_some
def ownOf (B : Nat) (w : World) : Option Nat:=match w.cell? ⟨B,0,none⟩ with
 | some v => v.ownBlock
 | none => none
structure Kp (B : Nat) (w w' : World) : Prop where
 os : w'.os = w.os
 tape : w'.tape = w.tape
 output : w'.output = w.output
 size : w.heap.size ≤ w'.heap.size
 kept : ∀ k cs t fr,w.heap[k]? = some (.cells cs t fr) → k ≠ B → ownOf B w ≠ some k → w'.heap[k]? = some (.cells cs t fr)
 own : ∀ g,ownOf B w' = some g → ownOf B w = some g ∨ (w.heap.size ≤ g ∧ g < w'.heap.size)
theorem Kp.refl (B : Nat) (w : World) : Kp B w w:=⟨rfl,rfl,rfl,Nat.le_refl _,fun _ _ _ _ h _ _ => h,fun _ h => .inl h⟩
theorem Kp.trans {B : Nat} {a b c : World} (h : Kp B a b) (k : Kp B b c) : Kp B a c:=by
 refine ⟨k.os.trans h.os,k.tape.trans h.tape,k.output.trans h.output,Nat.le_trans h.size k.size,fun j cs t fr hj hB ho => ?_,fun g hg => ?_⟩
 ·have hb:=h.kept j cs t fr hj hB ho
  refine k.kept j cs t fr hb hB (fun e => ?_)
  rcases h.own j e with e' | ⟨e',_⟩
  ·exact ho e'
  ·have:=(Array.getElem?_eq_some_iff.1 hj).1;omega
 ·rcases k.own g hg with e | ⟨e1,e2⟩
  ·rcases h.own g e with e' | ⟨e1',e2'⟩
   ·exact .inl e'
   ·exact .inr ⟨e1',by have:=k.size;omega⟩
  ·exact .inr ⟨by have:=h.size;omega,e2⟩
theorem ownOf_eq {B : Nat} {w w' : World} (h : w'.heap[B]? = w.heap[B]?) : ownOf B w' = ownOf B w:=by
 unfold ownOf
 rw [World.cell?_of_block (a:=⟨B,0,none⟩) h]
theorem Kp.below {B : Nat} {w w' : World} (hB : B < w.heap.size) (h : Below w.heap.size w w') : Kp B w w' :=
 ⟨h.os,h.tape,h.output,h.size,fun k cs t fr hk _ _ => (h.block k (Array.getElem?_eq_some_iff.1 hk).1).trans hk,fun g hg => .inl (by rw [← ownOf_eq (h.block B hB)];exact hg)⟩
theorem Kp.blk {B : Nat} {w w' : World} {k : Nat} {t : TypeId} {cs : Array Value} (h : Kp B w w') (hb : Blk w k t cs) (hB : k ≠ B) (ho : ownOf B w ≠ some k) : Blk w' k t cs:=h.kept k _ _ _ hb hB ho
theorem Kp.cell {B : Nat} {w w' : World} (h : Kp B w w') (ho : ownOf B w = none) {k o : Nat} {u : Value} (hc : w.cell? ⟨k,o,none⟩ = some u) (hk : k ≠ B) : w'.cell? ⟨k,o,none⟩ = some u:=by
 unfold World.cell? at hc ⊢
 dsimp only at hc ⊢
 cases hh : w.heap[k]? with
 | none => rw [hh] at hc;simp at hc
 | some ob =>
   rw [hh] at hc
   cases ob with
   | cells cs t fr =>
     rw [h.kept k cs t fr hh hk (by rw [ho];simp)]
     exact hc
   | _ => simp at hc
theorem front_lt {p : List St} (hp : okP p) {f l : Bool} {fs L : List Nat} {d : Bool} (h : Front p f l fs L d) : L.length ≤ 200 ∧ ∀ j ∈ L,j < p.length:=by
 have hl : ∀ j ∈ L,j < p.length:=fun j hj => by
  obtain ⟨_,s,hs,_⟩:=(h.takes j).1 hj
  exact (List.getElem?_eq_some_iff.1 hs).1
 refine ⟨?_,hl⟩
 have:=List.Nodup.length_le_of_subset h.nodup (l₂:=List.range p.length) (fun j hj => by simpa using hl j hj)
 have h2:=hp.2.1
 simp at this
 omega
theorem op_x0 {p : List St} (hp : okP p) (s : St) (h : s ∈ p) : 0 ≤ s.x:=by
 have h1:=oneP_zero (hp.2.2 s h)
 by_cases h5 : s.op = 5
 ·rw [h1.2.2.2.2.2 h5];exact Int.le_refl _
 ·exact (h1.2.1 h5).1
theorem int_beq (i n : Nat) : ((i : Int) == (n : Int)) = (i == n):=by
 by_cases h : i = n
 ·subst h;simp
 ·have h1 : (i == n) = false:=by simpa using h
  have h2 : ((i : Int) == (n : Int)) = false:=by simp;omega
  rw [h1,h2]
end Go.Proofs.YthhcpbfgoofppaaGreatDoor
