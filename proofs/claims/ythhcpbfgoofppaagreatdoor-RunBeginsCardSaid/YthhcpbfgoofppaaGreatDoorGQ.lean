/-
  Ints, Rg.
-/
import Derived.Test.YthhcpbfgoofppaaGreatDoorGRex
import Derived.Test.YthhcpbfgoofppaaGreatDoorMap
import Derived.Maps.RangeWalk
set_option linter.unusedVariables false
set_option linter.unusedSimpArgs false
namespace Go.Proofs.YthhcpbfgoofppaaGreatDoor
open Go.RowKit Wf
def intVals (xs : List Int) : List Value:=xs.map (Value.int .i64)
theorem intVals_len (xs : List Int) : (intVals xs).length = xs.length:=by simp [intVals]
theorem intVals_get {xs : List Int} {k : Nat} {x : Int} (h : xs[k]? = some x) : (intVals xs)[k]? = some (.int .i64 x):=by simp [intVals,h]
def toInts (xs : List Nat) : List Int:=xs.map fun (n : Nat) => (n : Int)
theorem natVals_ints (xs : List Nat) : natVals xs = intVals (toInts xs):=by simp [natVals,intVals,toInts]
theorem toInts_len (xs : List Nat) : (toInts xs).length = xs.length:=by simp [toInts]
theorem toInts_get {xs : List Nat} {k : Nat} : (toInts xs)[k]? = xs[k]?.map fun (n : Nat) => (n : Int):=by simp [toInts]
def RdI (w : World) (v : Value) (xs : List Int) : Prop:=Rd1 w v (intVals xs)
theorem RdI.below {w w' : World} {v : Value} {xs : List Int} (h : RdI w v xs) (hb : Below w.heap.size w w') : RdI w' v xs:=Rd.below h hb
theorem RdI.nil (w : World) : RdI w (.slice none 0 0) []:=Rd.nil w 1
theorem RdI.open_ {w : World} {v : Value} {xs : List Int} (h : RdI w v xs) : ∃ (A : Option Addr) (cap : Nat),v = .slice A xs.length cap ∧ xs.length ≤ cap ∧ cap ≤ 9223372036854775807 ∧
 (0 < xs.length → ∃ b off,A = some ⟨b,off,none⟩ ∧ b < w.heap.size ∧ ∀ (w' : World),(∀ o,w'.cell? ⟨b,o,none⟩ = w.cell? ⟨b,o,none⟩) → ∀ k u,xs[k]? = some u → w'.cell? ⟨b,off + k,none⟩ = some (.int .i64 u)):=by
 obtain ⟨A,cap,hv,h1,h2,h3⟩:=Rd1.open_ h
 rw [intVals_len] at hv h1 h3
 refine ⟨A,cap,hv,h1,h2,fun hn => ?_⟩
 obtain ⟨b,off,ha,hb,hc⟩:=h3 hn
 exact ⟨b,off,ha,hb,fun w' hw k u hu => hc w' hw k _ (intVals_get hu)⟩
end Go.Proofs.YthhcpbfgoofppaaGreatDoor
namespace Go.Proofs.YthhcpbfgoofppaaGreatDoor
open Go.RowKit Wf
open Go.ChangeMaps (setBlock)
section
variable {α : Type} {P : Program} {kt et t : TypeId} {mk : α → Value} {w w' : World} {m r cnt : Nat} {l : List (α × Value)} {left : α → Prop}
def Rg (w : World) (m r : Nat) (mk : α → Value) (l : List (α × Value)) (left : α → Prop) (cnt : Nat) : Prop :=
 ∃ es clock since seen c0,w.heap[m]? = some (.map es clock) ∧ es.toList.map (fun e => (e.key,e.val)) = l.map (pairOf mk) ∧ (l.map (·.1)).Nodup ∧ (es.toList.map (·.born)).Nodup ∧ (∀ e ∈ es.toList,e.born < since) ∧
  w.heap[r]? = some (.mapIter (some m) since seen c0) ∧ since ≤ c0 ∧ since ≤ clock ∧ (leftOf es seen).size = cnt ∧
  ∀ (i : Nat) (e : MapEntry) (p : α × Value),es.toList[i]? = some e → l[i]? = some p → (left p.1 ↔ seen.contains e.born = false)
theorem Rg.left_eq (h : Rg w m r mk l left cnt) : w.rangeLeft m r = cnt:=by
 obtain ⟨es,clock,since,seen,c0,hb,_,_,_,_,hr,_,_,hc,_⟩:=h
 simp only [World.rangeLeft,hb,hr]
 exact hc
theorem Rg.lt (h : Rg w m r mk l left cnt) : r < w.heap.size ∧ m < w.heap.size:=by
 obtain ⟨es,clock,since,seen,c0,hb,_,_,_,_,hr,_⟩:=h
 exact ⟨(Array.getElem?_eq_some_iff.1 hr).1,(Array.getElem?_eq_some_iff.1 hb).1⟩
theorem Rg.kept {row : Option Nat} (h : Rg w m r mk l left cnt) (hg : w.grownBy w' row) (hm : some m ≠ row) (hr' : some r ≠ row) : Rg w' m r mk l left cnt:=by
 obtain ⟨h1,h2⟩:=h.lt
 obtain ⟨es,clock,since,seen,c0,hb,q1,q2,q3,q4,hr,rest⟩:=h
 exact ⟨es,clock,since,seen,c0,(hg.block m h2 hm).trans hb,q1,q2,q3,q4,(hg.block r h1 hr').trans hr,rest⟩
theorem Rg.below (h : Rg w m r mk l left cnt) (hb : Below w.heap.size w w') : Rg w' m r mk l left cnt :=
 h.kept (row:=none) ⟨hb.os,hb.tape,hb.output,hb.size,fun i hi _ => hb.block i hi⟩ (by simp) (by simp)
theorem Rg.iter (h : Rg w m r mk l left cnt) : ∃ since seen c0,w.heap[r]? = some (.mapIter (some m) since seen c0):=by
 obtain ⟨es,clock,since,seen,c0,hb,q1,q2,q3,q4,hr,rest⟩:=h
 exact ⟨since,seen,c0,hr⟩
theorem pair_at {es : List MapEntry} {l : List (α × Value)} (h : es.map (fun e => (e.key,e.val)) = l.map (pairOf mk)) {i : Nat} {e : MapEntry} (he : es[i]? = some e) : ∃ p,l[i]? = some p ∧ e.key = mk p.1 ∧ e.val = p.2:=by
 have:=congrArg (fun x : List (Value × Value) => x[i]?) h
 simp only [List.getElem?_map,he,Option.map_some] at this
 cases hl : l[i]? with
 | none => rw [hl] at this;cases this
 | some p =>
   rw [hl] at this
   simp only [Option.map_some,pairOf,Option.some.injEq,Prod.mk.injEq] at this
   exact ⟨p,rfl,this.1,this.2⟩
theorem entry_at' {es : List MapEntry} {l : List (α × Value)} (h : es.map (fun e => (e.key,e.val)) = l.map (pairOf mk)) {i : Nat} {p : α × Value} (hp : l[i]? = some p) : ∃ e,es[i]? = some e ∧ e.key = mk p.1 ∧ e.val = p.2:=by
 have hlen : es.length = l.length:=by have:=congrArg List.length h;simpa using this
 have hi : i < es.length:=by rw [hlen];exact (List.getElem?_eq_some_iff.1 hp).1
 obtain ⟨q,hq,h1,h2⟩:=pair_at h (List.getElem?_eq_getElem hi)
 rw [hp] at hq
 cases hq
 exact ⟨_,List.getElem?_eq_getElem hi,h1,h2⟩
theorem Mp.range (h : Mp w m mk l) (ht : P.underlying t = some (.map kt et)) :
 ∃ w',(Instr.range t (.map (some m))).run P w = .ok (.pointer (some ⟨w.heap.size,0,none⟩)) w' ∧ Rg w' m w.heap.size mk l (fun _ => True) l.length ∧ Below w.heap.size w w' ∧ w'.heap.size = w.heap.size + 1:=by
 have hlt:=h.lt
 obtain ⟨es,clock,hb,he,hn,hbn,hbl⟩:=h
 have hlen : es.size = l.length:=by have:=congrArg List.length he;simpa using this
 refine ⟨_,run_range_map w t kt et m es clock ht hb,⟨es,clock,clock,#[],clock,((MapKept.heap_alloc w _).2 m hlt).trans hb,he,hn,hbn,hbl,(MapKept.heap_alloc w _).1,Nat.le_refl _,Nat.le_refl _,?_,?_⟩,(Below.refl _ _).alloc (Nat.le_refl _) _,by simp⟩
 ·have e : leftOf es #[] = es:=by unfold leftOf;exact Array.filter_eq_self.2 (by simp)
  rw [e];exact hlen
 ·intro i e p _ _
  simp
theorem born_idx {es : List MapEntry} (hn : (es.map (·.born)).Nodup) {i j : Nat} {a b : MapEntry} (ha : es[i]? = some a) (hb : es[j]? = some b) (h : a.born = b.born) : i = j:=by
 have h1 : (es.map (·.born))[i]? = some a.born:=by rw [List.getElem?_map,ha];rfl
 have h2 : (es.map (·.born))[j]? = some a.born:=by rw [List.getElem?_map,hb,h];rfl
 exact (List.getElem?_inj (List.getElem?_eq_some_iff.1 h1).1 hn).1 (h1.trans h2.symm)
theorem Rg.next (h : Rg w m r mk l left cnt) (ty : TypeId) :
 (cnt = 0 ∧ (∀ p ∈ l,¬ left p.1) ∧ (Instr.next (.pointer (some ⟨r,0,none⟩)) false ty).run P w = .ok (.tuple #[.bool false]) w) ∨
 ∃ p w' cnt',p ∈ l ∧ left p.1 ∧ (Instr.next (.pointer (some ⟨r,0,none⟩)) false ty).run P w = .ok (.tuple #[.bool true,mk p.1,p.2]) w' ∧
  Rg w' m r mk l (fun a => left a ∧ a ≠ p.1) cnt' ∧ cnt' < cnt ∧ w.grownBy w' (some r) ∧ w'.heap.size = w.heap.size ∧ (Instr.entry (.pointer (some ⟨r,0,none⟩))).run P w' = .ok (.tuple #[mk p.1,p.2]) w':=by
 obtain ⟨es,clock,since,seen,c0,hb,he,hn,hbn,hold,hr,hsc,hsk,rfl,hl⟩:=h
 have hne : r ≠ m:=by
  rintro rfl
  rw [hb] at hr
  cases hr
 rcases run_next_at (P:=P) w ty r m since c0 seen es clock hr hb hold hsc with ⟨h0,hrun⟩ | ⟨e,hel,w1,hal,hrun⟩
 ·refine .inl ⟨h0,fun p hp => ?_,hrun⟩
  obtain ⟨i,hi⟩:=List.mem_iff_getElem?.1 hp
  obtain ⟨e,hei,_⟩:=entry_at' he hi
  rw [hl i e p hei hi]
  have hem : e ∈ es:=by have:=List.mem_of_getElem? hei;simpa using this
  intro hc
  have : e ∈ leftOf es seen:=by unfold leftOf;rw [Array.mem_filter];exact ⟨hem,by rw [hc];rfl⟩
  rw [Array.eq_empty_of_size_eq_zero h0] at this
  simp at this
 ·right
  have hel' : e ∈ leftOf es seen:=by simpa using hel
  have hel2:=hel'
  unfold leftOf at hel2
  rw [Array.mem_filter] at hel2
  obtain ⟨hem,hns⟩:=hel2
  have heml : e ∈ es.toList:=by simpa using hem
  obtain ⟨i,hi⟩:=List.mem_iff_getElem?.1 heml
  obtain ⟨p,hp,hk,hv⟩:=pair_at he hi
  have hr1 : r < w1.heap.size:=by rcases hal with rfl | rfl <;> exact (Array.getElem?_eq_some_iff.1 hr).1
  have hh : w1.heap = w.heap:=by rcases hal with rfl | rfl <;> rfl
  have hbm : (setBlock w1 r (.mapIter (some m) since (seen.push e.born) clock)).heap[m]? = some (.map es clock):=by
   show (w1.heap.setIfInBounds r _)[m]? = _
   rw [Array.getElem?_setIfInBounds,if_neg hne,hh,hb]
  have hbr : (setBlock w1 r (.mapIter (some m) since (seen.push e.born) clock)).heap[r]? = some (.mapIter (some m) since (seen.push e.born) clock):=by
   show (w1.heap.setIfInBounds r _)[r]? = _
   rw [Array.getElem?_setIfInBounds,if_pos rfl,if_pos hr1]
  refine ⟨p,_,(leftOf es (seen.push e.born)).size,List.mem_of_getElem? hp,?_,by rw [hk,hv] at hrun;exact hrun,⟨es,clock,since,seen.push e.born,clock,hbm,he,hn,hbn,hold,hbr,hsk,hsk,rfl,?_⟩,?_,?_,?_,?_⟩
  ·rw [hl i e p hi hp]
   simpa using hns
  ·intro j e' p' hj hp'
   show (left p'.1 ∧ p'.1 ≠ p.1) ↔ _
   rw [hl j e' p' hj hp']
   have hiff : p'.1 ≠ p.1 ↔ e'.born ≠ e.born:=by
    constructor
    ·intro h1 h2
     obtain rfl:=born_idx hbn hj hi h2
     rw [hp] at hp'
     cases hp'
     exact h1 rfl
    ·intro h1 h2
     have x1 : (l.map (·.1))[j]? = some p'.1:=by rw [List.getElem?_map,hp'];rfl
     have x2 : (l.map (·.1))[i]? = some p'.1:=by rw [List.getElem?_map,hp,h2];rfl
     obtain rfl:=(List.getElem?_inj (List.getElem?_eq_some_iff.1 x1).1 hn).1 (x1.trans x2.symm)
     rw [hi] at hj
     cases hj
     exact h1 rfl
   rw [hiff]
   simp
  ·unfold leftOf
   have hs : (es.filter fun x => !(seen.push e.born).contains x.born) = (es.filter fun x => !seen.contains x.born).filter fun x => !(x.born == e.born):=by
    rw [Array.filter_filter]
    congr 1
    funext x
    rw [Array.contains_push,Bool.not_or,Bool.and_comm]
   rw [hs]
   have hm2 : e ∈ (es.filter fun x => !seen.contains x.born).toList:=by simpa [leftOf] using hel
   generalize (es.filter fun x => !seen.contains x.born) = B at hm2 ⊢
   rw [Array.size_filter_lt_size_iff_exists]
   exact ⟨e,by simpa using hm2,by simp⟩
  ·refine ⟨?_,?_,?_,?_,fun k hk hn' => ?_⟩
   ·rcases hal with rfl | rfl <;> rfl
   ·rcases hal with rfl | rfl <;> rfl
   ·rcases hal with rfl | rfl <;> rfl
   ·show w.heap.size ≤ (w1.heap.setIfInBounds r _).size
    rw [hh];simp
   ·show (w1.heap.setIfInBounds r _)[k]? = _
    rw [Array.getElem?_setIfInBounds,if_neg (fun e => hn' (by rw [e])),hh]
  ·show (w1.heap.setIfInBounds r _).size = _
   rw [hh];simp
  ·have:=run_entry_at (P:=P) _ r m since seen es clock e hbr hbm heml hbn
   rw [hk,hv] at this
   exact this
end
section
variable {α : Type} {P : Program} (w : World) {ops : Array Oper} {rest : List Oper} {o : Oper} {a : Act} {Q : Exit → Act → World → Prop}
theorem wpList_range_mp (hg : o.guard = none) (x : Operand) (t : TypeId) (hop : o.op = Op.range t x) (k e : TypeId) (ht : P.underlying t = some (.map k e)) (mk : α → Value) (l : List (α × Value)) (m : Nat)
 (hm : a.eval x = .map (some m)) (h : Mp w m mk l)
 (hK : ∀ w',Rg w' m w.heap.size mk l (fun _ => True) l.length → Below w.heap.size w w' → w'.heap.size = w.heap.size + 1 → wpList P ops Q rest (a.put o.dst (.pointer (some ⟨w.heap.size,0,none⟩))) w') :
 wpList P ops Q (o :: rest) a w:=by
 refine wpList_plain hg fun K' hK' => ?_
 obtain ⟨w',hrun,r1,r2,r3⟩:=h.range ht
 unfold Oper.wp
 simp [execOp,hop,hm,hrun,Result.andThen]
 exact hK' _ _ (hK w' r1 r2 r3)
theorem wpList_next_mp (hg : o.guard = none) (it : Operand) (hop : o.op = Op.next it false) (mk : α → Value) (l : List (α × Value)) (m r cnt : Nat) (left : α → Prop)
 (hit : a.eval it = .pointer (some ⟨r,0,none⟩)) (h : Rg w m r mk l left cnt)
 (hDone : cnt = 0 → (∀ p ∈ l,¬ left p.1) → wpList P ops Q rest (a.put o.dst (.tuple #[.bool false])) w)
 (hMore : ∀ (p : α × Value) (w' : World) (cnt' : Nat),p ∈ l → left p.1 → Rg w' m r mk l (fun a => left a ∧ a ≠ p.1) cnt' → cnt' < cnt → w.grownBy w' (some r) → w'.heap.size = w.heap.size →
   (Instr.entry (.pointer (some ⟨r,0,none⟩))).run P w' = .ok (.tuple #[mk p.1,p.2]) w' → wpList P ops Q rest (a.put o.dst (.tuple #[.bool true,mk p.1,p.2])) w') :
 wpList P ops Q (o :: rest) a w:=by
 refine wpList_plain hg fun K' hK' => ?_
 unfold Oper.wp
 rcases h.next (P:=P) o.type with ⟨h0,hl,hrun⟩ | ⟨p,w',cnt',hp,hlp,hrun,hrg,hlt,hgr,hsz,hen⟩
 ·simp [execOp,hop,hit,hrun,Result.andThen]
  exact hK' _ _ (hDone h0 hl)
 ·simp [execOp,hop,hit,hrun,Result.andThen]
  exact hK' _ _ (hMore p w' cnt' hp hlp hrg hlt hgr hsz hen)
end
end Go.Proofs.YthhcpbfgoofppaaGreatDoor
