/-
  Maps whose keys are told apart at once (strings, bytes), as rows of pairs: looked up, written, emptied.
-/
import Derived.Test.YthhcpbfgoofppaaGreatDoorSpot
import Derived.MapKept
set_option linter.unusedVariables false
set_option linter.unusedSimpArgs false
namespace Go.Proofs.YthhcpbfgoofppaaGreatDoor
open Go.RowKit Wf
section
variable {α : Type}
def getL [DecidableEq α] : List (α × Value) → α → Option Value
 | [],_ => none
 | p :: r,a => if a = p.1 then some p.2 else getL r a
def putL [DecidableEq α] : List (α × Value) → α → Value → List (α × Value)
 | [],a,v => [(a,v)]
 | p :: r,a,v => if a = p.1 then (a,v) :: r else p :: putL r a v
theorem getL_put [DecidableEq α] (l : List (α × Value)) (a b : α) (v : Value) : getL (putL l a v) b = if b = a then some v else getL l b:=by
 induction l with
 | nil => simp [putL,getL]
 | cons p r ih =>
   simp only [putL]
   by_cases e : a = p.1
   ·rw [if_pos e]
    simp only [getL]
    by_cases e2 : b = a
    ·rw [if_pos e2,if_pos e2]
    ·rw [if_neg e2,if_neg e2,if_neg (fun h => e2 (by rw [h,e]))]
   ·rw [if_neg e]
    simp only [getL,ih]
    by_cases e2 : b = p.1
    ·rw [if_pos e2,if_pos e2]
     rw [if_neg (fun h => e (by rw [← h,e2]))]
    ·rw [if_neg e2,if_neg e2]
theorem mem_get [DecidableEq α] {l : List (α × Value)} {a : α} {v : Value} (h : getL l a = some v) : (a,v) ∈ l:=by
 induction l with
 | nil => simp [getL] at h
 | cons p r ih =>
   simp only [getL] at h
   split at h
   ·rename_i e;cases h;rw [e];simp
   ·exact List.mem_cons_of_mem _ (ih h)
theorem get_mem [DecidableEq α] {l : List (α × Value)} (hn : (l.map (·.1)).Nodup) {a : α} {v : Value} (h : (a,v) ∈ l) : getL l a = some v:=by
 induction l with
 | nil => cases h
 | cons p r ih =>
   simp only [List.map_cons,List.nodup_cons] at hn
   simp only [getL]
   rcases List.mem_cons.1 h with e | h
   ·rw [← e];simp
   ·rw [if_neg (fun e => hn.1 (by rw [← e];exact List.mem_map_of_mem (f:=(·.1)) h)),ih hn.2 h]
theorem put_key [DecidableEq α] {l : List (α × Value)} {a x : α} {v : Value} : x ∈ (putL l a v).map (·.1) ↔ x = a ∨ x ∈ l.map (·.1):=by
 induction l with
 | nil => simp [putL]
 | cons q r ih =>
   simp only [putL]
   split
   ·rename_i e;simp only [List.map_cons,List.mem_cons];rw [e];simp
   ·simp only [List.map_cons,List.mem_cons,ih]
    constructor
    ·rintro (h | h | h)
     ·exact .inr (.inl h)
     ·exact .inl h
     ·exact .inr (.inr h)
    ·rintro (h | h | h)
     ·exact .inr (.inl h)
     ·exact .inl h
     ·exact .inr (.inr h)
theorem put_nodup [DecidableEq α] {l : List (α × Value)} (hn : (l.map (·.1)).Nodup) (a : α) (v : Value) : ((putL l a v).map (·.1)).Nodup:=by
 induction l with
 | nil => simp [putL]
 | cons q r ih =>
   simp only [List.map_cons,List.nodup_cons] at hn
   simp only [putL]
   split
   ·rename_i e;simp only [List.map_cons,List.nodup_cons];rw [e];exact hn
   ·rename_i e
    simp only [List.map_cons,List.nodup_cons]
    refine ⟨fun h => ?_,ih hn.2⟩
    rcases put_key.1 h with h | h
    ·exact e h.symm
    ·exact hn.1 h
theorem put_len [DecidableEq α] (l : List (α × Value)) (a : α) (v : Value) : (putL l a v).length = if getL l a = none then l.length + 1 else l.length:=by
 induction l with
 | nil => simp [putL,getL]
 | cons q r ih =>
   simp only [putL,getL]
   split
   ·simp
   ·simp only [List.length_cons,ih];split <;> rfl
structure KeyK [DecidableEq α] (P : Program) (kt : TypeId) (mk : α → Value) : Prop where
 desc : ∃ d,P.underlying kt = some d ∧ ∀ a b,Instr.sameNow d (mk a) (mk b) = some (decide (a = b))
 chk : ∀ em w a,(Instr.checkKey em 10000 kt (mk a)).run P w = .ok () w
 bits : ∀ a,Instr.sameBits 10000 (mk a) (mk a) = true
def pairOf (mk : α → Value) (p : α × Value) : Value × Value:=(mk p.1,p.2)
def Mp (w : World) (r : Nat) (mk : α → Value) (l : List (α × Value)) : Prop :=
 ∃ es clock,w.heap[r]? = some (.map es clock) ∧ es.toList.map (fun e => (e.key,e.val)) = l.map (pairOf mk) ∧ (l.map (·.1)).Nodup ∧ (es.toList.map (·.born)).Nodup ∧ ∀ e ∈ es.toList,e.born < clock
variable {P : Program} {kt : TypeId} {mk : α → Value} {w w' : World} {r : Nat} {l : List (α × Value)}
theorem Mp.lt (h : Mp w r mk l) : r < w.heap.size:=by
 obtain ⟨es,clock,hb,_⟩:=h
 exact (Array.getElem?_eq_some_iff.1 hb).1
theorem Mp.nodup (h : Mp w r mk l) : (l.map (·.1)).Nodup:=by
 obtain ⟨_,_,_,_,hn,_⟩:=h
 exact hn
theorem Mp.kept {row : Option Nat} (h : Mp w r mk l) (hg : w.grownBy w' row) (hne : some r ≠ row) : Mp w' r mk l:=by
 have hlt:=h.lt
 obtain ⟨es,clock,hb,hr⟩:=h
 exact ⟨es,clock,(hg.block r hlt hne).trans hb,hr⟩
theorem Mp.below (h : Mp w r mk l) (hb : Below w.heap.size w w') : Mp w' r mk l:=h.kept (row:=none) ⟨hb.os,hb.tape,hb.output,hb.size,fun i hi _ => hb.block i hi⟩ (by simp)
theorem Mp.new (w : World) (mk : α → Value) : Mp (w.alloc (.map #[] 0)) w.heap.size mk [] :=
 ⟨#[],0,heap_alloc_new w _,by simp,by simp,by simp,by simp⟩
theorem findNow_get [DecidableEq α] {d : TypeDesc} (hd : ∀ a b,Instr.sameNow d (mk a) (mk b) = some (decide (a = b))) (a : α) : ∀ (es : List MapEntry) (l : List (α × Value)) (i : Nat),es.map (fun e => (e.key,e.val)) = l.map (pairOf mk) →
 (getL l a = none → Instr.findNow d (mk a) es i = some none) ∧
 ∀ v,getL l a = some v → ∃ j e,es[j]? = some e ∧ e.key = mk a ∧ Instr.findNow d (mk a) es i = some (some (i + j,v)) ∧
  ∀ u,(es.modify j fun e => { e with key:=mk a,val:=u }).map (fun e => (e.key,e.val)) = (putL l a u).map (pairOf mk) ∧ (es.modify j fun e => { e with key:=mk a,val:=u }).map (·.born) = es.map (·.born):=by
 intro es
 induction es with
 | nil =>
   intro l i h
   cases l with
   | nil => exact ⟨fun _ => rfl,fun v hv => by simp [getL] at hv⟩
   | cons p r => simp at h
 | cons e es ih =>
   intro l i h
   cases l with
   | nil => simp at h
   | cons p r =>
     simp only [List.map_cons,List.cons.injEq,pairOf,Prod.mk.injEq] at h
     obtain ⟨⟨hk,hv0⟩,hr⟩:=h
     obtain ⟨i1,i2⟩:=ih r (i + 1) hr
     by_cases ea : a = p.1
     ·constructor
      ·intro hg;simp [getL,ea] at hg
      ·intro v hv
       simp [getL,ea] at hv
       refine ⟨0,e,rfl,by rw [hk,ea],?_,fun u => ?_⟩
       ·simp [Instr.findNow,hk,hd,ea,hv0,hv]
       ·simp [putL,ea,pairOf,hr]
     ·constructor
      ·intro hg
       simp [getL,ea] at hg
       simp [Instr.findNow,hk,hd,ea,i1 hg]
      ·intro v hv
       simp [getL,ea] at hv
       obtain ⟨j,e',h1,h2,h3,h4⟩:=i2 v hv
       refine ⟨j + 1,e',by simpa using h1,h2,?_,fun u => ?_⟩
       ·simp [Instr.findNow,hk,hd,ea,h3];omega
       ·obtain ⟨g1,g2⟩:=h4 u
        simp [putL,ea,pairOf,hk,hv0,g1,g2]
theorem Mp.find [DecidableEq α] (K : KeyK P kt mk) {es : Array MapEntry} (he : es.toList.map (fun e => (e.key,e.val)) = l.map (pairOf mk)) (a : α) (w : World) :
 (getL l a = none ∧ (Instr.findKey kt (mk a) es.toList).run P w = .ok none w) ∨
 ∃ v j e,getL l a = some v ∧ es.toList[j]? = some e ∧ e.key = mk a ∧ (Instr.findKey kt (mk a) es.toList).run P w = .ok (some (j,v)) w ∧
  ∀ u,(es.modify j fun e => { e with key:=mk a,val:=u }).toList.map (fun e => (e.key,e.val)) = (putL l a u).map (pairOf mk) ∧ (es.modify j fun e => { e with key:=mk a,val:=u }).toList.map (·.born) = es.toList.map (·.born):=by
 obtain ⟨d,hu,hd⟩:=K.desc
 obtain ⟨h1,h2⟩:=findNow_get hd a es.toList l 0 he
 cases hg : getL l a with
 | none =>
   refine .inl ⟨rfl,?_⟩
   unfold Instr.findKey
   simp only [Sem.run_bind,run_underlying hu,Result.andThen_ok,h1 hg,Sem.run_pure]
 | some v =>
   obtain ⟨j,e,q1,q2,q3,q4⟩:=h2 v hg
   refine .inr ⟨v,j,e,rfl,q1,q2,?_,fun u => by rw [Array.toList_modify];exact q4 u⟩
   unfold Instr.findKey
   simp only [Sem.run_bind,run_underlying hu,Result.andThen_ok,q3,Sem.run_pure,Nat.zero_add]
variable {t et : TypeId}
theorem Mp.look_some [DecidableEq α] (h : Mp w r mk l) (K : KeyK P kt mk) (ht : P.underlying t = some (.map kt et)) {a : α} {v : Value} (hg : getL l a = some v) (ok : Bool) :
 (Instr.lookup t (.map (some r)) (mk a) ok).run P w = .ok (if ok then .tuple #[v,.bool true] else v) w:=by
 obtain ⟨es,clock,hb,he,_⟩:=h
 rcases Mp.find K he a w with ⟨h1,h2⟩ | ⟨v',j,e,h1,h2,h3,h4,_⟩
 ·rw [h1] at hg;cases hg
 ·rw [h1] at hg
  cases hg
  unfold Instr.lookup
  simp only [Sem.run_bind,run_underlying ht,Result.andThen_ok,run_getObj_map hb,Sem.run_pure,K.chk,h4]
theorem Mp.look_none [DecidableEq α] (h : Mp w r mk l) (K : KeyK P kt mk) (ht : P.underlying t = some (.map kt et)) {a : α} {z : Value} (hz : (zeroValue et).run P w = .ok z w) (hg : getL l a = none) (ok : Bool) :
 (Instr.lookup t (.map (some r)) (mk a) ok).run P w = .ok (if ok then .tuple #[z,.bool false] else z) w:=by
 obtain ⟨es,clock,hb,he,_⟩:=h
 rcases Mp.find K he a w with ⟨h1,h2⟩ | ⟨v',j,e,h1,h2,h3,h4,_⟩
 ·unfold Instr.lookup
  simp only [Sem.run_bind,run_underlying ht,Result.andThen_ok,run_getObj_map hb,Sem.run_pure,K.chk,h2,hz]
 ·rw [h1] at hg;cases hg
theorem setMap_grown (w : World) (r : Nat) (es : Array MapEntry) (clock : Nat) : w.grownBy (setMap w r es clock) (some r) :=
 ⟨rfl,rfl,rfl,by simp [setMap],fun k _ hne => by
   show (w.heap.setIfInBounds r (.map es clock))[k]? = _
   rw [Array.getElem?_setIfInBounds,if_neg (fun e => hne (by rw [e]))]⟩
theorem setMap_at {w : World} {r : Nat} (h : r < w.heap.size) (es : Array MapEntry) (clock : Nat) : (setMap w r es clock).heap[r]? = some (.map es clock):=by
 show (w.heap.setIfInBounds r (.map es clock))[r]? = _
 rw [Array.getElem?_setIfInBounds,if_pos rfl,if_pos h]
theorem Mp.update [DecidableEq α] (h : Mp w r mk l) (K : KeyK P kt mk) (ht : P.underlying t = some (.map kt et)) (a : α) (v : Value) :
 ∃ w',(Instr.mapUpdate t (.map (some r)) (mk a) v).run P w = .ok () w' ∧ Mp w' r mk (putL l a v) ∧ w.grownBy w' (some r) ∧ w'.heap.size = w.heap.size:=by
 have hlt:=h.lt
 obtain ⟨es,clock,hb,he,hn,hbn,hbl⟩:=h
 rcases Mp.find K he a w with ⟨h1,h2⟩ | ⟨v',j,e,h1,h2,h3,h4,h5⟩
 ·refine ⟨setMap w r (es.push { key:=mk a,val:=v,born:=clock }) (clock + 1),?_,⟨_,_,setMap_at hlt _ _,?_,put_nodup hn a v,?_,?_⟩,setMap_grown _ _ _ _,by simp [setMap]⟩
  ·unfold Instr.mapUpdate
   simp only [Sem.run_bind,run_underlying ht,Result.andThen_ok,run_getObj_map hb,K.chk,h2]
   exact run_setObj_map hb
  ·have key : ∀ l : List (α × Value),getL l a = none → putL l a v = l ++ [(a,v)]:=by
    intro l
    induction l with
    | nil => intro _;rfl
    | cons p r ih =>
      intro hg
      simp only [getL] at hg
      split at hg
      ·cases hg
      ·rename_i e;simp [putL,e,ih hg]
   rw [key l h1]
   simp [he,pairOf]
  ·simp only [Array.toList_push,List.map_append,List.map_cons,List.map_nil]
   rw [List.nodup_append]
   refine ⟨hbn,by simp,?_⟩
   intro x hx y hy e
   obtain ⟨z,hz,rfl⟩:=List.mem_map.1 hx
   have:=hbl z hz
   simp at hy
   omega
  ·intro x hx
   simp only [Array.toList_push,List.mem_append,List.mem_singleton] at hx
   rcases hx with hx | rfl
   ·have:=hbl x hx;omega
   ·simp
 ·obtain ⟨g1,g2⟩:=h5 v
  have hj : es[j]? = some e:=by simpa using h2
  refine ⟨setMap w r (es.modify j fun e => { e with key:=mk a,val:=v }) clock,?_,⟨_,_,setMap_at hlt _ _,g1,put_nodup hn a v,by rw [g2];exact hbn,?_⟩,setMap_grown _ _ _ _,by simp [setMap]⟩
  ·unfold Instr.mapUpdate
   simp only [Sem.run_bind,run_underlying ht,Result.andThen_ok,run_getObj_map hb,K.chk,h4,hj,Option.map_some,Option.getD_some,h3,Instr.keyThatStays,K.bits,if_true,Sem.run_pure]
   exact run_setObj_map hb
  ·intro x hx
   have hm : x.born ∈ (es.modify j fun e => { e with key:=mk a,val:=v }).toList.map (·.born):=List.mem_map_of_mem (f:=(·.born)) hx
   rw [g2] at hm
   obtain ⟨y,hy,e⟩:=List.mem_map.1 hm
   have:=hbl y hy
   omega
theorem Mp.clear (h : Mp w r mk l) (ht : P.underlying t = some (.map kt et)) :
 ∃ w',(∀ ty,(Builtin.clear_ #[t] ty #[.map (some r)]).run P w = .ok (.tuple #[]) w') ∧ Mp w' r mk [] ∧ w.grownBy w' (some r) ∧ w'.heap.size = w.heap.size:=by
 have hlt:=h.lt
 obtain ⟨es,clock,hb,he,hn,hbn,hbl⟩:=h
 refine ⟨setMap w r #[] clock,fun ty => ?_,⟨#[],clock,setMap_at hlt _ _,by simp,by simp,by simp,by simp⟩,setMap_grown _ _ _ _,by simp [setMap]⟩
 simp [Builtin.clear_,Sem.run_bind,run_underlying ht,Result.andThen_ok,run_getObj_map hb,run_setObj_map hb]
theorem Mp.len (h : Mp w r mk l) (ht : P.underlying t = some (.map kt et)) (ty : TypeId) : (Builtin.len_ #[t] ty #[.map (some r)]).run P w = .ok (.int .i64 (l.length : Int)) w:=by
 obtain ⟨es,clock,hb,he,hn,hbn,hbl⟩:=h
 have e : es.size = l.length:=by have:=congrArg List.length he;simpa using this
 simp [Builtin.len_,Sem.run_bind,run_underlying ht,Result.andThen_ok,run_getObj_map hb,goInt,e]
end
theorem string_key {P : Program} {kt : TypeId} (h : P.underlying kt = some .string) : KeyK P kt (fun s : ByteArray => Value.string s) where
 desc:=⟨_,h,fun a b => by
  simp only [Instr.sameNow]
  congr 1
  rw [Bool.eq_iff_iff,MapKept.bytes_beq,decide_eq_true_eq]⟩
 chk em w a:=by
  rw [show (10000 : Nat) = 9999 + 1 from rfl,Instr.checkKey]
  simp only [Sem.run_bind,run_underlying h,Result.andThen_ok]
  rfl
 bits a:=by
  unfold Instr.sameBits
  exact (MapKept.bytes_beq a a).2 rfl
theorem byte_key {P : Program} {kt : TypeId} (h : P.underlying kt = some (.int .u8)) : KeyK P kt (fun b : Nat => Value.int .u8 (b : Int)) where
 desc:=⟨_,h,fun a b => by
  simp only [Instr.sameNow,if_true]
  by_cases e : a = b
  ·simp [e]
  ·have : ((a : Int) == (b : Int)) = false:=by simp;omega
   simp [e,this]⟩
 chk em w a:=by
  rw [show (10000 : Nat) = 9999 + 1 from rfl,Instr.checkKey]
  simp only [Sem.run_bind,run_underlying h,Result.andThen_ok]
  rfl
 bits a:=by simp [Instr.sameBits]
end Go.Proofs.YthhcpbfgoofppaaGreatDoor
