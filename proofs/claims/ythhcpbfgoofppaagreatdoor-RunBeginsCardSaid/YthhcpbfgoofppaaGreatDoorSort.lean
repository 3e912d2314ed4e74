/-
  slices.Sort and slices.Compact at a row of numbers of one's own: what is left rises, each number once, and has the same members.
-/
import Derived.Test.YthhcpbfgoofppaaGreatDoorGSh
import Derived.Test.YthhcpbfgoofppaaGreatDoorGSim
set_option linter.unusedVariables false
set_option linter.unusedSimpArgs false
namespace Go.Proofs.YthhcpbfgoofppaaGreatDoor
open Go.RowKit Wf
open Go.Sort
def Tidy (xs ys : List Nat) : Prop:=(∀ j,j ∈ ys ↔ j ∈ xs) ∧ ys.Pairwise (· < ·)
def ints (xs : List Nat) : List Int:=xs.map fun (i : Nat) => (i : Int)
theorem ints_len (xs : List Nat) : (ints xs).length = xs.length:=by simp [ints]
theorem nats_of_ints (l : List Int) (h : ∀ x ∈ l,0 ≤ x) : ∃ xs : List Nat,l = ints xs:=by
 induction l with
 | nil => exact ⟨[],rfl⟩
 | cons x l ih =>
   obtain ⟨xs,hx⟩:=ih fun y hy => h y (by simp [hy])
   have:=h x (by simp)
   exact ⟨x.toNat :: xs,by rw [hx];simp [ints];omega⟩
theorem natVals_int (xs : List Nat) : natVals xs = (ints xs).map (Value.int .i64):=by simp [natVals,ints]
theorem ints_getD (xs : List Nat) (j : Nat) (h : j < xs.length) : (ints xs).toArray[j]! = (xs[j] : Int):=by
 rw [getElem!_pos _ j (by simpa [ints] using h)]
 simp [ints]
theorem sort_nats (xs : List Nat) : ∃ ys : List Nat,((ints xs).mergeSort fun x y => decide (x ≤ y)) = ints ys ∧ ys.length = xs.length ∧ (∀ j,j ∈ ys ↔ j ∈ xs) ∧ ys.Pairwise (· ≤ ·):=by
 have hp:=List.mergeSort_perm (ints xs) (fun x y => decide (x ≤ y))
 have hs:=List.pairwise_mergeSort (le:=fun x y : Int => decide (x ≤ y)) (by intro a b c h1 h2;simp at h1 h2 ⊢;omega) (by intro a b;simp;omega) (ints xs)
 obtain ⟨ys,hy⟩:=nats_of_ints _ (fun x hx => by
  have:=hp.mem_iff.1 hx
  simp [ints] at this
  obtain ⟨a,_,rfl⟩:=this
  omega : ∀ x ∈ (ints xs).mergeSort fun x y => decide (x ≤ y),0 ≤ x)
 rw [hy] at hp hs
 refine ⟨ys,hy,?_,fun j => ?_,?_⟩
 ·have:=hp.length_eq;simpa [ints] using this
 ·have:=hp.mem_iff (a:=(j : Int))
  simp only [ints,List.mem_map] at this
  constructor
  ·intro h
   obtain ⟨a,ha,e⟩:=this.1 ⟨j,h,rfl⟩
   have : a = j:=by omega
   subst this;exact ha
  ·intro h
   obtain ⟨a,ha,e⟩:=this.2 ⟨j,h,rfl⟩
   have : a = j:=by omega
   subst this;exact ha
 ·have : (ints ys).Pairwise (fun x y => x ≤ y):=hs.imp fun h => by simpa using h
  rw [ints,List.pairwise_map] at this
  exact this.imp fun h => by omega
theorem compact_nats (ys : List Nat) (hs : ys.Pairwise (· ≤ ·)) : ∃ zs : List Nat,Lib.compact (ints ys) = ints zs ∧ zs.length ≤ ys.length ∧ Tidy ys zs:=by
 have hget : ∀ j,j < ys.length → ∃ h : j < ys.length,(ints ys).toArray[j]! = (ys[j] : Int):=fun j h => ⟨h,ints_getD ys j h⟩
 have hlen : (ints ys).length = ys.length:=ints_len ys
 have hidx:=List.pairwise_iff_getElem.1 hs
 refine ⟨((List.range ys.length).filter (Lib.keeps (ints ys).toArray)).map fun j => ys.getD j 0,?_,?_,?_,?_⟩
 ·unfold Lib.compact Lib.compactUpTo
  rw [hlen]
  show _ = List.map (fun i : Nat => (i : Int)) _
  rw [List.map_map]
  refine List.map_congr_left fun j hj => ?_
  have hj' : j < ys.length:=List.mem_range.1 ((List.mem_filter.1 hj).1)
  show (ints ys).toArray[j]! = _
  rw [ints_getD ys j hj']
  simp [hj']
 ·have:=List.length_filter_le (Lib.keeps (ints ys).toArray) (List.range ys.length)
  simpa using this
 ·intro x
  constructor
  ·intro hx
   obtain ⟨j,hj,rfl⟩:=List.mem_map.1 hx
   have hj' : j < ys.length:=List.mem_range.1 ((List.mem_filter.1 hj).1)
   simp [hj']
  ·intro hx
   obtain ⟨j0,hj0,hx0⟩:=List.mem_iff_getElem.1 hx
   have key : ∀ j,(h : j < ys.length) → ys[j] = x → x ∈ ((List.range ys.length).filter (Lib.keeps (ints ys).toArray)).map fun j => ys.getD j 0:=by
    intro j
    induction j with
    | zero =>
      intro h e
      refine List.mem_map.2 ⟨0,List.mem_filter.2 ⟨by simpa using h,Lib.keeps_lt_one _ 0 (by omega)⟩,?_⟩
      simp [h];exact e
    | succ j ih =>
      intro h e
      by_cases hk : Lib.keeps (ints ys).toArray (j + 1) = true
      ·refine List.mem_map.2 ⟨j + 1,List.mem_filter.2 ⟨by simpa using h,hk⟩,?_⟩
       simp [h];exact e
      ·refine ih (by omega) ?_
       have h1 : ¬ ((ints ys).toArray[j + 1]! ≠ (ints ys).toArray[j + 1 - 1]!):=fun h => hk (Lib.keeps_pos h)
       have h2 : (ints ys).toArray[j + 1]! = (ints ys).toArray[j]!:=Classical.byContradiction fun h => h1 h
       rw [ints_getD ys (j + 1) h,ints_getD ys j (by omega)] at h2
       have h3 : ys[j + 1] = ys[j]:=by exact_mod_cast h2
       rw [← h3];exact e
   exact key j0 hj0 hx0
 ·rw [List.pairwise_map]
  have hr : (List.range ys.length).Pairwise (· < ·):=List.pairwise_lt_range
  refine (hr.filter _).imp_of_mem fun {a b} ha hb hab => ?_
  have hb' : b < ys.length:=List.mem_range.1 ((List.mem_filter.1 hb).1)
  have hkb:=(List.mem_filter.1 hb).2
  have ha' : a < ys.length:=by omega
  simp only [Lib.keeps,decide_eq_true_eq] at hkb
  rcases hkb with h0 | hne
  ·omega
  ·rw [ints_getD ys b hb',ints_getD ys (b - 1) (by omega)] at hne
   have h1 : ys[b] ≠ ys[b - 1]:=fun h => hne (by rw [h])
   have h2 : ys[a] ≤ ys[b - 1]:=by
    rcases Nat.lt_or_ge a (b - 1) with h | h
    ·exact hidx a (b - 1) ha' (by omega) h
    ·have e : a = b - 1:=by omega
     subst e;exact Nat.le_refl _
   have h3 : ys[b - 1] ≤ ys[b]:=hidx (b - 1) b (by omega) hb' (by omega)
   simp [ha',hb']
   omega
theorem own_holds {w : World} {base g cap n : Nat} {cur : Array Value} {xs : List Nat} (hg : w.heap[g]? = some (.cells cur 3 (0,0))) (ht : cur.toList.take n = natVals xs) (hn : n = xs.length) : Holds (Value.int .i64) w g 0 (ints xs).toArray:=fun j hj => by
 have hj' : j < xs.length:=by simpa [ints] using hj
 rw [Nat.zero_add]
 refine ⟨?_,frozen_of_row w g j cur 3 hg⟩
 rw [cell_of_row w g j cur 3 (0,0) hg,ints_getD xs j hj']
 have h1 : (cur.toList.take n)[j]? = (natVals xs)[j]?:=by rw [ht]
 rw [List.getElem?_take,if_pos (by omega)] at h1
 simp only [Array.getElem?_toList] at h1
 rw [h1]
 simp [natVals,hj']
theorem put_heap {w : World} {g : Nat} {cur : Array Value} {zs : List Int} (hg : w.heap[g]? = some (.cells cur 3 (0,0))) : (putRow (Value.int .i64) w g 0 zs.toArray).heap[g]? = some (.cells (putCells (Value.int .i64) 0 zs.toArray cur) 3 (0,0)):=by
 simp [putRow,mapBlock,Array.getElem?_modify,hg,onCells]
theorem put_other {w : World} {g k : Nat} {zs : List Int} (h : k ≠ g) : (putRow (Value.int .i64) w g 0 zs.toArray).heap[k]? = w.heap[k]?:=by
 simp [putRow,mapBlock,Array.getElem?_modify,Ne.symm h]
theorem put_take {cur : Array Value} {zs : List Int} {m : Nat} (hm : m ≤ zs.length) (hc : zs.length ≤ cur.size) : (putCells (Value.int .i64) 0 zs.toArray cur).toList.take m = (zs.take m).map (Value.int .i64):=by
 apply List.ext_getElem?
 intro j
 rw [List.getElem?_take,List.getElem?_map,List.getElem?_take]
 by_cases hj : j < m
 ·rw [if_pos hj,if_pos hj]
  simp only [Array.getElem?_toList,putCells,Array.getElem?_mapIdx]
  have h1 : j < cur.size:=by omega
  have h2 : j < zs.length:=by omega
  rw [Array.getElem?_eq_getElem h1,List.getElem?_eq_getElem h2]
  simp only [Option.map_some]
  rw [if_pos ⟨by omega,by simpa using h2⟩,Nat.sub_zero,getElem!_pos _ j (by simpa using h2)]
  simp
 ·rw [if_neg hj,if_neg hj];rfl
def SortIs (base : Nat) (xs : List Nat) (v : Value) (w : World) (e : Ending) (w' : World) : Prop :=
 e = .returned (.tuple #[]) ∧ ∃ ys : List Nat,ys.length = xs.length ∧ (∀ j,j ∈ ys ↔ j ∈ xs) ∧ ys.Pairwise (· ≤ ·) ∧ w'.ownsRow base 3 1 v xs.length (natVals ys) ∧ w.grownBy w' v.ownBlock
theorem Sort_c (base : Nat) (xs : List Nat) (v : Value) (w : World) (h : w.ownsRow base 3 1 v xs.length (natVals xs)) (hl : xs.length ≤ 1000) :
 Calls Tryz.prog 157 #[v] w (SortIs base xs v w):=by
 obtain ⟨h1,h2⟩:=h
 rcases h2 with ⟨rfl,h0⟩ | ⟨g,cap,cur,rfl,h3,h4,h5,h6,h7,h8⟩
 ·have hx : xs = []:=List.eq_nil_of_length_eq_zero h0
  subst hx
  refine (Any.slices_Sort_int_none laySort none 0 w).mono ?_
  rintro e w' ⟨rfl,rfl⟩
  exact ⟨rfl,[],rfl,by simp,by simp,⟨rfl,.inl ⟨rfl,rfl⟩⟩,World.grownBy.refl _ _⟩
 ·have hlt : g < w.heap.size:=(Array.getElem?_eq_some_iff.1 h4).1
  rw [Nat.mul_one] at h7 h8
  have hH:=own_holds (base:=0) (cap:=cap) h4 h8 rfl
  have hc:=Any.slices_Sort_int laySort g 0 cap (ints xs) w hH hlt (by rw [ints_len];omega)
  rw [ints_len] at hc
  refine hc.mono ?_
  rintro e w' ⟨rfl,n,os,rfl⟩
  obtain ⟨ys,hy,hyl,hym,hys⟩:=sort_nats xs
  rw [hy]
  have h4' : (Go.Sort.ahead w n).heap[g]? = some (.cells cur 3 (0,0)):=h4
  have hgl : g < (putRow (Value.int .i64) (Go.Sort.ahead w n) g 0 (ints ys).toArray).heap.size:=by simp [putRow,mapBlock,Go.Sort.ahead];exact hlt
  refine ⟨rfl,ys,hyl,hym,hys,⟨by simp [natVals,hyl],.inr ⟨g,cap,_,rfl,h3,by rw [heap_grow_old _ _ hgl];exact put_heap h4',h5,h6,by simp [putCells];omega,?_⟩⟩,?_⟩
  ·rw [Nat.mul_one,put_take (by rw [ints_len];omega) (by rw [ints_len];omega),natVals_int,← hyl,← ints_len ys,List.take_length]
  ·refine ⟨rfl,rfl,rfl,by simp [grow,putRow,mapBlock,Go.Sort.ahead],fun k hk hne => ?_⟩
   have hk' : k < (putRow (Value.int .i64) (Go.Sort.ahead w n) g 0 (ints ys).toArray).heap.size:=by simp [putRow,mapBlock,Go.Sort.ahead];exact hk
   rw [heap_grow_old _ _ hk',put_other (fun e => hne (by rw [e];rfl))]
   rfl
def CompIs (base : Nat) (ys : List Nat) (v : Value) (w : World) (e : Ending) (w' : World) : Prop :=
 ∃ (A : Option Addr) (cap : Nat) (zs : List Nat),e = .returned (.slice A zs.length cap) ∧ zs.length ≤ ys.length ∧ Tidy ys zs ∧ w'.ownsRow base 3 1 (.slice A zs.length cap) zs.length (natVals zs) ∧ (Value.slice A zs.length cap).ownBlock = v.ownBlock ∧ w.grownBy w' v.ownBlock
theorem Compact_c (base : Nat) (ys : List Nat) (v : Value) (w : World) (h : w.ownsRow base 3 1 v ys.length (natVals ys)) (hs : ys.Pairwise (· ≤ ·)) (hl : ys.length ≤ 1000) :
 Calls Tryz.prog 186 #[v] w (CompIs base ys v w):=by
 obtain ⟨h1,h2⟩:=h
 rcases h2 with ⟨rfl,h0⟩ | ⟨g,cap,cur,rfl,h3,h4,h5,h6,h7,h8⟩
 ·have hx : ys = []:=List.eq_nil_of_length_eq_zero h0
  subst hx
  refine (Any.slices_Compact_int_empty layCompact none 0 w).mono ?_
  rintro e w' ⟨rfl,rfl⟩
  exact ⟨none,0,[],rfl,by simp,⟨by simp,by simp⟩,⟨rfl,.inl ⟨rfl,rfl⟩⟩,rfl,World.grownBy.refl _ _⟩
 ·have hlt : g < w.heap.size:=(Array.getElem?_eq_some_iff.1 h4).1
  rw [Nat.mul_one] at h7 h8
  have hH:=own_holds (base:=0) (cap:=cap) h4 h8 rfl
  have hc:=Any.slices_Compact_int layCompact g 0 cap (ints ys) w hH (by rw [ints_len];omega) (by rw [ints_len];exact h5)
  rw [ints_len] at hc
  refine hc.mono ?_
  obtain ⟨zs,hz,hzl,hzt⟩:=compact_nats ys hs
  rw [hz]
  rintro e w' ⟨rfl,n,rfl⟩
  have h4' : (Go.Sort.ahead w n).heap[g]? = some (.cells cur 3 (0,0)):=h4
  generalize hrest : List.replicate (ys.length - (ints zs).length) (0 : Int) = rest
  have hrl : (ints zs ++ rest).length = ys.length:=by rw [← hrest];simp [ints];omega
  refine ⟨some ⟨g,0,none⟩,cap,zs,by rw [ints_len],hzl,hzt,⟨by simp [natVals],.inr ⟨g,cap,_,rfl,h3,put_heap h4',by omega,h6,by simp [putCells];omega,?_⟩⟩,rfl,?_⟩
  ·rw [Nat.mul_one,put_take (by rw [hrl];omega) (by rw [hrl];omega),natVals_int,← ints_len zs,List.take_left]
  ·refine ⟨rfl,rfl,rfl,by simp [putRow,mapBlock,Go.Sort.ahead],fun k hk hne => ?_⟩
   rw [put_other (fun e => hne (by rw [e];rfl))]
   rfl
end Go.Proofs.YthhcpbfgoofppaaGreatDoor
