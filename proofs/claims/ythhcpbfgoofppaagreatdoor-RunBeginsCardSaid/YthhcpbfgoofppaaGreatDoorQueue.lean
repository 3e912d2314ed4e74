/-
  A queue: a slice somewhere in a block of the call's own, appended to one by one, cut at its head.
-/
import Derived.Test.YthhcpbfgoofppaaGreatDoorMem
import Derived.Laws.CopyRow
import Derived.Laws.Append
import Derived.Laws.Tables
import Derived.OwnWalk
set_option linter.unusedVariables false
set_option linter.unusedSimpArgs false
namespace Wf
open Go Go.RowKit
structure Qu (w : World) (base : Nat) (e : TypeId) (g o cap : Nat) (xs : List Value) : Prop where
 hbase : base ≤ g
 hle : xs.length ≤ cap
 hcap : cap ≤ maxLen
 hcur : ∃ cur : Array Value,w.heap[g]? = some (.cells cur e (0,0)) ∧ o + cap ≤ cur.size ∧ ∀ j u,xs[j]? = some u → cur[o + j]? = some u
section
variable {w w' : World} {base g o cap : Nat} {e : TypeId} {xs : List Value}
theorem Qu.lt (h : Qu w base e g o cap xs) : g < w.heap.size:=by
 obtain ⟨cur,hc,_⟩:=h.hcur
 exact (Array.getElem?_eq_some_iff.1 hc).1
theorem Qu.cell (h : Qu w base e g o cap xs) (j : Nat) (u : Value) (hj : xs[j]? = some u) : w.cell? ⟨g,o + j,none⟩ = some u:=by
 obtain ⟨cur,hc,_,hx⟩:=h.hcur
 rw [cell_of_row w g (o + j) cur e (0,0) hc]
 exact hx j u hj
theorem Qu.kept {row : Option Nat} (h : Qu w base e g o cap xs) (hg : w.grownBy w' row) (hne : some g ≠ row) : Qu w' base e g o cap xs:=by
 have hlt:=h.lt
 obtain ⟨h1,h2,h3,cur,hc,h4,h5⟩:=h
 exact ⟨h1,h2,h3,cur,(hg.block g hlt hne).trans hc,h4,h5⟩
theorem Qu.tail (h : Qu w base e g o cap xs) (h0 : 0 < xs.length) : Qu w base e g (if cap = 1 then o else o + 1) (cap - 1) xs.tail:=by
 obtain ⟨h1,h2,h3,cur,hc,h4,h5⟩:=h
 refine ⟨h1,by simp;omega,by omega,cur,hc,by split <;> omega,fun j u hu => ?_⟩
 rw [List.getElem?_tail] at hu
 have hj:=(List.getElem?_eq_some_iff.1 hu).1
 rw [if_neg (by omega),show o + 1 + j = o + (j + 1) from by omega]
 exact h5 _ _ hu
theorem Qu.one (w : World) (base : Nat) (e : TypeId) (B : Nat) (hB : w.heap.size = B) (hb : base ≤ w.heap.size) (u : Value) : Qu (w.alloc (.cells #[u] e)) base e B 0 1 [u]:=by
 subst hB
 refine ⟨hb,by simp,by unfold maxLen;omega,#[u],heap_alloc_new w _,by simp,fun j x hx => ?_⟩
 match j,hx with
 | 0,hx => simp at hx;subst hx;rfl
theorem run_app_q {P : Program} (t ty : TypeId) (i : TypeInfo) (z : Value) (bytes : Nat) (ht : P.underlying t = some (.slice e)) (hi : P.info? e = some i) (hz : i.zero = some z) (hsize : i.size = 1) (hby : i.bytes = bytes) (hzs : z.cells.size = 1)
 (h : Qu w base e g o cap xs) (hbw : base ≤ w.heap.size) (u : Value) (hu : u.oneCell' = true) (nb cx : Nat) (hnb : w.cell? ⟨nb,0,none⟩ = some u) (h63 : xs.length + 1 ≤ maxLen) (hbytes : (xs.length + 1) * bytes ≤ 140737488355328) :
 ∃ g' o' cap' w',(Builtin.append_ #[t,t] ty #[.slice (some ⟨g,o,none⟩) xs.length cap,.slice (some ⟨nb,0,none⟩) 1 cx]).run P w = .ok (.slice (some ⟨g',o',none⟩) (xs.length + 1) cap') w' ∧
  Qu w' base e g' o' cap' (xs ++ [u]) ∧ w.grownBy w' (some g) ∧ (g' = g ∨ g' = w.heap.size):=by
 obtain ⟨h1,h2,h3,cur,hc,h4,h5⟩:=h
 have hnews : ∀ j v,[u][j]? = some v → w.cell? ((⟨nb,0,none⟩ : Addr).add j) = some v:=by
  intro j v hv
  match j,hv with
  | 0,hv => simp at hv;subst hv;rw [add_mk];exact hnb
 by_cases hroom : xs.length + 1 ≤ cap
 ·have hf:=run_firstCells_some (P:=P) w 1 1 ⟨nb,0,none⟩ 1 cx [u] (by simp) hnews
  have hst:=run_storeCells_at P g (o + xs.length) e [u] 0 cur w hc (by simp;omega) (by simpa using hu)
  simp only [Nat.add_zero,List.length_singleton] at hst
  refine ⟨g,o,cap,w.setRow g (cur.toList.take (o + xs.length) ++ [u] ++ cur.toList.drop (o + xs.length + 1)).toArray,?_,⟨h1,by simpa using hroom,h3,_,setRow_heap w g cur _ e _ hc,?_,?_⟩,⟨rfl,rfl,rfl,by simp,fun k _ hk => setRow_other w g k _ (fun e => hk (by rw [e]))⟩,.inl rfl⟩
  ·simp [Builtin.append_,run_underlying ht,Go.sizeOf,typeInfo,hi,hsize,Builtin.lenOf,hroom,hf,add_mk,hst]
  ·simp;omega
  ·intro j v hv
   simp only [List.getElem?_toArray]
   by_cases hj : j < xs.length
   ·rw [List.getElem?_append_left hj] at hv
    have:=h5 j v hv
    have hlt:=(Array.getElem?_eq_some_iff.1 this).1
    rw [List.append_assoc,List.getElem?_append_left (by simp;omega),List.getElem?_take,if_pos (by omega)]
    simpa using this
   ·rw [List.getElem?_append_right (by omega)] at hv
    have hj' : j = xs.length:=by
     have:=(List.getElem?_eq_some_iff.1 hv).1
     simp at this
     omega
    subst hj'
    simp at hv
    subst hv
    rw [List.append_assoc,List.getElem?_append_right (by simp;omega)]
    have e0 : o + xs.length - (cur.toList.take (o + xs.length)).length = 0:=by simp;omega
    rw [e0]
    rfl
 ·have holds : ∀ j v,xs[j]? = some v → w.cell? ((⟨g,o,none⟩ : Addr).add j) = some v:=by
   intro j v hv
   rw [add_mk,cell_of_row w g (o + j) cur e (0,0) hc]
   exact h5 j v hv
  have hr:=run_append_grow (P:=P) w t ty e i z ht hi hz ⟨g,o,none⟩ xs.length cap xs (by rw [hsize];omega) holds ⟨nb,0,none⟩ 1 cx [u] (by simp [hsize]) hnews (by omega) (by unfold maxLen at h63;omega) (growslice_fits (by omega) (by rw [hby];exact hbytes))
  have hge:=grownCap_ge w (xs.length + 1) cap e
  have hcm:=grownCap_le_maxLen w (xs.length + 1) cap e h63
  refine ⟨w.heap.size,0,grownCap w (xs.length + 1) cap e,_,hr,⟨hbw,by simpa using hge,hcm,_,heap_alloc_new w.drew _,?_,?_⟩,⟨rfl,rfl,rfl,by simp,fun k hk _ => heap_alloc_old w.drew _ k hk⟩,.inr rfl⟩
  ·simp only [Array.size_append,List.size_toArray,size_zeroCells,hzs,List.length_singleton]
   omega
  ·intro j v hv
   have hlt : j < (xs ++ [u]).length:=(List.getElem?_eq_some_iff.1 hv).1
   rw [Nat.zero_add,Array.getElem?_append_left (by simpa using hlt)]
   rw [← hv]
   simp
theorem wpList_app_q {P : Program} {ops : Array Oper} {rest : List Oper} {op : Oper} {a : Act} {Q : Exit → Act → World → Prop} (hgd : op.guard = none) (sx x : Operand) (t : TypeId)
 (ho : op.op = .call { callee:=.builtin .append,args:=#[sx,x],argTypes:=#[t,t] })
 (i : TypeInfo) (z : Value) (bytes : Nat) (ht : P.underlying t = some (.slice e)) (hi : P.info? e = some i) (hz : i.zero = some z) (hsize : i.size = 1) (hby : i.bytes = bytes) (hzs : z.cells.size = 1)
 (n : Nat) (hn : xs.length = n) (hs : a.eval sx = .slice (some ⟨g,o,none⟩) n cap) (h : Qu w base e g o cap xs) (hbw : base ≤ w.heap.size) (u : Value) (hu : u.oneCell' = true) (nb cx : Nat) (hx : a.eval x = .slice (some ⟨nb,0,none⟩) 1 cx) (hnb : w.cell? ⟨nb,0,none⟩ = some u)
 (h63 : n + 1 ≤ maxLen) (hbytes : (n + 1) * bytes ≤ 140737488355328)
 (hK : ∀ g' o' cap' w',Qu w' base e g' o' cap' (xs ++ [u]) → w.grownBy w' (some g) → (g' = g ∨ w.heap.size ≤ g') → wpList P ops Q rest (a.put op.dst (.slice (some ⟨g',o',none⟩) (n + 1) cap')) w') : wpList P ops Q (op :: rest) a w :=
 wpList_plain hgd fun _ hK' => by
  subst hn
  obtain ⟨g',o',cap',w',hr,h2,h3,h4⟩:=run_app_q (P:=P) t op.type i z bytes ht hi hz hsize hby hzs h hbw u hu nb cx hnb h63 hbytes
  unfold Oper.wp execOp
  simp only [ho,resolve,invoke,builtin,Sem.run_bind,Sem.run_pure,Result.andThen_ok,List.map_toArray,List.map_cons,List.map_nil,hs,hx,hr]
  exact hK' _ _ (hK g' o' cap' w' h2 h3 (h4.imp id (fun h => by omega)))
end
end Wf
