import Derived.Test.YthhcpbfgoofppaaGreatDoorMem
import Derived.Laws.CopyRow
import Derived.Laws.Append
import Derived.Laws.Tables
import Derived.OwnWalk
set_option linter.unusedVariables false
set_option linter.unusedSimpArgs false
open Wf
namespace Wf
open Go Go.RowKit
structure Qu (w:W_) (base:Nat) (e:TypeId) (g o cap:Nat) (xs:List V_):Prop where
 hbase:base<=g
 hle:xs.length<=cap
 hcap:cap<=maxLen
 hcur:∃cur:Array V_,w.heap[g]?=some (.cells cur e (0,0))/\o+cap<=cur.size/\∀j u,xs[j]?=some u->cur[o+j]?=some u
section
variable {w w':W_} {base g o cap:Nat} {e:TypeId} {xs:List V_}
theorem Qu.lt(h:Qu w base e g o cap xs):g<w.heap.size:=by
 obtain⟨b,a,_⟩:=h.hcur;exact(Array.getElem?_eq_some_iff.1 a).1
theorem Qu.cell(h:Qu w base e g o cap xs)(j:Nat)(u:V_)(c:xs[j]?=some u):w.cell? ⟨g,o+j,none⟩=some u:=by
 obtain⟨a,d,_,b⟩:=h.hcur;rw[cell_of_row w g (o+j) a e (0,0) d];exact b j u c
theorem Qu.kept{row:Option Nat}(h:Qu w base e g o cap xs)(c:w.grownBy w' row)(a:some g≠row):Qu w' base e g o cap xs:=by
 have hlt:=h.lt;obtain⟨l,k,j,b,d,i,f⟩:=h;exact⟨l,k,j,b,(c.block g hlt a).trans d,i,f⟩
theorem Qu.tail(h:Qu w base e g o cap xs)(n:0<xs.length):Qu w base e g (if cap=1 then o else o+1) (cap - 1) xs.tail:=by
 obtain⟨f,m,l,b,c,k,d⟩:=h;refine⟨f,by simp;omega,by omega,b,c,by split <;> omega,λj u a=>?_⟩;rw[List.getElem?_tail] at a;have i:=(List.getElem?_eq_some_iff.1 a).1;rw[if_neg (by omega),show o+1+j=o+(j+1) from by omega];exact d _ _ a
theorem Qu.one(w:W_)(base:Nat)(e:TypeId)(B:Nat)(c:w.heap.size=B)(b:base<=w.heap.size)(u:V_):Qu (w.alloc (.cells #[u] e)) base e B 0 1 [u]:=by
 subst c;refine⟨b,by simp,by unfold maxLen;omega,#[u],heap_alloc_new w _,by simp,λj x a=>?_⟩
 match j,a with
 | 0,a=>simp at a;subst a;rfl
theorem B2a{P:Program}(t C:TypeId)(i:TypeInfo)(z:V_)(f:Nat)(E:P.underlying t=some (.slice e))(F:P.info? e=some i)(H:i.zero=some z)(b:i.size=1)(B:i.bytes=f)(q:z.cells.size=1)
 (h:Qu w base e g o cap xs) (hbw:base<=w.heap.size) (u:V_) (hu:u.oneCell'=true) (nb cx:Nat) (hnb:w.cell? ⟨nb,0,none⟩=some u) (h63:xs.length+1<=maxLen) (hbytes:(xs.length+1)*f<=140737488355328):
 ∃p D l w',(Builtin.append_ #[t,t] C #[.slice (some ⟨g,o,none⟩) xs.length cap,.slice (some ⟨nb,0,none⟩) 1 cx]).run P w=.ok (.slice (some ⟨p,D,none⟩) (xs.length+1) l) w' /\
  Qu w' base e p D l (xs++[u])/\w.grownBy w' (some g)/\(p=g\/p=w.heap.size):=by
 obtain⟨O,S,N,c,A,R,G⟩:=h
 have d:∀j v,[u][j]?=some v->w.cell? ((⟨nb,0,none⟩:Addr).add j)=some v:=by
  intro j v a
  match j,a with
  | 0,a=>simp at a;subst a;rw[Z5];exact hnb
 by_cases hroom:xs.length+1<=cap
 .have M:=run_firstCells_some (P:=P) w 1 1 ⟨nb,0,none⟩ 1 cx [u] (by simp) d
  have n:=run_storeCells_at P g (o+xs.length) e [u] 0 c w A (by simp;omega) (by simpa using hu);simp only[Nat.add_zero,List.length_singleton] at n;refine⟨g,o,cap,w.setRow g (c.toList.take (o+xs.length)++[u]++c.toList.drop (o+xs.length+1)).toArray,?_,⟨O,by simpa using hroom,N,_,setRow_heap w g c _ e _ A,?_,?_⟩,⟨rfl,rfl,rfl,by simp,λk _ r=>setRow_other w g k _ (λe=>r (by rw[e]))⟩,.inl rfl⟩
  .simp[Builtin.append_,run_underlying E,Go.sizeOf,typeInfo,F,b,Builtin.lenOf,hroom,M,Z5,n]
  .simp;omega
  .intro j v a
   simp only[List.getElem?_toArray];by_cases L:j<xs.length
   .rw[List.getElem?_append_left L] at a
    have:=G j v a;have hlt:=(Array.getElem?_eq_some_iff.1 this).1;rw[List.append_assoc,List.getElem?_append_left (by simp;omega),List.getElem?_take,if_pos (by omega)]
    simpa using this
   .rw[List.getElem?_append_right (by omega)] at a
    have hj':j=xs.length:=by
     have:=(List.getElem?_eq_some_iff.1 a).1;simp at this;omega
    subst hj';simp at a;subst a;rw[List.append_assoc,List.getElem?_append_right (by simp;omega)];have Q:o+xs.length - (c.toList.take (o+xs.length)).length=0:=by simp;omega
    rw[Q]
    rfl
 .have m:∀j v,xs[j]?=some v->w.cell? ((⟨g,o,none⟩:Addr).add j)=some v:=by
   intro j v a;rw[Z5,cell_of_row w g (o+j) c e (0,0) A];exact G j v a
  have J:=run_append_grow (P:=P) w t C e i z E F H ⟨g,o,none⟩ xs.length cap xs (by rw[b];omega) m ⟨nb,0,none⟩ 1 cx [u] (by simp[b]) d (by omega) (by unfold maxLen at h63;omega) (growslice_fits (by omega) (by rw[B];exact hbytes));have s:=grownCap_ge w (xs.length+1) cap e;have y:=grownCap_le_maxLen w (xs.length+1) cap e h63;refine⟨w.heap.size,0,grownCap w (xs.length+1) cap e,_,J,⟨hbw,by simpa using s,y,_,heap_alloc_new w.drew _,?_,?_⟩,⟨rfl,rfl,rfl,by simp,λk r _=>heap_alloc_old w.drew _ k r⟩,.inr rfl⟩
  .simp only[Array.size_append,List.size_toArray,size_zeroCells,q,List.length_singleton]
   omega
  .intro j v a
   have hlt:j<(xs++[u]).length:=(List.getElem?_eq_some_iff.1 a).1;rw[Nat.zero_add,Array.getElem?_append_left (by simpa using hlt)];rw[←a];simp
theorem A3G{P:Program}{f:Array Oper}{c:List Oper}{op:Oper}{a:Act}{Q:Exit->Act->World->Prop}(k:op.guard=none)(m x:Operand)(t:TypeId)
 (ho:op.op=.call { callee:=.builtin .append,args:=#[m,x],argTypes:=#[t,t] })
 (i:TypeInfo) (z:V_) (bytes:Nat) (ht:P.underlying t=some (.slice e)) (hi:P.info? e=some i) (hz:i.zero=some z) (hsize:i.size=1) (hby:i.bytes=bytes) (hzs:z.cells.size=1)
 (n:Nat) (hn:xs.length=n) (hs:a.eval m=.slice (some ⟨g,o,none⟩) n cap) (h:Qu w base e g o cap xs) (hbw:base<=w.heap.size) (u:V_) (hu:u.oneCell'=true) (nb cx:Nat) (hx:a.eval x=.slice (some ⟨nb,0,none⟩) 1 cx) (hnb:w.cell? ⟨nb,0,none⟩=some u)
 (h63:n+1<=maxLen) (hbytes:(n+1)*bytes<=140737488355328)
 (hK:∀d j b w',Qu w' base e d j b (xs++[u])->w.grownBy w' (some g)->(d=g\/w.heap.size<=d)->wpList P f Q c (a.put op.dst (.slice (some ⟨d,j,none⟩) (n+1) b)) w'):wpList P f Q (op::c) a w :=
 wpList_plain k λ_ l=>by
  subst hn;obtain⟨d,j,b,w',p,s,r,q⟩:=B2a (P:=P) t op.type i z bytes ht hi hz hsize hby hzs h hbw u hu nb cx hnb h63 hbytes;unfold Oper.wp execOp;simp only[ho,resolve,invoke,builtin,Sem.run_bind,Sem.run_pure,Result.andThen_ok,List.map_toArray,List.map_cons,List.map_nil,hs,hx,p];exact l _ _ (hK d j b w' s r (q.imp id (λh=>by omega)))
