/-
  Grow, Turn.
-/
import Derived.Test.YthhcpbfgoofppaaGreatDoorGRex
import Derived.Laws.Append
import Derived.Deep.AppendLies
import Derived.Deep.RegionHeld3
import Derived.Deep.DeepCutAuto
set_option linter.unusedVariables false
set_option linter.unusedSimpArgs false
namespace Go.Proofs.YthhcpbfgoofppaaGreatDoor
open Go.RowKit Wf
theorem info_node : (Tryz.prog.info? 114).map (fun i => (i.zero,i.size,i.bytes)) = some (some (.agg #[.int .i64 0,.int .u64 0,.int .u64 0,.int .u64 0,.int .u64 0]),5,40):=by kernel_rfl
theorem run_append_make_nil {P : Program} (w : World) (t ti ty e : TypeId) (i : TypeInfo) (z : Value) (k : IntKind) (ht : P.underlying t = some (.slice e)) (hti : P.underlying ti = some (.int k)) (hi : P.info? e = some i) (hz : i.zero = some z)
 (n : Nat) (h0 : 0 < n) (h63 : n ≤ 1000000) (h48 : n * i.bytes ≤ 281474976710656) (hne : n * i.size ≠ 0) :
 (Builtin.append_ #[t,ti] ty #[.slice none 0 0,.int .i64 (n : Int)]).run P w =
   .ok (.slice (some ⟨w.heap.size,0,none⟩) n (grownCap w n 0 e)) (w.drew.alloc (.cells (Builtin.zeroCells z.cells n ++ Builtin.zeroCells z.cells (grownCap w n 0 e - n)) e)):=by
 have hn : n ≠ 0:=by omega
 have h63' : ¬ (9223372036854775807 < (n : Int)):=by omega
 have h48' : ¬ (281474976710656 < Builtin.nextslicecap n 0 * i.bytes):=by rw [nextslicecap_zero h0];omega
 have hw : IntKind.i64.wrap (n : Int) = n:=by rw [IntKind.wrap_i64];omega
 have h1 : ¬ ((n : Int) < 0):=by omega
 have h2 : ¬ (281474976710656 < (n : Int) * (i.bytes : Int)):=by
  have : (n : Int) * (i.bytes : Int) = ((n * i.bytes : Nat) : Int):=by rw [Int.natCast_mul]
  omega
 simp [Builtin.append_,run_underlying ht,run_underlying hti,sizeOf,typeInfo,zeroValue,hi,hz,asInt,asIntOf,hw,h1,h2,hn,h63',h48',hne,Question.forced,run_firstCells_none,newRow,grownCap]
theorem wpList_append_make {P : Program} (w : World) {ops : Array Oper} {rest : List Oper} {o : Oper} {a : Act} {Q : Exit → Act → World → Prop} (hgd : o.guard = none) (s x : Operand) (t ti : TypeId)
 (ho : o.op = .call { callee:=.builtin .append,args:=#[s,x],argTypes:=#[t,ti] }) (v u : Value) (hs : a.eval s = v) (hx : a.eval x = u) (r : Value) (w' : World)
 (hrun : (Builtin.append_ #[t,ti] o.type #[v,u]).run P w = .ok r w') (h : wpList P ops Q rest (a.put o.dst r) w') : wpList P ops Q (o :: rest) a w :=
 wpList_plain hgd fun _ hK => by
  unfold Oper.wp execOp
  simp only [ho,resolve,invoke,builtin,Sem.run_bind,Sem.run_pure,Result.andThen_ok,List.map_toArray,List.map_cons,List.map_nil,hs,hx,hrun]
  exact hK _ _ h
theorem flatten_take_succ {α : Type} {ls : List (List α)} {k : Nat} {x : List α} (h : ls[k]? = some x) : (ls.take (k + 1)).flatten = (ls.take k).flatten ++ x:=by
 rw [take_snoc h];simp
theorem flatten_take_le {α : Type} (ls : List (List α)) (k : Nat) : (ls.take k).flatten.length ≤ ls.flatten.length:=by
 have h : (ls.take k ++ ls.drop k).flatten.length = ls.flatten.length:=by rw [List.take_append_drop]
 simp only [List.flatten_append,List.length_append] at h
 omega
def OwnN (w : World) (base : Nat) (v : Value) (l : List Nd) : Prop:=w.ownsRow base 114 5 v l.length (l.flatMap ndCells)
theorem OwnN.rd {w : World} {base : Nat} {v : Value} {l : List Nd} (h : OwnN w base v l) : RdN w v l:=Rd.of_own h
structure TEnv (l : List Nd) (b off cap g : Nat) (w : World) : Prop where
 hr : RdN w (.slice (some ⟨b,off,none⟩) l.length cap) l
 hb : b < w.heap.size
 hg : g < w.heap.size
 hx : ∀ i u,At l i u → w.cell? ⟨g,i,none⟩ = some (.int .i64 ((i + (flat u).length : Nat) : Int))
theorem TEnv.below {l : List Nd} {b off cap g : Nat} {w w' : World} (h : TEnv l b off cap g w) (hb : Below w.heap.size w w') : TEnv l b off cap g w' :=
 ⟨h.hr.below hb,Nat.lt_of_lt_of_le h.hb hb.size,Nat.lt_of_lt_of_le h.hg hb.size,fun i u hu => by rw [hb.cell (p:=⟨g,i,none⟩) h.hg];exact h.hx i u hu⟩
theorem TEnv.node {l : List Nd} {b off cap g : Nat} {w : World} (h : TEnv l b off cap g w) {i : Nat} {n : Nd} (hn : l[i]? = some n) :
 w.cell? ⟨b,off + i * 5,none⟩ = some (.int .i64 n.op) ∧ w.cell? ⟨b,off + i * 5 + 1,none⟩ = some (.int .u64 (n.cls.1 : Int)) ∧ w.cell? ⟨b,off + i * 5 + 2,none⟩ = some (.int .u64 (n.cls.2.1 : Int)) ∧
  w.cell? ⟨b,off + i * 5 + 3,none⟩ = some (.int .u64 (n.cls.2.2.1 : Int)) ∧ w.cell? ⟨b,off + i * 5 + 4,none⟩ = some (.int .u64 (n.cls.2.2.2 : Int)):=by
 obtain ⟨A,cap',hv,_,_,hm⟩:=h.hr.open_
 have hlt : i < l.length:=by
  rcases Nat.lt_or_ge i l.length with h | h
  ·exact h
  ·rw [List.getElem?_eq_none h] at hn;cases hn
 obtain ⟨b',off',hA,_,hc⟩:=hm (by omega)
 cases hv
 cases hA
 exact hc w (fun _ => rfl) i n hn
theorem own_below {w w' : World} {base size n : Nat} {e : TypeId} {v : Value} {xs : List Value} (h : w.ownsRow base e size v n xs) (hb : Below w.heap.size w w') : w'.ownsRow base e size v n xs:=by
 obtain ⟨h1,h2⟩:=h
 refine ⟨h1,?_⟩
 rcases h2 with h2 | ⟨g,cap,cur,hv,h3,h4,h5⟩
 ·exact .inl h2
 ·refine .inr ⟨g,cap,cur,hv,h3,?_,h5⟩
  rw [hb.block g (Array.getElem?_eq_some_iff.1 h4).1]
  exact h4
end Go.Proofs.YthhcpbfgoofppaaGreatDoor
