import Derived.Test.YthhcpbfgoofppaaGreatDoorGRex
import Derived.Laws.Append
import Derived.Deep.DeepCutAuto
set_option linter.unusedVariables false
set_option linter.unusedSimpArgs false
open Wf
open Go.Proofs.Tryz hiding parts
namespace Go.Proofs.YthhcpbfgoofppaaGreatDoor
open Go.RowKit Wf
theorem A4B:(prog.info? 114).map (λi=>(i.zero,i.size,i.bytes))=some (some (.agg #[.int .i64 0,.int .u64 0,.int .u64 0,.int .u64 0,.int .u64 0]),5,40):=by kernel_rfl
theorem A2n{P:Program}(w:W_)(t b c e:TypeId)(i:TypeInfo)(z:V_)(k:IntKind)(g:P.underlying t=some (.slice e))(a:P.underlying b=some (.int k))(j:P.info? e=some i)(d:i.zero=some z)
 (n:Nat) (h0:0<n) (l:n<=1000000) (m:n*i.bytes<=281474976710656) (hne:n*i.size≠0):
 (Builtin.append_ #[t,b] c #[.slice none 0 0,.int .i64 n]).run P w =
   .ok (.slice (some ⟨w.heap.size,0,none⟩) n (grownCap w n 0 e)) (w.drew.alloc (.cells (Builtin.zeroCells z.cells n++Builtin.zeroCells z.cells (grownCap w n 0 e - n)) e)):=by
 have h:n≠0:=by omega
 have h63':¬(9223372036854775807<(n:Int)):=by omega
 have h48':¬(281474976710656<Builtin.nextslicecap n 0*i.bytes):=by rw[nextslicecap_zero h0];omega
 have f:IntKind.i64.wrap (n:Int)=n:=by rw[IntKind.wrap_i64];omega
 have p:¬((n:Int)<0):=by omega
 have o:¬(281474976710656<(n:Int)*(i.bytes:Int)):=by
  have:(n:Int)*(i.bytes:Int)=((n*i.bytes:Nat):Int):=by rw[Int.natCast_mul]
  omega
 simp[Builtin.append_,run_underlying g,run_underlying a,sizeOf,typeInfo,zeroValue,j,d,asInt,asIntOf,f,p,o,h,h63',h48',hne,Question.forced,run_firstCells_none,newRow,grownCap]
theorem A21{P:Program}(w:W_){c:Array Oper}{b:List Oper}{o:Oper}{a:Act}{Q:Exit->Act->World->Prop}(d:o.guard=none)(s x:Operand)(t f:TypeId)
 (ho:o.op=.call { callee:=.builtin .append,args:=#[s,x],argTypes:=#[t,f] }) (v u:V_) (hs:a.eval s=v) (hx:a.eval x=u) (r:V_) (w':W_)
 (hrun:(Builtin.append_ #[t,f] o.type #[v,u]).run P w=.ok r w') (h:wpList P c Q b (a.put o.dst r) w'):wpList P c Q (o::b) a w :=
 wpList_plain d λ_ g=>by
  unfold Oper.wp execOp;simp only[ho,resolve,invoke,builtin,Sem.run_bind,Sem.run_pure,Result.andThen_ok,List.map_toArray,List.map_cons,List.map_nil,hs,hx,hrun];exact g _ _ h
theorem A0y{α:Type}{a:List (List α)}{k:Nat}{x:List α}(h:a[k]?=some x):(a.take (k+1)).flatten=(a.take k).flatten++x:=by
 rw[X3 h];simp
theorem A4g{α:Type}(a:List (List α))(k:Nat):(a.take k).flatten.length<=a.flatten.length:=by
 have h:(a.take k++a.drop k).flatten.length=a.flatten.length:=by rw[List.take_append_drop]
 simp only[List.flatten_append,List.length_append] at h;omega
theorem o4{w w':W_}{base a n:Nat}{e:TypeId}{v:V_}{c:List V_}(h:w.ownsRow base e a v n c)(d:Below w.heap.size w w'):w'.ownsRow base e a v n c:=by
 obtain⟨f,b⟩:=h;refine⟨f,?_⟩;rcases b with b|⟨g,cap,cur,hv,h3,h4,h5⟩
 .exact .inl b
 .refine .inr ⟨g,cap,cur,hv,h3,?_,h5⟩
  rw[d.block g (Array.getElem?_eq_some_iff.1 h4).1];exact h4
