import Derived.Test.YthhcpbfgoofppaaGreatDoorGRz
import Derived.ProofKit
import Derived.OpenShut
import Derived.Deep.Slices
import Derived.Deep.Fields
import Derived.Lib.SmallJoins
import Derived.ChangeOld
import Derived.ShutString
import Derived.ChangeSame
import Derived.ChangeVars
import Derived.JoinedOf
import Derived.LaidLaws
import Derived.LaidHandle
import Derived.Stop.Joined
import Derived.Lib.LaidTab
import Derived.LaidSub
set_option linter.unusedVariables false
open Wf
open Go.Proofs.Tryz hiding parts
namespace Go.Proofs.YthhcpbfgoofppaaGreatDoor.law
open Go.RowKit Wf
theorem own:ownKnob prog.godebug=none:=by kernel_rfl
def B19(w:W_)(e:Ending)(w':W_):Prop:=e=.returned (.bool true)/\Below w.heap.size w w'
end Go.Proofs.YthhcpbfgoofppaaGreatDoor.law
namespace Go.Proofs.YthhcpbfgoofppaaGreatDoor.law
open Go.ChangeShapes Go.WideShapes Go.RowKit
theorem et:prog.globalNamed "errors.errorType"=some 1:=by kernel_rfl
theorem rt:(prog.cutTypes.find? (·.1== "internal/reflectlite.rtype")).map (·.2)=some 197:=by kernel_rfl
theorem B8p:((List.range 355).filter λt=>prog.rowNamed t [101,114,114,111,114])=[36]:=by kernel_rfl
theorem size:prog.types.size=355:=by kernel_rfl
noncomputable def laidL:List (String×DataW Unit):=[("errors.errorType",Rows.laid_errors_errorType)]
theorem handle_of_laid{W:W_}(h:laidMetH prog laidL W):A5z W:=by
 have h':laidMet prog [] W/\handlesMet prog laidL W:=h;obtain⟨a,u,d,m,l,k,j,c⟩:=h'.2 _ (List.mem_singleton.2 rfl);have i:a=[101,114,114,111,114]:=(Option.some.inj m).symm;subst i;obtain rfl:=Option.some.inj (rt.symm.trans l);have b:d∈(List.range 355).filter λt=>prog.rowNamed t [101,114,114,111,114]:=List.mem_filter.2 ⟨List.mem_range.2 (by rw[←size];exact k),j⟩
 rw[B8p] at b;obtain rfl:=List.mem_singleton.1 b;have f:typeHandle prog 36=.pointer (some ⟨7,36,none⟩):=by kernel_rfl
 rw[f] at c;have g:=World.var?_cell et c 0;unfold A5z
 simpa using g
noncomputable def A1K(os:Os):W_ :=
 let w0:=World.holding prog os ⟨#[],#[],[]⟩
 { w0 with heap:=w0.heap.modify 1 fun
  | .cells _ t frozen=>.cells #[.iface 197 (.agg #[.pointer (some ⟨7,36,none⟩)])] t frozen
  | o=>o }
theorem A06(os:Os)(args:Array V_):laidMetH prog laidL ((A1K os).forCall (λ_ _=>0) ⟨#[],args,[]⟩).memory :=
 laidMetH_of_parts (laidMet_nil _ _) (by kernel_rfl)
end Go.Proofs.YthhcpbfgoofppaaGreatDoor.law
namespace Go.Proofs.YthhcpbfgoofppaaGreatDoor.lawR
open Go.ChangeShapes Go.WideShapes Go.RowKit
set_option maxRecDepth 100000
noncomputable def laidL:List (String×DataW Unit):=[("math/bits.deBruijn32tab",Rows.laid_math_bits_deBruijn32tab),("math/bits.deBruijn64tab",Rows.laid_math_bits_deBruijn64tab),("internal/strconv.uint64pow10",Rows.laid_internal_strconv_uint64pow10),("errors.errorType",Rows.laid_errors_errorType),("strconv.ErrRange",Rows.laid_strconv_ErrRange),("strconv.ErrSyntax",Rows.laid_strconv_ErrSyntax)]
theorem handle_of_laid{W:W_}(h:laidMetH prog laidL W):A5z W:=by
 have e:laidL.filter (λx=>x.1== "errors.errorType")=law.laidL:=by kernel_rfl
 have a:=h.filter (λx=>x.1== "errors.errorType");rw[e] at a;exact law.handle_of_laid a
theorem A8B{W:W_}(h:laidMetH prog laidL W):A02 W:=by
 have e:laidL.filter (λx=>x.1== "internal/strconv.uint64pow10")=[("internal/strconv.uint64pow10",Lib.tabData .u64 Lib.pow10Tab)]:=by kernel_rfl
 have a:=h.filter (λx=>x.1== "internal/strconv.uint64pow10");rw[e] at a;have b:laidMet prog [("internal/strconv.uint64pow10",Lib.tabData .u64 Lib.pow10Tab)] W:=a;exact Lib.tabIs_of_head (g:=2) (t:=244) (e:=110) (n:=20) (by kernel_rfl) (by kernel_rfl) (by kernel_rfl) (by kernel_rfl) (by kernel_rfl) (by kernel_rfl) b
theorem es:prog.globalNamed "strconv.ErrSyntax"=some 3:=by kernel_rfl
theorem est:(prog.globals[3]?).map (·.type)=some 36:=by kernel_rfl
theorem esi:∃a,prog.underlying 36=some (.interface a):=⟨_,underlying36⟩
theorem A8C{W:W_}(h:laidMetH prog laidL W):∃ev,A2K ev W:=by
 have e:laidL.filter (λx=>x.1== "strconv.ErrSyntax")=[("strconv.ErrSyntax",Rows.laid_strconv_ErrSyntax)]:=by kernel_rfl
 have j:=h.filter (λx=>x.1== "strconv.ErrSyntax");rw[e] at j;have m:laidMet prog [("strconv.ErrSyntax",Rows.laid_strconv_ErrSyntax)] W:=j;obtain⟨p,⟨s,n,i,y,q,o,a,c,b,f,_,_⟩,_,_⟩:=m;obtain rfl:=Option.some.inj (es.symm.trans a);obtain rfl:=Option.some.inj (est.symm.trans c);obtain⟨r,d⟩:=esi;obtain⟨t,u,v,k,_,_⟩:=iface_of_trod d f;have l:=World.var?_cell a b 0;have g:i[0]?=some (.iface u v):=by rw[←Array.getElem?_toList,k];rfl
 exact⟨.iface u v,l.trans g,.inr ⟨u,v,rfl⟩⟩
def A41:DataW Unit->Array V_
 | .agg xs=>(xs.map λ| .lit (.int k z)=>Value.int k z | _=>Value.nilIface).toArray
 | _=>#[]
def A8N:DataW Unit->B_
 | .iface _ (.ptr (.agg [.lit (.string l)]))=>⟨l.toArray⟩
 | _=>⟨#[]⟩
def put(w:W_)(g:Nat)(cs:Array V_):W_:={ w with heap:=w.heap.modify g fun
 | .cells _ t frozen=>.cells cs t frozen
 | o=>o }
noncomputable def low:Nat:=(World.holding prog default ⟨#[],#[],[]⟩).heap.size
noncomputable def A1K(os:Os):W_ :=
 put (put (put (put (put (put (World.holding prog os ⟨#[.cells #[.string (A8N Rows.laid_strconv_ErrRange)] 285,.cells #[.string (A8N Rows.laid_strconv_ErrSyntax)] 285],#[],[]⟩) 1 #[.iface 197 (.agg #[.pointer (some ⟨7,36,none⟩)])]) 2 (A41 Rows.laid_internal_strconv_uint64pow10)) 5 (A41 Rows.laid_math_bits_deBruijn32tab)) 6 (A41 Rows.laid_math_bits_deBruijn64tab)) 4 #[.iface 283 (.pointer (some ⟨low,0,none⟩))]) 3 #[.iface 283 (.pointer (some ⟨low+1,0,none⟩))]
theorem A06(os:Os)(args:Array V_):laidMetH prog laidL ((A1K os).forCall (λ_ _=>0) ⟨#[],args,[]⟩).memory :=
 laidMetH_of_parts (laidMet_of_run' 8 (by kernel_rfl) (by kernel_rfl)) (by kernel_rfl)
set_option maxRecDepth 100000
theorem er:prog.globalNamed "strconv.ErrRange"=some 4:=by kernel_rfl
theorem ert:(prog.globals[4]?).map (·.type)=some 36:=by kernel_rfl
theorem A8S{W:W_}(h:laidMetH prog laidL W):∃rv,A7p rv W:=by
 have e:laidL.filter (λx=>x.1== "strconv.ErrRange")=[("strconv.ErrRange",Rows.laid_strconv_ErrRange)]:=by kernel_rfl
 have j:=h.filter (λx=>x.1== "strconv.ErrRange");rw[e] at j;have m:laidMet prog [("strconv.ErrRange",Rows.laid_strconv_ErrRange)] W:=j;obtain⟨p,⟨s,n,i,y,q,o,a,c,b,f,_,_⟩,_,_⟩:=m;obtain rfl:=Option.some.inj (er.symm.trans a);obtain rfl:=Option.some.inj (ert.symm.trans c);obtain⟨r,d⟩:=esi;obtain⟨t,u,v,k,_,_⟩:=iface_of_trod d f;have l:=World.var?_cell a b 0;have g:i[0]?=some (.iface u v):=by rw[←Array.getElem?_toList,k];rfl
 exact⟨.iface u v,l.trans g,.inr ⟨u,v,rfl⟩⟩
theorem A4Y{W:W_}(h:laidMetH prog laidL W):setW.LibE W.heap.size W:=by
 obtain⟨ev,b⟩:=A8C h;obtain⟨rv,a⟩:=A8S h;exact setW.LibE.of b a (handle_of_laid h) (A8B h)
