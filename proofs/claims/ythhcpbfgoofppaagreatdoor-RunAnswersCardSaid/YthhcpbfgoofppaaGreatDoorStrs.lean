import Derived.Test.YthhcpbfgoofppaaGreatDoorLaws
import Derived.Test.YthhcpbfgoofppaaGreatDoorMem
set_option linter.unusedVariables false
set_option linter.unusedSimpArgs false
open Wf
open Go.Proofs.Tryz hiding parts
namespace Go.Proofs.YthhcpbfgoofppaaGreatDoor
open Go.RowKit Wf
def T0(a:List B_):List V_:=a.map Value.string
theorem R8(a:List B_)(s:B_):T0 (a++[s])=T0 a++[.string s]:=by simp[T0]
theorem A4R(a:List B_):(T0 a).length=a.length:=by simp[T0]
theorem A1L:(prog.info? 9).map (λi=>(i.zero,i.size,i.bytes))=some (some (.string ⟨#[]⟩),1,16):=by kernel_rfl
theorem A0Y{w:W_}{v:V_}{c:List B_}(h:Rd1 w v (T0 c)):∃(A:Option Addr)(cap:Nat),v=.slice A c.length cap/\c.length<=cap/\cap<=9223372036854775807 /\
 (0<c.length->∃b a,A=some ⟨b,a,none⟩/\b<w.heap.size/\∀(w':W_),(∀o,w'.cell? ⟨b,o,none⟩=w.cell? ⟨b,o,none⟩)->∀(k:Nat)(x:B_),c[k]?=some x->w'.cell? ⟨b,a+k,none⟩=some (.string x)):=by
 obtain⟨A,cap,d,g,q,f⟩:=Rd1.open_ h;rw[A4R] at d g f;refine⟨A,cap,d,g,q,λl=>?_⟩;obtain⟨b,a,p,n,m⟩:=f l;exact⟨b,a,p,n,λw' j k x i=>m w' j k _ (by simp[T0,i])⟩
