import Derived.Test.YthhcpbfgoofppaaGreatDoorGWd
import Derived.Test.YthhcpbfgoofppaaGreatDoorHSpot
import Derived.Test.YthhcpbfgoofppaaGreatDoorQueue
import Derived.Carry
set_option linter.unusedVariables false
set_option linter.unusedSimpArgs false
open Wf
namespace Go.Proofs.YthhcpbfgoofppaaGreatDoor
open Go.RowKit Wf
section
variable (l:List Nd) (s:B_) (b off cap ge F M:Nat)
end
section
variable {l:List Nd} {s:B_} {b off cap ge F M:Nat} {O:Nat->Prop} {w w':W_}
theorem A7U(a:List Nat)(k:Nat):D0 (a++[k])=D0 a++[.int .i64 k]:=by simp[D0]
end
noncomputable def A3f(s:List U_)(t:Rx)(at_:Nat):List Nat:=upTo_ (M4 s t at_) (s.length+1)
