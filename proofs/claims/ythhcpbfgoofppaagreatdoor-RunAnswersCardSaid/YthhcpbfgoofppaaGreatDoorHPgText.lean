import Derived.Test.YthhcpbfgoofppaaGreatDoorGLib
import Derived.Test.YthhcpbfgoofppaaGreatDoorGStep
set_option linter.unusedVariables false
set_option linter.unusedSimpArgs false
open Wf
namespace Go.Proofs.YthhcpbfgoofppaaGreatDoor
open Go.RowKit Wf
theorem bsz(a:Array U_):(ByteArray.mk a).size=a.size:=rfl
theorem B95:∀b:Fin 10,((ByteArray.mk #[48,49,50,51,52,53,54,55,56,57]).extract b.val (b.val+1)).data.toList=[UInt8.ofNat (48+b.val)]:=by decide +kernel
theorem B5c{m:Nat}(h:9<m)(t:B_)(T:List U_)(a:Go.Lib.decDigits m++t.data.toList=T):
 Go.Lib.decDigits (m / 10)++((ByteArray.mk #[48,49,50,51,52,53,54,55,56,57]).extract (m % 10) (m % 10+1)++t).data.toList=T:=by
 rw[L0,B95 ⟨m % 10,by omega⟩,←a]
 conv=>rhs;rw[Go.Lib.decDigits,dif_neg (by omega)]
 simp
theorem B7c{m:Nat}(h:¬ 9<m)(t:B_)(T:List U_)(a:Go.Lib.decDigits m++t.data.toList=T):
 ((ByteArray.mk #[48,49,50,51,52,53,54,55,56,57]).extract m (m+1)++t).data.toList=T:=by
 rw[L0,B95 ⟨m,by omega⟩,←a]
 conv=>rhs;rw[Go.Lib.decDigits,dif_pos (by omega)]
