import Derived.Test.YthhcpbfgoofppaaGreatDoorGLib
import Derived.Test.YthhcpbfgoofppaaGreatDoorGStep
import Derived.Test.YthhcpbfgoofppaaGreatDoorStrs
set_option linter.unusedVariables false
set_option linter.unusedSimpArgs false
open Wf
namespace Go.Proofs.YthhcpbfgoofppaaGreatDoor
open Go.RowKit Wf
theorem A83(s:B_):s.toList.isEmpty=decide (s.size=0):=by
 rw[ByteArray.toList_eq,Bool.eq_iff_iff,decide_eq_true_eq,t6,List.isEmpty_iff_length_eq_zero]
