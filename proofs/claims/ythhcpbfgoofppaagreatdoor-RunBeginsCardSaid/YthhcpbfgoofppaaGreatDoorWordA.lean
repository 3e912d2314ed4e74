/-
  words.Check: words that may be.
-/
import Derived.Test.YthhcpbfgoofppaaGreatDoorGCls
import Derived.Test.YthhcpbfgoofppaaGreatDoorGLib
import Derived.Test.YthhcpbfgoofppaaGreatDoorGStep
import Derived.Test.YthhcpbfgoofppaaGreatDoorMem
import Derived.Test.YthhcpbfgoofppaaGreatDoorStrs
set_option linter.unusedVariables false
set_option linter.unusedSimpArgs false
namespace Go.Proofs.YthhcpbfgoofppaaGreatDoor
open Go.RowKit Wf
theorem emp_list (s : ByteArray) : s.toList.isEmpty = decide (s.size = 0):=by
 rw [ByteArray.toList_eq,Bool.eq_iff_iff,decide_eq_true_eq,sz_list,List.isEmpty_iff_length_eq_zero]
end Go.Proofs.YthhcpbfgoofppaaGreatDoor
