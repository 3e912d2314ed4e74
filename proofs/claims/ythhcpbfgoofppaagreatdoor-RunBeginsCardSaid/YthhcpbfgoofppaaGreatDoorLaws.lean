/-
  Laws of single operations over this translation: two classes compared, two nodes compared.
-/
import Derived.Test.YthhcpbfgoofppaaGreatDoorRows
import Derived.WalkKit
import Derived.WalkLawsBesides
import Derived.WalkSpells
import Derived.Laws.Tables
import Derived.Laws.Cover2
set_option linter.unusedVariables false
set_option linter.unusedSimpArgs false
namespace Go.Proofs.YthhcpbfgoofppaaGreatDoor
open Go.RowKit
def cls4 (x0 x1 x2 x3 y0 y1 y2 y3 : Int) : Bool:=x0 == y0 && (x1 == y1 && (x2 == y2 && x3 == y3))
theorem eqIn_cls (d : Nat) (x0 x1 x2 x3 y0 y1 y2 y3 : Int) (w : World) :
 (Op.equalIn (d + 2) 112 (.agg #[.int .u64 x0,.int .u64 x1,.int .u64 x2,.int .u64 x3]) (.agg #[.int .u64 y0,.int .u64 y1,.int .u64 y2,.int .u64 y3])).run Tryz.prog w
   = .ok (cls4 x0 x1 x2 x3 y0 y1 y2 y3) w:=by
 have u3:=Tryz.underlying110
 have a3:=Tryz.isAgg110
 have z3:=Tryz.sizeOf110
 unfold cls4
 rw [Op.equalIn]
 simp only [Sem.run_bind,run_underlying Tryz.underlying112,Result.andThen_ok]
 simp only [Std.Legacy.Range.forIn_eq_forIn_range',Std.Legacy.Range.size,Nat.sub_zero,Nat.add_sub_cancel,Nat.div_one,List.range'_succ,List.range'_zero,List.forIn_cons,List.forIn_nil]
 go_simp
 by_cases h1 : x0 = y0 <;> by_cases h2 : x1 = y1 <;> by_cases h3 : x2 = y2 <;> by_cases h4 : x3 = y3 <;> simp [h1,h2,h3,h4]
@[go_sem high] theorem eq10_cls (x0 x1 x2 x3 y0 y1 y2 y3 : Int) (w : World) :
 (Op.equalIn 10000 112 (.agg #[.int .u64 x0,.int .u64 x1,.int .u64 x2,.int .u64 x3]) (.agg #[.int .u64 y0,.int .u64 y1,.int .u64 y2,.int .u64 y3])).run Tryz.prog w
   = .ok (cls4 x0 x1 x2 x3 y0 y1 y2 y3) w:=eqIn_cls 9998 x0 x1 x2 x3 y0 y1 y2 y3 w
theorem eqIn_node (d : Nat) (o x0 x1 x2 x3 p y0 y1 y2 y3 : Int) (w : World) :
 (Op.equalIn (d + 3) 114 (.agg #[.int .i64 o,.int .u64 x0,.int .u64 x1,.int .u64 x2,.int .u64 x3]) (.agg #[.int .i64 p,.int .u64 y0,.int .u64 y1,.int .u64 y2,.int .u64 y3])).run Tryz.prog w
   = .ok (o == p && cls4 x0 x1 x2 x3 y0 y1 y2 y3) w:=by
 have u3:=Tryz.underlying110
 have a3:=Tryz.isAgg110
 have z3:=Tryz.sizeOf110
 have a4:=Tryz.isAgg3
 have u4:=Tryz.underlying3
 have a5:=Tryz.isAgg112
 have z5:=Tryz.sizeOf112
 have hc:=fun w => eqIn_cls d x0 x1 x2 x3 y0 y1 y2 y3 w
 have hS : Tryz.prog.underlying 114 = some (.struct (Tryz.prog.fieldsOf 114)):=by kernel_rfl
 have hp : Tryz.prog.stoodInHeld 114 = false:=by kernel_rfl
 rw [show d + 3 = (d + 2) + 1 from rfl,run_equalIn_agg w (d + 2) 114 _ _ hS hp]
 simp only [Program.fieldsOf,Tryz.underlying114]
 go_simp
 by_cases h1 : o = p <;> simp [h1]
 cases cls4 x0 x1 x2 x3 y0 y1 y2 y3 <;> rfl
def nd5 (o x0 x1 x2 x3 p y0 y1 y2 y3 : Int) : Bool:=o == p && cls4 x0 x1 x2 x3 y0 y1 y2 y3
@[go_sem high] theorem eq10_node (o x0 x1 x2 x3 p y0 y1 y2 y3 : Int) (w : World) :
 (Op.equalIn 10000 114 (.agg #[.int .i64 o,.int .u64 x0,.int .u64 x1,.int .u64 x2,.int .u64 x3]) (.agg #[.int .i64 p,.int .u64 y0,.int .u64 y1,.int .u64 y2,.int .u64 y3])).run Tryz.prog w
   = .ok (nd5 o x0 x1 x2 x3 p y0 y1 y2 y3) w:=eqIn_node 9997 o x0 x1 x2 x3 p y0 y1 y2 y3 w
theorem cls4_iff (x0 x1 x2 x3 y0 y1 y2 y3 : Nat) : cls4 x0 x1 x2 x3 y0 y1 y2 y3 = true ↔ (x0,x1,x2,x3) = (y0,y1,y2,y3):=by
 simp [cls4]
 omega
end Go.Proofs.YthhcpbfgoofppaaGreatDoor
