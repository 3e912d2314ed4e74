import Derived.Test.YthhcpbfgoofppaaGreatDoorAz
import Derived.Test.YthhcpbfgoofppaaGreatDoorRows
import Derived.WalkKit
import Derived.WalkLawsBesides
import Derived.WalkSpells
import Derived.Laws.Tables
import Derived.Laws.Cover2
set_option linter.unusedVariables false
set_option linter.unusedSimpArgs false
open Wf
open Go.Proofs.Tryz hiding parts
namespace Go.Proofs.YthhcpbfgoofppaaGreatDoor
open Go.RowKit
def S9(i h g f d c b a:Int):Bool:=i==d&&(h==c&&(g==b&&f==a))
theorem A81(d:Nat)(j i h g f c b a:Int)(w:W_):
 (Op.equalIn (d+2) 112 (.agg #[.int .u64 j,.int .u64 i,.int .u64 h,.int .u64 g]) (.agg #[.int .u64 f,.int .u64 c,.int .u64 b,.int .u64 a])).run prog w
   = .ok (S9 j i h g f c b a) w:=by
 have u3:=underlying110;have l:=isAgg110;have k:=sizeOf110;unfold S9;rw[Op.equalIn];simp only[Sem.run_bind,run_underlying underlying112,Result.andThen_ok];simp only[Std.Legacy.Range.forIn_eq_forIn_range',Std.Legacy.Range.size,Nat.sub_zero,Nat.add_sub_cancel,Nat.div_one,List.range'_succ,List.range'_zero,List.forIn_cons,List.forIn_nil]
 go_simp
 by_cases h1:j=f <;> by_cases h2:i=c <;> by_cases h3:h=b <;> by_cases h4:g=a <;> simp[h1,h2,h3,h4]
@[go_sem high] theorem B92 (i h g f d c b a:Int)(w:W_):
 (Op.equalIn 10000 112 (.agg #[.int .u64 i,.int .u64 h,.int .u64 g,.int .u64 f]) (.agg #[.int .u64 d,.int .u64 c,.int .u64 b,.int .u64 a])).run prog w
   = .ok (S9 i h g f d c b a) w:=A81 9998 i h g f d c b a w
theorem B3M(d:Nat)(o j i h g p f c b a:Int)(w:W_):
 (Op.equalIn (d+3) 114 (.agg #[.int .i64 o,.int .u64 j,.int .u64 i,.int .u64 h,.int .u64 g]) (.agg #[.int .i64 p,.int .u64 f,.int .u64 c,.int .u64 b,.int .u64 a])).run prog w
   = .ok (o==p&&S9 j i h g f c b a) w:=by
 have u3:=underlying110;have t:=isAgg110;have n:=sizeOf110;have s:=isAgg3;have u4:=underlying3;have r:=isAgg112;have m:=sizeOf112;have q:=λw=>A81 d j i h g f c b a w
 have l:prog.underlying 114=some (.struct (prog.fieldsOf 114)):=by kernel_rfl
 have k:prog.stoodInHeld 114=false:=by kernel_rfl
 rw[show d+3=(d+2)+1 from rfl,run_equalIn_agg w (d+2) 114 _ _ l k];simp only[Program.fieldsOf,underlying114]
 go_simp
 by_cases h1:o=p <;> simp[h1];cases S9 j i h g f c b a <;> rfl
def nd5(o i h g f p d c b a:Int):Bool:=o==p&&S9 i h g f d c b a
@[go_sem high] theorem B9j (o i h g f p d c b a:Int)(w:W_):
 (Op.equalIn 10000 114 (.agg #[.int .i64 o,.int .u64 i,.int .u64 h,.int .u64 g,.int .u64 f]) (.agg #[.int .i64 p,.int .u64 d,.int .u64 c,.int .u64 b,.int .u64 a])).run prog w
   = .ok (nd5 o i h g f p d c b a) w:=B3M 9997 o i h g f p d c b a w
theorem A5h(i h g f d c b a:Nat):S9 i h g f d c b a=true↔(i,h,g,f)=(d,c,b,a):=by
 simp[S9];omega
