/-
  The walk of the document's Reach: every part.
-/
import Derived.Test.YthcahjnniendnabDoorReachD
import Derived.Test.YthcahjnniendnabDoorReachE
import Derived.Test.YthcahjnniendnabDoorReachF
import Derived.Test.YthcahjnniendnabDoorReachG
namespace Go.Proofs.YthcahjnniendnabDoor
open Go.RowKit Wf

theorem RReach_all (l : List Nd) (hg : ∀ n ∈ l, good n) (hok : ∀ n ∈ l, okC n.cls) (hlen : l.length ≤ 60) (b off cap : Nat) (s : ByteArray) (hs : s.size ≤ 400) : ∀ (u : Rx) (i : Nat), At l i u → ReachAt l b off cap s u i := by
  intro u
  induction u with
  | byte c => exact fun i => Reach_byte l hg hok hlen b off cap s hs c i
  | empty => exact fun i => Reach_empty l hg hok hlen b off cap s hs i
  | bgn => exact fun i => Reach_bgn l hg hok hlen b off cap s hs i
  | fin => exact fun i => Reach_fin l hg hok hlen b off cap s hs i
  | star a iha => exact fun i => Reach_star l hg hok hlen b off cap s hs a iha i
  | plus a iha => exact fun i => Reach_plus l hg hok hlen b off cap s hs a iha i
  | opt a iha => exact fun i => Reach_opt l hg hok hlen b off cap s hs a iha i
  | cat a c iha ihc => exact fun i => Reach_cat l hg hok hlen b off cap s hs a c iha ihc i
  | alt a c iha ihc => exact fun i => Reach_alt l hg hok hlen b off cap s hs a c iha ihc i

end Go.Proofs.YthcahjnniendnabDoor
