/-
  The walks of the document's With, OfText, Others.
-/
import Derived.Test.YthhcpbfgoofppaaGreatDoorGPl
import Derived.Test.YthhcpbfgoofppaaGreatDoorGRex
set_option linter.unusedVariables false
set_option linter.unusedSimpArgs false
namespace Go.Proofs.YthhcpbfgoofppaaGreatDoor
open Go.RowKit Wf
def B3 (w : World) (c d : Cls) (w' : World) : Prop :=
 Blk w' w.heap.size 112 #[.int .u64 (c.1 : Int),.int .u64 (c.2.1 : Int),.int .u64 (c.2.2.1 : Int),.int .u64 (c.2.2.2 : Int)] ∧ Blk w' (w.heap.size + 1) 112 #[.int .u64 0,.int .u64 0,.int .u64 0,.int .u64 0] ∧
 Blk w' (w.heap.size + 1 + 1) 112 #[.int .u64 (d.1 : Int),.int .u64 (d.2.1 : Int),.int .u64 (d.2.2.1 : Int),.int .u64 (d.2.2.2 : Int)] ∧ Below w.heap.size w w'
theorem B3.kept {w w1 w2 : World} {c d : Cls} (h : B3 w c d w1) (hb : Below w1.heap.size w1 w2) : B3 w c d w2 :=
 ⟨h.1.kept hb,h.2.1.kept hb,h.2.2.1.kept hb,h.2.2.2.trans (hb.mono h.2.2.2.size)⟩
theorem B3.put {w w1 : World} {c d e : Cls} (h : B3 w c d w1) : B3 w c e ((((w1.setCell ⟨w.heap.size + 1 + 1,0,none⟩ (.int .u64 (e.1 : Int))).setCell ⟨w.heap.size + 1 + 1,1,none⟩ (.int .u64 (e.2.1 : Int))).setCell ⟨w.heap.size + 1 + 1,2,none⟩ (.int .u64 (e.2.2.1 : Int))).setCell ⟨w.heap.size + 1 + 1,3,none⟩ (.int .u64 (e.2.2.2 : Int))) :=
 ⟨(((h.1.far (by simp;omega) _).far (by simp;omega) _).far (by simp;omega) _).far (by simp;omega) _,(((h.2.1.far (by simp) _).far (by simp) _).far (by simp) _).far (by simp) _,Blk4_set h.2.2.1 _ _ _ _,
   (((h.2.2.2.setCell (by simp;omega) _).setCell (by simp;omega) _).setCell (by simp;omega) _).setCell (by simp;omega) _⟩
end Go.Proofs.YthhcpbfgoofppaaGreatDoor
