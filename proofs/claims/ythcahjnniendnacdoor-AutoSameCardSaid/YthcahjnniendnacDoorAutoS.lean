/-
  The walk of package auto's States.
-/
import Derived.Test.YthcahjnniendnacDoorGAuto
namespace Go.Proofs.YthcahjnniendnacDoor
open Go.RowKit Wf

def StatesIs (n : Nat) (w : World) (e : Ending) (w' : World) : Prop := e = .returned (.int .i64 (n : Int)) ∧ w = w'
theorem States_c (p : List St) (a km : Nat) (pv : Value) (Own : Nat → Prop) (Ss : List ASt) (L : List (ByteArray × Value)) (w : World) (he : AEnv p a km pv Own Ss L w) :
    Calls Tryd.prog 11 #[.pointer (some ⟨a, 0, none⟩)] w (StatesIs L.length w) := by
  have c1 : w.cell? ⟨a, 1, none⟩ = some (.map (some km)) := he.ba.cell 1
  have hlen := fun ty => he.kn.len Tryd.underlying76 ty
  clear he
  go_enter Tryd.func11, Tryd.ntmps11
  go_wp2_with fail
  go_ret
  exact ⟨rfl, rfl⟩


end Go.Proofs.YthcahjnniendnacDoor
