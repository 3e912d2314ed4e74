/-
  Law, Laid, LaidS.
-/
import Derived.Test.YthcahjnniendnacGreatDoorGLit
import Derived.Test.YthcahjnniendnacGreatDoorGOp
import Derived.Test.YthcahjnniendnacGreatDoorGSynA
import Derived.Below
import Derived.ChangeOld
import Derived.ShutString
import Derived.Test.YthcahjnniendnacGreatDoorRows
import Derived.ChangeSame
import Derived.ChangeVars
import Derived.JoinedOf
import Derived.LaidLaws
import Derived.LaidHandle
import Derived.Stop.Joined
import Derived.Lib.LaidTab
import Derived.LaidSub
set_option linter.unusedVariables false
set_option linter.unusedSimpArgs false
namespace Go.Proofs.YthcahjnniendnacGreatDoor.law
open Go.RowKit Wf
theorem own : ownKnob Tryz.prog.godebug = none:=by kernel_rfl
theorem laidOut : laidOutB Tryz.prog = true:=by kernel_rfl
def LawIs (w : World) (e : Ending) (w' : World) : Prop:=e = .returned (.bool true) ∧ Below w.heap.size w w'
end Go.Proofs.YthcahjnniendnacGreatDoor.law
namespace Go.Proofs.YthcahjnniendnacGreatDoor.law
open Go.ChangeShapes Go.WideShapes Go.RowKit
theorem et : Tryz.prog.globalNamed "errors.errorType" = some 0 := by kernel_rfl
theorem rt : (Tryz.prog.cutTypes.find? (·.1 == "internal/reflectlite.rtype")).map (·.2) = some 221 := by kernel_rfl
theorem oneRow : ((List.range 337).filter fun t => Tryz.prog.rowNamed t [101,114,114,111,114]) = [27]:=by kernel_rfl
theorem size : Tryz.prog.types.size = 337:=by kernel_rfl
noncomputable def laidL : List (String × DataW Unit) := [("errors.errorType", Rows.laid_errors_errorType)]
theorem handle_of_laid {W : World} (h : laidMetH Tryz.prog laidL W) : ErrT W:=by
 have h' : laidMet Tryz.prog [] W ∧ handlesMet Tryz.prog laidL W:=h
 obtain ⟨name,u,ty,e1,e2,e3,e4,e5⟩:=h'.2 _ (List.mem_singleton.2 rfl)
 have en : name = [101,114,114,111,114]:=(Option.some.inj e1).symm
 subst en
 obtain rfl:=Option.some.inj (rt.symm.trans e2)
 have hm : ty ∈ (List.range 337).filter fun t => Tryz.prog.rowNamed t [101,114,114,111,114]:=List.mem_filter.2 ⟨List.mem_range.2 (by rw [← size];exact e3),e4⟩
 rw [oneRow] at hm
 obtain rfl:=List.mem_singleton.1 hm
 have hh : typeHandle Tryz.prog 27 = .pointer (some ⟨7,27,none⟩):=by kernel_rfl
 rw [hh] at e5
 have hc:=World.var?_cell et e5 0
 unfold ErrT
 simpa using hc
noncomputable def laidWorld (os : Os) : World :=
 let w0:=World.holding Tryz.prog os ⟨#[],#[],[]⟩
 { w0 with heap:=w0.heap.modify 0 fun
  | .cells _ t frozen => .cells #[.iface 221 (.agg #[.pointer (some ⟨7,27,none⟩)])] t frozen
  | o => o }
theorem laidWorld_met (os : Os) (args : Array Value) : laidMetH Tryz.prog laidL ((laidWorld os).forCall (fun _ _ => 0) ⟨#[],args,[]⟩).memory :=
 laidMetH_of_parts (laidMet_nil _ _) (by kernel_rfl)
end Go.Proofs.YthcahjnniendnacGreatDoor.law
namespace Go.Proofs.YthcahjnniendnacGreatDoor.lawS
open Go.ChangeShapes Go.WideShapes Go.RowKit
set_option maxRecDepth 100000
noncomputable def laidL : List (String × DataW Unit) := [("math/bits.deBruijn32tab", Rows.laid_math_bits_deBruijn32tab), ("math/bits.deBruijn64tab", Rows.laid_math_bits_deBruijn64tab), ("internal/strconv.uint64pow10", Rows.laid_internal_strconv_uint64pow10), ("errors.errorType", Rows.laid_errors_errorType), ("strconv.ErrRange", Rows.laid_strconv_ErrRange), ("strconv.ErrSyntax", Rows.laid_strconv_ErrSyntax)]
theorem handle_of_laid {W : World} (h : laidMetH Tryz.prog laidL W) : ErrT W:=by
 have e : laidL.filter (fun x => x.1 == "errors.errorType") = law.laidL := by kernel_rfl
 have h1 := h.filter (fun x => x.1 == "errors.errorType")
 rw [e] at h1
 exact law.handle_of_laid h1
theorem es : Tryz.prog.globalNamed "strconv.ErrSyntax" = some 2 := by kernel_rfl
theorem est : (Tryz.prog.globals[2]?).map (·.type) = some 27:=by kernel_rfl
theorem esi : ∃ ms,Tryz.prog.underlying 27 = some (.interface ms):=⟨_,Tryz.underlying27⟩
theorem syn_of_laid {W : World} (h : laidMetH Tryz.prog laidL W) : ∃ ev,SynE ev W:=by
 have e : laidL.filter (fun x => x.1 == "strconv.ErrSyntax") = [("strconv.ErrSyntax", Rows.laid_strconv_ErrSyntax)] := by kernel_rfl
 have h1 := h.filter (fun x => x.1 == "strconv.ErrSyntax")
 rw [e] at h1
 have h2 : laidMet Tryz.prog [("strconv.ErrSyntax", Rows.laid_strconv_ErrSyntax)] W := h1
 obtain ⟨ps,⟨g0,t0,cs0,f0,p0,q0,hg0,ht0,hv0,hd0,_,_⟩,_,_⟩:=h2
 obtain rfl:=Option.some.inj (es.symm.trans hg0)
 obtain rfl:=Option.some.inj (est.symm.trans ht0)
 obtain ⟨ms,hms⟩:=esi
 obtain ⟨f1,u,v,hl,_,_⟩:=iface_of_trod hms hd0
 have hc:=World.var?_cell hg0 hv0 0
 have hc2 : cs0[0]? = some (.iface u v):=by rw [← Array.getElem?_toList,hl];rfl
 exact ⟨.iface u v,hc.trans hc2,.inr ⟨u,v,rfl⟩⟩
def tabCells : DataW Unit → Array Value
 | .agg xs => (xs.map fun | .lit (.int k z) => Value.int k z | _ => Value.nilIface).toArray
 | _ => #[]
def sentText : DataW Unit → ByteArray
 | .iface _ (.ptr (.agg [.lit (.string l)])) => ⟨l.toArray⟩
 | _ => ⟨#[]⟩
def put (w : World) (g : Nat) (cs : Array Value) : World:={ w with heap:=w.heap.modify g fun
 | .cells _ t frozen => .cells cs t frozen
 | o => o }
noncomputable def low : Nat:=(World.holding Tryz.prog default ⟨#[],#[],[]⟩).heap.size
noncomputable def laidWorld (os : Os) : World :=
 put (put (put (put (put (put (World.holding Tryz.prog os ⟨#[.cells #[.string (sentText Rows.laid_strconv_ErrRange)] 300,.cells #[.string (sentText Rows.laid_strconv_ErrSyntax)] 300],#[],[]⟩) 0 #[.iface 221 (.agg #[.pointer (some ⟨7,27,none⟩)])]) 4 (tabCells Rows.laid_internal_strconv_uint64pow10)) 5 (tabCells Rows.laid_math_bits_deBruijn32tab)) 6 (tabCells Rows.laid_math_bits_deBruijn64tab)) 3 #[.iface 298 (.pointer (some ⟨low,0,none⟩))]) 2 #[.iface 298 (.pointer (some ⟨low + 1,0,none⟩))]
theorem laidWorld_met (os : Os) (args : Array Value) : laidMetH Tryz.prog laidL ((laidWorld os).forCall (fun _ _ => 0) ⟨#[],args,[]⟩).memory :=
 laidMetH_of_parts (laidMet_of_run' 8 (by kernel_rfl) (by kernel_rfl)) (by kernel_rfl)
end Go.Proofs.YthcahjnniendnacGreatDoor.lawS
