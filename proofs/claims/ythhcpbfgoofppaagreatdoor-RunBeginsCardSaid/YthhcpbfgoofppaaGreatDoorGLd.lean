/-
  Open, Law, Laid, LaidR, LaidQ.
-/
import Derived.Test.YthhcpbfgoofppaaGreatDoorGLib
import Derived.Test.YthhcpbfgoofppaaGreatDoorGLit
import Derived.Test.YthhcpbfgoofppaaGreatDoorGPl
import Derived.Test.YthhcpbfgoofppaaGreatDoorGRz
import Derived.Test.YthhcpbfgoofppaaGreatDoorGSynA
import Derived.Test.YthhcpbfgoofppaaGreatDoorMem
import Derived.Test.YthhcpbfgoofppaaGreatDoorRows
import Derived.ProofKit
import Derived.OpenShut
import Derived.Deep.Slices
import Derived.Deep.Fields
import Derived.Lib.SmallJoins
import Derived.Below
import Derived.ChangeOld
import Derived.ShutString
import Derived.ChangeSame
import Derived.ChangeVars
import Derived.JoinedOf
import Derived.LaidLaws
import Derived.LaidHandle
import Derived.Stop.Joined
import Derived.Lib.LaidTab
import Derived.LaidSub
set_option linter.unusedVariables false
set_option linter.unusedSimpArgs false
namespace Go.Proofs.YthhcpbfgoofppaaGreatDoor
open Go.ChangeShapes Go.WideShapes Go.ChangeAt Go.RowKit Go.Deep Wf
theorem wf_i64_bd {n : Int} (h : (Lit.int .i64 n).wf = true) : -9223372036854775808 ≤ n ∧ n ≤ 9223372036854775807:=by
 simp [Lit.wf,IntKind.min,IntKind.max,IntKind.signed,IntKind.bits] at h
 omega
section
variable {H : Type} {enc : TypeId × Value → H} {w : World} {base : Nat} {spare : Nat → Bool} {held : Bool}
end
end Go.Proofs.YthhcpbfgoofppaaGreatDoor
namespace Go.Proofs.YthhcpbfgoofppaaGreatDoor.law
open Go.RowKit Wf
theorem own : ownKnob Tryz.prog.godebug = none:=by kernel_rfl
def LawIs (w : World) (e : Ending) (w' : World) : Prop:=e = .returned (.bool true) ∧ Below w.heap.size w w'
end Go.Proofs.YthhcpbfgoofppaaGreatDoor.law
namespace Go.Proofs.YthhcpbfgoofppaaGreatDoor.law
open Go.ChangeShapes Go.WideShapes Go.RowKit
theorem et : Tryz.prog.globalNamed "errors.errorType" = some 1 := by kernel_rfl
theorem rt : (Tryz.prog.cutTypes.find? (·.1 == "internal/reflectlite.rtype")).map (·.2) = some 197 := by kernel_rfl
theorem oneRow : ((List.range 355).filter fun t => Tryz.prog.rowNamed t [101,114,114,111,114]) = [36]:=by kernel_rfl
theorem size : Tryz.prog.types.size = 355:=by kernel_rfl
noncomputable def laidL : List (String × DataW Unit) := [("errors.errorType", Rows.laid_errors_errorType)]
theorem handle_of_laid {W : World} (h : laidMetH Tryz.prog laidL W) : ErrT W:=by
 have h' : laidMet Tryz.prog [] W ∧ handlesMet Tryz.prog laidL W:=h
 obtain ⟨name,u,ty,e1,e2,e3,e4,e5⟩:=h'.2 _ (List.mem_singleton.2 rfl)
 have en : name = [101,114,114,111,114]:=(Option.some.inj e1).symm
 subst en
 obtain rfl:=Option.some.inj (rt.symm.trans e2)
 have hm : ty ∈ (List.range 355).filter fun t => Tryz.prog.rowNamed t [101,114,114,111,114]:=List.mem_filter.2 ⟨List.mem_range.2 (by rw [← size];exact e3),e4⟩
 rw [oneRow] at hm
 obtain rfl:=List.mem_singleton.1 hm
 have hh : typeHandle Tryz.prog 36 = .pointer (some ⟨7,36,none⟩):=by kernel_rfl
 rw [hh] at e5
 have hc:=World.var?_cell et e5 0
 unfold ErrT
 simpa using hc
noncomputable def laidWorld (os : Os) : World :=
 let w0:=World.holding Tryz.prog os ⟨#[],#[],[]⟩
 { w0 with heap:=w0.heap.modify 1 fun
  | .cells _ t frozen => .cells #[.iface 197 (.agg #[.pointer (some ⟨7,36,none⟩)])] t frozen
  | o => o }
theorem laidWorld_met (os : Os) (args : Array Value) : laidMetH Tryz.prog laidL ((laidWorld os).forCall (fun _ _ => 0) ⟨#[],args,[]⟩).memory :=
 laidMetH_of_parts (laidMet_nil _ _) (by kernel_rfl)
end Go.Proofs.YthhcpbfgoofppaaGreatDoor.law
namespace Go.Proofs.YthhcpbfgoofppaaGreatDoor.lawR
open Go.ChangeShapes Go.WideShapes Go.RowKit
set_option maxRecDepth 100000
noncomputable def laidL : List (String × DataW Unit) := [("math/bits.deBruijn32tab", Rows.laid_math_bits_deBruijn32tab), ("math/bits.deBruijn64tab", Rows.laid_math_bits_deBruijn64tab), ("internal/strconv.uint64pow10", Rows.laid_internal_strconv_uint64pow10), ("errors.errorType", Rows.laid_errors_errorType), ("strconv.ErrRange", Rows.laid_strconv_ErrRange), ("strconv.ErrSyntax", Rows.laid_strconv_ErrSyntax)]
theorem handle_of_laid {W : World} (h : laidMetH Tryz.prog laidL W) : ErrT W:=by
 have e : laidL.filter (fun x => x.1 == "errors.errorType") = law.laidL := by kernel_rfl
 have h1 := h.filter (fun x => x.1 == "errors.errorType")
 rw [e] at h1
 exact law.handle_of_laid h1
theorem tab_of_laid {W : World} (h : laidMetH Tryz.prog laidL W) : Tab10 W:=by
 have e : laidL.filter (fun x => x.1 == "internal/strconv.uint64pow10") = [("internal/strconv.uint64pow10", Lib.tabData .u64 Lib.pow10Tab)] := by kernel_rfl
 have h1 := h.filter (fun x => x.1 == "internal/strconv.uint64pow10")
 rw [e] at h1
 have h2 : laidMet Tryz.prog [("internal/strconv.uint64pow10", Lib.tabData .u64 Lib.pow10Tab)] W := h1
 exact Lib.tabIs_of_head (g:=2) (t:=244) (e:=110) (n:=20) (by kernel_rfl) (by kernel_rfl) (by kernel_rfl) (by kernel_rfl) (by kernel_rfl) (by kernel_rfl) h2
theorem es : Tryz.prog.globalNamed "strconv.ErrSyntax" = some 3 := by kernel_rfl
theorem est : (Tryz.prog.globals[3]?).map (·.type) = some 36:=by kernel_rfl
theorem esi : ∃ ms,Tryz.prog.underlying 36 = some (.interface ms):=⟨_,Tryz.underlying36⟩
theorem syn_of_laid {W : World} (h : laidMetH Tryz.prog laidL W) : ∃ ev,SynE ev W:=by
 have e : laidL.filter (fun x => x.1 == "strconv.ErrSyntax") = [("strconv.ErrSyntax", Rows.laid_strconv_ErrSyntax)] := by kernel_rfl
 have h1 := h.filter (fun x => x.1 == "strconv.ErrSyntax")
 rw [e] at h1
 have h2 : laidMet Tryz.prog [("strconv.ErrSyntax", Rows.laid_strconv_ErrSyntax)] W := h1
 obtain ⟨ps,⟨g0,t0,cs0,f0,p0,q0,hg0,ht0,hv0,hd0,_,_⟩,_,_⟩:=h2
 obtain rfl:=Option.some.inj (es.symm.trans hg0)
 obtain rfl:=Option.some.inj (est.symm.trans ht0)
 obtain ⟨ms,hms⟩:=esi
 obtain ⟨f1,u,v,hl,_,_⟩:=iface_of_trod hms hd0
 have hc:=World.var?_cell hg0 hv0 0
 have hc2 : cs0[0]? = some (.iface u v):=by rw [← Array.getElem?_toList,hl];rfl
 exact ⟨.iface u v,hc.trans hc2,.inr ⟨u,v,rfl⟩⟩
def tabCells : DataW Unit → Array Value
 | .agg xs => (xs.map fun | .lit (.int k z) => Value.int k z | _ => Value.nilIface).toArray
 | _ => #[]
def sentText : DataW Unit → ByteArray
 | .iface _ (.ptr (.agg [.lit (.string l)])) => ⟨l.toArray⟩
 | _ => ⟨#[]⟩
def put (w : World) (g : Nat) (cs : Array Value) : World:={ w with heap:=w.heap.modify g fun
 | .cells _ t frozen => .cells cs t frozen
 | o => o }
noncomputable def low : Nat:=(World.holding Tryz.prog default ⟨#[],#[],[]⟩).heap.size
noncomputable def laidWorld (os : Os) : World :=
 put (put (put (put (put (put (World.holding Tryz.prog os ⟨#[.cells #[.string (sentText Rows.laid_strconv_ErrRange)] 285,.cells #[.string (sentText Rows.laid_strconv_ErrSyntax)] 285],#[],[]⟩) 1 #[.iface 197 (.agg #[.pointer (some ⟨7,36,none⟩)])]) 2 (tabCells Rows.laid_internal_strconv_uint64pow10)) 5 (tabCells Rows.laid_math_bits_deBruijn32tab)) 6 (tabCells Rows.laid_math_bits_deBruijn64tab)) 4 #[.iface 283 (.pointer (some ⟨low,0,none⟩))]) 3 #[.iface 283 (.pointer (some ⟨low + 1,0,none⟩))]
theorem laidWorld_met (os : Os) (args : Array Value) : laidMetH Tryz.prog laidL ((laidWorld os).forCall (fun _ _ => 0) ⟨#[],args,[]⟩).memory :=
 laidMetH_of_parts (laidMet_of_run' 8 (by kernel_rfl) (by kernel_rfl)) (by kernel_rfl)
set_option maxRecDepth 100000
theorem er : Tryz.prog.globalNamed "strconv.ErrRange" = some 4 := by kernel_rfl
theorem ert : (Tryz.prog.globals[4]?).map (·.type) = some 36:=by kernel_rfl
theorem rng_of_laid {W : World} (h : laidMetH Tryz.prog laidL W) : ∃ rv,RngE rv W:=by
 have e : laidL.filter (fun x => x.1 == "strconv.ErrRange") = [("strconv.ErrRange", Rows.laid_strconv_ErrRange)] := by kernel_rfl
 have h1 := h.filter (fun x => x.1 == "strconv.ErrRange")
 rw [e] at h1
 have h2 : laidMet Tryz.prog [("strconv.ErrRange", Rows.laid_strconv_ErrRange)] W := h1
 obtain ⟨ps,⟨g0,t0,cs0,f0,p0,q0,hg0,ht0,hv0,hd0,_,_⟩,_,_⟩:=h2
 obtain rfl:=Option.some.inj (er.symm.trans hg0)
 obtain rfl:=Option.some.inj (ert.symm.trans ht0)
 obtain ⟨ms,hms⟩:=esi
 obtain ⟨f1,u,v,hl,_,_⟩:=iface_of_trod hms hd0
 have hc:=World.var?_cell hg0 hv0 0
 have hc2 : cs0[0]? = some (.iface u v):=by rw [← Array.getElem?_toList,hl];rfl
 exact ⟨.iface u v,hc.trans hc2,.inr ⟨u,v,rfl⟩⟩
theorem lib_of_laid {W : World} (h : laidMetH Tryz.prog laidL W) : setW.LibE W.heap.size W:=by
 obtain ⟨ev,h1⟩:=syn_of_laid h
 obtain ⟨rv,h2⟩:=rng_of_laid h
 exact setW.LibE.of h1 h2 (handle_of_laid h) (tab_of_laid h)
end Go.Proofs.YthhcpbfgoofppaaGreatDoor.lawR
