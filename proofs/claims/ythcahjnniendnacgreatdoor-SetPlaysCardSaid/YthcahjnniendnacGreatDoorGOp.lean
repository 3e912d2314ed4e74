/-
  Open, OpenI.
-/
import Derived.Test.YthcahjnniendnacGreatDoorGPl
import Derived.Test.YthcahjnniendnacGreatDoorMem
import Derived.Test.YthcahjnniendnacGreatDoorMemS
import Derived.Test.YthcahjnniendnacGreatDoorRows
import Derived.ProofKit
import Derived.OpenShut
import Derived.Deep.Slices
import Derived.Deep.Fields
import Derived.Lib.SmallJoins
set_option linter.unusedVariables false
set_option linter.unusedSimpArgs false
set_option maxRecDepth 10000
namespace Go.Proofs.YthcahjnniendnacGreatDoor
open Go.ChangeShapes Go.WideShapes Go.ChangeAt Go.RowKit Go.Deep Wf
theorem cellsOf_int : Tryz.prog.cellsOf 3 = 1:=by kernel_rfl
section
variable {H : Type} {enc : TypeId × Value → H} {w : World} {base : Nat} {spare : Nat → Bool} {held : Bool}
end
section
variable {H : Type} {enc : TypeId × Value → H} {w : World} {base : Nat} {spare : Nat → Bool} {held : Bool}
theorem flat_len {α : Type} (cells : α → List Value) (sz : Nat) (hlen : ∀ x,(cells x).length = sz) (l : List α) : (l.flatMap cells).length = l.length * sz:=by
 induction l with
 | nil => simp
 | cons a r ih => simp [ih,hlen,Nat.add_mul];omega
theorem open_row {α : Type} (cells : α → List Value) (ok : α → Prop) (sz : Nat) (hsz : 0 < sz) (hlen : ∀ x,(cells x).length = sz) {t e : TypeId} (ht : Tryz.prog.underlying t = some (.slice e)) (hce : Tryz.prog.cellsOf e = sz)
 (hel : ∀ {fuel : Nat} {cs : List Value} {x : DataW H × List MemPlace},DataW.trod enc Tryz.prog w base spare held fuel e cs = some x → ∃ y,ok y ∧ cs = cells y)
 {fuel : Nat} {A : Option Addr} {n cap : Nat} {x : DataW H × List MemPlace} (h : DataW.trod enc Tryz.prog w base spare held fuel t [.slice A n cap] = some x) :
 ∃ l : List α,Rd w sz (.slice A n cap) (l.flatMap cells) ∧ l.length = n ∧ ∀ y ∈ l,ok y:=by
 rcases open_slice ht h with ⟨hcs,_⟩ | ⟨a,len,cap',m,k,D,Pl,hcs,hb,hl,hm,hmm,hx,hi⟩
 ·simp at hcs
  obtain ⟨rfl,rfl,rfl⟩:=hcs
  exact ⟨[],Rd.nil w sz,rfl,by simp⟩
 ·simp at hcs
  obtain ⟨rfl,rfl,rfl⟩:=hcs
  have hle : n ≤ m:=by rw [hmm];split <;> omega
  rw [hce] at hi
  have build : ∀ q,q ≤ n → ∃ l : List α,l.length = q ∧ (∀ y ∈ l,ok y) ∧ ∀ j u,(l.flatMap cells)[j]? = some u → w.cell? (a.add j) = some u:=by
   intro q
   induction q with
   | zero => intro _;exact ⟨[],rfl,by simp,by simp⟩
   | succ q ih =>
     intro hq
     obtain ⟨l,hl1,hl2,hl3⟩:=ih (by omega)
     obtain ⟨cs',hc1,hc2⟩:=hi q (by omega)
     obtain ⟨y,hok,rfl⟩:=hel hc2
     obtain ⟨_,_,hc⟩:=World.cells?_some hc1
     refine ⟨l ++ [y],by simp [hl1],fun y' hy => by
      rcases List.mem_append.1 hy with hy | hy
      ·exact hl2 y' hy
      ·simp at hy;subst hy;exact hok,fun j u hu => ?_⟩
     rw [List.flatMap_append] at hu
     by_cases hj : j < (l.flatMap cells).length
     ·rw [List.getElem?_append_left hj] at hu
      exact hl3 j u hu
     ·rw [List.getElem?_append_right (by omega)] at hu
      have hlen' : (l.flatMap cells).length = q * sz:=by rw [flat_len cells sz hlen,hl1]
      rw [hlen'] at hu hj
      have hlt : j - q * sz < sz:=by
       have:=(List.getElem?_eq_some_iff.1 hu).1
       simpa [hlen] using this
      have:=hc (j - q * sz) hlt
      have e' : (a.add (q * sz)).add (j - q * sz) = a.add j:=by
       rw [Go.Deep.add_add];congr 1;omega
      rw [e'] at this
      rw [this,← hu]
      simp
  obtain ⟨l,hl1,hl2,hl3⟩:=build n (Nat.le_refl _)
  refine ⟨l,⟨_,n,cap,rfl,hl,by unfold maxLen at hm;omega,by rw [flat_len cells sz hlen,hl1],fun hn => ?_⟩,hl1,hl2⟩
  obtain ⟨b,off,spot⟩:=a
  have hpos : 0 < (l.flatMap cells).length:=by rw [flat_len cells sz hlen,hl1];exact Nat.mul_pos hn hsz
  have hc0:=hl3 0 _ (List.getElem?_eq_getElem hpos)
  have hspot : spot = none:=by simpa [Addr.add] using World.cell?_spot hc0
  subst hspot
  exact ⟨b,off,rfl,fun j u hu => by rw [← add_mk];exact hl3 j u hu⟩
set_option maxRecDepth 10000
end
end Go.Proofs.YthcahjnniendnacGreatDoor
