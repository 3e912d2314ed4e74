/-
  MeanA, MeanB, MeanC, MeanD, MeanE, MeanF.
-/
import Derived.Test.YthcahjnniendnacGreatDoorGPl
import Derived.Test.YthcahjnniendnacGreatDoorGQ
import Derived.Test.YthcahjnniendnacGreatDoorGRex
import Derived.Test.YthcahjnniendnacGreatDoorGWd
import Derived.Test.YthcahjnniendnacGreatDoorQueue
import Derived.Test.YthcahjnniendnacGreatDoorSpot
import Derived.Deep.RegionHeld3
import Derived.Carry
import Derived.BigQuiet
set_option linter.unusedVariables false
set_option linter.unusedSimpArgs false
namespace Go.Proofs.YthcahjnniendnacGreatDoor
open Go.RowKit Wf
def Pl (w : World) (g n : Nat) (P : Nat → Prop) : Prop:=∃ cs : Array Value,Blk w g 4 cs ∧ cs.size = n + 1 ∧ ∀ k,k ≤ n → ∃ b : Bool,cs[k]? = some (.bool b) ∧ (b = true ↔ P k)
theorem Pl.lt {w : World} {g n : Nat} {P : Nat → Prop} (h : Pl w g n P) : g < w.heap.size:=by
 obtain ⟨cs,hb,_⟩:=h
 exact hb.lt
theorem Pl.kept {w w' : World} {g n : Nat} {P : Nat → Prop} {row : Option Nat} (h : Pl w g n P) (hg : w.grownBy w' row) (hne : some g ≠ row) : Pl w' g n P:=by
 obtain ⟨cs,hb,h2⟩:=h
 exact ⟨cs,(hg.block g hb.lt hne).trans hb,h2⟩
theorem Pl.below {w w' : World} {g n : Nat} {P : Nat → Prop} (h : Pl w g n P) (hb : Below w.heap.size w w') : Pl w' g n P:=by
 obtain ⟨cs,hk,h2⟩:=h
 exact ⟨cs,hk.kept hb,h2⟩
theorem Pl.iff {w : World} {g n : Nat} {P Q : Nat → Prop} (h : Pl w g n P) (hpq : ∀ k,k ≤ n → (P k ↔ Q k)) : Pl w g n Q:=by
 obtain ⟨cs,hb,hs,hc⟩:=h
 refine ⟨cs,hb,hs,fun k hk => ?_⟩
 obtain ⟨b,h1,h2⟩:=hc k hk
 exact ⟨b,h1,h2.trans (hpq k hk)⟩
theorem Pl.cell {w : World} {g n : Nat} {P : Nat → Prop} (h : Pl w g n P) (k : Nat) (hk : k ≤ n) : ∃ b : Bool,w.cell? ⟨g,k,none⟩ = some (.bool b) ∧ (b = true ↔ P k):=by
 obtain ⟨cs,hb,_,hc⟩:=h
 obtain ⟨b,h1,h2⟩:=hc k hk
 exact ⟨b,by rw [hb.cell];exact h1,h2⟩
theorem Pl.frozen {w : World} {g n : Nat} {P : Nat → Prop} (h : Pl w g n P) (k : Nat) : w.frozen? ⟨g,k,none⟩ = false:=by
 obtain ⟨cs,hb,_⟩:=h
 exact hb.frozen k
theorem Pl.set_ {w : World} {g n : Nat} {P : Nat → Prop} (h : Pl w g n P) (k : Nat) (b : Bool) : Pl (w.setCell ⟨g,k,none⟩ (.bool b)) g n (fun j => if j = k then b = true else P j):=by
 obtain ⟨cs,hb,hs,hc⟩:=h
 refine ⟨_,hb.set_ k (.bool b),by simpa using hs,fun j hj => ?_⟩
 rw [Array.getElem?_setIfInBounds]
 by_cases e : k = j
 ·subst e
  rw [if_pos rfl,if_pos (by omega)]
  exact ⟨b,rfl,by simp⟩
 ·rw [if_neg e]
  obtain ⟨b',h1,h2⟩:=hc j hj
  exact ⟨b',h1,by show _ ↔ (if j = k then b = true else P j);rw [if_neg (fun h => e h.symm)];exact h2⟩
section
variable (l : List Nd) (s : ByteArray) (b off cap ge F M : Nat)
end
section
variable {l : List Nd} {s : ByteArray} {b off cap ge F M : Nat} {O : Nat → Prop} {w w' : World}
theorem TEnv.grown {l : List Nd} {b off cap g p : Nat} {w w' : World} (h : TEnv l b off cap g w) (hg : w.grownBy w' (some p)) (hb : p ≠ b) (hge : p ≠ g) : TEnv l b off cap g w':=by
 have hbb : w'.heap[b]? = w.heap[b]?:=hg.block b h.hb (fun e => hb (Option.some.inj e).symm)
 have hgg : w'.heap[g]? = w.heap[g]?:=hg.block g h.hg (fun e => hge (Option.some.inj e).symm)
 refine ⟨?_,Nat.lt_of_lt_of_le h.hb hg.size,Nat.lt_of_lt_of_le h.hg hg.size,fun i u hu => ?_⟩
 ·obtain ⟨A,n,cap',hv,h1,h2,h3,h4⟩:=h.hr
  refine ⟨A,n,cap',hv,h1,h2,h3,fun hn => ?_⟩
  obtain ⟨b',off',hA,hc⟩:=h4 hn
  refine ⟨b',off',hA,fun j u hu => ?_⟩
  have e : b' = b:=by
   rw [hA] at hv
   cases hv
   rfl
  subst e
  rw [World.cell?_of_block (w:=w) (a:=⟨b',off' + j,none⟩) hbb]
  exact hc j u hu
 ·rw [World.cell?_of_block (w:=w) (a:=⟨g,i,none⟩) hgg]
  exact h.hx i u hu
end
section
variable (l : List Nd) (s : ByteArray) (b off cap ge F M : Nat)
end
section
variable {l : List Nd} {s : ByteArray} {b off cap ge F M : Nat} {O : Nat → Prop} {w w' : World}
theorem natVals_snoc (xs : List Nat) (k : Nat) : natVals (xs ++ [k]) = natVals xs ++ [.int .i64 (k : Int)]:=by simp [natVals]
end
section
variable {l : List Nd} {s : ByteArray} {b off cap ge F M : Nat} {O : Nat → Prop} {w w' : World}
end
section
variable {l : List Nd} {s : ByteArray} {b off cap ge F M : Nat} {O : Nat → Prop} {w w' : World}
end
section
variable {l : List Nd} {s : ByteArray} {b off cap ge F M : Nat} {O : Nat → Prop} {w w' : World}
end
noncomputable def endsL (s : List UInt8) (t : Rx) (at_ : Nat) : List Nat:=upTo_ (Fits s t at_) (s.length + 1)
end Go.Proofs.YthcahjnniendnacGreatDoor
