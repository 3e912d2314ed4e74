/-
  Plain: the beginnings of words while a net is made.
-/
import Derived.Test.YthhcpbfgoofppaaGreatDoorPk
set_option linter.unusedVariables false
set_option linter.unusedSimpArgs false
namespace Wf
def PreK (ws : List (List UInt8)) (i j : Nat) (u : List UInt8) : Prop:=u = [] ∨ (∃ w ∈ ws.take i,u <+: w) ∨ ∃ w,ws[i]? = some w ∧ u <+: w.take j
theorem PreK_zero (ws : List (List UInt8)) (u : List UInt8) : PreK ws 0 0 u ↔ u = []:=by
 constructor
 ·rintro (h | ⟨w,h,_⟩ | ⟨w,_,h⟩)
  ·exact h
  ·simp at h
  ·simpa using h
 ·exact .inl
theorem take_snoc {w : List UInt8} {j : Nat} {c : UInt8} (hc : w[j]? = some c) : w.take (j + 1) = w.take j ++ [c]:=by
 rw [List.take_add_one,hc]
 rfl
theorem PreK_more {ws : List (List UInt8)} {i j : Nat} {w : List UInt8} {c : UInt8} (hw : ws[i]? = some w) (hc : w[j]? = some c) (u : List UInt8) : PreK ws i (j + 1) u ↔ PreK ws i j u ∨ u = w.take j ++ [c]:=by
 constructor
 ·rintro (h | h | ⟨w',h',h⟩)
  ·exact .inl (.inl h)
  ·exact .inl (.inr (.inl h))
  ·obtain rfl : w = w':=Option.some.inj (hw.symm.trans h')
   rw [take_snoc hc] at h
   rcases List.prefix_concat_iff.1 (by simpa using h) with e | e
   ·exact .inr (by simpa using e)
   ·exact .inl (.inr (.inr ⟨w,hw,e⟩))
 ·rintro ((h | h | ⟨w',h',h⟩) | h)
  ·exact .inl h
  ·exact .inr (.inl h)
  ·obtain rfl : w = w':=Option.some.inj (hw.symm.trans h')
   exact .inr (.inr ⟨w,hw,by rw [take_snoc hc];exact h.trans (List.prefix_append _ _)⟩)
  ·exact .inr (.inr ⟨w,hw,by rw [take_snoc hc,h];exact List.prefix_refl _⟩)
theorem PreK_next {ws : List (List UInt8)} {i : Nat} {w : List UInt8} (hw : ws[i]? = some w) (u : List UInt8) : PreK ws (i + 1) 0 u ↔ PreK ws i w.length u:=by
 have ht : ws.take (i + 1) = ws.take i ++ [w]:=by rw [List.take_add_one,hw];rfl
 constructor
 ·rintro (h | ⟨w',h',h⟩ | ⟨w',_,h⟩)
  ·exact .inl h
  ·rw [ht,List.mem_append,List.mem_singleton] at h'
   rcases h' with h' | rfl
   ·exact .inr (.inl ⟨w',h',h⟩)
   ·exact .inr (.inr ⟨w',hw,by rw [List.take_length];exact h⟩)
  ·exact .inl (by simpa using h)
 ·rintro (h | ⟨w',h',h⟩ | ⟨w',h',h⟩)
  ·exact .inl h
  ·exact .inr (.inl ⟨w',by rw [ht,List.mem_append];exact .inl h',h⟩)
  ·obtain rfl : w = w':=Option.some.inj (hw.symm.trans h')
   rw [List.take_length] at h
   exact .inr (.inl ⟨w,by rw [ht];simp,h⟩)
theorem PreK_end (ws : List (List UInt8)) (u : List UInt8) : PreK ws ws.length 0 u ↔ Knot ws u:=by
 constructor
 ·rintro (h | ⟨w,h',h⟩ | ⟨w,h',_⟩)
  ·exact .inl h
  ·rw [List.take_length] at h'
   exact .inr ⟨w,h',h⟩
  ·rw [List.getElem?_eq_none (Nat.le_refl _)] at h';cases h'
 ·rintro (h | ⟨w,h',h⟩)
  ·exact .inl h
  ·exact .inr (.inl ⟨w,by rw [List.take_length];exact h',h⟩)
end Wf
