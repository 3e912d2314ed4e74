/-
  Ph, Ptn.
-/
import Derived.Test.YthcahjnniendnacGreatDoorGPl
import Derived.Test.YthcahjnniendnacGreatDoorGRun
set_option linter.unusedVariables false
set_option linter.unusedSimpArgs false
namespace Wf
open Go.Proofs.YthcahjnniendnacGreatDoor (upTo_ upTo_mem)
def findF (L : Nat → Option Nat) : Nat → Nat → Option (Nat × Nat)
 | 0,_ => none
 | n + 1,i => match L i with
   | some j => some (i,j)
   | none => findF L n (i + 1)
def findO (L : Nat → Option Nat) (N i : Nat) : Option (Nat × Nat):=findF L (N + 1 - i) i
theorem findO_end {L : Nat → Option Nat} {N i : Nat} (h : N < i) : findO L N i = none:=by
 unfold findO
 rw [show N + 1 - i = 0 by omega];rfl
theorem findO_some {L : Nat → Option Nat} {N i j : Nat} (h : i ≤ N) (hj : L i = some j) : findO L N i = some (i,j):=by
 unfold findO
 rw [show N + 1 - i = (N - i) + 1 by omega]
 simp only [findF,hj]
theorem findO_none {L : Nat → Option Nat} {N i : Nat} (h : i ≤ N) (hj : L i = none) : findO L N i = findO L N (i + 1):=by
 unfold findO
 rw [show N + 1 - i = (N - i) + 1 by omega,show N + 1 - (i + 1) = N - i by omega]
 simp only [findF,hj]
theorem findO_is {L : Nat → Option Nat} {N : Nat} : ∀ {i a b : Nat},findO L N i = some (a,b) → i ≤ a ∧ a ≤ N ∧ L a = some b ∧ ∀ k,i ≤ k → k < a → L k = none:=by
 have key : ∀ n i a b,n = N + 1 - i → findO L N i = some (a,b) → i ≤ a ∧ a ≤ N ∧ L a = some b ∧ ∀ k,i ≤ k → k < a → L k = none:=by
  intro n
  induction n with
  | zero => intro i a b hn h;rw [findO_end (by omega)] at h;cases h
  | succ n ih =>
    intro i a b hn h
    cases hj : L i with
    | some j =>
      rw [findO_some (by omega) hj] at h
      cases h
      exact ⟨Nat.le_refl _,by omega,hj,fun k h1 h2 => by omega⟩
    | none =>
      rw [findO_none (by omega) hj] at h
      obtain ⟨h1,h2,h3,h4⟩:=ih (i + 1) a b (by omega) h
      refine ⟨by omega,h2,h3,fun k k1 k2 => ?_⟩
      by_cases e : k = i
      ·rw [e];exact hj
      ·exact h4 k (by omega) k2
 intro i a b h
 exact key _ i a b rfl h
theorem findO_no {L : Nat → Option Nat} {N i : Nat} : findO L N i = none ↔ ∀ k,i ≤ k → k ≤ N → L k = none:=by
 constructor
 ·have key : ∀ n i,n = N + 1 - i → findO L N i = none → ∀ k,i ≤ k → k ≤ N → L k = none:=by
   intro n
   induction n with
   | zero => intro i hn h k k1 k2;omega
   | succ n ih =>
     intro i hn h k k1 k2
     cases hj : L i with
     | some j => rw [findO_some (by omega) hj] at h;cases h
     | none =>
       rw [findO_none (by omega) hj] at h
       by_cases e : k = i
       ·rw [e];exact hj
       ·exact ih (i + 1) (by omega) h k (by omega) k2
  intro h
  exact key _ i rfl h
 ·intro h
  cases hf : findO L N i with
  | none => rfl
  | some p =>
    obtain ⟨a,b⟩:=p
    obtain ⟨h1,h2,h3,_⟩:=findO_is hf
    rw [h a h1 h2] at h3;cases h3
def behind (a b : Nat) : Nat:=if b = a then b + 1 else b
def allF (L : Nat → Option Nat) (N : Nat) : Nat → Nat → List (Nat × Nat)
 | 0,_ => []
 | n + 1,at_ => if at_ ≤ N then (match findO L N at_ with
   | some (a,b) => (a,b) :: allF L N n (behind a b)
   | none => []) else []
def allO (L : Nat → Option Nat) (N at_ : Nat) : List (Nat × Nat):=allF L N (N + 1 - at_) at_
def Behind (L : Nat → Option Nat) (N : Nat) : Prop:=∀ i j,L i = some j → i ≤ N → i ≤ j ∧ j ≤ N
theorem behind_gt {L : Nat → Option Nat} {N i a b : Nat} (hL : Behind L N) (h : findO L N i = some (a,b)) : i < behind a b ∧ behind a b ≤ N + 1 ∧ a ≤ b ∧ b ≤ N:=by
 obtain ⟨h1,h2,h3,_⟩:=findO_is h
 obtain ⟨g1,g2⟩:=hL a b h3 h2
 unfold behind
 split <;> omega
theorem allF_more {L : Nat → Option Nat} {N : Nat} (hL : Behind L N) : ∀ n m at_,N + 1 - at_ ≤ n → N + 1 - at_ ≤ m → allF L N n at_ = allF L N m at_:=by
 intro n
 induction n with
 | zero =>
   intro m at_ h1 h2
   cases m with
   | zero => rfl
   | succ m => simp only [allF];rw [if_neg (by omega)]
 | succ n ih =>
   intro m at_ h1 h2
   cases m with
   | zero => simp only [allF];rw [if_neg (by omega)]
   | succ m =>
     simp only [allF]
     by_cases h : at_ ≤ N
     ·rw [if_pos h,if_pos h]
      cases hf : findO L N at_ with
      | none => rfl
      | some p =>
        obtain ⟨a,b⟩:=p
        have hg:=behind_gt hL hf
        simp only
        rw [ih m (behind a b) (by omega) (by omega)]
     ·rw [if_neg h,if_neg h]
theorem allO_end {L : Nat → Option Nat} {N at_ : Nat} (h : N < at_) : allO L N at_ = []:=by
 unfold allO
 rw [show N + 1 - at_ = 0 by omega];rfl
theorem allO_none {L : Nat → Option Nat} {N at_ : Nat} (h : findO L N at_ = none) : allO L N at_ = []:=by
 unfold allO
 cases hn : N + 1 - at_ with
 | zero => rfl
 | succ n => simp only [allF,h];split <;> rfl
theorem allO_some {L : Nat → Option Nat} {N at_ a b : Nat} (hL : Behind L N) (h : findO L N at_ = some (a,b)) : allO L N at_ = (a,b) :: allO L N (behind a b):=by
 have hg:=behind_gt hL h
 obtain ⟨h1,h2,_,_⟩:=findO_is h
 unfold allO
 rw [show N + 1 - at_ = (N - at_) + 1 by omega]
 simp only [allF]
 rw [if_pos (by omega),h]
 simp only
 rw [allF_more hL (N - at_) (N + 1 - behind a b) (behind a b) (by omega) (Nat.le_refl _)]
theorem allO_len {L : Nat → Option Nat} {N : Nat} (hL : Behind L N) : ∀ at_,(allO L N at_).length ≤ N + 1 - at_:=by
 have key : ∀ n at_,N + 1 - at_ ≤ n → (allO L N at_).length ≤ N + 1 - at_:=by
  intro n
  induction n with
  | zero => intro at_ h;rw [allO_end (by omega)];simp
  | succ n ih =>
    intro at_ h
    cases hf : findO L N at_ with
    | none => rw [allO_none hf];simp
    | some p =>
      obtain ⟨a,b⟩:=p
      have hg:=behind_gt hL hf
      rw [allO_some hL hf]
      have:=ih (behind a b) (by omega)
      simp
      omega
 exact fun at_ => key _ at_ (Nat.le_refl _)
inductive Chain (L : Nat → Option Nat) (N : Nat) : Nat → List (Nat × Nat) → Nat → Prop where
 | nil (at_ : Nat) : Chain L N at_ [] at_
 | cons {at_ a b at' : Nat} {l : List (Nat × Nat)} (h : findO L N at_ = some (a,b)) (hc : Chain L N (behind a b) l at') : Chain L N at_ ((a,b) :: l) at'
theorem Chain.snoc {L : Nat → Option Nat} {N at_ at' a b : Nat} {l : List (Nat × Nat)} (h : Chain L N at_ l at') (hf : findO L N at' = some (a,b)) : Chain L N at_ (l ++ [(a,b)]) (behind a b):=by
 induction h with
 | nil at_ => exact .cons hf (.nil _)
 | cons h1 _ ih => exact .cons h1 (ih hf)
theorem Chain.all {L : Nat → Option Nat} {N at_ at' : Nat} {l : List (Nat × Nat)} (hL : Behind L N) (h : Chain L N at_ l at') : allO L N at_ = l ++ allO L N at':=by
 induction h with
 | nil at_ => rfl
 | cons h1 _ ih => rw [allO_some hL h1,ih];rfl
theorem Chain.le {L : Nat → Option Nat} {N at_ at' : Nat} {l : List (Nat × Nat)} (hL : Behind L N) (h : Chain L N at_ l at') : at_ ≤ at' ∧ (at_ ≤ N + 1 → at' ≤ N + 1) ∧ at_ + l.length ≤ at':=by
 induction h with
 | nil at_ => simp
 | cons h1 _ ih =>
   have hg:=behind_gt hL h1
   obtain ⟨i1,i2,i3⟩:=ih
   refine ⟨by omega,fun _ => i2 (by omega),by simp;omega⟩
noncomputable def longO (s : List UInt8) (t : Rx) (i : Nat) : Option Nat:=(upTo_ (Fits s t i) (s.length + 1)).getLast?
noncomputable def foundO (s : List UInt8) (t : Rx) (i : Nat) : Option (Nat × Nat):=findO (longO s t) s.length i
noncomputable def spansO (s : List UInt8) (t : Rx) (at_ : Nat) : List (Nat × Nat):=allO (longO s t) s.length at_
theorem longO_some {s : List UInt8} {t : Rx} {i j : Nat} (h : longO s t i = some j) : Fits s t i j ∧ j ≤ s.length:=by
 unfold longO at h
 have:=List.mem_of_getLast? h
 rw [upTo_mem] at this
 exact ⟨this.2,by omega⟩
theorem longO_none {s : List UInt8} {t : Rx} {i : Nat} : longO s t i = none ↔ ∀ j,j ≤ s.length → ¬ Fits s t i j:=by
 unfold longO
 rw [List.getLast?_eq_none_iff]
 constructor
 ·intro h j hj hf
  have : j ∈ upTo_ (Fits s t i) (s.length + 1):=upTo_mem.2 ⟨by omega,hf⟩
  rw [h] at this;cases this
 ·intro h
  refine List.eq_nil_iff_forall_not_mem.2 fun j hj => ?_
  rw [upTo_mem] at hj
  exact h j (by omega) hj.2
theorem long_behind (s : List UInt8) (t : Rx) : Behind (longO s t) s.length:=fun i j h hi => by
 obtain ⟨h1,h2⟩:=longO_some h
 exact ⟨(fits_bound s t i j h1 hi).1,h2⟩
end Wf
namespace Wf
theorem found_none {s : List UInt8} {t : Rx} : foundO s t 0 = none ↔ ∀ i j,i ≤ s.length → j ≤ s.length → ¬ Fits s t i j:=by
 unfold foundO
 rw [findO_no]
 constructor
 ·intro h i j hi hj
  exact longO_none.1 (h i (Nat.zero_le _) hi) j hj
 ·intro h i _ hi
  exact longO_none.2 fun j hj => h i j hi hj
end Wf
