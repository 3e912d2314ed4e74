/-
  Ph, Ptn, Pj, Pq.
-/
import Derived.Test.YthhcpbfgoofppaaGreatDoorGPl
import Derived.Test.YthhcpbfgoofppaaGreatDoorGRun
import Derived.Lib.Join
set_option linter.unusedVariables false
set_option linter.unusedSimpArgs false
namespace Wf
open Go.Proofs.YthhcpbfgoofppaaGreatDoor (upTo_ upTo_mem)
def findF (L : Nat → Option Nat) : Nat → Nat → Option (Nat × Nat)
 | 0,_ => none
 | n + 1,i => match L i with
   | some j => some (i,j)
   | none => findF L n (i + 1)
def findO (L : Nat → Option Nat) (N i : Nat) : Option (Nat × Nat):=findF L (N + 1 - i) i
theorem findO_end {L : Nat → Option Nat} {N i : Nat} (h : N < i) : findO L N i = none:=by
 unfold findO
 rw [show N + 1 - i = 0 by omega];rfl
theorem findO_some {L : Nat → Option Nat} {N i j : Nat} (h : i ≤ N) (hj : L i = some j) : findO L N i = some (i,j):=by
 unfold findO
 rw [show N + 1 - i = (N - i) + 1 by omega]
 simp only [findF,hj]
theorem findO_none {L : Nat → Option Nat} {N i : Nat} (h : i ≤ N) (hj : L i = none) : findO L N i = findO L N (i + 1):=by
 unfold findO
 rw [show N + 1 - i = (N - i) + 1 by omega,show N + 1 - (i + 1) = N - i by omega]
 simp only [findF,hj]
theorem findO_is {L : Nat → Option Nat} {N : Nat} : ∀ {i a b : Nat},findO L N i = some (a,b) → i ≤ a ∧ a ≤ N ∧ L a = some b ∧ ∀ k,i ≤ k → k < a → L k = none:=by
 have key : ∀ n i a b,n = N + 1 - i → findO L N i = some (a,b) → i ≤ a ∧ a ≤ N ∧ L a = some b ∧ ∀ k,i ≤ k → k < a → L k = none:=by
  intro n
  induction n with
  | zero => intro i a b hn h;rw [findO_end (by omega)] at h;cases h
  | succ n ih =>
    intro i a b hn h
    cases hj : L i with
    | some j =>
      rw [findO_some (by omega) hj] at h
      cases h
      exact ⟨Nat.le_refl _,by omega,hj,fun k h1 h2 => by omega⟩
    | none =>
      rw [findO_none (by omega) hj] at h
      obtain ⟨h1,h2,h3,h4⟩:=ih (i + 1) a b (by omega) h
      refine ⟨by omega,h2,h3,fun k k1 k2 => ?_⟩
      by_cases e : k = i
      ·rw [e];exact hj
      ·exact h4 k (by omega) k2
 intro i a b h
 exact key _ i a b rfl h
theorem findO_no {L : Nat → Option Nat} {N i : Nat} : findO L N i = none ↔ ∀ k,i ≤ k → k ≤ N → L k = none:=by
 constructor
 ·have key : ∀ n i,n = N + 1 - i → findO L N i = none → ∀ k,i ≤ k → k ≤ N → L k = none:=by
   intro n
   induction n with
   | zero => intro i hn h k k1 k2;omega
   | succ n ih =>
     intro i hn h k k1 k2
     cases hj : L i with
     | some j => rw [findO_some (by omega) hj] at h;cases h
     | none =>
       rw [findO_none (by omega) hj] at h
       by_cases e : k = i
       ·rw [e];exact hj
       ·exact ih (i + 1) (by omega) h k (by omega) k2
  intro h
  exact key _ i rfl h
 ·intro h
  cases hf : findO L N i with
  | none => rfl
  | some p =>
    obtain ⟨a,b⟩:=p
    obtain ⟨h1,h2,h3,_⟩:=findO_is hf
    rw [h a h1 h2] at h3;cases h3
def behind (a b : Nat) : Nat:=if b = a then b + 1 else b
def allF (L : Nat → Option Nat) (N : Nat) : Nat → Nat → List (Nat × Nat)
 | 0,_ => []
 | n + 1,at_ => if at_ ≤ N then (match findO L N at_ with
   | some (a,b) => (a,b) :: allF L N n (behind a b)
   | none => []) else []
def allO (L : Nat → Option Nat) (N at_ : Nat) : List (Nat × Nat):=allF L N (N + 1 - at_) at_
def Behind (L : Nat → Option Nat) (N : Nat) : Prop:=∀ i j,L i = some j → i ≤ N → i ≤ j ∧ j ≤ N
theorem behind_gt {L : Nat → Option Nat} {N i a b : Nat} (hL : Behind L N) (h : findO L N i = some (a,b)) : i < behind a b ∧ behind a b ≤ N + 1 ∧ a ≤ b ∧ b ≤ N:=by
 obtain ⟨h1,h2,h3,_⟩:=findO_is h
 obtain ⟨g1,g2⟩:=hL a b h3 h2
 unfold behind
 split <;> omega
theorem allF_more {L : Nat → Option Nat} {N : Nat} (hL : Behind L N) : ∀ n m at_,N + 1 - at_ ≤ n → N + 1 - at_ ≤ m → allF L N n at_ = allF L N m at_:=by
 intro n
 induction n with
 | zero =>
   intro m at_ h1 h2
   cases m with
   | zero => rfl
   | succ m => simp only [allF];rw [if_neg (by omega)]
 | succ n ih =>
   intro m at_ h1 h2
   cases m with
   | zero => simp only [allF];rw [if_neg (by omega)]
   | succ m =>
     simp only [allF]
     by_cases h : at_ ≤ N
     ·rw [if_pos h,if_pos h]
      cases hf : findO L N at_ with
      | none => rfl
      | some p =>
        obtain ⟨a,b⟩:=p
        have hg:=behind_gt hL hf
        simp only
        rw [ih m (behind a b) (by omega) (by omega)]
     ·rw [if_neg h,if_neg h]
theorem allO_end {L : Nat → Option Nat} {N at_ : Nat} (h : N < at_) : allO L N at_ = []:=by
 unfold allO
 rw [show N + 1 - at_ = 0 by omega];rfl
theorem allO_none {L : Nat → Option Nat} {N at_ : Nat} (h : findO L N at_ = none) : allO L N at_ = []:=by
 unfold allO
 cases hn : N + 1 - at_ with
 | zero => rfl
 | succ n => simp only [allF,h];split <;> rfl
theorem allO_some {L : Nat → Option Nat} {N at_ a b : Nat} (hL : Behind L N) (h : findO L N at_ = some (a,b)) : allO L N at_ = (a,b) :: allO L N (behind a b):=by
 have hg:=behind_gt hL h
 obtain ⟨h1,h2,_,_⟩:=findO_is h
 unfold allO
 rw [show N + 1 - at_ = (N - at_) + 1 by omega]
 simp only [allF]
 rw [if_pos (by omega),h]
 simp only
 rw [allF_more hL (N - at_) (N + 1 - behind a b) (behind a b) (by omega) (Nat.le_refl _)]
theorem allO_len {L : Nat → Option Nat} {N : Nat} (hL : Behind L N) : ∀ at_,(allO L N at_).length ≤ N + 1 - at_:=by
 have key : ∀ n at_,N + 1 - at_ ≤ n → (allO L N at_).length ≤ N + 1 - at_:=by
  intro n
  induction n with
  | zero => intro at_ h;rw [allO_end (by omega)];simp
  | succ n ih =>
    intro at_ h
    cases hf : findO L N at_ with
    | none => rw [allO_none hf];simp
    | some p =>
      obtain ⟨a,b⟩:=p
      have hg:=behind_gt hL hf
      rw [allO_some hL hf]
      have:=ih (behind a b) (by omega)
      simp
      omega
 exact fun at_ => key _ at_ (Nat.le_refl _)
theorem allO_in {L : Nat → Option Nat} {N : Nat} (hL : Behind L N) : ∀ at_,∀ p ∈ allO L N at_,at_ ≤ p.1 ∧ p.1 ≤ p.2 ∧ p.2 ≤ N ∧ L p.1 = some p.2:=by
 have key : ∀ n at_,N + 1 - at_ ≤ n → ∀ p ∈ allO L N at_,at_ ≤ p.1 ∧ p.1 ≤ p.2 ∧ p.2 ≤ N ∧ L p.1 = some p.2:=by
  intro n
  induction n with
  | zero => intro at_ h p hp;rw [allO_end (by omega)] at hp;cases hp
  | succ n ih =>
    intro at_ h p hp
    cases hf : findO L N at_ with
    | none => rw [allO_none hf] at hp;cases hp
    | some q =>
      obtain ⟨a,b⟩:=q
      have hg:=behind_gt hL hf
      obtain ⟨h1,h2,h3,_⟩:=findO_is hf
      rw [allO_some hL hf] at hp
      rcases List.mem_cons.1 hp with rfl | hp
      ·exact ⟨h1,hg.2.2.1,hg.2.2.2,h3⟩
      ·obtain ⟨k1,k2,k3,k4⟩:=ih (behind a b) (by omega) p hp
       exact ⟨by omega,k2,k3,k4⟩
 exact fun at_ => key _ at_ (Nat.le_refl _)
inductive Chain (L : Nat → Option Nat) (N : Nat) : Nat → List (Nat × Nat) → Nat → Prop where
 | nil (at_ : Nat) : Chain L N at_ [] at_
 | cons {at_ a b at' : Nat} {l : List (Nat × Nat)} (h : findO L N at_ = some (a,b)) (hc : Chain L N (behind a b) l at') : Chain L N at_ ((a,b) :: l) at'
theorem Chain.snoc {L : Nat → Option Nat} {N at_ at' a b : Nat} {l : List (Nat × Nat)} (h : Chain L N at_ l at') (hf : findO L N at' = some (a,b)) : Chain L N at_ (l ++ [(a,b)]) (behind a b):=by
 induction h with
 | nil at_ => exact .cons hf (.nil _)
 | cons h1 _ ih => exact .cons h1 (ih hf)
theorem Chain.all {L : Nat → Option Nat} {N at_ at' : Nat} {l : List (Nat × Nat)} (hL : Behind L N) (h : Chain L N at_ l at') : allO L N at_ = l ++ allO L N at':=by
 induction h with
 | nil at_ => rfl
 | cons h1 _ ih => rw [allO_some hL h1,ih];rfl
theorem Chain.le {L : Nat → Option Nat} {N at_ at' : Nat} {l : List (Nat × Nat)} (hL : Behind L N) (h : Chain L N at_ l at') : at_ ≤ at' ∧ (at_ ≤ N + 1 → at' ≤ N + 1) ∧ at_ + l.length ≤ at':=by
 induction h with
 | nil at_ => simp
 | cons h1 _ ih =>
   have hg:=behind_gt hL h1
   obtain ⟨i1,i2,i3⟩:=ih
   refine ⟨by omega,fun _ => i2 (by omega),by simp;omega⟩
noncomputable def longO (s : List UInt8) (t : Rx) (i : Nat) : Option Nat:=(upTo_ (Fits s t i) (s.length + 1)).getLast?
noncomputable def foundO (s : List UInt8) (t : Rx) (i : Nat) : Option (Nat × Nat):=findO (longO s t) s.length i
noncomputable def spansO (s : List UInt8) (t : Rx) (at_ : Nat) : List (Nat × Nat):=allO (longO s t) s.length at_
theorem longO_some {s : List UInt8} {t : Rx} {i j : Nat} (h : longO s t i = some j) : Fits s t i j ∧ j ≤ s.length:=by
 unfold longO at h
 have:=List.mem_of_getLast? h
 rw [upTo_mem] at this
 exact ⟨this.2,by omega⟩
theorem longO_none {s : List UInt8} {t : Rx} {i : Nat} : longO s t i = none ↔ ∀ j,j ≤ s.length → ¬ Fits s t i j:=by
 unfold longO
 rw [List.getLast?_eq_none_iff]
 constructor
 ·intro h j hj hf
  have : j ∈ upTo_ (Fits s t i) (s.length + 1):=upTo_mem.2 ⟨by omega,hf⟩
  rw [h] at this;cases this
 ·intro h
  refine List.eq_nil_iff_forall_not_mem.2 fun j hj => ?_
  rw [upTo_mem] at hj
  exact h j (by omega) hj.2
theorem long_behind (s : List UInt8) (t : Rx) : Behind (longO s t) s.length:=fun i j h hi => by
 obtain ⟨h1,h2⟩:=longO_some h
 exact ⟨(fits_bound s t i j h1 hi).1,h2⟩
end Wf
namespace Wf
theorem found_none {s : List UInt8} {t : Rx} : foundO s t 0 = none ↔ ∀ i j,i ≤ s.length → j ≤ s.length → ¬ Fits s t i j:=by
 unfold foundO
 rw [findO_no]
 constructor
 ·intro h i j hi hj
  exact longO_none.1 (h i (Nat.zero_le _) hi) j hj
 ·intro h i _ hi
  exact longO_none.2 fun j hj => h i j hi hj
inductive Rise (N : Nat) : Nat → List (Nat × Nat) → Prop where
 | nil (f : Nat) : Rise N f []
 | cons {f a b : Nat} {r : List (Nat × Nat)} (h1 : f ≤ a) (h2 : a ≤ b) (h3 : b ≤ N) (h : Rise N b r) : Rise N f ((a,b) :: r)
theorem Rise.weaken {N f g : Nat} {l : List (Nat × Nat)} (h : Rise N f l) (hg : g ≤ f) : Rise N g l:=by
 cases h with
 | nil => exact .nil _
 | cons h1 h2 h3 h => exact .cons (Nat.le_trans hg h1) h2 h3 h
theorem allO_rise {L : Nat → Option Nat} {N : Nat} (hL : Behind L N) : ∀ at_,Rise N at_ (allO L N at_):=by
 have key : ∀ n at_,N + 1 - at_ ≤ n → Rise N at_ (allO L N at_):=by
  intro n
  induction n with
  | zero => intro at_ h;rw [allO_end (by omega)];exact .nil _
  | succ n ih =>
    intro at_ h
    cases hf : findO L N at_ with
    | none => rw [allO_none hf];exact .nil _
    | some p =>
      obtain ⟨a,b⟩:=p
      have hg:=behind_gt hL hf
      obtain ⟨h1,_⟩:=findO_is hf
      rw [allO_some hL hf]
      refine .cons h1 hg.2.2.1 hg.2.2.2 ((ih (behind a b) (by omega)).weaken ?_)
      unfold behind
      split <;> omega
 exact fun at_ => key _ at_ (Nat.le_refl _)
def lastB : Nat → List (Nat × Nat) → Nat
 | f,[] => f
 | _,(_,b) :: r => lastB b r
theorem lastB_snoc (l : List (Nat × Nat)) (a b : Nat) : ∀ f,lastB f (l ++ [(a,b)]) = b:=by
 induction l with
 | nil => intro f;rfl
 | cons x l ih => intro f;exact ih _
theorem Rise.at_ {N a b : Nat} {r : List (Nat × Nat)} : ∀ {f : Nat} {l : List (Nat × Nat)},Rise N f (l ++ (a,b) :: r) → lastB f l ≤ a ∧ a ≤ b ∧ b ≤ N:=by
 intro f l
 induction l generalizing f with
 | nil => intro h;cases h with | cons h1 h2 h3 h => exact ⟨h1,h2,h3⟩
 | cons x l ih => intro h;cases h with | cons h1 h2 h3 h => exact ih h
theorem Rise.last {N : Nat} : ∀ {f : Nat} {l : List (Nat × Nat)},f ≤ N → Rise N f l → lastB f l ≤ N ∧ f ≤ lastB f l:=by
 intro f l
 induction l generalizing f with
 | nil => intro hf _;exact ⟨hf,Nat.le_refl _⟩
 | cons x l ih =>
   intro _ h
   cases h with
   | cons h1 h2 h3 h => have:=ih h3 h;exact ⟨this.1,by show f ≤ lastB _ l;omega⟩
def cutB (tx : ByteArray) : Nat → List (Nat × Nat) → List ByteArray
 | _,[] => []
 | f,(a,b) :: r => tx.extract f a :: cutB tx b r
theorem cutB_snoc (tx : ByteArray) (l : List (Nat × Nat)) (a b : Nat) : ∀ f,cutB tx f (l ++ [(a,b)]) = cutB tx f l ++ [tx.extract (lastB f l) a]:=by
 induction l with
 | nil => intro f;rfl
 | cons x l ih => intro f;show tx.extract f x.1 :: cutB tx x.2 (l ++ [(a,b)]) = _;rw [ih];rfl
theorem cutB_len (tx : ByteArray) (l : List (Nat × Nat)) : ∀ f,(cutB tx f l).length = l.length:=by
 induction l with
 | nil => intro f;rfl
 | cons x l ih => intro f;show (_ :: _).length = _;simp [ih]
def piecesB (tx : ByteArray) (l : List (Nat × Nat)) : List ByteArray:=cutB tx 0 l ++ [tx.extract (lastB 0 l) tx.size]
theorem piecesB_len (tx : ByteArray) (l : List (Nat × Nat)) : (piecesB tx l).length = l.length + 1:=by simp [piecesB,cutB_len]
theorem extract_le (tx : ByteArray) (a b : Nat) : (tx.extract a b).size ≤ tx.size:=by rw [ByteArray.size_extract];omega
theorem cutB_size (tx : ByteArray) (l : List (Nat × Nat)) : ∀ f,∀ s ∈ cutB tx f l,s.size ≤ tx.size:=by
 induction l with
 | nil => intro f s hs;cases hs
 | cons x l ih =>
   intro f s hs
   rcases List.mem_cons.1 hs with rfl | hs
   ·exact extract_le _ _ _
   ·exact ih _ s hs
theorem piecesB_size (tx : ByteArray) (l : List (Nat × Nat)) : ∀ s ∈ piecesB tx l,s.size ≤ tx.size:=by
 intro s hs
 rcases List.mem_append.1 hs with hs | hs
 ·exact cutB_size tx l 0 s hs
 ·obtain rfl : s = _:=by simpa using hs
  exact extract_le _ _ _
theorem split_at {α : Type} {l : List α} {k : Nat} {x : α} (h : l[k]? = some x) : l = l.take k ++ x :: l.drop (k + 1):=by
 obtain ⟨hk,rfl⟩:=List.getElem?_eq_some_iff.1 h
 rw [← List.drop_eq_getElem_cons hk,List.take_append_drop]
theorem join_le (sep : List UInt8) (m : Nat) : ∀ xs : List (List UInt8),(∀ x ∈ xs,x.length ≤ m) → (Go.Lib.join xs sep).length ≤ xs.length * (m + sep.length):=by
 intro xs
 induction xs with
 | nil => intro _;simp [Go.Lib.join]
 | cons x r ih =>
   intro h
   have hx:=h x (by simp)
   cases r with
   | nil => rw [Go.Lib.join_one];simp;omega
   | cons y r =>
     have:=ih fun z hz => h z (by simp [hz])
     have e : Go.Lib.join (x :: y :: r) sep = x ++ sep ++ Go.Lib.join (y :: r) sep:=by simp [Go.Lib.join,List.intercalate]
     rw [e,List.length_append,List.length_append,List.length_cons,Nat.succ_mul]
     omega
theorem ext_list (tx : ByteArray) (f a : Nat) : (tx.extract f a).data.toList = (tx.data.toList.take a).drop f:=by
 rw [ByteArray.data_extract,Array.toList_extract]
 simp [List.extract_eq_take_drop,List.drop_take]
def starC (R : List Nat → List Nat) : Nat → List Nat → List Nat
 | 0,L => L
 | n + 1,L => starC R n (L ++ (R L).filter fun x => !L.contains x)
def reachC (s : List UInt8) : Rx → List Nat → List Nat
 | .byte c,L => (L.filter fun i => match s[i]? with | some b => has c b.toNat | none => false).map (· + 1)
 | .empty,L => L
 | .cat a b,L => reachC s b (reachC s a L)
 | .alt a b,L => reachC s a L ++ reachC s b L
 | .star a,L => starC (reachC s a) (s.length + 1) L
 | .plus a,L => starC (reachC s a) (s.length + 1) (reachC s a L)
 | .opt a,L => L ++ reachC s a L
 | .bgn,L => L.filter (· == 0)
 | .fin,L => L.filter (· == s.length)
def starOk (R : List Nat → List Nat) (n : Nat) (L : List Nat) : Bool:=(R (starC R n L)).all fun x => (starC R n L).contains x
def stableC (s : List UInt8) : Rx → List Nat → Bool
 | .cat a b,L => stableC s a L && stableC s b (reachC s a L)
 | .alt a b,L => stableC s a L && stableC s b L
 | .star a,L => starOk (reachC s a) (s.length + 1) L && stableC s a (starC (reachC s a) (s.length + 1) L)
 | .plus a,L => stableC s a L && (starOk (reachC s a) (s.length + 1) (reachC s a L) && stableC s a (starC (reachC s a) (s.length + 1) (reachC s a L)))
 | .opt a,L => stableC s a L
 | _,_ => true
theorem starC_sound {R : List Nat → List Nat} {F : Nat → Nat → Prop} (h : ∀ L j,j ∈ R L → ∃ i ∈ L,F i j) : ∀ n L j,j ∈ starC R n L → ∃ i ∈ L,Star F i j:=by
 intro n
 induction n with
 | zero => intro L j hj;exact ⟨j,hj,.refl _⟩
 | succ n ih =>
   intro L j hj
   obtain ⟨i,hi,hs⟩:=ih _ _ hj
   rcases List.mem_append.1 hi with hi | hi
   ·exact ⟨i,hi,hs⟩
   ·obtain ⟨k,hk,hf⟩:=h L i (List.mem_filter.1 hi).1
    exact ⟨k,hk,Star.head hf hs⟩
theorem starC_mem {R : List Nat → List Nat} : ∀ n L j,j ∈ L → j ∈ starC R n L:=by
 intro n
 induction n with
 | zero => intro L j h;exact h
 | succ n ih => intro L j h;exact ih _ _ (List.mem_append_left _ h)
theorem reach_sound (s : List UInt8) (t : Rx) : ∀ L j,j ∈ reachC s t L → ∃ i ∈ L,Fits s t i j:=by
 induction t with
 | byte c =>
   intro L j h
   obtain ⟨i,hi,rfl⟩:=List.mem_map.1 h
   obtain ⟨h1,h2⟩:=List.mem_filter.1 hi
   cases hb : s[i]? with
   | none => rw [hb] at h2;cases h2
   | some b => rw [hb] at h2;exact ⟨i,h1,rfl,b,hb,h2⟩
 | empty => intro L j h;exact ⟨j,h,rfl⟩
 | bgn => intro L j h;obtain ⟨h1,h2⟩:=List.mem_filter.1 h;exact ⟨j,h1,rfl,by simpa using h2⟩
 | fin => intro L j h;obtain ⟨h1,h2⟩:=List.mem_filter.1 h;exact ⟨j,h1,rfl,by simpa using h2⟩
 | cat a b iha ihb =>
   intro L j h
   obtain ⟨k,hk,h1⟩:=ihb _ _ h
   obtain ⟨i,hi,h2⟩:=iha _ _ hk
   exact ⟨i,hi,k,h2,h1⟩
 | alt a b iha ihb =>
   intro L j h
   rcases List.mem_append.1 h with h | h
   ·obtain ⟨i,hi,h⟩:=iha _ _ h;exact ⟨i,hi,.inl h⟩
   ·obtain ⟨i,hi,h⟩:=ihb _ _ h;exact ⟨i,hi,.inr h⟩
 | star a ih => intro L j h;exact starC_sound ih _ _ _ h
 | plus a ih =>
   intro L j h
   obtain ⟨k,hk,h1⟩:=starC_sound ih _ _ _ h
   obtain ⟨i,hi,h2⟩:=ih _ _ hk
   exact ⟨i,hi,k,h2,h1⟩
 | opt a ih =>
   intro L j h
   rcases List.mem_append.1 h with h | h
   ·exact ⟨j,h,.inl rfl⟩
   ·obtain ⟨i,hi,h⟩:=ih _ _ h;exact ⟨i,hi,.inr h⟩
theorem starC_full {R : List Nat → List Nat} {F : Nat → Nat → Prop} {n : Nat} {L : List Nat} (ho : starOk R n L = true) (h : ∀ i ∈ starC R n L,∀ j,F i j → j ∈ R (starC R n L)) : ∀ i ∈ L,∀ j,Star F i j → j ∈ starC R n L:=by
 intro i hi j hs
 refine Star.inv (P:=fun x => x ∈ starC R n L) hs (starC_mem _ _ _ hi) fun x y hx hxy => ?_
 have:=h x hx y hxy
 unfold starOk at ho
 rw [List.all_eq_true] at ho
 simpa using ho y this
theorem reach_full (s : List UInt8) (t : Rx) : ∀ L,stableC s t L = true → ∀ i ∈ L,∀ j,Fits s t i j → j ∈ reachC s t L:=by
 induction t with
 | byte c =>
   rintro L _ i hi j ⟨rfl,b,hb,hh⟩
   exact List.mem_map.2 ⟨i,List.mem_filter.2 ⟨hi,by rw [hb];exact hh⟩,rfl⟩
 | empty => rintro L _ i hi j h;simp only [Fits] at h;subst h;exact hi
 | bgn => rintro L _ i hi j ⟨rfl,h⟩;exact List.mem_filter.2 ⟨hi,by simpa using h⟩
 | fin => rintro L _ i hi j ⟨rfl,h⟩;exact List.mem_filter.2 ⟨hi,by simpa using h⟩
 | cat a b iha ihb =>
   rintro L h i hi j ⟨k,h1,h2⟩
   simp only [stableC,Bool.and_eq_true] at h
   exact ihb _ h.2 k (iha _ h.1 i hi k h1) j h2
 | alt a b iha ihb =>
   rintro L h i hi j hf
   simp only [stableC,Bool.and_eq_true] at h
   rcases hf with hf | hf
   ·exact List.mem_append_left _ (iha _ h.1 i hi j hf)
   ·exact List.mem_append_right _ (ihb _ h.2 i hi j hf)
 | star a ih =>
   intro L h i hi j hf
   simp only [stableC,Bool.and_eq_true] at h
   exact starC_full h.1 (ih _ h.2) i hi j hf
 | plus a ih =>
   rintro L h i hi j ⟨k,h1,h2⟩
   simp only [stableC,Bool.and_eq_true] at h
   exact starC_full h.2.1 (ih _ h.2.2) k (ih _ h.1 i hi k h1) j h2
 | opt a ih =>
   rintro L h i hi j (rfl | hf)
   ·exact List.mem_append_left _ hi
   ·exact List.mem_append_right _ (ih _ h i hi j hf)
theorem reach_iff {s : List UInt8} {t : Rx} {i : Nat} (h : stableC s t [i] = true) (j : Nat) : Fits s t i j ↔ j ∈ reachC s t [i]:=by
 constructor
 ·exact fun hf => reach_full s t _ h i (by simp) j hf
 ·intro hj
  obtain ⟨k,hk,hf⟩:=reach_sound s t _ _ hj
  obtain rfl : k = i:=by simpa using hk
  exact hf
def longC (s : List UInt8) (t : Rx) (i : Nat) : Option Nat:=((List.range (s.length + 1)).filter fun j => (reachC s t [i]).contains j).getLast?
theorem long_eq {s : List UInt8} {t : Rx} {i : Nat} (h : stableC s t [i] = true) : longO s t i = longC s t i:=by
 unfold longO longC Go.Proofs.YthhcpbfgoofppaaGreatDoor.upTo_
 congr 1
 refine List.filter_congr fun j _ => ?_
 have:=reach_iff h j
 by_cases hf : Fits s t i j
 ·simp [hf,this.1 hf]
 ·simp [hf]
  exact fun hm => hf (this.2 hm)
def allStable (s : List UInt8) (t : Rx) : Bool:=(List.range (s.length + 1)).all fun i => stableC s t [i]
theorem found_congr {L M : Nat → Option Nat} {N : Nat} (h : ∀ i,i ≤ N → L i = M i) : ∀ i,findO L N i = findO M N i:=by
 have key : ∀ n i,i + n ≤ N + 1 → findF L n i = findF M n i:=by
  intro n
  induction n with
  | zero => intro i _;rfl
  | succ n ih =>
    intro i hi
    simp only [findF]
    rw [h i (by omega),ih (i + 1) (by omega)]
 intro i
 unfold findO
 by_cases hi : i ≤ N + 1
 ·exact key _ _ (by omega)
 ·rw [show N + 1 - i = 0 by omega];rfl
theorem long_all {s : List UInt8} {t : Rx} (h : allStable s t = true) : ∀ i,i ≤ s.length → longO s t i = longC s t i:=fun i hi => by
 unfold allStable at h
 rw [List.all_eq_true] at h
 exact long_eq (h i (by simpa using Nat.lt_succ_of_le hi))
theorem all_congr {L M : Nat → Option Nat} {N : Nat} (h : ∀ i,i ≤ N → L i = M i) (i : Nat) : allO L N i = allO M N i:=by
 have key : ∀ n i,allF L N n i = allF M N n i:=by
  intro n
  induction n with
  | zero => intro i;rfl
  | succ n ih =>
    intro i
    simp only [allF]
    rw [found_congr h i]
    split
    ·cases findO M N i with
     | none => rfl
     | some p => obtain ⟨a,b⟩:=p;simp only;rw [ih]
    ·rfl
 exact key _ _
theorem spans_eq {s : List UInt8} {t : Rx} (h : allStable s t = true) (i : Nat) : spansO s t i = allO (longC s t) s.length i:=all_congr (long_all h) i
end Wf
