/-
  Words for memory: rows of a program's steps. And plain facts about programs: the check, the ways without a byte.
-/
import Derived.Test.YthhcpbfgoofppaaGreatDoorGPl
import Derived.Test.YthhcpbfgoofppaaGreatDoorMem
set_option linter.unusedVariables false
set_option linter.unusedSimpArgs false
namespace Wf
structure St where
 op : Int
 cls : Cls
 x : Int
 y : Int
def oneP (s : St) (many : Nat) : Int :=
 if s.op < 1 ∨ 5 < s.op then 1
 else if (s.op ≠ 5 ∧ ¬(0 ≤ s.x ∧ s.x < many)) ∨ (s.op = 2 ∧ ¬(0 ≤ s.y ∧ s.y < many)) then 1
 else if (s.op ≠ 1 ∧ s.cls ≠ zc) ∨ (s.op ≠ 2 ∧ s.y ≠ 0) ∨ (s.op = 5 ∧ s.x ≠ 0) then 2
 else 0
def chkPL (many : Nat) : List St → Int
 | [] => 0
 | s :: r => if oneP s many ≠ 0 then oneP s many else chkPL many r
def chkP (p : List St) : Int:=if 200 < p.length then 3 else if p.length = 0 then 4 else chkPL p.length p
theorem chkPL_zero {many : Nat} {l : List St} (h : chkPL many l = 0) : ∀ s ∈ l,oneP s many = 0:=by
 induction l with
 | nil => intro s hs;cases hs
 | cons a r ih =>
   simp only [chkPL] at h
   split at h
   ·rename_i h0;exact absurd h h0
   ·rename_i h0
    intro s hs
    rcases List.mem_cons.1 hs with rfl | hs
    ·exact Classical.byContradiction h0
    ·exact ih h s hs
theorem zero_chkPL {many : Nat} {l : List St} (h : ∀ s ∈ l,oneP s many = 0) : chkPL many l = 0:=by
 induction l with
 | nil => rfl
 | cons a r ih =>
   simp only [chkPL]
   rw [if_neg (by simp [h a (by simp)])]
   exact ih fun s hs => h s (by simp [hs])
def okP (p : List St) : Prop:=0 < p.length ∧ p.length ≤ 200 ∧ ∀ s ∈ p,oneP s p.length = 0
theorem chkP_ok {p : List St} : chkP p = 0 ↔ okP p:=by
 unfold chkP okP
 constructor
 ·intro h
  split at h
  ·omega
  ·split at h
   ·omega
   ·exact ⟨by omega,by omega,chkPL_zero h⟩
 ·rintro ⟨h1,h2,h3⟩
  rw [if_neg (by omega),if_neg (by omega)]
  exact zero_chkPL h3
theorem oneP_zero {s : St} {many : Nat} (h : oneP s many = 0) : (1 ≤ s.op ∧ s.op ≤ 5) ∧ (s.op ≠ 5 → 0 ≤ s.x ∧ s.x < many) ∧ (s.op = 2 → 0 ≤ s.y ∧ s.y < many) ∧ (s.op ≠ 1 → s.cls = zc) ∧ (s.op ≠ 2 → s.y = 0) ∧ (s.op = 5 → s.x = 0):=by
 unfold oneP at h
 split at h
 ·omega
 ·split at h
  ·omega
  ·split at h
   ·omega
   ·rename_i h1 h2 h3
    refine ⟨by omega,fun h => ?_,fun h => ?_,fun h => ?_,fun h => ?_,fun h => ?_⟩
    ·exact Classical.byContradiction fun hn => h2 (.inl ⟨h,hn⟩)
    ·exact Classical.byContradiction fun hn => h2 (.inr ⟨h,hn⟩)
    ·exact Classical.byContradiction fun hn => h3 (.inl ⟨h,hn⟩)
    ·exact Classical.byContradiction fun hn => h3 (.inr (.inl ⟨h,hn⟩))
    ·exact Classical.byContradiction fun hn => h3 (.inr (.inr ⟨h,hn⟩))
theorem zero_oneP {s : St} {many : Nat} (h1 : 1 ≤ s.op ∧ s.op ≤ 5) (h2 : s.op ≠ 5 → 0 ≤ s.x ∧ s.x < many) (h3 : s.op = 2 → 0 ≤ s.y ∧ s.y < many) (h4 : s.op ≠ 1 → s.cls = zc) (h5 : s.op ≠ 2 → s.y = 0) (h6 : s.op = 5 → s.x = 0) : oneP s many = 0:=by
 unfold oneP
 rw [if_neg (by omega),if_neg,if_neg]
 ·rintro (⟨h,h'⟩ | ⟨h,h'⟩ | ⟨h,h'⟩)
  ·exact h' (h4 h)
  ·exact h' (h5 h)
  ·exact h' (h6 h)
 ·rintro (⟨h,h'⟩ | ⟨h,h'⟩)
  ·exact h' (h2 h)
  ·exact h' (h3 h)
def Eps (p : List St) (first last : Bool) (i j : Nat) : Prop :=
 ∃ s,p[i]? = some s ∧ ((s.op = 2 ∧ ((j : Int) = s.x ∨ (j : Int) = s.y)) ∨ (s.op = 3 ∧ first = true ∧ (j : Int) = s.x) ∨ (s.op = 4 ∧ last = true ∧ (j : Int) = s.x))
def Spr (p : List St) (first last : Bool) (from_ : List Nat) (j : Nat) : Prop:=∃ i ∈ from_,Star (Eps p first last) i j
structure Walked (p : List St) (f l : Bool) (S S' : Nat → Prop) (i : Nat) (L : List Nat) (D : Prop) : Prop where
 mono : ∀ j,S j → S' j
 root : S' i
 reach : ∀ j,S' j → ¬ S j → Star (Eps p f l) i j
 closed : ∀ j,S' j → ¬ S j → ∀ k,Eps p f l j k → S' k
 lt : ∀ j,S' j → ¬ S j → j < p.length
 takes : ∀ j,j ∈ L ↔ S' j ∧ ¬ S j ∧ ∃ s,p[j]? = some s ∧ s.op = 1
 nodup : L.Nodup
 done : D ↔ ∃ j,S' j ∧ ¬ S j ∧ ∃ s,p[j]? = some s ∧ s.op = 5
theorem Walked.seen {p : List St} {f l : Bool} {S : Nat → Prop} {i : Nat} (h : S i) : Walked p f l S S i [] False where
 mono _ h:=h
 root:=h
 reach _ h h':=absurd h h'
 closed _ h h':=absurd h h'
 lt _ h h':=absurd h h'
 takes j:=⟨(fun h => by cases h),fun h => absurd h.1 h.2.1⟩
 nodup:=List.nodup_nil
 done:=⟨fun h => h.elim,fun ⟨_,h,h',_⟩ => absurd h h'⟩
theorem Walked.leaf {p : List St} {f l : Bool} {S : Nat → Prop} {i : Nat} {s : St} (hs : p[i]? = some s) (hn : ¬ S i) (he : ∀ k,¬ Eps p f l i k) :
 Walked p f l S (fun j => S j ∨ j = i) i (if s.op = 1 then [i] else []) (s.op = 5) where
 mono _ h:=.inl h
 root:=.inr rfl
 reach j h h':=by rcases h with h | rfl;· exact absurd h h'
                  ·exact .refl _
 closed j h h' k hk:=by rcases h with h | rfl;· exact absurd h h'
                        ·exact absurd hk (he k)
 lt j h h':=by rcases h with h | rfl;· exact absurd h h'
               ·exact (List.getElem?_eq_some_iff.1 hs).1
 takes j:=by
  constructor
  ·intro h
   split at h
   ·rename_i h1
    obtain rfl : j = i:=by simpa using h
    exact ⟨.inr rfl,hn,s,hs,h1⟩
   ·cases h
  ·rintro ⟨h | rfl,h',s',hs',h1⟩
   ·exact absurd h h'
   ·rw [hs] at hs';cases hs'
    rw [if_pos h1];simp
 nodup:=by split <;> simp
 done:=by
  constructor
  ·intro h;exact ⟨i,.inr rfl,hn,s,hs,h⟩
  ·rintro ⟨j,h | rfl,h',s',hs',h1⟩
   ·exact absurd h h'
   ·rw [hs] at hs';cases hs';exact h1
theorem Walked.then {p : List St} {f l : Bool} {S S1 S2 : Nat → Prop} {i a b : Nat} {L1 L2 : List Nat} {D1 D2 : Prop}
 (h1 : Walked p f l S S1 a L1 D1) (h2 : Walked p f l S1 S2 b L2 D2) (ha : Star (Eps p f l) i a) (hb : Star (Eps p f l) i b) :
 (∀ j,S j → S2 j) ∧ S2 a ∧ S2 b ∧ (∀ j,S2 j → ¬ S j → Star (Eps p f l) i j) ∧ (∀ j,S2 j → ¬ S j → ∀ k,Eps p f l j k → S2 k) ∧ (∀ j,S2 j → ¬ S j → j < p.length) ∧
   (∀ j,j ∈ L1 ++ L2 ↔ S2 j ∧ ¬ S j ∧ ∃ s,p[j]? = some s ∧ s.op = 1) ∧ (L1 ++ L2).Nodup ∧ (D1 ∨ D2 ↔ ∃ j,S2 j ∧ ¬ S j ∧ ∃ s,p[j]? = some s ∧ s.op = 5):=by
 refine ⟨fun j h => h2.mono j (h1.mono j h),h2.mono _ h1.root,h2.root,fun j h h' => ?_,fun j h h' k hk => ?_,fun j h h' => ?_,fun j => ?_,?_,?_⟩
 ·by_cases hs : S1 j
  ·exact ha.trans (h1.reach j hs h')
  ·exact hb.trans (h2.reach j h hs)
 ·by_cases hs : S1 j
  ·exact h2.mono _ (h1.closed j hs h' k hk)
  ·exact h2.closed j h hs k hk
 ·by_cases hs : S1 j
  ·exact h1.lt j hs h'
  ·exact h2.lt j h hs
 ·rw [List.mem_append,h1.takes,h2.takes]
  constructor
  ·rintro (⟨q1,q2,q3⟩ | ⟨q1,q2,q3⟩)
   ·exact ⟨h2.mono _ q1,q2,q3⟩
   ·exact ⟨q1,fun h => q2 (h1.mono _ h),q3⟩
  ·rintro ⟨q1,q2,q3⟩
   by_cases hs : S1 j
   ·exact .inl ⟨hs,q2,q3⟩
   ·exact .inr ⟨q1,hs,q3⟩
 ·rw [List.nodup_append]
  refine ⟨h1.nodup,h2.nodup,fun x hx y hy e => ?_⟩
  subst e
  exact ((h2.takes x).1 hy).2.1 ((h1.takes x).1 hx).1
 ·rw [h1.done,h2.done]
  constructor
  ·rintro (⟨j,q1,q2,q3⟩ | ⟨j,q1,q2,q3⟩)
   ·exact ⟨j,h2.mono _ q1,q2,q3⟩
   ·exact ⟨j,q1,fun h => q2 (h1.mono _ h),q3⟩
  ·rintro ⟨j,q1,q2,q3⟩
   by_cases hs : S1 j
   ·exact .inl ⟨j,hs,q2,q3⟩
   ·exact .inr ⟨j,q1,hs,q3⟩
theorem Walked.one {p : List St} {f l : Bool} {S S' : Nat → Prop} {i x : Nat} {s : St} {L : List Nat} {D : Prop} (hs : p[i]? = some s) (hn : ¬ S i) (h1 : s.op ≠ 1) (h5 : s.op ≠ 5)
 (he : ∀ k,Eps p f l i k ↔ k = x) (hw : Walked p f l (fun j => S j ∨ j = i) S' x L D) : Walked p f l S S' i L D:=by
 have hi : i < p.length:=(List.getElem?_eq_some_iff.1 hs).1
 have hx : Star (Eps p f l) i x:=Star.one ((he x).2 rfl)
 have hop : ∀ j,(∃ s,p[j]? = some s ∧ (s.op = 1 ∨ s.op = 5)) → j ≠ i:=by
  rintro j ⟨s',hs',h⟩ rfl
  rw [hs] at hs';cases hs'
  rcases h with h | h
  ·exact h1 h
  ·exact h5 h
 have hin : ∀ j,S' j → ¬ S j → j ≠ i → ¬ (S j ∨ j = i):=fun j _ h h' hh => hh.elim h h'
 refine ⟨fun j h => hw.mono j (.inl h),hw.mono i (.inr rfl),fun j h h' => ?_,fun j h h' k hk => ?_,fun j h h' => ?_,fun j => ?_,hw.nodup,?_⟩
 ·by_cases e : j = i
  ·rw [e];exact .refl _
  ·exact hx.trans (hw.reach j h (hin j h h' e))
 ·by_cases e : j = i
  ·rw [e] at hk;rw [(he k).1 hk];exact hw.root
  ·exact hw.closed j h (hin j h h' e) k hk
 ·by_cases e : j = i
  ·rw [e];exact hi
  ·exact hw.lt j h (hin j h h' e)
 ·rw [hw.takes]
  constructor
  ·rintro ⟨q1,q2,q3⟩;exact ⟨q1,fun h => q2 (.inl h),q3⟩
  ·rintro ⟨q1,q2,s',q3,q4⟩;exact ⟨q1,hin j q1 q2 (hop j ⟨s',q3,.inl q4⟩),s',q3,q4⟩
 ·rw [hw.done]
  constructor
  ·rintro ⟨j,q1,q2,q3⟩;exact ⟨j,q1,fun h => q2 (.inl h),q3⟩
  ·rintro ⟨j,q1,q2,s',q3,q4⟩;exact ⟨j,q1,hin j q1 q2 (hop j ⟨s',q3,.inr q4⟩),s',q3,q4⟩
theorem Walked.two {p : List St} {f l : Bool} {S S1 S2 : Nat → Prop} {i x y : Nat} {s : St} {L1 L2 : List Nat} {D1 D2 : Prop} (hs : p[i]? = some s) (hn : ¬ S i) (h1 : s.op ≠ 1) (h5 : s.op ≠ 5)
 (he : ∀ k,Eps p f l i k ↔ k = x ∨ k = y) (hw : Walked p f l (fun j => S j ∨ j = i) S1 x L1 D1) (hv : Walked p f l S1 S2 y L2 D2) : Walked p f l S S2 i (L1 ++ L2) (D1 ∨ D2):=by
 have hi : i < p.length:=(List.getElem?_eq_some_iff.1 hs).1
 obtain ⟨a1,a2,a3,a4,a5,a6,a7,a8,a9⟩:=Walked.then hw hv (Star.one ((he x).2 (.inl rfl))) (Star.one ((he y).2 (.inr rfl)))
 have hop : ∀ j,(∃ s,p[j]? = some s ∧ (s.op = 1 ∨ s.op = 5)) → j ≠ i:=by
  rintro j ⟨s',hs',h⟩ rfl
  rw [hs] at hs';cases hs'
  rcases h with h | h
  ·exact h1 h
  ·exact h5 h
 have hin : ∀ j,¬ S j → j ≠ i → ¬ (S j ∨ j = i):=fun j h h' hh => hh.elim h h'
 refine ⟨fun j h => a1 j (.inl h),a1 i (.inr rfl),fun j h h' => ?_,fun j h h' k hk => ?_,fun j h h' => ?_,fun j => ?_,a8,?_⟩
 ·by_cases e : j = i
  ·rw [e];exact .refl _
  ·exact a4 j h (hin j h' e)
 ·by_cases e : j = i
  ·rw [e] at hk
   rcases (he k).1 hk with rfl | rfl
   ·exact a2
   ·exact a3
  ·exact a5 j h (hin j h' e) k hk
 ·by_cases e : j = i
  ·rw [e];exact hi
  ·exact a6 j h (hin j h' e)
 ·rw [a7]
  constructor
  ·rintro ⟨q1,q2,q3⟩;exact ⟨q1,fun h => q2 (.inl h),q3⟩
  ·rintro ⟨q1,q2,s',q3,q4⟩;exact ⟨q1,hin j q2 (hop j ⟨s',q3,.inl q4⟩),s',q3,q4⟩
 ·rw [a9]
  constructor
  ·rintro ⟨j,q1,q2,q3⟩;exact ⟨j,q1,fun h => q2 (.inl h),q3⟩
  ·rintro ⟨j,q1,q2,s',q3,q4⟩;exact ⟨j,q1,hin j q2 (hop j ⟨s',q3,.inr q4⟩),s',q3,q4⟩
structure Acc (p : List St) (f l : Bool) (fs : List Nat) (S : Nat → Prop) (L : List Nat) (D : Prop) : Prop where
 roots : ∀ i ∈ fs,S i
 reach : ∀ j,S j → Spr p f l fs j
 closed : ∀ j,S j → ∀ k,Eps p f l j k → S k
 lt : ∀ j,S j → j < p.length
 takes : ∀ j,j ∈ L ↔ S j ∧ ∃ s,p[j]? = some s ∧ s.op = 1
 nodup : L.Nodup
 done : D ↔ ∃ j,S j ∧ ∃ s,p[j]? = some s ∧ s.op = 5
theorem Acc.start (p : List St) (f l : Bool) : Acc p f l [] (fun _ => False) [] False where
 roots i h:=by cases h
 reach j h:=h.elim
 closed j h:=h.elim
 lt j h:=h.elim
 takes j:=⟨(fun h => by cases h),fun h => h.1.elim⟩
 nodup:=List.nodup_nil
 done:=⟨fun h => h.elim,fun ⟨_,h,_⟩ => h.elim⟩
theorem Acc.step {p : List St} {f l : Bool} {fs : List Nat} {S S' : Nat → Prop} {L L' : List Nat} {D D' : Prop} {i : Nat} (h : Acc p f l fs S L D) (hw : Walked p f l S S' i L' D') : Acc p f l (fs ++ [i]) S' (L ++ L') (D ∨ D') where
 roots j hj:=by
  rcases List.mem_append.1 hj with hj | hj
  ·exact hw.mono _ (h.roots j hj)
  ·obtain rfl : j = i:=by simpa using hj
   exact hw.root
 reach j hj:=by
  by_cases hs : S j
  ·obtain ⟨a,h1,h2⟩:=h.reach j hs
   exact ⟨a,by simp [h1],h2⟩
  ·exact ⟨i,by simp,hw.reach j hj hs⟩
 closed j hj k hk:=by
  by_cases hs : S j
  ·exact hw.mono _ (h.closed j hs k hk)
  ·exact hw.closed j hj hs k hk
 lt j hj:=by
  by_cases hs : S j
  ·exact h.lt j hs
  ·exact hw.lt j hj hs
 takes j:=by
  rw [List.mem_append,h.takes,hw.takes]
  constructor
  ·rintro (⟨q1,q2⟩ | ⟨q1,_,q2⟩)
   ·exact ⟨hw.mono _ q1,q2⟩
   ·exact ⟨q1,q2⟩
  ·rintro ⟨q1,q2⟩
   by_cases hs : S j
   ·exact .inl ⟨hs,q2⟩
   ·exact .inr ⟨q1,hs,q2⟩
 nodup:=by
  rw [List.nodup_append]
  refine ⟨h.nodup,hw.nodup,fun x hx y hy e => ?_⟩
  subst e
  exact ((hw.takes x).1 hy).2.1 ((h.takes x).1 hx).1
 done:=by
  rw [h.done,hw.done]
  constructor
  ·rintro (⟨j,q1,q2⟩ | ⟨j,q1,_,q2⟩)
   ·exact ⟨j,hw.mono _ q1,q2⟩
   ·exact ⟨j,q1,q2⟩
  ·rintro ⟨j,q1,q2⟩
   by_cases hs : S j
   ·exact .inl ⟨j,hs,q2⟩
   ·exact .inr ⟨j,q1,hs,q2⟩
theorem Acc.all {p : List St} {f l : Bool} {fs : List Nat} {S : Nat → Prop} {L : List Nat} {D : Prop} (h : Acc p f l fs S L D) (j : Nat) : S j ↔ Spr p f l fs j:=by
 refine ⟨h.reach j,?_⟩
 rintro ⟨i,hi,hs⟩
 exact Star.inv hs S (h.roots i hi) fun a b ha hab => h.closed a ha b hab
structure Front (p : List St) (f l : Bool) (fs : List Nat) (L : List Nat) (d : Bool) : Prop where
 takes : ∀ j,j ∈ L ↔ Spr p f l fs j ∧ ∃ s,p[j]? = some s ∧ s.op = 1
 nodup : L.Nodup
 done : d = true ↔ ∃ j,Spr p f l fs j ∧ ∃ s,p[j]? = some s ∧ s.op = 5
theorem Acc.front {p : List St} {f l : Bool} {fs : List Nat} {S : Nat → Prop} {L : List Nat} {D : Prop} {d : Bool} (h : Acc p f l fs S L D) (hd : d = true ↔ D) : Front p f l fs L d where
 takes j:=by rw [h.takes,h.all]
 nodup:=h.nodup
 done:=by
  rw [hd,h.done]
  constructor
  ·rintro ⟨j,q1,q2⟩;exact ⟨j,(h.all j).1 q1,q2⟩
  ·rintro ⟨j,q1,q2⟩;exact ⟨j,(h.all j).2 q1,q2⟩
open Go Go.RowKit
def stCells (s : St) : List Value:=[.int .i64 s.op,.int .u64 (s.cls.1 : Int),.int .u64 (s.cls.2.1 : Int),.int .u64 (s.cls.2.2.1 : Int),.int .u64 (s.cls.2.2.2 : Int),.int .i64 s.x,.int .i64 s.y]
theorem stFlat_len (l : List St) : (l.flatMap stCells).length = l.length * 7:=by
 induction l with
 | nil => rfl
 | cons n r ih => simp [stCells] at ih ⊢;omega
theorem stFlat_get (l : List St) : ∀ (k j : Nat) (n : St),l[k]? = some n → j < 7 → (l.flatMap stCells)[k * 7 + j]? = (stCells n)[j]?:=by
 induction l with
 | nil => intro k j n h;simp at h
 | cons m r ih =>
   intro k j n h hj
   rcases k with _ | k
   ·simp at h
    subst h
    simp only [List.flatMap_cons,Nat.zero_mul,Nat.zero_add]
    rw [List.getElem?_append_left (by simpa [stCells] using hj)]
   ·simp only [List.flatMap_cons]
    rw [List.getElem?_append_right (by simp [stCells];omega)]
    have e : (k + 1) * 7 + j - (stCells m).length = k * 7 + j:=by simp [stCells];omega
    rw [e]
    exact ih k j n (by simpa using h) hj
def RdS (w : World) (v : Value) (l : List St) : Prop:=Rd w 7 v (l.flatMap stCells)
theorem RdS.below {w w' : World} {v : Value} {l : List St} (h : RdS w v l) (hb : Below w.heap.size w w') : RdS w' v l:=Rd.below h hb
theorem RdS.open_ {w : World} {v : Value} {l : List St} (h : RdS w v l) : ∃ (A : Option Addr) (cap : Nat),v = .slice A l.length cap ∧ l.length ≤ cap ∧ cap ≤ 9223372036854775807 ∧
 (0 < l.length → ∃ b off,A = some ⟨b,off,none⟩ ∧ b < w.heap.size ∧ ∀ (w' : World),(∀ o,w'.cell? ⟨b,o,none⟩ = w.cell? ⟨b,o,none⟩) → ∀ k n,l[k]? = some n →
   w'.cell? ⟨b,off + k * 7,none⟩ = some (.int .i64 n.op) ∧ w'.cell? ⟨b,off + k * 7 + 1,none⟩ = some (.int .u64 (n.cls.1 : Int)) ∧ w'.cell? ⟨b,off + k * 7 + 2,none⟩ = some (.int .u64 (n.cls.2.1 : Int)) ∧
   w'.cell? ⟨b,off + k * 7 + 3,none⟩ = some (.int .u64 (n.cls.2.2.1 : Int)) ∧ w'.cell? ⟨b,off + k * 7 + 4,none⟩ = some (.int .u64 (n.cls.2.2.2 : Int)) ∧
   w'.cell? ⟨b,off + k * 7 + 5,none⟩ = some (.int .i64 n.x) ∧ w'.cell? ⟨b,off + k * 7 + 6,none⟩ = some (.int .i64 n.y)):=by
 obtain ⟨A,n,cap,rfl,h1,h2,h3,h4⟩:=h
 rw [stFlat_len] at h3
 obtain rfl : n = l.length:=by omega
 refine ⟨A,cap,rfl,h1,h2,fun hn => ?_⟩
 obtain ⟨b,off,rfl,hc⟩:=h4 hn
 have hget : ∀ k n,l[k]? = some n → ∀ j u,j < 7 → (stCells n)[j]? = some u → w.cell? ⟨b,off + (k * 7 + j),none⟩ = some u:=by
  intro k n hk j u hj hu
  exact hc _ _ (by rw [stFlat_get l k j n hk hj];exact hu)
 have hlt : b < w.heap.size:=by
  have hl : l[0]? = some (l[0]'hn):=List.getElem?_eq_getElem hn
  exact World.block_lt_of_cell? w _ (hget 0 _ hl 0 _ (by omega) rfl)
 refine ⟨b,off,rfl,hlt,fun w' hw k n hk => ?_⟩
 simp only [hw]
 exact ⟨hget k n hk 0 _ (by omega) rfl,hget k n hk 1 _ (by omega) rfl,hget k n hk 2 _ (by omega) rfl,hget k n hk 3 _ (by omega) rfl,hget k n hk 4 _ (by omega) rfl,hget k n hk 5 _ (by omega) rfl,hget k n hk 6 _ (by omega) rfl⟩
end Wf
