/-
  Pa, Pc, Pn, Pw, Pm, Up, Pl, ReP, Pe.
-/
set_option linter.unusedVariables false
set_option linter.unusedSimpArgs false
namespace Wf
abbrev Cls:=Nat × Nat × Nat × Nat
structure Nd where
 op : Int
 cls : Cls
def zc : Cls:=(0,0,0,0)
inductive Rx where
 | byte (c : Cls)
 | empty
 | cat (a b : Rx)
 | alt (a b : Rx)
 | star (a : Rx)
 | plus (a : Rx)
 | opt (a : Rx)
 | bgn
 | fin
def flat : Rx → List Nd
 | .byte c => [⟨1,c⟩]
 | .empty => [⟨2,zc⟩]
 | .cat a b => ⟨3,zc⟩ :: (flat a ++ flat b)
 | .alt a b => ⟨4,zc⟩ :: (flat a ++ flat b)
 | .star a => ⟨5,zc⟩ :: flat a
 | .plus a => ⟨6,zc⟩ :: flat a
 | .opt a => ⟨7,zc⟩ :: flat a
 | .bgn => [⟨8,zc⟩]
 | .fin => [⟨9,zc⟩]
theorem flat_pos (t : Rx) : 0 < (flat t).length:=by cases t <;> simp [flat]
def parts (op : Int) : Nat:=if op = 3 ∨ op = 4 then 2 else if op = 5 ∨ op = 6 ∨ op = 7 then 1 else 0
theorem parts_le (op : Int) : parts op ≤ 2:=by unfold parts;split <;> (try split) <;> omega
def chkLoop : List Nd → Int → Bool → Int
 | [],need,whole => if whole = true ∧ need = 0 then 0 else 2
 | n :: r,need,whole =>
   if n.op < 1 ∨ 9 < n.op then 1
   else if n.op ≠ 1 ∧ n.cls ≠ zc then 2
   else chkLoop r (need + ((parts n.op : Int) - 1)) (whole && decide (0 < need))
def chk (l : List Nd) : Int:=if 60 < l.length then 3 else chkLoop l 1 true
theorem chkLoop_false (l : List Nd) : ∀ need,chkLoop l need false ≠ 0:=by
 induction l with
 | nil => intro need;simp [chkLoop]
 | cons n r ih =>
   intro need
   unfold chkLoop
   split
   ·omega
   ·split
    ·omega
    ·simpa using ih _
def good (n : Nd) : Prop:=1 ≤ n.op ∧ n.op ≤ 9 ∧ (n.op = 1 ∨ n.cls = zc)
theorem node_tree (n : Nd) (hg : good n) (ts : List Rx) (h : parts n.op ≤ ts.length) :
 ∃ (t : Rx) (ts' : List Rx),n :: ts.flatMap flat = flat t ++ ts'.flatMap flat ∧ ts'.length + parts n.op = ts.length:=by
 obtain ⟨op,c⟩:=n
 obtain ⟨h1,h2,h3⟩:=hg
 simp only at h1 h2 h3 h ⊢
 by_cases e1 : op = 1
 ·subst e1;exact ⟨.byte c,ts,by simp [flat],by simp [parts]⟩
 have hc : c = zc:=by exact h3.resolve_left e1
 subst hc
 by_cases e2 : op = 2
 ·subst e2;exact ⟨.empty,ts,by simp [flat],by simp [parts]⟩
 by_cases e8 : op = 8
 ·subst e8;exact ⟨.bgn,ts,by simp [flat],by simp [parts]⟩
 by_cases e9 : op = 9
 ·subst e9;exact ⟨.fin,ts,by simp [flat],by simp [parts]⟩
 by_cases e34 : op = 3 ∨ op = 4
 ·have hp : parts op = 2:=by simp [parts,e34]
  rw [hp] at h ⊢
  match ts,h with
  | a :: b :: ts',_ =>
    rcases e34 with rfl | rfl
    ·exact ⟨.cat a b,ts',by simp [flat],by simp⟩
    ·exact ⟨.alt a b,ts',by simp [flat],by simp⟩
 ·have e567 : op = 5 ∨ op = 6 ∨ op = 7:=by omega
  have hp : parts op = 1:=by unfold parts;rw [if_neg e34,if_pos e567]
  rw [hp] at h ⊢
  match ts,h with
  | a :: ts',_ =>
    rcases e567 with rfl | rfl | rfl
    ·exact ⟨.star a,ts',by simp [flat],by simp⟩
    ·exact ⟨.plus a,ts',by simp [flat],by simp⟩
    ·exact ⟨.opt a,ts',by simp [flat],by simp⟩
theorem chkLoop_trees (l : List Nd) : ∀ k : Nat,chkLoop l k true = 0 → ∃ ts : List Rx,ts.length = k ∧ l = ts.flatMap flat:=by
 induction l with
 | nil =>
   intro k h
   simp only [chkLoop] at h
   split at h
   ·rename_i hk;exact ⟨[],by simp at hk ⊢;omega,rfl⟩
   ·omega
 | cons n r ih =>
   intro k h
   unfold chkLoop at h
   split at h
   ·omega
   ·split at h
    ·omega
    ·rename_i h1 h2
     by_cases hk : 0 < k
     ·have e1 : (decide ((0 : Int) < (k : Int))) = true:=by simpa using hk
      have e2 : (k : Int) + ((parts n.op : Int) - 1) = ((k - 1 + parts n.op : Nat) : Int):=by omega
      rw [e1,e2] at h
      obtain ⟨ts,hl,rfl⟩:=ih _ h
      have hg : good n:=⟨by omega,by omega,by
       by_cases e : n.op = 1
       ·exact .inl e
       ·exact .inr (Classical.byContradiction fun hc => h2 ⟨e,hc⟩)⟩
      obtain ⟨t,ts',h3,h4⟩:=node_tree n hg ts (by omega)
      exact ⟨t :: ts',by simp;omega,by simpa using h3⟩
     ·have e1 : (decide ((0 : Int) < (k : Int))) = false:=by simpa using hk
      rw [e1] at h
      exact absurd h (chkLoop_false _ _)
theorem chk_tree {l : List Nd} (h : chk l = 0) : l.length ≤ 60 ∧ ∃ t,l = flat t:=by
 unfold chk at h
 split at h
 ·omega
 ·rename_i hl
  obtain ⟨ts,h1,h2⟩:=chkLoop_trees l 1 h
  refine ⟨by omega,?_⟩
  match ts,h1 with
  | [t],_ => exact ⟨t,by simpa using h2⟩
theorem chkLoop_flat (t : Rx) : ∀ (r : List Nd) (need : Int),0 < need → chkLoop (flat t ++ r) need true = chkLoop r (need - 1) true:=by
 induction t with
 | byte c => intro r need h;simp [flat,chkLoop,parts,h,Int.sub_eq_add_neg]
 | empty => intro r need h;simp [flat,chkLoop,parts,h,zc,Int.sub_eq_add_neg]
 | bgn => intro r need h;simp [flat,chkLoop,parts,h,zc,Int.sub_eq_add_neg]
 | fin => intro r need h;simp [flat,chkLoop,parts,h,zc,Int.sub_eq_add_neg]
 | cat a b iha ihb =>
   intro r need h
   simp only [flat,List.cons_append,chkLoop,List.append_assoc]
   simp only [parts,zc]
   simp [h]
   rw [iha _ _ (by omega),ihb _ _ (by omega)]
   congr 1;omega
 | alt a b iha ihb =>
   intro r need h
   simp only [flat,List.cons_append,chkLoop,List.append_assoc]
   simp only [parts,zc]
   simp [h]
   rw [iha _ _ (by omega),ihb _ _ (by omega)]
   congr 1;omega
 | star a iha =>
   intro r need h
   simp only [flat,List.cons_append,chkLoop]
   simp only [parts,zc]
   simp [h]
   rw [iha _ _ (by omega)]
 | plus a iha =>
   intro r need h
   simp only [flat,List.cons_append,chkLoop]
   simp only [parts,zc]
   simp [h]
   rw [iha _ _ (by omega)]
 | opt a iha =>
   intro r need h
   simp only [flat,List.cons_append,chkLoop]
   simp only [parts,zc]
   simp [h]
   rw [iha _ _ (by omega)]
theorem chk_flat (t : Rx) (h : (flat t).length ≤ 60) : chk (flat t) = 0:=by
 unfold chk
 rw [if_neg (by omega)]
 have:=chkLoop_flat t [] 1 (by omega)
 rw [List.append_nil] at this
 rw [this]
 simp [chkLoop]
theorem flat_inj (t : Rx) : ∀ (t' : Rx) (r r' : List Nd),flat t ++ r = flat t' ++ r' → t = t' ∧ r = r':=by
 induction t with
 | byte c => intro t' r r' h;cases t' <;> simp [flat] at h ⊢ <;> exact h
 | empty => intro t' r r' h;cases t' <;> simp [flat] at h ⊢ <;> exact h
 | bgn => intro t' r r' h;cases t' <;> simp [flat] at h ⊢ <;> exact h
 | fin => intro t' r r' h;cases t' <;> simp [flat] at h ⊢ <;> exact h
 | cat a b iha ihb =>
   intro t' r r' h
   cases t' <;> simp [flat] at h
   obtain ⟨e1,h1⟩:=iha _ _ _ h
   obtain ⟨e2,h2⟩:=ihb _ _ _ h1
   exact ⟨by rw [e1,e2],h2⟩
 | alt a b iha ihb =>
   intro t' r r' h
   cases t' <;> simp [flat] at h
   obtain ⟨e1,h1⟩:=iha _ _ _ h
   obtain ⟨e2,h2⟩:=ihb _ _ _ h1
   exact ⟨by rw [e1,e2],h2⟩
 | star a iha => intro t' r r' h;cases t' <;> simp [flat] at h;obtain ⟨e1,h1⟩:=iha _ _ _ h;exact ⟨by rw [e1],h1⟩
 | plus a iha => intro t' r r' h;cases t' <;> simp [flat] at h;obtain ⟨e1,h1⟩:=iha _ _ _ h;exact ⟨by rw [e1],h1⟩
 | opt a iha => intro t' r r' h;cases t' <;> simp [flat] at h;obtain ⟨e1,h1⟩:=iha _ _ _ h;exact ⟨by rw [e1],h1⟩
def At (l : List Nd) (i : Nat) (u : Rx) : Prop:=∃ rest,l.drop i = flat u ++ rest
theorem At.lt {l : List Nd} {i : Nat} {u : Rx} (h : At l i u) : i + (flat u).length ≤ l.length:=by
 obtain ⟨rest,h⟩:=h
 have e:=congrArg List.length h
 have:=flat_pos u
 simp at e
 omega
theorem At.inj {l : List Nd} {i : Nat} {u v : Rx} (h : At l i u) (k : At l i v) : u = v:=by
 obtain ⟨r,h⟩:=h
 obtain ⟨r',k⟩:=k
 exact (flat_inj u v r r' (by rw [← h,← k])).1
theorem At.whole (t : Rx) : At (flat t) 0 t:=⟨[],by simp⟩
theorem drop_cons {l : List Nd} {i : Nat} {n : Nd} {r : List Nd} (h : l.drop i = n :: r) : l[i]? = some n ∧ l.drop (i + 1) = r:=by
 constructor
 ·rw [← List.head?_drop,h];rfl
 ·rw [← List.drop_drop,h];rfl
theorem drop_app {l : List Nd} {i : Nat} {a r : List Nd} (h : l.drop i = a ++ r) : l.drop (i + a.length) = r:=by
 rw [← List.drop_drop,h];simp
theorem At.cat {l : List Nd} {i : Nat} {a b : Rx} (h : At l i (.cat a b)) : l[i]? = some ⟨3,zc⟩ ∧ At l (i + 1) a ∧ At l (i + 1 + (flat a).length) b:=by
 obtain ⟨r,h⟩:=h
 simp only [flat,List.cons_append,List.append_assoc] at h
 obtain ⟨h1,h2⟩:=drop_cons h
 exact ⟨h1,⟨_,h2⟩,⟨_,drop_app h2⟩⟩
theorem At.alt {l : List Nd} {i : Nat} {a b : Rx} (h : At l i (.alt a b)) : l[i]? = some ⟨4,zc⟩ ∧ At l (i + 1) a ∧ At l (i + 1 + (flat a).length) b:=by
 obtain ⟨r,h⟩:=h
 simp only [flat,List.cons_append,List.append_assoc] at h
 obtain ⟨h1,h2⟩:=drop_cons h
 exact ⟨h1,⟨_,h2⟩,⟨_,drop_app h2⟩⟩
theorem At.star {l : List Nd} {i : Nat} {a : Rx} (h : At l i (.star a)) : l[i]? = some ⟨5,zc⟩ ∧ At l (i + 1) a:=by
 obtain ⟨r,h⟩:=h
 simp only [flat,List.cons_append] at h
 obtain ⟨h1,h2⟩:=drop_cons h
 exact ⟨h1,⟨_,h2⟩⟩
theorem At.plus {l : List Nd} {i : Nat} {a : Rx} (h : At l i (.plus a)) : l[i]? = some ⟨6,zc⟩ ∧ At l (i + 1) a:=by
 obtain ⟨r,h⟩:=h
 simp only [flat,List.cons_append] at h
 obtain ⟨h1,h2⟩:=drop_cons h
 exact ⟨h1,⟨_,h2⟩⟩
theorem At.opt {l : List Nd} {i : Nat} {a : Rx} (h : At l i (.opt a)) : l[i]? = some ⟨7,zc⟩ ∧ At l (i + 1) a:=by
 obtain ⟨r,h⟩:=h
 simp only [flat,List.cons_append] at h
 obtain ⟨h1,h2⟩:=drop_cons h
 exact ⟨h1,⟨_,h2⟩⟩
theorem At.byte {l : List Nd} {i : Nat} {c : Cls} (h : At l i (.byte c)) : l[i]? = some ⟨1,c⟩:=by
 obtain ⟨r,h⟩:=h
 exact (drop_cons h).1
theorem At.empty {l : List Nd} {i : Nat} (h : At l i .empty) : l[i]? = some ⟨2,zc⟩:=by
 obtain ⟨r,h⟩:=h
 exact (drop_cons h).1
theorem At.bgn {l : List Nd} {i : Nat} (h : At l i .bgn) : l[i]? = some ⟨8,zc⟩:=by
 obtain ⟨r,h⟩:=h
 exact (drop_cons h).1
theorem At.fin {l : List Nd} {i : Nat} (h : At l i .fin) : l[i]? = some ⟨9,zc⟩:=by
 obtain ⟨r,h⟩:=h
 exact (drop_cons h).1
theorem at_all (t : Rx) : ∀ (r : List Nd) (i : Nat),i < (flat t).length → ∃ u,At (flat t ++ r) i u:=by
 have base : ∀ (n : Nd) (t : Rx),flat t = [n] → ∀ (r : List Nd) (i : Nat),i < (flat t).length → ∃ u,At (flat t ++ r) i u:=by
  intro n t ht r i hi
  rw [ht] at hi
  obtain rfl : i = 0:=by simpa using hi
  exact ⟨t,r,by simp⟩
 have one : ∀ (n : Nd) (t a : Rx),flat t = n :: flat a → (∀ (r : List Nd) (i : Nat),i < (flat a).length → ∃ u,At (flat a ++ r) i u) →
  ∀ (r : List Nd) (i : Nat),i < (flat t).length → ∃ u,At (flat t ++ r) i u:=by
  intro n t a ht ih r i hi
  rcases Nat.eq_zero_or_pos i with rfl | h0
  ·exact ⟨t,r,by simp⟩
  ·rw [ht] at hi ⊢
   obtain ⟨j,rfl⟩ : ∃ j,i = j + 1:=⟨i - 1,by omega⟩
   obtain ⟨u,rest,h⟩:=ih r j (by simpa using hi)
   exact ⟨u,rest,by simpa using h⟩
 have two : ∀ (n : Nd) (t a b : Rx),flat t = n :: (flat a ++ flat b) → (∀ (r : List Nd) (i : Nat),i < (flat a).length → ∃ u,At (flat a ++ r) i u) →
  (∀ (r : List Nd) (i : Nat),i < (flat b).length → ∃ u,At (flat b ++ r) i u) →
  ∀ (r : List Nd) (i : Nat),i < (flat t).length → ∃ u,At (flat t ++ r) i u:=by
  intro n t a b ht iha ihb r i hi
  rcases Nat.eq_zero_or_pos i with rfl | h0
  ·exact ⟨t,r,by simp⟩
  ·rw [ht] at hi ⊢
   obtain ⟨j,rfl⟩ : ∃ j,i = j + 1:=⟨i - 1,by omega⟩
   simp at hi
   by_cases hj : j < (flat a).length
   ·obtain ⟨u,rest,h⟩:=iha (flat b ++ r) j hj
    exact ⟨u,rest,by simpa using h⟩
   ·obtain ⟨u,rest,h⟩:=ihb r (j - (flat a).length) (by omega)
    refine ⟨u,rest,?_⟩
    rw [← h]
    simp only [List.cons_append,List.drop_succ_cons,List.append_assoc]
    rw [List.drop_append,List.drop_eq_nil_of_le (by omega)]
    simp
 induction t with
 | byte c => exact base _ _ rfl
 | empty => exact base _ _ rfl
 | bgn => exact base _ _ rfl
 | fin => exact base _ _ rfl
 | cat a b iha ihb => exact two _ _ a b rfl iha ihb
 | alt a b iha ihb => exact two _ _ a b rfl iha ihb
 | star a iha => exact one _ _ a rfl iha
 | plus a iha => exact one _ _ a rfl iha
 | opt a iha => exact one _ _ a rfl iha
theorem at_each (t : Rx) (i : Nat) (h : i < (flat t).length) : ∃ u,At (flat t) i u:=by
 have:=at_all t [] i h
 simpa using this
def IsEnds (l : List Nd) (xs : List Nat) : Prop:=xs.length = l.length ∧ ∀ i u,At l i u → xs[i]? = some (i + (flat u).length)
def may : Rx → Bool
 | .byte _ => false
 | .cat a b => may a && may b
 | .alt a b => may a || may b
 | .plus a => may a
 | _ => true
def kids : Rx → List Rx
 | .cat a b => [a,b]
 | .alt a b => [a,b]
 | .star a => [a]
 | .plus a => [a]
 | .opt a => [a]
 | _ => []
def pre (u : Rx) (j : Nat) : Nat:=1 + (((kids u).take j).flatMap flat).length
theorem pre_zero (u : Rx) : pre u 0 = 1:=by simp [pre]
theorem pre_all (u : Rx) : pre u (kids u).length = (flat u).length:=by
 cases u <;> simp [pre,kids,flat] <;> omega
theorem pre_succ (u : Rx) (j : Nat) (v : Rx) (h : (kids u)[j]? = some v) : pre u (j + 1) = pre u j + (flat v).length:=by
 unfold pre
 rw [List.take_add_one,h]
 simp
 omega
theorem At.kid {l : List Nd} {i : Nat} {u : Rx} (h : At l i u) (j : Nat) (v : Rx) (hj : (kids u)[j]? = some v) : At l (i + pre u j) v:=by
 cases u with
 | byte c => simp [kids] at hj
 | empty => simp [kids] at hj
 | bgn => simp [kids] at hj
 | fin => simp [kids] at hj
 | cat a b =>
   obtain ⟨_,ha,hb⟩:=h.cat
   match j,hj with
   | 0,hj => simp [kids] at hj;subst hj;simpa [pre] using ha
   | 1,hj => simp [kids] at hj;subst hj;simpa [pre,kids,Nat.add_assoc] using hb
   | j + 2,hj => simp [kids] at hj
 | alt a b =>
   obtain ⟨_,ha,hb⟩:=h.alt
   match j,hj with
   | 0,hj => simp [kids] at hj;subst hj;simpa [pre] using ha
   | 1,hj => simp [kids] at hj;subst hj;simpa [pre,kids,Nat.add_assoc] using hb
   | j + 2,hj => simp [kids] at hj
 | star a =>
   obtain ⟨_,ha⟩:=h.star
   match j,hj with
   | 0,hj => simp [kids] at hj;subst hj;simpa [pre] using ha
   | j + 1,hj => simp [kids] at hj
 | plus a =>
   obtain ⟨_,ha⟩:=h.plus
   match j,hj with
   | 0,hj => simp [kids] at hj;subst hj;simpa [pre] using ha
   | j + 1,hj => simp [kids] at hj
 | opt a =>
   obtain ⟨_,ha⟩:=h.opt
   match j,hj with
   | 0,hj => simp [kids] at hj;subst hj;simpa [pre] using ha
   | j + 1,hj => simp [kids] at hj
theorem At.node {l : List Nd} {i : Nat} {u : Rx} (h : At l i u) : ∃ n,l[i]? = some n ∧ parts n.op = (kids u).length ∧ good n:=by
 cases u with
 | byte c => exact ⟨_,h.byte,rfl,by simp [good]⟩
 | empty => exact ⟨_,h.empty,rfl,by simp [good]⟩
 | bgn => exact ⟨_,h.bgn,rfl,by simp [good]⟩
 | fin => exact ⟨_,h.fin,rfl,by simp [good]⟩
 | cat a b => exact ⟨_,h.cat.1,rfl,by simp [good]⟩
 | alt a b => exact ⟨_,h.alt.1,rfl,by simp [good]⟩
 | star a => exact ⟨_,h.star.1,rfl,by simp [good]⟩
 | plus a => exact ⟨_,h.plus.1,rfl,by simp [good]⟩
 | opt a => exact ⟨_,h.opt.1,rfl,by simp [good]⟩
def word (c : Cls) (q : Nat) : Nat:=if q = 0 then c.1 else if q = 1 then c.2.1 else if q = 2 then c.2.2.1 else c.2.2.2
def has (c : Cls) (b : Nat) : Bool:=(word c (b / 64)).testBit (b % 64)
def withB (c : Cls) (b : Nat) : Cls :=
 (if b / 64 = 0 then c.1 ||| 2 ^ (b % 64) else c.1,if b / 64 = 1 then c.2.1 ||| 2 ^ (b % 64) else c.2.1,
  if b / 64 = 2 then c.2.2.1 ||| 2 ^ (b % 64) else c.2.2.1,if b / 64 = 3 then c.2.2.2 ||| 2 ^ (b % 64) else c.2.2.2)
def okC (c : Cls) : Prop:=c.1 < 18446744073709551616 ∧ c.2.1 < 18446744073709551616 ∧ c.2.2.1 < 18446744073709551616 ∧ c.2.2.2 < 18446744073709551616
theorem okC_zc : okC zc:=by simp [okC,zc]
theorem word_lt {c : Cls} (h : okC c) (q : Nat) : word c q < 18446744073709551616:=by
 obtain ⟨h0,h1,h2,h3⟩:=h
 unfold word
 split
 ·exact h0
 ·split
  ·exact h1
  ·split
   ·exact h2
   ·exact h3
theorem pow_lt64 (b : Nat) : 2 ^ (b % 64) < 18446744073709551616:=by
 have : (2 : Nat) ^ (b % 64) < 2 ^ 64:=Nat.pow_lt_pow_right (by omega) (Nat.mod_lt _ (by omega))
 simpa using this
theorem or_lt64 {a b : Nat} (ha : a < 18446744073709551616) (hb : b < 18446744073709551616) : a ||| b < 18446744073709551616:=by
 have h:=Nat.or_lt_two_pow (n:=64) (x:=a) (y:=b) (by simpa using ha) (by simpa using hb)
 simpa using h
theorem okC_with {c : Cls} (h : okC c) (b : Nat) : okC (withB c b):=by
 obtain ⟨h0,h1,h2,h3⟩:=h
 have hp:=pow_lt64 b
 refine ⟨?_,?_,?_,?_⟩ <;> (unfold withB;dsimp only;split) <;> first | assumption | exact or_lt64 (by assumption) hp
theorem word_with (c : Cls) (b q : Nat) (hb : b < 256) (hq : q < 4) : word (withB c b) q = if b / 64 = q then word c q ||| 2 ^ (b % 64) else word c q:=by
 have : b / 64 < 4:=by omega
 unfold word withB
 dsimp only
 match q,hq with
 | 0,_ => simp
 | 1,_ => simp
 | 2,_ => simp
 | 3,_ => simp
theorem has_with (c : Cls) (b x : Nat) (hb : b < 256) (hx : x < 256) : has (withB c b) x = (has c x || x == b):=by
 unfold has
 rw [word_with c b (x / 64) hb (by omega)]
 by_cases h : b / 64 = x / 64
 ·rw [if_pos h,Nat.testBit_or,Nat.testBit_two_pow]
  congr 1
  rw [Bool.eq_iff_iff]
  simp
  omega
 ·rw [if_neg h]
  have : (x == b) = false:=by simp;omega
  rw [this,Bool.or_false]
theorem has_zc (x : Nat) : has zc x = false:=by
 unfold has word zc
 simp
theorem nat_ext64 {a b : Nat} (ha : a < 18446744073709551616) (hb : b < 18446744073709551616) (h : ∀ i,i < 64 → a.testBit i = b.testBit i) : a = b:=by
 apply Nat.eq_of_testBit_eq
 intro i
 by_cases hi : i < 64
 ·exact h i hi
 ·have hp : (18446744073709551616 : Nat) ≤ 2 ^ i:=by
   have : (2 : Nat) ^ 64 ≤ 2 ^ i:=Nat.pow_le_pow_right (by omega) (by omega)
   simpa using this
  rw [Nat.testBit_lt_two_pow (by omega),Nat.testBit_lt_two_pow (by omega)]
theorem cls_ext {c d : Cls} (hc : okC c) (hd : okC d) (h : ∀ x,x < 256 → has c x = has d x) : c = d:=by
 have hw : ∀ q,q < 4 → word c q = word d q:=by
  intro q hq
  apply nat_ext64 (word_lt hc q) (word_lt hd q)
  intro i hi
  have:=h (q * 64 + i) (by omega)
  unfold has at this
  rw [show (q * 64 + i) / 64 = q from by omega,show (q * 64 + i) % 64 = i from by omega] at this
  exact this
 have h0:=hw 0 (by omega)
 have h1:=hw 1 (by omega)
 have h2:=hw 2 (by omega)
 have h3:=hw 3 (by omega)
 obtain ⟨c0,c1,c2,c3⟩:=c
 obtain ⟨d0,d1,d2,d3⟩:=d
 simp [word] at h0 h1 h2 h3
 rw [h0,h1,h2,h3]
def ofL : List UInt8 → Cls → Cls
 | [],c => c
 | b :: r,c => ofL r (withB c b.toNat)
theorem okC_ofL (l : List UInt8) : ∀ c,okC c → okC (ofL l c):=by
 induction l with
 | nil => intro c h;exact h
 | cons b r ih => intro c h;exact ih _ (okC_with h _)
theorem ofL_snoc (l : List UInt8) (b : UInt8) : ∀ c,ofL (l ++ [b]) c = withB (ofL l c) b.toNat:=by
 induction l with
 | nil => intro c;rfl
 | cons a r ih => intro c;exact ih _
def popN : Nat → Nat → Nat
 | 0,_ => 0
 | f + 1,x => x % 2 + popN f (x / 2)
def rep8 (c : Nat) : Nat → Nat
 | 0 => 0
 | k + 1 => c + 256 * rep8 c k
def by8 (g : Nat → Nat) : Nat → Nat → Nat
 | 0,_ => 0
 | k + 1,x => g (x % 256) + 256 * by8 g k (x / 256)
theorem and_256 (a b y m : Nat) (hb : b < 256) (ha : a < 256) : (a + 256 * y) &&& (b + 256 * m) = (a &&& b) + 256 * (y &&& m):=by
 have h1 : ((a + 256 * y) &&& (b + 256 * m)) % 2 ^ 8 = a &&& b:=by
  rw [Nat.and_mod_two_pow,show (a + 256 * y) % 2 ^ 8 = a by omega,show (b + 256 * m) % 2 ^ 8 = b by omega]
 have h2 : ((a + 256 * y) &&& (b + 256 * m)) / 2 ^ 8 = y &&& m:=by
  rw [Nat.and_div_two_pow,show (a + 256 * y) / 2 ^ 8 = y by omega,show (b + 256 * m) / 2 ^ 8 = m by omega]
 omega
def g1 (b : Nat) : Nat:=((b / 2) &&& 85) + (b &&& 85)
def g2 (b : Nat) : Nat:=((g1 b / 4) &&& 51) + (g1 b &&& 51)
def g3 (b : Nat) : Nat:=(g2 b / 16 + g2 b) &&& 15
theorem g1_carry : ∀ b : Fin 256,∀ t : Fin 2,(b.val / 2 + 128 * t.val) &&& 85 = (b.val / 2) &&& 85:=by decide +kernel
theorem g1_le : ∀ b : Fin 256,g1 b.val ≤ 170:=by decide +kernel
theorem g2_carry : ∀ b : Fin 256,∀ t : Fin 4,(g1 b.val / 4 + 64 * t.val) &&& 51 = (g1 b.val / 4) &&& 51:=by decide +kernel
theorem g2_le : ∀ b : Fin 256,g2 b.val ≤ 68 ∧ g2 b.val % 16 ≤ 4:=by decide +kernel
theorem g3_carry : ∀ b : Fin 256,∀ t : Fin 5,(g2 b.val / 16 + 16 * t.val + g2 b.val) &&& 15 = g3 b.val:=by decide +kernel
theorem g3_pop : ∀ b : Fin 256,g3 b.val = popN 8 b.val ∧ popN 8 b.val ≤ 8:=by decide +kernel
theorem swar1 (k : Nat) : ∀ x,((x / 2) &&& rep8 85 k) + (x &&& rep8 85 k) = by8 g1 k x:=by
 induction k with
 | zero => intro x;simp [rep8,by8]
 | succ k ih =>
   intro x
   obtain ⟨b,y,hb,rfl⟩ : ∃ b y,b < 256 ∧ x = b + 256 * y:=⟨x % 256,x / 256,by omega,by omega⟩
   have e1 : (b + 256 * y) / 2 = (b / 2 + 128 * (y % 2)) + 256 * (y / 2):=by omega
   have e2 : (b + 256 * y) % 256 = b:=by omega
   have e3 : (b + 256 * y) / 256 = y:=by omega
   have c:=g1_carry ⟨b,hb⟩ ⟨y % 2,by omega⟩
   dsimp only at c
   simp only [rep8,by8,e1,e2,e3]
   rw [and_256 _ _ _ _ (by omega) (by omega),and_256 _ _ _ _ (by omega) hb,c,← ih y]
   unfold g1
   omega
theorem swar2 (k : Nat) : ∀ x,((by8 g1 k x / 4) &&& rep8 51 k) + (by8 g1 k x &&& rep8 51 k) = by8 g2 k x:=by
 induction k with
 | zero => intro x;simp [rep8,by8]
 | succ k ih =>
   intro x
   have hb : x % 256 < 256:=by omega
   have l:=g1_le ⟨_,hb⟩
   have h:=ih (x / 256)
   have c:=g2_carry ⟨_,hb⟩ ⟨by8 g1 k (x / 256) % 4,by omega⟩
   have e : g2 (x % 256) = ((g1 (x % 256) / 4) &&& 51) + (g1 (x % 256) &&& 51):=rfl
   simp only [rep8,by8]
   dsimp only at c l
   rw [e,← h]
   clear e h
   generalize g1 (x % 256) = b at *
   generalize by8 g1 k (x / 256) = y at *
   have e1 : (b + 256 * y) / 4 = (b / 4 + 64 * (y % 4)) + 256 * (y / 4):=by omega
   rw [e1,and_256 _ _ _ _ (by omega) (by omega),and_256 _ _ _ _ (by omega) (by omega),c]
   omega
theorem by8_mod (g : Nat → Nat) (k x : Nat) (h : ∀ b,b < 256 → g b % 16 ≤ 4) : by8 g k x % 16 ≤ 4:=by
 cases k with
 | zero => simp [by8]
 | succ k => simp only [by8];have:=h (x % 256) (by omega);omega
theorem swar3 (k : Nat) : ∀ x,((by8 g2 k x / 16 + by8 g2 k x) &&& rep8 15 k) = by8 g3 k x:=by
 induction k with
 | zero => intro x;simp [rep8,by8]
 | succ k ih =>
   intro x
   have hb : x % 256 < 256:=by omega
   obtain ⟨l,l'⟩:=g2_le ⟨_,hb⟩
   have h:=ih (x / 256)
   have m:=by8_mod g2 k (x / 256) (fun b hb => (g2_le ⟨b,hb⟩).2)
   have c:=g3_carry ⟨_,hb⟩ ⟨by8 g2 k (x / 256) % 16,by omega⟩
   simp only [rep8,by8]
   dsimp only at c l
   rw [← h]
   clear h
   generalize g2 (x % 256) = b at *
   generalize by8 g2 k (x / 256) = y at *
   have e1 : (b + 256 * y) / 16 + (b + 256 * y) = (b / 16 + 16 * (y % 16) + b) + 256 * (y / 16 + y):=by omega
   rw [e1,and_256 _ _ _ _ (by omega) (by omega),c]
theorem popN_split (a b : Nat) : ∀ x,popN (a + b) x = popN a x + popN b (x / 2 ^ a):=by
 induction a with
 | zero => intro x;simp [popN]
 | succ a ih =>
   intro x
   rw [show a + 1 + b = (a + b) + 1 by omega]
   simp only [popN]
   rw [ih,Nat.div_div_eq_div_mul,show 2 * 2 ^ a = 2 ^ (a + 1) by rw [Nat.pow_succ];omega]
   omega
theorem popN_mod (a : Nat) : ∀ x,popN a (x % 2 ^ a) = popN a x:=by
 induction a with
 | zero => intro x;simp [popN]
 | succ a ih =>
   intro x
   simp only [popN]
   have e1 : x % 2 ^ (a + 1) % 2 = x % 2:=Nat.mod_mod_of_dvd x ⟨2 ^ a,by rw [Nat.pow_succ,Nat.mul_comm]⟩
   have e2 : x % 2 ^ (a + 1) / 2 = (x / 2) % 2 ^ a:=by rw [Nat.pow_succ,Nat.mul_comm,Nat.mod_mul_right_div_self]
   rw [e1,e2,ih]
theorem popN_byte (x : Nat) : popN 8 (x % 256) = popN 8 x:=popN_mod 8 x
theorem onesCount64 (x x1 x2 x3 x4 x5 x6 : Nat) (h1 : x1 = ((x / 2) &&& 6148914691236517205) + (x &&& 6148914691236517205))
 (h2 : x2 = ((x1 / 4) &&& 3689348814741910323) + (x1 &&& 3689348814741910323)) (h3 : x3 = (x2 / 16 + x2) &&& 1085102592571150095)
 (h4 : x4 = x3 + x3 / 256) (h5 : x5 = x4 + x4 / 65536) (h6 : x6 = x5 + x5 / 4294967296) :
 x6 % 128 = popN 64 x ∧ x1 ≤ 12297829382473034410 ∧ x2 / 16 + x2 < 18446744073709551616 ∧ x4 < 18446744073709551616 ∧ x5 < 18446744073709551616 ∧ x6 < 18446744073709551616:=by
 have r1:=swar1 8 x
 have r2:=swar2 8 x
 have r3:=swar3 8 x
 rw [show rep8 85 8 = 6148914691236517205 from by decide] at r1
 rw [← r1,show rep8 51 8 = 3689348814741910323 from by decide] at r2
 rw [← h1,← h2] at r2
 rw [← r2,show rep8 15 8 = 1085102592571150095 from by decide,← h3] at r3
 have lb1 : x1 ≤ 12297829382473034410:=by
  have:=Nat.and_le_right (n:=x / 2) (m:=6148914691236517205)
  have:=Nat.and_le_right (n:=x) (m:=6148914691236517205)
  omega
 have lb2 : x2 / 16 + x2 < 18446744073709551616:=by
  have:=Nat.and_le_right (n:=x1 / 4) (m:=3689348814741910323)
  have:=Nat.and_le_right (n:=x1) (m:=3689348814741910323)
  omega
 have hp : popN 64 x = popN 8 x + (popN 8 (x / 256) + (popN 8 (x / 256 / 256) + (popN 8 (x / 256 / 256 / 256) + (popN 8 (x / 256 / 256 / 256 / 256) + (popN 8 (x / 256 / 256 / 256 / 256 / 256) + (popN 8 (x / 256 / 256 / 256 / 256 / 256 / 256) + popN 8 (x / 256 / 256 / 256 / 256 / 256 / 256 / 256))))))):=by
  rw [show (64 : Nat) = 8 + 56 from rfl,popN_split,show (56 : Nat) = 8 + 48 from rfl,popN_split,show (48 : Nat) = 8 + 40 from rfl,popN_split,show (40 : Nat) = 8 + 32 from rfl,popN_split,show (32 : Nat) = 8 + 24 from rfl,popN_split,show (24 : Nat) = 8 + 16 from rfl,popN_split,show (16 : Nat) = 8 + 8 from rfl,popN_split]
 have hb : ∀ y,g3 (y % 256) = popN 8 y ∧ popN 8 y ≤ 8:=fun y => by
  have:=g3_pop ⟨y % 256,by omega⟩
  dsimp only at this
  rwa [popN_byte] at this
 rw [hp]
 simp only [by8,(hb _).1] at r3
 have b0:=(hb x).2
 have b1:=(hb (x / 256)).2
 have b2:=(hb (x / 256 / 256)).2
 have b3:=(hb (x / 256 / 256 / 256)).2
 have b4:=(hb (x / 256 / 256 / 256 / 256)).2
 have b5:=(hb (x / 256 / 256 / 256 / 256 / 256)).2
 have b6:=(hb (x / 256 / 256 / 256 / 256 / 256 / 256)).2
 have b7:=(hb (x / 256 / 256 / 256 / 256 / 256 / 256 / 256)).2
 generalize popN 8 x = p0 at *
 generalize popN 8 (x / 256) = p1 at *
 generalize popN 8 (x / 256 / 256) = p2 at *
 generalize popN 8 (x / 256 / 256 / 256) = p3 at *
 generalize popN 8 (x / 256 / 256 / 256 / 256) = p4 at *
 generalize popN 8 (x / 256 / 256 / 256 / 256 / 256) = p5 at *
 generalize popN 8 (x / 256 / 256 / 256 / 256 / 256 / 256) = p6 at *
 generalize popN 8 (x / 256 / 256 / 256 / 256 / 256 / 256 / 256) = p7 at *
 clear r1 r2 h1 h2 h3 hp hb
 have s4 : x4 = (p0 + p1) + 256 * (p1 + p2) + 65536 * ((p2 + p3) + 256 * (p3 + p4) + 65536 * ((p4 + p5) + 256 * (p5 + p6) + 65536 * ((p6 + p7) + 256 * p7))):=by omega
 clear r3 h4
 have s5 : x4 / 65536 = (p2 + p3) + 256 * (p3 + p4) + 65536 * ((p4 + p5) + 256 * (p5 + p6) + 65536 * ((p6 + p7) + 256 * p7)):=by omega
 have t5 : x5 = (p0 + p1 + p2 + p3) + 256 * (p1 + p2 + p3 + p4) + 65536 * (p2 + p3 + p4 + p5) + 16777216 * (p3 + p4 + p5 + p6) + 4294967296 * ((p4 + p5 + p6 + p7) + 256 * (p5 + p6 + p7) + 65536 * ((p6 + p7) + 256 * p7)):=by omega
 have s6 : x5 / 4294967296 = (p4 + p5 + p6 + p7) + 256 * (p5 + p6 + p7) + 65536 * ((p6 + p7) + 256 * p7):=by omega
 clear h5 s5
 have u4 : x4 < 18446744073709551616:=by omega
 clear s4
 have u5 : x5 < 18446744073709551616:=by omega
 rw [s6,t5] at h6
 clear t5 s6
 exact ⟨by omega,lb1,lb2,u4,u5,by omega⟩
def cntC (c : Cls) : Nat:=popN 64 c.1 + popN 64 c.2.1 + popN 64 c.2.2.1 + popN 64 c.2.2.2
theorem popN_le (f : Nat) : ∀ x,popN f x ≤ f:=by
 induction f with
 | zero => intro x;simp [popN]
 | succ f ih => intro x;simp only [popN];have:=ih (x / 2);omega
theorem popN_bits (f : Nat) : ∀ x,popN f x = (List.range f).countP (fun i => x.testBit i):=by
 induction f with
 | zero => intro x;simp [popN]
 | succ f ih =>
   intro x
   rw [List.range_succ_eq_map,List.countP_cons,List.countP_map]
   simp only [popN,ih]
   have : (List.range f).countP (fun i => (x / 2).testBit i) = (List.range f).countP ((fun i => x.testBit i) ∘ Nat.succ):=by
    apply List.countP_congr
    intro i _
    simp [Nat.testBit_succ]
   rw [this,Nat.testBit_zero]
   by_cases h : x % 2 = 1
   ·simp [h];omega
   ·simp [h];omega
theorem cnt_has (c : Cls) : cntC c = (List.range 256).countP (fun x => has c x):=by
 have e : List.range 256 = List.range 64 ++ (List.range 64).map (64 + ·) ++ (List.range 64).map (128 + ·) ++ (List.range 64).map (192 + ·):=by decide +kernel
 have h : ∀ q,q < 4 → (List.range 64).countP ((fun x => has c x) ∘ (64 * q + ·)) = popN 64 (word c q):=by
  intro q _
  rw [popN_bits]
  apply List.countP_congr
  intro i hi
  rw [List.mem_range] at hi
  simp only [Function.comp,has]
  rw [show (64 * q + i) / 64 = q by omega,show (64 * q + i) % 64 = i by omega]
 have h0:=h 0 (by omega)
 have h1:=h 1 (by omega)
 have h2:=h 2 (by omega)
 have h3:=h 3 (by omega)
 rw [e,List.countP_append,List.countP_append,List.countP_append,List.countP_map,List.countP_map,List.countP_map]
 simp only [Nat.mul_zero,Nat.mul_one,Nat.reduceMul] at h0 h1 h2 h3
 rw [h1,h2,h3]
 have h0' : (List.range 64).countP (fun x => has c x) = popN 64 (word c 0):=by
  rw [← h0];apply List.countP_congr;intro i _;simp [Function.comp]
 rw [h0']
 rfl
theorem cnt_one {c : Cls} (h : cntC c = 1) : ∃ b,b < 256 ∧ ∀ x,x < 256 → (has c x = true ↔ x = b):=by
 rw [cnt_has,List.countP_eq_length_filter] at h
 obtain ⟨b,hb⟩:=List.length_eq_one_iff.1 h
 have hm : ∀ x,x < 256 → (has c x = true ↔ x = b):=by
  intro x hx
  have : x ∈ (List.range 256).filter (fun x => has c x) ↔ x ∈ [b]:=by rw [hb]
  rw [List.mem_filter,List.mem_range] at this
  simpa [hx] using this
 have : b ∈ (List.range 256).filter (fun x => has c x):=by rw [hb];simp
 rw [List.mem_filter,List.mem_range] at this
 exact ⟨b,this.1,hm⟩
def eitherC (a b : Cls) : Cls:=(a.1 ||| b.1,a.2.1 ||| b.2.1,a.2.2.1 ||| b.2.2.1,a.2.2.2 ||| b.2.2.2)
def notC (a : Cls) : Cls:=(18446744073709551615 - a.1,18446744073709551615 - a.2.1,18446744073709551615 - a.2.2.1,18446744073709551615 - a.2.2.2)
theorem okC_either {a b : Cls} (ha : okC a) (hb : okC b) : okC (eitherC a b):=by
 obtain ⟨h0,h1,h2,h3⟩:=ha
 obtain ⟨k0,k1,k2,k3⟩:=hb
 exact ⟨or_lt64 h0 k0,or_lt64 h1 k1,or_lt64 h2 k2,or_lt64 h3 k3⟩
theorem okC_not (a : Cls) : okC (notC a):=by
 unfold notC
 refine ⟨?_,?_,?_,?_⟩ <;> dsimp only <;> omega
theorem word_either (a b : Cls) (q : Nat) : word (eitherC a b) q = word a q ||| word b q:=by unfold word eitherC;dsimp only;split <;> (try split) <;> (try split) <;> rfl
theorem has_either (a b : Cls) (x : Nat) : has (eitherC a b) x = (has a x || has b x):=by unfold has;rw [word_either,Nat.testBit_or]
def hexD (n : Nat) : UInt8:=if n < 10 then UInt8.ofNat (48 + n) else UInt8.ofNat (87 + n)
def specialL : List UInt8:=[92,46,91,93,40,41,124,42,43,63,94,36,45]
def byteT (b : Nat) : List UInt8 :=
 if b < 32 ∨ 126 < b then [92,120,hexD (b / 16),hexD (b % 16)]
 else if UInt8.ofNat b ∈ specialL then [92,UInt8.ofNat b] else [UInt8.ofNat b]
theorem byteT_len (b : Nat) : (byteT b).length ≤ 4 ∧ 1 ≤ (byteT b).length:=by
 unfold byteT
 split
 ·simp
 ·split <;> simp
def top (c : Cls) (b : Nat) : Nat:=if h : b < 255 ∧ has c (b + 1) = true then top c (b + 1) else b
termination_by 255 - b
decreasing_by omega
theorem le_top (c : Cls) (b : Nat) : b ≤ top c b:=by
 unfold top
 split
 ·have:=le_top c (b + 1);omega
 ·omega
termination_by 255 - b
decreasing_by omega
theorem top_lt (c : Cls) (b : Nat) (h : b < 256) : top c b < 256:=by
 unfold top
 split
 ·exact top_lt c (b + 1) (by omega)
 ·exact h
termination_by 255 - b
decreasing_by omega
theorem top_yes {c : Cls} {b : Nat} (h1 : b < 255) (h2 : has c (b + 1) = true) : top c b = top c (b + 1):=by
 conv => lhs;unfold top
 rw [dif_pos ⟨h1,h2⟩]
theorem top_no {c : Cls} {b : Nat} (h : ¬(b < 255 ∧ has c (b + 1) = true)) : top c b = b:=by
 unfold top
 rw [dif_neg h]
theorem has_top {c : Cls} {b x : Nat} (hb : has c b = true) (h1 : b ≤ x) (h2 : x ≤ top c b) : has c x = true:=by
 by_cases h : b < 255 ∧ has c (b + 1) = true
 ·rw [top_yes h.1 h.2] at h2
  by_cases e : x = b
  ·rw [e];exact hb
  ·exact has_top h.2 (by omega) h2
 ·rw [top_no h] at h2
  have : x = b:=by omega
  rw [this];exact hb
termination_by 255 - b
decreasing_by omega
def runI (lo hi : Nat) : List (Nat × Nat):=if hi = lo then [(lo,lo)] else if hi = lo + 1 then [(lo,lo),(hi,hi)] else [(lo,hi)]
def items (c : Cls) (b : Nat) : List (Nat × Nat):=if h : b < 256 then (if has c b then runI b (top c b) ++ items c (top c b + 1) else items c (b + 1)) else []
termination_by 256 - b
decreasing_by
 ·have:=le_top c b;omega
 ·omega
def itemT (p : Nat × Nat) : List UInt8:=if p.1 = p.2 then byteT p.1 else byteT p.1 ++ [45] ++ byteT p.2
def spT (lo hi : Nat) : List UInt8:=if hi - lo = 0 then byteT lo else if hi - lo = 1 then byteT lo ++ byteT hi else byteT lo ++ [45] ++ byteT hi
theorem spT_items (lo hi : Nat) (h : lo ≤ hi) : (runI lo hi).flatMap itemT = spT lo hi:=by
 unfold runI spT
 split
 ·rename_i e;subst e;simp [itemT]
 ·split
  ·rename_i e;subst e;simp [itemT]
  ·rw [if_neg (by omega),if_neg (by omega)]
   have : lo ≠ hi:=by omega
   simp [itemT,this]
def runsT (c : Cls) (b : Nat) : List UInt8:=(items c b).flatMap itemT
theorem runsT_yes {c : Cls} {b : Nat} (hb : b < 256) (h : has c b = true) : runsT c b = spT b (top c b) ++ runsT c (top c b + 1):=by
 unfold runsT
 conv => lhs;unfold items
 rw [dif_pos hb,if_pos h,List.flatMap_append,spT_items _ _ (le_top c b)]
theorem runsT_no {c : Cls} {b : Nat} (hb : b < 256) (h : has c b = false) : runsT c b = runsT c (b + 1):=by
 unfold runsT
 conv => lhs;unfold items
 rw [dif_pos hb,if_neg (by simp [h])]
theorem runsT_end {c : Cls} {b : Nat} (hb : 256 ≤ b) : runsT c b = []:=by
 unfold runsT items
 rw [dif_neg (by omega)]
 rfl
def okI (l : List (Nat × Nat)) : Prop:=∀ p ∈ l,p.1 ≤ p.2 ∧ p.2 < 256
theorem mem_runI {lo hi : Nat} (h : lo ≤ hi) (h2 : hi < 256) : okI (runI lo hi) ∧ ∀ x,(∃ p ∈ runI lo hi,p.1 ≤ x ∧ x ≤ p.2) ↔ lo ≤ x ∧ x ≤ hi:=by
 unfold runI okI
 split
 ·rename_i e;subst e;simp;omega
 ·split
  ·rename_i e;subst e;simp;exact ⟨by omega,fun x => by omega⟩
  ·simp;omega
theorem mem_items (c : Cls) (b : Nat) : okI (items c b) ∧ ∀ x,(∃ p ∈ items c b,p.1 ≤ x ∧ x ≤ p.2) ↔ b ≤ x ∧ x < 256 ∧ has c x = true:=by
 unfold items
 by_cases hb : b < 256
 ·rw [dif_pos hb]
  by_cases h : has c b = true
  ·rw [if_pos h]
   have hl:=le_top c b
   have ht:=top_lt c b hb
   obtain ⟨h1,h2⟩:=mem_items c (top c b + 1)
   obtain ⟨k1,k2⟩:=mem_runI hl ht
   refine ⟨fun p hp => ?_,fun x => ?_⟩
   ·rw [List.mem_append] at hp
    exact hp.elim (k1 p) (h1 p)
   ·have e : (∃ p ∈ runI b (top c b) ++ items c (top c b + 1),p.1 ≤ x ∧ x ≤ p.2) ↔ (∃ p ∈ runI b (top c b),p.1 ≤ x ∧ x ≤ p.2) ∨ (∃ p ∈ items c (top c b + 1),p.1 ≤ x ∧ x ≤ p.2):=by
     simp only [List.mem_append]
     constructor
     ·rintro ⟨p,hp | hp,hx⟩
      ·exact .inl ⟨p,hp,hx⟩
      ·exact .inr ⟨p,hp,hx⟩
     ·rintro (⟨p,hp,hx⟩ | ⟨p,hp,hx⟩)
      ·exact ⟨p,.inl hp,hx⟩
      ·exact ⟨p,.inr hp,hx⟩
    rw [e,k2,h2]
    constructor
    ·rintro (⟨p1,p2⟩ | ⟨p1,p2,p3⟩)
     ·exact ⟨p1,by omega,has_top h p1 p2⟩
     ·exact ⟨by omega,p2,p3⟩
    ·rintro ⟨p1,p2,p3⟩
     by_cases hx : x ≤ top c b
     ·exact .inl ⟨p1,hx⟩
     ·exact .inr ⟨by omega,p2,p3⟩
  ·rw [if_neg h]
   obtain ⟨h1,h2⟩:=mem_items c (b + 1)
   refine ⟨h1,fun x => ?_⟩
   rw [h2]
   constructor
   ·rintro ⟨p1,p2,p3⟩;exact ⟨by omega,p2,p3⟩
   ·rintro ⟨p1,p2,p3⟩
    by_cases e : x = b
    ·rw [e] at p3;exact absurd p3 h
    ·exact ⟨by omega,p2,p3⟩
 ·rw [dif_neg hb]
  refine ⟨fun p hp => (by cases hp),fun x => ⟨?_,?_⟩⟩
  ·rintro ⟨p,hp,_⟩;cases hp
  ·rintro ⟨p1,p2,_⟩;omega
termination_by 256 - b
decreasing_by
 ·have:=le_top c b;omega
 ·omega
def least (c : Cls) (b : Nat) : Nat:=if h : b < 256 ∧ has c b = false then least c (b + 1) else b
termination_by 256 - b
decreasing_by omega
theorem least_no {c : Cls} {b : Nat} (h1 : b < 256) (h2 : has c b = false) : least c b = least c (b + 1):=by
 conv => lhs;unfold least
 rw [dif_pos ⟨h1,h2⟩]
theorem least_yes {c : Cls} {b : Nat} (h : has c b = true) : least c b = b:=by
 unfold least
 rw [dif_neg (by simp [h])]
theorem least_of {c : Cls} {b x : Nat} (h1 : x ≤ b) (hb : b < 256) (h : ∀ y,y < 256 → (has c y = true ↔ y = b)) : least c x = b:=by
 by_cases e : x = b
 ·rw [e];exact least_yes ((h b hb).2 rfl)
 ·have hx : has c x = false:=by
   cases hh : has c x with
   | false => rfl
   | true => exact absurd ((h x (by omega)).1 hh) e
  rw [least_no (by omega) hx]
  exact least_of (by omega) hb h
termination_by 256 - x
decreasing_by omega
def dotC : Cls:=notC (ofL [10] zc)
instance : DecidableEq Cls:=inferInstanceAs (DecidableEq (Nat × Nat × Nat × Nat))
def textC (c : Cls) : List UInt8:=if cntC c = 1 then byteT (least c 0) else if c = dotC then [46] else 91 :: (runsT c 0 ++ [93])
theorem cnt_one_least {c : Cls} (h : cntC c = 1) : least c 0 < 256 ∧ ∀ x,x < 256 → (has c x = true ↔ x = least c 0):=by
 obtain ⟨b,hb,hx⟩:=cnt_one h
 rw [least_of (Nat.zero_le _) hb hx]
 exact ⟨hb,hx⟩
theorem spT_len (lo hi : Nat) : (spT lo hi).length ≤ 9:=by
 have h1:=byteT_len lo
 have h2:=byteT_len hi
 unfold spT
 split
 ·omega
 ·split <;> simp <;> omega
theorem runsT_len (c : Cls) (b : Nat) : (runsT c b).length ≤ 9 * (256 - b):=by
 by_cases hb : b < 256
 ·by_cases h : has c b = true
  ·rw [runsT_yes hb h,List.length_append]
   have h1:=le_top c b
   have h2:=top_lt c b hb
   have h3:=spT_len b (top c b)
   have h4:=runsT_len c (top c b + 1)
   omega
  ·rw [runsT_no hb (by simpa using h)]
   have h4:=runsT_len c (b + 1)
   omega
 ·rw [runsT_end (by omega)];simp
termination_by 256 - b
decreasing_by
 ·have:=le_top c b;omega
 ·omega
def selC (P : Nat → Bool) : Nat → Cls
 | 0 => zc
 | k + 1 => if P k then withB (selC P k) k else selC P k
theorem okC_sel (P : Nat → Bool) : ∀ k,okC (selC P k):=by
 intro k
 induction k with
 | zero => exact okC_zc
 | succ k ih =>
   unfold selC
   split
   ·exact okC_with ih k
   ·exact ih
theorem has_sel (P : Nat → Bool) : ∀ k,k ≤ 256 → ∀ x,x < 256 → has (selC P k) x = (decide (x < k) && P x):=by
 intro k
 induction k with
 | zero => intro _ x _;simp [selC,has_zc]
 | succ k ih =>
   intro hk x hx
   unfold selC
   split
   ·rename_i h
    rw [has_with _ k x (by omega) hx,ih (by omega) x hx]
    by_cases e : x = k
    ·subst e;simp [h]
    ·have : decide (x < k + 1) = decide (x < k):=by congr 1;simp;omega
     simp [e,this]
   ·rename_i h
    rw [ih (by omega) x hx]
    by_cases e : x = k
    ·subst e;simp [h]
    ·have : decide (x < k + 1) = decide (x < k):=by congr 1;simp;omega
     simp [this]
def rngC (lo : Nat) : Nat → Cls
 | 0 => zc
 | k + 1 => withB (rngC lo k) (lo + k)
inductive Star (R : Nat → Nat → Prop) : Nat → Nat → Prop where
 | refl (i : Nat) : Star R i i
 | tail {i j k : Nat} : Star R i j → R j k → Star R i k
theorem Star.one {R : Nat → Nat → Prop} {i j : Nat} (h : R i j) : Star R i j:=.tail (.refl i) h
theorem Star.trans {R : Nat → Nat → Prop} {i j k : Nat} (h : Star R i j) (h' : Star R j k) : Star R i k:=by
 induction h' with
 | refl => exact h
 | tail _ hr ih => exact .tail ih hr
theorem Star.head {R : Nat → Nat → Prop} {i j k : Nat} (h : R i j) (h' : Star R j k) : Star R i k:=(Star.one h).trans h'
theorem Star.mono {R S : Nat → Nat → Prop} {i j : Nat} (h : Star R i j) (hs : ∀ a b,R a b → S a b) : Star S i j:=by
 induction h with
 | refl => exact .refl _
 | tail _ hr ih => exact .tail ih (hs _ _ hr)
theorem Star.inv {R : Nat → Nat → Prop} {i j : Nat} (h : Star R i j) (P : Nat → Prop) (h0 : P i) (hs : ∀ a b,P a → R a b → P b) : P j:=by
 induction h with
 | refl => exact h0
 | tail _ hr ih => exact hs _ _ ih hr
def Fits (s : List UInt8) : Rx → Nat → Nat → Prop
 | .byte c,i,j => j = i + 1 ∧ ∃ b,s[i]? = some b ∧ has c b.toNat = true
 | .empty,i,j => j = i
 | .cat a b,i,j => ∃ k,Fits s a i k ∧ Fits s b k j
 | .alt a b,i,j => Fits s a i j ∨ Fits s b i j
 | .star a,i,j => Star (Fits s a) i j
 | .plus a,i,j => ∃ k,Fits s a i k ∧ Star (Fits s a) k j
 | .opt a,i,j => j = i ∨ Fits s a i j
 | .bgn,i,j => j = i ∧ i = 0
 | .fin,i,j => j = i ∧ i = s.length
theorem fits_bound (s : List UInt8) (u : Rx) : ∀ i j,Fits s u i j → i ≤ s.length → i ≤ j ∧ j ≤ s.length:=by
 induction u with
 | byte c =>
   rintro i j ⟨rfl,b,hb,_⟩ hi
   have:=(List.getElem?_eq_some_iff.1 hb).1
   omega
 | empty => rintro i j h hi;simp only [Fits] at h;omega
 | bgn => rintro i j ⟨h,_⟩ hi;omega
 | fin => rintro i j ⟨h,_⟩ hi;omega
 | cat a b iha ihb =>
   rintro i j ⟨k,h1,h2⟩ hi
   have:=iha _ _ h1 hi
   have:=ihb _ _ h2 this.2
   omega
 | alt a b iha ihb =>
   rintro i j (h | h) hi
   ·exact iha _ _ h hi
   ·exact ihb _ _ h hi
 | star a iha =>
   intro i j h hi
   exact Star.inv (P:=fun x => i ≤ x ∧ x ≤ s.length) h ⟨Nat.le_refl _,hi⟩ fun x y hx hxy => by
    have:=iha _ _ hxy hx.2
    omega
 | plus a iha =>
   rintro i j ⟨k,h1,h2⟩ hi
   have hk:=iha _ _ h1 hi
   exact Star.inv (P:=fun x => i ≤ x ∧ x ≤ s.length) h2 ⟨by omega,hk.2⟩ fun x y hx hxy => by
    have:=iha _ _ hxy hx.2
    omega
 | opt a iha =>
   rintro i j (h | h) hi
   ·omega
   ·exact iha _ _ h hi
def cnt (D : Nat → Bool) : Nat → Nat
 | 0 => if D 0 then 0 else 1
 | n + 1 => cnt D n + if D (n + 1) then 0 else 1
def mark (D : Nat → Bool) (k : Nat) : Nat → Bool:=fun j => j == k || D j
theorem cnt_out (D : Nat → Bool) (k : Nat) : ∀ n,n < k → cnt (mark D k) n = cnt D n:=by
 intro n
 induction n with
 | zero => intro h;have : (0 == k) = false:=by simp;omega
           simp [cnt,mark,this]
 | succ n ih =>
   intro h
   have : (n + 1 == k) = false:=by simp;omega
   simp only [cnt,ih (by omega),mark,this,Bool.false_or]
theorem cnt_mark (D : Nat → Bool) (k : Nat) (hD : D k = false) : ∀ n,k ≤ n → cnt (mark D k) n + 1 = cnt D n:=by
 intro n
 induction n with
 | zero => intro h;obtain rfl : k = 0:=by omega
           simp [cnt,mark,hD]
 | succ n ih =>
   intro h
   by_cases e : k = n + 1
   ·subst e
    simp only [cnt,cnt_out D (n + 1) n (by omega),mark,hD,beq_self_eq_true,Bool.true_or,if_true]
    simp
   ·have e2 : (n + 1 == k) = false:=by simp;omega
    have:=ih (by omega)
    have e3 : mark D k (n + 1) = D (n + 1):=by simp [mark,e2]
    simp only [cnt,e3]
    omega
theorem cnt_le (D : Nat → Bool) : ∀ n,cnt D n ≤ n + 1:=by
 intro n
 induction n with
 | zero => simp only [cnt];split <;> omega
 | succ n ih => simp only [cnt];split <;> omega
structure InvO (n : Nat) (R : Nat → Nat → Prop) (at_ : Nat) (D : Nat → Bool) (qs : List Nat) : Prop where
 start : D at_ = true
 sound : ∀ x,D x = true → x ≤ n ∧ Star R at_ x
 wait : ∀ q ∈ qs,D q = true
 closed : ∀ x,D x = true → x ∉ qs → ∀ y,y ≤ n → R x y → D y = true
structure InvI (n : Nat) (R : Nat → Nat → Prop) (at_ : Nat) (D : Nat → Bool) (h : Nat) (rest : List Nat) (k : Nat) : Prop where
 start : D at_ = true
 sound : ∀ x,D x = true → x ≤ n ∧ Star R at_ x
 wait : ∀ q ∈ h :: rest,D q = true
 closed : ∀ x,D x = true → x ≠ h → x ∉ rest → ∀ y,y ≤ n → R x y → D y = true
 now : ∀ y,y < k → R h y → D y = true
section
variable {n : Nat} {R : Nat → Nat → Prop} {at_ : Nat} {D : Nat → Bool} {h : Nat} {rest : List Nat} {k : Nat}
theorem InvO.first (hat : at_ ≤ n) : InvO n R at_ (fun j => j == at_) [at_] :=
 ⟨by simp,fun x hx => by simp at hx;subst hx;exact ⟨hat,.refl _⟩,fun q hq => by simpa using hq,fun x hx hn => by simp at hx hn;exact absurd hx hn⟩
theorem InvO.open_ (i : InvO n R at_ D (h :: rest)) : InvI n R at_ D h rest 0 :=
 ⟨i.start,i.sound,i.wait,fun x hx hne hr => i.closed x hx (by simp [hne,hr]),fun y hy => by omega⟩
theorem InvI.skip (i : InvI n R at_ D h rest k) (hk : R h k → D k = true) : InvI n R at_ D h rest (k + 1) :=
 ⟨i.start,i.sound,i.wait,i.closed,fun y hy hr => by
   by_cases e : y = k
   ·subst e;exact hk hr
   ·exact i.now y (by omega) hr⟩
theorem InvI.add (i : InvI n R at_ D h rest k) (hr : R h k) (hk : k ≤ n) : InvI n R at_ (mark D k) h (rest ++ [k]) (k + 1):=by
 have up : ∀ x,D x = true → mark D k x = true:=fun x hx => by simp [mark,hx]
 have hh:=i.sound h (i.wait h (by simp))
 refine ⟨up _ i.start,fun x hx => ?_,fun q hq => ?_,fun x hx hne hnr y hy hxy => ?_,fun y hy hry => ?_⟩
 ·simp [mark] at hx
  rcases hx with rfl | hx
  ·exact ⟨hk,.tail hh.2 hr⟩
  ·exact i.sound x hx
 ·simp at hq
  rcases hq with rfl | hq | rfl
  ·exact up _ (i.wait _ (by simp))
  ·exact up _ (i.wait _ (by simp [hq]))
  ·simp [mark]
 ·simp at hnr
  simp [mark,hnr.2] at hx
  exact up _ (i.closed x hx hne hnr.1 y hy hxy)
 ·by_cases e : y = k
  ·subst e;simp [mark]
  ·exact up _ (i.now y (by omega) hry)
theorem InvO.done (i : InvO n R at_ D []) (hb : ∀ x y,R x y → x ≤ n → y ≤ n) (hat : at_ ≤ n) (j : Nat) : D j = true ↔ Star R at_ j:=by
 constructor
 ·intro hj;exact (i.sound j hj).2
 ·intro hj
  have : D j = true ∧ j ≤ n:=Star.inv (P:=fun x => D x = true ∧ x ≤ n) hj ⟨i.start,hat⟩ fun a b ha hab =>
   ⟨i.closed a ha.1 (by simp) b (hb a b hab ha.2) hab,hb a b hab ha.2⟩
  exact this.1
end
end Wf
namespace Go.Proofs.YthhcpbfgoofppaaGreatDoor
open Classical in
noncomputable def upTo_ (P : Nat → Prop) (n : Nat) : List Nat:=(List.range n).filter fun j => decide (P j)
theorem upTo_yes {P : Nat → Prop} {k : Nat} (h : P k) : upTo_ P (k + 1) = upTo_ P k ++ [k]:=by simp [upTo_,List.range_succ,List.filter_append,h]
theorem upTo_no {P : Nat → Prop} {k : Nat} (h : ¬ P k) : upTo_ P (k + 1) = upTo_ P k:=by simp [upTo_,List.range_succ,List.filter_append,h]
theorem upTo_mem {P : Nat → Prop} {n k : Nat} : k ∈ upTo_ P n ↔ k < n ∧ P k:=by simp [upTo_]
theorem upTo_iff {P Q : Nat → Prop} {n : Nat} (h : ∀ k,k < n → (P k ↔ Q k)) : upTo_ P n = upTo_ Q n:=by
 unfold upTo_
 refine List.filter_congr fun k hk => ?_
 have:=h k (by simpa using hk)
 simp [this]
end Go.Proofs.YthhcpbfgoofppaaGreatDoor
namespace Wf
def catL (n m : List UInt8 × Bool) : List UInt8 × Bool :=
 if n.2 = true ∧ m.2 = true then (n.1 ++ m.1,true) else if m.1.length > n.1.length then (m.1,false) else (n.1,false)
def litL : Rx → List UInt8 × Bool
 | .byte c => if cntC c = 1 then ([UInt8.ofNat (least c 0)],true) else ([],false)
 | .empty => ([],true)
 | .cat a b => catL (litL a) (litL b)
 | .plus a => ((litL a).1,false)
 | _ => ([],false)
theorem catL_len (n m : List UInt8 × Bool) : (catL n m).1.length ≤ n.1.length + m.1.length:=by
 unfold catL
 split
 ·simp
 ·split <;> simp
theorem litL_len (t : Rx) : (litL t).1.length ≤ (flat t).length:=by
 induction t with
 | byte c => simp only [litL];split <;> simp [flat]
 | cat a b iha ihb => simp only [litL,flat];have:=catL_len (litL a) (litL b);simp;omega
 | plus a iha => simp only [litL,flat];simp;omega
 | _ => simp [litL]
def sub (s : List UInt8) (i j : Nat) : List UInt8:=(s.drop i).take (j - i)
theorem sub_self (s : List UInt8) (i : Nat) : sub s i i = []:=by simp [sub]
theorem sub_split (s : List UInt8) {i k j : Nat} (h1 : i ≤ k) (h2 : k ≤ j) : sub s i j = sub s i k ++ sub s k j:=by
 unfold sub
 have e : s.drop k = (s.drop i).drop (k - i):=by rw [List.drop_drop];congr 1;omega
 rw [e,show j - i = (k - i) + (j - k) by omega,List.take_add]
theorem sub_one {s : List UInt8} {i : Nat} {b : UInt8} (h : s[i]? = some b) : sub s i (i + 1) = [b]:=by
 have hi:=(List.getElem?_eq_some_iff.1 h)
 obtain ⟨h1,h2⟩:=hi
 unfold sub
 rw [List.drop_eq_getElem_cons h1,h2]
 simp
theorem fits_lit (s : List UInt8) (t : Rx) : ∀ i j,Fits s t i j → i ≤ s.length → (∃ p q,sub s i j = p ++ (litL t).1 ++ q) ∧ ((litL t).2 = true → sub s i j = (litL t).1):=by
 have none : ∀ (x : List UInt8),(∃ p q,x = p ++ ([] : List UInt8) ++ q) ∧ (false = true → x = []):=fun x => ⟨⟨x,[],by simp⟩,fun h => by cases h⟩
 induction t with
 | byte c =>
   rintro i j ⟨rfl,b,hb,hc⟩ hi
   simp only [litL]
   split
   ·rename_i h1
    obtain ⟨hl,hm⟩:=cnt_one_least h1
    have e : b.toNat = least c 0:=(hm _ b.toNat_lt).1 hc
    have : b = UInt8.ofNat (least c 0):=by rw [← e];simp
    rw [sub_one hb,this]
    exact ⟨⟨[],[],by simp⟩,fun _ => rfl⟩
   ·exact none _
 | empty =>
   rintro i j h hi
   obtain rfl : j = i:=h
   rw [sub_self]
   exact ⟨⟨[],[],rfl⟩,fun _ => rfl⟩
 | cat a b iha ihb =>
   rintro i j ⟨k,h1,h2⟩ hi
   obtain ⟨b1,b2⟩:=fits_bound s a i k h1 hi
   obtain ⟨b3,b4⟩:=fits_bound s b k j h2 b2
   obtain ⟨⟨p1,q1,e1⟩,w1⟩:=iha i k h1 hi
   obtain ⟨⟨p2,q2,e2⟩,w2⟩:=ihb k j h2 b2
   rw [sub_split s b1 b3]
   simp only [litL]
   unfold catL
   split
   ·rename_i h
    rw [w1 h.1,w2 h.2]
    exact ⟨⟨[],[],by simp⟩,fun _ => rfl⟩
   ·split
    ·exact ⟨⟨sub s i k ++ p2,q2,by rw [e2];simp⟩,fun h => by cases h⟩
    ·exact ⟨⟨p1,q1 ++ sub s k j,by rw [e1];simp⟩,fun h => by cases h⟩
 | plus a iha =>
   rintro i j ⟨k,h1,h2⟩ hi
   obtain ⟨b1,b2⟩:=fits_bound s a i k h1 hi
   have b3 : k ≤ j:=(fits_bound s (.star a) k j h2 b2).1
   obtain ⟨⟨p1,q1,e1⟩,_⟩:=iha i k h1 hi
   rw [sub_split s b1 b3]
   exact ⟨⟨p1,q1 ++ sub s k j,by rw [e1];simp [litL]⟩,fun h => by cases h⟩
 | alt a b _ _ => intro i j _ _;exact none _
 | star a _ => intro i j _ _;exact none _
 | opt a _ => intro i j _ _;exact none _
 | bgn => intro i j _ _;exact none _
 | fin => intro i j _ _;exact none _
def setD (D : Nat → Bool) (k : Nat) (x : Bool) : Nat → Bool:=fun j => if j = k then x else D j
def cntD (N : Nat) (D : Nat → Bool) : Nat:=(List.range N).countP D
theorem cntD_succ (N : Nat) (D : Nat → Bool) : cntD (N + 1) D = cntD N D + (if D N then 1 else 0):=by
 simp [cntD,List.range_succ,List.countP_append,List.countP_cons]
theorem cntD_mono {N : Nat} {D D' : Nat → Bool} (h : ∀ j,j < N → D j = true → D' j = true) : cntD N D ≤ cntD N D':=by
 induction N with
 | zero => simp [cntD]
 | succ N ih =>
   rw [cntD_succ,cntD_succ]
   have h1:=ih (fun j hj => h j (by omega))
   have h2:=h N (by omega)
   cases hD : D N with
   | false => simp;omega
   | true => rw [h2 hD];simp;omega
theorem cntD_lt {N : Nat} {D D' : Nat → Bool} (h : ∀ j,j < N → D j = true → D' j = true) {j : Nat} (hj : j < N) (h1 : D' j = true) (h2 : D j = false) : cntD N D < cntD N D':=by
 induction N with
 | zero => omega
 | succ N ih =>
   rw [cntD_succ,cntD_succ]
   by_cases e : j = N
   ·subst e
    have:=cntD_mono (fun i hi => h i (by omega) : ∀ i,i < j → D i = true → D' i = true)
    rw [h1,h2];simp;omega
   ·have h3:=ih (fun i hi => h i (by omega)) (by omega)
    have h4:=h N (by omega)
    cases hD : D N with
    | false => simp;omega
    | true => rw [h4 hD];simp;omega
def ToD (R : Nat → Nat → Prop) (N : Nat) (D D' : Nat → Bool) : Prop:=∀ j,j < N → (D' j = true ↔ ∃ k,k < N ∧ D k = true ∧ R k j)
structure Part (R : Nat → Nat → Prop) (N : Nat) (D Df : Nat → Bool) : Prop where
 up : ∀ j,j < N → D j = true → Df j = true
 of : ∀ j,j < N → Df j = true → ∃ k,k < N ∧ D k = true ∧ Star R k j
theorem Part.start (R : Nat → Nat → Prop) (N : Nat) (D : Nat → Bool) : Part R N D D:=⟨fun _ _ h => h,fun j hj h => ⟨j,hj,h,.refl _⟩⟩
theorem Part.step {R : Nat → Nat → Prop} {N : Nat} {D Df Dn : Nat → Bool} (h : Part R N D Df) (hn : ToD R N Df Dn) : Part R N D (fun j => Df j || Dn j):=by
 refine ⟨fun j hj hd => by simp [h.up j hj hd],fun j hj hd => ?_⟩
 simp only [Bool.or_eq_true] at hd
 rcases hd with hd | hd
 ·exact h.of j hj hd
 ·obtain ⟨m,hm,hd1,hr⟩:=(hn j hj).1 hd
  obtain ⟨k,hk,hd2,hs⟩:=h.of m hm hd1
  exact ⟨k,hk,hd2,.tail hs hr⟩
theorem Part.done {R : Nat → Nat → Prop} {N : Nat} {D Df Dn : Nat → Bool} (h : Part R N D Df) (hn : ToD R N Df Dn) (hb : ∀ x y,R x y → x < N → y < N) (hsame : ∀ j,j < N → (Df j || Dn j) = Df j) : ToD (Star R) N D (fun j => Df j || Dn j):=fun j hj => by
 show (Df j || Dn j) = true ↔ _
 rw [hsame j hj]
 constructor
 ·exact h.of j hj
 ·rintro ⟨k,hk,hd,hs⟩
  have hclosed : ∀ a b,(a < N ∧ Df a = true) → R a b → (b < N ∧ Df b = true):=by
   rintro a b ⟨h1,h2⟩ hr
   have h3:=hb a b hr h1
   refine ⟨h3,?_⟩
   have h4:=(hn b h3).2 ⟨a,h1,h2,hr⟩
   have h5:=hsame b h3
   rw [h4] at h5
   simpa using h5.symm
  exact (Star.inv (P:=fun x => x < N ∧ Df x = true) hs ⟨hk,h.up k hk hd⟩ hclosed).2
theorem Part.more {N : Nat} {Df Dn : Nat → Bool} {j : Nat} (hj : j < N) (hne : (Df j || Dn j) ≠ Df j) : cntD N Df < cntD N (fun j => Df j || Dn j):=by
 refine cntD_lt (fun i _ h => by simp [h]) hj ?_ ?_
 ·cases h : Df j with
  | true => simp
  | false => cases h2 : Dn j with
    | true => simp
    | false => rw [h,h2] at hne;simp at hne
 ·cases h : Df j with
  | false => rfl
  | true => rw [h] at hne;simp at hne
open Classical in
noncomputable def eo (l : List Nd) (i : Nat) : Int:=if h : ∃ u,At l i u then ((i + (flat (choose h)).length : Nat) : Int) else -1
def chkN : List Nd → Int
 | [] => 0
 | n :: r => if n.op < 1 ∨ 9 < n.op then 1 else if n.op ≠ 1 ∧ n.cls ≠ zc then 2 else chkN r
noncomputable def chkF (l : List Nd) : Int:=if 60 < l.length then 3 else if chkN l ≠ 0 then chkN l else if l.length = 0 ∨ eo l 0 ≠ (l.length : Int) then 2 else 0
end Wf
