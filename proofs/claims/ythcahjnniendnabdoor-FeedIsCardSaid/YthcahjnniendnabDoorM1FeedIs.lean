/-
  Texts of this claim, one behind the other (1): Pa, Mem, Pc, Open, Law, Laws, RexA, As, RexB, RexC, EmptyNo, Pm, ReP, RB, ReachA, ClsA.
-/
import Derived.Below
import Derived.Laws.OwnMore
import Derived.Deep.AppendLies
import Derived.Deep.Draws
import Derived.Laws.Rows
import Derived.Laws.MakeOwn
import Derived.Lib.Hide
import Derived.Test.YthcahjnniendnabDoorRows
import Derived.ProofKit
import Derived.OpenShut
import Derived.Deep.Slices
import Derived.Deep.Fields
import Derived.Lib.SmallJoins
import Derived.ChangeOld
import Derived.ShutString
import Derived.WalkKit
import Derived.WalkLawsBesides
import Derived.WalkSpells
import Derived.Laws.Tables
import Derived.Laws.Cover2
import Derived.Outline
import Derived.Deep.LoopGhost
import Derived.LaidEql
import Derived.Stop.Asserts
import Derived.RowKitTokens
import Derived.Deep.QuietTactic
import Derived.BigQuiet
import Derived.WalkSmall
import Derived.Deep.RegionHeld3
/-
  Plain facts about patterns: trees, their rows of nodes, the check, the ends of parts, what may be nothing, turning. No program in sight.
-/
namespace Wf

/-- A class: four numbers. -/
abbrev Cls := Nat × Nat × Nat × Nat

structure Nd where
  op : Int
  cls : Cls

def zc : Cls := (0, 0, 0, 0)

inductive Rx where
  | byte (c : Cls)
  | empty
  | cat (a b : Rx)
  | alt (a b : Rx)
  | star (a : Rx)
  | plus (a : Rx)
  | opt (a : Rx)
  | bgn
  | fin

def flat : Rx → List Nd
  | .byte c => [⟨1, c⟩]
  | .empty => [⟨2, zc⟩]
  | .cat a b => ⟨3, zc⟩ :: (flat a ++ flat b)
  | .alt a b => ⟨4, zc⟩ :: (flat a ++ flat b)
  | .star a => ⟨5, zc⟩ :: flat a
  | .plus a => ⟨6, zc⟩ :: flat a
  | .opt a => ⟨7, zc⟩ :: flat a
  | .bgn => [⟨8, zc⟩]
  | .fin => [⟨9, zc⟩]

theorem flat_pos (t : Rx) : 0 < (flat t).length := by cases t <;> simp [flat]

/-- How many parts a node has. -/
def parts (op : Int) : Nat := if op = 3 ∨ op = 4 then 2 else if op = 5 ∨ op = 6 ∨ op = 7 then 1 else 0

theorem parts_le (op : Int) : parts op ≤ 2 := by unfold parts; split <;> (try split) <;> omega

def chkLoop : List Nd → Int → Bool → Int
  | [], need, whole => if whole = true ∧ need = 0 then 0 else 2
  | n :: r, need, whole =>
    if n.op < 1 ∨ 9 < n.op then 1
    else if n.op ≠ 1 ∧ n.cls ≠ zc then 2
    else chkLoop r (need + ((parts n.op : Int) - 1)) (whole && decide (0 < need))

def chk (l : List Nd) : Int := if 60 < l.length then 3 else chkLoop l 1 true

theorem chkLoop_false (l : List Nd) : ∀ need, chkLoop l need false ≠ 0 := by
  induction l with
  | nil => intro need; simp [chkLoop]
  | cons n r ih =>
    intro need
    unfold chkLoop
    split
    · omega
    · split
      · omega
      · simpa using ih _

/-- A node that may be: its op and its class go together. -/
def good (n : Nd) : Prop := 1 ≤ n.op ∧ n.op ≤ 9 ∧ (n.op = 1 ∨ n.cls = zc)

theorem node_tree (n : Nd) (hg : good n) (ts : List Rx) (h : parts n.op ≤ ts.length) :
    ∃ (t : Rx) (ts' : List Rx), n :: ts.flatMap flat = flat t ++ ts'.flatMap flat ∧ ts'.length + parts n.op = ts.length := by
  obtain ⟨op, c⟩ := n
  obtain ⟨h1, h2, h3⟩ := hg
  simp only at h1 h2 h3 h ⊢
  by_cases e1 : op = 1
  · subst e1; exact ⟨.byte c, ts, by simp [flat], by simp [parts]⟩
  have hc : c = zc := by exact h3.resolve_left e1
  subst hc
  by_cases e2 : op = 2
  · subst e2; exact ⟨.empty, ts, by simp [flat], by simp [parts]⟩
  by_cases e8 : op = 8
  · subst e8; exact ⟨.bgn, ts, by simp [flat], by simp [parts]⟩
  by_cases e9 : op = 9
  · subst e9; exact ⟨.fin, ts, by simp [flat], by simp [parts]⟩
  by_cases e34 : op = 3 ∨ op = 4
  · have hp : parts op = 2 := by simp [parts, e34]
    rw [hp] at h ⊢
    match ts, h with
    | a :: b :: ts', _ =>
      rcases e34 with rfl | rfl
      · exact ⟨.cat a b, ts', by simp [flat], by simp⟩
      · exact ⟨.alt a b, ts', by simp [flat], by simp⟩
  · have e567 : op = 5 ∨ op = 6 ∨ op = 7 := by omega
    have hp : parts op = 1 := by unfold parts; rw [if_neg e34, if_pos e567]
    rw [hp] at h ⊢
    match ts, h with
    | a :: ts', _ =>
      rcases e567 with rfl | rfl | rfl
      · exact ⟨.star a, ts', by simp [flat], by simp⟩
      · exact ⟨.plus a, ts', by simp [flat], by simp⟩
      · exact ⟨.opt a, ts', by simp [flat], by simp⟩

theorem chkLoop_trees (l : List Nd) : ∀ k : Nat, chkLoop l k true = 0 → ∃ ts : List Rx, ts.length = k ∧ l = ts.flatMap flat := by
  induction l with
  | nil =>
    intro k h
    simp only [chkLoop] at h
    split at h
    · rename_i hk; exact ⟨[], by simp at hk ⊢; omega, rfl⟩
    · omega
  | cons n r ih =>
    intro k h
    unfold chkLoop at h
    split at h
    · omega
    · split at h
      · omega
      · rename_i h1 h2
        by_cases hk : 0 < k
        · have e1 : (decide ((0 : Int) < (k : Int))) = true := by simpa using hk
          have e2 : (k : Int) + ((parts n.op : Int) - 1) = ((k - 1 + parts n.op : Nat) : Int) := by omega
          rw [e1, e2] at h
          obtain ⟨ts, hl, rfl⟩ := ih _ h
          have hg : good n := ⟨by omega, by omega, by
            by_cases e : n.op = 1
            · exact .inl e
            · exact .inr (Classical.byContradiction fun hc => h2 ⟨e, hc⟩)⟩
          obtain ⟨t, ts', h3, h4⟩ := node_tree n hg ts (by omega)
          exact ⟨t :: ts', by simp; omega, by simpa using h3⟩
        · have e1 : (decide ((0 : Int) < (k : Int))) = false := by simpa using hk
          rw [e1] at h
          exact absurd h (chkLoop_false _ _)

theorem chk_tree {l : List Nd} (h : chk l = 0) : l.length ≤ 60 ∧ ∃ t, l = flat t := by
  unfold chk at h
  split at h
  · omega
  · rename_i hl
    obtain ⟨ts, h1, h2⟩ := chkLoop_trees l 1 h
    refine ⟨by omega, ?_⟩
    match ts, h1 with
    | [t], _ => exact ⟨t, by simpa using h2⟩

theorem chkLoop_flat (t : Rx) : ∀ (r : List Nd) (need : Int), 0 < need → chkLoop (flat t ++ r) need true = chkLoop r (need - 1) true := by
  induction t with
  | byte c => intro r need h; simp [flat, chkLoop, parts, h, Int.sub_eq_add_neg]
  | empty => intro r need h; simp [flat, chkLoop, parts, h, zc, Int.sub_eq_add_neg]
  | bgn => intro r need h; simp [flat, chkLoop, parts, h, zc, Int.sub_eq_add_neg]
  | fin => intro r need h; simp [flat, chkLoop, parts, h, zc, Int.sub_eq_add_neg]
  | cat a b iha ihb =>
    intro r need h
    simp only [flat, List.cons_append, chkLoop, List.append_assoc]
    simp only [parts, zc]
    simp [h]
    rw [iha _ _ (by omega), ihb _ _ (by omega)]
    congr 1; omega
  | alt a b iha ihb =>
    intro r need h
    simp only [flat, List.cons_append, chkLoop, List.append_assoc]
    simp only [parts, zc]
    simp [h]
    rw [iha _ _ (by omega), ihb _ _ (by omega)]
    congr 1; omega
  | star a iha =>
    intro r need h
    simp only [flat, List.cons_append, chkLoop]
    simp only [parts, zc]
    simp [h]
    rw [iha _ _ (by omega)]
  | plus a iha =>
    intro r need h
    simp only [flat, List.cons_append, chkLoop]
    simp only [parts, zc]
    simp [h]
    rw [iha _ _ (by omega)]
  | opt a iha =>
    intro r need h
    simp only [flat, List.cons_append, chkLoop]
    simp only [parts, zc]
    simp [h]
    rw [iha _ _ (by omega)]

theorem chk_flat (t : Rx) (h : (flat t).length ≤ 60) : chk (flat t) = 0 := by
  unfold chk
  rw [if_neg (by omega)]
  have := chkLoop_flat t [] 1 (by omega)
  rw [List.append_nil] at this
  rw [this]
  simp [chkLoop]

theorem flat_inj (t : Rx) : ∀ (t' : Rx) (r r' : List Nd), flat t ++ r = flat t' ++ r' → t = t' ∧ r = r' := by
  induction t with
  | byte c => intro t' r r' h; cases t' <;> simp [flat] at h ⊢ <;> exact h
  | empty => intro t' r r' h; cases t' <;> simp [flat] at h ⊢ <;> exact h
  | bgn => intro t' r r' h; cases t' <;> simp [flat] at h ⊢ <;> exact h
  | fin => intro t' r r' h; cases t' <;> simp [flat] at h ⊢ <;> exact h
  | cat a b iha ihb =>
    intro t' r r' h
    cases t' <;> simp [flat] at h
    obtain ⟨e1, h1⟩ := iha _ _ _ h
    obtain ⟨e2, h2⟩ := ihb _ _ _ h1
    exact ⟨by rw [e1, e2], h2⟩
  | alt a b iha ihb =>
    intro t' r r' h
    cases t' <;> simp [flat] at h
    obtain ⟨e1, h1⟩ := iha _ _ _ h
    obtain ⟨e2, h2⟩ := ihb _ _ _ h1
    exact ⟨by rw [e1, e2], h2⟩
  | star a iha => intro t' r r' h; cases t' <;> simp [flat] at h; obtain ⟨e1, h1⟩ := iha _ _ _ h; exact ⟨by rw [e1], h1⟩
  | plus a iha => intro t' r r' h; cases t' <;> simp [flat] at h; obtain ⟨e1, h1⟩ := iha _ _ _ h; exact ⟨by rw [e1], h1⟩
  | opt a iha => intro t' r r' h; cases t' <;> simp [flat] at h; obtain ⟨e1, h1⟩ := iha _ _ _ h; exact ⟨by rw [e1], h1⟩

/-- At place i of the row the part u begins. -/
def At (l : List Nd) (i : Nat) (u : Rx) : Prop := ∃ rest, l.drop i = flat u ++ rest

theorem At.lt {l : List Nd} {i : Nat} {u : Rx} (h : At l i u) : i + (flat u).length ≤ l.length := by
  obtain ⟨rest, h⟩ := h
  have e := congrArg List.length h
  have := flat_pos u
  simp at e
  omega

theorem At.inj {l : List Nd} {i : Nat} {u v : Rx} (h : At l i u) (k : At l i v) : u = v := by
  obtain ⟨r, h⟩ := h
  obtain ⟨r', k⟩ := k
  exact (flat_inj u v r r' (by rw [← h, ← k])).1

theorem At.whole (t : Rx) : At (flat t) 0 t := ⟨[], by simp⟩

theorem drop_cons {l : List Nd} {i : Nat} {n : Nd} {r : List Nd} (h : l.drop i = n :: r) : l[i]? = some n ∧ l.drop (i + 1) = r := by
  constructor
  · rw [← List.head?_drop, h]; rfl
  · rw [← List.drop_drop, h]; rfl

theorem drop_app {l : List Nd} {i : Nat} {a r : List Nd} (h : l.drop i = a ++ r) : l.drop (i + a.length) = r := by
  rw [← List.drop_drop, h]; simp

theorem At.cat {l : List Nd} {i : Nat} {a b : Rx} (h : At l i (.cat a b)) : l[i]? = some ⟨3, zc⟩ ∧ At l (i + 1) a ∧ At l (i + 1 + (flat a).length) b := by
  obtain ⟨r, h⟩ := h
  simp only [flat, List.cons_append, List.append_assoc] at h
  obtain ⟨h1, h2⟩ := drop_cons h
  exact ⟨h1, ⟨_, h2⟩, ⟨_, drop_app h2⟩⟩

theorem At.alt {l : List Nd} {i : Nat} {a b : Rx} (h : At l i (.alt a b)) : l[i]? = some ⟨4, zc⟩ ∧ At l (i + 1) a ∧ At l (i + 1 + (flat a).length) b := by
  obtain ⟨r, h⟩ := h
  simp only [flat, List.cons_append, List.append_assoc] at h
  obtain ⟨h1, h2⟩ := drop_cons h
  exact ⟨h1, ⟨_, h2⟩, ⟨_, drop_app h2⟩⟩

theorem At.star {l : List Nd} {i : Nat} {a : Rx} (h : At l i (.star a)) : l[i]? = some ⟨5, zc⟩ ∧ At l (i + 1) a := by
  obtain ⟨r, h⟩ := h
  simp only [flat, List.cons_append] at h
  obtain ⟨h1, h2⟩ := drop_cons h
  exact ⟨h1, ⟨_, h2⟩⟩
theorem At.plus {l : List Nd} {i : Nat} {a : Rx} (h : At l i (.plus a)) : l[i]? = some ⟨6, zc⟩ ∧ At l (i + 1) a := by
  obtain ⟨r, h⟩ := h
  simp only [flat, List.cons_append] at h
  obtain ⟨h1, h2⟩ := drop_cons h
  exact ⟨h1, ⟨_, h2⟩⟩
theorem At.opt {l : List Nd} {i : Nat} {a : Rx} (h : At l i (.opt a)) : l[i]? = some ⟨7, zc⟩ ∧ At l (i + 1) a := by
  obtain ⟨r, h⟩ := h
  simp only [flat, List.cons_append] at h
  obtain ⟨h1, h2⟩ := drop_cons h
  exact ⟨h1, ⟨_, h2⟩⟩
theorem At.byte {l : List Nd} {i : Nat} {c : Cls} (h : At l i (.byte c)) : l[i]? = some ⟨1, c⟩ := by
  obtain ⟨r, h⟩ := h
  exact (drop_cons h).1
theorem At.empty {l : List Nd} {i : Nat} (h : At l i .empty) : l[i]? = some ⟨2, zc⟩ := by
  obtain ⟨r, h⟩ := h
  exact (drop_cons h).1
theorem At.bgn {l : List Nd} {i : Nat} (h : At l i .bgn) : l[i]? = some ⟨8, zc⟩ := by
  obtain ⟨r, h⟩ := h
  exact (drop_cons h).1
theorem At.fin {l : List Nd} {i : Nat} (h : At l i .fin) : l[i]? = some ⟨9, zc⟩ := by
  obtain ⟨r, h⟩ := h
  exact (drop_cons h).1

/-- Each place of a pattern's row begins a part. -/
theorem at_all (t : Rx) : ∀ (r : List Nd) (i : Nat), i < (flat t).length → ∃ u, At (flat t ++ r) i u := by
  have base : ∀ (n : Nd) (t : Rx), flat t = [n] → ∀ (r : List Nd) (i : Nat), i < (flat t).length → ∃ u, At (flat t ++ r) i u := by
    intro n t ht r i hi
    rw [ht] at hi
    obtain rfl : i = 0 := by simpa using hi
    exact ⟨t, r, by simp⟩
  have one : ∀ (n : Nd) (t a : Rx), flat t = n :: flat a → (∀ (r : List Nd) (i : Nat), i < (flat a).length → ∃ u, At (flat a ++ r) i u) →
      ∀ (r : List Nd) (i : Nat), i < (flat t).length → ∃ u, At (flat t ++ r) i u := by
    intro n t a ht ih r i hi
    rcases Nat.eq_zero_or_pos i with rfl | h0
    · exact ⟨t, r, by simp⟩
    · rw [ht] at hi ⊢
      obtain ⟨j, rfl⟩ : ∃ j, i = j + 1 := ⟨i - 1, by omega⟩
      obtain ⟨u, rest, h⟩ := ih r j (by simpa using hi)
      exact ⟨u, rest, by simpa using h⟩
  have two : ∀ (n : Nd) (t a b : Rx), flat t = n :: (flat a ++ flat b) → (∀ (r : List Nd) (i : Nat), i < (flat a).length → ∃ u, At (flat a ++ r) i u) →
      (∀ (r : List Nd) (i : Nat), i < (flat b).length → ∃ u, At (flat b ++ r) i u) →
      ∀ (r : List Nd) (i : Nat), i < (flat t).length → ∃ u, At (flat t ++ r) i u := by
    intro n t a b ht iha ihb r i hi
    rcases Nat.eq_zero_or_pos i with rfl | h0
    · exact ⟨t, r, by simp⟩
    · rw [ht] at hi ⊢
      obtain ⟨j, rfl⟩ : ∃ j, i = j + 1 := ⟨i - 1, by omega⟩
      simp at hi
      by_cases hj : j < (flat a).length
      · obtain ⟨u, rest, h⟩ := iha (flat b ++ r) j hj
        exact ⟨u, rest, by simpa using h⟩
      · obtain ⟨u, rest, h⟩ := ihb r (j - (flat a).length) (by omega)
        refine ⟨u, rest, ?_⟩
        rw [← h]
        simp only [List.cons_append, List.drop_succ_cons, List.append_assoc]
        rw [List.drop_append, List.drop_eq_nil_of_le (by omega)]
        simp
  induction t with
  | byte c => exact base _ _ rfl
  | empty => exact base _ _ rfl
  | bgn => exact base _ _ rfl
  | fin => exact base _ _ rfl
  | cat a b iha ihb => exact two _ _ a b rfl iha ihb
  | alt a b iha ihb => exact two _ _ a b rfl iha ihb
  | star a iha => exact one _ _ a rfl iha
  | plus a iha => exact one _ _ a rfl iha
  | opt a iha => exact one _ _ a rfl iha

theorem at_each (t : Rx) (i : Nat) (h : i < (flat t).length) : ∃ u, At (flat t) i u := by
  have := at_all t [] i h
  simpa using this

/-- The row of ends of a pattern's row. -/
def IsEnds (l : List Nd) (xs : List Nat) : Prop := xs.length = l.length ∧ ∀ i u, At l i u → xs[i]? = some (i + (flat u).length)

/-- May it be nothing? -/
def may : Rx → Bool
  | .byte _ => false
  | .cat a b => may a && may b
  | .alt a b => may a || may b
  | .plus a => may a
  | _ => true

def turnT : Rx → Rx
  | .cat a b => .cat (turnT b) (turnT a)
  | .alt a b => .alt (turnT a) (turnT b)
  | .star a => .star (turnT a)
  | .plus a => .plus (turnT a)
  | .opt a => .opt (turnT a)
  | .bgn => .fin
  | .fin => .bgn
  | .byte c => .byte c
  | .empty => .empty

theorem turn_turn (t : Rx) : turnT (turnT t) = t := by
  induction t <;> simp_all [turnT]
theorem turn_len (t : Rx) : (flat (turnT t)).length = (flat t).length := by
  induction t <;> simp_all [turnT, flat] <;> omega
theorem may_turn (t : Rx) : may (turnT t) = may t := by
  induction t <;> simp_all [turnT, may, Bool.and_comm]

/-- The parts of a part. -/
def kids : Rx → List Rx
  | .cat a b => [a, b]
  | .alt a b => [a, b]
  | .star a => [a]
  | .plus a => [a]
  | .opt a => [a]
  | _ => []

/-- How far behind a part's node its j-th part begins. -/
def pre (u : Rx) (j : Nat) : Nat := 1 + (((kids u).take j).flatMap flat).length

theorem pre_zero (u : Rx) : pre u 0 = 1 := by simp [pre]
theorem pre_all (u : Rx) : pre u (kids u).length = (flat u).length := by
  cases u <;> simp [pre, kids, flat] <;> omega
theorem pre_succ (u : Rx) (j : Nat) (v : Rx) (h : (kids u)[j]? = some v) : pre u (j + 1) = pre u j + (flat v).length := by
  unfold pre
  rw [List.take_add_one, h]
  simp
  omega
theorem At.kid {l : List Nd} {i : Nat} {u : Rx} (h : At l i u) (j : Nat) (v : Rx) (hj : (kids u)[j]? = some v) : At l (i + pre u j) v := by
  cases u with
  | byte c => simp [kids] at hj
  | empty => simp [kids] at hj
  | bgn => simp [kids] at hj
  | fin => simp [kids] at hj
  | cat a b =>
    obtain ⟨_, ha, hb⟩ := h.cat
    match j, hj with
    | 0, hj => simp [kids] at hj; subst hj; simpa [pre] using ha
    | 1, hj => simp [kids] at hj; subst hj; simpa [pre, kids, Nat.add_assoc] using hb
    | j + 2, hj => simp [kids] at hj
  | alt a b =>
    obtain ⟨_, ha, hb⟩ := h.alt
    match j, hj with
    | 0, hj => simp [kids] at hj; subst hj; simpa [pre] using ha
    | 1, hj => simp [kids] at hj; subst hj; simpa [pre, kids, Nat.add_assoc] using hb
    | j + 2, hj => simp [kids] at hj
  | star a =>
    obtain ⟨_, ha⟩ := h.star
    match j, hj with
    | 0, hj => simp [kids] at hj; subst hj; simpa [pre] using ha
    | j + 1, hj => simp [kids] at hj
  | plus a =>
    obtain ⟨_, ha⟩ := h.plus
    match j, hj with
    | 0, hj => simp [kids] at hj; subst hj; simpa [pre] using ha
    | j + 1, hj => simp [kids] at hj
  | opt a =>
    obtain ⟨_, ha⟩ := h.opt
    match j, hj with
    | 0, hj => simp [kids] at hj; subst hj; simpa [pre] using ha
    | j + 1, hj => simp [kids] at hj
theorem At.node {l : List Nd} {i : Nat} {u : Rx} (h : At l i u) : ∃ n, l[i]? = some n ∧ parts n.op = (kids u).length ∧ good n := by
  cases u with
  | byte c => exact ⟨_, h.byte, rfl, by simp [good]⟩
  | empty => exact ⟨_, h.empty, rfl, by simp [good]⟩
  | bgn => exact ⟨_, h.bgn, rfl, by simp [good]⟩
  | fin => exact ⟨_, h.fin, rfl, by simp [good]⟩
  | cat a b => exact ⟨_, h.cat.1, rfl, by simp [good]⟩
  | alt a b => exact ⟨_, h.alt.1, rfl, by simp [good]⟩
  | star a => exact ⟨_, h.star.1, rfl, by simp [good]⟩
  | plus a => exact ⟨_, h.plus.1, rfl, by simp [good]⟩
  | opt a => exact ⟨_, h.opt.1, rfl, by simp [good]⟩

end Wf

/-
  Words for memory: slices that read as lists of cells; what is kept over new blocks.
-/
namespace Wf
open Go Go.RowKit

/-- A slice value that reads as the cells xs, 'size' cells an element. -/
def Rd (w : World) (size : Nat) (v : Value) (xs : List Value) : Prop :=
  ∃ (A : Option Addr) (n cap : Nat), v = .slice A n cap ∧ n ≤ cap ∧ cap ≤ 9223372036854775807 ∧ xs.length = n * size ∧
    (0 < n → ∃ b off, A = some ⟨b, off, none⟩ ∧ ∀ j u, xs[j]? = some u → w.cell? ⟨b, off + j, none⟩ = some u)

theorem Rd.keep {w w' : World} {size : Nat} {v : Value} {xs : List Value} (h : Rd w size v xs)
    (hk : ∀ b o, b < w.heap.size → w'.cell? ⟨b, o, none⟩ = w.cell? ⟨b, o, none⟩) : Rd w' size v xs := by
  obtain ⟨A, n, cap, hv, h1, h2, h3, h4⟩ := h
  refine ⟨A, n, cap, hv, h1, h2, h3, fun hn => ?_⟩
  obtain ⟨b, off, ha, hc⟩ := h4 hn
  refine ⟨b, off, ha, fun j u hu => ?_⟩
  have := hc j u hu
  rw [hk _ _ (World.block_lt_of_cell? w _ this)]
  exact this

theorem Rd.below {w w' : World} {size : Nat} {v : Value} {xs : List Value} (h : Rd w size v xs) (hb : Below w.heap.size w w') : Rd w' size v xs :=
  h.keep fun b o hlt => hb.cell (p := ⟨b, o, none⟩) hlt

theorem Rd.nil (w : World) (size : Nat) : Rd w size (.slice none 0 0) [] := ⟨none, 0, 0, rfl, by omega, by omega, by simp, fun h => by omega⟩

def ndCells (n : Nd) : List Value := [.int .i64 n.op, .int .u64 (n.cls.1 : Int), .int .u64 (n.cls.2.1 : Int), .int .u64 (n.cls.2.2.1 : Int), .int .u64 (n.cls.2.2.2 : Int)]

theorem flatMap_len (l : List Nd) : (l.flatMap ndCells).length = l.length * 5 := by
  induction l with
  | nil => rfl
  | cons n r ih => simp [ndCells] at ih ⊢; omega

theorem flatMap_get (l : List Nd) : ∀ (k j : Nat) (n : Nd), l[k]? = some n → j < 5 → (l.flatMap ndCells)[k * 5 + j]? = (ndCells n)[j]? := by
  induction l with
  | nil => intro k j n h; simp at h
  | cons m r ih =>
    intro k j n h hj
    rcases k with _ | k
    · simp at h
      subst h
      simp only [List.flatMap_cons, Nat.zero_mul, Nat.zero_add]
      rw [List.getElem?_append_left (by simpa [ndCells] using hj)]
    · simp only [List.flatMap_cons]
      rw [List.getElem?_append_right (by simp [ndCells]; omega)]
      have e : (k + 1) * 5 + j - (ndCells m).length = k * 5 + j := by simp [ndCells]; omega
      rw [e]
      exact ih k j n (by simpa using h) hj

/-- A slice that reads as a row of nodes. -/
def RdN (w : World) (v : Value) (l : List Nd) : Prop := Rd w 5 v (l.flatMap ndCells)

/-- What a walk wants of a row of nodes. -/
theorem RdN.open_ {w : World} {v : Value} {l : List Nd} (h : RdN w v l) : ∃ (A : Option Addr) (cap : Nat), v = .slice A l.length cap ∧ l.length ≤ cap ∧ cap ≤ 9223372036854775807 ∧
    (0 < l.length → ∃ b off, A = some ⟨b, off, none⟩ ∧ b < w.heap.size ∧ ∀ (w' : World), (∀ o, w'.cell? ⟨b, o, none⟩ = w.cell? ⟨b, o, none⟩) → ∀ k n, l[k]? = some n →
      w'.cell? ⟨b, off + k * 5, none⟩ = some (.int .i64 n.op) ∧ w'.cell? ⟨b, off + k * 5 + 1, none⟩ = some (.int .u64 (n.cls.1 : Int)) ∧ w'.cell? ⟨b, off + k * 5 + 2, none⟩ = some (.int .u64 (n.cls.2.1 : Int)) ∧
      w'.cell? ⟨b, off + k * 5 + 3, none⟩ = some (.int .u64 (n.cls.2.2.1 : Int)) ∧ w'.cell? ⟨b, off + k * 5 + 4, none⟩ = some (.int .u64 (n.cls.2.2.2 : Int))) := by
  obtain ⟨A, n, cap, rfl, h1, h2, h3, h4⟩ := h
  rw [flatMap_len] at h3
  obtain rfl : n = l.length := by omega
  refine ⟨A, cap, rfl, h1, h2, fun hn => ?_⟩
  obtain ⟨b, off, rfl, hc⟩ := h4 hn
  have hget : ∀ k n, l[k]? = some n → ∀ j u, j < 5 → (ndCells n)[j]? = some u → w.cell? ⟨b, off + (k * 5 + j), none⟩ = some u := by
    intro k n hk j u hj hu
    exact hc _ _ (by rw [flatMap_get l k j n hk hj]; exact hu)
  have hlt : b < w.heap.size := by
    have hl : l[0]? = some (l[0]'hn) := List.getElem?_eq_getElem hn
    exact World.block_lt_of_cell? w _ (hget 0 _ hl 0 _ (by omega) rfl)
  refine ⟨b, off, rfl, hlt, fun w' hw k n hk => ?_⟩
  simp only [hw]
  exact ⟨hget k n hk 0 _ (by omega) rfl, hget k n hk 1 _ (by omega) rfl, hget k n hk 2 _ (by omega) rfl, hget k n hk 3 _ (by omega) rfl, hget k n hk 4 _ (by omega) rfl⟩

/-- A slice that reads as a list of one-cell elements. -/
def Rd1 (w : World) (v : Value) (xs : List Value) : Prop := Rd w 1 v xs

theorem Rd1.open_ {w : World} {v : Value} {xs : List Value} (h : Rd1 w v xs) : ∃ (A : Option Addr) (cap : Nat), v = .slice A xs.length cap ∧ xs.length ≤ cap ∧ cap ≤ 9223372036854775807 ∧
    (0 < xs.length → ∃ b off, A = some ⟨b, off, none⟩ ∧ b < w.heap.size ∧ ∀ (w' : World), (∀ o, w'.cell? ⟨b, o, none⟩ = w.cell? ⟨b, o, none⟩) → ∀ k u, xs[k]? = some u → w'.cell? ⟨b, off + k, none⟩ = some u) := by
  obtain ⟨A, n, cap, rfl, h1, h2, h3, h4⟩ := h
  obtain rfl : n = xs.length := by omega
  refine ⟨A, cap, rfl, h1, h2, fun hn => ?_⟩
  obtain ⟨b, off, rfl, hc⟩ := h4 hn
  have hl : xs[0]? = some (xs[0]'hn) := List.getElem?_eq_getElem hn
  exact ⟨b, off, rfl, World.block_lt_of_cell? w _ (hc 0 _ hl), fun w' hw k u hu => by rw [hw]; exact hc k u hu⟩

theorem Rd.of_own {w : World} {base size n : Nat} {e : TypeId} {v : Value} {xs : List Value} (h : w.ownsRow base e size v n xs) : Rd w size v xs := by
  obtain ⟨h1, h2⟩ := h
  rcases h2 with ⟨rfl, rfl⟩ | ⟨g, cap, cur, rfl, h3, h4, h5, h6, h7, h8⟩
  · obtain rfl : xs = [] := List.eq_nil_of_length_eq_zero (by simpa using h1)
    exact Rd.nil w size
  · refine ⟨_, n, cap, rfl, h5, by unfold maxLen at h6; omega, h1, fun hn => ⟨g, 0, rfl, fun j u hu => ?_⟩⟩
    rw [Nat.zero_add, cell_of_row w g j cur e (0, 0) h4]
    rw [← h8] at hu
    rw [List.getElem?_take] at hu
    split at hu
    · simpa using hu
    · cases hu
/-- A block that is known whole. -/
def Blk (w : World) (g : Nat) (t : TypeId) (cs : Array Value) : Prop := w.heap[g]? = some (.cells cs t (0, 0))

section
variable {w w' : World} {g : Nat} {t : TypeId} {cs : Array Value}
theorem Blk.lt (h : Blk w g t cs) : g < w.heap.size := by
  rcases Nat.lt_or_ge g w.heap.size with hlt | hge
  · exact hlt
  · unfold Blk at h; rw [Array.getElem?_eq_none hge] at h; cases h
theorem Blk.cell (h : Blk w g t cs) (i : Nat) : w.cell? ⟨g, i, none⟩ = cs[i]? := cell_of_row w g i cs t (0, 0) h
theorem Blk.frozen (h : Blk w g t cs) (i : Nat) : w.frozen? ⟨g, i, none⟩ = false := frozen_of_row w g i cs t h
theorem Blk.new (w : World) (t : TypeId) (cs : Array Value) : Blk (w.alloc (.cells cs t)) w.heap.size t cs := heap_alloc_new w _
theorem Blk.alloc (h : Blk w g t cs) (o : Obj) : Blk (w.alloc o) g t cs := (Below.heap_alloc w o g h.lt).trans h
theorem Blk.drew (h : Blk w g t cs) : Blk w.drew g t cs := h
theorem Blk.set_ (h : Blk w g t cs) (i : Nat) (u : Value) : Blk (w.setCell ⟨g, i, none⟩ u) g t (cs.setIfInBounds i u) := by
  unfold Blk at h ⊢
  simp [World.setCell, Array.getElem?_modify, h]
theorem Blk.far (h : Blk w g t cs) {p : Addr} (hp : g ≠ p.block) (u : Value) : Blk (w.setCell p u) g t cs := (Below.heap_setCell w p u g hp).trans h
theorem Blk.below {B : Nat} (h : Blk w g t cs) (hb : Below B w w') (hg : g < B) : Blk w' g t cs := (hb.block g hg).trans h
/-- What was below the heap's size stays over whatever a callee does above. -/
theorem Blk.kept (h : Blk w g t cs) (hb : Below w.heap.size w w') : Blk w' g t cs := h.below hb h.lt
theorem Blk.rd1 {n cap : Nat} {xs : List Value} (h : Blk w g t cs) (hl : n ≤ cap) (hc : cap ≤ 9223372036854775807) (hx : xs.length = n) (hg : ∀ (j : Nat) (u : Value), xs[j]? = some u → cs[j]? = some u) : Rd1 w (.slice (some ⟨g, 0, none⟩) n cap) xs :=
  ⟨_, n, cap, rfl, hl, hc, by omega, fun _ => ⟨g, 0, rfl, fun j u hu => by rw [Nat.zero_add, h.cell]; exact hg j u hu⟩⟩
end

/-- n times one value. -/
def repA (n : Nat) (z : Value) : Array Value := ⟨List.replicate n z⟩
theorem repA_size (n : Nat) (z : Value) : (repA n z).size = n := by simp [repA]
theorem repA_get (n : Nat) (z : Value) (i : Nat) (h : i < n) : (repA n z)[i]? = some z := by simp [repA, h]

theorem run_mk {P : Program} (t e : TypeId) (i : TypeInfo) (z : Value) (ht : P.underlying t = some (.slice e)) (hi : P.info? e = some i) (hz : i.zero = some z) (hsz : i.size = 1) (h1 : z.cells = #[z]) (n : Nat) (hb : i.bytes * n ≤ 281474976710656) (h63 : n ≤ 9223372036854775807) (w : World) :
    (Instr.makeSlice t (.int .i64 (n : Int)) (.int .i64 (n : Int))).run P w = .ok (.slice (some ⟨w.heap.size, 0, none⟩) n n) (w.alloc (.cells (repA n z) e)) := by
  have hb' : (i.bytes : Int) * (n : Int) ≤ 281474976710656 := by
    have h : ((i.bytes * n : Nat) : Int) ≤ 281474976710656 := by omega
    rwa [Int.natCast_mul] at h
  have hr := run_make (P := P) w t e i z ht hi hz .i64 .i64 n n (by omega) (by omega) hb' (by omega)
  simp only [Int.toNat_natCast, hsz, Nat.mul_one, h1] at hr
  rw [hr]
  congr 4
  apply Array.ext'
  rw [toList_madeCells_one]
  rfl

theorem ndCells_one (l : List Nd) : ∀ u ∈ l.flatMap ndCells, u.oneCell' = true := by
  intro u hu
  rw [List.mem_flatMap] at hu
  obtain ⟨n, _, hn⟩ := hu
  simp [ndCells] at hn
  rcases hn with rfl | rfl | rfl | rfl | rfl <;> rfl

theorem add_mk (b off j : Nat) : (⟨b, off, none⟩ : Addr).add j = ⟨b, off + j, none⟩ := by
  unfold Addr.add
  split
  · rename_i h; subst h; rfl
  · rfl

/-- What an append wants of its source. -/
theorem Rd.src {w : World} {size : Nat} {v : Value} {xs : List Value} (h : Rd w size v xs) (h0 : 0 < size) : ∃ (A : Option Addr) (n cap : Nat), v = .slice A n cap ∧ xs.length = n * size ∧ (0 < n → ∃ ad, A = some ad ∧ ad.block < w.heap.size ∧ ∀ (j : Nat) (u : Value), xs[j]? = some u → w.cell? (ad.add j) = some u) := by
  obtain ⟨A, n, cap, rfl, h1, h2, h3, h4⟩ := h
  refine ⟨A, n, cap, rfl, h3, fun hn => ?_⟩
  obtain ⟨b, off, rfl, hc⟩ := h4 hn
  refine ⟨_, rfl, ?_, fun j u hu => by rw [add_mk]; exact hc j u hu⟩
  have hl : 0 < xs.length := by rw [h3]; exact Nat.mul_pos hn h0
  exact World.block_lt_of_cell? w _ (hc 0 _ (List.getElem?_eq_getElem hl))

end Wf

/-
  Plain facts about classes: four numbers of 64 bits as a set of 256 bytes. No program in sight.
-/
namespace Wf

def word (c : Cls) (q : Nat) : Nat := if q = 0 then c.1 else if q = 1 then c.2.1 else if q = 2 then c.2.2.1 else c.2.2.2

/-- Has a class a byte? -/
def has (c : Cls) (b : Nat) : Bool := (word c (b / 64)).testBit (b % 64)

/-- A class and a byte more. -/
def withB (c : Cls) (b : Nat) : Cls :=
  (if b / 64 = 0 then c.1 ||| 2 ^ (b % 64) else c.1, if b / 64 = 1 then c.2.1 ||| 2 ^ (b % 64) else c.2.1,
   if b / 64 = 2 then c.2.2.1 ||| 2 ^ (b % 64) else c.2.2.1, if b / 64 = 3 then c.2.2.2 ||| 2 ^ (b % 64) else c.2.2.2)

def okC (c : Cls) : Prop := c.1 < 18446744073709551616 ∧ c.2.1 < 18446744073709551616 ∧ c.2.2.1 < 18446744073709551616 ∧ c.2.2.2 < 18446744073709551616

theorem okC_zc : okC zc := by simp [okC, zc]
theorem word_lt {c : Cls} (h : okC c) (q : Nat) : word c q < 18446744073709551616 := by
  obtain ⟨h0, h1, h2, h3⟩ := h
  unfold word
  split
  · exact h0
  · split
    · exact h1
    · split
      · exact h2
      · exact h3

theorem pow_lt64 (b : Nat) : 2 ^ (b % 64) < 18446744073709551616 := by
  have : (2 : Nat) ^ (b % 64) < 2 ^ 64 := Nat.pow_lt_pow_right (by omega) (Nat.mod_lt _ (by omega))
  simpa using this

theorem or_lt64 {a b : Nat} (ha : a < 18446744073709551616) (hb : b < 18446744073709551616) : a ||| b < 18446744073709551616 := by
  have h := Nat.or_lt_two_pow (n := 64) (x := a) (y := b) (by simpa using ha) (by simpa using hb)
  simpa using h

theorem okC_with {c : Cls} (h : okC c) (b : Nat) : okC (withB c b) := by
  obtain ⟨h0, h1, h2, h3⟩ := h
  have hp := pow_lt64 b
  refine ⟨?_, ?_, ?_, ?_⟩ <;> (unfold withB; dsimp only; split) <;> first | assumption | exact or_lt64 (by assumption) hp

theorem word_with (c : Cls) (b q : Nat) (hb : b < 256) (hq : q < 4) : word (withB c b) q = if b / 64 = q then word c q ||| 2 ^ (b % 64) else word c q := by
  have : b / 64 < 4 := by omega
  unfold word withB
  dsimp only
  match q, hq with
  | 0, _ => simp
  | 1, _ => simp
  | 2, _ => simp
  | 3, _ => simp

theorem has_with (c : Cls) (b x : Nat) (hb : b < 256) (hx : x < 256) : has (withB c b) x = (has c x || x == b) := by
  unfold has
  rw [word_with c b (x / 64) hb (by omega)]
  by_cases h : b / 64 = x / 64
  · rw [if_pos h, Nat.testBit_or, Nat.testBit_two_pow]
    congr 1
    rw [Bool.eq_iff_iff]
    simp
    omega
  · rw [if_neg h]
    have : (x == b) = false := by simp; omega
    rw [this, Bool.or_false]

theorem has_zc (x : Nat) : has zc x = false := by
  unfold has word zc
  simp

theorem nat_ext64 {a b : Nat} (ha : a < 18446744073709551616) (hb : b < 18446744073709551616) (h : ∀ i, i < 64 → a.testBit i = b.testBit i) : a = b := by
  apply Nat.eq_of_testBit_eq
  intro i
  by_cases hi : i < 64
  · exact h i hi
  · have hp : (18446744073709551616 : Nat) ≤ 2 ^ i := by
      have : (2 : Nat) ^ 64 ≤ 2 ^ i := Nat.pow_le_pow_right (by omega) (by omega)
      simpa using this
    rw [Nat.testBit_lt_two_pow (by omega), Nat.testBit_lt_two_pow (by omega)]

theorem cls_ext {c d : Cls} (hc : okC c) (hd : okC d) (h : ∀ x, x < 256 → has c x = has d x) : c = d := by
  have hw : ∀ q, q < 4 → word c q = word d q := by
    intro q hq
    apply nat_ext64 (word_lt hc q) (word_lt hd q)
    intro i hi
    have := h (q * 64 + i) (by omega)
    unfold has at this
    rw [show (q * 64 + i) / 64 = q from by omega, show (q * 64 + i) % 64 = i from by omega] at this
    exact this
  have h0 := hw 0 (by omega)
  have h1 := hw 1 (by omega)
  have h2 := hw 2 (by omega)
  have h3 := hw 3 (by omega)
  obtain ⟨c0, c1, c2, c3⟩ := c
  obtain ⟨d0, d1, d2, d3⟩ := d
  simp [word] at h0 h1 h2 h3
  rw [h0, h1, h2, h3]

/-- The class of a row of bytes. -/
def ofL : List UInt8 → Cls → Cls
  | [], c => c
  | b :: r, c => ofL r (withB c b.toNat)

theorem okC_ofL (l : List UInt8) : ∀ c, okC c → okC (ofL l c) := by
  induction l with
  | nil => intro c h; exact h
  | cons b r ih => intro c h; exact ih _ (okC_with h _)

theorem has_ofL (l : List UInt8) : ∀ c x, x < 256 → has (ofL l c) x = (has c x || l.any fun b => x == b.toNat) := by
  induction l with
  | nil => intro c x _; simp [ofL]
  | cons b r ih =>
    intro c x hx
    rw [ofL, ih _ _ hx, has_with _ _ _ b.toNat_lt hx]
    simp [Bool.or_assoc]

theorem ofL_snoc (l : List UInt8) (b : UInt8) : ∀ c, ofL (l ++ [b]) c = withB (ofL l c) b.toNat := by
  induction l with
  | nil => intro c; rfl
  | cons a r ih => intro c; exact ih _

end Wf

/-
  The arguments of a law, opened: a row of nodes, a row of numbers, a row of texts, a class.
-/
namespace Go.Proofs.YthcahjnniendnabDoor
open Go.ChangeShapes Go.WideShapes Go.ChangeAt Go.RowKit Go.Deep Wf


def okNd (n : Nd) : Prop := -9223372036854775808 ≤ n.op ∧ n.op ≤ 9223372036854775807 ∧ okC n.cls

theorem wf_u64_nat {n : Int} (h : (Lit.int .u64 n).wf = true) : ∃ m : Nat, n = (m : Int) ∧ m < 18446744073709551616 := by
  have hb : 0 ≤ n ∧ n ≤ 18446744073709551615 := by
    simp [Lit.wf, IntKind.min, IntKind.max, IntKind.signed, IntKind.bits] at h
    omega
  exact ⟨n.toNat, by omega, by omega⟩
theorem wf_i64_bd {n : Int} (h : (Lit.int .i64 n).wf = true) : -9223372036854775808 ≤ n ∧ n ≤ 9223372036854775807 := by
  simp [Lit.wf, IntKind.min, IntKind.max, IntKind.signed, IntKind.bits] at h
  omega

theorem list4 {α : Type} {l : List α} (h : l.length = 4) : ∃ a b c d, l = [a, b, c, d] := by
  match l, h with
  | [a, b, c, d], _ => exact ⟨a, b, c, d, rfl⟩
theorem list5 {α : Type} {l : List α} (h : l.length = 5) : ∃ a b c d e, l = [a, b, c, d, e] := by
  match l, h with
  | [a, b, c, d, e], _ => exact ⟨a, b, c, d, e, rfl⟩

theorem cellsOf_node : Tryd.prog.cellsOf 69 = 5 := by kernel_rfl
theorem cellsOf_cls : Tryd.prog.cellsOf 54 = 4 := by kernel_rfl
theorem cellsOf_int : Tryd.prog.cellsOf 3 = 1 := by kernel_rfl
theorem cellsOf_u64 : Tryd.prog.cellsOf 52 = 1 := by kernel_rfl

section
variable {H : Type} {enc : TypeId × Value → H} {w : World} {base : Nat} {spare : Nat → Bool} {held : Bool}

theorem okWide_array {P : Program} {W : World} {r : Reach} {n : Nat} {e : TypeId} {t : TypeId} {v : Value} {bs : Nat} (ht : P.underlying t = some (.array n e)) (h : Value.okWide P W r bs t v) : ∃ cs, v = .agg cs ∧ cs.size = P.cellsOf t := by
  simp only [Value.okWide, ht] at h
  obtain ⟨cs, h1, h2, _⟩ := h
  exact ⟨cs, h1, h2⟩

theorem open_cls {fuel : Nat} {cs : List Value} {x : DataW H × List MemPlace} (h : DataW.trod enc Tryd.prog w base spare held fuel 54 cs = some x) :
    ∃ c : Cls, okC c ∧ cs = [.int .u64 (c.1 : Int), .int .u64 (c.2.1 : Int), .int .u64 (c.2.2.1 : Int), .int .u64 (c.2.2.2 : Int)] := by
  obtain ⟨xs, m, _, _, hl, hxl, hg⟩ := DataW.trod_array Tryd.underlying54 h
  rw [cellsOf_cls] at hl
  rw [cellsOf_u64] at hg
  have hone : ∀ i, i < 4 → ∃ n : Nat, cs[i]? = some (.int .u64 (n : Int)) ∧ n < 18446744073709551616 := by
    intro i hi
    have hi' : i < cs.length := by omega
    have hx : xs[i]? = some (xs[i]'(by omega)) := List.getElem?_eq_getElem (by omega)
    have hgi := hg i hi
    have e : (cs.drop (i * 1)).take 1 = [cs[i]'hi'] := by
      rw [Nat.mul_one, List.drop_eq_getElem_cons hi']; rfl
    rw [e, hx] at hgi
    obtain ⟨a, e0, _, wa⟩ := DataW.trod_int Tryd.underlying52 hgi
    obtain ⟨n, rfl, hn⟩ := wf_u64_nat wa
    simp at e0
    exact ⟨n, by rw [List.getElem?_eq_getElem hi', e0], hn⟩
  obtain ⟨a, ha, ha'⟩ := hone 0 (by omega)
  obtain ⟨b, hb, hb'⟩ := hone 1 (by omega)
  obtain ⟨c, hc, hc'⟩ := hone 2 (by omega)
  obtain ⟨d, hd, hd'⟩ := hone 3 (by omega)
  refine ⟨(a, b, c, d), ⟨ha', hb', hc', hd'⟩, ?_⟩
  obtain ⟨c0, c1, c2, c3, rfl⟩ := list4 hl
  simp at ha hb hc hd
  subst ha hb hc hd
  rfl

set_option maxRecDepth 10000 in
theorem open_node {fuel : Nat} {cs : List Value} {x : DataW H × List MemPlace} (h : DataW.trod enc Tryd.prog w base spare held fuel 69 cs = some x) :
    ∃ n : Nd, okNd n ∧ cs = ndCells n := by
  obtain ⟨xs, m, _, _, hl, hxl, hg⟩ := DataW.trod_struct Tryd.underlying69 h
  rw [cellsOf_node] at hl
  obtain ⟨c0, c1, c2, c3, c4, rfl⟩ := list5 hl
  have h0 := hg 0 _ rfl
  have h1 := hg 1 _ rfl
  have hx0 : xs[0]? = some (xs[0]'(by rw [hxl]; decide)) := List.getElem?_eq_getElem _
  have hx1 : xs[1]? = some (xs[1]'(by rw [hxl]; decide)) := List.getElem?_eq_getElem _
  rw [hx0] at h0
  rw [hx1] at h1
  obtain ⟨a, e0, _, wa⟩ := DataW.trod_int Tryd.underlying3 h0
  obtain ⟨c, hok, e1⟩ := open_cls h1
  simp [cellsOf_int] at e0
  simp [cellsOf_cls] at e1
  obtain ⟨rfl, rfl, rfl, rfl⟩ := e1
  subst e0
  exact ⟨⟨a, c⟩, ⟨(wf_i64_bd wa).1, (wf_i64_bd wa).2, hok⟩, rfl⟩

theorem open_nodes {fuel : Nat} {A : Option Addr} {n cap : Nat} {x : DataW H × List MemPlace} (h : DataW.trod enc Tryd.prog w base spare held fuel 22 [.slice A n cap] = some x) :
    ∃ l : List Nd, RdN w (.slice A n cap) l ∧ ∀ nd ∈ l, okNd nd := by
  rcases open_slice Tryd.underlying22 h with ⟨hcs, _⟩ | ⟨a, len, cap', m, k, D, Pl, hcs, hb, hl, hm, hmm, hx, hi⟩
  · simp at hcs
    obtain ⟨rfl, rfl, rfl⟩ := hcs
    exact ⟨[], Rd.nil w 5, by simp⟩
  · simp at hcs
    obtain ⟨rfl, rfl, rfl⟩ := hcs
    have hle : n ≤ m := by rw [hmm]; split <;> omega
    rw [cellsOf_node] at hi
    have build : ∀ q, q ≤ n → ∃ l : List Nd, l.length = q ∧ (∀ nd ∈ l, okNd nd) ∧ ∀ j u, (l.flatMap ndCells)[j]? = some u → w.cell? (a.add j) = some u := by
      intro q
      induction q with
      | zero => intro _; exact ⟨[], rfl, by simp, by simp⟩
      | succ q ih =>
        intro hq
        obtain ⟨l, hl1, hl2, hl3⟩ := ih (by omega)
        obtain ⟨cs', hc1, hc2⟩ := hi q (by omega)
        obtain ⟨nd, hok, rfl⟩ := open_node hc2
        obtain ⟨_, _, hc⟩ := World.cells?_some hc1
        refine ⟨l ++ [nd], by simp [hl1], fun y hy => by
          rcases List.mem_append.1 hy with hy | hy
          · exact hl2 y hy
          · simp at hy; subst hy; exact hok, fun j u hu => ?_⟩
        rw [List.flatMap_append] at hu
        by_cases hj : j < (l.flatMap ndCells).length
        · rw [List.getElem?_append_left hj] at hu
          exact hl3 j u hu
        · rw [List.getElem?_append_right (by omega)] at hu
          have hlen : (l.flatMap ndCells).length = q * 5 := by rw [flatMap_len, hl1]
          rw [hlen] at hu hj
          have hlt : j - q * 5 < 5 := by
            have := (List.getElem?_eq_some_iff.1 hu).1
            simpa [ndCells] using this
          have := hc (j - q * 5) hlt
          have e : (a.add (q * 5)).add (j - q * 5) = a.add j := by
            rw [Go.Deep.add_add]; congr 1; omega
          rw [e] at this
          rw [this, ← hu]
          simp
    obtain ⟨l, hl1, hl2, hl3⟩ := build n (Nat.le_refl _)
    refine ⟨l, ⟨_, n, cap, rfl, hl, by unfold maxLen at hm; omega, by rw [flatMap_len, hl1], fun hn => ?_⟩, hl2⟩
    obtain ⟨b, off, spot⟩ := a
    have hlen : 0 < (l.flatMap ndCells).length := by rw [flatMap_len, hl1]; omega
    have hc0 := hl3 0 _ (List.getElem?_eq_getElem hlen)
    have hspot : spot = none := by simpa [Addr.add] using World.cell?_spot hc0
    subst hspot
    exact ⟨b, off, rfl, fun j u hu => by rw [← add_mk]; exact hl3 j u hu⟩
end

end Go.Proofs.YthcahjnniendnabDoor

/-
  Words that the plain laws' claims share.
-/
namespace Go.Proofs.YthcahjnniendnabDoor.law
open Go.RowKit Wf

theorem own : ownKnob Tryd.prog.godebug = none := by kernel_rfl
theorem laidOut : laidOutB Tryd.prog = true := by kernel_rfl

def LawIs (w : World) (e : Ending) (w' : World) : Prop := e = .returned (.bool true) ∧ Below w.heap.size w w'

end Go.Proofs.YthcahjnniendnabDoor.law

/-
  Laws of single operations over this translation: two classes compared, two nodes compared.
-/
namespace Go.Proofs.YthcahjnniendnabDoor
open Go.RowKit

/-- Are two rows of four numbers the same? -/
def cls4 (x0 x1 x2 x3 y0 y1 y2 y3 : Int) : Bool := x0 == y0 && (x1 == y1 && (x2 == y2 && x3 == y3))

theorem eqIn_cls (d : Nat) (x0 x1 x2 x3 y0 y1 y2 y3 : Int) (w : World) :
    (Op.equalIn (d + 2) 54 (.agg #[.int .u64 x0, .int .u64 x1, .int .u64 x2, .int .u64 x3]) (.agg #[.int .u64 y0, .int .u64 y1, .int .u64 y2, .int .u64 y3])).run Tryd.prog w
      = .ok (cls4 x0 x1 x2 x3 y0 y1 y2 y3) w := by
  have u3 := Tryd.underlying52
  have a3 := Tryd.isAgg52
  have z3 := Tryd.sizeOf52
  unfold cls4
  rw [Op.equalIn]
  simp only [Sem.run_bind, run_underlying Tryd.underlying54, Result.andThen_ok]
  simp only [Std.Legacy.Range.forIn_eq_forIn_range', Std.Legacy.Range.size, Nat.sub_zero, Nat.add_sub_cancel, Nat.div_one, List.range'_succ, List.range'_zero, List.forIn_cons, List.forIn_nil]
  go_simp
  by_cases h1 : x0 = y0 <;> by_cases h2 : x1 = y1 <;> by_cases h3 : x2 = y2 <;> by_cases h4 : x3 = y3 <;> simp [h1, h2, h3, h4]

@[go_sem high] theorem eq10_cls (x0 x1 x2 x3 y0 y1 y2 y3 : Int) (w : World) :
    (Op.equalIn 10000 54 (.agg #[.int .u64 x0, .int .u64 x1, .int .u64 x2, .int .u64 x3]) (.agg #[.int .u64 y0, .int .u64 y1, .int .u64 y2, .int .u64 y3])).run Tryd.prog w
      = .ok (cls4 x0 x1 x2 x3 y0 y1 y2 y3) w := eqIn_cls 9998 x0 x1 x2 x3 y0 y1 y2 y3 w

theorem eqIn_node (d : Nat) (o x0 x1 x2 x3 p y0 y1 y2 y3 : Int) (w : World) :
    (Op.equalIn (d + 3) 69 (.agg #[.int .i64 o, .int .u64 x0, .int .u64 x1, .int .u64 x2, .int .u64 x3]) (.agg #[.int .i64 p, .int .u64 y0, .int .u64 y1, .int .u64 y2, .int .u64 y3])).run Tryd.prog w
      = .ok (o == p && cls4 x0 x1 x2 x3 y0 y1 y2 y3) w := by
  have u3 := Tryd.underlying52
  have a3 := Tryd.isAgg52
  have z3 := Tryd.sizeOf52
  have a4 := Tryd.isAgg3
  have u4 := Tryd.underlying3
  have a5 := Tryd.isAgg54
  have z5 := Tryd.sizeOf54
  have hc := fun w => eqIn_cls d x0 x1 x2 x3 y0 y1 y2 y3 w
  have hS : Tryd.prog.underlying 69 = some (.struct (Tryd.prog.fieldsOf 69)) := by kernel_rfl
  have hp : Tryd.prog.stoodInHeld 69 = false := by kernel_rfl
  rw [show d + 3 = (d + 2) + 1 from rfl, run_equalIn_agg w (d + 2) 69 _ _ hS hp]
  simp only [Program.fieldsOf, Tryd.underlying69]
  go_simp
  by_cases h1 : o = p <;> simp [h1]
  cases cls4 x0 x1 x2 x3 y0 y1 y2 y3 <;> rfl

/-- Are two nodes the same? -/
def nd5 (o x0 x1 x2 x3 p y0 y1 y2 y3 : Int) : Bool := o == p && cls4 x0 x1 x2 x3 y0 y1 y2 y3

@[go_sem high] theorem eq10_node (o x0 x1 x2 x3 p y0 y1 y2 y3 : Int) (w : World) :
    (Op.equalIn 10000 69 (.agg #[.int .i64 o, .int .u64 x0, .int .u64 x1, .int .u64 x2, .int .u64 x3]) (.agg #[.int .i64 p, .int .u64 y0, .int .u64 y1, .int .u64 y2, .int .u64 y3])).run Tryd.prog w
      = .ok (nd5 o x0 x1 x2 x3 p y0 y1 y2 y3) w := eqIn_node 9997 o x0 x1 x2 x3 p y0 y1 y2 y3 w

theorem cls4_iff (x0 x1 x2 x3 y0 y1 y2 y3 : Nat) : cls4 x0 x1 x2 x3 y0 y1 y2 y3 = true ↔ (x0, x1, x2, x3) = (y0, y1, y2, y3) := by
  simp [cls4]
  omega

theorem nd5_iff (o p : Int) (x0 x1 x2 x3 y0 y1 y2 y3 : Nat) : nd5 o x0 x1 x2 x3 p y0 y1 y2 y3 = true ↔ o = p ∧ (x0, x1, x2, x3) = (y0, y1, y2, y3) := by
  unfold nd5
  rw [Bool.and_eq_true, cls4_iff]
  simp

end Go.Proofs.YthcahjnniendnabDoor

/-
  Walks of package rex: Parts, Check.
-/
namespace Go.Proofs.YthcahjnniendnabDoor
open Go.RowKit Wf

/-- An error as a value: none, or a number. -/
def errV (n : Int) : Value := if n = 0 then .nilIface else .iface 23 (.int .i64 n)
theorem errV_zero : errV 0 = .nilIface := rfl
theorem errV_ne {n : Int} (h : n ≠ 0) : errV n = .iface 23 (.int .i64 n) := by simp [errV, h]

theorem ret_val {a b : Value} (h : a = b) : Ending.returned a = .returned b := by rw [h]

def PartsIs (n : Int) (w : World) (e : Ending) (w' : World) : Prop := e = .returned (.int .i64 (parts n)) ∧ w = w'
theorem Parts_any (n : Int) (w : World) : Calls Tryd.prog 85 #[.int .i64 n] w (PartsIs n w) := by
  have key : ∀ m : Int, m = (parts n : Int) → PartsIs n w (.returned (.int .i64 m)) w := fun m h => ⟨by rw [h], rfl⟩
  have k2 : (n = 3 ∨ n = 4) → (2 : Int) = parts n := fun h => by simp [parts, h]
  have k1 : ¬ (n = 3 ∨ n = 4) → (n = 5 ∨ n = 6 ∨ n = 7) → (1 : Int) = parts n := fun h h' => by unfold parts; rw [if_neg h, if_pos h']; rfl
  have k0 : ¬ (n = 3 ∨ n = 4) → ¬ (n = 5 ∨ n = 6 ∨ n = 7) → (0 : Int) = parts n := fun h h' => by unfold parts; rw [if_neg h, if_neg h']; rfl
  have H2 := Lib.hid k2
  have H1 := Lib.hid k1
  have H0 := Lib.hid k0
  have HK := Lib.hid key
  clear k2 k1 k0 key
  go_enter Tryd.func85, Tryd.ntmps85
  go_wp2
  all_goals go_ret
  all_goals refine HK.out _ ?_
  all_goals simp only [beq_iff_eq, beq_eq_false_iff_ne] at *
  all_goals first | exact H2.out (by omega) | exact H1.out (by omega) (by omega) | exact H0.out (by omega) (by omega)

def CheckIs (l : List Nd) (w : World) (e : Ending) (w' : World) : Prop := e = .returned (errV (chk l)) ∧ Below w.heap.size w w'

theorem getD_get {α : Type} {l : List α} {k : Nat} (h : k < l.length) : ∃ x, l[k]? = some x := ⟨_, List.getElem?_eq_getElem h⟩

set_option maxRecDepth 100000 in
set_option maxHeartbeats 4000000 in
theorem Check_any (l : List Nd) (v : Value) (w : World) (hr : RdN w v l) : Calls Tryd.prog 52 #[v] w (CheckIs l w) := by
  obtain ⟨A, cap, rfl, hcap, hcap2, hmem⟩ := hr.open_
  have key : ∀ (m : Value) (w' : World), m = errV (chk l) → Below w.heap.size w w' → CheckIs l w (.returned m) w' := fun m w' h hb => ⟨by rw [h], hb⟩
  have HK := Lib.hid key
  have HM := Lib.hid hmem
  clear key hmem hr
  by_cases h60 : 60 < l.length
  · have hc : chk l = 3 := by unfold chk; rw [if_pos h60]
    have HC := Lib.hid hc
    clear hc
    go_enter Tryd.func52, Tryd.ntmps52
    go_wp2
    go_ret
    exact HK.out _ _ (by rw [HC.out]; rfl) (Below.refl _ _)
  · have hc : chk l = chkLoop l 1 true := by unfold chk; rw [if_neg h60]
    have HC := Lib.hid hc
    clear hc
    go_enter Tryd.func52, Tryd.ntmps52
    go_wp2
    go_loopw [3, 4, 13] (fun v3 v4 v13 wr => ∃ (k : Nat) (need : Int) (whole : Bool), k ≤ l.length ∧ v13 = .int .i64 k ∧ v3 = .int .i64 need ∧ v4 = .bool whole ∧ need ≤ 1 + k ∧ 1 - k ≤ need ∧
        Hid (chkLoop (l.drop k) need whole = chkLoop l 1 true) ∧ Below w.heap.size w wr) (fun _ _ i _ => l.length - (intOf i).toNat)
    case atStart => exact ⟨0, 1, true, by omega, rfl, rfl, rfl, by omega, by omega, rfl, Below.refl _ _⟩
    case round =>
      obtain ⟨k, need, whole, hk, rfl, rfl, rfl, hn1, hn2, HL, hb⟩ := hrel
      by_cases hlt : k < l.length
      · obtain ⟨b, off, rfl, hbl, hcells⟩ := HM.out (by omega)
        obtain ⟨n, hn⟩ := getD_get hlt
        obtain ⟨g0, g1, g2, g3, g4⟩ := hcells wr (fun o => hb.cell (p := ⟨b, o, none⟩) hbl) k n hn
        have hdrop : l.drop k = n :: l.drop (k + 1) := by
          rw [List.drop_eq_getElem_cons hlt]; congr 1
          have := List.getElem?_eq_getElem hlt
          rw [hn] at this
          exact (Option.some.inj this).symm
        have hd : chkLoop l 1 true = chkLoop (n :: l.drop (k + 1)) need whole := by rw [← HL.out, hdrop]
        have HD := Lib.hid hd
        clear hd HL
        clear hdrop hn hcells
        have hsz := hb.size
        obtain ⟨op, c0, c1, c2, c3⟩ := n
        dsimp only at g0 g1 g2 g3 g4
        have hp := parts_le op
        have hp' : (parts op : Int) ≤ 2 := by omega
        have hp0 : (0 : Int) ≤ (parts op : Int) := by omega
        have hz : (cls4 c0 c1 c2 c3 0 0 0 0 = true) ∨ (cls4 c0 c1 c2 c3 0 0 0 0 = false) := by cases cls4 c0 c1 c2 c3 0 0 0 0 <;> simp
        have hzc : cls4 c0 c1 c2 c3 0 0 0 0 = true ↔ (c0, c1, c2, c3) = zc := cls4_iff c0 c1 c2 c3 0 0 0 0
        have HZ := Lib.hid hzc
        have fin1 : (op < 1 ∨ 9 < op) → chkLoop l 1 true = 1 := fun h => by rw [HD.out]; unfold chkLoop; rw [if_pos h]
        have fin2 : 1 ≤ op → op ≤ 9 → op ≠ 1 → cls4 c0 c1 c2 c3 0 0 0 0 = false → chkLoop l 1 true = 2 := fun h1 h2 h3 h4 => by
          rw [HD.out]; unfold chkLoop; rw [if_neg (by simp; omega), if_pos ⟨h3, fun h => by rw [HZ.out.2 h] at h4; cases h4⟩]
        have goes : 1 ≤ op → op ≤ 9 → (op = 1 ∨ cls4 c0 c1 c2 c3 0 0 0 0 = true) → chkLoop (l.drop (k + 1)) (need + ((parts op : Int) - 1)) (whole && decide (0 < need)) = chkLoop l 1 true := fun h1 h2 h3 => by
          rw [HD.out, chkLoop, if_neg (by simp; omega), if_neg]
          rintro ⟨h4, h5⟩
          rcases h3 with h3 | h3
          · exact h4 h3
          · exact h5 (HZ.out.1 h3)
        have F1 := Lib.hid fin1
        have F2 := Lib.hid fin2
        have GO := Lib.hid goes
        clear hzc hp fin1 fin2 goes HZ
        rcases hz with hz | hz <;> by_cases hop : op = 1
        all_goals (try subst hop)
        all_goals cases whole
        all_goals go_wp2_with (go_at_call 85; refine (Parts_any _ _).mono ?_; rintro e w' ⟨rfl, rfl⟩)
        all_goals first
          | (go_ret; exact HK.out _ _ (by rw [HC.out]; first | (rw [F1.out (by omega)]; rfl) | (rw [F2.out (by omega) (by omega) (by omega) hz]; rfl)) (hb.alloc hsz _))
          | (go_roundw
             case rel => exact ⟨k + 1, _, _, by omega, by go_num, rfl, rfl, by omega, by omega, by first | exact Lib.hid (GO.out (by omega) (by omega) (.inr hz)) | exact Lib.hid (GO.out (by omega) (by omega) (.inl (by first | trivial | rfl))), hb.alloc hsz _⟩
             case measure => simp [intOf]; omega)
      · have hkk : k = l.length := by omega
        have hd : chkLoop l 1 true = (if whole = true ∧ need = 0 then 0 else 2) := by
          rw [← HL.out, hkk, List.drop_length]; rfl
        have HD := Lib.hid hd
        clear hd HL hkk
        by_cases hn : need = 0
        all_goals cases whole
        all_goals (try subst hn)
        all_goals go_wp2
        all_goals first
          | (go_ret; exact HK.out _ _ (by rw [HC.out, HD.out]; first | (simp [errV]; done) | (rw [if_neg (by simp; omega)]; rfl)) hb)

end Go.Proofs.YthcahjnniendnabDoor

/-
  errors.As at a target of type *api.Errno; plain.Told; same.Error.
  (After the guide's worked example of errors.As at a concrete target; Errno is a number: the target's variable holds a number.)
-/
namespace Go.Proofs.YthcahjnniendnabDoor
open Go.RowKit Go.Extern.Stop Go.Stop Go.Extern Wf

/-! ### Closed facts on the model's entries for internal/reflectlite -/
theorem asValueOfP (t : Addr) (w : World) : (ReflectliteValue.unpack (.iface 150 (.pointer (some t)))).run Tryd.prog w
    = .ok (.agg #[.pointer (some ⟨7, 150, none⟩), .pointer (some ⟨w.heap.size, 0, none⟩), .int .u64 150]) (w.alloc (.cells #[.pointer (some t)] 150)) := by kernel_rfl
theorem asTypeP (a : Addr) (w : World) : (ReflectliteValue.methodAny (ReflectliteValue.valueError "reflectlite.Value.Type" 0) (fun t _ _ _ => ReflectliteType.toType t) #[.agg #[.pointer (some ⟨7, 150, none⟩), .pointer (some a), .int .u64 150]]).run Tryd.prog w
    = .ok (.iface 200 (.agg #[.pointer (some ⟨7, 150, none⟩)])) w := by kernel_rfl
theorem asMethodKind (h : Value) (w : World) : (Go.method 391 200 (.agg #[h]) "Kind").run Tryd.prog w = .ok (193, h) w := by kernel_rfl
theorem asKindP (w : World) : ((ReflectliteType.abiMethod fun t => (fun a : Nat => Value.int IntKind.u8 (a : Int)) <$> Rtype.kind t) #[.pointer (some ⟨7, 150, none⟩)]).run Tryd.prog w = .ok (.int .u8 22) w := by kernel_rfl
theorem asKindE (w : World) : ((ReflectliteType.abiMethod fun t => (fun a : Nat => Value.int IntKind.u8 (a : Int)) <$> Rtype.kind t) #[.pointer (some ⟨7, 23, none⟩)]).run Tryd.prog w = .ok (.int .u8 2) w := by kernel_rfl

theorem asRlm (z : Sem Value) (f : TypeId → Addr → Nat → Nat → Sem Value) (v : Value) :
    ReflectliteValue.method z f #[v] = (do match ← ReflectliteValue.parts v with | none => z | some (t, a, fl) => f t a fl (fl % 32)) := rfl
theorem asPartsP (a : Addr) (w : World) : (ReflectliteValue.parts (.agg #[.pointer (some ⟨7, 150, none⟩), .pointer (some a), .int .u64 150])).run Tryd.prog w = .ok (some (150, a, 150)) w := by kernel_rfl
theorem asIsNilP (a p : Addr) (W : World) (ha : W.cell? a = some (.pointer (some p))) :
    (ReflectliteValue.method (ReflectliteValue.valueError "reflectlite.Value.IsNil" 0) ReflectliteValue.isNil #[.agg #[.pointer (some ⟨7, 150, none⟩), .pointer (some a), .int .u64 150]]).run Tryd.prog W = .ok (.bool false) W := by
  rw [asRlm]
  simp only [Sem.run_bind, asPartsP, Result.andThen]
  simp [ReflectliteValue.isNil, loadVar, isAgg, underlying, Tryd.underlying150, ha, Result.andThen]

theorem asMethodElem (h : Value) (w : World) : (Go.method 391 200 (.agg #[h]) "Elem").run Tryd.prog w = .ok (205, .agg #[h]) w := by kernel_rfl
theorem asMethodImplements (h : Value) (w : World) : (Go.method 391 200 (.agg #[h]) "Implements").run Tryd.prog w = .ok (206, .agg #[h]) w := by kernel_rfl
theorem asMethodAssignableTo (h : Value) (w : World) : (Go.method 391 200 (.agg #[h]) "AssignableTo").run Tryd.prog w = .ok (203, .agg #[h]) w := by kernel_rfl
theorem asElemP (w : World) : (ReflectliteType.method ReflectliteType.elem #[.agg #[.pointer (some ⟨7, 150, none⟩)]]).run Tryd.prog w = .ok (.iface 200 (.agg #[.pointer (some ⟨7, 23, none⟩)])) w := by kernel_rfl
theorem asImplementsE (w : World) : (ReflectliteType.relation "Implements" ReflectliteType.implements_ #[.agg #[.pointer (some ⟨7, 23, none⟩)], .iface 200 (.agg #[.pointer (some ⟨7, 29, none⟩)])]).run Tryd.prog w = .ok (.bool true) w := by kernel_rfl
theorem asTypeOfE (v : Value) (w : World) : (ReflectliteType.typeOf #[.iface 23 v]).run Tryd.prog w = .ok (.iface 200 (.agg #[.pointer (some ⟨7, 23, none⟩)])) w := by kernel_rfl
theorem asAssignableE (w : World) : (ReflectliteType.relation "AssignableTo" ReflectliteType.assignableTo #[.agg #[.pointer (some ⟨7, 23, none⟩)], .iface 200 (.agg #[.pointer (some ⟨7, 23, none⟩)])]).run Tryd.prog w = .ok (.bool true) w := by kernel_rfl
theorem asValueOfE (n : Int) (w : World) : (ReflectliteValue.unpack (.iface 23 (.int .i64 n))).run Tryd.prog w
    = .ok (.agg #[.pointer (some ⟨7, 23, none⟩), .pointer (some ⟨w.heap.size, 0, none⟩), .int .u64 130]) (w.alloc (.cells #[.int .i64 n] 23)) := by kernel_rfl

theorem asElemOfP (w : World) : (Rtype.elem? 150).run Tryd.prog w = .ok (some 23) w := by kernel_rfl
theorem asMkE (p : Addr) (w : World) : (ReflectliteValue.mk 23 p ReflectliteValue.flagAddr).run Tryd.prog w = .ok (.agg #[.pointer (some ⟨7, 23, none⟩), .pointer (some p), .int .u64 386]) w := by kernel_rfl
theorem asElemVP (a p : Addr) (W : World) (ha : W.cell? a = some (.pointer (some p))) :
    (ReflectliteValue.method (ReflectliteValue.valueError "reflectlite.Value.Elem" 0) ReflectliteValue.elem #[.agg #[.pointer (some ⟨7, 150, none⟩), .pointer (some a), .int .u64 150]]).run Tryd.prog W
      = .ok (.agg #[.pointer (some ⟨7, 23, none⟩), .pointer (some p), .int .u64 386]) W := by
  rw [asRlm]
  simp only [Sem.run_bind, asPartsP, Result.andThen]
  simp [ReflectliteValue.elem, loadVar, isAgg, underlying, Tryd.underlying150, ha, Result.andThen, asElemOfP, asMkE]
theorem asRls (v x : Value) : ReflectliteValue.set #[v, x] = (do
    let (some (dst, a, fl), some (src, b, _)) := (← ReflectliteValue.parts v, ← ReflectliteValue.parts x)
      | unsupported (.noEntry "extern/(internal/reflectlite.Value).Set.zeroValue")
    if fl / ReflectliteValue.flagAddr % 2 == 0 then unsupported (.noEntry "extern/(internal/reflectlite.Value).Set.unaddressable")
    let val ← loadVar src b
    if ← Rtype.directlyAssignable dst src then storeVar dst a val
    else if ← Rtype.implements dst src then
      if (← Rtype.kind src) == 20 then
        match val with
        | .nilIface => unsupported (.noEntry "extern/reflectlite: a nil value of one interface type handed on as a value of another")
        | _ => storeVar dst a val
      else storeVar dst a (.iface src val)
    else panicString ("reflectlite.Set: value of type " ++ (← Rtype.spelt src) ++ " is not assignable to type " ++ (← Rtype.spelt dst))
    pure (.tuple #[])) := rfl
theorem asPartsEa (a : Addr) (w : World) : (ReflectliteValue.parts (.agg #[.pointer (some ⟨7, 23, none⟩), .pointer (some a), .int .u64 386])).run Tryd.prog w = .ok (some (23, a, 386)) w := by kernel_rfl
theorem asPartsE (a : Addr) (w : World) : (ReflectliteValue.parts (.agg #[.pointer (some ⟨7, 23, none⟩), .pointer (some a), .int .u64 130])).run Tryd.prog w = .ok (some (23, a, 130)) w := by kernel_rfl
theorem asDirectE (w : World) : (Rtype.directlyAssignable 23 23).run Tryd.prog w = .ok true w := by kernel_rfl
theorem asSizeE (w : World) : (sizeOf 23).run Tryd.prog w = .ok 1 w := by kernel_rfl
theorem asSetE (ta b : Addr) (n : Int) (old : Value) (W : World) (hb : W.cell? b = some (.int .i64 n)) (ht : W.cell? ta = some old) (hf : W.frozen? ta = false) :
    (ReflectliteValue.set #[.agg #[.pointer (some ⟨7, 23, none⟩), .pointer (some ta), .int .u64 386], .agg #[.pointer (some ⟨7, 23, none⟩), .pointer (some b), .int .u64 130]]).run Tryd.prog W
      = .ok (.tuple #[]) (W.setCell ta (.int .i64 n)) := by
  rw [asRls]
  simp only [Sem.run_bind, asPartsEa, asPartsE, Result.andThen]
  simp [ReflectliteValue.flagAddr, loadVar, isAgg, underlying, Tryd.underlying23, hb, Result.andThen, asDirectE, storeVar, Value.cells, storeCells, Addr.add]
  rw [run_store Tryd.prog W ta _ _ (by rfl)]
  simp [ht, hf]

/-- What the package-level variable errors.errorType holds. -/
def errTypeV : Value := .iface 200 (.agg #[.pointer (some ⟨7, 29, none⟩)])
/-- The variable's cell lies in this world. -/
def ErrT (w : World) : Prop := w.cell? ⟨0, 0, none⟩ = some (.iface 200 (.agg #[.pointer (some ⟨7, 29, none⟩)]))
theorem ErrT.below {w w' : World} (h : ErrT w) (hb : Below w.heap.size w w') : ErrT w' := (hb.cell (p := ⟨0, 0, none⟩) (World.block_lt_of_cell? w _ h)).trans h

set_option maxRecDepth 100000 in
set_option maxHeartbeats 4000000 in
theorem as_hit (n : Int) (t : Addr) (old : Value) (w : World) (hg : ErrT w) (ht0 : w.cell? t = some old) (hf0 : w.frozen? t = false) :
    Calls Tryd.prog 87 #[.iface 23 (.int .i64 n), .iface 150 (.pointer (some t))] w fun ev w' => ev = .returned (.bool true) ∧
      w' = ((((w.alloc (.cells #[.pointer (some t)] 150)).alloc (.cells #[.pointer (some ⟨7, 150, none⟩), .pointer (some ⟨w.heap.size, 0, none⟩), .int .u64 150] 180)).alloc (.cells #[.pointer (some ⟨7, 150, none⟩), .pointer (some ⟨w.heap.size, 0, none⟩), .int .u64 150] 180)).alloc (.cells #[.int .i64 n] 23)).setCell t (.int .i64 n) := by
  have h6 := @run_callFunc_extern Tryd.prog 105 _ (fun args => ReflectliteValue.unpack (args.getD 0 (.tuple #[]))) Tryd.func105 (by kernel_rfl) (by kernel_rfl) (by kernel_rfl) (by kernel_rfl)
  have h7 := @run_callFunc_extern Tryd.prog 106 _ (ReflectliteValue.methodAny (ReflectliteValue.valueError "reflectlite.Value.Type" 0) (fun t _ _ _ => ReflectliteType.toType t)) Tryd.func106 (by kernel_rfl) (by kernel_rfl) (by kernel_rfl) (by kernel_rfl)
  have h8 := @run_callFunc_extern Tryd.prog 107 _ (ReflectliteValue.method (ReflectliteValue.valueError "reflectlite.Value.IsNil" 0) ReflectliteValue.isNil) Tryd.func107 (by kernel_rfl) (by kernel_rfl) (by kernel_rfl) (by kernel_rfl)
  have h27 := @run_callFunc_extern Tryd.prog 193 _ (ReflectliteType.abiMethod fun t => do pure (.int .u8 (← Rtype.kind t))) Tryd.func193 (by kernel_rfl) (by kernel_rfl) (by kernel_rfl) (by kernel_rfl)
  have h37 := @run_callFunc_extern Tryd.prog 205 _ (ReflectliteType.method ReflectliteType.elem) Tryd.func205 (by kernel_rfl) (by kernel_rfl) (by kernel_rfl) (by kernel_rfl)
  have h38 := @run_callFunc_extern Tryd.prog 206 _ (ReflectliteType.relation "Implements" ReflectliteType.implements_) Tryd.func206 (by kernel_rfl) (by kernel_rfl) (by kernel_rfl) (by kernel_rfl)
  have h10 := @run_callFunc_extern Tryd.prog 124 _ ReflectliteType.typeOf Tryd.func124 (by kernel_rfl) (by kernel_rfl) (by kernel_rfl) (by kernel_rfl)
  have h35 := @run_callFunc_extern Tryd.prog 203 _ (ReflectliteType.relation "AssignableTo" ReflectliteType.assignableTo) Tryd.func203 (by kernel_rfl) (by kernel_rfl) (by kernel_rfl) (by kernel_rfl)
  have h11 := @run_callFunc_extern Tryd.prog 125 _ (ReflectliteValue.method (ReflectliteValue.valueError "reflectlite.Value.Elem" 0) ReflectliteValue.elem) Tryd.func125 (by kernel_rfl) (by kernel_rfl) (by kernel_rfl) (by kernel_rfl)
  have h12 := @run_callFunc_extern Tryd.prog 126 _ ReflectliteValue.set Tryd.func126 (by kernel_rfl) (by kernel_rfl) (by kernel_rfl) (by kernel_rfl)
  have tO := asTypeOfE
  have mA := asMethodAssignableTo
  have a25 := asAssignableE
  have v25 := asValueOfE
  have f6 := asValueOfP
  have f7 := asTypeP
  have mK := asMethodKind
  have mE := asMethodElem
  have mI := asMethodImplements
  have k27 := asKindP
  have k25 := asKindE
  have e27 := asElemP
  have i25 := asImplementsE
  have n8 := asIsNilP ⟨w.heap.size, 0, none⟩ t ((w.alloc (.cells #[.pointer (some t)] 150)).alloc (.cells #[.pointer (some ⟨7, 150, none⟩), .pointer (some ⟨w.heap.size, 0, none⟩), .int .u64 150] 180)) (by simp)
  have hlt : 0 < w.heap.size := World.block_lt_of_cell? w _ hg
  have hg2 : ((w.alloc (.cells #[.pointer (some t)] 150)).alloc (.cells #[.pointer (some ⟨7, 150, none⟩), .pointer (some ⟨w.heap.size, 0, none⟩), .int .u64 150] 180)).cell? ⟨0, 0, none⟩ = some (.iface 200 (.agg #[.pointer (some ⟨7, 29, none⟩)])) := by
    rw [World.cell?_alloc_lt _ _ ⟨0, 0, none⟩ (by simp <;> omega), World.cell?_alloc_lt _ _ ⟨0, 0, none⟩ hlt]; exact hg
  have htl : t.block < w.heap.size := World.block_lt_of_cell? w _ ht0
  have el := asElemVP ⟨w.heap.size, 0, none⟩ t (((w.alloc (.cells #[.pointer (some t)] 150)).alloc (.cells #[.pointer (some ⟨7, 150, none⟩), .pointer (some ⟨w.heap.size, 0, none⟩), .int .u64 150] 180)).alloc (.cells #[.pointer (some ⟨7, 150, none⟩), .pointer (some ⟨w.heap.size, 0, none⟩), .int .u64 150] 180)) (by rw [World.cell?_alloc_lt _ _ ⟨w.heap.size, 0, none⟩ (by simp; omega)]; simp)
  have st := asSetE t ⟨w.heap.size + 1 + 1 + 1, 0, none⟩ n old ((((w.alloc (.cells #[.pointer (some t)] 150)).alloc (.cells #[.pointer (some ⟨7, 150, none⟩), .pointer (some ⟨w.heap.size, 0, none⟩), .int .u64 150] 180)).alloc (.cells #[.pointer (some ⟨7, 150, none⟩), .pointer (some ⟨w.heap.size, 0, none⟩), .int .u64 150] 180)).alloc (.cells #[.int .i64 n] 23))
    (by rw [World.cell?_alloc_at _ _ _ _ (by simp)]; rfl)
    (by rw [World.cell?_alloc_lt _ _ t (by simp; omega), World.cell?_alloc_lt _ _ t (by simp; omega), World.cell?_alloc_lt _ _ t (by simp; omega), World.cell?_alloc_lt _ _ t htl]; exact ht0)
    (by rw [World.frozen?_alloc_old _ _ t (by simp; omega), World.frozen?_alloc_old _ _ t (by simp; omega), World.frozen?_alloc_old _ _ t (by simp; omega), World.frozen?_alloc_old _ _ t (Nat.ne_of_lt htl)]; exact hf0)
  clear hg
  go_enter Tryd.func87, Tryd.ntmps87
  go_wp2
  refine wp_loop_rounds 1 ?_
  rw [rounds_succ]
  go_wp2
  go_ret
  exact ⟨rfl, rfl⟩

theorem below_setAs {w W : World} {t : Addr} {v : Value} {B : Nat} (h : Below B w W) (ht : B ≤ t.block) : Below B w (W.setCell t v) := h.setCell ht v

def ToldIs (n : Int) (w : World) (e : Ending) (w' : World) : Prop := e = .returned (.int .i64 n) ∧ Below w.heap.size w w'
set_option maxRecDepth 100000 in
set_option maxHeartbeats 4000000 in
theorem Told_any (n : Int) (w : World) (hg : ErrT w) : Calls Tryd.prog 54 #[errV n] w (ToldIs n w) := by
  by_cases hn : n = 0
  · subst hn
    rw [errV_zero]
    clear hg
    go_enter Tryd.func54, Tryd.ntmps54
    go_wp2
    go_ret
    exact ⟨rfl, Below.refl _ _⟩
  · rw [errV_ne hn]
    have hal := hg.below ((Below.refl _ w).alloc (Nat.le_refl _) (.cells #[.int .i64 0] 23))
    have hb := Blk.new w 23 #[.int .i64 0]
    have HAS := Lib.hid (as_hit n ⟨w.heap.size, 0, none⟩ (.int .i64 0) (w.alloc (.cells #[.int .i64 0] 23)) hal (hb.cell 0) (hb.frozen 0))
    clear hg hal hn hb
    go_enter Tryd.func54, Tryd.ntmps54
    go_wp2_with fail
    refine HAS.out.mono ?_
    rintro e w1 ⟨rfl, hw1⟩
    have hb1 : Blk w1 w.heap.size 23 #[.int .i64 n] := by
      rw [hw1]
      have := ((((Blk.new w 23 #[.int .i64 0]).alloc (.cells #[.pointer (some ⟨w.heap.size, 0, none⟩)] 150)).alloc (.cells #[.pointer (some ⟨7, 150, none⟩), .pointer (some ⟨(w.alloc (.cells #[.int .i64 0] 23)).heap.size, 0, none⟩), .int .u64 150] 180)).alloc (.cells #[.pointer (some ⟨7, 150, none⟩), .pointer (some ⟨(w.alloc (.cells #[.int .i64 0] 23)).heap.size, 0, none⟩), .int .u64 150] 180)).alloc (.cells #[.int .i64 n] 23)
      exact this.set_ 0 (.int .i64 n)
    have hbw : Below w.heap.size w w1 := by
      rw [hw1]
      exact below_setAs ((((((Below.refl _ w).alloc (Nat.le_refl _) _).alloc (by simp) _).alloc (by simp; omega) _).alloc (by simp; omega) _).alloc (by simp; omega) _) (Nat.le_refl _)
    have c1 : w1.cell? ⟨w.heap.size, 0, none⟩ = some (.int .i64 n) := hb1.cell 0
    have HB := Lib.hid hbw
    clear hw1 hb1 hbw
    go_wp2_with fail
    go_ret
    exact ⟨rfl, HB.out⟩

def SErrIs (n m : Int) (w : World) (e : Ending) (w' : World) : Prop := ∃ r : Bool, e = .returned (.bool r) ∧ (r = true ↔ n = m) ∧ Below w.heap.size w w'
set_option maxRecDepth 100000 in
set_option maxHeartbeats 4000000 in
theorem SErr_any (n m : Int) (w : World) (hg : ErrT w) : Calls Tryd.prog 14 #[errV n, .int .i64 m] w (SErrIs n m w) := by
  have HT := Lib.hid (Told_any n w hg)
  clear hg
  generalize errV n = ev at *
  go_enter Tryd.func14, Tryd.ntmps14
  go_wp2_with fail
  refine HT.out.mono ?_
  rintro e w1 ⟨rfl, hb⟩
  go_wp2_with fail
  go_ret
  exact ⟨_, rfl, by simp, hb⟩

end Go.Proofs.YthcahjnniendnabDoor

/-
  Walks of package rex: Ends.
-/
namespace Go.Proofs.YthcahjnniendnabDoor
open Go.RowKit Wf

theorem info_int : (Tryd.prog.info? 3).map (fun i => (i.zero, i.size, i.bytes)) = some (some (.int .i64 0), 1, 8) := by kernel_rfl
theorem info_bool : (Tryd.prog.info? 4).map (fun i => (i.zero, i.size, i.bytes)) = some (some (.bool false), 1, 1) := by kernel_rfl

theorem mk_ints (n : Nat) (h : n ≤ 100000) (w : World) : (Instr.makeSlice 41 (.int .i64 (n : Int)) (.int .i64 (n : Int))).run Tryd.prog w = .ok (.slice (some ⟨w.heap.size, 0, none⟩) n n) (w.alloc (.cells (repA n (.int .i64 0)) 3)) := by
  obtain ⟨i0, hi0, hz0, hz1, hz2⟩ := info_parts info_int
  exact run_mk _ _ i0 _ Tryd.underlying41 hi0 hz0 hz1 rfl n (by rw [hz2]; omega) (by omega) w
theorem mk_bools (n : Nat) (h : n ≤ 100000) (w : World) : (Instr.makeSlice 103 (.int .i64 (n : Int)) (.int .i64 (n : Int))).run Tryd.prog w = .ok (.slice (some ⟨w.heap.size, 0, none⟩) n n) (w.alloc (.cells (repA n (.bool false)) 4)) := by
  obtain ⟨i0, hi0, hz0, hz1, hz2⟩ := info_parts info_bool
  exact run_mk _ _ i0 _ Tryd.underlying103 hi0 hz0 hz1 rfl n (by rw [hz2]; omega) (by omega) w

/-- A row of numbers as cells. -/
def natVals (xs : List Nat) : List Value := xs.map fun (n : Nat) => Value.int .i64 (n : Int)

def EndsIs (l : List Nd) (w : World) (e : Ending) (w' : World) : Prop :=
  ∃ (g : Nat) (xs : List Nat), e = .returned (.slice (some ⟨g, 0, none⟩) l.length l.length) ∧ IsEnds l xs ∧ w.heap.size ≤ g ∧ g < w'.heap.size ∧ (∀ (j x : Nat), xs[j]? = some x → w'.cell? ⟨g, j, none⟩ = some (.int .i64 (x : Int))) ∧ Below w.heap.size w w'

/-- What the round's row holds: behind place m all parts' ends. -/
def EndsTo (l : List Nd) (m : Nat) (cs : Array Value) : Prop := cs.size = l.length ∧ (∀ j, j < cs.size → ∃ x : Int, cs[j]? = some (.int .i64 x)) ∧ ∀ j u, m ≤ j → At l j u → cs[j]? = some (.int .i64 ((j + (flat u).length : Nat) : Int))

theorem EndsTo.start (l : List Nd) : EndsTo l l.length (repA l.length (.int .i64 0)) := by
  refine ⟨repA_size _ _, fun j hj => ⟨0, repA_get _ _ _ (by rw [repA_size] at hj; exact hj)⟩, fun j u hj h => ?_⟩
  have := h.lt
  have := flat_pos u
  omega

theorem EndsTo.step {l : List Nd} {i : Nat} {cs : Array Value} {u : Rx} (h : EndsTo l (i + 1) cs) (hu : At l i u) : EndsTo l i (cs.setIfInBounds i (.int .i64 ((i + (flat u).length : Nat) : Int))) := by
  obtain ⟨h1, h2, h3⟩ := h
  have hlt := hu.lt
  have hp := flat_pos u
  refine ⟨by simpa using h1, fun j hj => ?_, fun j v hj hv => ?_⟩
  · rw [Array.getElem?_setIfInBounds]
    split
    · exact ⟨_, by rw [if_pos (by simp at hj; omega)]⟩
    · exact h2 j (by simpa using hj)
  · rw [Array.getElem?_setIfInBounds]
    split
    · rename_i e
      subst e
      rw [hv.inj hu]
      rw [if_pos (by omega)]
    · exact h3 j v (by omega) hv

theorem EndsTo.done {t : Rx} {cs : Array Value} (h : EndsTo (flat t) 0 cs) : ∃ xs : List Nat, IsEnds (flat t) xs ∧ ∀ (j x : Nat), xs[j]? = some x → cs[j]? = some (.int .i64 (x : Int)) := by
  obtain ⟨h1, h2, h3⟩ := h
  have key : ∀ j, j < (flat t).length → ∃ n : Nat, cs[j]? = some (.int .i64 (n : Int)) ∧ ∀ u, At (flat t) j u → n = j + (flat u).length := by
    intro j hj
    obtain ⟨u, hu⟩ := at_each t j hj
    exact ⟨_, h3 j u (by omega) hu, fun v hv => by rw [hv.inj hu]⟩
  have build : ∀ m, m ≤ (flat t).length → ∃ xs : List Nat, xs.length = m ∧ ∀ j, j < m → ∃ n, xs[j]? = some n ∧ cs[j]? = some (.int .i64 (n : Int)) ∧ ∀ u, At (flat t) j u → n = j + (flat u).length := by
    intro m
    induction m with
    | zero => intro _; exact ⟨[], rfl, fun j hj => by omega⟩
    | succ m ih =>
      intro hm
      obtain ⟨xs, hl, hx⟩ := ih (by omega)
      obtain ⟨n, hn⟩ := key m (by omega)
      refine ⟨xs ++ [n], by simp [hl], fun j hj => ?_⟩
      by_cases hjm : j < m
      · obtain ⟨k, hk⟩ := hx j hjm
        exact ⟨k, by rw [List.getElem?_append_left (by omega)]; exact hk.1, hk.2⟩
      · obtain rfl : j = m := by omega
        exact ⟨n, by simp [hl], hn⟩
  obtain ⟨xs, hl, hx⟩ := build _ (Nat.le_refl _)
  refine ⟨xs, ⟨hl, fun i u hu => ?_⟩, fun j x hxj => ?_⟩
  · have := hu.lt
    have := flat_pos u
    obtain ⟨n, hn, _, h⟩ := hx i (by omega)
    rw [hn, h u hu]
  · obtain ⟨n', hn', hc, _⟩ := hx j (by
      have := (List.getElem?_eq_some_iff.1 hxj).1
      omega)
    rw [hn'] at hxj
    cases hxj
    exact hc

set_option maxRecDepth 100000 in
set_option maxHeartbeats 4000000 in
theorem Ends_any (l : List Nd) (t : Rx) (hl : l = flat t) (v : Value) (w : World) (ht : l.length ≤ 60) (hr : RdN w v l) : Calls Tryd.prog 58 #[v] w (EndsIs l w) := by
  obtain ⟨A, cap, rfl, hcap, hcap2, hmem⟩ := hr.open_
  have hall : ∀ i, i < l.length → ∃ u, At l i u := fun i hi => by subst hl; exact at_each t i hi
  have hdone : ∀ cs, EndsTo l 0 cs → ∃ xs : List Nat, IsEnds l xs ∧ ∀ (j x : Nat), xs[j]? = some x → cs[j]? = some (.int .i64 (x : Int)) := fun cs h => by subst hl; exact h.done
  have hpos : 0 < l.length := by rw [hl]; exact flat_pos t
  obtain ⟨b, off, rfl, hbl, hcells⟩ := hmem hpos
  have HD := Lib.hid hdone
  have HA := Lib.hid hall
  have HC := Lib.hid hcells
  clear hdone hall hcells hr hmem hl
  have hmk := fun W => mk_ints l.length (by omega) W
  have hstart := Lib.hid (EndsTo.start l)
  go_enter Tryd.func58, Tryd.ntmps58
  go_wp2
  clear hmk
  go_loopw [4] (fun v4 wr => ∃ (m : Nat) (cs : Array Value), m ≤ l.length ∧ v4 = .int .i64 ((m : Int) - 1) ∧ Hid (EndsTo l m cs) ∧ Blk wr w.heap.size 3 cs ∧ Below w.heap.size w wr) (fun i _ => (intOf i + 1).toNat)
  case atStart => exact ⟨l.length, _, by omega, rfl, hstart, Blk.new _ _ _, (Below.refl _ _).alloc (Nat.le_refl _) _⟩
  case round =>
    obtain ⟨m, cs, hm, hv4, HE, hblk, hb⟩ := hrel
    rcases m with _ | i
    · obtain rfl : u4 = .int .i64 (-1) := hv4
      go_wp2
      go_ret
      obtain ⟨xs, hx1, hx3⟩ := HD.out cs HE.out
      exact ⟨_, xs, rfl, hx1, Nat.le_refl _, hblk.lt, fun j x hx => by rw [hblk.cell]; exact hx3 j x hx, hb⟩
    · obtain rfl : u4 = .int .i64 (i : Int) := by rw [hv4]; congr 1; omega
      clear hv4
      obtain ⟨u, hu⟩ := HA.out i (by omega)
      obtain ⟨⟨op, cl⟩, hn, hpn, _⟩ := hu.node
      have hilt : i < l.length := by omega
      obtain ⟨g0, _, _, _, _⟩ := HC.out wr (fun o => hb.cell (p := ⟨b, o, none⟩) hbl) i _ hn
      dsimp only at hpn g0
      have hp2 := parts_le op
      have hkid : ∀ j, j < parts op → ∃ v, (kids u)[j]? = some v := fun j hj => ⟨_, List.getElem?_eq_getElem (by omega)⟩
      have hnext : ∀ j, j < parts op → ∃ e' : Nat, i + pre u j < l.length ∧ e' ≤ l.length ∧ e' = i + pre u (j + 1) ∧ cs[i + pre u j]? = some (.int .i64 (e' : Int)) := fun j hj => by
        obtain ⟨v, hv⟩ := hkid j hj
        have hat := hu.kid j v hv
        have h1 := hat.lt
        have h2 := flat_pos v
        have h3 := pre_succ u j v hv
        refine ⟨i + pre u j + (flat v).length, by omega, by omega, by omega, ?_⟩
        rw [HE.out.2.2 (i + pre u j) v (by unfold pre; omega) hat]
      have hend : pre u (parts op) = (flat u).length := by rw [hpn]; exact pre_all u
      have hlast := hu.lt
      have hstep := EndsTo.step HE.out hu
      obtain ⟨x0, hx0⟩ := HE.out.2.1 i (by rw [HE.out.1]; exact hilt)
      have gst : wr.cell? ⟨w.heap.size, i, none⟩ = some (.int .i64 x0) := by rw [hblk.cell]; exact hx0
      have gfr : wr.frozen? ⟨w.heap.size, i, none⟩ = false := hblk.frozen i
      have HB := Lib.hid hblk
      have HN := Lib.hid hnext
      have HEND := Lib.hid hend
      have HS := Lib.hid hstep
      have hlast' := Lib.hid hlast
      have h10 : pre u 0 = 1 := pre_zero u
      have H10 := Lib.hid h10
      clear hkid hnext hend hpn hn hu hstep hblk hlast h10 HC HA HE hx0
      have hmul : Hid (i + 1 = i + pre u 0) := by rw [H10.out]; exact Lib.hid rfl
      go_wp2_with (go_at_call 85; refine (Parts_any _ _).mono ?_; rintro e w' ⟨rfl, rfl⟩)
      go_loop [5, 24] (fun v5 v24 => ∃ j e : Nat, j ≤ parts op ∧ v24 = .int .i64 (j : Int) ∧ v5 = .int .i64 (e : Int) ∧ Hid (e = i + pre u j)) (fun _ i => parts op - (intOf i).toNat)
      case atStart => exact ⟨0, i + 1, by omega, rfl, by go_num, hmul⟩
      case round =>
        obtain ⟨j, e, hj, rfl, rfl, he⟩ := hrel
        by_cases hlt : j < parts op
        · obtain ⟨e', h1, h2, h3, h4⟩ := HN.out j hlt
          rw [← he.out] at h1 h4
          have gl : wr.cell? ⟨w.heap.size, e, none⟩ = some (.int .i64 (e' : Int)) := by rw [HB.out.cell]; exact h4
          have H3 := Lib.hid h3
          clear h3 h4
          go_wp2
          go_round
          case rel => exact ⟨j + 1, e', by omega, by go_num, rfl, H3⟩
          case measure => simp [intOf]; omega
        · obtain rfl : j = parts op := by omega
          have he2 : Hid (e = i + (flat u).length) := by have := he.out; rw [HEND.out] at this; exact this
          go_wp2
          go_roundw
          case rel => 
            refine ⟨i, cs.setIfInBounds i (.int .i64 (e : Int)), by omega, rfl, ?_, HB.out.set_ _ _, hb.setCell (Nat.le_refl _) _⟩
            have := HS.out
            rw [← he2.out] at this
            exact this
          case measure => simp [intOf]

end Go.Proofs.YthcahjnniendnabDoor

/-
  Walks of package winnowfansame: Nodes, Ints; of package rex: Empty.
-/
namespace Go.Proofs.YthcahjnniendnabDoor
open Go.RowKit Wf

def NodesIs (a b : List Nd) (w : World) (e : Ending) (w' : World) : Prop := ∃ r : Bool, e = .returned (.bool r) ∧ (r = true ↔ a = b) ∧ Below w.heap.size w w'

theorem below_drewN {B : Nat} {a w : World} (h : Below B a w) (n : Nat) : Below B a (w.drewN n) := ⟨h.os, h.tape, h.output, h.size, h.block⟩

theorem take_snoc {α : Type} {l : List α} {k : Nat} {x : α} (h : l[k]? = some x) : l.take (k + 1) = l.take k ++ [x] := by
  rw [List.take_add_one, h]; rfl

theorem nd_eq (n m : Nd) : n = m ↔ n.op = m.op ∧ n.cls = m.cls := by
  cases n; cases m; simp

theorem list_eq_of {α : Type} {a b : List α} {k : Nat} (h : a.take k = b.take k) (hk : k = a.length) (hl : a.length = b.length) : a = b := by
  rw [List.take_of_length_le (by omega), List.take_of_length_le (by omega)] at h
  exact h

theorem list_ne_of {α : Type} {a b : List α} {k : Nat} {x y : α} (hx : a[k]? = some x) (hy : b[k]? = some y) (h : x ≠ y) : a ≠ b := by
  rintro rfl
  rw [hx] at hy
  exact h (Option.some.inj hy)

set_option maxRecDepth 100000 in
set_option maxHeartbeats 4000000 in
theorem Nodes_any (a b : List Nd) (va vb : Value) (w : World) (ha : RdN w va a) (hb : RdN w vb b) : Calls Tryd.prog 40 #[va, vb] w (NodesIs a b w) := by
  obtain ⟨A, ca, rfl, hca, hca2, hma⟩ := ha.open_
  obtain ⟨B, cb, rfl, hcb, hcb2, hmb⟩ := hb.open_
  have MA := Lib.hid hma
  have MB := Lib.hid hmb
  clear hma hmb ha hb
  by_cases hl : a.length = b.length
  · have hne : ((a.length : Int) != (b.length : Int)) = false := by rw [hl]; simp
    have HL := Lib.hid hl
    have hlen1 : a.length ≤ b.length := by omega
    have hlen2 : b.length ≤ a.length := by omega
    clear hl
    go_enter Tryd.func40, Tryd.ntmps40
    go_wp2
    go_loopw [5] (fun v5 wr => ∃ k : Nat, k ≤ a.length ∧ v5 = .int .i64 k ∧ Hid (a.take k = b.take k) ∧ Below w.heap.size w wr) (fun i _ => a.length - (intOf i).toNat)
    case atStart => exact ⟨0, by omega, rfl, Lib.hid rfl, Below.refl _ _⟩
    case round =>
      obtain ⟨k, hk, rfl, HT, hbl⟩ := hrel
      by_cases hlt : k < a.length
      · obtain ⟨b1, off1, rfl, hb1, hc1⟩ := MA.out (by omega)
        obtain ⟨b2, off2, rfl, hb2, hc2⟩ := MB.out (by omega)
        obtain ⟨n, hn⟩ := getD_get hlt
        obtain ⟨m, hm⟩ := getD_get (show k < b.length by omega)
        obtain ⟨g0, g1, g2, g3, g4⟩ := hc1 wr (fun o => hbl.cell (p := ⟨b1, o, none⟩) hb1) k n hn
        obtain ⟨q0, q1, q2, q3, q4⟩ := hc2 wr (fun o => hbl.cell (p := ⟨b2, o, none⟩) hb2) k m hm
        have heq := nd_eq n m
        have hdec := nd5_iff n.op m.op n.cls.1 n.cls.2.1 n.cls.2.2.1 n.cls.2.2.2 m.cls.1 m.cls.2.1 m.cls.2.2.1 m.cls.2.2.2
        have hyes : n = m → Hid (a.take (k + 1) = b.take (k + 1)) := fun h => Lib.hid (by rw [take_snoc hn, take_snoc hm, HT.out, h])
        have hno : n ≠ m → a ≠ b := fun h => list_ne_of hn hm h
        have HY := Lib.hid hyes
        have HNO := Lib.hid hno
        have HE := Lib.hid heq
        clear hyes hno heq hn hm hc1 hc2
        obtain ⟨op, c0, c1, c2, c3⟩ := n
        obtain ⟨op', d0, d1, d2, d3⟩ := m
        dsimp only at g0 g1 g2 g3 g4 q0 q1 q2 q3 q4 hdec
        have HDEC := Lib.hid hdec
        clear hdec
        have hk0 : (0 : Int) ≤ (k : Int) := by omega
        have hk1 : (k : Int) < (a.length : Int) := by omega
        have hk2 : (k : Int) < (b.length : Int) := by omega
        cases hcase : nd5 op c0 c1 c2 c3 op' d0 d1 d2 d3
        · go_wp2
          go_quiet (fail)
          go_wp2
          go_ret
          refine ⟨_, rfl, ⟨(fun h => by cases h), fun h => absurd h (HNO.out ?_)⟩, below_drewN hbl _⟩
          intro h
          have := HDEC.out.2 (HE.out.1 h)
          rw [hcase] at this
          cases this
        · go_wp2
          go_quiet (fail)
          go_wp2
          go_roundw
          case rel => exact ⟨k + 1, by omega, by go_num, HY.out (HE.out.2 (HDEC.out.1 hcase)), below_drewN hbl _⟩
          case measure => simp [intOf]; omega
      · obtain rfl : k = a.length := by omega
        go_wp2
        go_ret
        exact ⟨_, rfl, ⟨fun _ => list_eq_of HT.out rfl HL.out, fun _ => rfl⟩, hbl⟩
  · have hne : ((a.length : Int) != (b.length : Int)) = true := by simp; omega
    have HL := Lib.hid hl
    clear hl
    go_enter Tryd.func40, Tryd.ntmps40
    go_wp2
    go_ret
    exact ⟨_, rfl, ⟨(fun h => by cases h), fun h => absurd (congrArg List.length h) HL.out⟩, Below.refl _ _⟩

/-- What the round's row holds: behind place m whether each part may be nothing. -/
def MayTo (l : List Nd) (m : Nat) (cs : Array Value) : Prop := cs.size = l.length ∧ (∀ j, j < cs.size → ∃ x : Bool, cs[j]? = some (.bool x)) ∧ (∀ j, j < m → j < cs.size → cs[j]? = some (.bool false)) ∧ ∀ j u, m ≤ j → At l j u → cs[j]? = some (.bool (may u))

theorem MayTo.start (l : List Nd) : MayTo l l.length (repA l.length (.bool false)) := by
  refine ⟨repA_size _ _, fun j hj => ⟨false, repA_get _ _ _ (by rw [repA_size] at hj; exact hj)⟩, fun j hj _ => repA_get _ _ _ hj, fun j u hj h => ?_⟩
  have := h.lt
  have := flat_pos u
  omega

theorem MayTo.step {l : List Nd} {i : Nat} {cs : Array Value} {u : Rx} (h : MayTo l (i + 1) cs) (hu : At l i u) : MayTo l i (cs.setIfInBounds i (.bool (may u))) := by
  obtain ⟨h1, h2, h0, h3⟩ := h
  have hlt := hu.lt
  have hp := flat_pos u
  refine ⟨by simpa using h1, fun j hj => ?_, fun j hj hj' => ?_, fun j v hj hv => ?_⟩
  · rw [Array.getElem?_setIfInBounds]
    split
    · exact ⟨_, by rw [if_pos (by simp at hj; omega)]⟩
    · exact h2 j (by simpa using hj)
  · rw [Array.getElem?_setIfInBounds]
    split
    · omega
    · exact h0 j (by omega) (by simpa using hj')
  · rw [Array.getElem?_setIfInBounds]
    split
    · rename_i e
      subst e
      rw [hv.inj hu]
      rw [if_pos (by omega)]
    · exact h3 j v (by omega) hv

theorem MayTo.skip {l : List Nd} {i : Nat} {cs : Array Value} {u : Rx} (h : MayTo l (i + 1) cs) (hu : At l i u) (hm : may u = false) : MayTo l i cs := by
  obtain ⟨h1, h2, h0, h3⟩ := h
  have hlt := hu.lt
  have hp := flat_pos u
  refine ⟨h1, h2, fun j hj hj' => h0 j (by omega) hj', fun j v hj hv => ?_⟩
  by_cases e : j = i
  · subst e
    rw [hv.inj hu, hm]
    exact h0 j (by omega) (by omega)
  · exact h3 j v (by omega) hv

def EmptyIs (t : Rx) (w : World) (e : Ending) (w' : World) : Prop := e = .returned (.tuple #[.bool (may t), .nilIface]) ∧ Below w.heap.size w w'

end Go.Proofs.YthcahjnniendnabDoor

/-
  Package rex: Empty of a pattern that may not be; what nodes of a tree are.
-/
namespace Go.Proofs.YthcahjnniendnabDoor
open Go.RowKit Wf

def EmptyNot (l : List Nd) (w : World) (e : Ending) (w' : World) : Prop := e = .returned (.tuple #[.bool false, errV (chk l)]) ∧ Below w.heap.size w w'
theorem flat_good (t : Rx) : ∀ n ∈ flat t, good n := by
  intro n hn
  obtain ⟨i, hi, he⟩ := List.getElem_of_mem hn
  obtain ⟨u, hu⟩ := at_each t i hi
  obtain ⟨m, h1, _, h2⟩ := hu.node
  rw [List.getElem?_eq_getElem hi, he] at h1
  cases h1
  exact h2

end Go.Proofs.YthcahjnniendnabDoor

/-
  Plain facts about what a pattern fits. No program in sight.
-/
namespace Wf

inductive Star (R : Nat → Nat → Prop) : Nat → Nat → Prop where
  | refl (i : Nat) : Star R i i
  | tail {i j k : Nat} : Star R i j → R j k → Star R i k

theorem Star.one {R : Nat → Nat → Prop} {i j : Nat} (h : R i j) : Star R i j := .tail (.refl i) h
theorem Star.trans {R : Nat → Nat → Prop} {i j k : Nat} (h : Star R i j) (h' : Star R j k) : Star R i k := by
  induction h' with
  | refl => exact h
  | tail _ hr ih => exact .tail ih hr
theorem Star.head {R : Nat → Nat → Prop} {i j k : Nat} (h : R i j) (h' : Star R j k) : Star R i k := (Star.one h).trans h'
theorem Star.mono {R S : Nat → Nat → Prop} {i j : Nat} (h : Star R i j) (hs : ∀ a b, R a b → S a b) : Star S i j := by
  induction h with
  | refl => exact .refl _
  | tail _ hr ih => exact .tail ih (hs _ _ hr)
theorem Star.inv {R : Nat → Nat → Prop} {i j : Nat} (h : Star R i j) (P : Nat → Prop) (h0 : P i) (hs : ∀ a b, P a → R a b → P b) : P j := by
  induction h with
  | refl => exact h0
  | tail _ hr ih => exact hs _ _ ih hr

/-- A pattern fits a text from a place to another one. -/
def Fits (s : List UInt8) : Rx → Nat → Nat → Prop
  | .byte c, i, j => j = i + 1 ∧ ∃ b, s[i]? = some b ∧ has c b.toNat = true
  | .empty, i, j => j = i
  | .cat a b, i, j => ∃ k, Fits s a i k ∧ Fits s b k j
  | .alt a b, i, j => Fits s a i j ∨ Fits s b i j
  | .star a, i, j => Star (Fits s a) i j
  | .plus a, i, j => ∃ k, Fits s a i k ∧ Star (Fits s a) k j
  | .opt a, i, j => j = i ∨ Fits s a i j
  | .bgn, i, j => j = i ∧ i = 0
  | .fin, i, j => j = i ∧ i = s.length

theorem fits_bound (s : List UInt8) (u : Rx) : ∀ i j, Fits s u i j → i ≤ s.length → i ≤ j ∧ j ≤ s.length := by
  induction u with
  | byte c =>
    rintro i j ⟨rfl, b, hb, _⟩ hi
    have := (List.getElem?_eq_some_iff.1 hb).1
    omega
  | empty => rintro i j h hi; simp only [Fits] at h; omega
  | bgn => rintro i j ⟨h, _⟩ hi; omega
  | fin => rintro i j ⟨h, _⟩ hi; omega
  | cat a b iha ihb =>
    rintro i j ⟨k, h1, h2⟩ hi
    have := iha _ _ h1 hi
    have := ihb _ _ h2 this.2
    omega
  | alt a b iha ihb =>
    rintro i j (h | h) hi
    · exact iha _ _ h hi
    · exact ihb _ _ h hi
  | star a iha =>
    intro i j h hi
    exact Star.inv (P := fun x => i ≤ x ∧ x ≤ s.length) h ⟨Nat.le_refl _, hi⟩ fun x y hx hxy => by
      have := iha _ _ hxy hx.2
      omega
  | plus a iha =>
    rintro i j ⟨k, h1, h2⟩ hi
    have hk := iha _ _ h1 hi
    exact Star.inv (P := fun x => i ≤ x ∧ x ≤ s.length) h2 ⟨by omega, hk.2⟩ fun x y hx hxy => by
      have := iha _ _ hxy hx.2
      omega
  | opt a iha =>
    rintro i j (h | h) hi
    · omega
    · exact iha _ _ h hi

/-- The places up to n of which b says yes. -/
def upTo (n : Nat) (b : Nat → Bool) : List Nat := (List.range (n + 1)).filter b
theorem upTo_congr {n : Nat} {b b' : Nat → Bool} (h : ∀ k, k ≤ n → b k = b' k) : upTo n b = upTo n b' :=
  List.filter_congr fun k hk => h k (by simp at hk; omega)
theorem mem_upTo {n : Nat} {b : Nat → Bool} {k : Nat} : k ∈ upTo n b ↔ k ≤ n ∧ b k = true := by
  unfold upTo
  simp [List.mem_filter]
  omega

/-- How many places up to n are not marked. -/
def cnt (D : Nat → Bool) : Nat → Nat
  | 0 => if D 0 then 0 else 1
  | n + 1 => cnt D n + if D (n + 1) then 0 else 1

def mark (D : Nat → Bool) (k : Nat) : Nat → Bool := fun j => j == k || D j

theorem cnt_out (D : Nat → Bool) (k : Nat) : ∀ n, n < k → cnt (mark D k) n = cnt D n := by
  intro n
  induction n with
  | zero => intro h; have : (0 == k) = false := by simp; omega
            simp [cnt, mark, this]
  | succ n ih =>
    intro h
    have : (n + 1 == k) = false := by simp; omega
    simp only [cnt, ih (by omega), mark, this, Bool.false_or]
theorem cnt_mark (D : Nat → Bool) (k : Nat) (hD : D k = false) : ∀ n, k ≤ n → cnt (mark D k) n + 1 = cnt D n := by
  intro n
  induction n with
  | zero => intro h; obtain rfl : k = 0 := by omega
            simp [cnt, mark, hD]
  | succ n ih =>
    intro h
    by_cases e : k = n + 1
    · subst e
      simp only [cnt, cnt_out D (n + 1) n (by omega), mark, hD, beq_self_eq_true, Bool.true_or, if_true]
      simp
    · have e2 : (n + 1 == k) = false := by simp; omega
      have := ih (by omega)
      have e3 : mark D k (n + 1) = D (n + 1) := by simp [mark, e2]
      simp only [cnt, e3]
      omega

theorem cnt_le (D : Nat → Bool) : ∀ n, cnt D n ≤ n + 1 := by
  intro n
  induction n with
  | zero => simp only [cnt]; split <;> omega
  | succ n ih => simp only [cnt]; split <;> omega

/-- Between two rounds of the search: what is marked, what waits. -/
structure InvO (n : Nat) (R : Nat → Nat → Prop) (at_ : Nat) (D : Nat → Bool) (qs : List Nat) : Prop where
  start : D at_ = true
  sound : ∀ x, D x = true → x ≤ n ∧ Star R at_ x
  wait : ∀ q ∈ qs, D q = true
  closed : ∀ x, D x = true → x ∉ qs → ∀ y, y ≤ n → R x y → D y = true

structure InvI (n : Nat) (R : Nat → Nat → Prop) (at_ : Nat) (D : Nat → Bool) (h : Nat) (rest : List Nat) (k : Nat) : Prop where
  start : D at_ = true
  sound : ∀ x, D x = true → x ≤ n ∧ Star R at_ x
  wait : ∀ q ∈ h :: rest, D q = true
  closed : ∀ x, D x = true → x ≠ h → x ∉ rest → ∀ y, y ≤ n → R x y → D y = true
  now : ∀ y, y < k → R h y → D y = true

section
variable {n : Nat} {R : Nat → Nat → Prop} {at_ : Nat} {D : Nat → Bool} {h : Nat} {rest : List Nat} {k : Nat}
theorem InvO.first (hat : at_ ≤ n) : InvO n R at_ (fun j => j == at_) [at_] :=
  ⟨by simp, fun x hx => by simp at hx; subst hx; exact ⟨hat, .refl _⟩, fun q hq => by simpa using hq, fun x hx hn => by simp at hx hn; exact absurd hx hn⟩
theorem InvO.open_ (i : InvO n R at_ D (h :: rest)) : InvI n R at_ D h rest 0 :=
  ⟨i.start, i.sound, i.wait, fun x hx hne hr => i.closed x hx (by simp [hne, hr]), fun y hy => by omega⟩
theorem InvI.skip (i : InvI n R at_ D h rest k) (hk : R h k → D k = true) : InvI n R at_ D h rest (k + 1) :=
  ⟨i.start, i.sound, i.wait, i.closed, fun y hy hr => by
    by_cases e : y = k
    · subst e; exact hk hr
    · exact i.now y (by omega) hr⟩
theorem InvI.add (i : InvI n R at_ D h rest k) (hr : R h k) (hk : k ≤ n) : InvI n R at_ (mark D k) h (rest ++ [k]) (k + 1) := by
  have up : ∀ x, D x = true → mark D k x = true := fun x hx => by simp [mark, hx]
  have hh := i.sound h (i.wait h (by simp))
  refine ⟨up _ i.start, fun x hx => ?_, fun q hq => ?_, fun x hx hne hnr y hy hxy => ?_, fun y hy hry => ?_⟩
  · simp [mark] at hx
    rcases hx with rfl | hx
    · exact ⟨hk, .tail hh.2 hr⟩
    · exact i.sound x hx
  · simp at hq
    rcases hq with rfl | hq | rfl
    · exact up _ (i.wait _ (by simp))
    · exact up _ (i.wait _ (by simp [hq]))
    · simp [mark]
  · simp at hnr
    simp [mark, hnr.2] at hx
    exact up _ (i.closed x hx hne hnr.1 y hy hxy)
  · by_cases e : y = k
    · subst e; simp [mark]
    · exact up _ (i.now y (by omega) hry)
theorem InvI.close (i : InvI n R at_ D h rest (n + 1)) : InvO n R at_ D rest :=
  ⟨i.start, i.sound, fun q hq => i.wait q (by simp [hq]), fun x hx hnr y hy hxy => by
    by_cases e : x = h
    · subst e; exact i.now y (by omega) hxy
    · exact i.closed x hx e hnr y hy hxy⟩
theorem InvO.done (i : InvO n R at_ D []) (hb : ∀ x y, R x y → x ≤ n → y ≤ n) (hat : at_ ≤ n) (j : Nat) : D j = true ↔ Star R at_ j := by
  constructor
  · intro hj; exact (i.sound j hj).2
  · intro hj
    have : D j = true ∧ j ≤ n := Star.inv (P := fun x => D x = true ∧ x ≤ n) hj ⟨i.start, hat⟩ fun a b ha hab =>
      ⟨i.closed a ha.1 (by simp) b (hb a b hab ha.2) hab, hb a b hab ha.2⟩
    exact this.1
end

end Wf

/-
  Plain facts about the places to which a part fits, all at once. No program in sight.
-/
namespace Wf

def setD (D : Nat → Bool) (k : Nat) (x : Bool) : Nat → Bool := fun j => if j = k then x else D j
def cntD (N : Nat) (D : Nat → Bool) : Nat := (List.range N).countP D
theorem cntD_le (N : Nat) (D : Nat → Bool) : cntD N D ≤ N := by
  have := List.countP_le_length (p := D) (l := List.range N)
  simpa [cntD] using this
theorem cntD_succ (N : Nat) (D : Nat → Bool) : cntD (N + 1) D = cntD N D + (if D N then 1 else 0) := by
  simp [cntD, List.range_succ, List.countP_append, List.countP_cons]
theorem cntD_mono {N : Nat} {D D' : Nat → Bool} (h : ∀ j, j < N → D j = true → D' j = true) : cntD N D ≤ cntD N D' := by
  induction N with
  | zero => simp [cntD]
  | succ N ih =>
    rw [cntD_succ, cntD_succ]
    have h1 := ih (fun j hj => h j (by omega))
    have h2 := h N (by omega)
    cases hD : D N with
    | false => simp; omega
    | true => rw [h2 hD]; simp; omega
theorem cntD_lt {N : Nat} {D D' : Nat → Bool} (h : ∀ j, j < N → D j = true → D' j = true) {j : Nat} (hj : j < N) (h1 : D' j = true) (h2 : D j = false) : cntD N D < cntD N D' := by
  induction N with
  | zero => omega
  | succ N ih =>
    rw [cntD_succ, cntD_succ]
    by_cases e : j = N
    · subst e
      have := cntD_mono (fun i hi => h i (by omega) : ∀ i, i < j → D i = true → D' i = true)
      rw [h1, h2]; simp; omega
    · have h3 := ih (fun i hi => h i (by omega)) (by omega)
      have h4 := h N (by omega)
      cases hD : D N with
      | false => simp; omega
      | true => rw [h4 hD]; simp; omega

/-- D' tells where a relation comes to from where D tells. -/
def ToD (R : Nat → Nat → Prop) (N : Nat) (D D' : Nat → Bool) : Prop := ∀ j, j < N → (D' j = true ↔ ∃ k, k < N ∧ D k = true ∧ R k j)

theorem to_empty (s : List UInt8) (N : Nat) (D : Nat → Bool) : ToD (Fits s .empty) N D D := fun j hj => by
  simp only [Fits]
  exact ⟨fun h => ⟨j, hj, h, rfl⟩, fun ⟨k, _, h, e⟩ => by subst e; exact h⟩
theorem to_bgn (s : List UInt8) (N : Nat) (D : Nat → Bool) : ToD (Fits s .bgn) N D (setD (fun _ => false) 0 (D 0)) := fun j hj => by
  simp only [Fits, setD]
  constructor
  · intro h
    split at h
    · rename_i e; subst e; exact ⟨0, hj, h, rfl, rfl⟩
    · cases h
  · rintro ⟨k, _, h, rfl, rfl⟩
    simpa using h
theorem to_fin (s : List UInt8) (D : Nat → Bool) : ToD (Fits s .fin) (s.length + 1) D (setD (fun _ => false) s.length (D s.length)) := fun j hj => by
  simp only [Fits, setD]
  constructor
  · intro h
    split at h
    · rename_i e; subst e; exact ⟨_, hj, h, rfl, rfl⟩
    · cases h
  · rintro ⟨k, _, h, rfl, rfl⟩
    simpa using h
/-- What a byte's part comes to, the first m places of the text being read. -/
def byteD (s : List UInt8) (c : Cls) (D : Nat → Bool) (m : Nat) : Nat → Bool := fun j => decide (0 < j) && decide (j ≤ m) && (D (j - 1) && (match s[j - 1]? with | some b => has c b.toNat | none => false))
theorem byteD_zero (s : List UInt8) (c : Cls) (D : Nat → Bool) : byteD s c D 0 = fun _ => false := by
  funext j
  unfold byteD
  cases h : decide (0 < j) with
  | false => simp
  | true => have : ¬ j ≤ 0 := by have := of_decide_eq_true h; omega
            simp [this]
theorem byteD_succ {s : List UInt8} {c : Cls} {D : Nat → Bool} {m : Nat} {b : UInt8} (hb : s[m]? = some b) : byteD s c D (m + 1) = setD (byteD s c D m) (m + 1) (D m && has c b.toNat) := by
  funext j
  unfold setD byteD
  by_cases e : j = m + 1
  · subst e
    simp [hb]
  · rw [if_neg e]
    have : decide (j ≤ m + 1) = decide (j ≤ m) := by
      rw [decide_eq_decide]; omega
    rw [this]
theorem to_byte (s : List UInt8) (c : Cls) (D : Nat → Bool) : ToD (Fits s (.byte c)) (s.length + 1) D (byteD s c D s.length) := fun j hj => by
  simp only [Fits, byteD]
  constructor
  · intro h
    simp only [Bool.and_eq_true, decide_eq_true_eq] at h
    obtain ⟨⟨h1, h2⟩, h3, h4⟩ := h
    cases hb : s[j - 1]? with
    | none => rw [hb] at h4; cases h4
    | some b =>
      rw [hb] at h4
      exact ⟨j - 1, by omega, h3, by omega, b, hb, h4⟩
  · rintro ⟨k, hk, hD, rfl, b, hb, hh⟩
    have := (List.getElem?_eq_some_iff.1 hb).1
    simp [hD, hb, hh]
    omega

theorem to_cat {s : List UInt8} {a b : Rx} {D D1 D2 : Nat → Bool} (h1 : ToD (Fits s a) (s.length + 1) D D1) (h2 : ToD (Fits s b) (s.length + 1) D1 D2) : ToD (Fits s (.cat a b)) (s.length + 1) D D2 := fun j hj => by
  rw [h2 j hj]
  simp only [Fits]
  constructor
  · rintro ⟨m, hm, h, hf⟩
    obtain ⟨k, hk, hD, hf1⟩ := (h1 m hm).1 h
    exact ⟨k, hk, hD, m, hf1, hf⟩
  · rintro ⟨k, hk, hD, m, hf1, hf⟩
    have := fits_bound s a k m hf1 (by omega)
    exact ⟨m, by omega, (h1 m (by omega)).2 ⟨k, hk, hD, hf1⟩, hf⟩
theorem to_alt {s : List UInt8} {a b : Rx} {N : Nat} {D D1 D2 : Nat → Bool} (h1 : ToD (Fits s a) N D D1) (h2 : ToD (Fits s b) N D D2) : ToD (Fits s (.alt a b)) N D (fun j => D1 j || D2 j) := fun j hj => by
  simp only [Bool.or_eq_true, Fits]
  rw [h1 j hj, h2 j hj]
  constructor
  · rintro (⟨k, hk, hD, h⟩ | ⟨k, hk, hD, h⟩)
    · exact ⟨k, hk, hD, .inl h⟩
    · exact ⟨k, hk, hD, .inr h⟩
  · rintro ⟨k, hk, hD, h | h⟩
    · exact .inl ⟨k, hk, hD, h⟩
    · exact .inr ⟨k, hk, hD, h⟩
theorem to_opt {s : List UInt8} {a : Rx} {N : Nat} {D D1 : Nat → Bool} (h1 : ToD (Fits s a) N D D1) : ToD (Fits s (.opt a)) N D (fun j => D j || D1 j) := fun j hj => by
  simp only [Bool.or_eq_true, Fits]
  rw [h1 j hj]
  constructor
  · rintro (h | ⟨k, hk, hD, h⟩)
    · exact ⟨j, hj, h, .inl rfl⟩
    · exact ⟨k, hk, hD, .inr h⟩
  · rintro ⟨k, hk, hD, h | h⟩
    · subst h; exact .inl hD
    · exact .inr ⟨k, hk, hD, h⟩
theorem to_star {s : List UInt8} {a : Rx} {N : Nat} {D D1 : Nat → Bool} (h1 : ToD (Star (Fits s a)) N D D1) : ToD (Fits s (.star a)) N D D1 := h1
theorem to_plus {s : List UInt8} {a : Rx} {D D1 D2 : Nat → Bool} (h1 : ToD (Fits s a) (s.length + 1) D D1) (h2 : ToD (Star (Fits s a)) (s.length + 1) D1 D2) : ToD (Fits s (.plus a)) (s.length + 1) D D2 := fun j hj => by
  rw [h2 j hj]
  simp only [Fits]
  constructor
  · rintro ⟨m, hm, h, hf⟩
    obtain ⟨k, hk, hD, hf1⟩ := (h1 m hm).1 h
    exact ⟨k, hk, hD, m, hf1, hf⟩
  · rintro ⟨k, hk, hD, m, hf1, hf⟩
    have := fits_bound s a k m hf1 (by omega)
    exact ⟨m, by omega, (h1 m (by omega)).2 ⟨k, hk, hD, hf1⟩, hf⟩

/-- Between what is told and all that comes of it. -/
structure Part (R : Nat → Nat → Prop) (N : Nat) (D Df : Nat → Bool) : Prop where
  up : ∀ j, j < N → D j = true → Df j = true
  of : ∀ j, j < N → Df j = true → ∃ k, k < N ∧ D k = true ∧ Star R k j
theorem Part.start (R : Nat → Nat → Prop) (N : Nat) (D : Nat → Bool) : Part R N D D := ⟨fun _ _ h => h, fun j hj h => ⟨j, hj, h, .refl _⟩⟩
theorem Part.step {R : Nat → Nat → Prop} {N : Nat} {D Df Dn : Nat → Bool} (h : Part R N D Df) (hn : ToD R N Df Dn) : Part R N D (fun j => Df j || Dn j) := by
  refine ⟨fun j hj hd => by simp [h.up j hj hd], fun j hj hd => ?_⟩
  simp only [Bool.or_eq_true] at hd
  rcases hd with hd | hd
  · exact h.of j hj hd
  · obtain ⟨m, hm, hd1, hr⟩ := (hn j hj).1 hd
    obtain ⟨k, hk, hd2, hs⟩ := h.of m hm hd1
    exact ⟨k, hk, hd2, .tail hs hr⟩
theorem Part.done {R : Nat → Nat → Prop} {N : Nat} {D Df Dn : Nat → Bool} (h : Part R N D Df) (hn : ToD R N Df Dn) (hb : ∀ x y, R x y → x < N → y < N) (hsame : ∀ j, j < N → (Df j || Dn j) = Df j) : ToD (Star R) N D (fun j => Df j || Dn j) := fun j hj => by
  show (Df j || Dn j) = true ↔ _
  rw [hsame j hj]
  constructor
  · exact h.of j hj
  · rintro ⟨k, hk, hd, hs⟩
    have hclosed : ∀ a b, (a < N ∧ Df a = true) → R a b → (b < N ∧ Df b = true) := by
      rintro a b ⟨h1, h2⟩ hr
      have h3 := hb a b hr h1
      refine ⟨h3, ?_⟩
      have h4 := (hn b h3).2 ⟨a, h1, h2, hr⟩
      have h5 := hsame b h3
      rw [h4] at h5
      simpa using h5.symm
    exact (Star.inv (P := fun x => x < N ∧ Df x = true) hs ⟨hk, h.up k hk hd⟩ hclosed).2
theorem Part.more {N : Nat} {Df Dn : Nat → Bool} {j : Nat} (hj : j < N) (hne : (Df j || Dn j) ≠ Df j) : cntD N Df < cntD N (fun j => Df j || Dn j) := by
  refine cntD_lt (fun i _ h => by simp [h]) hj ?_ ?_
  · cases h : Df j with
    | true => simp
    | false => cases h2 : Dn j with
      | true => simp
      | false => rw [h, h2] at hne; simp at hne
  · cases h : Df j with
    | false => rfl
    | true => rw [h] at hne; simp at hne

end Wf

/-
  Rows of truth values in memory.
-/
namespace Go.Proofs.YthcahjnniendnabDoor
open Go.RowKit Wf

/-- A block of N truth values, as D says. -/
def RB (w : World) (g N : Nat) (D : Nat → Bool) : Prop := ∃ cs : Array Value, Blk w g 4 cs ∧ cs.size = N ∧ ∀ k, k < N → cs[k]? = some (.bool (D k))
section
variable {w w' : World} {g N : Nat} {D D' : Nat → Bool}
theorem RB.lt (h : RB w g N D) : g < w.heap.size := by
  obtain ⟨cs, hb, _⟩ := h
  exact hb.lt
theorem RB.below (h : RB w g N D) (hb : Below w.heap.size w w') : RB w' g N D := by
  obtain ⟨cs, hk, h2⟩ := h
  exact ⟨cs, hk.kept hb, h2⟩
theorem RB.as (h : RB w g N D) (hd : ∀ k, k < N → D k = D' k) : RB w g N D' := by
  obtain ⟨cs, hb, hs, hc⟩ := h
  exact ⟨cs, hb, hs, fun k hk => by rw [hc k hk, hd k hk]⟩
theorem RB.cell (h : RB w g N D) {k : Nat} (hk : k < N) : w.cell? ⟨g, k, none⟩ = some (.bool (D k)) := by
  obtain ⟨cs, hb, _, hc⟩ := h
  rw [hb.cell]
  exact hc k hk
theorem RB.frozen (h : RB w g N D) (k : Nat) : w.frozen? ⟨g, k, none⟩ = false := by
  obtain ⟨cs, hb, _⟩ := h
  exact hb.frozen k
theorem RB.set_ (h : RB w g N D) (k : Nat) (b : Bool) : RB (w.setCell ⟨g, k, none⟩ (.bool b)) g N (setD D k b) := by
  obtain ⟨cs, hb, hs, hc⟩ := h
  refine ⟨_, hb.set_ k (.bool b), by simpa using hs, fun j hj => ?_⟩
  rw [Array.getElem?_setIfInBounds]
  unfold setD
  by_cases e : k = j
  · subst e
    rw [if_pos rfl, if_pos (by omega), if_pos rfl]
  · rw [if_neg e, if_neg (fun h => e h.symm)]
    exact hc j hj
theorem RB.new (w : World) (N : Nat) : RB (w.alloc (.cells (repA N (.bool false)) 4)) w.heap.size N (fun _ => false) :=
  ⟨_, Blk.new _ _ _, repA_size _ _, fun k hk => repA_get _ _ _ hk⟩
theorem RB.alloc (h : RB w g N D) (o : Obj) : RB (w.alloc o) g N D := h.below ((Below.refl _ _).alloc (Nat.le_refl _) _)
end


theorem RB.ne_blk {w : World} {g N q : Nat} {D : Nat → Bool} {cur : Array Value} {t : TypeId} (h : RB w g N D) (hc : w.heap[q]? = some (.cells cur t (0, 0))) (ht : t ≠ 4) : g ≠ q := by
  rintro rfl
  obtain ⟨cs, hb, _⟩ := h
  unfold Blk at hb
  rw [hb] at hc
  cases hc
  exact ht rfl
theorem RB.kept {w w' : World} {g N : Nat} {D : Nat → Bool} {row : Option Nat} (h : RB w g N D) (hg : w.grownBy w' row) (hne : some g ≠ row) : RB w' g N D := by
  obtain ⟨cs, hb, h2⟩ := h
  exact ⟨cs, (hg.block g hb.lt hne).trans hb, h2⟩
theorem RB.far {w : World} {g N g2 k : Nat} {D : Nat → Bool} (h : RB w g N D) (hne : g ≠ g2) (v : Value) : RB (w.setCell ⟨g2, k, none⟩ v) g N D := by
  obtain ⟨cs, hb, h2⟩ := h
  exact ⟨cs, hb.far hne v, h2⟩

end Go.Proofs.YthcahjnniendnabDoor

/-
  The walk of the document's joined.
-/
namespace Go.Proofs.YthcahjnniendnabDoor
open Go.RowKit Wf

/-- The call hands back a new row of N truth values. -/
def NewB (N : Nat) (P : (Nat → Bool) → Prop) (w : World) (e : Ending) (w' : World) : Prop :=
  ∃ (g : Nat) (D : Nat → Bool), e = .returned (.slice (some ⟨g, 0, none⟩) N N) ∧ RB w' g N D ∧ P D ∧ Below w.heap.size w w'
def JoinIs (N : Nat) (A B : Nat → Bool) (w : World) (e : Ending) (w' : World) : Prop :=
  ∃ g : Nat, e = .returned (.slice (some ⟨g, 0, none⟩) N N) ∧ RB w' g N (fun j => A j || B j) ∧ Below w.heap.size w w'

set_option maxRecDepth 100000 in
set_option maxHeartbeats 4000000 in
theorem joined_any (ga gb N : Nat) (hN : N ≤ 1000) (A B : Nat → Bool) (w : World) (ha : RB w ga N A) (hb : RB w gb N B) :
    Calls Tryd.prog 89 #[.slice (some ⟨ga, 0, none⟩) N N, .slice (some ⟨gb, 0, none⟩) N N] w (JoinIs N A B w) := by
  have HA := Lib.hid ha
  have HB := Lib.hid hb
  have hmk := fun W => mk_bools N (by omega) W
  have hla := ha.lt
  have hlb := hb.lt
  clear ha hb
  go_enter Tryd.func89, Tryd.ntmps89
  go_wp2
  clear hmk
  go_loopw [6] (fun v4 wr => ∃ k : Nat, k ≤ N ∧ v4 = .int .i64 (k : Int) ∧ Hid (RB wr w.heap.size N (fun j => decide (j < k) && (A j || B j))) ∧ Hid (Below w.heap.size w wr)) (fun i _ => N - (intOf i).toNat)
  case atStart => exact ⟨0, by omega, rfl, Lib.hid ((RB.new w N).as fun j _ => by simp), Lib.hid ((Below.refl _ _).alloc (Nat.le_refl _) _)⟩
  case round =>
    obtain ⟨k, hk, rfl, hR, hBL⟩ := hrel
    by_cases hlt : k < N
    · have x1 := (HA.out.below hBL.out).cell hlt
      have x2 := (HB.out.below hBL.out).cell hlt
      have x3 := hR.out.cell hlt
      have hfz := hR.out.frozen k
      have hk1 : (k : Int) < (N : Int) := by omega
      obtain ⟨x, hx⟩ : ∃ x, x = A k := ⟨_, rfl⟩
      obtain ⟨y, hy⟩ : ∃ y, y = B k := ⟨_, rfl⟩
      rw [← hx] at x1
      rw [← hy] at x2
      have HX := Lib.hid hx
      have HY := Lib.hid hy
      clear hx hy
      have key : Hid (RB (wr.setCell ⟨w.heap.size, k, none⟩ (.bool (x || y))) w.heap.size N (fun j => decide (j < k + 1) && (A j || B j))) := Lib.hid ((hR.out.set_ k _).as fun j hj => by
        unfold setD
        by_cases e : j = k
        · subst e
          rw [if_pos rfl, HX.out, HY.out]
          simp
        · rw [if_neg e]
          have : decide (j < k + 1) = decide (j < k) := by rw [decide_eq_decide]; omega
          rw [this])
      clear HX HY
      cases x <;> cases y
      all_goals
        go_wp2
        go_roundw
        case rel => exact ⟨k + 1, by omega, by go_num, key, Lib.hid (hBL.out.setCell (Nat.le_refl _) _)⟩
        case measure => simp [intOf]; omega
    · obtain rfl : k = N := by omega
      go_wp2
      go_ret
      exact ⟨_, rfl, hR.out.as fun j hj => by simp [hj], hBL.out⟩

end Go.Proofs.YthcahjnniendnabDoor

/-
  Walks of package class: Has, with, Of.
-/
namespace Go.Proofs.YthcahjnniendnabDoor
open Go.RowKit Wf

/-- A class as a value. -/
def clsV (c : Cls) : Value := .agg #[.int .u64 (c.1 : Int), .int .u64 (c.2.1 : Int), .int .u64 (c.2.2.1 : Int), .int .u64 (c.2.2.2 : Int)]

theorem word_get (c : Cls) (q : Nat) (h : q < 4) : [Value.int .u64 (c.1 : Int), .int .u64 (c.2.1 : Int), .int .u64 (c.2.2.1 : Int), .int .u64 (c.2.2.2 : Int)][q]? = some (.int .u64 (word c q : Int)) := by
  match q, h with
  | 0, _ => rfl
  | 1, _ => rfl
  | 2, _ => rfl
  | 3, _ => rfl

theorem bit_has (n k : Nat) (hn : n < 18446744073709551616) : (bits .and .u64 ((n : Int) / 2 ^ k) 1 == 1) = n.testBit k := by
  have e : (n : Int) / 2 ^ k = ((n / 2 ^ k : Nat) : Int) := by simp
  have hle : n / 2 ^ k ≤ n := Nat.div_le_self _ _
  rw [e, Nat.testBit_eq_decide_div_mod_eq]
  generalize n / 2 ^ k = m at *
  rw [and_one_u64 _ (by omega) (by omega)]
  rw [Bool.eq_iff_iff]
  simp
  omega

def HasIs (c : Cls) (b : Nat) (w : World) (e : Ending) (w' : World) : Prop := e = .returned (.bool (has c b)) ∧ Below w.heap.size w w'

set_option maxRecDepth 100000 in
theorem Has_any (c0 c1 c2 c3 b : Nat) (w : World) (hok : okC (c0, c1, c2, c3)) (hb : b < 256) :
    Calls Tryd.prog 36 #[.agg #[.int .u64 (c0 : Int), .int .u64 (c1 : Int), .int .u64 (c2 : Int), .int .u64 (c3 : Int)], .int .u8 (b : Int)] w (HasIs (c0, c1, c2, c3) b w) := by
  have hget := word_get (c0, c1, c2, c3) (b / 64) (by omega)
  have hcw := word_lt hok (b / 64)
  have hbit := bit_has (word (c0, c1, c2, c3) (b / 64)) (b % 64) hcw
  have hfin : has (c0, c1, c2, c3) b = (word (c0, c1, c2, c3) (b / 64)).testBit (b % 64) := rfl
  rw [← hbit] at hfin
  dsimp only at hget
  have HF := Lib.hid hfin
  clear hfin hbit hok
  generalize word (c0, c1, c2, c3) (b / 64) = cw at *
  go_enter Tryd.func36, Tryd.ntmps36
  go_wp2
  go_ret
  exact ⟨by rw [HF.out]; rfl, (Below.refl _ _).alloc (Nat.le_refl _) _⟩

/-- The call hands back the class c. -/
def ClsIs (c : Cls) (w : World) (e : Ending) (w' : World) : Prop := ∃ d0 d1 d2 d3 : Nat, e = .returned (.agg #[.int .u64 (d0 : Int), .int .u64 (d1 : Int), .int .u64 (d2 : Int), .int .u64 (d3 : Int)]) ∧ (d0, d1, d2, d3) = c ∧ Below w.heap.size w w'
theorem ClsIs.of {c : Cls} {w w' : World} (h : Below w.heap.size w w') : ClsIs c w (.returned (clsV c)) w' := ⟨c.1, c.2.1, c.2.2.1, c.2.2.2, rfl, rfl, h⟩

theorem or_pow (a b : Nat) (ha : a < 18446744073709551616) : bits .or .u64 (a : Int) (IntKind.u64.wrap (2 ^ (b % 64))) = ((a ||| 2 ^ (b % 64) : Nat) : Int) := by
  have hp := pow_lt64 b
  have e : IntKind.u64.wrap (2 ^ (b % 64)) = ((2 ^ (b % 64) : Nat) : Int) := by
    rw [IntKind.wrap_u64]
    have : (2 : Int) ^ (b % 64) = ((2 ^ (b % 64) : Nat) : Int) := by simp
    rw [this]
    generalize 2 ^ (b % 64) = p at *
    omega
  rw [e, u64_or_nat _ _ ha hp]

set_option maxRecDepth 100000 in
set_option maxHeartbeats 1000000 in
theorem with_any (c0 c1 c2 c3 b : Nat) (w : World) (hok : okC (c0, c1, c2, c3)) (hb : b < 256) :
    Calls Tryd.prog 60 #[.agg #[.int .u64 (c0 : Int), .int .u64 (c1 : Int), .int .u64 (c2 : Int), .int .u64 (c3 : Int)], .int .u8 (b : Int)] w (ClsIs (withB (c0, c1, c2, c3) b) w) := by
  obtain ⟨h0, h1, h2, h3⟩ := hok
  have q4 : b / 64 = 0 ∨ b / 64 = 1 ∨ b / 64 = 2 ∨ b / 64 = 3 := by omega
  have e0 := or_pow c0 b h0
  have e1 := or_pow c1 b h1
  have e2 := or_pow c2 b h2
  have e3 := or_pow c3 b h3
  have E0 := Lib.hid e0
  have E1 := Lib.hid e1
  have E2 := Lib.hid e2
  have E3 := Lib.hid e3
  clear e0 e1 e2 e3 h0 h1 h2 h3
  rcases q4 with hq | hq | hq | hq
  all_goals
    have hfin : clsV (withB (c0, c1, c2, c3) b) = clsV (withB (c0, c1, c2, c3) b) := rfl
    conv at hfin => rhs; unfold clsV withB; simp only [hq]
    simp at hfin
    have HF := Lib.hid hfin
    clear hfin
    go_enter Tryd.func60, Tryd.ntmps60
    go_wp2
    refine bodyPost_ret (v := clsV (withB (c0, c1, c2, c3) b)) ?_ rfl (ClsIs.of (((Below.refl _ _).alloc (Nat.le_refl _) _).alloc (by simp) _))
    rw [HF.out]
    simp [results, Tryd.results60, go_sem, E0.out, E1.out, E2.out, E3.out]

def clsA (c : Cls) : Array Value := #[.int .u64 (c.1 : Int), .int .u64 (c.2.1 : Int), .int .u64 (c.2.2.1 : Int), .int .u64 (c.2.2.2 : Int)]

theorem bytes_take (s : ByteArray) (k : Nat) (h : k < s.size) : s.data.toList.take (k + 1) = s.data.toList.take k ++ [s[k]] := by
  rw [List.take_succ_eq_append_getElem (by simpa using h)]; rfl

theorem Blk4 {w : World} {g : Nat} {t : TypeId} {a b c d : Value} (h : Blk w g t #[a, b, c, d]) :
    (w.cell? ⟨g, 0, none⟩ = some a ∧ w.cell? ⟨g, 1, none⟩ = some b ∧ w.cell? ⟨g, 2, none⟩ = some c ∧ w.cell? ⟨g, 3, none⟩ = some d) ∧
      (w.frozen? ⟨g, 0, none⟩ = false ∧ w.frozen? ⟨g, 1, none⟩ = false ∧ w.frozen? ⟨g, 2, none⟩ = false ∧ w.frozen? ⟨g, 3, none⟩ = false) :=
  ⟨⟨h.cell 0, h.cell 1, h.cell 2, h.cell 3⟩, h.frozen 0, h.frozen 1, h.frozen 2, h.frozen 3⟩

theorem Blk4_set {w : World} {g : Nat} {t : TypeId} {a b c d : Value} (h : Blk w g t #[a, b, c, d]) (a' b' c' d' : Value) :
    Blk ((((w.setCell ⟨g, 0, none⟩ a').setCell ⟨g, 1, none⟩ b').setCell ⟨g, 2, none⟩ c').setCell ⟨g, 3, none⟩ d') g t #[a', b', c', d'] :=
  (((h.set_ 0 a').set_ 1 b').set_ 2 c').set_ 3 d'

set_option maxRecDepth 100000 in
set_option maxHeartbeats 4000000 in
theorem Of_any (s : ByteArray) (w : World) (hs : s.size ≤ 9223372036854775807) :
    Calls Tryd.prog 27 #[.string s] w (ClsIs (ofL s.data.toList zc) w) := by
  go_enter Tryd.func27, Tryd.ntmps27
  go_wp2
  go_loopw [7] (fun v7 wr => ∃ (k : Nat) (c0 c1 c2 c3 : Nat), k ≤ s.size ∧ v7 = .int .i64 (k : Int) ∧ okC (c0, c1, c2, c3) ∧ Hid ((c0, c1, c2, c3) = ofL (s.data.toList.take k) zc) ∧
      Blk wr (w.heap.size + 1) 54 #[.int .u64 (c0 : Int), .int .u64 (c1 : Int), .int .u64 (c2 : Int), .int .u64 (c3 : Int)] ∧ (∃ d, Blk wr w.heap.size 54 #[.int .u64 0, .int .u64 0, .int .u64 0, .int .u64 d]) ∧ Below w.heap.size w wr) (fun i _ => s.size - (intOf i).toNat)
  case atStart => exact ⟨0, 0, 0, 0, 0, by omega, rfl, okC_zc, Lib.hid rfl, by have h := Blk.new (w.alloc (.cells #[.int .u64 0, .int .u64 0, .int .u64 0, .int .u64 0] 54)) 54 #[.int .u64 0, .int .u64 0, .int .u64 0, .int .u64 0]; simpa using h, ⟨0, (Blk.new _ _ _).alloc _⟩, ((Below.refl _ _).alloc (Nat.le_refl _) _).alloc (by simp) _⟩
  case round =>
    obtain ⟨k, c0, c1, c2, c3, hk, rfl, hok, hc, hblk, ⟨d, hblk0⟩, hb⟩ := hrel
    by_cases hlt : k < s.size
    · have hsz := hblk.lt
      have hbyte : (s[k].toNat : Int) < 256 := by have := s[k].toNat_lt; omega
      have hbyte' : s[k].toNat < 256 := s[k].toNat_lt
      obtain ⟨⟨x0, x1, x2, x3⟩, y0, y1, y2, y3⟩ := Blk4 hblk
      have hnext : withB (c0, c1, c2, c3) s[k].toNat = ofL (s.data.toList.take (k + 1)) zc := by rw [bytes_take s k hlt, ofL_snoc, hc.out]
      have HN := Lib.hid hnext
      have hokn := Lib.hid (okC_with hok s[k].toNat)
      have HOK := Lib.hid hok
      have HB := Lib.hid hblk
      have HB0 := Lib.hid hblk0
      have HBB := Lib.hid hb
      have hsz2 := hb.size
      clear hnext hok hblk hblk0 hb hc
      have hk0 : (0 : Int) ≤ (k : Int) := by omega
      have hk1 : (k : Int) < (s.size : Int) := by omega
      go_wp2_with fail
      go_region_with (first
          | (go_at_call 60; refine (with_any c0 c1 c2 c3 s[k].toNat _ HOK.out hbyte').mono ?_; rintro e w1 ⟨d0, d1, d2, d3, rfl, hd, hb1⟩; have HD := Lib.hid hd; have hbx : Below wr.heap.size wr w1 := ((Below.refl wr.heap.size wr).drew).trans hb1; have hblk1 := HB.out.kept hbx; obtain ⟨⟨x0, x1, x2, x3⟩, y0, y1, y2, y3⟩ := Blk4 hblk1; have HB1 := Lib.hid hblk1; have hsz1 := hbx.size; have HBL := Lib.hid hbx; clear hd hblk1 hb1 hbx))
      all_goals (
        go_wp2
        go_roundw
        case rel =>
          have hok' := hokn.out
          rw [← HD.out] at hok'
          refine ⟨k + 1, d0, d1, d2, d3, by omega, by go_num, hok', Lib.hid (by rw [HD.out, HN.out]), Blk4_set HB1.out _ _ _ _, ?_, ?_⟩
          · refine ⟨d, ((((HB0.out.kept HBL.out).far ?_ _).far ?_ _).far ?_ _).far ?_ _⟩ <;> simp
          · exact ((((HBB.out.trans (HBL.out.mono hsz2)).setCell (by simp) _).setCell (by simp) _).setCell (by simp) _).setCell (by simp) _
        case measure => simp [intOf]; omega)
    · obtain rfl : k = s.size := by omega
      obtain ⟨⟨x0, x1, x2, x3⟩, y0, y1, y2, y3⟩ := Blk4 hblk
      obtain ⟨⟨z0, z1, z2, z3⟩, t0, t1, t2, t3⟩ := Blk4 hblk0
      have hfin : (c0, c1, c2, c3) = ofL s.data.toList zc := by rw [hc.out, List.take_of_length_le (by simp)]
      have HF := Lib.hid hfin
      have HB := Lib.hid hb
      have HB0 := Lib.hid hblk0
      clear hfin hc hb hblk hblk0 hok
      go_wp2
      refine bodyPost_ret (v := clsV (ofL s.data.toList zc)) ?_ rfl (ClsIs.of ?_)
      · rw [← HF.out]
        have h4 := (Blk4 (Blk4_set HB0.out (.int .u64 c0) (.int .u64 c1) (.int .u64 c2) (.int .u64 c3))).1
        obtain ⟨h0, h1, h2, h3⟩ := h4
        simp [results, Tryd.results27, go_sem, clsV, h0, h1, h2, h3]
      · exact (((HB.out.setCell (Nat.le_refl _) _).setCell (Nat.le_refl _) _).setCell (Nat.le_refl _) _).setCell (Nat.le_refl _) _

end Go.Proofs.YthcahjnniendnabDoor
