/-
  Plain facts about patterns: trees, their rows of nodes, the check, the ends of parts, what may be nothing, turning. No program in sight.
-/
namespace Wf

/-- A class: four numbers. -/
abbrev Cls := Nat × Nat × Nat × Nat

structure Nd where
  op : Int
  cls : Cls

def zc : Cls := (0, 0, 0, 0)

inductive Rx where
  | byte (c : Cls)
  | empty
  | cat (a b : Rx)
  | alt (a b : Rx)
  | star (a : Rx)
  | plus (a : Rx)
  | opt (a : Rx)
  | bgn
  | fin

def flat : Rx → List Nd
  | .byte c => [⟨1, c⟩]
  | .empty => [⟨2, zc⟩]
  | .cat a b => ⟨3, zc⟩ :: (flat a ++ flat b)
  | .alt a b => ⟨4, zc⟩ :: (flat a ++ flat b)
  | .star a => ⟨5, zc⟩ :: flat a
  | .plus a => ⟨6, zc⟩ :: flat a
  | .opt a => ⟨7, zc⟩ :: flat a
  | .bgn => [⟨8, zc⟩]
  | .fin => [⟨9, zc⟩]

theorem flat_pos (t : Rx) : 0 < (flat t).length := by cases t <;> simp [flat]

/-- How many parts a node has. -/
def parts (op : Int) : Nat := if op = 3 ∨ op = 4 then 2 else if op = 5 ∨ op = 6 ∨ op = 7 then 1 else 0

theorem parts_le (op : Int) : parts op ≤ 2 := by unfold parts; split <;> (try split) <;> omega

def chkLoop : List Nd → Int → Bool → Int
  | [], need, whole => if whole = true ∧ need = 0 then 0 else 2
  | n :: r, need, whole =>
    if n.op < 1 ∨ 9 < n.op then 1
    else if n.op ≠ 1 ∧ n.cls ≠ zc then 2
    else chkLoop r (need + ((parts n.op : Int) - 1)) (whole && decide (0 < need))

def chk (l : List Nd) : Int := if 60 < l.length then 3 else chkLoop l 1 true

theorem chkLoop_false (l : List Nd) : ∀ need, chkLoop l need false ≠ 0 := by
  induction l with
  | nil => intro need; simp [chkLoop]
  | cons n r ih =>
    intro need
    unfold chkLoop
    split
    · omega
    · split
      · omega
      · simpa using ih _

/-- A node that may be: its op and its class go together. -/
def good (n : Nd) : Prop := 1 ≤ n.op ∧ n.op ≤ 9 ∧ (n.op = 1 ∨ n.cls = zc)

theorem node_tree (n : Nd) (hg : good n) (ts : List Rx) (h : parts n.op ≤ ts.length) :
    ∃ (t : Rx) (ts' : List Rx), n :: ts.flatMap flat = flat t ++ ts'.flatMap flat ∧ ts'.length + parts n.op = ts.length := by
  obtain ⟨op, c⟩ := n
  obtain ⟨h1, h2, h3⟩ := hg
  simp only at h1 h2 h3 h ⊢
  by_cases e1 : op = 1
  · subst e1; exact ⟨.byte c, ts, by simp [flat], by simp [parts]⟩
  have hc : c = zc := by exact h3.resolve_left e1
  subst hc
  by_cases e2 : op = 2
  · subst e2; exact ⟨.empty, ts, by simp [flat], by simp [parts]⟩
  by_cases e8 : op = 8
  · subst e8; exact ⟨.bgn, ts, by simp [flat], by simp [parts]⟩
  by_cases e9 : op = 9
  · subst e9; exact ⟨.fin, ts, by simp [flat], by simp [parts]⟩
  by_cases e34 : op = 3 ∨ op = 4
  · have hp : parts op = 2 := by simp [parts, e34]
    rw [hp] at h ⊢
    match ts, h with
    | a :: b :: ts', _ =>
      rcases e34 with rfl | rfl
      · exact ⟨.cat a b, ts', by simp [flat], by simp⟩
      · exact ⟨.alt a b, ts', by simp [flat], by simp⟩
  · have e567 : op = 5 ∨ op = 6 ∨ op = 7 := by omega
    have hp : parts op = 1 := by unfold parts; rw [if_neg e34, if_pos e567]
    rw [hp] at h ⊢
    match ts, h with
    | a :: ts', _ =>
      rcases e567 with rfl | rfl | rfl
      · exact ⟨.star a, ts', by simp [flat], by simp⟩
      · exact ⟨.plus a, ts', by simp [flat], by simp⟩
      · exact ⟨.opt a, ts', by simp [flat], by simp⟩

theorem chkLoop_trees (l : List Nd) : ∀ k : Nat, chkLoop l k true = 0 → ∃ ts : List Rx, ts.length = k ∧ l = ts.flatMap flat := by
  induction l with
  | nil =>
    intro k h
    simp only [chkLoop] at h
    split at h
    · rename_i hk; exact ⟨[], by simp at hk ⊢; omega, rfl⟩
    · omega
  | cons n r ih =>
    intro k h
    unfold chkLoop at h
    split at h
    · omega
    · split at h
      · omega
      · rename_i h1 h2
        by_cases hk : 0 < k
        · have e1 : (decide ((0 : Int) < (k : Int))) = true := by simpa using hk
          have e2 : (k : Int) + ((parts n.op : Int) - 1) = ((k - 1 + parts n.op : Nat) : Int) := by omega
          rw [e1, e2] at h
          obtain ⟨ts, hl, rfl⟩ := ih _ h
          have hg : good n := ⟨by omega, by omega, by
            by_cases e : n.op = 1
            · exact .inl e
            · exact .inr (Classical.byContradiction fun hc => h2 ⟨e, hc⟩)⟩
          obtain ⟨t, ts', h3, h4⟩ := node_tree n hg ts (by omega)
          exact ⟨t :: ts', by simp; omega, by simpa using h3⟩
        · have e1 : (decide ((0 : Int) < (k : Int))) = false := by simpa using hk
          rw [e1] at h
          exact absurd h (chkLoop_false _ _)

theorem chk_tree {l : List Nd} (h : chk l = 0) : l.length ≤ 60 ∧ ∃ t, l = flat t := by
  unfold chk at h
  split at h
  · omega
  · rename_i hl
    obtain ⟨ts, h1, h2⟩ := chkLoop_trees l 1 h
    refine ⟨by omega, ?_⟩
    match ts, h1 with
    | [t], _ => exact ⟨t, by simpa using h2⟩

theorem chkLoop_flat (t : Rx) : ∀ (r : List Nd) (need : Int), 0 < need → chkLoop (flat t ++ r) need true = chkLoop r (need - 1) true := by
  induction t with
  | byte c => intro r need h; simp [flat, chkLoop, parts, h, Int.sub_eq_add_neg]
  | empty => intro r need h; simp [flat, chkLoop, parts, h, zc, Int.sub_eq_add_neg]
  | bgn => intro r need h; simp [flat, chkLoop, parts, h, zc, Int.sub_eq_add_neg]
  | fin => intro r need h; simp [flat, chkLoop, parts, h, zc, Int.sub_eq_add_neg]
  | cat a b iha ihb =>
    intro r need h
    simp only [flat, List.cons_append, chkLoop, List.append_assoc]
    simp only [parts, zc]
    simp [h]
    rw [iha _ _ (by omega), ihb _ _ (by omega)]
    congr 1; omega
  | alt a b iha ihb =>
    intro r need h
    simp only [flat, List.cons_append, chkLoop, List.append_assoc]
    simp only [parts, zc]
    simp [h]
    rw [iha _ _ (by omega), ihb _ _ (by omega)]
    congr 1; omega
  | star a iha =>
    intro r need h
    simp only [flat, List.cons_append, chkLoop]
    simp only [parts, zc]
    simp [h]
    rw [iha _ _ (by omega)]
  | plus a iha =>
    intro r need h
    simp only [flat, List.cons_append, chkLoop]
    simp only [parts, zc]
    simp [h]
    rw [iha _ _ (by omega)]
  | opt a iha =>
    intro r need h
    simp only [flat, List.cons_append, chkLoop]
    simp only [parts, zc]
    simp [h]
    rw [iha _ _ (by omega)]

theorem chk_flat (t : Rx) (h : (flat t).length ≤ 60) : chk (flat t) = 0 := by
  unfold chk
  rw [if_neg (by omega)]
  have := chkLoop_flat t [] 1 (by omega)
  rw [List.append_nil] at this
  rw [this]
  simp [chkLoop]

theorem flat_inj (t : Rx) : ∀ (t' : Rx) (r r' : List Nd), flat t ++ r = flat t' ++ r' → t = t' ∧ r = r' := by
  induction t with
  | byte c => intro t' r r' h; cases t' <;> simp [flat] at h ⊢ <;> exact h
  | empty => intro t' r r' h; cases t' <;> simp [flat] at h ⊢ <;> exact h
  | bgn => intro t' r r' h; cases t' <;> simp [flat] at h ⊢ <;> exact h
  | fin => intro t' r r' h; cases t' <;> simp [flat] at h ⊢ <;> exact h
  | cat a b iha ihb =>
    intro t' r r' h
    cases t' <;> simp [flat] at h
    obtain ⟨e1, h1⟩ := iha _ _ _ h
    obtain ⟨e2, h2⟩ := ihb _ _ _ h1
    exact ⟨by rw [e1, e2], h2⟩
  | alt a b iha ihb =>
    intro t' r r' h
    cases t' <;> simp [flat] at h
    obtain ⟨e1, h1⟩ := iha _ _ _ h
    obtain ⟨e2, h2⟩ := ihb _ _ _ h1
    exact ⟨by rw [e1, e2], h2⟩
  | star a iha => intro t' r r' h; cases t' <;> simp [flat] at h; obtain ⟨e1, h1⟩ := iha _ _ _ h; exact ⟨by rw [e1], h1⟩
  | plus a iha => intro t' r r' h; cases t' <;> simp [flat] at h; obtain ⟨e1, h1⟩ := iha _ _ _ h; exact ⟨by rw [e1], h1⟩
  | opt a iha => intro t' r r' h; cases t' <;> simp [flat] at h; obtain ⟨e1, h1⟩ := iha _ _ _ h; exact ⟨by rw [e1], h1⟩

/-- At place i of the row the part u begins. -/
def At (l : List Nd) (i : Nat) (u : Rx) : Prop := ∃ rest, l.drop i = flat u ++ rest

theorem At.lt {l : List Nd} {i : Nat} {u : Rx} (h : At l i u) : i + (flat u).length ≤ l.length := by
  obtain ⟨rest, h⟩ := h
  have e := congrArg List.length h
  have := flat_pos u
  simp at e
  omega

theorem At.inj {l : List Nd} {i : Nat} {u v : Rx} (h : At l i u) (k : At l i v) : u = v := by
  obtain ⟨r, h⟩ := h
  obtain ⟨r', k⟩ := k
  exact (flat_inj u v r r' (by rw [← h, ← k])).1

theorem At.whole (t : Rx) : At (flat t) 0 t := ⟨[], by simp⟩

theorem drop_cons {l : List Nd} {i : Nat} {n : Nd} {r : List Nd} (h : l.drop i = n :: r) : l[i]? = some n ∧ l.drop (i + 1) = r := by
  constructor
  · rw [← List.head?_drop, h]; rfl
  · rw [← List.drop_drop, h]; rfl

theorem drop_app {l : List Nd} {i : Nat} {a r : List Nd} (h : l.drop i = a ++ r) : l.drop (i + a.length) = r := by
  rw [← List.drop_drop, h]; simp

theorem At.cat {l : List Nd} {i : Nat} {a b : Rx} (h : At l i (.cat a b)) : l[i]? = some ⟨3, zc⟩ ∧ At l (i + 1) a ∧ At l (i + 1 + (flat a).length) b := by
  obtain ⟨r, h⟩ := h
  simp only [flat, List.cons_append, List.append_assoc] at h
  obtain ⟨h1, h2⟩ := drop_cons h
  exact ⟨h1, ⟨_, h2⟩, ⟨_, drop_app h2⟩⟩

theorem At.alt {l : List Nd} {i : Nat} {a b : Rx} (h : At l i (.alt a b)) : l[i]? = some ⟨4, zc⟩ ∧ At l (i + 1) a ∧ At l (i + 1 + (flat a).length) b := by
  obtain ⟨r, h⟩ := h
  simp only [flat, List.cons_append, List.append_assoc] at h
  obtain ⟨h1, h2⟩ := drop_cons h
  exact ⟨h1, ⟨_, h2⟩, ⟨_, drop_app h2⟩⟩

theorem At.star {l : List Nd} {i : Nat} {a : Rx} (h : At l i (.star a)) : l[i]? = some ⟨5, zc⟩ ∧ At l (i + 1) a := by
  obtain ⟨r, h⟩ := h
  simp only [flat, List.cons_append] at h
  obtain ⟨h1, h2⟩ := drop_cons h
  exact ⟨h1, ⟨_, h2⟩⟩
theorem At.plus {l : List Nd} {i : Nat} {a : Rx} (h : At l i (.plus a)) : l[i]? = some ⟨6, zc⟩ ∧ At l (i + 1) a := by
  obtain ⟨r, h⟩ := h
  simp only [flat, List.cons_append] at h
  obtain ⟨h1, h2⟩ := drop_cons h
  exact ⟨h1, ⟨_, h2⟩⟩
theorem At.opt {l : List Nd} {i : Nat} {a : Rx} (h : At l i (.opt a)) : l[i]? = some ⟨7, zc⟩ ∧ At l (i + 1) a := by
  obtain ⟨r, h⟩ := h
  simp only [flat, List.cons_append] at h
  obtain ⟨h1, h2⟩ := drop_cons h
  exact ⟨h1, ⟨_, h2⟩⟩
theorem At.byte {l : List Nd} {i : Nat} {c : Cls} (h : At l i (.byte c)) : l[i]? = some ⟨1, c⟩ := by
  obtain ⟨r, h⟩ := h
  exact (drop_cons h).1
theorem At.empty {l : List Nd} {i : Nat} (h : At l i .empty) : l[i]? = some ⟨2, zc⟩ := by
  obtain ⟨r, h⟩ := h
  exact (drop_cons h).1
theorem At.bgn {l : List Nd} {i : Nat} (h : At l i .bgn) : l[i]? = some ⟨8, zc⟩ := by
  obtain ⟨r, h⟩ := h
  exact (drop_cons h).1
theorem At.fin {l : List Nd} {i : Nat} (h : At l i .fin) : l[i]? = some ⟨9, zc⟩ := by
  obtain ⟨r, h⟩ := h
  exact (drop_cons h).1

/-- Each place of a pattern's row begins a part. -/
theorem at_all (t : Rx) : ∀ (r : List Nd) (i : Nat), i < (flat t).length → ∃ u, At (flat t ++ r) i u := by
  have base : ∀ (n : Nd) (t : Rx), flat t = [n] → ∀ (r : List Nd) (i : Nat), i < (flat t).length → ∃ u, At (flat t ++ r) i u := by
    intro n t ht r i hi
    rw [ht] at hi
    obtain rfl : i = 0 := by simpa using hi
    exact ⟨t, r, by simp⟩
  have one : ∀ (n : Nd) (t a : Rx), flat t = n :: flat a → (∀ (r : List Nd) (i : Nat), i < (flat a).length → ∃ u, At (flat a ++ r) i u) →
      ∀ (r : List Nd) (i : Nat), i < (flat t).length → ∃ u, At (flat t ++ r) i u := by
    intro n t a ht ih r i hi
    rcases Nat.eq_zero_or_pos i with rfl | h0
    · exact ⟨t, r, by simp⟩
    · rw [ht] at hi ⊢
      obtain ⟨j, rfl⟩ : ∃ j, i = j + 1 := ⟨i - 1, by omega⟩
      obtain ⟨u, rest, h⟩ := ih r j (by simpa using hi)
      exact ⟨u, rest, by simpa using h⟩
  have two : ∀ (n : Nd) (t a b : Rx), flat t = n :: (flat a ++ flat b) → (∀ (r : List Nd) (i : Nat), i < (flat a).length → ∃ u, At (flat a ++ r) i u) →
      (∀ (r : List Nd) (i : Nat), i < (flat b).length → ∃ u, At (flat b ++ r) i u) →
      ∀ (r : List Nd) (i : Nat), i < (flat t).length → ∃ u, At (flat t ++ r) i u := by
    intro n t a b ht iha ihb r i hi
    rcases Nat.eq_zero_or_pos i with rfl | h0
    · exact ⟨t, r, by simp⟩
    · rw [ht] at hi ⊢
      obtain ⟨j, rfl⟩ : ∃ j, i = j + 1 := ⟨i - 1, by omega⟩
      simp at hi
      by_cases hj : j < (flat a).length
      · obtain ⟨u, rest, h⟩ := iha (flat b ++ r) j hj
        exact ⟨u, rest, by simpa using h⟩
      · obtain ⟨u, rest, h⟩ := ihb r (j - (flat a).length) (by omega)
        refine ⟨u, rest, ?_⟩
        rw [← h]
        simp only [List.cons_append, List.drop_succ_cons, List.append_assoc]
        rw [List.drop_append, List.drop_eq_nil_of_le (by omega)]
        simp
  induction t with
  | byte c => exact base _ _ rfl
  | empty => exact base _ _ rfl
  | bgn => exact base _ _ rfl
  | fin => exact base _ _ rfl
  | cat a b iha ihb => exact two _ _ a b rfl iha ihb
  | alt a b iha ihb => exact two _ _ a b rfl iha ihb
  | star a iha => exact one _ _ a rfl iha
  | plus a iha => exact one _ _ a rfl iha
  | opt a iha => exact one _ _ a rfl iha

theorem at_each (t : Rx) (i : Nat) (h : i < (flat t).length) : ∃ u, At (flat t) i u := by
  have := at_all t [] i h
  simpa using this

/-- The row of ends of a pattern's row. -/
def IsEnds (l : List Nd) (xs : List Nat) : Prop := xs.length = l.length ∧ ∀ i u, At l i u → xs[i]? = some (i + (flat u).length)

/-- May it be nothing? -/
def may : Rx → Bool
  | .byte _ => false
  | .cat a b => may a && may b
  | .alt a b => may a || may b
  | .plus a => may a
  | _ => true

def turnT : Rx → Rx
  | .cat a b => .cat (turnT b) (turnT a)
  | .alt a b => .alt (turnT a) (turnT b)
  | .star a => .star (turnT a)
  | .plus a => .plus (turnT a)
  | .opt a => .opt (turnT a)
  | .bgn => .fin
  | .fin => .bgn
  | .byte c => .byte c
  | .empty => .empty

theorem turn_turn (t : Rx) : turnT (turnT t) = t := by
  induction t <;> simp_all [turnT]
theorem turn_len (t : Rx) : (flat (turnT t)).length = (flat t).length := by
  induction t <;> simp_all [turnT, flat] <;> omega
theorem may_turn (t : Rx) : may (turnT t) = may t := by
  induction t <;> simp_all [turnT, may, Bool.and_comm]

/-- The parts of a part. -/
def kids : Rx → List Rx
  | .cat a b => [a, b]
  | .alt a b => [a, b]
  | .star a => [a]
  | .plus a => [a]
  | .opt a => [a]
  | _ => []

/-- How far behind a part's node its j-th part begins. -/
def pre (u : Rx) (j : Nat) : Nat := 1 + (((kids u).take j).flatMap flat).length

theorem pre_zero (u : Rx) : pre u 0 = 1 := by simp [pre]
theorem pre_all (u : Rx) : pre u (kids u).length = (flat u).length := by
  cases u <;> simp [pre, kids, flat] <;> omega
theorem pre_succ (u : Rx) (j : Nat) (v : Rx) (h : (kids u)[j]? = some v) : pre u (j + 1) = pre u j + (flat v).length := by
  unfold pre
  rw [List.take_add_one, h]
  simp
  omega
theorem At.kid {l : List Nd} {i : Nat} {u : Rx} (h : At l i u) (j : Nat) (v : Rx) (hj : (kids u)[j]? = some v) : At l (i + pre u j) v := by
  cases u with
  | byte c => simp [kids] at hj
  | empty => simp [kids] at hj
  | bgn => simp [kids] at hj
  | fin => simp [kids] at hj
  | cat a b =>
    obtain ⟨_, ha, hb⟩ := h.cat
    match j, hj with
    | 0, hj => simp [kids] at hj; subst hj; simpa [pre] using ha
    | 1, hj => simp [kids] at hj; subst hj; simpa [pre, kids, Nat.add_assoc] using hb
    | j + 2, hj => simp [kids] at hj
  | alt a b =>
    obtain ⟨_, ha, hb⟩ := h.alt
    match j, hj with
    | 0, hj => simp [kids] at hj; subst hj; simpa [pre] using ha
    | 1, hj => simp [kids] at hj; subst hj; simpa [pre, kids, Nat.add_assoc] using hb
    | j + 2, hj => simp [kids] at hj
  | star a =>
    obtain ⟨_, ha⟩ := h.star
    match j, hj with
    | 0, hj => simp [kids] at hj; subst hj; simpa [pre] using ha
    | j + 1, hj => simp [kids] at hj
  | plus a =>
    obtain ⟨_, ha⟩ := h.plus
    match j, hj with
    | 0, hj => simp [kids] at hj; subst hj; simpa [pre] using ha
    | j + 1, hj => simp [kids] at hj
  | opt a =>
    obtain ⟨_, ha⟩ := h.opt
    match j, hj with
    | 0, hj => simp [kids] at hj; subst hj; simpa [pre] using ha
    | j + 1, hj => simp [kids] at hj
theorem At.node {l : List Nd} {i : Nat} {u : Rx} (h : At l i u) : ∃ n, l[i]? = some n ∧ parts n.op = (kids u).length ∧ good n := by
  cases u with
  | byte c => exact ⟨_, h.byte, rfl, by simp [good]⟩
  | empty => exact ⟨_, h.empty, rfl, by simp [good]⟩
  | bgn => exact ⟨_, h.bgn, rfl, by simp [good]⟩
  | fin => exact ⟨_, h.fin, rfl, by simp [good]⟩
  | cat a b => exact ⟨_, h.cat.1, rfl, by simp [good]⟩
  | alt a b => exact ⟨_, h.alt.1, rfl, by simp [good]⟩
  | star a => exact ⟨_, h.star.1, rfl, by simp [good]⟩
  | plus a => exact ⟨_, h.plus.1, rfl, by simp [good]⟩
  | opt a => exact ⟨_, h.opt.1, rfl, by simp [good]⟩

end Wf
