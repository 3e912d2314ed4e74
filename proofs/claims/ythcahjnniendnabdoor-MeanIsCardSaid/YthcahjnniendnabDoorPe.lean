/-
  Plain facts: the end of a part as the document reckons it; the check node by node. No program in sight.
-/
import Derived.Test.YthcahjnniendnabDoorPc
namespace Wf

open Classical in
/-- The end of the part at place i; -1 if there is none. -/
noncomputable def eo (l : List Nd) (i : Nat) : Int := if h : ∃ u, At l i u then ((i + (flat (choose h)).length : Nat) : Int) else -1
theorem eo_at {l : List Nd} {i : Nat} {u : Rx} (h : At l i u) : eo l i = ((i + (flat u).length : Nat) : Int) := by
  have hex : ∃ u, At l i u := ⟨u, h⟩
  unfold eo
  rw [dif_pos hex, (Classical.choose_spec hex).inj h]
theorem eo_none {l : List Nd} {i : Nat} (h : ¬ ∃ u, At l i u) : eo l i = -1 := by
  unfold eo
  rw [dif_neg h]
theorem eo_le (l : List Nd) (i : Nat) : eo l i ≤ l.length := by
  by_cases h : ∃ u, At l i u
  · obtain ⟨u, hu⟩ := h
    rw [eo_at hu]
    have := hu.lt
    omega
  · rw [eo_none h]; omega
theorem eo_ge (l : List Nd) (i : Nat) : eo l i = -1 ∨ (i : Int) < eo l i := by
  by_cases h : ∃ u, At l i u
  · obtain ⟨u, hu⟩ := h
    rw [eo_at hu]
    have := flat_pos u
    omega
  · exact .inl (eo_none h)

/-- The end of so many parts from a place on. -/
noncomputable def eoN (l : List Nd) : Nat → Int → Int
  | 0, c => c
  | n + 1, c => if c < 0 then c else eoN l n (eo l c.toNat)
theorem eoN_neg (l : List Nd) (n : Nat) (c : Int) (h : c < 0) : eoN l n c = c := by
  cases n with
  | zero => rfl
  | succ n => simp only [eoN, if_pos h]

theorem drop_at {l : List Nd} {i : Nat} {n : Nd} (h : l[i]? = some n) : l.drop i = n :: l.drop (i + 1) := by
  obtain ⟨hi, he⟩ := List.getElem?_eq_some_iff.1 h
  rw [List.drop_eq_getElem_cons hi, he]
theorem At.mk0 {l : List Nd} {i : Nat} {n : Nd} {u : Rx} (h : l[i]? = some n) (hf : flat u = [n]) : At l i u := ⟨l.drop (i + 1), by rw [drop_at h, hf]; rfl⟩
theorem At.mk1 {l : List Nd} {i : Nat} {n : Nd} {u a : Rx} (h : l[i]? = some n) (ha : At l (i + 1) a) (hf : flat u = n :: flat a) : At l i u := by
  obtain ⟨r, hr⟩ := ha
  exact ⟨r, by rw [drop_at h, hr, hf]; rfl⟩
theorem At.mk2 {l : List Nd} {i : Nat} {n : Nd} {u a b : Rx} (h : l[i]? = some n) (ha : At l (i + 1) a) (hb : At l (i + 1 + (flat a).length) b) (hf : flat u = n :: (flat a ++ flat b)) : At l i u := by
  obtain ⟨r, hr⟩ := ha
  obtain ⟨q, hq⟩ := hb
  refine ⟨q, ?_⟩
  have h2 : l.drop (i + 1 + (flat a).length) = r := by rw [← List.drop_drop, hr, List.drop_left]
  rw [hq] at h2
  rw [drop_at h, hr, ← h2, hf]
  simp

theorem eo_one {l : List Nd} {i : Nat} (mk : ∀ a, At l (i + 1) a → ∃ u, At l i u ∧ (flat u).length = 1 + (flat a).length) (op : ∀ u, At l i u → ∃ a, At l (i + 1) a) : eo l i = eoN l 1 ((i + 1 : Nat) : Int) := by
  simp only [eoN]
  rw [if_neg (by omega)]
  simp only [Int.toNat_natCast]
  by_cases h : ∃ a, At l (i + 1) a
  · obtain ⟨a, ha⟩ := h
    obtain ⟨u, hu, hl⟩ := mk a ha
    rw [eo_at hu, eo_at ha]
    omega
  · rw [eo_none h, eo_none]
    rintro ⟨u, hu⟩
    exact h (op u hu)
theorem eo_two {l : List Nd} {i : Nat} (mk : ∀ a b, At l (i + 1) a → At l (i + 1 + (flat a).length) b → ∃ u, At l i u ∧ (flat u).length = 1 + (flat a).length + (flat b).length)
    (op : ∀ u, At l i u → ∃ a b, At l (i + 1) a ∧ At l (i + 1 + (flat a).length) b) : eo l i = eoN l 2 ((i + 1 : Nat) : Int) := by
  simp only [eoN]
  rw [if_neg (by omega)]
  simp only [Int.toNat_natCast]
  by_cases h : ∃ a, At l (i + 1) a
  · obtain ⟨a, ha⟩ := h
    rw [eo_at ha, if_neg (by omega)]
    simp only [Int.toNat_natCast]
    by_cases h2 : ∃ b, At l (i + 1 + (flat a).length) b
    · obtain ⟨b, hb⟩ := h2
      obtain ⟨u, hu, hl⟩ := mk a b ha hb
      rw [eo_at hu, eo_at hb]
      omega
    · rw [eo_none h2, eo_none]
      rintro ⟨u, hu⟩
      obtain ⟨a', b', ha', hb'⟩ := op u hu
      rw [ha'.inj ha] at hb'
      exact h2 ⟨b', hb'⟩
  · rw [eo_none h, if_pos (by omega), eo_none]
    rintro ⟨u, hu⟩
    obtain ⟨a', _, ha', _⟩ := op u hu
    exact h ⟨a', ha'⟩

theorem at_op {l : List Nd} {i : Nat} {u : Rx} (h : At l i u) : ∃ n r, l[i]? = some n ∧ flat u = n :: r := by
  obtain ⟨rest, hr⟩ := h
  cases hf : flat u with
  | nil => have := flat_pos u; rw [hf] at this; simp at this
  | cons n r =>
    refine ⟨n, r, ?_, rfl⟩
    rw [hf] at hr
    have h2 : (l.drop i)[0]? = some n := by rw [hr]; rfl
    simpa using h2

/-- One step: the end of the part at a node is the end of its parts. -/
theorem eo_step {l : List Nd} {i : Nat} {n : Nd} (h : l[i]? = some n) (hg : good n) : eo l i = eoN l (parts n.op) ((i + 1 : Nat) : Int) := by
  obtain ⟨op, c⟩ := n
  obtain ⟨h1, h2, h3⟩ := hg
  simp only at h1 h2 h3
  have leaf : ∀ u, flat u = [⟨op, c⟩] → parts op = 0 → eo l i = eoN l (parts op) ((i + 1 : Nat) : Int) := fun u hf hp => by
    rw [hp]
    simp only [eoN]
    rw [eo_at (At.mk0 h hf), hf]
    rfl
  by_cases e1 : op = 1
  · subst e1; exact leaf (.byte c) rfl (by simp [parts])
  have hc : c = zc := h3.resolve_left e1
  subst hc
  have hop : op = 2 ∨ op = 3 ∨ op = 4 ∨ op = 5 ∨ op = 6 ∨ op = 7 ∨ op = 8 ∨ op = 9 := by omega
  rcases hop with rfl | rfl | rfl | rfl | rfl | rfl | rfl | rfl
  · exact leaf .empty rfl (by simp [parts])
  · have hp : parts 3 = 2 := by simp [parts]
    rw [hp]
    refine eo_two (fun a b ha hb => ⟨.cat a b, At.mk2 h ha hb rfl, by simp [flat]; omega⟩) (fun u hu => ?_)
    obtain ⟨n', r, hn', hf⟩ := at_op hu
    rw [h] at hn'
    cases hn'
    cases u <;> simp [flat] at hf
    exact ⟨_, _, hu.cat.2.1, hu.cat.2.2⟩
  · have hp : parts 4 = 2 := by simp [parts]
    rw [hp]
    refine eo_two (fun a b ha hb => ⟨.alt a b, At.mk2 h ha hb rfl, by simp [flat]; omega⟩) (fun u hu => ?_)
    obtain ⟨n', r, hn', hf⟩ := at_op hu
    rw [h] at hn'
    cases hn'
    cases u <;> simp [flat] at hf
    exact ⟨_, _, hu.alt.2.1, hu.alt.2.2⟩
  · have hp : parts 5 = 1 := by simp [parts]
    rw [hp]
    refine eo_one (fun a ha => ⟨.star a, At.mk1 h ha rfl, by simp [flat]; omega⟩) (fun u hu => ?_)
    obtain ⟨n', r, hn', hf⟩ := at_op hu
    rw [h] at hn'
    cases hn'
    cases u <;> simp [flat] at hf
    exact ⟨_, hu.star.2⟩
  · have hp : parts 6 = 1 := by simp [parts]
    rw [hp]
    refine eo_one (fun a ha => ⟨.plus a, At.mk1 h ha rfl, by simp [flat]; omega⟩) (fun u hu => ?_)
    obtain ⟨n', r, hn', hf⟩ := at_op hu
    rw [h] at hn'
    cases hn'
    cases u <;> simp [flat] at hf
    exact ⟨_, hu.plus.2⟩
  · have hp : parts 7 = 1 := by simp [parts]
    rw [hp]
    refine eo_one (fun a ha => ⟨.opt a, At.mk1 h ha rfl, by simp [flat]; omega⟩) (fun u hu => ?_)
    obtain ⟨n', r, hn', hf⟩ := at_op hu
    rw [h] at hn'
    cases hn'
    cases u <;> simp [flat] at hf
    exact ⟨_, hu.opt.2⟩
  · exact leaf .bgn rfl (by simp [parts])
  · exact leaf .fin rfl (by simp [parts])

/-- The first fault of a node. -/
def chkN : List Nd → Int
  | [] => 0
  | n :: r => if n.op < 1 ∨ 9 < n.op then 1 else if n.op ≠ 1 ∧ n.cls ≠ zc then 2 else chkN r
theorem chkN_good {l : List Nd} (h : chkN l = 0) : ∀ n ∈ l, good n := by
  induction l with
  | nil => intro n hn; cases hn
  | cons a r ih =>
    simp only [chkN] at h
    split at h
    · omega
    · split at h
      · omega
      · rename_i h1 h2
        intro n hn
        rcases List.mem_cons.1 hn with rfl | hn
        · refine ⟨by omega, by omega, ?_⟩
          by_cases e : n.op = 1
          · exact .inl e
          · exact .inr (Classical.byContradiction fun hc => h2 ⟨e, hc⟩)
        · exact ih h n hn
theorem chkLoop_err (l : List Nd) : ∀ need whole, chkN l ≠ 0 → chkLoop l need whole = chkN l := by
  induction l with
  | nil => intro need whole h; exact absurd rfl h
  | cons a r ih =>
    intro need whole h
    simp only [chkN, chkLoop] at h ⊢
    split
    · rfl
    · rename_i h1
      rw [if_neg h1] at h
      split
      · rfl
      · rename_i h2
        rw [if_neg h2] at h
        exact ih _ _ h
theorem chkLoop_shape (l : List Nd) : ∀ need whole, chkN l = 0 → chkLoop l need whole = 0 ∨ chkLoop l need whole = 2 := by
  induction l with
  | nil => intro need whole _; simp only [chkLoop]; split <;> simp
  | cons a r ih =>
    intro need whole h
    simp only [chkN, chkLoop] at h ⊢
    split at h
    · omega
    · rename_i h1
      rw [if_neg h1]
      split at h
      · omega
      · rename_i h2
        rw [if_neg h2]
        exact ih _ _ h
/-- The check as the document says it. -/
noncomputable def chkF (l : List Nd) : Int := if 60 < l.length then 3 else if chkN l ≠ 0 then chkN l else if l.length = 0 ∨ eo l 0 ≠ (l.length : Int) then 2 else 0
theorem chkF_chk (l : List Nd) : chkF l = chk l := by
  unfold chkF
  by_cases h60 : 60 < l.length
  · unfold chk; rw [if_pos h60, if_pos h60]
  rw [if_neg h60]
  by_cases hN : chkN l = 0
  · rw [if_neg (by simpa using hN)]
    have hs := chkLoop_shape l 1 true hN
    have he : chk l = chkLoop l 1 true := by unfold chk; rw [if_neg h60]
    by_cases hz : chk l = 0
    · obtain ⟨_, t, ht⟩ := chk_tree hz
      have hat : At l 0 t := by rw [ht]; exact At.whole t
      rw [hz, if_neg]
      rintro (h0 | h0)
      · have := flat_pos t; rw [← ht] at this; omega
      · rw [eo_at hat, ← ht] at h0; simp at h0
    · have h2 : chk l = 2 := by rw [he] at hz ⊢; omega
      rw [h2]
      by_cases hcond : l.length = 0 ∨ eo l 0 ≠ (l.length : Int)
      · rw [if_pos hcond]
      · exfalso
        have heq : eo l 0 = (l.length : Int) := Classical.byContradiction fun h => hcond (.inr h)
        have hex : ∃ u, At l 0 u := Classical.byContradiction fun h => by rw [eo_none h] at heq; omega
        obtain ⟨u, hu⟩ := hex
        rw [eo_at hu] at heq
        obtain ⟨r, hr⟩ := hu
        have hl := congrArg List.length hr
        simp at hl
        have hr0 : r = [] := List.length_eq_zero_iff.1 (by omega)
        rw [hr0] at hr
        simp at hr
        exact hz (by rw [hr]; exact chk_flat u (by rw [← hr]; omega))
  · rw [if_pos hN]
    unfold chk
    rw [if_neg h60, chkLoop_err l 1 true hN]

end Wf
