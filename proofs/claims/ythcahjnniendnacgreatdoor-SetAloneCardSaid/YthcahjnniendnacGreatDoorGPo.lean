/-
  Po, TieP, Pi.
-/
import Derived.Test.YthcahjnniendnacGreatDoorGKn
import Derived.Test.YthcahjnniendnacGreatDoorGPx
import Derived.Test.YthcahjnniendnacGreatDoorMem
/-
  Plain: the beginnings of words while a net is made.
-/
namespace Wf

/-- The beginnings of the first words and of the next one's first letters. -/
def PreK (ws : List (List UInt8)) (i j : Nat) (u : List UInt8) : Prop := u = [] ∨ (∃ w ∈ ws.take i, u <+: w) ∨ ∃ w, ws[i]? = some w ∧ u <+: w.take j
theorem PreK_zero (ws : List (List UInt8)) (u : List UInt8) : PreK ws 0 0 u ↔ u = [] := by
  constructor
  · rintro (h | ⟨w, h, _⟩ | ⟨w, _, h⟩)
    · exact h
    · simp at h
    · simpa using h
  · exact .inl
theorem take_snoc {w : List UInt8} {j : Nat} {c : UInt8} (hc : w[j]? = some c) : w.take (j + 1) = w.take j ++ [c] := by
  rw [List.take_add_one, hc]
  rfl
theorem PreK_more {ws : List (List UInt8)} {i j : Nat} {w : List UInt8} {c : UInt8} (hw : ws[i]? = some w) (hc : w[j]? = some c) (u : List UInt8) : PreK ws i (j + 1) u ↔ PreK ws i j u ∨ u = w.take j ++ [c] := by
  constructor
  · rintro (h | h | ⟨w', h', h⟩)
    · exact .inl (.inl h)
    · exact .inl (.inr (.inl h))
    · obtain rfl : w = w' := Option.some.inj (hw.symm.trans h')
      rw [take_snoc hc] at h
      rcases List.prefix_concat_iff.1 (by simpa using h) with e | e
      · exact .inr (by simpa using e)
      · exact .inl (.inr (.inr ⟨w, hw, e⟩))
  · rintro ((h | h | ⟨w', h', h⟩) | h)
    · exact .inl h
    · exact .inr (.inl h)
    · obtain rfl : w = w' := Option.some.inj (hw.symm.trans h')
      exact .inr (.inr ⟨w, hw, by rw [take_snoc hc]; exact h.trans (List.prefix_append _ _)⟩)
    · exact .inr (.inr ⟨w, hw, by rw [take_snoc hc, h]; exact List.prefix_refl _⟩)
theorem PreK_next {ws : List (List UInt8)} {i : Nat} {w : List UInt8} (hw : ws[i]? = some w) (u : List UInt8) : PreK ws (i + 1) 0 u ↔ PreK ws i w.length u := by
  have ht : ws.take (i + 1) = ws.take i ++ [w] := by rw [List.take_add_one, hw]; rfl
  constructor
  · rintro (h | ⟨w', h', h⟩ | ⟨w', _, h⟩)
    · exact .inl h
    · rw [ht, List.mem_append, List.mem_singleton] at h'
      rcases h' with h' | rfl
      · exact .inr (.inl ⟨w', h', h⟩)
      · exact .inr (.inr ⟨w', hw, by rw [List.take_length]; exact h⟩)
    · exact .inl (by simpa using h)
  · rintro (h | ⟨w', h', h⟩ | ⟨w', h', h⟩)
    · exact .inl h
    · exact .inr (.inl ⟨w', by rw [ht, List.mem_append]; exact .inl h', h⟩)
    · obtain rfl : w = w' := Option.some.inj (hw.symm.trans h')
      rw [List.take_length] at h
      exact .inr (.inl ⟨w, by rw [ht]; simp, h⟩)
theorem PreK_end (ws : List (List UInt8)) (u : List UInt8) : PreK ws ws.length 0 u ↔ Knot ws u := by
  constructor
  · rintro (h | ⟨w, h', h⟩ | ⟨w, h', _⟩)
    · exact .inl h
    · rw [List.take_length] at h'
      exact .inr ⟨w, h', h⟩
    · rw [List.getElem?_eq_none (Nat.le_refl _)] at h'; cases h'
  · rintro (h | ⟨w, h', h⟩)
    · exact .inl h
    · exact .inr (.inl ⟨w, by rw [List.take_length]; exact h', h⟩)
end Wf

/-
  The queue's order while the knots are tied: who is dequeued, who waits, who is tied.
-/
namespace Wf

/-- D: dequeued knots; Q: those that wait; X: the beginnings that have come in besides the dequeued knots' children. -/
structure Walk (Ks D Q : List Kn) (X : List UInt8 → Prop) : Prop where
  dk : ∀ k ∈ D, k ∈ Ks
  qk : ∀ k ∈ Q, k ∈ Ks
  nd : (D ++ Q).Nodup
  td : ∀ t ∈ Ks, (t ∈ D ∨ t ∈ Q) ↔ (t.u = [] ∨ (∃ s ∈ D, ∃ c, t.u = s.u ++ [c]) ∨ X t.u)
  up : Q.Pairwise fun a b => a.u.length ≤ b.u.length
  near : ∀ d ∈ D, ∀ k ∈ Q, d.u.length ≤ k.u.length
  top : ∀ k, Q.head? = some k → ∀ t ∈ Q, t.u.length ≤ k.u.length + 1

theorem Walk.start {Ks : List Kn} {root : Kn} (hr : root ∈ Ks) (hu : root.u = []) (iu : ∀ s ∈ Ks, ∀ t ∈ Ks, s.u = t.u → s = t) : Walk Ks [] [root] (fun _ => False) := by
  refine ⟨by simp, by simpa using hr, by simp, fun t ht => ?_, by simp, by simp, ?_⟩
  · simp
    exact ⟨fun e => by rw [e]; exact hu, fun e => iu t ht root hr (e.trans hu.symm)⟩
  · intro k hk t ht
    simp at hk ht
    rw [ht, hk]
    omega

/-- Whatever is no longer than the head is tied. -/
theorem Walk.all {Ks D Q : List Kn} {X : List UInt8 → Prop} {k : Kn} (h : Walk Ks D (k :: Q) X) (par : ∀ t ∈ Ks, t.u ≠ [] → ∃ s ∈ Ks, ∃ c, t.u = s.u ++ [c]) : ∀ t ∈ Ks, t.u.length ≤ k.u.length → t ∈ D ∨ t ∈ k :: Q := by
  have key : ∀ n, ∀ t ∈ Ks, t.u.length = n → t.u.length ≤ k.u.length → t ∈ D ∨ t ∈ k :: Q := by
    intro n
    induction n using Nat.strongRecOn with
    | _ n ih =>
      intro t ht hn hl
      refine (h.td t ht).2 ?_
      by_cases hu : t.u = []
      · exact .inl hu
      · obtain ⟨s, hs, c, hc⟩ := par t ht hu
        have hlen : t.u.length = s.u.length + 1 := by rw [hc]; simp
        refine .inr (.inl ⟨s, ?_, c, hc⟩)
        rcases ih s.u.length (by omega) s hs rfl (by omega) with hd | hq
        · exact hd
        · exfalso
          rcases List.mem_cons.1 hq with rfl | hq
          · omega
          · have := (List.pairwise_cons.1 h.up).1 s hq
            omega
  exact fun t ht hl => key _ t ht rfl hl

/-- A child of the head comes in. -/
theorem Walk.more {Ks D Q : List Kn} {X : List UInt8 → Prop} {k m : Kn} {c : UInt8} (h : Walk Ks D (k :: Q) X) (hm : m ∈ Ks) (hmu : m.u = k.u ++ [c]) (hn : ¬ (m ∈ D ∨ m ∈ k :: Q)) (iu : ∀ s ∈ Ks, ∀ t ∈ Ks, s.u = t.u → s = t) :
    Walk Ks D (k :: (Q ++ [m])) (fun u => X u ∨ u = k.u ++ [c]) := by
  have hml : m.u.length = k.u.length + 1 := by rw [hmu]; simp
  have e : D ++ k :: (Q ++ [m]) = (D ++ k :: Q) ++ [m] := by simp
  refine ⟨h.dk, fun t ht => ?_, ?_, fun t ht => ?_, ?_, fun d hd t ht => ?_, fun r hr t ht => ?_⟩
  · rcases List.mem_cons.1 ht with rfl | ht
    · exact h.qk _ (List.mem_cons_self ..)
    · rcases List.mem_append.1 ht with ht | ht
      · exact h.qk _ (List.mem_cons_of_mem _ ht)
      · rw [List.mem_singleton.1 ht]; exact hm
  · rw [e, List.nodup_append]
    refine ⟨h.nd, by simp, fun a ha b hb => ?_⟩
    rw [List.mem_singleton.1 hb]
    rintro rfl
    exact hn (List.mem_append.1 ha)
  · have h1 : (t ∈ D ∨ t ∈ k :: (Q ++ [m])) ↔ (t ∈ D ∨ t ∈ k :: Q) ∨ t = m := by
      simp only [List.mem_cons, List.mem_append, List.not_mem_nil, or_false]
      constructor
      · rintro (h | h | h | h)
        · exact .inl (.inl h)
        · exact .inl (.inr (.inl h))
        · exact .inl (.inr (.inr h))
        · exact .inr h
      · rintro ((h | h | h) | h)
        · exact .inl h
        · exact .inr (.inl h)
        · exact .inr (.inr (.inl h))
        · exact .inr (.inr (.inr h))
    have h2 : t = m ↔ t.u = k.u ++ [c] := ⟨fun e => by rw [e]; exact hmu, fun e => iu t ht m hm (e.trans hmu.symm)⟩
    rw [h1, h.td t ht, h2]
    constructor
    · rintro ((h | h | h) | h)
      · exact .inl h
      · exact .inr (.inl h)
      · exact .inr (.inr (.inl h))
      · exact .inr (.inr (.inr h))
    · rintro (h | h | h | h)
      · exact .inl (.inl h)
      · exact .inl (.inr (.inl h))
      · exact .inl (.inr (.inr h))
      · exact .inr h
  · rw [← List.cons_append, List.pairwise_append]
    refine ⟨h.up, by simp, fun a ha b hb => ?_⟩
    rw [List.mem_singleton.1 hb, hml]
    exact h.top k rfl a ha
  · rcases List.mem_cons.1 ht with rfl | ht
    · exact h.near d hd _ (List.mem_cons_self ..)
    · rcases List.mem_append.1 ht with ht | ht
      · exact h.near d hd t (List.mem_cons_of_mem _ ht)
      · rw [List.mem_singleton.1 ht, hml]
        have := h.near d hd k (List.mem_cons_self ..)
        omega
  · simp at hr
    subst hr
    rcases List.mem_cons.1 ht with rfl | ht
    · omega
    · rcases List.mem_append.1 ht with ht | ht
      · exact h.top k rfl t (List.mem_cons_of_mem _ ht)
      · rw [List.mem_singleton.1 ht, hml]
        exact Nat.le_refl _
/-- The head has gone. -/
theorem Walk.gone {Ks D Q : List Kn} {X : List UInt8 → Prop} {k : Kn} (h : Walk Ks D (k :: Q) X) (hX : ∀ t ∈ Ks, X t.u ↔ ∃ c, t.u = k.u ++ [c]) : Walk Ks (k :: D) Q (fun _ => False) := by
  refine ⟨fun t ht => ?_, fun t ht => h.qk t (List.mem_cons_of_mem _ ht), ?_, fun t ht => ?_, (List.pairwise_cons.1 h.up).2, fun d hd t ht => ?_, fun r hr t ht => ?_⟩
  · rcases List.mem_cons.1 ht with rfl | ht
    · exact h.qk _ (List.mem_cons_self ..)
    · exact h.dk t ht
  · have := h.nd
    exact (List.perm_middle.nodup_iff).1 this
  · have h1 : (t ∈ k :: D ∨ t ∈ Q) ↔ (t ∈ D ∨ t ∈ k :: Q) := by
      simp only [List.mem_cons]
      constructor
      · rintro ((h | h) | h)
        · exact .inr (.inl h)
        · exact .inl h
        · exact .inr (.inr h)
      · rintro (h | h | h)
        · exact .inl (.inr h)
        · exact .inl (.inl h)
        · exact .inr h
    rw [h1, h.td t ht, hX t ht]
    constructor
    · rintro (h | ⟨s, hs, h⟩ | h)
      · exact .inl h
      · exact .inr (.inl ⟨s, List.mem_cons_of_mem _ hs, h⟩)
      · exact .inr (.inl ⟨k, List.mem_cons_self .., h⟩)
    · rintro (h | ⟨s, hs, q⟩ | h)
      · exact .inl h
      · rcases List.mem_cons.1 hs with rfl | hs
        · exact .inr (.inr q)
        · exact .inr (.inl ⟨s, hs, q⟩)
      · cases h
  · rcases List.mem_cons.1 hd with rfl | hd
    · exact (List.pairwise_cons.1 h.up).1 t ht
    · exact h.near d hd t (List.mem_cons_of_mem _ ht)
  · have hrm : r ∈ Q := List.mem_of_mem_head? hr
    have h1 := h.top k rfl t (List.mem_cons_of_mem _ ht)
    have h2 := (List.pairwise_cons.1 h.up).1 r hrm
    omega
/-- Nobody waits: all are tied. -/
theorem Walk.done {Ks D : List Kn} (h : Walk Ks D [] (fun _ => False)) (par : ∀ t ∈ Ks, t.u ≠ [] → ∃ s ∈ Ks, ∃ c, t.u = s.u ++ [c]) : ∀ t ∈ Ks, t ∈ D := by
  have key : ∀ n, ∀ t ∈ Ks, t.u.length = n → t ∈ D := by
    intro n
    induction n using Nat.strongRecOn with
    | _ n ih =>
      intro t ht hn
      have : t ∈ D ∨ t ∈ [] := by
        refine (h.td t ht).2 ?_
        by_cases hu : t.u = []
        · exact .inl hu
        · obtain ⟨s, hs, c, hc⟩ := par t ht hu
          have hlen : t.u.length = s.u.length + 1 := by rw [hc]; simp
          exact .inr (.inl ⟨s, ih s.u.length (by omega) s hs rfl, c, hc⟩)
      rcases this with h | h
      · exact h
      · cases h
  exact fun t ht => key _ t ht rfl
theorem walk_less {Ks D : List Kn} {k : Kn} (hk : k ∈ Ks) (hn : k ∉ D) : (Ks.filter fun t => decide (t ∉ k :: D)).length < (Ks.filter fun t => decide (t ∉ D)).length := by
  have e : (Ks.filter fun t => decide (t ∉ k :: D)) = (Ks.filter fun t => decide (t ∉ D)).filter fun t => decide (t ≠ k) := by
    rw [List.filter_filter]
    congr 1
    funext t
    by_cases h1 : t = k <;> by_cases h2 : t ∈ D <;> simp [h1, h2]
  rw [e, List.length_filter_lt_length_iff_exists]
  exact ⟨k, by simp [hk, hn], by simp⟩
end Wf

/-
  Plain: words that may be.
-/
namespace Wf

open Classical in
/-- What is said of the word at k. -/
noncomputable def oneW (l : List ByteArray) (k : Nat) (s : ByteArray) : Int := if s.size = 0 ∨ 20 < s.size then 5 else if s ∈ l.take k then 6 else 0
noncomputable def chkWL (l : List ByteArray) : Nat → List ByteArray → Int
  | _, [] => 0
  | k, s :: r => if oneW l k s ≠ 0 then oneW l k s else chkWL l (k + 1) r
noncomputable def chkW (l : List ByteArray) : Int := if 20 < l.length then 3 else chkWL l 0 l
theorem chkWL_at {l r : List ByteArray} {k : Nat} {s : ByteArray} (h : l[k]? = some s) (hr : r = l.drop k) : chkWL l k r = if oneW l k s ≠ 0 then oneW l k s else chkWL l (k + 1) (l.drop (k + 1)) := by
  subst hr
  obtain ⟨hk, he⟩ := List.getElem?_eq_some_iff.1 h
  rw [List.drop_eq_getElem_cons hk, he]
  rfl
theorem chkWL_end (l : List ByteArray) : chkWL l l.length (l.drop l.length) = 0 := by rw [List.drop_length]; rfl
/-- Words that may be. -/
def okW (l : List ByteArray) : Prop := l.length ≤ 20 ∧ (∀ s ∈ l, 0 < s.size ∧ s.size ≤ 20) ∧ l.Nodup
theorem oneW_bad {l : List ByteArray} {k : Nat} {s : ByteArray} (h : s.size = 0 ∨ 20 < s.size) : oneW l k s = 5 := by unfold oneW; rw [if_pos h]
theorem oneW_in {l : List ByteArray} {k : Nat} {s : ByteArray} (h : ¬ (s.size = 0 ∨ 20 < s.size)) (hm : s ∈ l.take k) : oneW l k s = 6 := by unfold oneW; rw [if_neg h, if_pos hm]
theorem oneW_out {l : List ByteArray} {k : Nat} {s : ByteArray} (h : ¬ (s.size = 0 ∨ 20 < s.size)) (hm : s ∉ l.take k) : oneW l k s = 0 := by unfold oneW; rw [if_neg h, if_neg hm]
theorem oneW_zero {l : List ByteArray} {k : Nat} {s : ByteArray} : oneW l k s = 0 ↔ (0 < s.size ∧ s.size ≤ 20) ∧ s ∉ l.take k := by
  unfold oneW
  by_cases h1 : s.size = 0 ∨ 20 < s.size
  · rw [if_pos h1]
    exact ⟨fun h => absurd h (by decide), fun h => by omega⟩
  · rw [if_neg h1]
    by_cases h2 : s ∈ l.take k
    · rw [if_pos h2]
      exact ⟨fun h => absurd h (by decide), fun h => absurd h2 h.2⟩
    · rw [if_neg h2]
      exact ⟨fun _ => ⟨by omega, h2⟩, fun _ => rfl⟩
theorem chkWL_zero (l : List ByteArray) : ∀ (n k : Nat), k + n = l.length → (chkWL l k (l.drop k) = 0 ↔ ∀ (j : Nat) (s : ByteArray), k ≤ j → l[j]? = some s → oneW l j s = 0) := by
  intro n
  induction n with
  | zero =>
    intro k hk
    obtain rfl : k = l.length := by omega
    rw [chkWL_end]
    exact ⟨fun _ j s hj hs => by have := (List.getElem?_eq_some_iff.1 hs).1; omega, fun _ => rfl⟩
  | succ n ih =>
    intro k hk
    have hs : l[k]? = some (l[k]'(by omega)) := List.getElem?_eq_getElem _
    rw [chkWL_at hs rfl]
    by_cases h0 : oneW l k (l[k]'(by omega)) = 0
    · rw [if_neg (by simpa using h0), ih (k + 1) (by omega)]
      constructor
      · intro h j s hj hjs
        rcases Nat.eq_or_lt_of_le hj with rfl | hlt
        · rw [hs] at hjs
          cases hjs
          exact h0
        · exact h j s hlt hjs
      · intro h j s hj hjs
        exact h j s (by omega) hjs
    · rw [if_pos h0]
      exact ⟨fun h => absurd h h0, fun h => h k _ (Nat.le_refl _) hs⟩
theorem chkW_ok {l : List ByteArray} : chkW l = 0 ↔ okW l := by
  unfold chkW okW
  by_cases hb : 20 < l.length
  · rw [if_pos hb]
    exact ⟨fun h => absurd h (by decide), fun h => by omega⟩
  · rw [if_neg hb, show chkWL l 0 l = chkWL l 0 (l.drop 0) by rw [List.drop_zero], chkWL_zero l l.length 0 (by omega)]
    constructor
    · intro h
      refine ⟨by omega, fun s hs => ?_, ?_⟩
      · obtain ⟨j, hj⟩ := List.getElem?_of_mem hs
        exact (oneW_zero.1 (h j s (Nat.zero_le _) hj)).1
      · rw [List.nodup_iff_pairwise_ne, List.pairwise_iff_getElem]
        intro i j hi hj hij he
        have h2 := (oneW_zero.1 (h j (l[j]'hj) (Nat.zero_le _) (List.getElem?_eq_getElem _))).2
        refine h2 ?_
        rw [← he]
        exact List.mem_take_iff_getElem.2 ⟨i, by omega, rfl⟩
    · rintro ⟨_, h1, h2⟩ j s _ hs
      refine oneW_zero.2 ⟨h1 s (List.mem_of_getElem? hs), fun hm => ?_⟩
      obtain ⟨i, hi, he⟩ := List.mem_take_iff_getElem.1 hm
      obtain ⟨hj, hje⟩ := List.getElem?_eq_some_iff.1 hs
      rw [List.nodup_iff_pairwise_ne, List.pairwise_iff_getElem] at h2
      exact h2 i j (by omega) hj (by omega) (he.trans hje.symm)
end Wf
