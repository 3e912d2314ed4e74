/-
  Plain: the places of words: each stands where it is told; a word among others and alone; two texts with something between; a word more.
-/
import Derived.Test.YthcahjnniendnabPk
namespace Wf
variable {ws : List (List UInt8)} {t : List UInt8}

theorem mem_hits {h : Nat × Nat × Nat} : h ∈ hitsL ws t ↔ ∃ w, ws[h.1]? = some w ∧ h.2.2 ≤ t.length ∧ 0 < h.2.2 ∧ w <:+ t.take h.2.2 ∧ h.2.1 = h.2.2 - w.length := by
  obtain ⟨i, a, b⟩ := h
  unfold hitsL hitsTo hitsAt
  simp only [List.mem_flatMap, List.mem_range, List.mem_map, Prod.mk.injEq]
  constructor
  · rintro ⟨e, he, j, hj, rfl, rfl, rfl⟩
    obtain ⟨w, hw, hs⟩ := endAt_mem.1 hj
    exact ⟨w, hw, by omega, by omega, hs, by simp [List.getD, hw]⟩
  · rintro ⟨w, hw, h1, h2, h3, h4⟩
    refine ⟨b - 1, by omega, i, ?_, rfl, ?_, by omega⟩
    · rw [show b - 1 + 1 = b by omega]
      exact endAt_mem.2 ⟨w, hw, h3⟩
    · rw [h4]; simp [List.getD, hw]; omega
/-- Each stands where it is told. -/
theorem hits_stand {h : Nat × Nat × Nat} (hm : h ∈ hitsL ws t) : ∃ w, ws[h.1]? = some w ∧ h.2.1 ≤ h.2.2 ∧ h.2.2 ≤ t.length ∧ (t.drop h.2.1).take (h.2.2 - h.2.1) = w := by
  obtain ⟨w, hw, h1, h2, h3, h4⟩ := mem_hits.1 hm
  refine ⟨w, hw, by omega, h1, ?_⟩
  have hl := h3.length_le
  rw [List.length_take] at hl
  have e := List.suffix_iff_eq_drop.1 h3
  rw [List.length_take, Nat.min_eq_left h1, List.drop_take] at e
  rw [h4]
  rw [show h.2.2 - (h.2.2 - w.length) = w.length by omega]
  rw [show h.2.2 - (h.2.2 - w.length) = w.length by omega] at e
  exact e.symm

theorem filter_range_one (n i : Nat) (p : Nat → Bool) : ((List.range n).filter p).filter (fun j => decide (j = i)) = if i < n ∧ p i = true then [i] else [] := by
  induction n with
  | zero => simp
  | succ n ih =>
    rw [List.range_succ, List.filter_append, List.filter_append, ih]
    by_cases hp : p n = true
    · by_cases e : n = i
      · subst e
        simp [hp]
      · have : (i < n + 1 ∧ p i = true) ↔ (i < n ∧ p i = true) := by constructor <;> rintro ⟨a, b⟩ <;> exact ⟨by omega, b⟩
        simp only [this]
        simp [hp, e]
    · have : (i < n + 1 ∧ p i = true) ↔ (i < n ∧ p i = true) := by
        constructor
        · rintro ⟨a, b⟩
          refine ⟨?_, b⟩
          rcases Nat.lt_or_ge i n with h | h
          · exact h
          · obtain rfl : i = n := by omega
            exact absurd b hp
        · rintro ⟨a, b⟩; exact ⟨by omega, b⟩
      simp only [this]
      simp [hp]
theorem filter_hits (p : Nat × Nat × Nat → Bool) (n : Nat) : (hitsTo ws t n).filter p = (List.range n).flatMap fun i => (hitsAt ws t (i + 1)).filter p := by
  induction n with
  | zero => simp [hitsTo]
  | succ n ih => rw [hitsTo_succ, List.filter_append, ih, List.range_succ, List.flatMap_append]; simp
/-- What is told of one word among others is what is told of it alone. -/
theorem hits_alone {i : Nat} {w : List UInt8} (hw : ws[i]? = some w) : ((hitsL ws t).filter fun h => decide (h.1 = i)).map (·.2) = (hitsL [w] t).map (·.2) := by
  have hi : i < ws.length := (List.getElem?_eq_some_iff.1 hw).1
  have key : ∀ e, ((hitsAt ws t e).filter fun h => decide (h.1 = i)).map (·.2) = (hitsAt [w] t e).map (·.2) := by
    intro e
    unfold hitsAt
    rw [List.filter_map]
    have h1 : ((fun h : Nat × Nat × Nat => decide (h.1 = i)) ∘ fun j => (j, e - (ws.getD j []).length, e)) = fun j => decide (j = i) := rfl
    rw [h1]
    unfold endAt
    rw [filter_range_one]
    have hg : ws.getD i [] = w := by simp [List.getD, hw]
    rw [hg]
    by_cases hs : w.isSuffixOf (t.take e) = true
    · rw [if_pos ⟨hi, hs⟩]
      simp [hs, List.getD, hw]
    · rw [if_neg (fun h => hs h.2)]
      simp [hs]
  have key2 : ∀ n, ((hitsTo ws t n).filter fun h => decide (h.1 = i)).map (·.2) = (hitsTo [w] t n).map (·.2) := by
    intro n
    induction n with
    | zero => simp [hitsTo]
    | succ n ih => rw [hitsTo_succ, hitsTo_succ, List.filter_append, List.map_append, List.map_append, ih, key]
  exact key2 _
/-- A word more: all that was told is told. -/
theorem hits_more (w : List UInt8) : ((hitsL (ws ++ [w]) t).filter fun h => decide (h.1 < ws.length)) = hitsL ws t ∧ ((hitsL (ws ++ [w]) t).filter fun h => !decide (h.1 < ws.length)).length = (hitsL [w] t).length := by
  have hend : ∀ s, endAt (ws ++ [w]) s = endAt ws s ++ if w.isSuffixOf s = true then [ws.length] else [] := by
    intro s
    unfold endAt
    rw [List.length_append, List.length_singleton, List.range_succ, List.filter_append]
    congr 1
    · refine List.filter_congr fun j hj => ?_
      rw [List.getD, List.getElem?_append_left (List.mem_range.1 hj)]
      rfl
    · simp [List.filter_cons]
  have hmem : ∀ s, ∀ j ∈ endAt ws s, j < ws.length := fun s j hj => by
    obtain ⟨x, hx, _⟩ := endAt_mem.1 hj
    exact (List.getElem?_eq_some_iff.1 hx).1
  have hat : ∀ e, hitsAt (ws ++ [w]) t e = hitsAt ws t e ++ if w.isSuffixOf (t.take e) = true then [(ws.length, e - w.length, e)] else [] := by
    intro e
    unfold hitsAt
    rw [hend, List.map_append]
    congr 1
    · refine List.map_congr_left fun j hj => ?_
      rw [List.getD, List.getElem?_append_left (hmem _ j hj)]
      rfl
    · split <;> simp
  have hlt : ∀ e, ∀ h ∈ hitsAt ws t e, h.1 < ws.length := fun e h hh => by
    obtain ⟨j, hj, rfl⟩ := List.mem_map.1 hh
    exact hmem _ j hj
  have key : ∀ n, ((hitsTo (ws ++ [w]) t n).filter fun h => decide (h.1 < ws.length)) = hitsTo ws t n ∧ ((hitsTo (ws ++ [w]) t n).filter fun h => !decide (h.1 < ws.length)).length = (hitsTo [w] t n).length := by
    intro n
    induction n with
    | zero => simp [hitsTo]
    | succ n ih =>
      have ha : (hitsAt ws t (n + 1)).filter (fun h => decide (h.1 < ws.length)) = hitsAt ws t (n + 1) := List.filter_eq_self.2 fun h hh => by simpa using hlt _ h hh
      have hb : (hitsAt ws t (n + 1)).filter (fun h => !decide (h.1 < ws.length)) = [] := List.filter_eq_nil_iff.2 fun h hh => by simpa using hlt _ h hh
      constructor
      · rw [hitsTo_succ, hitsTo_succ, List.filter_append, ih.1, hat, List.filter_append, ha]
        split <;> simp
      · rw [hitsTo_succ, hitsTo_succ, List.filter_append, List.length_append, List.length_append, ih.2, hat, List.filter_append, hb]
        have : (hitsAt [w] t (n + 1)).length = if w.isSuffixOf (t.take (n + 1)) = true then 1 else 0 := by
          unfold hitsAt endAt
          by_cases hs : w.isSuffixOf (t.take (n + 1)) = true <;> simp [hs, List.filter_cons]
        rw [this]
        split <;> simp
  exact key _

/-- Two texts with something between that is in no word. -/
theorem hits_two {z : UInt8} (hz : ∀ w ∈ ws, z ∉ w) (hne : ∀ w ∈ ws, w ≠ []) (s t : List UInt8) :
    hitsL ws (s ++ z :: t) = hitsL ws s ++ (hitsL ws t).map fun h => (h.1, h.2.1 + (s.length + 1), h.2.2 + (s.length + 1)) := by
  have e1 : ∀ n, n ≤ s.length → hitsTo ws (s ++ z :: t) n = hitsTo ws s n := by
    intro n
    induction n with
    | zero => intro _; rfl
    | succ n ih =>
      intro hn
      rw [hitsTo_succ, hitsTo_succ, ih (by omega)]
      unfold hitsAt
      rw [List.take_append_of_le_length hn]
  have e2 : hitsAt ws (s ++ z :: t) (s.length + 1) = [] := by
    unfold hitsAt
    have h1 : (s ++ z :: t).take (s.length + 1) = s ++ [z] := by
      rw [List.take_append, List.take_of_length_le (by omega)]
      simp
    rw [h1]
    have : endAt ws (s ++ [z]) = [] := by
      rw [List.eq_nil_iff_forall_not_mem]
      intro j hj
      obtain ⟨w, hw, hs⟩ := endAt_mem.1 hj
      have hm := List.mem_of_getElem? hw
      rcases suf_snoc hs with h | ⟨x, h, _⟩
      · exact hne w hm h
      · exact hz w hm (by rw [h]; simp)
    rw [this]
    rfl
  have e3 : ∀ e, e ≤ t.length → 0 < e → hitsAt ws (s ++ z :: t) (s.length + 1 + e) = (hitsAt ws t e).map fun h => (h.1, h.2.1 + (s.length + 1), h.2.2 + (s.length + 1)) := by
    intro e he h0
    unfold hitsAt
    have h1 : (s ++ z :: t).take (s.length + 1 + e) = s ++ z :: t.take e := by
      rw [List.take_append, List.take_of_length_le (by omega), show s.length + 1 + e - s.length = e + 1 by omega, List.take_succ_cons]
    have h2 : endAt ws (s ++ z :: t.take e) = endAt ws (t.take e) := by
      refine sorted_uniq _ _ (endAt_up ..) (endAt_up ..) fun j => ?_
      rw [endAt_mem, endAt_mem]
      constructor
      · rintro ⟨w, hw, hs⟩
        refine ⟨w, hw, ?_⟩
        have hm := List.mem_of_getElem? hw
        rcases Nat.le_total w.length (t.take e).length with hl | hl
        · exact suf_len hs ((List.suffix_cons _ _).trans (List.suffix_append _ _)) hl
        · rcases Nat.eq_or_lt_of_le hl with hl | hl
          · exact suf_len hs ((List.suffix_cons _ _).trans (List.suffix_append _ _)) (by omega)
          · exfalso
            have h3 : z :: t.take e <:+ w := suf_len (List.suffix_append _ _) hs (by simp at hl ⊢; omega)
            exact hz w hm (h3.subset (by simp))
      · rintro ⟨w, hw, hs⟩
        exact ⟨w, hw, hs.trans ((List.suffix_cons _ _).trans (List.suffix_append _ _))⟩
    rw [h1, h2, List.map_map]
    refine List.map_congr_left fun j hj => ?_
    obtain ⟨w, hw, hs⟩ := endAt_mem.1 hj
    have hl := hs.length_le
    rw [List.length_take] at hl
    have hg : ws.getD j [] = w := by simp [List.getD, hw]
    simp only [Function.comp, hg, Prod.mk.injEq, true_and]
    omega
  have e4 : ∀ n, n ≤ t.length → hitsTo ws (s ++ z :: t) (s.length + 1 + n) = hitsTo ws s s.length ++ (hitsTo ws t n).map fun h => (h.1, h.2.1 + (s.length + 1), h.2.2 + (s.length + 1)) := by
    intro n
    induction n with
    | zero =>
      intro _
      rw [Nat.add_zero, hitsTo_succ, e2, e1 _ (Nat.le_refl _)]
      simp [hitsTo]
    | succ n ih =>
      intro hn
      rw [show s.length + 1 + (n + 1) = (s.length + 1 + n) + 1 by omega, hitsTo_succ, ih (by omega), hitsTo_succ, List.map_append, ← e3 _ hn (by omega), List.append_assoc]
      rfl
  have hlen : (s ++ z :: t).length = s.length + 1 + t.length := by simp; omega
  unfold hitsL
  rw [hlen, e4 _ (Nat.le_refl _)]
end Wf
