/-
  Pk, Px.
-/
import Derived.Test.YthcahjnniendnacGreatDoorGPl
/-
  Plain facts about many words in one text: the longest beginning of a word that ends here, told knot by knot. No program in sight.
-/
namespace Wf

section
variable (ws : List (List UInt8))

/-- A beginning of a word, or nothing. -/
def Knot (u : List UInt8) : Prop := u = [] ∨ ∃ w ∈ ws, u <+: w
/-- The longest end of t that is such a beginning. -/
def LongSuf (t u : List UInt8) : Prop := u <:+ t ∧ Knot ws u ∧ ∀ v, v <:+ t → Knot ws v → v.length ≤ u.length
/-- Where one goes back from u. -/
def Bk (u v : List UInt8) : Prop := LongSuf ws u.tail v

theorem Knot.of_snoc {ws : List (List UInt8)} {u : List UInt8} {b : UInt8} (h : Knot ws (u ++ [b])) : Knot ws u := by
  rcases h with h | ⟨w, hw, h⟩
  · simp at h
  · exact .inr ⟨w, hw, (List.prefix_append u [b]).trans h⟩

theorem suf_len {a b t : List UInt8} (h1 : a <:+ t) (h2 : b <:+ t) (h : a.length ≤ b.length) : a <:+ b := List.suffix_of_suffix_length_le h1 h2 h
theorem suf_eq {a b t : List UInt8} (h1 : a <:+ t) (h2 : b <:+ t) (h : a.length = b.length) : a = b := (suf_len h1 h2 (Nat.le_of_eq h)).eq_of_length h
theorem suf_tail {a u : List UInt8} (h : a <:+ u) (hl : a.length < u.length) : a <:+ u.tail := by
  obtain ⟨p, rfl⟩ := h
  cases p with
  | nil => simp at hl
  | cons x p => exact ⟨p, rfl⟩
theorem tail_suf (u : List UInt8) : u.tail <:+ u := List.tail_suffix u
theorem suf_snoc {v t : List UInt8} {b : UInt8} (h : v <:+ t ++ [b]) : v = [] ∨ ∃ x, v = x ++ [b] ∧ x <:+ t := by
  obtain ⟨p, h⟩ := h
  rcases List.eq_nil_or_concat v with rfl | ⟨x, c, rfl⟩
  · exact .inl rfl
  · right
    simp only [List.concat_eq_append, ← List.append_assoc] at h
    have h1 := List.append_inj_left' h rfl
    have h2 := List.append_inj_right' h rfl
    simp only [List.cons.injEq, and_true] at h2
    exact ⟨x, by rw [List.concat_eq_append, h2], p, h1⟩

variable {ws : List (List UInt8)}
theorem LongSuf.uniq {t u v : List UInt8} (h : LongSuf ws t u) (k : LongSuf ws t v) : u = v :=
  suf_eq h.1 k.1 (Nat.le_antisymm (k.2.2 u h.1 h.2.1) (h.2.2 v k.1 k.2.1))
theorem LongSuf.nil (ws : List (List UInt8)) : LongSuf ws [] [] := ⟨List.suffix_refl _, .inl rfl, fun v hv _ => by have := hv.length_le; simpa using this⟩
theorem Bk.root (ws : List (List UInt8)) : Bk ws [] [] := LongSuf.nil ws
theorem Bk.one (ws : List (List UInt8)) (b : UInt8) : Bk ws [b] [] := LongSuf.nil ws
theorem Bk.lt {u v : List UInt8} (h : Bk ws u v) (hu : u ≠ []) : v.length < u.length := by
  have h1 := h.1.length_le
  have h2 := List.length_pos_iff.2 hu
  rw [List.length_tail] at h1
  omega

/-- In the midst of a step: what is longer than u' does not go on by b. -/
def InStep (t : List UInt8) (b : UInt8) (u : List UInt8) : Prop := u <:+ t ∧ Knot ws u ∧ ∀ v, v <:+ t → Knot ws (v ++ [b]) → v.length ≤ u.length
theorem LongSuf.step {t u : List UInt8} (h : LongSuf ws t u) (b : UInt8) : InStep (ws := ws) t b u := ⟨h.1, h.2.1, fun v hv hk => h.2.2 v hv hk.of_snoc⟩
theorem InStep.back {t u v : List UInt8} {b : UInt8} (h : InStep (ws := ws) t b u) (hn : ¬ Knot ws (u ++ [b])) (hb : Bk ws u v) : InStep (ws := ws) t b v := by
  refine ⟨(hb.1.trans (tail_suf u)).trans h.1, hb.2.1, fun x hx hk => ?_⟩
  have h1 := h.2.2 x hx hk
  have h2 : x.length ≠ u.length := fun e => hn (by rw [← suf_eq hx h.1 e]; exact hk)
  exact hb.2.2 x (suf_tail (suf_len hx h.1 h1) (by omega)) hk.of_snoc
theorem InStep.done {t u : List UInt8} {b : UInt8} (h : InStep (ws := ws) t b u) (hk : Knot ws (u ++ [b])) : LongSuf ws (t ++ [b]) (u ++ [b]) := by
  refine ⟨?_, hk, fun v hv hkv => ?_⟩
  · obtain ⟨p, hp⟩ := h.1
    exact ⟨p, by rw [← hp, List.append_assoc]⟩
  · rcases suf_snoc hv with rfl | ⟨x, rfl, hx⟩
    · simp
    · have := h.2.2 x hx hkv; simp; exact this
theorem InStep.none {t : List UInt8} {b : UInt8} (h : InStep (ws := ws) t b []) (hk : ¬ Knot ws [b]) : LongSuf ws (t ++ [b]) [] := by
  refine ⟨List.nil_suffix, .inl rfl, fun v hv hkv => ?_⟩
  rcases suf_snoc hv with rfl | ⟨x, rfl, hx⟩
  · simp
  · have := h.2.2 x hx hkv
    have hx0 : x = [] := List.eq_nil_of_length_eq_zero (by simpa using this)
    subst hx0
    exact absurd hkv hk

/-- The step goes to the beginning behind it. -/
theorem Bk.snoc {u r : List UInt8} {b : UInt8} (hu : u ≠ []) (h : LongSuf ws (u.tail ++ [b]) r) : Bk ws (u ++ [b]) r := by
  unfold Bk
  rw [List.tail_append_of_ne_nil hu]
  exact h

/-- The words that end in u, each once. -/
def EndL (ws : List (List UInt8)) (u : List UInt8) (l : List Nat) : Prop := l.Nodup ∧ ∀ i, i ∈ l ↔ ∃ w, ws[i]? = some w ∧ w <:+ u
/-- The words that are u, each once. -/
def OwnL (ws : List (List UInt8)) (n : Nat) (u : List UInt8) (l : List Nat) : Prop := l.Nodup ∧ ∀ i, i ∈ l ↔ i < n ∧ ws[i]? = some u

theorem knot_word {i : Nat} {w : List UInt8} (h : ws[i]? = some w) : Knot ws w := .inr ⟨w, List.mem_of_getElem? h, List.prefix_refl _⟩
theorem EndL.root (hne : ∀ w ∈ ws, w ≠ []) : EndL ws [] [] := by
  refine ⟨by simp, fun i => ⟨fun h => by (cases h), ?_⟩⟩
  rintro ⟨w, hw, h⟩
  have : w = [] := List.eq_nil_of_length_eq_zero (by have := h.length_le; simpa using this)
  exact absurd this (hne w (List.mem_of_getElem? hw))
theorem EndL.of_back {u v : List UInt8} {l l' : List Nat} (hu : u ≠ []) (hb : Bk ws u v) (ho : OwnL ws ws.length u l) (he : EndL ws v l') : EndL ws u (l ++ l') := by
  have hv := hb.lt hu
  refine ⟨?_, fun i => ?_⟩
  · rw [List.nodup_append]
    refine ⟨ho.1, he.1, ?_⟩
    rintro i hi j hj rfl
    have h1 := ((ho.2 i).1 hi).2
    obtain ⟨w, h2, h3⟩ := (he.2 i).1 hj
    rw [h1] at h2
    cases h2
    have := h3.length_le
    omega
  · rw [List.mem_append, ho.2, he.2]
    constructor
    · rintro (⟨_, h⟩ | ⟨w, h1, h2⟩)
      · exact ⟨u, h, List.suffix_refl _⟩
      · exact ⟨w, h1, (h2.trans hb.1).trans (tail_suf u)⟩
    · rintro ⟨w, h1, h2⟩
      have hl := h2.length_le
      by_cases e : w.length = u.length
      · left
        have := h2.eq_of_length e
        subst this
        exact ⟨(List.getElem?_eq_some_iff.1 h1).1, h1⟩
      · right
        have h3 := suf_tail h2 (by omega)
        exact ⟨w, h1, suf_len h3 hb.1 (hb.2.2 w h3 (knot_word h1))⟩
theorem EndL.long {t u : List UInt8} {l : List Nat} (h : LongSuf ws t u) (he : EndL ws u l) : EndL ws t l := by
  refine ⟨he.1, fun i => ?_⟩
  rw [he.2]
  constructor
  · rintro ⟨w, h1, h2⟩; exact ⟨w, h1, h2.trans h.1⟩
  · rintro ⟨w, h1, h2⟩; exact ⟨w, h1, suf_len h2 h.1 (h.2.2 w h2 (knot_word h1))⟩

/-- The words that end behind t, in their order. -/
def endAt (ws : List (List UInt8)) (t : List UInt8) : List Nat := (List.range ws.length).filter fun i => (ws.getD i []).isSuffixOf t
theorem endAt_mem {t : List UInt8} {i : Nat} : i ∈ endAt ws t ↔ ∃ w, ws[i]? = some w ∧ w <:+ t := by
  unfold endAt
  rw [List.mem_filter, List.mem_range]
  constructor
  · rintro ⟨h1, h2⟩
    exact ⟨ws[i], List.getElem?_eq_getElem h1, by simpa [h1] using h2⟩
  · rintro ⟨w, h1, h2⟩
    have h3 := (List.getElem?_eq_some_iff.1 h1).1
    exact ⟨h3, by simp [h1]; exact h2⟩
theorem endAt_up (ws : List (List UInt8)) (t : List UInt8) : (endAt ws t).Pairwise (· < ·) := List.pairwise_lt_range.filter _
theorem endAt_len (ws : List (List UInt8)) (t : List UInt8) : (endAt ws t).length ≤ ws.length := by
  have := List.length_filter_le (fun i => (ws.getD i []).isSuffixOf t) (List.range ws.length)
  simpa [endAt] using this
theorem sorted_uniq : ∀ (a b : List Nat), a.Pairwise (· < ·) → b.Pairwise (· < ·) → (∀ j, j ∈ a ↔ j ∈ b) → a = b := by
  intro a
  induction a with
  | nil =>
    intro b _ _ hm
    cases b with
    | nil => rfl
    | cons y b => have := (hm y).2 (by simp); cases this
  | cons x a ih =>
    intro b ha hb hm
    cases b with
    | nil => have := (hm x).1 (by simp); cases this
    | cons y b =>
      rw [List.pairwise_cons] at ha hb
      have e : x = y := by
        have h1 := (hm x).1 (by simp)
        have h2 := (hm y).2 (by simp)
        rcases List.mem_cons.1 h1 with h1 | h1
        · exact h1
        · rcases List.mem_cons.1 h2 with h2 | h2
          · exact h2.symm
          · have := hb.1 x h1; have := ha.1 y h2; omega
      subst e
      rw [ih b ha.2 hb.2 fun j => ?_]
      constructor
      · intro hj
        have := (hm j).1 (by simp [hj])
        rcases List.mem_cons.1 this with rfl | h
        · have := ha.1 j hj; omega
        · exact h
      · intro hj
        have := (hm j).2 (by simp [hj])
        rcases List.mem_cons.1 this with rfl | h
        · have := hb.1 j hj; omega
        · exact h
/-- A row that rises and has the words that end here is the row of them. -/
theorem EndL.sorted {t : List UInt8} {l l' : List Nat} (h : EndL ws t l) (hp : l'.Perm l) (hs : l'.Pairwise (· ≤ ·)) : l' = endAt ws t := by
  refine sorted_uniq l' _ ?_ (endAt_up ws t) fun j => by rw [hp.mem_iff, h.2, endAt_mem]
  have hn : l'.Nodup := hp.nodup_iff.2 h.1
  have hb : l'.Pairwise fun x y => x ≤ y ∧ x ≠ y := List.pairwise_and_iff.2 ⟨hs, hn⟩
  exact hb.imp fun h => by omega

/-- All places of words, place by place: the word, where it begins, where it ends. -/
def hitsAt (ws : List (List UInt8)) (t : List UInt8) (e : Nat) : List (Nat × Nat × Nat) := (endAt ws (t.take e)).map fun i => (i, e - (ws.getD i []).length, e)
def hitsTo (ws : List (List UInt8)) (t : List UInt8) (n : Nat) : List (Nat × Nat × Nat) := (List.range n).flatMap fun i => hitsAt ws t (i + 1)
def hitsL (ws : List (List UInt8)) (t : List UInt8) : List (Nat × Nat × Nat) := hitsTo ws t t.length
theorem hitsTo_succ (ws : List (List UInt8)) (t : List UInt8) (n : Nat) : hitsTo ws t (n + 1) = hitsTo ws t n ++ hitsAt ws t (n + 1) := by
  simp [hitsTo, List.range_succ, List.flatMap_append]
theorem hitsTo_len (ws : List (List UInt8)) (t : List UInt8) (n : Nat) : (hitsTo ws t n).length ≤ n * ws.length := by
  induction n with
  | zero => simp [hitsTo]
  | succ n ih =>
    rw [hitsTo_succ, List.length_append, Nat.succ_mul]
    have : (hitsAt ws t (n + 1)).length ≤ ws.length := by simp [hitsAt]; exact endAt_len ws _
    omega
end

end Wf

/-
  Plain: the places of words: each stands where it is told; a word among others and alone; two texts with something between; a word more.
-/
namespace Wf
variable {ws : List (List UInt8)} {t : List UInt8}

theorem mem_hits {h : Nat × Nat × Nat} : h ∈ hitsL ws t ↔ ∃ w, ws[h.1]? = some w ∧ h.2.2 ≤ t.length ∧ 0 < h.2.2 ∧ w <:+ t.take h.2.2 ∧ h.2.1 = h.2.2 - w.length := by
  obtain ⟨i, a, b⟩ := h
  unfold hitsL hitsTo hitsAt
  simp only [List.mem_flatMap, List.mem_range, List.mem_map, Prod.mk.injEq]
  constructor
  · rintro ⟨e, he, j, hj, rfl, rfl, rfl⟩
    obtain ⟨w, hw, hs⟩ := endAt_mem.1 hj
    exact ⟨w, hw, by omega, by omega, hs, by simp [List.getD, hw]⟩
  · rintro ⟨w, hw, h1, h2, h3, h4⟩
    refine ⟨b - 1, by omega, i, ?_, rfl, ?_, by omega⟩
    · rw [show b - 1 + 1 = b by omega]
      exact endAt_mem.2 ⟨w, hw, h3⟩
    · rw [h4]; simp [List.getD, hw]; omega
/-- Each stands where it is told. -/
theorem hits_stand {h : Nat × Nat × Nat} (hm : h ∈ hitsL ws t) : ∃ w, ws[h.1]? = some w ∧ h.2.1 ≤ h.2.2 ∧ h.2.2 ≤ t.length ∧ (t.drop h.2.1).take (h.2.2 - h.2.1) = w := by
  obtain ⟨w, hw, h1, h2, h3, h4⟩ := mem_hits.1 hm
  refine ⟨w, hw, by omega, h1, ?_⟩
  have hl := h3.length_le
  rw [List.length_take] at hl
  have e := List.suffix_iff_eq_drop.1 h3
  rw [List.length_take, Nat.min_eq_left h1, List.drop_take] at e
  rw [h4]
  rw [show h.2.2 - (h.2.2 - w.length) = w.length by omega]
  rw [show h.2.2 - (h.2.2 - w.length) = w.length by omega] at e
  exact e.symm

theorem filter_range_one (n i : Nat) (p : Nat → Bool) : ((List.range n).filter p).filter (fun j => decide (j = i)) = if i < n ∧ p i = true then [i] else [] := by
  induction n with
  | zero => simp
  | succ n ih =>
    rw [List.range_succ, List.filter_append, List.filter_append, ih]
    by_cases hp : p n = true
    · by_cases e : n = i
      · subst e
        simp [hp]
      · have : (i < n + 1 ∧ p i = true) ↔ (i < n ∧ p i = true) := by constructor <;> rintro ⟨a, b⟩ <;> exact ⟨by omega, b⟩
        simp only [this]
        simp [hp, e]
    · have : (i < n + 1 ∧ p i = true) ↔ (i < n ∧ p i = true) := by
        constructor
        · rintro ⟨a, b⟩
          refine ⟨?_, b⟩
          rcases Nat.lt_or_ge i n with h | h
          · exact h
          · obtain rfl : i = n := by omega
            exact absurd b hp
        · rintro ⟨a, b⟩; exact ⟨by omega, b⟩
      simp only [this]
      simp [hp]
theorem filter_hits (p : Nat × Nat × Nat → Bool) (n : Nat) : (hitsTo ws t n).filter p = (List.range n).flatMap fun i => (hitsAt ws t (i + 1)).filter p := by
  induction n with
  | zero => simp [hitsTo]
  | succ n ih => rw [hitsTo_succ, List.filter_append, ih, List.range_succ, List.flatMap_append]; simp
/-- What is told of one word among others is what is told of it alone. -/
theorem hits_alone {i : Nat} {w : List UInt8} (hw : ws[i]? = some w) : ((hitsL ws t).filter fun h => decide (h.1 = i)).map (·.2) = (hitsL [w] t).map (·.2) := by
  have hi : i < ws.length := (List.getElem?_eq_some_iff.1 hw).1
  have key : ∀ e, ((hitsAt ws t e).filter fun h => decide (h.1 = i)).map (·.2) = (hitsAt [w] t e).map (·.2) := by
    intro e
    unfold hitsAt
    rw [List.filter_map]
    have h1 : ((fun h : Nat × Nat × Nat => decide (h.1 = i)) ∘ fun j => (j, e - (ws.getD j []).length, e)) = fun j => decide (j = i) := rfl
    rw [h1]
    unfold endAt
    rw [filter_range_one]
    have hg : ws.getD i [] = w := by simp [List.getD, hw]
    rw [hg]
    by_cases hs : w.isSuffixOf (t.take e) = true
    · rw [if_pos ⟨hi, hs⟩]
      simp [hs, List.getD, hw]
    · rw [if_neg (fun h => hs h.2)]
      simp [hs]
  have key2 : ∀ n, ((hitsTo ws t n).filter fun h => decide (h.1 = i)).map (·.2) = (hitsTo [w] t n).map (·.2) := by
    intro n
    induction n with
    | zero => simp [hitsTo]
    | succ n ih => rw [hitsTo_succ, hitsTo_succ, List.filter_append, List.map_append, List.map_append, ih, key]
  exact key2 _
/-- A word more: all that was told is told. -/
theorem hits_more (w : List UInt8) : ((hitsL (ws ++ [w]) t).filter fun h => decide (h.1 < ws.length)) = hitsL ws t ∧ ((hitsL (ws ++ [w]) t).filter fun h => !decide (h.1 < ws.length)).length = (hitsL [w] t).length := by
  have hend : ∀ s, endAt (ws ++ [w]) s = endAt ws s ++ if w.isSuffixOf s = true then [ws.length] else [] := by
    intro s
    unfold endAt
    rw [List.length_append, List.length_singleton, List.range_succ, List.filter_append]
    congr 1
    · refine List.filter_congr fun j hj => ?_
      rw [List.getD, List.getElem?_append_left (List.mem_range.1 hj)]
      rfl
    · simp [List.filter_cons]
  have hmem : ∀ s, ∀ j ∈ endAt ws s, j < ws.length := fun s j hj => by
    obtain ⟨x, hx, _⟩ := endAt_mem.1 hj
    exact (List.getElem?_eq_some_iff.1 hx).1
  have hat : ∀ e, hitsAt (ws ++ [w]) t e = hitsAt ws t e ++ if w.isSuffixOf (t.take e) = true then [(ws.length, e - w.length, e)] else [] := by
    intro e
    unfold hitsAt
    rw [hend, List.map_append]
    congr 1
    · refine List.map_congr_left fun j hj => ?_
      rw [List.getD, List.getElem?_append_left (hmem _ j hj)]
      rfl
    · split <;> simp
  have hlt : ∀ e, ∀ h ∈ hitsAt ws t e, h.1 < ws.length := fun e h hh => by
    obtain ⟨j, hj, rfl⟩ := List.mem_map.1 hh
    exact hmem _ j hj
  have key : ∀ n, ((hitsTo (ws ++ [w]) t n).filter fun h => decide (h.1 < ws.length)) = hitsTo ws t n ∧ ((hitsTo (ws ++ [w]) t n).filter fun h => !decide (h.1 < ws.length)).length = (hitsTo [w] t n).length := by
    intro n
    induction n with
    | zero => simp [hitsTo]
    | succ n ih =>
      have ha : (hitsAt ws t (n + 1)).filter (fun h => decide (h.1 < ws.length)) = hitsAt ws t (n + 1) := List.filter_eq_self.2 fun h hh => by simpa using hlt _ h hh
      have hb : (hitsAt ws t (n + 1)).filter (fun h => !decide (h.1 < ws.length)) = [] := List.filter_eq_nil_iff.2 fun h hh => by simpa using hlt _ h hh
      constructor
      · rw [hitsTo_succ, hitsTo_succ, List.filter_append, ih.1, hat, List.filter_append, ha]
        split <;> simp
      · rw [hitsTo_succ, hitsTo_succ, List.filter_append, List.length_append, List.length_append, ih.2, hat, List.filter_append, hb]
        have : (hitsAt [w] t (n + 1)).length = if w.isSuffixOf (t.take (n + 1)) = true then 1 else 0 := by
          unfold hitsAt endAt
          by_cases hs : w.isSuffixOf (t.take (n + 1)) = true <;> simp [hs, List.filter_cons]
        rw [this]
        split <;> simp
  exact key _

/-- Two texts with something between that is in no word. -/
theorem hits_two {z : UInt8} (hz : ∀ w ∈ ws, z ∉ w) (hne : ∀ w ∈ ws, w ≠ []) (s t : List UInt8) :
    hitsL ws (s ++ z :: t) = hitsL ws s ++ (hitsL ws t).map fun h => (h.1, h.2.1 + (s.length + 1), h.2.2 + (s.length + 1)) := by
  have e1 : ∀ n, n ≤ s.length → hitsTo ws (s ++ z :: t) n = hitsTo ws s n := by
    intro n
    induction n with
    | zero => intro _; rfl
    | succ n ih =>
      intro hn
      rw [hitsTo_succ, hitsTo_succ, ih (by omega)]
      unfold hitsAt
      rw [List.take_append_of_le_length hn]
  have e2 : hitsAt ws (s ++ z :: t) (s.length + 1) = [] := by
    unfold hitsAt
    have h1 : (s ++ z :: t).take (s.length + 1) = s ++ [z] := by
      rw [List.take_append, List.take_of_length_le (by omega)]
      simp
    rw [h1]
    have : endAt ws (s ++ [z]) = [] := by
      rw [List.eq_nil_iff_forall_not_mem]
      intro j hj
      obtain ⟨w, hw, hs⟩ := endAt_mem.1 hj
      have hm := List.mem_of_getElem? hw
      rcases suf_snoc hs with h | ⟨x, h, _⟩
      · exact hne w hm h
      · exact hz w hm (by rw [h]; simp)
    rw [this]
    rfl
  have e3 : ∀ e, e ≤ t.length → 0 < e → hitsAt ws (s ++ z :: t) (s.length + 1 + e) = (hitsAt ws t e).map fun h => (h.1, h.2.1 + (s.length + 1), h.2.2 + (s.length + 1)) := by
    intro e he h0
    unfold hitsAt
    have h1 : (s ++ z :: t).take (s.length + 1 + e) = s ++ z :: t.take e := by
      rw [List.take_append, List.take_of_length_le (by omega), show s.length + 1 + e - s.length = e + 1 by omega, List.take_succ_cons]
    have h2 : endAt ws (s ++ z :: t.take e) = endAt ws (t.take e) := by
      refine sorted_uniq _ _ (endAt_up ..) (endAt_up ..) fun j => ?_
      rw [endAt_mem, endAt_mem]
      constructor
      · rintro ⟨w, hw, hs⟩
        refine ⟨w, hw, ?_⟩
        have hm := List.mem_of_getElem? hw
        rcases Nat.le_total w.length (t.take e).length with hl | hl
        · exact suf_len hs ((List.suffix_cons _ _).trans (List.suffix_append _ _)) hl
        · rcases Nat.eq_or_lt_of_le hl with hl | hl
          · exact suf_len hs ((List.suffix_cons _ _).trans (List.suffix_append _ _)) (by omega)
          · exfalso
            have h3 : z :: t.take e <:+ w := suf_len (List.suffix_append _ _) hs (by simp at hl ⊢; omega)
            exact hz w hm (h3.subset (by simp))
      · rintro ⟨w, hw, hs⟩
        exact ⟨w, hw, hs.trans ((List.suffix_cons _ _).trans (List.suffix_append _ _))⟩
    rw [h1, h2, List.map_map]
    refine List.map_congr_left fun j hj => ?_
    obtain ⟨w, hw, hs⟩ := endAt_mem.1 hj
    have hl := hs.length_le
    rw [List.length_take] at hl
    have hg : ws.getD j [] = w := by simp [List.getD, hw]
    simp only [Function.comp, hg, Prod.mk.injEq, true_and]
    omega
  have e4 : ∀ n, n ≤ t.length → hitsTo ws (s ++ z :: t) (s.length + 1 + n) = hitsTo ws s s.length ++ (hitsTo ws t n).map fun h => (h.1, h.2.1 + (s.length + 1), h.2.2 + (s.length + 1)) := by
    intro n
    induction n with
    | zero =>
      intro _
      rw [Nat.add_zero, hitsTo_succ, e2, e1 _ (Nat.le_refl _)]
      simp [hitsTo]
    | succ n ih =>
      intro hn
      rw [show s.length + 1 + (n + 1) = (s.length + 1 + n) + 1 by omega, hitsTo_succ, ih (by omega), hitsTo_succ, List.map_append, ← e3 _ hn (by omega), List.append_assoc]
      rfl
  have hlen : (s ++ z :: t).length = s.length + 1 + t.length := by simp; omega
  unfold hitsL
  rw [hlen, e4 _ (Nat.le_refl _)]
end Wf
