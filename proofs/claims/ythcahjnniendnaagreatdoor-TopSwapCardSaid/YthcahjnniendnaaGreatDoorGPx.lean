/-
  Pk, Px, Ptw, Pts.
-/
import Derived.Test.YthcahjnniendnaaGreatDoorGPh
import Derived.Test.YthcahjnniendnaaGreatDoorGPl
/-
  Plain facts about many words in one text: the longest beginning of a word that ends here, told knot by knot. No program in sight.
-/
namespace Wf

section
variable (ws : List (List UInt8))

/-- A beginning of a word, or nothing. -/
def Knot (u : List UInt8) : Prop := u = [] ∨ ∃ w ∈ ws, u <+: w
/-- The longest end of t that is such a beginning. -/
def LongSuf (t u : List UInt8) : Prop := u <:+ t ∧ Knot ws u ∧ ∀ v, v <:+ t → Knot ws v → v.length ≤ u.length
/-- Where one goes back from u. -/
def Bk (u v : List UInt8) : Prop := LongSuf ws u.tail v

theorem Knot.of_snoc {ws : List (List UInt8)} {u : List UInt8} {b : UInt8} (h : Knot ws (u ++ [b])) : Knot ws u := by
  rcases h with h | ⟨w, hw, h⟩
  · simp at h
  · exact .inr ⟨w, hw, (List.prefix_append u [b]).trans h⟩

theorem suf_len {a b t : List UInt8} (h1 : a <:+ t) (h2 : b <:+ t) (h : a.length ≤ b.length) : a <:+ b := List.suffix_of_suffix_length_le h1 h2 h
theorem suf_eq {a b t : List UInt8} (h1 : a <:+ t) (h2 : b <:+ t) (h : a.length = b.length) : a = b := (suf_len h1 h2 (Nat.le_of_eq h)).eq_of_length h
theorem suf_tail {a u : List UInt8} (h : a <:+ u) (hl : a.length < u.length) : a <:+ u.tail := by
  obtain ⟨p, rfl⟩ := h
  cases p with
  | nil => simp at hl
  | cons x p => exact ⟨p, rfl⟩
theorem tail_suf (u : List UInt8) : u.tail <:+ u := List.tail_suffix u
theorem suf_snoc {v t : List UInt8} {b : UInt8} (h : v <:+ t ++ [b]) : v = [] ∨ ∃ x, v = x ++ [b] ∧ x <:+ t := by
  obtain ⟨p, h⟩ := h
  rcases List.eq_nil_or_concat v with rfl | ⟨x, c, rfl⟩
  · exact .inl rfl
  · right
    simp only [List.concat_eq_append, ← List.append_assoc] at h
    have h1 := List.append_inj_left' h rfl
    have h2 := List.append_inj_right' h rfl
    simp only [List.cons.injEq, and_true] at h2
    exact ⟨x, by rw [List.concat_eq_append, h2], p, h1⟩

variable {ws : List (List UInt8)}
theorem LongSuf.uniq {t u v : List UInt8} (h : LongSuf ws t u) (k : LongSuf ws t v) : u = v :=
  suf_eq h.1 k.1 (Nat.le_antisymm (k.2.2 u h.1 h.2.1) (h.2.2 v k.1 k.2.1))
theorem LongSuf.nil (ws : List (List UInt8)) : LongSuf ws [] [] := ⟨List.suffix_refl _, .inl rfl, fun v hv _ => by have := hv.length_le; simpa using this⟩
theorem Bk.root (ws : List (List UInt8)) : Bk ws [] [] := LongSuf.nil ws
theorem Bk.one (ws : List (List UInt8)) (b : UInt8) : Bk ws [b] [] := LongSuf.nil ws
theorem Bk.lt {u v : List UInt8} (h : Bk ws u v) (hu : u ≠ []) : v.length < u.length := by
  have h1 := h.1.length_le
  have h2 := List.length_pos_iff.2 hu
  rw [List.length_tail] at h1
  omega

/-- In the midst of a step: what is longer than u' does not go on by b. -/
def InStep (t : List UInt8) (b : UInt8) (u : List UInt8) : Prop := u <:+ t ∧ Knot ws u ∧ ∀ v, v <:+ t → Knot ws (v ++ [b]) → v.length ≤ u.length
theorem LongSuf.step {t u : List UInt8} (h : LongSuf ws t u) (b : UInt8) : InStep (ws := ws) t b u := ⟨h.1, h.2.1, fun v hv hk => h.2.2 v hv hk.of_snoc⟩
theorem InStep.back {t u v : List UInt8} {b : UInt8} (h : InStep (ws := ws) t b u) (hn : ¬ Knot ws (u ++ [b])) (hb : Bk ws u v) : InStep (ws := ws) t b v := by
  refine ⟨(hb.1.trans (tail_suf u)).trans h.1, hb.2.1, fun x hx hk => ?_⟩
  have h1 := h.2.2 x hx hk
  have h2 : x.length ≠ u.length := fun e => hn (by rw [← suf_eq hx h.1 e]; exact hk)
  exact hb.2.2 x (suf_tail (suf_len hx h.1 h1) (by omega)) hk.of_snoc
theorem InStep.done {t u : List UInt8} {b : UInt8} (h : InStep (ws := ws) t b u) (hk : Knot ws (u ++ [b])) : LongSuf ws (t ++ [b]) (u ++ [b]) := by
  refine ⟨?_, hk, fun v hv hkv => ?_⟩
  · obtain ⟨p, hp⟩ := h.1
    exact ⟨p, by rw [← hp, List.append_assoc]⟩
  · rcases suf_snoc hv with rfl | ⟨x, rfl, hx⟩
    · simp
    · have := h.2.2 x hx hkv; simp; exact this
theorem InStep.none {t : List UInt8} {b : UInt8} (h : InStep (ws := ws) t b []) (hk : ¬ Knot ws [b]) : LongSuf ws (t ++ [b]) [] := by
  refine ⟨List.nil_suffix, .inl rfl, fun v hv hkv => ?_⟩
  rcases suf_snoc hv with rfl | ⟨x, rfl, hx⟩
  · simp
  · have := h.2.2 x hx hkv
    have hx0 : x = [] := List.eq_nil_of_length_eq_zero (by simpa using this)
    subst hx0
    exact absurd hkv hk

/-- The step goes to the beginning behind it. -/
theorem Bk.snoc {u r : List UInt8} {b : UInt8} (hu : u ≠ []) (h : LongSuf ws (u.tail ++ [b]) r) : Bk ws (u ++ [b]) r := by
  unfold Bk
  rw [List.tail_append_of_ne_nil hu]
  exact h

/-- The words that end in u, each once. -/
def EndL (ws : List (List UInt8)) (u : List UInt8) (l : List Nat) : Prop := l.Nodup ∧ ∀ i, i ∈ l ↔ ∃ w, ws[i]? = some w ∧ w <:+ u
/-- The words that are u, each once. -/
def OwnL (ws : List (List UInt8)) (n : Nat) (u : List UInt8) (l : List Nat) : Prop := l.Nodup ∧ ∀ i, i ∈ l ↔ i < n ∧ ws[i]? = some u

theorem knot_word {i : Nat} {w : List UInt8} (h : ws[i]? = some w) : Knot ws w := .inr ⟨w, List.mem_of_getElem? h, List.prefix_refl _⟩
theorem EndL.root (hne : ∀ w ∈ ws, w ≠ []) : EndL ws [] [] := by
  refine ⟨by simp, fun i => ⟨fun h => by (cases h), ?_⟩⟩
  rintro ⟨w, hw, h⟩
  have : w = [] := List.eq_nil_of_length_eq_zero (by have := h.length_le; simpa using this)
  exact absurd this (hne w (List.mem_of_getElem? hw))
theorem EndL.of_back {u v : List UInt8} {l l' : List Nat} (hu : u ≠ []) (hb : Bk ws u v) (ho : OwnL ws ws.length u l) (he : EndL ws v l') : EndL ws u (l ++ l') := by
  have hv := hb.lt hu
  refine ⟨?_, fun i => ?_⟩
  · rw [List.nodup_append]
    refine ⟨ho.1, he.1, ?_⟩
    rintro i hi j hj rfl
    have h1 := ((ho.2 i).1 hi).2
    obtain ⟨w, h2, h3⟩ := (he.2 i).1 hj
    rw [h1] at h2
    cases h2
    have := h3.length_le
    omega
  · rw [List.mem_append, ho.2, he.2]
    constructor
    · rintro (⟨_, h⟩ | ⟨w, h1, h2⟩)
      · exact ⟨u, h, List.suffix_refl _⟩
      · exact ⟨w, h1, (h2.trans hb.1).trans (tail_suf u)⟩
    · rintro ⟨w, h1, h2⟩
      have hl := h2.length_le
      by_cases e : w.length = u.length
      · left
        have := h2.eq_of_length e
        subst this
        exact ⟨(List.getElem?_eq_some_iff.1 h1).1, h1⟩
      · right
        have h3 := suf_tail h2 (by omega)
        exact ⟨w, h1, suf_len h3 hb.1 (hb.2.2 w h3 (knot_word h1))⟩
theorem EndL.long {t u : List UInt8} {l : List Nat} (h : LongSuf ws t u) (he : EndL ws u l) : EndL ws t l := by
  refine ⟨he.1, fun i => ?_⟩
  rw [he.2]
  constructor
  · rintro ⟨w, h1, h2⟩; exact ⟨w, h1, h2.trans h.1⟩
  · rintro ⟨w, h1, h2⟩; exact ⟨w, h1, suf_len h2 h.1 (h.2.2 w h2 (knot_word h1))⟩

/-- The words that end behind t, in their order. -/
def endAt (ws : List (List UInt8)) (t : List UInt8) : List Nat := (List.range ws.length).filter fun i => (ws.getD i []).isSuffixOf t
theorem endAt_mem {t : List UInt8} {i : Nat} : i ∈ endAt ws t ↔ ∃ w, ws[i]? = some w ∧ w <:+ t := by
  unfold endAt
  rw [List.mem_filter, List.mem_range]
  constructor
  · rintro ⟨h1, h2⟩
    exact ⟨ws[i], List.getElem?_eq_getElem h1, by simpa [h1] using h2⟩
  · rintro ⟨w, h1, h2⟩
    have h3 := (List.getElem?_eq_some_iff.1 h1).1
    exact ⟨h3, by simp [h1]; exact h2⟩
theorem endAt_up (ws : List (List UInt8)) (t : List UInt8) : (endAt ws t).Pairwise (· < ·) := List.pairwise_lt_range.filter _
theorem endAt_len (ws : List (List UInt8)) (t : List UInt8) : (endAt ws t).length ≤ ws.length := by
  have := List.length_filter_le (fun i => (ws.getD i []).isSuffixOf t) (List.range ws.length)
  simpa [endAt] using this
theorem sorted_uniq : ∀ (a b : List Nat), a.Pairwise (· < ·) → b.Pairwise (· < ·) → (∀ j, j ∈ a ↔ j ∈ b) → a = b := by
  intro a
  induction a with
  | nil =>
    intro b _ _ hm
    cases b with
    | nil => rfl
    | cons y b => have := (hm y).2 (by simp); cases this
  | cons x a ih =>
    intro b ha hb hm
    cases b with
    | nil => have := (hm x).1 (by simp); cases this
    | cons y b =>
      rw [List.pairwise_cons] at ha hb
      have e : x = y := by
        have h1 := (hm x).1 (by simp)
        have h2 := (hm y).2 (by simp)
        rcases List.mem_cons.1 h1 with h1 | h1
        · exact h1
        · rcases List.mem_cons.1 h2 with h2 | h2
          · exact h2.symm
          · have := hb.1 x h1; have := ha.1 y h2; omega
      subst e
      rw [ih b ha.2 hb.2 fun j => ?_]
      constructor
      · intro hj
        have := (hm j).1 (by simp [hj])
        rcases List.mem_cons.1 this with rfl | h
        · have := ha.1 j hj; omega
        · exact h
      · intro hj
        have := (hm j).2 (by simp [hj])
        rcases List.mem_cons.1 this with rfl | h
        · have := hb.1 j hj; omega
        · exact h
/-- A row that rises and has the words that end here is the row of them. -/
theorem EndL.sorted {t : List UInt8} {l l' : List Nat} (h : EndL ws t l) (hp : l'.Perm l) (hs : l'.Pairwise (· ≤ ·)) : l' = endAt ws t := by
  refine sorted_uniq l' _ ?_ (endAt_up ws t) fun j => by rw [hp.mem_iff, h.2, endAt_mem]
  have hn : l'.Nodup := hp.nodup_iff.2 h.1
  have hb : l'.Pairwise fun x y => x ≤ y ∧ x ≠ y := List.pairwise_and_iff.2 ⟨hs, hn⟩
  exact hb.imp fun h => by omega

/-- All places of words, place by place: the word, where it begins, where it ends. -/
def hitsAt (ws : List (List UInt8)) (t : List UInt8) (e : Nat) : List (Nat × Nat × Nat) := (endAt ws (t.take e)).map fun i => (i, e - (ws.getD i []).length, e)
def hitsTo (ws : List (List UInt8)) (t : List UInt8) (n : Nat) : List (Nat × Nat × Nat) := (List.range n).flatMap fun i => hitsAt ws t (i + 1)
def hitsL (ws : List (List UInt8)) (t : List UInt8) : List (Nat × Nat × Nat) := hitsTo ws t t.length
theorem hitsTo_succ (ws : List (List UInt8)) (t : List UInt8) (n : Nat) : hitsTo ws t (n + 1) = hitsTo ws t n ++ hitsAt ws t (n + 1) := by
  simp [hitsTo, List.range_succ, List.flatMap_append]
theorem hitsTo_len (ws : List (List UInt8)) (t : List UInt8) (n : Nat) : (hitsTo ws t n).length ≤ n * ws.length := by
  induction n with
  | zero => simp [hitsTo]
  | succ n ih =>
    rw [hitsTo_succ, List.length_append, Nat.succ_mul]
    have : (hitsAt ws t (n + 1)).length ≤ ws.length := by simp [hitsAt]; exact endAt_len ws _
    omega
end

end Wf

/-
  Plain: the places of words: each stands where it is told; a word among others and alone; two texts with something between; a word more.
-/
namespace Wf
variable {ws : List (List UInt8)} {t : List UInt8}

theorem mem_hits {h : Nat × Nat × Nat} : h ∈ hitsL ws t ↔ ∃ w, ws[h.1]? = some w ∧ h.2.2 ≤ t.length ∧ 0 < h.2.2 ∧ w <:+ t.take h.2.2 ∧ h.2.1 = h.2.2 - w.length := by
  obtain ⟨i, a, b⟩ := h
  unfold hitsL hitsTo hitsAt
  simp only [List.mem_flatMap, List.mem_range, List.mem_map, Prod.mk.injEq]
  constructor
  · rintro ⟨e, he, j, hj, rfl, rfl, rfl⟩
    obtain ⟨w, hw, hs⟩ := endAt_mem.1 hj
    exact ⟨w, hw, by omega, by omega, hs, by simp [List.getD, hw]⟩
  · rintro ⟨w, hw, h1, h2, h3, h4⟩
    refine ⟨b - 1, by omega, i, ?_, rfl, ?_, by omega⟩
    · rw [show b - 1 + 1 = b by omega]
      exact endAt_mem.2 ⟨w, hw, h3⟩
    · rw [h4]; simp [List.getD, hw]; omega
/-- Each stands where it is told. -/
theorem hits_stand {h : Nat × Nat × Nat} (hm : h ∈ hitsL ws t) : ∃ w, ws[h.1]? = some w ∧ h.2.1 ≤ h.2.2 ∧ h.2.2 ≤ t.length ∧ (t.drop h.2.1).take (h.2.2 - h.2.1) = w := by
  obtain ⟨w, hw, h1, h2, h3, h4⟩ := mem_hits.1 hm
  refine ⟨w, hw, by omega, h1, ?_⟩
  have hl := h3.length_le
  rw [List.length_take] at hl
  have e := List.suffix_iff_eq_drop.1 h3
  rw [List.length_take, Nat.min_eq_left h1, List.drop_take] at e
  rw [h4]
  rw [show h.2.2 - (h.2.2 - w.length) = w.length by omega]
  rw [show h.2.2 - (h.2.2 - w.length) = w.length by omega] at e
  exact e.symm

theorem filter_range_one (n i : Nat) (p : Nat → Bool) : ((List.range n).filter p).filter (fun j => decide (j = i)) = if i < n ∧ p i = true then [i] else [] := by
  induction n with
  | zero => simp
  | succ n ih =>
    rw [List.range_succ, List.filter_append, List.filter_append, ih]
    by_cases hp : p n = true
    · by_cases e : n = i
      · subst e
        simp [hp]
      · have : (i < n + 1 ∧ p i = true) ↔ (i < n ∧ p i = true) := by constructor <;> rintro ⟨a, b⟩ <;> exact ⟨by omega, b⟩
        simp only [this]
        simp [hp, e]
    · have : (i < n + 1 ∧ p i = true) ↔ (i < n ∧ p i = true) := by
        constructor
        · rintro ⟨a, b⟩
          refine ⟨?_, b⟩
          rcases Nat.lt_or_ge i n with h | h
          · exact h
          · obtain rfl : i = n := by omega
            exact absurd b hp
        · rintro ⟨a, b⟩; exact ⟨by omega, b⟩
      simp only [this]
      simp [hp]
theorem filter_hits (p : Nat × Nat × Nat → Bool) (n : Nat) : (hitsTo ws t n).filter p = (List.range n).flatMap fun i => (hitsAt ws t (i + 1)).filter p := by
  induction n with
  | zero => simp [hitsTo]
  | succ n ih => rw [hitsTo_succ, List.filter_append, ih, List.range_succ, List.flatMap_append]; simp
/-- What is told of one word among others is what is told of it alone. -/
theorem hits_alone {i : Nat} {w : List UInt8} (hw : ws[i]? = some w) : ((hitsL ws t).filter fun h => decide (h.1 = i)).map (·.2) = (hitsL [w] t).map (·.2) := by
  have hi : i < ws.length := (List.getElem?_eq_some_iff.1 hw).1
  have key : ∀ e, ((hitsAt ws t e).filter fun h => decide (h.1 = i)).map (·.2) = (hitsAt [w] t e).map (·.2) := by
    intro e
    unfold hitsAt
    rw [List.filter_map]
    have h1 : ((fun h : Nat × Nat × Nat => decide (h.1 = i)) ∘ fun j => (j, e - (ws.getD j []).length, e)) = fun j => decide (j = i) := rfl
    rw [h1]
    unfold endAt
    rw [filter_range_one]
    have hg : ws.getD i [] = w := by simp [List.getD, hw]
    rw [hg]
    by_cases hs : w.isSuffixOf (t.take e) = true
    · rw [if_pos ⟨hi, hs⟩]
      simp [hs, List.getD, hw]
    · rw [if_neg (fun h => hs h.2)]
      simp [hs]
  have key2 : ∀ n, ((hitsTo ws t n).filter fun h => decide (h.1 = i)).map (·.2) = (hitsTo [w] t n).map (·.2) := by
    intro n
    induction n with
    | zero => simp [hitsTo]
    | succ n ih => rw [hitsTo_succ, hitsTo_succ, List.filter_append, List.map_append, List.map_append, ih, key]
  exact key2 _
/-- A word more: all that was told is told. -/
theorem hits_more (w : List UInt8) : ((hitsL (ws ++ [w]) t).filter fun h => decide (h.1 < ws.length)) = hitsL ws t ∧ ((hitsL (ws ++ [w]) t).filter fun h => !decide (h.1 < ws.length)).length = (hitsL [w] t).length := by
  have hend : ∀ s, endAt (ws ++ [w]) s = endAt ws s ++ if w.isSuffixOf s = true then [ws.length] else [] := by
    intro s
    unfold endAt
    rw [List.length_append, List.length_singleton, List.range_succ, List.filter_append]
    congr 1
    · refine List.filter_congr fun j hj => ?_
      rw [List.getD, List.getElem?_append_left (List.mem_range.1 hj)]
      rfl
    · simp [List.filter_cons]
  have hmem : ∀ s, ∀ j ∈ endAt ws s, j < ws.length := fun s j hj => by
    obtain ⟨x, hx, _⟩ := endAt_mem.1 hj
    exact (List.getElem?_eq_some_iff.1 hx).1
  have hat : ∀ e, hitsAt (ws ++ [w]) t e = hitsAt ws t e ++ if w.isSuffixOf (t.take e) = true then [(ws.length, e - w.length, e)] else [] := by
    intro e
    unfold hitsAt
    rw [hend, List.map_append]
    congr 1
    · refine List.map_congr_left fun j hj => ?_
      rw [List.getD, List.getElem?_append_left (hmem _ j hj)]
      rfl
    · split <;> simp
  have hlt : ∀ e, ∀ h ∈ hitsAt ws t e, h.1 < ws.length := fun e h hh => by
    obtain ⟨j, hj, rfl⟩ := List.mem_map.1 hh
    exact hmem _ j hj
  have key : ∀ n, ((hitsTo (ws ++ [w]) t n).filter fun h => decide (h.1 < ws.length)) = hitsTo ws t n ∧ ((hitsTo (ws ++ [w]) t n).filter fun h => !decide (h.1 < ws.length)).length = (hitsTo [w] t n).length := by
    intro n
    induction n with
    | zero => simp [hitsTo]
    | succ n ih =>
      have ha : (hitsAt ws t (n + 1)).filter (fun h => decide (h.1 < ws.length)) = hitsAt ws t (n + 1) := List.filter_eq_self.2 fun h hh => by simpa using hlt _ h hh
      have hb : (hitsAt ws t (n + 1)).filter (fun h => !decide (h.1 < ws.length)) = [] := List.filter_eq_nil_iff.2 fun h hh => by simpa using hlt _ h hh
      constructor
      · rw [hitsTo_succ, hitsTo_succ, List.filter_append, ih.1, hat, List.filter_append, ha]
        split <;> simp
      · rw [hitsTo_succ, hitsTo_succ, List.filter_append, List.length_append, List.length_append, ih.2, hat, List.filter_append, hb]
        have : (hitsAt [w] t (n + 1)).length = if w.isSuffixOf (t.take (n + 1)) = true then 1 else 0 := by
          unfold hitsAt endAt
          by_cases hs : w.isSuffixOf (t.take (n + 1)) = true <;> simp [hs, List.filter_cons]
        rw [this]
        split <;> simp
  exact key _

/-- Two texts with something between that is in no word. -/
theorem hits_two {z : UInt8} (hz : ∀ w ∈ ws, z ∉ w) (hne : ∀ w ∈ ws, w ≠ []) (s t : List UInt8) :
    hitsL ws (s ++ z :: t) = hitsL ws s ++ (hitsL ws t).map fun h => (h.1, h.2.1 + (s.length + 1), h.2.2 + (s.length + 1)) := by
  have e1 : ∀ n, n ≤ s.length → hitsTo ws (s ++ z :: t) n = hitsTo ws s n := by
    intro n
    induction n with
    | zero => intro _; rfl
    | succ n ih =>
      intro hn
      rw [hitsTo_succ, hitsTo_succ, ih (by omega)]
      unfold hitsAt
      rw [List.take_append_of_le_length hn]
  have e2 : hitsAt ws (s ++ z :: t) (s.length + 1) = [] := by
    unfold hitsAt
    have h1 : (s ++ z :: t).take (s.length + 1) = s ++ [z] := by
      rw [List.take_append, List.take_of_length_le (by omega)]
      simp
    rw [h1]
    have : endAt ws (s ++ [z]) = [] := by
      rw [List.eq_nil_iff_forall_not_mem]
      intro j hj
      obtain ⟨w, hw, hs⟩ := endAt_mem.1 hj
      have hm := List.mem_of_getElem? hw
      rcases suf_snoc hs with h | ⟨x, h, _⟩
      · exact hne w hm h
      · exact hz w hm (by rw [h]; simp)
    rw [this]
    rfl
  have e3 : ∀ e, e ≤ t.length → 0 < e → hitsAt ws (s ++ z :: t) (s.length + 1 + e) = (hitsAt ws t e).map fun h => (h.1, h.2.1 + (s.length + 1), h.2.2 + (s.length + 1)) := by
    intro e he h0
    unfold hitsAt
    have h1 : (s ++ z :: t).take (s.length + 1 + e) = s ++ z :: t.take e := by
      rw [List.take_append, List.take_of_length_le (by omega), show s.length + 1 + e - s.length = e + 1 by omega, List.take_succ_cons]
    have h2 : endAt ws (s ++ z :: t.take e) = endAt ws (t.take e) := by
      refine sorted_uniq _ _ (endAt_up ..) (endAt_up ..) fun j => ?_
      rw [endAt_mem, endAt_mem]
      constructor
      · rintro ⟨w, hw, hs⟩
        refine ⟨w, hw, ?_⟩
        have hm := List.mem_of_getElem? hw
        rcases Nat.le_total w.length (t.take e).length with hl | hl
        · exact suf_len hs ((List.suffix_cons _ _).trans (List.suffix_append _ _)) hl
        · rcases Nat.eq_or_lt_of_le hl with hl | hl
          · exact suf_len hs ((List.suffix_cons _ _).trans (List.suffix_append _ _)) (by omega)
          · exfalso
            have h3 : z :: t.take e <:+ w := suf_len (List.suffix_append _ _) hs (by simp at hl ⊢; omega)
            exact hz w hm (h3.subset (by simp))
      · rintro ⟨w, hw, hs⟩
        exact ⟨w, hw, hs.trans ((List.suffix_cons _ _).trans (List.suffix_append _ _))⟩
    rw [h1, h2, List.map_map]
    refine List.map_congr_left fun j hj => ?_
    obtain ⟨w, hw, hs⟩ := endAt_mem.1 hj
    have hl := hs.length_le
    rw [List.length_take] at hl
    have hg : ws.getD j [] = w := by simp [List.getD, hw]
    simp only [Function.comp, hg, Prod.mk.injEq, true_and]
    omega
  have e4 : ∀ n, n ≤ t.length → hitsTo ws (s ++ z :: t) (s.length + 1 + n) = hitsTo ws s s.length ++ (hitsTo ws t n).map fun h => (h.1, h.2.1 + (s.length + 1), h.2.2 + (s.length + 1)) := by
    intro n
    induction n with
    | zero =>
      intro _
      rw [Nat.add_zero, hitsTo_succ, e2, e1 _ (Nat.le_refl _)]
      simp [hitsTo]
    | succ n ih =>
      intro hn
      rw [show s.length + 1 + (n + 1) = (s.length + 1 + n) + 1 by omega, hitsTo_succ, ih (by omega), hitsTo_succ, List.map_append, ← e3 _ hn (by omega), List.append_assoc]
      rfl
  have hlen : (s ++ z :: t).length = s.length + 1 + t.length := by simp; omega
  unfold hitsL
  rw [hlen, e4 _ (Nat.le_refl _)]
end Wf

/-
  Plain: words are patterns, too.
-/
namespace Wf
open Go.Proofs.YthcahjnniendnaaGreatDoor (upTo_ upTo_mem)

/-- The pattern of a word, as a tree and as a row. -/
def wordT : List UInt8 → Rx
  | [] => .empty
  | [b] => .byte (ofL [b] zc)
  | b :: c :: r => .cat (.byte (ofL [b] zc)) (wordT (c :: r))
def wordR : List UInt8 → List Nd
  | [] => []
  | b :: r => (if r = [] then [] else [⟨3, zc⟩]) ++ ⟨1, ofL [b] zc⟩ :: wordR r
/-- The pattern that is one of some words. -/
def orT : List (List UInt8) → Rx
  | [] => .empty
  | [w] => wordT w
  | w :: x :: r => .alt (wordT w) (orT (x :: r))
def orR : List (List UInt8) → List Nd
  | [] => []
  | w :: r => (if r = [] then [] else [⟨4, zc⟩]) ++ (wordR w ++ orR r)

theorem flat_word : ∀ {w : List UInt8}, w ≠ [] → flat (wordT w) = wordR w := by
  intro w
  induction w with
  | nil => intro h; exact absurd rfl h
  | cons b r ih =>
    intro _
    cases r with
    | nil => simp [wordT, wordR, flat]
    | cons c r =>
      have := ih (by simp)
      rw [show wordT (b :: c :: r) = .cat (.byte (ofL [b] zc)) (wordT (c :: r)) from rfl, show wordR (b :: c :: r) = (if c :: r = [] then [] else [⟨3, zc⟩]) ++ ⟨1, ofL [b] zc⟩ :: wordR (c :: r) from rfl, ← this]
      simp [flat]
theorem flat_orT : ∀ {ws : List (List UInt8)}, ws ≠ [] → (∀ w ∈ ws, w ≠ []) → flat (orT ws) = orR ws := by
  intro ws
  induction ws with
  | nil => intro h; exact absurd rfl h
  | cons w r ih =>
    intro _ hne
    have hw := flat_word (hne w (by simp))
    cases r with
    | nil => simp [orT, orR, hw]
    | cons x r =>
      have := ih (by simp) fun w hw => hne w (by simp [hw])
      rw [show orT (w :: x :: r) = .alt (wordT w) (orT (x :: r)) from rfl, show orR (w :: x :: r) = (if x :: r = [] then [] else [⟨4, zc⟩]) ++ (wordR w ++ orR (x :: r)) from rfl, ← this, ← hw]
      simp [flat]
theorem ok_word : ∀ w : List UInt8, ∀ n ∈ wordR w, okC n.cls := by
  intro w
  induction w with
  | nil => intro n hn; cases hn
  | cons b r ih =>
    intro n hn
    rcases List.mem_append.1 hn with hn | hn
    · split at hn
      · cases hn
      · rw [List.mem_singleton.1 hn]; exact okC_zc
    · rcases List.mem_cons.1 hn with rfl | hn
      · exact okC_ofL _ _ okC_zc
      · exact ih n hn
theorem ok_orR : ∀ ws : List (List UInt8), ∀ n ∈ orR ws, okC n.cls := by
  intro ws
  induction ws with
  | nil => intro n hn; cases hn
  | cons w r ih =>
    intro n hn
    rcases List.mem_append.1 hn with hn | hn
    · split at hn
      · cases hn
      · rw [List.mem_singleton.1 hn]; exact okC_zc
    · rcases List.mem_append.1 hn with hn | hn
      · exact ok_word w n hn
      · exact ih n hn
theorem has_one (b c : UInt8) : has (ofL [b] zc) c.toNat = true ↔ c = b := by
  rw [has_ofL _ _ _ c.toNat_lt, has_zc]
  simp
  exact UInt8.toNat_inj
theorem fits_one {s : List UInt8} {b : UInt8} {i j : Nat} : Fits s (.byte (ofL [b] zc)) i j ↔ j = i + 1 ∧ s[i]? = some b := by
  show (j = i + 1 ∧ ∃ c, s[i]? = some c ∧ has (ofL [b] zc) c.toNat = true) ↔ _
  constructor
  · rintro ⟨h, c, hc, hh⟩
    rw [(has_one b c).1 hh] at hc
    exact ⟨h, hc⟩
  · rintro ⟨h, hc⟩
    exact ⟨h, b, hc, (has_one b b).2 rfl⟩
theorem pre_cons {s : List UInt8} {i : Nat} {b : UInt8} {w : List UInt8} : b :: w <+: s.drop i ↔ s[i]? = some b ∧ w <+: s.drop (i + 1) := by
  constructor
  · rintro ⟨r, hr⟩
    refine ⟨?_, r, ?_⟩
    · rw [← List.head?_drop, ← hr]; rfl
    · rw [← List.drop_drop, ← hr]; rfl
  · rintro ⟨h, r, hr⟩
    have hi := (List.getElem?_eq_some_iff.1 h)
    obtain ⟨hi, hb⟩ := hi
    rw [List.drop_eq_getElem_cons hi, hb]
    exact ⟨r, by rw [List.cons_append, hr]⟩
theorem fits_word {s : List UInt8} : ∀ {w : List UInt8} {i j : Nat}, Fits s (wordT w) i j ↔ j = i + w.length ∧ w <+: s.drop i := by
  intro w
  induction w with
  | nil => intro i j; show j = i ↔ _; simp
  | cons b r ih =>
    intro i j
    cases r with
    | nil =>
      rw [show wordT [b] = .byte (ofL [b] zc) from rfl, fits_one, pre_cons]
      simp
    | cons c r =>
      rw [show wordT (b :: c :: r) = .cat (.byte (ofL [b] zc)) (wordT (c :: r)) from rfl, pre_cons]
      show (∃ k, Fits s (.byte (ofL [b] zc)) i k ∧ Fits s (wordT (c :: r)) k j) ↔ _
      constructor
      · rintro ⟨k, h1, h2⟩
        obtain ⟨rfl, h3⟩ := fits_one.1 h1
        obtain ⟨rfl, h4⟩ := ih.1 h2
        exact ⟨by simp only [List.length_cons]; omega, h3, h4⟩
      · rintro ⟨rfl, h1, h2⟩
        exact ⟨i + 1, fits_one.2 ⟨rfl, h1⟩, ih.2 ⟨by simp only [List.length_cons]; omega, h2⟩⟩
theorem fits_orT {s : List UInt8} : ∀ {ws : List (List UInt8)} {i j : Nat}, ws ≠ [] → (Fits s (orT ws) i j ↔ ∃ w ∈ ws, j = i + w.length ∧ w <+: s.drop i) := by
  intro ws
  induction ws with
  | nil => intro i j h; exact absurd rfl h
  | cons w r ih =>
    intro i j _
    cases r with
    | nil =>
      rw [show orT [w] = wordT w from rfl, fits_word]
      simp
    | cons x r =>
      rw [show orT (w :: x :: r) = .alt (wordT w) (orT (x :: r)) from rfl]
      show (Fits s (wordT w) i j ∨ Fits s (orT (x :: r)) i j) ↔ _
      rw [fits_word, ih (by simp)]
      constructor
      · rintro (h | ⟨y, hy, h⟩)
        · exact ⟨w, by simp, h⟩
        · exact ⟨y, by simp [hy], h⟩
      · rintro ⟨y, hy, h⟩
        rcases List.mem_cons.1 hy with rfl | hy
        · exact .inl h
        · exact .inr ⟨y, hy, h⟩

/-- Where one of the words stands. -/
theorem word_at {ws : List (List UInt8)} {t : List UInt8} (hne : ∀ w ∈ ws, w ≠ []) (hws : ws ≠ []) {i j : Nat} (hi : i ≤ t.length) : Fits t (orT ws) i j ↔ ∃ k, (k, i, j) ∈ hitsL ws t := by
  rw [fits_orT hws]
  constructor
  · rintro ⟨w, hw, rfl, hp⟩
    obtain ⟨k, hk⟩ := List.mem_iff_getElem?.1 hw
    have hl := hp.length_le
    rw [List.length_drop] at hl
    have hpos : 0 < w.length := List.length_pos_iff.2 (hne w hw)
    refine ⟨k, mem_hits.2 ⟨w, hk, by show i + w.length ≤ _; omega, by show 0 < i + w.length; omega, ?_, by show i = i + w.length - w.length; omega⟩⟩
    show w <:+ t.take (i + w.length)
    rw [List.take_add, ← List.prefix_iff_eq_take.1 hp]
    exact List.suffix_append _ _
  · rintro ⟨k, hk⟩
    obtain ⟨w, hw, h1, h2, h3, h4⟩ := mem_hits.1 hk
    dsimp only at h1 h2 h3 h4 hw
    have hl := h3.length_le
    rw [List.length_take] at hl
    refine ⟨w, List.mem_of_getElem? hw, by omega, ?_⟩
    obtain ⟨_, hw', _, _, h5⟩ := hits_stand hk
    dsimp only at h5 hw'
    rw [hw] at hw'
    cases hw'
    rw [← h5]
    exact List.take_prefix _ _

/-- The ends from a place. -/
noncomputable def endsO (t : List UInt8) (p : Rx) (i : Nat) : List Nat := upTo_ (Fits t p i) (t.length + 1)
theorem endsO_mem {t : List UInt8} {p : Rx} {i j : Nat} (hi : i ≤ t.length) : j ∈ endsO t p i ↔ Fits t p i j := by
  unfold endsO
  rw [upTo_mem]
  exact ⟨fun h => h.2, fun h => ⟨by have := (fits_bound t p i j h hi).2; omega, h⟩⟩
theorem endsO_nodup (t : List UInt8) (p : Rx) (i : Nat) : (endsO t p i).Nodup := by
  unfold endsO upTo_
  exact List.Pairwise.imp (fun h => Nat.ne_of_lt h) (List.pairwise_lt_range.filter _)
/-- All ends, from the first places. -/
noncomputable def endsAll (t : List UInt8) (p : Rx) (n : Nat) : List (Nat × Nat) := (List.range n).flatMap fun i => (endsO t p i).map fun j => (i, j)
theorem endsAll_succ (t : List UInt8) (p : Rx) (n : Nat) : (endsAll t p (n + 1)).length = (endsAll t p n).length + (endsO t p n).length := by
  unfold endsAll
  rw [List.range_succ, List.flatMap_append, List.length_append]
  simp
theorem nodup_map_inj {α β : Type} {f : α → β} : ∀ {l : List α}, l.Nodup → (∀ a ∈ l, ∀ b ∈ l, f a = f b → a = b) → (l.map f).Nodup := by
  intro l
  induction l with
  | nil => intro _ _; simp
  | cons x r ih =>
    intro h hf
    obtain ⟨h1, h2⟩ := List.nodup_cons.1 h
    rw [List.map_cons, List.nodup_cons]
    refine ⟨fun hm => ?_, ih h2 fun a ha b hb => hf a (by simp [ha]) b (by simp [hb])⟩
    obtain ⟨y, hy, he⟩ := List.mem_map.1 hm
    exact h1 (hf y (by simp [hy]) x (by simp) he ▸ hy)
theorem endsAll_nodup (t : List UInt8) (p : Rx) (n : Nat) : (endsAll t p n).Nodup := by
  refine List.pairwise_flatMap.2 ⟨fun i _ => ?_, List.Pairwise.imp (fun {a b} h x hx y hy e => ?_) List.pairwise_lt_range⟩
  · exact nodup_map_inj (endsO_nodup t p i) fun a _ b _ e => (Prod.mk.inj e).2
  · obtain ⟨_, _, rfl⟩ := List.mem_map.1 hx
    obtain ⟨_, _, rfl⟩ := List.mem_map.1 hy
    exact absurd (Prod.mk.inj e).1 (Nat.ne_of_lt h)
theorem hits_nodup (ws : List (List UInt8)) (t : List UInt8) : (hitsL ws t).Nodup := by
  refine List.pairwise_flatMap.2 ⟨fun e _ => ?_, List.Pairwise.imp (fun {a b} h x hx y hy e => ?_) List.pairwise_lt_range⟩
  · refine nodup_map_inj (List.Pairwise.imp (fun h => Nat.ne_of_lt h) (endAt_up ws _)) fun a _ b _ e => (Prod.mk.inj e).1
  · obtain ⟨_, _, rfl⟩ := List.mem_map.1 hx
    obtain ⟨_, _, rfl⟩ := List.mem_map.1 hy
    have := (Prod.mk.inj (Prod.mk.inj e).2).2
    omega
/-- As many ends as hits. -/
theorem ends_hits {ws : List (List UInt8)} {t : List UInt8} (hne : ∀ w ∈ ws, w ≠ []) (hws : ws ≠ []) (hnd : ws.Nodup) : (endsAll t (orT ws) (t.length + 1)).length = (hitsL ws t).length := by
  have h1 : ((hitsL ws t).map (·.2)).Nodup := by
    refine nodup_map_inj (hits_nodup ws t) fun a ha b hb e => ?_
    obtain ⟨i, p⟩ := a
    obtain ⟨k, q⟩ := b
    obtain rfl : p = q := e
    obtain ⟨w, hw, _, _, h3⟩ := hits_stand ha
    obtain ⟨x, hx, _, _, h4⟩ := hits_stand hb
    dsimp only at hw hx h3 h4
    have hwx : w = x := h3.symm.trans h4
    subst hwx
    obtain ⟨hi, e1⟩ := List.getElem?_eq_some_iff.1 hw
    obtain ⟨hk, e2⟩ := List.getElem?_eq_some_iff.1 hx
    have : i = k := by
      rcases Nat.lt_trichotomy i k with h | h | h
      · exact absurd (e1.trans e2.symm) (List.pairwise_iff_getElem.1 hnd i k hi hk h)
      · exact h
      · exact absurd (e2.trans e1.symm) (List.pairwise_iff_getElem.1 hnd k i hk hi h)
    rw [this]
  rw [← List.length_map (as := hitsL ws t) (·.2)]
  refine List.Perm.length_eq ((List.perm_ext_iff_of_nodup (endsAll_nodup t _ _) h1).2 fun q => ?_)
  obtain ⟨i, j⟩ := q
  unfold endsAll
  simp only [List.mem_flatMap, List.mem_range, List.mem_map, Prod.mk.injEq]
  constructor
  · rintro ⟨i', hi, j', hj, rfl, rfl⟩
    obtain ⟨k, hk⟩ := (word_at hne hws (by omega)).1 ((endsO_mem (by omega)).1 hj)
    exact ⟨(k, i', j'), hk, rfl⟩
  · rintro ⟨⟨k, q⟩, hk, e⟩
    have e' : q = (i, j) := e
    subst e'
    obtain ⟨w, _, h1, h2, _⟩ := hits_stand hk
    dsimp only at h1 h2
    exact ⟨i, by omega, j, (endsO_mem (by omega)).2 ((word_at hne hws (by omega)).2 ⟨k, hk⟩), rfl, rfl⟩
end Wf

/-
  Plain: a text joined by one byte that stands nowhere in its pieces is split there into its pieces.
-/
namespace Wf

/-- The pattern of one byte. -/
def oneT (b : UInt8) : Rx := .byte (ofL [b] zc)
theorem long_one {s : List UInt8} {b : UInt8} {i : Nat} (hi : i ≤ s.length) : longO s (oneT b) i = if s[i]? = some b then some (i + 1) else none := by
  by_cases h : s[i]? = some b
  · rw [if_pos h]
    cases hl : longO s (oneT b) i with
    | none =>
      have hlt := (List.getElem?_eq_some_iff.1 h).1
      exact absurd (fits_one.2 ⟨rfl, h⟩) (longO_none.1 hl (i + 1) (by omega))
    | some j => rw [(fits_one.1 (longO_some hl).1).1]
  · rw [if_neg h]
    exact longO_none.2 fun j _ hf => h (fits_one.1 hf).2
theorem find_one {s : List UInt8} {b : UInt8} : ∀ {x r : List UInt8} {i : Nat}, s.drop i = x ++ b :: r → b ∉ x → findO (longO s (oneT b)) s.length i = some (i + x.length, i + x.length + 1) := by
  intro x r i h hx
  have hlen : i + x.length < s.length := by
    have := congrArg List.length h
    simp only [List.length_drop, List.length_append, List.length_cons] at this
    omega
  have hget : ∀ k, s[i + k]? = (x ++ b :: r)[k]? := fun k => by rw [← h, List.getElem?_drop]
  refine findO_mk (by omega) (by omega) ?_ fun k h1 h2 => ?_
  · rw [long_one (by omega), if_pos]
    rw [hget, List.getElem?_append_right (Nat.le_refl _), Nat.sub_self]; rfl
  · rw [long_one (by omega), if_neg]
    intro hk
    have e : k = i + (k - i) := by omega
    rw [e, hget, List.getElem?_append_left (by omega)] at hk
    exact hx (List.mem_of_getElem? hk)
theorem find_one_no {s : List UInt8} {b : UInt8} {i : Nat} (h : b ∉ s.drop i) : findO (longO s (oneT b)) s.length i = none := by
  refine findO_no.2 fun k h1 h2 => ?_
  rw [long_one h2, if_neg]
  intro hk
  refine h (List.mem_of_getElem? (i := k - i) ?_)
  rw [List.getElem?_drop, show i + (k - i) = k by omega]
  exact hk
theorem ba_ext {a b : ByteArray} (h : a.data.toList = b.data.toList) : a = b := ByteArray.ext (Array.toList_inj.1 h)
theorem join_more (sep x y : List UInt8) (r : List (List UInt8)) : Go.Lib.join (x :: y :: r) sep = x ++ (sep ++ Go.Lib.join (y :: r) sep) := by simp [Go.Lib.join, List.intercalate]
/-- Split where it was joined. -/
theorem cut_join {b : UInt8} {tx : ByteArray} : ∀ (xs : List ByteArray) (i : Nat), xs ≠ [] → i ≤ tx.size → tx.data.toList.drop i = Go.Lib.join (xs.map (·.data.toList)) [b] → (∀ x ∈ xs, b ∉ x.data.toList) →
    cutB tx i (spansO tx.data.toList (oneT b) i) ++ [tx.extract (lastB i (spansO tx.data.toList (oneT b) i)) tx.size] = xs := by
  have hsz : tx.data.toList.length = tx.size := by simp
  intro xs
  induction xs with
  | nil => intro i h; exact absurd rfl h
  | cons x r ih =>
    intro i _ hi h hno
    have hx := hno x (by simp)
    cases r with
    | nil =>
      rw [List.map_cons, List.map_nil, Go.Lib.join_one] at h
      have hn : spansO tx.data.toList (oneT b) i = [] := allO_none (find_one_no (by rw [h]; exact hx))
      rw [hn]
      show [] ++ [tx.extract i tx.size] = [x]
      rw [List.nil_append]
      congr 1
      refine ba_ext ?_
      rw [ext_list, List.take_of_length_le (by omega), h]
    | cons y r =>
      rw [List.map_cons, List.map_cons, join_more] at h
      have hf := find_one (b := b) h hx
      have hlx : x.data.toList.length = x.size := by simp
      have hs : spansO tx.data.toList (oneT b) i = (i + x.data.toList.length, i + x.data.toList.length + 1) :: spansO tx.data.toList (oneT b) (i + x.data.toList.length + 1) := by
        unfold spansO
        rw [allO_some (long_behind _ _) hf]
        unfold behind
        rw [if_neg (by omega)]
      have hd : tx.data.toList.drop (i + x.data.toList.length + 1) = Go.Lib.join ((y :: r).map (·.data.toList)) [b] := by
        rw [Nat.add_assoc, ← List.drop_drop, h, ← List.drop_drop, List.drop_left]
        rfl
      have hle : i + x.data.toList.length + 1 ≤ tx.size := by
        have := congrArg List.length h
        simp only [List.length_drop, List.length_append, List.length_cons] at this
        omega
      have hi2 := ih (i + x.data.toList.length + 1) (by simp) hle hd fun z hz => hno z (by simp [hz])
      rw [hs]
      show tx.extract i (i + x.data.toList.length) :: (cutB tx (i + x.data.toList.length + 1) (spansO tx.data.toList (oneT b) (i + x.data.toList.length + 1))) ++ [tx.extract (lastB (i + x.data.toList.length + 1) (spansO tx.data.toList (oneT b) (i + x.data.toList.length + 1))) tx.size] = x :: y :: r
      rw [List.cons_append, hi2]
      congr 1
      refine ba_ext ?_
      rw [ext_list, List.drop_take, h, Nat.add_sub_cancel_left, List.take_left]
theorem pieces_join {b : UInt8} {tx : ByteArray} {xs : List ByteArray} (hne : xs ≠ []) (h : tx.data.toList = Go.Lib.join (xs.map (·.data.toList)) [b]) (hno : ∀ x ∈ xs, b ∉ x.data.toList) :
    piecesB tx (spansO tx.data.toList (oneT b) 0) = xs := cut_join xs 0 hne (Nat.zero_le _) (by simpa using h) hno
theorem count_join {b : UInt8} : ∀ {xs : List (List UInt8)}, xs ≠ [] → (∀ x ∈ xs, b ∉ x) → (Go.Lib.join xs [b]).count b + 1 = xs.length := by
  intro xs
  induction xs with
  | nil => intro h; exact absurd rfl h
  | cons x r ih =>
    intro _ hno
    have hx : x.count b = 0 := List.count_eq_zero.2 (hno x (by simp))
    cases r with
    | nil => rw [Go.Lib.join_one, hx]; rfl
    | cons y r =>
      have := ih (by simp) fun z hz => hno z (by simp [hz])
      rw [join_more, List.count_append, List.count_append, hx]
      simp only [List.count_cons, List.count_nil, beq_self_eq_true, if_true, List.length_cons] at this ⊢
      omega
/-- Pieces of a text in which a byte does not stand. -/
theorem pieces_no {b : UInt8} {tx : ByteArray} (h : b ∉ tx.data.toList) (l : List (Nat × Nat)) : ∀ x ∈ piecesB tx l, b ∉ x.data.toList := by
  have hx : ∀ f a, b ∉ (tx.extract f a).data.toList := fun f a hm => by
    rw [ext_list] at hm
    exact h (List.mem_of_mem_take (List.mem_of_mem_drop hm))
  have hc : ∀ (l : List (Nat × Nat)) f, ∀ x ∈ cutB tx f l, b ∉ x.data.toList := by
    intro l
    induction l with
    | nil => intro f x hx; cases hx
    | cons p r ih =>
      intro f x hm
      rcases List.mem_cons.1 hm with rfl | hm
      · exact hx _ _
      · exact ih _ x hm
  intro x hm
  rcases List.mem_append.1 hm with hm | hm
  · exact hc l 0 x hm
  · rw [List.mem_singleton.1 hm]; exact hx _ _
theorem pieces_ne (tx : ByteArray) (l : List (Nat × Nat)) : piecesB tx l ≠ [] := fun h => by have := congrArg List.length h; rw [piecesB_len] at this; cases this
end Wf
