/-
  Plain facts about patterns as texts: what is printed is read. No program in sight.
-/
import Derived.Test.YthcahjnniendnabDoorPy
namespace Wf

/-! What is read, with no guard. -/
theorem catS_end {s : List UInt8} {i : Nat} (h : stopS s i = true) : catS s i = .ok .empty i := by rw [catS, if_pos h]
theorem catS_bad {s : List UInt8} {i k : Nat} (h : stopS s i = false) (ha : atomS s i = .bad k) : catS s i = .bad k := by
  rw [catS, if_neg (by rw [h]; simp), ha]
theorem catS_one {s : List UInt8} {i j : Nat} {t : Rx} (h : stopS s i = false) (ha : atomS s i = .ok t j) (hs : stopS s (signsS s j t).2 = true) : catS s i = .ok (signsS s j t).1 (signsS s j t).2 := by
  rw [catS, if_neg (by rw [h]; simp), ha]
  simp only
  rw [if_pos hs]
theorem catS_more {s : List UInt8} {i j : Nat} {t : Rx} (h : stopS s i = false) (ha : atomS s i = .ok t j) (hs : stopS s (signsS s j t).2 = false) : catS s i = match catS s (signsS s j t).2 with
    | .bad k => .bad k
    | .ok u k => .ok (.cat (signsS s j t).1 u) k := by
  have hi := stopS_no h
  obtain ⟨g1, g2, g3, _⟩ := (read_ok _ i (Nat.le_refl _) (by omega)).1 _ _ ha
  obtain ⟨k1, _⟩ := signsS_ok _ j t (Nat.le_refl _) g2 g3
  rw [catS, if_neg (by rw [h]; simp), ha]
  simp only
  rw [if_neg (by rw [hs]; simp), if_pos (by omega)]
  all_goals cases catS s (signsS s j t).2 <;> rfl
theorem orS_bad {s : List UInt8} {i k : Nat} (hc : catS s i = .bad k) : orS s i = .bad k := by rw [orS, hc]
theorem orS_one {s : List UInt8} {i j : Nat} {t : Rx} (hc : catS s i = .ok t j) (h : s[j]? ≠ some 124) : orS s i = .ok t j := by
  rw [orS, hc]
  simp only
  rw [if_neg h]
theorem orS_more {s : List UInt8} {i j : Nat} {t : Rx} (hi : i ≤ s.length) (hc : catS s i = .ok t j) (h : s[j]? = some 124) : orS s i = match orS s (j + 1) with
    | .bad k => .bad k
    | .ok u k => .ok (.alt t u) k := by
  obtain ⟨g1, _⟩ := (read_ok _ i (Nat.le_refl _) hi).2.1 _ _ hc
  rw [orS, hc]
  simp only
  rw [if_pos h, if_pos ⟨g1, hi⟩]
  all_goals cases orS s (j + 1) <;> rfl

/-! What is printed. -/
/-- Does a part stand in brackets? -/
def bnd (parent : Nat) (second : Bool) : Rx → Bool
  | .empty => parent != 4
  | .alt _ _ => parent != 4 || !second
  | .cat _ _ => parent != 4 && (parent != 3 || !second)
  | _ => false
def wrapT (b : Bool) (x : List UInt8) : List UInt8 := if b then 40 :: (x ++ [41]) else x
/-- A pattern as a text. -/
def textT : Rx → List UInt8
  | .byte c => textC c
  | .empty => []
  | .cat a b => wrapT (bnd 3 false a) (textT a) ++ wrapT (bnd 3 true b) (textT b)
  | .alt a b => wrapT (bnd 4 false a) (textT a) ++ 124 :: wrapT (bnd 4 true b) (textT b)
  | .star a => wrapT (bnd 5 false a) (textT a) ++ [42]
  | .plus a => wrapT (bnd 6 false a) (textT a) ++ [43]
  | .opt a => wrapT (bnd 7 false a) (textT a) ++ [63]
  | .bgn => [94]
  | .fin => [36]
/-- A part that signs may stand behind. -/
def unitT (t : Rx) : List UInt8 := wrapT (bnd 5 false t) (textT t)

theorem bnd_3 (t : Rx) : bnd 3 false t = bnd 5 false t := by cases t <;> rfl
theorem bnd_6 (t : Rx) : bnd 6 false t = bnd 5 false t := by cases t <;> rfl
theorem bnd_7 (t : Rx) : bnd 7 false t = bnd 5 false t := by cases t <;> rfl

/-! One byte's text is read. -/
theorem drop_get {s l : List UInt8} {i : Nat} (h : s.drop i = l) (k : Nat) : s[i + k]? = l[k]? := by rw [← h, List.getElem?_drop]
theorem drop_more {s l r : List UInt8} {i : Nat} (h : s.drop i = l ++ r) : s.drop (i + l.length) = r := by
  rw [← List.drop_drop, h, List.drop_left]
theorem drop_head {s r : List UInt8} {i : Nat} {c : UInt8} (h : s.drop i = c :: r) : s[i]? = some c ∧ s.drop (i + 1) = r ∧ i < s.length := by
  have h1 := drop_get h 0
  simp at h1
  exact ⟨h1, drop_more (l := [c]) h, getE_lt h1⟩

theorem one_hex : ∀ b : Fin 256, (b.val < 32 ∨ 126 < b.val) → hexV (hexD (b.val / 16)) = some (b.val / 16) ∧ hexV (hexD (b.val % 16)) = some (b.val % 16) := by decide +kernel
theorem one_plain : ∀ b : Fin 256, ¬(b.val < 32 ∨ 126 < b.val) → (UInt8.ofNat b.val).toNat = b.val ∧ (UInt8.ofNat b.val ∈ specialL → UInt8.ofNat b.val ≠ 120) ∧ (UInt8.ofNat b.val ∉ specialL → UInt8.ofNat b.val ≠ 92) := by decide +kernel
theorem byteT_read {s r : List UInt8} {i b : Nat} (hb : b < 256) (h : s.drop i = byteT b ++ r) : oneS s i = .ok b (i + (byteT b).length) := by
  have h0 := drop_get h 0
  have h1 := drop_get h 1
  have h2 := drop_get h 2
  have h3 := drop_get h 3
  rw [Nat.add_zero] at h0
  unfold byteT at h0 h1 h2 h3 ⊢
  by_cases c1 : b < 32 ∨ 126 < b
  · rw [if_pos c1] at h0 h1 h2 h3 ⊢
    obtain ⟨e1, e2⟩ := one_hex ⟨b, hb⟩ c1
    simp at h0 h1 h2 h3 e1 e2
    unfold oneS hexS
    rw [h0, h1, h2, h3]
    simp only [e1, e2]
    rw [if_pos (by decide), if_pos (by decide)]
    simp
    omega
  · rw [if_neg c1] at h0 h1 h2 h3 ⊢
    obtain ⟨e1, e2, e3⟩ := one_plain ⟨b, hb⟩ c1
    simp only at e1 e2 e3
    by_cases c2 : UInt8.ofNat b ∈ specialL
    · rw [if_pos c2] at h0 h1 h2 h3 ⊢
      simp at h0 h1
      unfold oneS
      rw [h0, h1]
      simp only
      rw [if_pos (by decide), if_neg (e2 c2), if_pos c2, e1]
      rfl
    · rw [if_neg c2] at h0 h1 h2 h3 ⊢
      simp at h0
      unfold oneS
      rw [h0]
      simp only
      rw [if_neg (e3 c2), if_neg (by rw [e1]; exact fun h => h.elim (fun h => c1 (.inl h)) (fun h => h.elim (fun h => c1 (.inr h)) c2)), e1]
      rfl
theorem byteT_first (b : Nat) (hb : b < 256) : ∃ x t, byteT b = x :: t ∧ x ≠ 45 ∧ x ≠ 93 ∧ x ≠ 46 ∧ x ≠ 91 ∧ x ≠ 40 ∧ x ≠ 94 ∧ x ≠ 36 ∧ x ≠ 124 ∧ x ≠ 41 ∧ x ≠ 42 ∧ x ≠ 43 ∧ x ≠ 63 := by
  have h : ∀ b : Fin 256, (match byteT b.val with | [] => false | x :: _ => decide (x ≠ 45 ∧ x ≠ 93 ∧ x ≠ 46 ∧ x ≠ 91 ∧ x ≠ 40 ∧ x ≠ 94 ∧ x ≠ 36 ∧ x ≠ 124 ∧ x ≠ 41 ∧ x ≠ 42 ∧ x ≠ 43 ∧ x ≠ 63)) = true := by decide +kernel
  have := h ⟨b, hb⟩
  simp only at this
  split at this
  · cases this
  · rename_i x t e; exact ⟨x, t, e, of_decide_eq_true this⟩

theorem itemT_read {s r : List UInt8} {i : Nat} {p : Nat × Nat} (h1 : p.1 ≤ p.2) (h2 : p.2 < 256) (hr : r.head? ≠ some 45) (h : s.drop i = itemT p ++ r) : itemS s i = .ok p (i + (itemT p).length) := by
  obtain ⟨lo, hi⟩ := p
  simp only at h1 h2
  unfold itemT at h ⊢
  simp only at h ⊢
  unfold itemS
  by_cases e : lo = hi
  · subst e
    rw [if_pos rfl] at h ⊢
    rw [byteT_read h2 h]
    simp only
    have h3 := drop_get (drop_more h) 0
    rw [Nat.add_zero] at h3
    rw [h3, if_neg (by cases r <;> simp at hr ⊢; exact hr)]
  · rw [if_neg e] at h ⊢
    rw [List.append_assoc, List.append_assoc] at h
    rw [byteT_read (by omega) h]
    simp only
    have h3 := drop_more h
    obtain ⟨g1, g2, _⟩ := drop_head h3
    rw [if_pos g1, byteT_read h2 g2]
    simp only
    rw [if_neg (by omega)]
    simp
    omega

/-- Items' classes, one after the other. -/
def foldI (l : List (Nat × Nat)) (c : Cls) : Cls := l.foldl (fun c p => eitherC c (spanC p.1 p.2)) c
theorem okC_fold (l : List (Nat × Nat)) : ∀ c, okC c → okC (foldI l c) := by
  induction l with
  | nil => intro c h; exact h
  | cons p l ih => intro c h; exact ih _ (okC_either h (okC_span _ _))
theorem has_fold (l : List (Nat × Nat)) (hl : okI l) : ∀ c x, x < 256 → (has (foldI l c) x = true ↔ has c x = true ∨ ∃ p ∈ l, p.1 ≤ x ∧ x ≤ p.2) := by
  induction l with
  | nil => intro c x hx; simp [foldI]
  | cons p l ih =>
    intro c x hx
    show has (foldI l (eitherC c (spanC p.1 p.2))) x = true ↔ _
    rw [ih (fun q hq => hl q (by simp [hq])) _ x hx, has_either, has_span (hl p (by simp)).2 hx]
    simp [or_assoc]
theorem items_read {s r : List UInt8} : ∀ (l : List (Nat × Nat)), okI l → ∀ (i : Nat) (c : Cls), s.drop i = l.flatMap itemT ++ 93 :: r → itemsS s i c = .ok (foldI l c) (i + (l.flatMap itemT).length + 1) := by
  intro l
  induction l with
  | nil =>
    intro _ i c h
    obtain ⟨g1, _⟩ := drop_head (show s.drop i = 93 :: r by simpa using h)
    rw [itemsS_end c g1]
    rfl
  | cons p l ih =>
    intro hl i c h
    rw [List.flatMap_cons, List.append_assoc] at h
    obtain ⟨p1, p2⟩ := hl p (by simp)
    have hl' : okI l := fun q hq => hl q (by simp [hq])
    have hhead : (l.flatMap itemT ++ 93 :: r).head? ≠ some 45 := by
      cases l with
      | nil => simp
      | cons q l =>
        obtain ⟨x, t, e, hx, _⟩ := byteT_first q.1 (by have := hl' q (by simp); omega)
        rw [List.flatMap_cons]
        unfold itemT
        split <;> simp [e] <;> exact hx
    have hi := itemT_read p1 p2 hhead h
    have hne : s[i]? ≠ some 93 := by
      obtain ⟨x, t, e, _, hx, _⟩ := byteT_first p.1 (by omega)
      have h0 := drop_get h 0
      rw [Nat.add_zero] at h0
      rw [h0]
      unfold itemT
      split <;> simp [e] <;> exact hx
    rw [itemsS_more c hne hi, ih hl' _ _ (drop_more h)]
    simp [foldI]
    omega

theorem fold_items {c : Cls} (hc : okC c) : foldI (items c 0) zc = c := by
  refine cls_ext (okC_fold _ _ okC_zc) hc fun x hx => ?_
  rw [Bool.eq_iff_iff, has_fold _ (mem_items c 0).1 zc x hx, (mem_items c 0).2 x]
  simp [has_zc, hx]

theorem textC_read {s r : List UInt8} {i : Nat} {c : Cls} (hc : okC c) (h : s.drop i = textC c ++ r) : atomS s i = .ok (.byte c) (i + (textC c).length) := by
  unfold textC at h ⊢
  by_cases h1 : cntC c = 1
  · rw [if_pos h1] at h ⊢
    obtain ⟨l1, m1⟩ := cnt_one_least h1
    obtain ⟨x, t, e, _, _, n46, n91, n40, n94, n36, _⟩ := byteT_first _ l1
    have hr := byteT_read l1 h
    have h0 := drop_get h 0
    rw [Nat.add_zero, e] at h0
    simp at h0
    obtain ⟨hlt, hx⟩ := List.getElem?_eq_some_iff.1 h0
    have ec : withB zc (least c 0) = c := by
      refine cls_ext (okC_with okC_zc _) hc fun y hy => ?_
      rw [has_with zc _ y l1 hy, Bool.eq_iff_iff, m1 y hy]
      simp [has_zc]
    rw [atomS, dif_pos hlt, hx, if_neg n40, if_neg n91, if_neg n46, if_neg n94, if_neg n36, hr]
    simp only
    rw [ec]
  · rw [if_neg h1] at h ⊢
    by_cases h2 : c = dotC
    · rw [if_pos h2] at h ⊢
      obtain ⟨g1, _, hlt⟩ := drop_head (show s.drop i = 46 :: r by simpa using h)
      obtain ⟨_, hx⟩ := List.getElem?_eq_some_iff.1 g1
      rw [atomS, dif_pos hlt, hx, if_neg (by decide), if_neg (by decide), if_pos rfl, h2]
      rfl
    · rw [if_neg h2] at h ⊢
      rw [List.cons_append, List.append_assoc] at h
      obtain ⟨g1, g2, hlt⟩ := drop_head h
      obtain ⟨_, hx⟩ := List.getElem?_eq_some_iff.1 g1
      have hit := items_read _ (mem_items c 0).1 (i + 1) zc g2
      have hne : s[i + 1]? ≠ some 94 := by
        have h0 := drop_get g2 0
        rw [Nat.add_zero] at h0
        rw [h0]
        unfold runsT
        cases hl : items c 0 with
        | nil => simp
        | cons q l =>
          obtain ⟨x, t, e, _, _, _, _, _, hx, _⟩ := byteT_first q.1 (by have := (mem_items c 0).1 q (by rw [hl]; simp); omega)
          rw [List.flatMap_cons]
          unfold itemT
          split <;> simp [e] <;> exact hx
      rw [atomS, dif_pos hlt, hx, if_neg (by decide), if_pos rfl, bracketS, if_neg hne, hit, fold_items hc]
      simp [runsT]
      omega
theorem textC_first {c : Cls} : ∃ x t, textC c = x :: t ∧ x ≠ 124 ∧ x ≠ 41 ∧ x ≠ 42 ∧ x ≠ 43 ∧ x ≠ 63 := by
  unfold textC
  split
  · rename_i h1
    obtain ⟨l1, _⟩ := cnt_one_least h1
    obtain ⟨x, t, e, _, _, _, _, _, _, _, h⟩ := byteT_first _ l1
    exact ⟨x, t, e, h⟩
  · split
    · exact ⟨_, _, rfl, by decide⟩
    · exact ⟨_, _, rfl, by decide⟩

attribute [local irreducible] textC
theorem textT_byte (c : Cls) : textT (.byte c) = textC c := by rw [textT]
theorem unitT_byte (c : Cls) : unitT (.byte c) = textC c := by rw [unitT, textT_byte, show bnd 5 false (.byte c) = false from rfl, wrapT, if_neg (by decide)]
theorem unitT_first (t : Rx) : ∃ x r, unitT t = x :: r ∧ x ≠ 124 ∧ x ≠ 41 ∧ x ≠ 42 ∧ x ≠ 43 ∧ x ≠ 63 := by
  induction t with
  | byte c => rw [unitT_byte]; exact textC_first
  | empty => exact ⟨_, _, rfl, by decide⟩
  | cat a b => exact ⟨_, _, rfl, by decide⟩
  | alt a b => exact ⟨_, _, rfl, by decide⟩
  | bgn => exact ⟨_, _, rfl, by decide⟩
  | fin => exact ⟨_, _, rfl, by decide⟩
  | star a ih =>
    obtain ⟨x, r, e, h⟩ := ih
    exact ⟨x, r ++ [42], by show unitT a ++ [42] = _; rw [e]; rfl, h⟩
  | plus a ih =>
    obtain ⟨x, r, e, h⟩ := ih
    exact ⟨x, r ++ [43], by show wrapT (bnd 6 false a) (textT a) ++ [43] = _; rw [bnd_6]; show unitT a ++ _ = _; rw [e]; rfl, h⟩
  | opt a ih =>
    obtain ⟨x, r, e, h⟩ := ih
    exact ⟨x, r ++ [63], by show wrapT (bnd 7 false a) (textT a) ++ [63] = _; rw [bnd_7]; show unitT a ++ _ = _; rw [e]; rfl, h⟩

def isAlt : Rx → Bool
  | .alt _ _ => true
  | _ => false

theorem stopS_first {s r : List UInt8} {i : Nat} {x : UInt8} (h : s.drop i = x :: r) (h1 : x ≠ 124) (h2 : x ≠ 41) : stopS s i = false := by
  obtain ⟨g, _⟩ := drop_head h
  unfold stopS
  rw [g]
  simp [h1, h2]
theorem stopS_signs {s : List UInt8} {j : Nat} (h : stopS s j = true) (t : Rx) : signsS s j t = (t, j) := by
  refine signsS_end t fun c hc => ?_
  unfold stopS at h
  rw [hc] at h
  simp at h
  rcases h with rfl | rfl <;> decide

set_option maxHeartbeats 2000000 in
/-- A unit, what may stand one behind the other, a whole pattern: each is read as it is printed. -/
theorem print_read {s : List UInt8} : ∀ (t : Rx), okT t →
    (∀ i r, s.drop i = unitT t ++ r → ∃ t0 j0, atomS s i = .ok t0 j0 ∧ signsS s j0 t0 = signsS s (i + (unitT t).length) t) ∧
    (isAlt t = false → ∀ i r, s.drop i = textT t ++ r → stopS s (i + (textT t).length) = true → catS s i = .ok t (i + (textT t).length)) ∧
    (∀ i r, i ≤ s.length → s.drop i = textT t ++ r → stopS s (i + (textT t).length) = true → s[i + (textT t).length]? ≠ some 124 → orS s i = .ok t (i + (textT t).length)) := by
  -- a unit that stands alone
  have one : ∀ (t : Rx), unitT t = textT t → (∀ i r, s.drop i = unitT t ++ r → ∃ t0 j0, atomS s i = .ok t0 j0 ∧ signsS s j0 t0 = signsS s (i + (unitT t).length) t) →
      ∀ i r, s.drop i = textT t ++ r → stopS s (i + (textT t).length) = true → catS s i = .ok t (i + (textT t).length) := by
    intro t e hu i r h hst
    rw [← e] at h hst ⊢
    obtain ⟨x, q, ex, h1, h2, _⟩ := unitT_first t
    obtain ⟨t0, j0, ha, hs⟩ := hu i r h
    have hsg := stopS_signs hst t
    rw [hsg] at hs
    have hn : stopS s i = false := stopS_first (show s.drop i = x :: (q ++ r) by rw [h, ex]; rfl) h1 h2
    rw [catS_one hn ha (by rw [hs]; exact hst), hs]
  -- brackets
  have brk : ∀ (t : Rx), unitT t = 40 :: (textT t ++ [41]) → (∀ i r, i ≤ s.length → s.drop i = textT t ++ r → stopS s (i + (textT t).length) = true → s[i + (textT t).length]? ≠ some 124 → orS s i = .ok t (i + (textT t).length)) →
      ∀ i r, s.drop i = unitT t ++ r → ∃ t0 j0, atomS s i = .ok t0 j0 ∧ signsS s j0 t0 = signsS s (i + (unitT t).length) t := by
    intro t e ho i r h
    rw [e, List.cons_append, List.append_assoc] at h
    obtain ⟨g1, g2, hlt⟩ := drop_head h
    obtain ⟨k1, _, _⟩ := drop_head (show s.drop (i + 1 + (textT t).length) = 41 :: r from drop_more g2)
    obtain ⟨_, hx⟩ := List.getElem?_eq_some_iff.1 g1
    have hor := ho (i + 1) _ (by omega) g2 (by unfold stopS; rw [k1]; rfl) (by rw [k1]; decide)
    refine ⟨t, i + 1 + (textT t).length + 1, ?_, ?_⟩
    · rw [atomS, dif_pos hlt, hx, if_pos rfl, hor]
      simp only
      rw [if_pos k1]
    · rw [e]
      congr 1
      simp
      omega
  -- what is not alternatives, alone
  have whole : ∀ (t : Rx), isAlt t = false → (∀ i r, s.drop i = textT t ++ r → stopS s (i + (textT t).length) = true → catS s i = .ok t (i + (textT t).length)) →
      ∀ i r, i ≤ s.length → s.drop i = textT t ++ r → stopS s (i + (textT t).length) = true → s[i + (textT t).length]? ≠ some 124 → orS s i = .ok t (i + (textT t).length) := by
    intro t _ hc i r _ h hst h124
    exact orS_one (hc i r h hst) h124
  -- a part that signs stand behind
  have sign : ∀ (a : Rx) (u : Rx) (x : UInt8), unitT u = unitT a ++ [x] → (∀ j t, s[j]? = some x → t = a → signsS s j t = signsS s (j + 1) u) →
      (∀ i r, s.drop i = unitT a ++ r → ∃ t0 j0, atomS s i = .ok t0 j0 ∧ signsS s j0 t0 = signsS s (i + (unitT a).length) a) →
      ∀ i r, s.drop i = unitT u ++ r → ∃ t0 j0, atomS s i = .ok t0 j0 ∧ signsS s j0 t0 = signsS s (i + (unitT u).length) u := by
    intro a u x e hsg ha i r h
    rw [e, List.append_assoc] at h
    obtain ⟨t0, j0, h1, h2⟩ := ha i _ h
    obtain ⟨g1, _, _⟩ := drop_head (show s.drop (i + (unitT a).length) = x :: r from drop_more h)
    refine ⟨t0, j0, h1, ?_⟩
    rw [h2, hsg _ _ g1 rfl, e]
    simp [Nat.add_assoc]
  intro t
  induction t with
  | byte c =>
    intro hok
    have hc : okC c := hok ⟨1, c⟩ (by simp [flat])
    have hu : ∀ i r, s.drop i = unitT (.byte c) ++ r → ∃ t0 j0, atomS s i = .ok t0 j0 ∧ signsS s j0 t0 = signsS s (i + (unitT (.byte c)).length) (.byte c) :=
      fun i r h => by
        rw [unitT_byte] at h ⊢
        exact ⟨_, _, textC_read hc h, rfl⟩
    have hk := one (.byte c) (by rw [unitT_byte, textT_byte]) hu
    exact ⟨hu, fun _ => hk, whole _ rfl hk⟩
  | bgn =>
    intro _
    have hu : ∀ i r, s.drop i = unitT .bgn ++ r → ∃ t0 j0, atomS s i = .ok t0 j0 ∧ signsS s j0 t0 = signsS s (i + (unitT .bgn).length) .bgn := by
      intro i r h
      obtain ⟨g1, _, hlt⟩ := drop_head (show s.drop i = 94 :: r from h)
      obtain ⟨_, hx⟩ := List.getElem?_eq_some_iff.1 g1
      exact ⟨.bgn, i + 1, by rw [atomS, dif_pos hlt, hx, if_neg (by decide), if_neg (by decide), if_neg (by decide), if_pos rfl], rfl⟩
    have hk := one .bgn rfl hu
    exact ⟨hu, fun _ => hk, whole _ rfl hk⟩
  | fin =>
    intro _
    have hu : ∀ i r, s.drop i = unitT .fin ++ r → ∃ t0 j0, atomS s i = .ok t0 j0 ∧ signsS s j0 t0 = signsS s (i + (unitT .fin).length) .fin := by
      intro i r h
      obtain ⟨g1, _, hlt⟩ := drop_head (show s.drop i = 36 :: r from h)
      obtain ⟨_, hx⟩ := List.getElem?_eq_some_iff.1 g1
      exact ⟨.fin, i + 1, by rw [atomS, dif_pos hlt, hx, if_neg (by decide), if_neg (by decide), if_neg (by decide), if_neg (by decide), if_pos rfl], rfl⟩
    have hk := one .fin rfl hu
    exact ⟨hu, fun _ => hk, whole _ rfl hk⟩
  | empty =>
    intro _
    have hk : ∀ i r, s.drop i = textT .empty ++ r → stopS s (i + (textT .empty).length) = true → catS s i = .ok .empty (i + (textT .empty).length) :=
      fun i r _ hst => catS_end hst
    have ho := whole .empty rfl hk
    exact ⟨brk .empty rfl ho, fun _ => hk, ho⟩
  | star a ih =>
    intro hok
    have ha := ih (fun n hn => hok n (by simp [flat, hn]))
    have hu := sign a (.star a) 42 rfl (fun j t h e => by rw [e]; exact signsS_star a h) ha.1
    have hk := one (.star a) rfl hu
    exact ⟨hu, fun _ => hk, whole _ rfl hk⟩
  | plus a ih =>
    intro hok
    have ha := ih (fun n hn => hok n (by simp [flat, hn]))
    have hu := sign a (.plus a) 43 (by show wrapT (bnd 6 false a) _ ++ _ = _; rw [bnd_6]; rfl) (fun j t h e => by rw [e]; exact signsS_plus a h) ha.1
    have hk := one (.plus a) rfl hu
    exact ⟨hu, fun _ => hk, whole _ rfl hk⟩
  | opt a ih =>
    intro hok
    have ha := ih (fun n hn => hok n (by simp [flat, hn]))
    have hu := sign a (.opt a) 63 (by show wrapT (bnd 7 false a) _ ++ _ = _; rw [bnd_7]; rfl) (fun j t h e => by rw [e]; exact signsS_opt a h) ha.1
    have hk := one (.opt a) rfl hu
    exact ⟨hu, fun _ => hk, whole _ rfl hk⟩
  | cat a b iha ihb =>
    intro hok
    have ha := iha (fun n hn => hok n (by simp [flat, hn]))
    have hb := ihb (fun n hn => hok n (by simp [flat, hn]))
    -- the second part, as it stands there
    have hb2 : (∃ x q, wrapT (bnd 3 true b) (textT b) = x :: q ∧ x ≠ 124 ∧ x ≠ 41 ∧ x ≠ 42 ∧ x ≠ 43 ∧ x ≠ 63) ∧
        ∀ i r, s.drop i = wrapT (bnd 3 true b) (textT b) ++ r → stopS s (i + (wrapT (bnd 3 true b) (textT b)).length) = true → catS s i = .ok b (i + (wrapT (bnd 3 true b) (textT b)).length) := by
      have unit : wrapT (bnd 3 true b) (textT b) = unitT b → (∃ x q, wrapT (bnd 3 true b) (textT b) = x :: q ∧ x ≠ 124 ∧ x ≠ 41 ∧ x ≠ 42 ∧ x ≠ 43 ∧ x ≠ 63) ∧
          ∀ i r, s.drop i = wrapT (bnd 3 true b) (textT b) ++ r → stopS s (i + (wrapT (bnd 3 true b) (textT b)).length) = true → catS s i = .ok b (i + (wrapT (bnd 3 true b) (textT b)).length) := by
        intro e
        rw [e]
        refine ⟨unitT_first b, fun i r h hst => ?_⟩
        obtain ⟨x, q, ex, h1, h2, _⟩ := unitT_first b
        obtain ⟨t0, j0, hat, hs⟩ := hb.1 i r h
        rw [stopS_signs hst b] at hs
        have hn : stopS s i = false := stopS_first (show s.drop i = x :: (q ++ r) by rw [h, ex]; rfl) h1 h2
        rw [catS_one hn hat (by rw [hs]; exact hst), hs]
      cases b with
      | cat b1 b2 =>
        refine ⟨?_, fun i r h hst => hb.2.1 rfl i r h hst⟩
        obtain ⟨x, q, ex, h⟩ := unitT_first b1
        refine ⟨x, q ++ wrapT (bnd 3 true b2) (textT b2), ?_, h⟩
        show wrapT (bnd 3 false b1) (textT b1) ++ _ = _
        rw [bnd_3]
        show unitT b1 ++ _ = _
        rw [ex]
        rfl
      | _ => exact unit rfl
    have hk : ∀ i r, s.drop i = textT (.cat a b) ++ r → stopS s (i + (textT (.cat a b)).length) = true → catS s i = .ok (.cat a b) (i + (textT (.cat a b)).length) := by
      intro i r h hst
      have et : textT (.cat a b) = unitT a ++ wrapT (bnd 3 true b) (textT b) := by show wrapT (bnd 3 false a) _ ++ _ = _; rw [bnd_3]; rfl
      rw [et, List.append_assoc] at h
      rw [et, List.length_append, ← Nat.add_assoc] at hst ⊢
      obtain ⟨x, q, ex, h1, h2, _⟩ := unitT_first a
      obtain ⟨t0, j0, hat, hs⟩ := ha.1 i _ h
      have hn : stopS s i = false := stopS_first (show s.drop i = x :: (q ++ (wrapT (bnd 3 true b) (textT b) ++ r)) by rw [h, ex]; rfl) h1 h2
      obtain ⟨y, z, ey, k1, k2, k3⟩ := hb2.1
      have hd := drop_more h
      have hd2 : s.drop (i + (unitT a).length) = y :: (z ++ r) := by rw [hd, ey]; rfl
      have hsg : signsS s (i + (unitT a).length) a = (a, i + (unitT a).length) := signsS_end a fun c hc => by
        obtain ⟨g, _⟩ := drop_head hd2
        rw [g] at hc
        cases hc
        exact k3
      rw [hsg] at hs
      have hc2 := hb2.2 _ _ hd hst
      rw [catS_more hn hat (by rw [hs]; exact stopS_first hd2 k1 k2), hs]
      simp only
      rw [hc2]
    have ho := whole (.cat a b) rfl hk
    exact ⟨brk _ rfl ho, fun _ => hk, ho⟩
  | alt a b iha ihb =>
    intro hok
    have ha := iha (fun n hn => hok n (by simp [flat, hn]))
    have hb := ihb (fun n hn => hok n (by simp [flat, hn]))
    have ho : ∀ i r, i ≤ s.length → s.drop i = textT (.alt a b) ++ r → stopS s (i + (textT (.alt a b)).length) = true → s[i + (textT (.alt a b)).length]? ≠ some 124 → orS s i = .ok (.alt a b) (i + (textT (.alt a b)).length) := by
      intro i r hi h hst h124
      have eb : wrapT (bnd 4 true b) (textT b) = textT b := by cases b <;> rfl
      have et : textT (.alt a b) = wrapT (bnd 4 false a) (textT a) ++ 124 :: textT b := by show wrapT (bnd 4 false a) _ ++ 124 :: _ = _; rw [eb]
      rw [et, List.append_assoc, List.cons_append] at h
      rw [et, List.length_append, List.length_cons] at hst h124 ⊢
      obtain ⟨g1, g2, hlt⟩ := drop_head (drop_more h)
      have hsta : stopS s (i + (wrapT (bnd 4 false a) (textT a)).length) = true := by unfold stopS; rw [g1]; rfl
      have hca : catS s i = .ok a (i + (wrapT (bnd 4 false a) (textT a)).length) := by
        by_cases halt : isAlt a = true
        · have e : wrapT (bnd 4 false a) (textT a) = unitT a := by cases a <;> first | rfl | cases halt
          rw [e] at h hsta ⊢
          obtain ⟨x, q, ex, h1, h2, _⟩ := unitT_first a
          obtain ⟨t0, j0, hat, hs⟩ := ha.1 i _ h
          rw [stopS_signs hsta a] at hs
          have hn : stopS s i = false := stopS_first (show s.drop i = x :: (q ++ 124 :: (textT b ++ r)) by rw [h, ex]; rfl) h1 h2
          rw [catS_one hn hat (by rw [hs]; exact hsta), hs]
        · have e : wrapT (bnd 4 false a) (textT a) = textT a := by cases a <;> first | rfl | exact absurd rfl halt
          rw [e] at h hsta ⊢
          exact ha.2.1 (by simpa using halt) i _ h hsta
      generalize hn : (wrapT (bnd 4 false a) (textT a)).length = n at *
      have e2 : i + (n + ((textT b).length + 1)) = i + n + 1 + (textT b).length := by omega
      rw [e2] at hst h124 ⊢
      rw [orS_more hi hca g1, hb.2.2 _ _ (by omega) g2 hst h124]
    exact ⟨brk _ rfl ho, (fun h => by cases h), ho⟩

/-- What is printed is read, whole. -/
theorem print_whole (t : Rx) (h : okT t) : orS (textT t) 0 = .ok t (textT t).length := by
  have := (print_read (s := textT t) t h).2.2 0 [] (Nat.zero_le _) (by simp) (by unfold stopS; simp) (by simp)
  simpa using this
/-- Two patterns have other texts. -/
theorem textT_inj {t u : Rx} (ht : okT t) (hu : okT u) (h : textT t = textT u) : t = u := by
  have h1 := print_whole t ht
  rw [h, print_whole u hu] at h1
  cases h1
  rfl

end Wf
