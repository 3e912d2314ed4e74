/-
  Pren, Palt, Pone, Ptw.
-/
import Derived.Test.YthcahjnniendnadGreatDoorGPf
import Derived.Test.YthcahjnniendnadGreatDoorGPh
import Derived.Test.YthcahjnniendnadGreatDoorGPx
import Derived.Test.YthcahjnniendnadGreatDoorGPy
/-
  Plain: a set whose patterns are added to a new one, one by one: the same, their numbers aside.
-/
namespace Wf
/-- Patterns with the numbers b + 1, b + 2 .. -/
def renum : List Mb → Nat → List Mb
  | [], _ => []
  | q :: r, b => ⟨b + 1, q.text, q.t⟩ :: renum r (b + 1)
theorem renum_len (l : List Mb) : ∀ b, (renum l b).length = l.length := by
  induction l with
  | nil => intro b; rfl
  | cons q r ih => intro b; simp [renum, ih]
theorem renum_snoc (l : List Mb) (q : Mb) : ∀ b, renum (l ++ [q]) b = renum l b ++ [⟨b + l.length + 1, q.text, q.t⟩] := by
  induction l with
  | nil => intro b; rfl
  | cons p r ih =>
    intro b
    show _ :: renum (r ++ [q]) (b + 1) = _ :: (renum r (b + 1) ++ _)
    rw [ih, List.length_cons]
    have e : b + 1 + r.length + 1 = b + (r.length + 1) + 1 := by omega
    rw [e]
theorem hitsOf_len (s : List UInt8) (q : Mb) : (hitsOf s q).length = (spansO s q.t 0).length := by unfold hitsOf; rw [List.length_map]
theorem renum_hits_len (s : List UInt8) (l : List Mb) : ∀ b, ((renum l b).flatMap (hitsOf s)).length = (l.flatMap (hitsOf s)).length := by
  induction l with
  | nil => intro b; rfl
  | cons q r ih =>
    intro b
    show (List.flatMap (hitsOf s) (_ :: renum r (b + 1))).length = _
    rw [List.flatMap_cons, List.flatMap_cons, List.length_append, List.length_append, ih, hitsOf_len, hitsOf_len]
/-- Hit by hit. -/
theorem renum_hits (s : List UInt8) (l : List Mb) : ∀ (b i id x y : Nat), (l.flatMap (hitsOf s))[i]? = some (id, x, y) →
    ∃ k q, l[k]? = some q ∧ q.id = id ∧ ((renum l b).flatMap (hitsOf s))[i]? = some (b + k + 1, x, y) := by
  induction l with
  | nil => intro b i id x y h; simp at h
  | cons q r ih =>
    intro b i id x y h
    rw [List.flatMap_cons] at h
    have hr : renum (q :: r) b = ⟨b + 1, q.text, q.t⟩ :: renum r (b + 1) := rfl
    rw [hr, List.flatMap_cons]
    by_cases hi : i < (hitsOf s q).length
    · rw [List.getElem?_append_left hi] at h
      refine ⟨0, q, rfl, ?_, ?_⟩
      · unfold hitsOf at h
        rw [List.getElem?_map] at h
        cases hs : (spansO s q.t 0)[i]? with
        | none => rw [hs] at h; cases h
        | some p => rw [hs] at h; simp at h; exact h.1
      · rw [List.getElem?_append_left (by rw [hitsOf_len] at hi ⊢; exact hi)]
        unfold hitsOf at h ⊢
        rw [List.getElem?_map] at h ⊢
        dsimp only
        cases hs : (spansO s q.t 0)[i]? with
        | none => rw [hs] at h; cases h
        | some p => rw [hs] at h; simp at h ⊢; exact h.2
    · rw [List.getElem?_append_right (by omega)] at h
      obtain ⟨k, p, h1, h2, h3⟩ := ih (b + 1) _ id x y h
      refine ⟨k + 1, p, by simpa using h1, h2, ?_⟩
      have hle : (hitsOf s ⟨b + 1, q.text, q.t⟩).length = (hitsOf s q).length := by rw [hitsOf_len, hitsOf_len]
      rw [List.getElem?_append_right (by omega), hle, h3]
      congr 2
      omega
/-- One by one. -/
theorem renum_add {m : SS} (h : m.ok) {k : Nat} {q : Mb} (hq : m.ms[k]? = some q) :
    (⟨renum (m.ms.take k) 0, k, false, 0⟩ : SS).add q.text = ⟨renum (m.ms.take (k + 1)) 0, k + 1, false, 0⟩ ∧ (⟨renum (m.ms.take k) 0, k, false, 0⟩ : SS).added q.text = (k + 1, 0, 0) := by
  have hlt := (List.getElem?_eq_some_iff.1 hq).1
  have hr := h.read q (List.mem_of_getElem? hq)
  obtain ⟨_, _, _, _, hp⟩ := parseE_some hr
  have hlen : (renum (m.ms.take k) 0).length < 12 := by rw [renum_len, List.length_take]; have := h.len; omega
  have htl : (m.ms.take k).length = k := by rw [List.length_take]; omega
  constructor
  · unfold SS.add
    rw [hr]
    dsimp only
    rw [if_pos hlen, List.take_add_one, hq, Option.toList_some, renum_snoc, htl]
    simp
  · unfold SS.added
    rw [hp, if_neg (by simp), if_pos hlen]
end Wf

/-
  Plain: a set to which is added and from which is removed, turn by turn.
-/
namespace Wf
/-- Added and removed. -/
def SS.alter (m : SS) (s : ByteArray) (x : Option Int) : SS := match x with | none => m.add s | some n => (m.add s).remove n
def SS.alters (m : SS) (add : List ByteArray) (out : List Int) : Nat → SS
  | 0 => m
  | k + 1 => match add[k]? with | none => m.alters add out k | some s => (m.alters add out k).alter s out[k]?
theorem SS.alters_succ (m : SS) {add : List ByteArray} {out : List Int} {k : Nat} {s : ByteArray} (h : add[k]? = some s) : m.alters add out (k + 1) = (m.alters add out k).alter s out[k]? := by
  show (match add[k]? with | none => m.alters add out k | some s => (m.alters add out k).alter s out[k]?) = _
  rw [h]
theorem SS.ok.alter {m : SS} (h : m.ok) (s : ByteArray) (x : Option Int) : (m.alter s x).ok := by
  unfold SS.alter
  split
  · exact h.add s
  · exact (h.add s).remove _
theorem SS.last_alter (m : SS) (s : ByteArray) (x : Option Int) : (m.alter s x).last ≤ m.last + 1 := by
  unfold SS.alter
  split
  · exact (m.last_add s).2
  · rw [SS.last_remove]; exact (m.last_add s).2
theorem SS.last_alters (m : SS) (add : List ByteArray) (out : List Int) (k : Nat) : (m.alters add out k).last ≤ m.last + k := by
  induction k with
  | zero => exact Nat.le_refl _
  | succ k ih =>
    unfold SS.alters
    split
    · omega
    · rename_i s _
      have := (m.alters add out k).last_alter s out[k]?
      omega
end Wf

/-
  Plain: the closed fact of the statements of the whole: "a+" is read, found in "baab" and swapped.
-/
namespace Wf

theorem plus_byte : oneS [97, 43] 0 = .ok 97 1 := rfl
theorem plus_read : orS [97, 43] 0 = .ok (.plus (.byte (withB zc 97))) 2 := by
  have hA : atomS [97, 43] 0 = .ok (.byte (withB zc 97)) 1 := by
    rw [atomS_cases _ 0 (by simp)]
    simp [plus_byte]
  have hsg : signsS [97, 43] 1 (.byte (withB zc 97)) = (.plus (.byte (withB zc 97)), 2) := by
    rw [signsS]
    simp
    rw [signsS]
    simp
  have hC : catS [97, 43] 0 = .ok (.plus (.byte (withB zc 97))) 2 := by
    rw [catS_one (by rfl) hA (by rw [hsg]; rfl), hsg]
  exact orS_one hC (by simp)
theorem plus_spans : spansO [98, 97, 97, 98] (.plus (.byte (withB zc 97))) 0 = [(1, 3)] := by
  rw [spans_eq (by decide +kernel)]
  decide +kernel
theorem plus_swap : Go.Lib.join ((piecesB ⟨#[98, 97, 97, 98]⟩ [(1, 3)]).map (·.data.toList)) [99] = [98, 99, 98] := by decide +kernel
end Wf

/-
  Plain: words are patterns, too.
-/
namespace Wf
open Go.Proofs.YthcahjnniendnadGreatDoor (upTo_ upTo_mem)

/-- The pattern of a word, as a tree and as a row. -/
def wordT : List UInt8 → Rx
  | [] => .empty
  | [b] => .byte (ofL [b] zc)
  | b :: c :: r => .cat (.byte (ofL [b] zc)) (wordT (c :: r))
def wordR : List UInt8 → List Nd
  | [] => []
  | b :: r => (if r = [] then [] else [⟨3, zc⟩]) ++ ⟨1, ofL [b] zc⟩ :: wordR r
/-- The pattern that is one of some words. -/
def orT : List (List UInt8) → Rx
  | [] => .empty
  | [w] => wordT w
  | w :: x :: r => .alt (wordT w) (orT (x :: r))
def orR : List (List UInt8) → List Nd
  | [] => []
  | w :: r => (if r = [] then [] else [⟨4, zc⟩]) ++ (wordR w ++ orR r)

theorem flat_word : ∀ {w : List UInt8}, w ≠ [] → flat (wordT w) = wordR w := by
  intro w
  induction w with
  | nil => intro h; exact absurd rfl h
  | cons b r ih =>
    intro _
    cases r with
    | nil => simp [wordT, wordR, flat]
    | cons c r =>
      have := ih (by simp)
      rw [show wordT (b :: c :: r) = .cat (.byte (ofL [b] zc)) (wordT (c :: r)) from rfl, show wordR (b :: c :: r) = (if c :: r = [] then [] else [⟨3, zc⟩]) ++ ⟨1, ofL [b] zc⟩ :: wordR (c :: r) from rfl, ← this]
      simp [flat]
theorem flat_orT : ∀ {ws : List (List UInt8)}, ws ≠ [] → (∀ w ∈ ws, w ≠ []) → flat (orT ws) = orR ws := by
  intro ws
  induction ws with
  | nil => intro h; exact absurd rfl h
  | cons w r ih =>
    intro _ hne
    have hw := flat_word (hne w (by simp))
    cases r with
    | nil => simp [orT, orR, hw]
    | cons x r =>
      have := ih (by simp) fun w hw => hne w (by simp [hw])
      rw [show orT (w :: x :: r) = .alt (wordT w) (orT (x :: r)) from rfl, show orR (w :: x :: r) = (if x :: r = [] then [] else [⟨4, zc⟩]) ++ (wordR w ++ orR (x :: r)) from rfl, ← this, ← hw]
      simp [flat]
theorem ok_word : ∀ w : List UInt8, ∀ n ∈ wordR w, okC n.cls := by
  intro w
  induction w with
  | nil => intro n hn; cases hn
  | cons b r ih =>
    intro n hn
    rcases List.mem_append.1 hn with hn | hn
    · split at hn
      · cases hn
      · rw [List.mem_singleton.1 hn]; exact okC_zc
    · rcases List.mem_cons.1 hn with rfl | hn
      · exact okC_ofL _ _ okC_zc
      · exact ih n hn
theorem ok_orR : ∀ ws : List (List UInt8), ∀ n ∈ orR ws, okC n.cls := by
  intro ws
  induction ws with
  | nil => intro n hn; cases hn
  | cons w r ih =>
    intro n hn
    rcases List.mem_append.1 hn with hn | hn
    · split at hn
      · cases hn
      · rw [List.mem_singleton.1 hn]; exact okC_zc
    · rcases List.mem_append.1 hn with hn | hn
      · exact ok_word w n hn
      · exact ih n hn
theorem has_one (b c : UInt8) : has (ofL [b] zc) c.toNat = true ↔ c = b := by
  rw [has_ofL _ _ _ c.toNat_lt, has_zc]
  simp
  exact UInt8.toNat_inj
theorem fits_one {s : List UInt8} {b : UInt8} {i j : Nat} : Fits s (.byte (ofL [b] zc)) i j ↔ j = i + 1 ∧ s[i]? = some b := by
  show (j = i + 1 ∧ ∃ c, s[i]? = some c ∧ has (ofL [b] zc) c.toNat = true) ↔ _
  constructor
  · rintro ⟨h, c, hc, hh⟩
    rw [(has_one b c).1 hh] at hc
    exact ⟨h, hc⟩
  · rintro ⟨h, hc⟩
    exact ⟨h, b, hc, (has_one b b).2 rfl⟩
theorem pre_cons {s : List UInt8} {i : Nat} {b : UInt8} {w : List UInt8} : b :: w <+: s.drop i ↔ s[i]? = some b ∧ w <+: s.drop (i + 1) := by
  constructor
  · rintro ⟨r, hr⟩
    refine ⟨?_, r, ?_⟩
    · rw [← List.head?_drop, ← hr]; rfl
    · rw [← List.drop_drop, ← hr]; rfl
  · rintro ⟨h, r, hr⟩
    have hi := (List.getElem?_eq_some_iff.1 h)
    obtain ⟨hi, hb⟩ := hi
    rw [List.drop_eq_getElem_cons hi, hb]
    exact ⟨r, by rw [List.cons_append, hr]⟩
theorem fits_word {s : List UInt8} : ∀ {w : List UInt8} {i j : Nat}, Fits s (wordT w) i j ↔ j = i + w.length ∧ w <+: s.drop i := by
  intro w
  induction w with
  | nil => intro i j; show j = i ↔ _; simp
  | cons b r ih =>
    intro i j
    cases r with
    | nil =>
      rw [show wordT [b] = .byte (ofL [b] zc) from rfl, fits_one, pre_cons]
      simp
    | cons c r =>
      rw [show wordT (b :: c :: r) = .cat (.byte (ofL [b] zc)) (wordT (c :: r)) from rfl, pre_cons]
      show (∃ k, Fits s (.byte (ofL [b] zc)) i k ∧ Fits s (wordT (c :: r)) k j) ↔ _
      constructor
      · rintro ⟨k, h1, h2⟩
        obtain ⟨rfl, h3⟩ := fits_one.1 h1
        obtain ⟨rfl, h4⟩ := ih.1 h2
        exact ⟨by simp only [List.length_cons]; omega, h3, h4⟩
      · rintro ⟨rfl, h1, h2⟩
        exact ⟨i + 1, fits_one.2 ⟨rfl, h1⟩, ih.2 ⟨by simp only [List.length_cons]; omega, h2⟩⟩
theorem fits_orT {s : List UInt8} : ∀ {ws : List (List UInt8)} {i j : Nat}, ws ≠ [] → (Fits s (orT ws) i j ↔ ∃ w ∈ ws, j = i + w.length ∧ w <+: s.drop i) := by
  intro ws
  induction ws with
  | nil => intro i j h; exact absurd rfl h
  | cons w r ih =>
    intro i j _
    cases r with
    | nil =>
      rw [show orT [w] = wordT w from rfl, fits_word]
      simp
    | cons x r =>
      rw [show orT (w :: x :: r) = .alt (wordT w) (orT (x :: r)) from rfl]
      show (Fits s (wordT w) i j ∨ Fits s (orT (x :: r)) i j) ↔ _
      rw [fits_word, ih (by simp)]
      constructor
      · rintro (h | ⟨y, hy, h⟩)
        · exact ⟨w, by simp, h⟩
        · exact ⟨y, by simp [hy], h⟩
      · rintro ⟨y, hy, h⟩
        rcases List.mem_cons.1 hy with rfl | hy
        · exact .inl h
        · exact .inr ⟨y, hy, h⟩

/-- Where one of the words stands. -/
theorem word_at {ws : List (List UInt8)} {t : List UInt8} (hne : ∀ w ∈ ws, w ≠ []) (hws : ws ≠ []) {i j : Nat} (hi : i ≤ t.length) : Fits t (orT ws) i j ↔ ∃ k, (k, i, j) ∈ hitsL ws t := by
  rw [fits_orT hws]
  constructor
  · rintro ⟨w, hw, rfl, hp⟩
    obtain ⟨k, hk⟩ := List.mem_iff_getElem?.1 hw
    have hl := hp.length_le
    rw [List.length_drop] at hl
    have hpos : 0 < w.length := List.length_pos_iff.2 (hne w hw)
    refine ⟨k, mem_hits.2 ⟨w, hk, by show i + w.length ≤ _; omega, by show 0 < i + w.length; omega, ?_, by show i = i + w.length - w.length; omega⟩⟩
    show w <:+ t.take (i + w.length)
    rw [List.take_add, ← List.prefix_iff_eq_take.1 hp]
    exact List.suffix_append _ _
  · rintro ⟨k, hk⟩
    obtain ⟨w, hw, h1, h2, h3, h4⟩ := mem_hits.1 hk
    dsimp only at h1 h2 h3 h4 hw
    have hl := h3.length_le
    rw [List.length_take] at hl
    refine ⟨w, List.mem_of_getElem? hw, by omega, ?_⟩
    obtain ⟨_, hw', _, _, h5⟩ := hits_stand hk
    dsimp only at h5 hw'
    rw [hw] at hw'
    cases hw'
    rw [← h5]
    exact List.take_prefix _ _

/-- The ends from a place. -/
noncomputable def endsO (t : List UInt8) (p : Rx) (i : Nat) : List Nat := upTo_ (Fits t p i) (t.length + 1)
theorem endsO_mem {t : List UInt8} {p : Rx} {i j : Nat} (hi : i ≤ t.length) : j ∈ endsO t p i ↔ Fits t p i j := by
  unfold endsO
  rw [upTo_mem]
  exact ⟨fun h => h.2, fun h => ⟨by have := (fits_bound t p i j h hi).2; omega, h⟩⟩
theorem endsO_nodup (t : List UInt8) (p : Rx) (i : Nat) : (endsO t p i).Nodup := by
  unfold endsO upTo_
  exact List.Pairwise.imp (fun h => Nat.ne_of_lt h) (List.pairwise_lt_range.filter _)
/-- All ends, from the first places. -/
noncomputable def endsAll (t : List UInt8) (p : Rx) (n : Nat) : List (Nat × Nat) := (List.range n).flatMap fun i => (endsO t p i).map fun j => (i, j)
theorem endsAll_succ (t : List UInt8) (p : Rx) (n : Nat) : (endsAll t p (n + 1)).length = (endsAll t p n).length + (endsO t p n).length := by
  unfold endsAll
  rw [List.range_succ, List.flatMap_append, List.length_append]
  simp
theorem nodup_map_inj {α β : Type} {f : α → β} : ∀ {l : List α}, l.Nodup → (∀ a ∈ l, ∀ b ∈ l, f a = f b → a = b) → (l.map f).Nodup := by
  intro l
  induction l with
  | nil => intro _ _; simp
  | cons x r ih =>
    intro h hf
    obtain ⟨h1, h2⟩ := List.nodup_cons.1 h
    rw [List.map_cons, List.nodup_cons]
    refine ⟨fun hm => ?_, ih h2 fun a ha b hb => hf a (by simp [ha]) b (by simp [hb])⟩
    obtain ⟨y, hy, he⟩ := List.mem_map.1 hm
    exact h1 (hf y (by simp [hy]) x (by simp) he ▸ hy)
theorem endsAll_nodup (t : List UInt8) (p : Rx) (n : Nat) : (endsAll t p n).Nodup := by
  refine List.pairwise_flatMap.2 ⟨fun i _ => ?_, List.Pairwise.imp (fun {a b} h x hx y hy e => ?_) List.pairwise_lt_range⟩
  · exact nodup_map_inj (endsO_nodup t p i) fun a _ b _ e => (Prod.mk.inj e).2
  · obtain ⟨_, _, rfl⟩ := List.mem_map.1 hx
    obtain ⟨_, _, rfl⟩ := List.mem_map.1 hy
    exact absurd (Prod.mk.inj e).1 (Nat.ne_of_lt h)
theorem hits_nodup (ws : List (List UInt8)) (t : List UInt8) : (hitsL ws t).Nodup := by
  refine List.pairwise_flatMap.2 ⟨fun e _ => ?_, List.Pairwise.imp (fun {a b} h x hx y hy e => ?_) List.pairwise_lt_range⟩
  · refine nodup_map_inj (List.Pairwise.imp (fun h => Nat.ne_of_lt h) (endAt_up ws _)) fun a _ b _ e => (Prod.mk.inj e).1
  · obtain ⟨_, _, rfl⟩ := List.mem_map.1 hx
    obtain ⟨_, _, rfl⟩ := List.mem_map.1 hy
    have := (Prod.mk.inj (Prod.mk.inj e).2).2
    omega
/-- As many ends as hits. -/
theorem ends_hits {ws : List (List UInt8)} {t : List UInt8} (hne : ∀ w ∈ ws, w ≠ []) (hws : ws ≠ []) (hnd : ws.Nodup) : (endsAll t (orT ws) (t.length + 1)).length = (hitsL ws t).length := by
  have h1 : ((hitsL ws t).map (·.2)).Nodup := by
    refine nodup_map_inj (hits_nodup ws t) fun a ha b hb e => ?_
    obtain ⟨i, p⟩ := a
    obtain ⟨k, q⟩ := b
    obtain rfl : p = q := e
    obtain ⟨w, hw, _, _, h3⟩ := hits_stand ha
    obtain ⟨x, hx, _, _, h4⟩ := hits_stand hb
    dsimp only at hw hx h3 h4
    have hwx : w = x := h3.symm.trans h4
    subst hwx
    obtain ⟨hi, e1⟩ := List.getElem?_eq_some_iff.1 hw
    obtain ⟨hk, e2⟩ := List.getElem?_eq_some_iff.1 hx
    have : i = k := by
      rcases Nat.lt_trichotomy i k with h | h | h
      · exact absurd (e1.trans e2.symm) (List.pairwise_iff_getElem.1 hnd i k hi hk h)
      · exact h
      · exact absurd (e2.trans e1.symm) (List.pairwise_iff_getElem.1 hnd k i hk hi h)
    rw [this]
  rw [← List.length_map (as := hitsL ws t) (·.2)]
  refine List.Perm.length_eq ((List.perm_ext_iff_of_nodup (endsAll_nodup t _ _) h1).2 fun q => ?_)
  obtain ⟨i, j⟩ := q
  unfold endsAll
  simp only [List.mem_flatMap, List.mem_range, List.mem_map, Prod.mk.injEq]
  constructor
  · rintro ⟨i', hi, j', hj, rfl, rfl⟩
    obtain ⟨k, hk⟩ := (word_at hne hws (by omega)).1 ((endsO_mem (by omega)).1 hj)
    exact ⟨(k, i', j'), hk, rfl⟩
  · rintro ⟨⟨k, q⟩, hk, e⟩
    have e' : q = (i, j) := e
    subst e'
    obtain ⟨w, _, h1, h2, _⟩ := hits_stand hk
    dsimp only at h1 h2
    exact ⟨i, by omega, j, (endsO_mem (by omega)).2 ((word_at hne hws (by omega)).2 ⟨k, hk⟩), rfl, rfl⟩
end Wf
