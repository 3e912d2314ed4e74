/-
  Plain: a text joined by one byte that stands nowhere in its pieces is split there into its pieces.
-/
import Derived.Test.YthcahjnniendnaaGreatDoorGPh
import Derived.Test.YthcahjnniendnaaGreatDoorPtw
namespace Wf

/-- The pattern of one byte. -/
def oneT (b : UInt8) : Rx := .byte (ofL [b] zc)
theorem long_one {s : List UInt8} {b : UInt8} {i : Nat} (hi : i ≤ s.length) : longO s (oneT b) i = if s[i]? = some b then some (i + 1) else none := by
  by_cases h : s[i]? = some b
  · rw [if_pos h]
    cases hl : longO s (oneT b) i with
    | none =>
      have hlt := (List.getElem?_eq_some_iff.1 h).1
      exact absurd (fits_one.2 ⟨rfl, h⟩) (longO_none.1 hl (i + 1) (by omega))
    | some j => rw [(fits_one.1 (longO_some hl).1).1]
  · rw [if_neg h]
    exact longO_none.2 fun j _ hf => h (fits_one.1 hf).2
theorem find_one {s : List UInt8} {b : UInt8} : ∀ {x r : List UInt8} {i : Nat}, s.drop i = x ++ b :: r → b ∉ x → findO (longO s (oneT b)) s.length i = some (i + x.length, i + x.length + 1) := by
  intro x r i h hx
  have hlen : i + x.length < s.length := by
    have := congrArg List.length h
    simp only [List.length_drop, List.length_append, List.length_cons] at this
    omega
  have hget : ∀ k, s[i + k]? = (x ++ b :: r)[k]? := fun k => by rw [← h, List.getElem?_drop]
  refine findO_mk (by omega) (by omega) ?_ fun k h1 h2 => ?_
  · rw [long_one (by omega), if_pos]
    rw [hget, List.getElem?_append_right (Nat.le_refl _), Nat.sub_self]; rfl
  · rw [long_one (by omega), if_neg]
    intro hk
    have e : k = i + (k - i) := by omega
    rw [e, hget, List.getElem?_append_left (by omega)] at hk
    exact hx (List.mem_of_getElem? hk)
theorem find_one_no {s : List UInt8} {b : UInt8} {i : Nat} (h : b ∉ s.drop i) : findO (longO s (oneT b)) s.length i = none := by
  refine findO_no.2 fun k h1 h2 => ?_
  rw [long_one h2, if_neg]
  intro hk
  refine h (List.mem_of_getElem? (i := k - i) ?_)
  rw [List.getElem?_drop, show i + (k - i) = k by omega]
  exact hk
theorem ba_ext {a b : ByteArray} (h : a.data.toList = b.data.toList) : a = b := ByteArray.ext (Array.toList_inj.1 h)
theorem join_more (sep x y : List UInt8) (r : List (List UInt8)) : Go.Lib.join (x :: y :: r) sep = x ++ (sep ++ Go.Lib.join (y :: r) sep) := by simp [Go.Lib.join, List.intercalate]
/-- Split where it was joined. -/
theorem cut_join {b : UInt8} {tx : ByteArray} : ∀ (xs : List ByteArray) (i : Nat), xs ≠ [] → i ≤ tx.size → tx.data.toList.drop i = Go.Lib.join (xs.map (·.data.toList)) [b] → (∀ x ∈ xs, b ∉ x.data.toList) →
    cutB tx i (spansO tx.data.toList (oneT b) i) ++ [tx.extract (lastB i (spansO tx.data.toList (oneT b) i)) tx.size] = xs := by
  have hsz : tx.data.toList.length = tx.size := by simp
  intro xs
  induction xs with
  | nil => intro i h; exact absurd rfl h
  | cons x r ih =>
    intro i _ hi h hno
    have hx := hno x (by simp)
    cases r with
    | nil =>
      rw [List.map_cons, List.map_nil, Go.Lib.join_one] at h
      have hn : spansO tx.data.toList (oneT b) i = [] := allO_none (find_one_no (by rw [h]; exact hx))
      rw [hn]
      show [] ++ [tx.extract i tx.size] = [x]
      rw [List.nil_append]
      congr 1
      refine ba_ext ?_
      rw [ext_list, List.take_of_length_le (by omega), h]
    | cons y r =>
      rw [List.map_cons, List.map_cons, join_more] at h
      have hf := find_one (b := b) h hx
      have hlx : x.data.toList.length = x.size := by simp
      have hs : spansO tx.data.toList (oneT b) i = (i + x.data.toList.length, i + x.data.toList.length + 1) :: spansO tx.data.toList (oneT b) (i + x.data.toList.length + 1) := by
        unfold spansO
        rw [allO_some (long_behind _ _) hf]
        unfold behind
        rw [if_neg (by omega)]
      have hd : tx.data.toList.drop (i + x.data.toList.length + 1) = Go.Lib.join ((y :: r).map (·.data.toList)) [b] := by
        rw [Nat.add_assoc, ← List.drop_drop, h, ← List.drop_drop, List.drop_left]
        rfl
      have hle : i + x.data.toList.length + 1 ≤ tx.size := by
        have := congrArg List.length h
        simp only [List.length_drop, List.length_append, List.length_cons] at this
        omega
      have hi2 := ih (i + x.data.toList.length + 1) (by simp) hle hd fun z hz => hno z (by simp [hz])
      rw [hs]
      show tx.extract i (i + x.data.toList.length) :: (cutB tx (i + x.data.toList.length + 1) (spansO tx.data.toList (oneT b) (i + x.data.toList.length + 1))) ++ [tx.extract (lastB (i + x.data.toList.length + 1) (spansO tx.data.toList (oneT b) (i + x.data.toList.length + 1))) tx.size] = x :: y :: r
      rw [List.cons_append, hi2]
      congr 1
      refine ba_ext ?_
      rw [ext_list, List.drop_take, h, Nat.add_sub_cancel_left, List.take_left]
theorem pieces_join {b : UInt8} {tx : ByteArray} {xs : List ByteArray} (hne : xs ≠ []) (h : tx.data.toList = Go.Lib.join (xs.map (·.data.toList)) [b]) (hno : ∀ x ∈ xs, b ∉ x.data.toList) :
    piecesB tx (spansO tx.data.toList (oneT b) 0) = xs := cut_join xs 0 hne (Nat.zero_le _) (by simpa using h) hno
theorem count_join {b : UInt8} : ∀ {xs : List (List UInt8)}, xs ≠ [] → (∀ x ∈ xs, b ∉ x) → (Go.Lib.join xs [b]).count b + 1 = xs.length := by
  intro xs
  induction xs with
  | nil => intro h; exact absurd rfl h
  | cons x r ih =>
    intro _ hno
    have hx : x.count b = 0 := List.count_eq_zero.2 (hno x (by simp))
    cases r with
    | nil => rw [Go.Lib.join_one, hx]; rfl
    | cons y r =>
      have := ih (by simp) fun z hz => hno z (by simp [hz])
      rw [join_more, List.count_append, List.count_append, hx]
      simp only [List.count_cons, List.count_nil, beq_self_eq_true, if_true, List.length_cons] at this ⊢
      omega
/-- Pieces of a text in which a byte does not stand. -/
theorem pieces_no {b : UInt8} {tx : ByteArray} (h : b ∉ tx.data.toList) (l : List (Nat × Nat)) : ∀ x ∈ piecesB tx l, b ∉ x.data.toList := by
  have hx : ∀ f a, b ∉ (tx.extract f a).data.toList := fun f a hm => by
    rw [ext_list] at hm
    exact h (List.mem_of_mem_take (List.mem_of_mem_drop hm))
  have hc : ∀ (l : List (Nat × Nat)) f, ∀ x ∈ cutB tx f l, b ∉ x.data.toList := by
    intro l
    induction l with
    | nil => intro f x hx; cases hx
    | cons p r ih =>
      intro f x hm
      rcases List.mem_cons.1 hm with rfl | hm
      · exact hx _ _
      · exact ih _ x hm
  intro x hm
  rcases List.mem_append.1 hm with hm | hm
  · exact hc l 0 x hm
  · rw [List.mem_singleton.1 hm]; exact hx _ _
theorem pieces_ne (tx : ByteArray) (l : List (Nat × Nat)) : piecesB tx l ≠ [] := fun h => by have := congrArg List.length h; rw [piecesB_len] at this; cases this
end Wf
