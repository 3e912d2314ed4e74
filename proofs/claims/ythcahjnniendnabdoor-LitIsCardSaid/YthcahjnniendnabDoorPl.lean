/-
  Plain facts about what a pattern needs: a text that stands in all that it fits. No program in sight.
-/
import Derived.Test.YthcahjnniendnabDoorPm
import Derived.Test.YthcahjnniendnabDoorPn
namespace Wf

/-- What of two needs is left, one behind the other. -/
def catL (n m : List UInt8 × Bool) : List UInt8 × Bool :=
  if n.2 = true ∧ m.2 = true then (n.1 ++ m.1, true) else if m.1.length > n.1.length then (m.1, false) else (n.1, false)

def litL : Rx → List UInt8 × Bool
  | .byte c => if cntC c = 1 then ([UInt8.ofNat (least c 0)], true) else ([], false)
  | .empty => ([], true)
  | .cat a b => catL (litL a) (litL b)
  | .plus a => ((litL a).1, false)
  | _ => ([], false)

theorem catL_len (n m : List UInt8 × Bool) : (catL n m).1.length ≤ n.1.length + m.1.length := by
  unfold catL
  split
  · simp
  · split <;> simp

theorem litL_len (t : Rx) : (litL t).1.length ≤ (flat t).length := by
  induction t with
  | byte c => simp only [litL]; split <;> simp [flat]
  | cat a b iha ihb => simp only [litL, flat]; have := catL_len (litL a) (litL b); simp; omega
  | plus a iha => simp only [litL, flat]; simp; omega
  | _ => simp [litL]

/-- The piece of a text from a place to another one. -/
def sub (s : List UInt8) (i j : Nat) : List UInt8 := (s.drop i).take (j - i)
theorem sub_len (s : List UInt8) (i j : Nat) (h : j ≤ s.length) : (sub s i j).length = j - i := by simp [sub]; omega
theorem sub_self (s : List UInt8) (i : Nat) : sub s i i = [] := by simp [sub]
theorem sub_split (s : List UInt8) {i k j : Nat} (h1 : i ≤ k) (h2 : k ≤ j) : sub s i j = sub s i k ++ sub s k j := by
  unfold sub
  have e : s.drop k = (s.drop i).drop (k - i) := by rw [List.drop_drop]; congr 1; omega
  rw [e, show j - i = (k - i) + (j - k) by omega, List.take_add]
theorem sub_one {s : List UInt8} {i : Nat} {b : UInt8} (h : s[i]? = some b) : sub s i (i + 1) = [b] := by
  have hi := (List.getElem?_eq_some_iff.1 h)
  obtain ⟨h1, h2⟩ := hi
  unfold sub
  rw [List.drop_eq_getElem_cons h1, h2]
  simp

theorem fits_lit (s : List UInt8) (t : Rx) : ∀ i j, Fits s t i j → i ≤ s.length → (∃ p q, sub s i j = p ++ (litL t).1 ++ q) ∧ ((litL t).2 = true → sub s i j = (litL t).1) := by
  have none : ∀ (x : List UInt8), (∃ p q, x = p ++ ([] : List UInt8) ++ q) ∧ (false = true → x = []) := fun x => ⟨⟨x, [], by simp⟩, fun h => by cases h⟩
  induction t with
  | byte c =>
    rintro i j ⟨rfl, b, hb, hc⟩ hi
    simp only [litL]
    split
    · rename_i h1
      obtain ⟨hl, hm⟩ := cnt_one_least h1
      have e : b.toNat = least c 0 := (hm _ b.toNat_lt).1 hc
      have : b = UInt8.ofNat (least c 0) := by rw [← e]; simp
      rw [sub_one hb, this]
      exact ⟨⟨[], [], by simp⟩, fun _ => rfl⟩
    · exact none _
  | empty =>
    rintro i j h hi
    obtain rfl : j = i := h
    rw [sub_self]
    exact ⟨⟨[], [], rfl⟩, fun _ => rfl⟩
  | cat a b iha ihb =>
    rintro i j ⟨k, h1, h2⟩ hi
    obtain ⟨b1, b2⟩ := fits_bound s a i k h1 hi
    obtain ⟨b3, b4⟩ := fits_bound s b k j h2 b2
    obtain ⟨⟨p1, q1, e1⟩, w1⟩ := iha i k h1 hi
    obtain ⟨⟨p2, q2, e2⟩, w2⟩ := ihb k j h2 b2
    rw [sub_split s b1 b3]
    simp only [litL]
    unfold catL
    split
    · rename_i h
      rw [w1 h.1, w2 h.2]
      exact ⟨⟨[], [], by simp⟩, fun _ => rfl⟩
    · split
      · exact ⟨⟨sub s i k ++ p2, q2, by rw [e2]; simp⟩, fun h => by cases h⟩
      · exact ⟨⟨p1, q1 ++ sub s k j, by rw [e1]; simp⟩, fun h => by cases h⟩
  | plus a iha =>
    rintro i j ⟨k, h1, h2⟩ hi
    obtain ⟨b1, b2⟩ := fits_bound s a i k h1 hi
    have b3 : k ≤ j := (fits_bound s (.star a) k j h2 b2).1
    obtain ⟨⟨p1, q1, e1⟩, _⟩ := iha i k h1 hi
    rw [sub_split s b1 b3]
    exact ⟨⟨p1, q1 ++ sub s k j, by rw [e1]; simp [litL]⟩, fun h => by cases h⟩
  | alt a b _ _ => intro i j _ _; exact none _
  | star a _ => intro i j _ _; exact none _
  | opt a _ => intro i j _ _; exact none _
  | bgn => intro i j _ _; exact none _
  | fin => intro i j _ _; exact none _

theorem whole_fits (s : List UInt8) (t : Rx) : (litL t).2 = true → ∀ i j, i ≤ s.length → (Fits s t i j ↔ j = i + (litL t).1.length ∧ j ≤ s.length ∧ sub s i j = (litL t).1) := by
  have fwd : (litL t).2 = true → ∀ i j, i ≤ s.length → Fits s t i j → j = i + (litL t).1.length ∧ j ≤ s.length ∧ sub s i j = (litL t).1 := by
    intro hw i j hi h
    obtain ⟨b1, b2⟩ := fits_bound s t i j h hi
    have e := (fits_lit s t i j h hi).2 hw
    have el := sub_len s i j b2
    rw [e] at el
    exact ⟨by omega, b2, e⟩
  intro hw i j hi
  refine ⟨fwd hw i j hi, ?_⟩
  rintro ⟨rfl, hj, he⟩
  clear fwd
  revert i
  induction t with
  | byte c =>
    intro i hi hj he
    simp only [litL] at hw hj he ⊢
    split at hw
    · rename_i h1
      rw [if_pos h1] at hj he ⊢
      obtain ⟨hl, hm⟩ := cnt_one_least h1
      simp only [List.length_cons, List.length_nil, Nat.zero_add] at hj he ⊢
      have hb : s[i]? = some (s[i]'(by omega)) := List.getElem?_eq_getElem (by omega)
      rw [sub_one hb] at he
      refine ⟨rfl, _, hb, ?_⟩
      have : s[i]'(by omega) = UInt8.ofNat (least c 0) := by simpa using he
      rw [this]
      have e : (UInt8.ofNat (least c 0)).toNat = least c 0 := by simp; omega
      rw [e]
      exact (hm _ hl).2 rfl
    · cases hw
  | empty => intro i hi hj he; rfl
  | cat a b iha ihb =>
    intro i hi hj he
    simp only [litL, catL] at hw hj he ⊢
    split at hw
    · rename_i h
      rw [if_pos h] at hj he ⊢
      simp only [List.length_append] at hj he ⊢
      have hsp := sub_split s (i := i) (k := i + (litL a).1.length) (j := i + ((litL a).1.length + (litL b).1.length)) (by omega) (by omega)
      rw [hsp] at he
      have hl1 : (sub s i (i + (litL a).1.length)).length = (litL a).1.length := by rw [sub_len _ _ _ (by omega)]; omega
      obtain ⟨e1, e2⟩ := List.append_inj he hl1
      refine ⟨i + (litL a).1.length, iha h.1 i hi (by omega) e1, ?_⟩
      have := ihb h.2 (i + (litL a).1.length) (by omega) (by omega) (by rw [Nat.add_assoc]; exact e2)
      rw [Nat.add_assoc] at this
      exact this
    · split at hw <;> cases hw
  | plus a _ => simp [litL] at hw
  | alt a b _ _ => simp [litL] at hw
  | star a _ => simp [litL] at hw
  | opt a _ => simp [litL] at hw
  | bgn => simp [litL] at hw
  | fin => simp [litL] at hw

theorem only_one {l : List Nat} {m : Nat} (hn : l.Nodup) (h : ∀ x ∈ l, x = m) (hm : m ∈ l) : l = [m] := by
  match l, hn, h, hm with
  | [a], _, h, _ => rw [h a (by simp)]
  | a :: b :: r, hn, h, _ =>
    have h1 := h a (by simp)
    have h2 := h b (by simp)
    subst h1
    subst h2
    simp at hn

end Wf
