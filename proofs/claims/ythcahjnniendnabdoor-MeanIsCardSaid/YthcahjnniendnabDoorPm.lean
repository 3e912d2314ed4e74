/-
  Plain facts about what a pattern fits. No program in sight.
-/
import Derived.Test.YthcahjnniendnabDoorPc
namespace Wf

inductive Star (R : Nat → Nat → Prop) : Nat → Nat → Prop where
  | refl (i : Nat) : Star R i i
  | tail {i j k : Nat} : Star R i j → R j k → Star R i k

theorem Star.one {R : Nat → Nat → Prop} {i j : Nat} (h : R i j) : Star R i j := .tail (.refl i) h
theorem Star.trans {R : Nat → Nat → Prop} {i j k : Nat} (h : Star R i j) (h' : Star R j k) : Star R i k := by
  induction h' with
  | refl => exact h
  | tail _ hr ih => exact .tail ih hr
theorem Star.head {R : Nat → Nat → Prop} {i j k : Nat} (h : R i j) (h' : Star R j k) : Star R i k := (Star.one h).trans h'
theorem Star.mono {R S : Nat → Nat → Prop} {i j : Nat} (h : Star R i j) (hs : ∀ a b, R a b → S a b) : Star S i j := by
  induction h with
  | refl => exact .refl _
  | tail _ hr ih => exact .tail ih (hs _ _ hr)
theorem Star.inv {R : Nat → Nat → Prop} {i j : Nat} (h : Star R i j) (P : Nat → Prop) (h0 : P i) (hs : ∀ a b, P a → R a b → P b) : P j := by
  induction h with
  | refl => exact h0
  | tail _ hr ih => exact hs _ _ ih hr

/-- A pattern fits a text from a place to another one. -/
def Fits (s : List UInt8) : Rx → Nat → Nat → Prop
  | .byte c, i, j => j = i + 1 ∧ ∃ b, s[i]? = some b ∧ has c b.toNat = true
  | .empty, i, j => j = i
  | .cat a b, i, j => ∃ k, Fits s a i k ∧ Fits s b k j
  | .alt a b, i, j => Fits s a i j ∨ Fits s b i j
  | .star a, i, j => Star (Fits s a) i j
  | .plus a, i, j => ∃ k, Fits s a i k ∧ Star (Fits s a) k j
  | .opt a, i, j => j = i ∨ Fits s a i j
  | .bgn, i, j => j = i ∧ i = 0
  | .fin, i, j => j = i ∧ i = s.length

theorem fits_bound (s : List UInt8) (u : Rx) : ∀ i j, Fits s u i j → i ≤ s.length → i ≤ j ∧ j ≤ s.length := by
  induction u with
  | byte c =>
    rintro i j ⟨rfl, b, hb, _⟩ hi
    have := (List.getElem?_eq_some_iff.1 hb).1
    omega
  | empty => rintro i j h hi; simp only [Fits] at h; omega
  | bgn => rintro i j ⟨h, _⟩ hi; omega
  | fin => rintro i j ⟨h, _⟩ hi; omega
  | cat a b iha ihb =>
    rintro i j ⟨k, h1, h2⟩ hi
    have := iha _ _ h1 hi
    have := ihb _ _ h2 this.2
    omega
  | alt a b iha ihb =>
    rintro i j (h | h) hi
    · exact iha _ _ h hi
    · exact ihb _ _ h hi
  | star a iha =>
    intro i j h hi
    exact Star.inv (P := fun x => i ≤ x ∧ x ≤ s.length) h ⟨Nat.le_refl _, hi⟩ fun x y hx hxy => by
      have := iha _ _ hxy hx.2
      omega
  | plus a iha =>
    rintro i j ⟨k, h1, h2⟩ hi
    have hk := iha _ _ h1 hi
    exact Star.inv (P := fun x => i ≤ x ∧ x ≤ s.length) h2 ⟨by omega, hk.2⟩ fun x y hx hxy => by
      have := iha _ _ hxy hx.2
      omega
  | opt a iha =>
    rintro i j (h | h) hi
    · omega
    · exact iha _ _ h hi

/-- The places up to n of which b says yes. -/
def upTo (n : Nat) (b : Nat → Bool) : List Nat := (List.range (n + 1)).filter b
theorem upTo_congr {n : Nat} {b b' : Nat → Bool} (h : ∀ k, k ≤ n → b k = b' k) : upTo n b = upTo n b' :=
  List.filter_congr fun k hk => h k (by simp at hk; omega)
theorem mem_upTo {n : Nat} {b : Nat → Bool} {k : Nat} : k ∈ upTo n b ↔ k ≤ n ∧ b k = true := by
  unfold upTo
  simp [List.mem_filter]
  omega

/-- How many places up to n are not marked. -/
def cnt (D : Nat → Bool) : Nat → Nat
  | 0 => if D 0 then 0 else 1
  | n + 1 => cnt D n + if D (n + 1) then 0 else 1

def mark (D : Nat → Bool) (k : Nat) : Nat → Bool := fun j => j == k || D j

theorem cnt_out (D : Nat → Bool) (k : Nat) : ∀ n, n < k → cnt (mark D k) n = cnt D n := by
  intro n
  induction n with
  | zero => intro h; have : (0 == k) = false := by simp; omega
            simp [cnt, mark, this]
  | succ n ih =>
    intro h
    have : (n + 1 == k) = false := by simp; omega
    simp only [cnt, ih (by omega), mark, this, Bool.false_or]
theorem cnt_mark (D : Nat → Bool) (k : Nat) (hD : D k = false) : ∀ n, k ≤ n → cnt (mark D k) n + 1 = cnt D n := by
  intro n
  induction n with
  | zero => intro h; obtain rfl : k = 0 := by omega
            simp [cnt, mark, hD]
  | succ n ih =>
    intro h
    by_cases e : k = n + 1
    · subst e
      simp only [cnt, cnt_out D (n + 1) n (by omega), mark, hD, beq_self_eq_true, Bool.true_or, if_true]
      simp
    · have e2 : (n + 1 == k) = false := by simp; omega
      have := ih (by omega)
      have e3 : mark D k (n + 1) = D (n + 1) := by simp [mark, e2]
      simp only [cnt, e3]
      omega

theorem cnt_le (D : Nat → Bool) : ∀ n, cnt D n ≤ n + 1 := by
  intro n
  induction n with
  | zero => simp only [cnt]; split <;> omega
  | succ n ih => simp only [cnt]; split <;> omega

/-- Between two rounds of the search: what is marked, what waits. -/
structure InvO (n : Nat) (R : Nat → Nat → Prop) (at_ : Nat) (D : Nat → Bool) (qs : List Nat) : Prop where
  start : D at_ = true
  sound : ∀ x, D x = true → x ≤ n ∧ Star R at_ x
  wait : ∀ q ∈ qs, D q = true
  closed : ∀ x, D x = true → x ∉ qs → ∀ y, y ≤ n → R x y → D y = true

structure InvI (n : Nat) (R : Nat → Nat → Prop) (at_ : Nat) (D : Nat → Bool) (h : Nat) (rest : List Nat) (k : Nat) : Prop where
  start : D at_ = true
  sound : ∀ x, D x = true → x ≤ n ∧ Star R at_ x
  wait : ∀ q ∈ h :: rest, D q = true
  closed : ∀ x, D x = true → x ≠ h → x ∉ rest → ∀ y, y ≤ n → R x y → D y = true
  now : ∀ y, y < k → R h y → D y = true

section
variable {n : Nat} {R : Nat → Nat → Prop} {at_ : Nat} {D : Nat → Bool} {h : Nat} {rest : List Nat} {k : Nat}
theorem InvO.first (hat : at_ ≤ n) : InvO n R at_ (fun j => j == at_) [at_] :=
  ⟨by simp, fun x hx => by simp at hx; subst hx; exact ⟨hat, .refl _⟩, fun q hq => by simpa using hq, fun x hx hn => by simp at hx hn; exact absurd hx hn⟩
theorem InvO.open_ (i : InvO n R at_ D (h :: rest)) : InvI n R at_ D h rest 0 :=
  ⟨i.start, i.sound, i.wait, fun x hx hne hr => i.closed x hx (by simp [hne, hr]), fun y hy => by omega⟩
theorem InvI.skip (i : InvI n R at_ D h rest k) (hk : R h k → D k = true) : InvI n R at_ D h rest (k + 1) :=
  ⟨i.start, i.sound, i.wait, i.closed, fun y hy hr => by
    by_cases e : y = k
    · subst e; exact hk hr
    · exact i.now y (by omega) hr⟩
theorem InvI.add (i : InvI n R at_ D h rest k) (hr : R h k) (hk : k ≤ n) : InvI n R at_ (mark D k) h (rest ++ [k]) (k + 1) := by
  have up : ∀ x, D x = true → mark D k x = true := fun x hx => by simp [mark, hx]
  have hh := i.sound h (i.wait h (by simp))
  refine ⟨up _ i.start, fun x hx => ?_, fun q hq => ?_, fun x hx hne hnr y hy hxy => ?_, fun y hy hry => ?_⟩
  · simp [mark] at hx
    rcases hx with rfl | hx
    · exact ⟨hk, .tail hh.2 hr⟩
    · exact i.sound x hx
  · simp at hq
    rcases hq with rfl | hq | rfl
    · exact up _ (i.wait _ (by simp))
    · exact up _ (i.wait _ (by simp [hq]))
    · simp [mark]
  · simp at hnr
    simp [mark, hnr.2] at hx
    exact up _ (i.closed x hx hne hnr.1 y hy hxy)
  · by_cases e : y = k
    · subst e; simp [mark]
    · exact up _ (i.now y (by omega) hry)
theorem InvI.close (i : InvI n R at_ D h rest (n + 1)) : InvO n R at_ D rest :=
  ⟨i.start, i.sound, fun q hq => i.wait q (by simp [hq]), fun x hx hnr y hy hxy => by
    by_cases e : x = h
    · subst e; exact i.now y (by omega) hxy
    · exact i.closed x hx e hnr y hy hxy⟩
theorem InvO.done (i : InvO n R at_ D []) (hb : ∀ x y, R x y → x ≤ n → y ≤ n) (hat : at_ ≤ n) (j : Nat) : D j = true ↔ Star R at_ j := by
  constructor
  · intro hj; exact (i.sound j hj).2
  · intro hj
    have : D j = true ∧ j ≤ n := Star.inv (P := fun x => D x = true ∧ x ≤ n) hj ⟨i.start, hat⟩ fun a b ha hab =>
      ⟨i.closed a ha.1 (by simp) b (hb a b hab ha.2) hab, hb a b hab ha.2⟩
    exact this.1
end

end Wf
