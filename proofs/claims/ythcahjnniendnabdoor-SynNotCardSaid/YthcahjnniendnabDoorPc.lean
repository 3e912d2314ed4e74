/-
  Plain facts about classes: four numbers of 64 bits as a set of 256 bytes. No program in sight.
-/
import Derived.Test.YthcahjnniendnabDoorPa
namespace Wf

def word (c : Cls) (q : Nat) : Nat := if q = 0 then c.1 else if q = 1 then c.2.1 else if q = 2 then c.2.2.1 else c.2.2.2

/-- Has a class a byte? -/
def has (c : Cls) (b : Nat) : Bool := (word c (b / 64)).testBit (b % 64)

/-- A class and a byte more. -/
def withB (c : Cls) (b : Nat) : Cls :=
  (if b / 64 = 0 then c.1 ||| 2 ^ (b % 64) else c.1, if b / 64 = 1 then c.2.1 ||| 2 ^ (b % 64) else c.2.1,
   if b / 64 = 2 then c.2.2.1 ||| 2 ^ (b % 64) else c.2.2.1, if b / 64 = 3 then c.2.2.2 ||| 2 ^ (b % 64) else c.2.2.2)

def okC (c : Cls) : Prop := c.1 < 18446744073709551616 ∧ c.2.1 < 18446744073709551616 ∧ c.2.2.1 < 18446744073709551616 ∧ c.2.2.2 < 18446744073709551616

theorem okC_zc : okC zc := by simp [okC, zc]
theorem word_lt {c : Cls} (h : okC c) (q : Nat) : word c q < 18446744073709551616 := by
  obtain ⟨h0, h1, h2, h3⟩ := h
  unfold word
  split
  · exact h0
  · split
    · exact h1
    · split
      · exact h2
      · exact h3

theorem pow_lt64 (b : Nat) : 2 ^ (b % 64) < 18446744073709551616 := by
  have : (2 : Nat) ^ (b % 64) < 2 ^ 64 := Nat.pow_lt_pow_right (by omega) (Nat.mod_lt _ (by omega))
  simpa using this

theorem or_lt64 {a b : Nat} (ha : a < 18446744073709551616) (hb : b < 18446744073709551616) : a ||| b < 18446744073709551616 := by
  have h := Nat.or_lt_two_pow (n := 64) (x := a) (y := b) (by simpa using ha) (by simpa using hb)
  simpa using h

theorem okC_with {c : Cls} (h : okC c) (b : Nat) : okC (withB c b) := by
  obtain ⟨h0, h1, h2, h3⟩ := h
  have hp := pow_lt64 b
  refine ⟨?_, ?_, ?_, ?_⟩ <;> (unfold withB; dsimp only; split) <;> first | assumption | exact or_lt64 (by assumption) hp

theorem word_with (c : Cls) (b q : Nat) (hb : b < 256) (hq : q < 4) : word (withB c b) q = if b / 64 = q then word c q ||| 2 ^ (b % 64) else word c q := by
  have : b / 64 < 4 := by omega
  unfold word withB
  dsimp only
  match q, hq with
  | 0, _ => simp
  | 1, _ => simp
  | 2, _ => simp
  | 3, _ => simp

theorem has_with (c : Cls) (b x : Nat) (hb : b < 256) (hx : x < 256) : has (withB c b) x = (has c x || x == b) := by
  unfold has
  rw [word_with c b (x / 64) hb (by omega)]
  by_cases h : b / 64 = x / 64
  · rw [if_pos h, Nat.testBit_or, Nat.testBit_two_pow]
    congr 1
    rw [Bool.eq_iff_iff]
    simp
    omega
  · rw [if_neg h]
    have : (x == b) = false := by simp; omega
    rw [this, Bool.or_false]

theorem has_zc (x : Nat) : has zc x = false := by
  unfold has word zc
  simp

theorem nat_ext64 {a b : Nat} (ha : a < 18446744073709551616) (hb : b < 18446744073709551616) (h : ∀ i, i < 64 → a.testBit i = b.testBit i) : a = b := by
  apply Nat.eq_of_testBit_eq
  intro i
  by_cases hi : i < 64
  · exact h i hi
  · have hp : (18446744073709551616 : Nat) ≤ 2 ^ i := by
      have : (2 : Nat) ^ 64 ≤ 2 ^ i := Nat.pow_le_pow_right (by omega) (by omega)
      simpa using this
    rw [Nat.testBit_lt_two_pow (by omega), Nat.testBit_lt_two_pow (by omega)]

theorem cls_ext {c d : Cls} (hc : okC c) (hd : okC d) (h : ∀ x, x < 256 → has c x = has d x) : c = d := by
  have hw : ∀ q, q < 4 → word c q = word d q := by
    intro q hq
    apply nat_ext64 (word_lt hc q) (word_lt hd q)
    intro i hi
    have := h (q * 64 + i) (by omega)
    unfold has at this
    rw [show (q * 64 + i) / 64 = q from by omega, show (q * 64 + i) % 64 = i from by omega] at this
    exact this
  have h0 := hw 0 (by omega)
  have h1 := hw 1 (by omega)
  have h2 := hw 2 (by omega)
  have h3 := hw 3 (by omega)
  obtain ⟨c0, c1, c2, c3⟩ := c
  obtain ⟨d0, d1, d2, d3⟩ := d
  simp [word] at h0 h1 h2 h3
  rw [h0, h1, h2, h3]

/-- The class of a row of bytes. -/
def ofL : List UInt8 → Cls → Cls
  | [], c => c
  | b :: r, c => ofL r (withB c b.toNat)

theorem okC_ofL (l : List UInt8) : ∀ c, okC c → okC (ofL l c) := by
  induction l with
  | nil => intro c h; exact h
  | cons b r ih => intro c h; exact ih _ (okC_with h _)

theorem has_ofL (l : List UInt8) : ∀ c x, x < 256 → has (ofL l c) x = (has c x || l.any fun b => x == b.toNat) := by
  induction l with
  | nil => intro c x _; simp [ofL]
  | cons b r ih =>
    intro c x hx
    rw [ofL, ih _ _ hx, has_with _ _ _ b.toNat_lt hx]
    simp [Bool.or_assoc]

theorem ofL_snoc (l : List UInt8) (b : UInt8) : ∀ c, ofL (l ++ [b]) c = withB (ofL l c) b.toNat := by
  induction l with
  | nil => intro c; rfl
  | cons a r ih => intro c; exact ih _

end Wf
