/-
  Texts of this claim, one behind the other (2): Pn, RefA, Pe, RefB, RefC, ReachB, ReachC, ReachD, ReachE, ReachF, ReachG, ReachH, Ints, Grow, Turn, Spot.
-/
import Derived.Test.YthcahjnniendnabDoorM1FeedIs
import Derived.BigQuiet
import Derived.Laws.CopyOwn
import Derived.Deep.RegionHeld3
import Derived.StillTailTactics
import Derived.Deep.RegionWith
import Derived.Laws.Append
import Derived.Deep.AppendLies
import Derived.Deep.DeepCutAuto
import Derived.Laws.Tables
import Derived.Laws.Cover2
/-
  Plain facts about classes: how many bytes; the count of set bits as the library does it. No program in sight.
-/
namespace Wf

def popN : Nat → Nat → Nat
  | 0, _ => 0
  | f + 1, x => x % 2 + popN f (x / 2)

/-- A byte k times. -/
def rep8 (c : Nat) : Nat → Nat
  | 0 => 0
  | k + 1 => c + 256 * rep8 c k

/-- A function at each byte. -/
def by8 (g : Nat → Nat) : Nat → Nat → Nat
  | 0, _ => 0
  | k + 1, x => g (x % 256) + 256 * by8 g k (x / 256)

theorem and_256 (a b y m : Nat) (hb : b < 256) (ha : a < 256) : (a + 256 * y) &&& (b + 256 * m) = (a &&& b) + 256 * (y &&& m) := by
  have h1 : ((a + 256 * y) &&& (b + 256 * m)) % 2 ^ 8 = a &&& b := by
    rw [Nat.and_mod_two_pow, show (a + 256 * y) % 2 ^ 8 = a by omega, show (b + 256 * m) % 2 ^ 8 = b by omega]
  have h2 : ((a + 256 * y) &&& (b + 256 * m)) / 2 ^ 8 = y &&& m := by
    rw [Nat.and_div_two_pow, show (a + 256 * y) / 2 ^ 8 = y by omega, show (b + 256 * m) / 2 ^ 8 = m by omega]
  omega

def g1 (b : Nat) : Nat := ((b / 2) &&& 85) + (b &&& 85)
def g2 (b : Nat) : Nat := ((g1 b / 4) &&& 51) + (g1 b &&& 51)
def g3 (b : Nat) : Nat := (g2 b / 16 + g2 b) &&& 15

theorem g1_carry : ∀ b : Fin 256, ∀ t : Fin 2, (b.val / 2 + 128 * t.val) &&& 85 = (b.val / 2) &&& 85 := by decide +kernel
theorem g1_le : ∀ b : Fin 256, g1 b.val ≤ 170 := by decide +kernel
theorem g2_carry : ∀ b : Fin 256, ∀ t : Fin 4, (g1 b.val / 4 + 64 * t.val) &&& 51 = (g1 b.val / 4) &&& 51 := by decide +kernel
theorem g2_le : ∀ b : Fin 256, g2 b.val ≤ 68 ∧ g2 b.val % 16 ≤ 4 := by decide +kernel
theorem g3_carry : ∀ b : Fin 256, ∀ t : Fin 5, (g2 b.val / 16 + 16 * t.val + g2 b.val) &&& 15 = g3 b.val := by decide +kernel
theorem g3_pop : ∀ b : Fin 256, g3 b.val = popN 8 b.val ∧ popN 8 b.val ≤ 8 := by decide +kernel

theorem swar1 (k : Nat) : ∀ x, ((x / 2) &&& rep8 85 k) + (x &&& rep8 85 k) = by8 g1 k x := by
  induction k with
  | zero => intro x; simp [rep8, by8]
  | succ k ih =>
    intro x
    obtain ⟨b, y, hb, rfl⟩ : ∃ b y, b < 256 ∧ x = b + 256 * y := ⟨x % 256, x / 256, by omega, by omega⟩
    have e1 : (b + 256 * y) / 2 = (b / 2 + 128 * (y % 2)) + 256 * (y / 2) := by omega
    have e2 : (b + 256 * y) % 256 = b := by omega
    have e3 : (b + 256 * y) / 256 = y := by omega
    have c := g1_carry ⟨b, hb⟩ ⟨y % 2, by omega⟩
    dsimp only at c
    simp only [rep8, by8, e1, e2, e3]
    rw [and_256 _ _ _ _ (by omega) (by omega), and_256 _ _ _ _ (by omega) hb, c, ← ih y]
    unfold g1
    omega

theorem swar2 (k : Nat) : ∀ x, ((by8 g1 k x / 4) &&& rep8 51 k) + (by8 g1 k x &&& rep8 51 k) = by8 g2 k x := by
  induction k with
  | zero => intro x; simp [rep8, by8]
  | succ k ih =>
    intro x
    have hb : x % 256 < 256 := by omega
    have l := g1_le ⟨_, hb⟩
    have h := ih (x / 256)
    have c := g2_carry ⟨_, hb⟩ ⟨by8 g1 k (x / 256) % 4, by omega⟩
    have e : g2 (x % 256) = ((g1 (x % 256) / 4) &&& 51) + (g1 (x % 256) &&& 51) := rfl
    simp only [rep8, by8]
    dsimp only at c l
    rw [e, ← h]
    clear e h
    generalize g1 (x % 256) = b at *
    generalize by8 g1 k (x / 256) = y at *
    have e1 : (b + 256 * y) / 4 = (b / 4 + 64 * (y % 4)) + 256 * (y / 4) := by omega
    rw [e1, and_256 _ _ _ _ (by omega) (by omega), and_256 _ _ _ _ (by omega) (by omega), c]
    omega

theorem by8_mod (g : Nat → Nat) (k x : Nat) (h : ∀ b, b < 256 → g b % 16 ≤ 4) : by8 g k x % 16 ≤ 4 := by
  cases k with
  | zero => simp [by8]
  | succ k => simp only [by8]; have := h (x % 256) (by omega); omega

theorem swar3 (k : Nat) : ∀ x, ((by8 g2 k x / 16 + by8 g2 k x) &&& rep8 15 k) = by8 g3 k x := by
  induction k with
  | zero => intro x; simp [rep8, by8]
  | succ k ih =>
    intro x
    have hb : x % 256 < 256 := by omega
    obtain ⟨l, l'⟩ := g2_le ⟨_, hb⟩
    have h := ih (x / 256)
    have m := by8_mod g2 k (x / 256) (fun b hb => (g2_le ⟨b, hb⟩).2)
    have c := g3_carry ⟨_, hb⟩ ⟨by8 g2 k (x / 256) % 16, by omega⟩
    simp only [rep8, by8]
    dsimp only at c l
    rw [← h]
    clear h
    generalize g2 (x % 256) = b at *
    generalize by8 g2 k (x / 256) = y at *
    have e1 : (b + 256 * y) / 16 + (b + 256 * y) = (b / 16 + 16 * (y % 16) + b) + 256 * (y / 16 + y) := by omega
    rw [e1, and_256 _ _ _ _ (by omega) (by omega), c]

theorem popN_split (a b : Nat) : ∀ x, popN (a + b) x = popN a x + popN b (x / 2 ^ a) := by
  induction a with
  | zero => intro x; simp [popN]
  | succ a ih =>
    intro x
    rw [show a + 1 + b = (a + b) + 1 by omega]
    simp only [popN]
    rw [ih, Nat.div_div_eq_div_mul, show 2 * 2 ^ a = 2 ^ (a + 1) by rw [Nat.pow_succ]; omega]
    omega

theorem popN_mod (a : Nat) : ∀ x, popN a (x % 2 ^ a) = popN a x := by
  induction a with
  | zero => intro x; simp [popN]
  | succ a ih =>
    intro x
    simp only [popN]
    have e1 : x % 2 ^ (a + 1) % 2 = x % 2 := Nat.mod_mod_of_dvd x ⟨2 ^ a, by rw [Nat.pow_succ, Nat.mul_comm]⟩
    have e2 : x % 2 ^ (a + 1) / 2 = (x / 2) % 2 ^ a := by rw [Nat.pow_succ, Nat.mul_comm, Nat.mod_mul_right_div_self]
    rw [e1, e2, ih]

theorem popN_byte (x : Nat) : popN 8 (x % 256) = popN 8 x := popN_mod 8 x

theorem onesCount64 (x x1 x2 x3 x4 x5 x6 : Nat) (h1 : x1 = ((x / 2) &&& 6148914691236517205) + (x &&& 6148914691236517205))
    (h2 : x2 = ((x1 / 4) &&& 3689348814741910323) + (x1 &&& 3689348814741910323)) (h3 : x3 = (x2 / 16 + x2) &&& 1085102592571150095)
    (h4 : x4 = x3 + x3 / 256) (h5 : x5 = x4 + x4 / 65536) (h6 : x6 = x5 + x5 / 4294967296) :
    x6 % 128 = popN 64 x ∧ x1 ≤ 12297829382473034410 ∧ x2 / 16 + x2 < 18446744073709551616 ∧ x4 < 18446744073709551616 ∧ x5 < 18446744073709551616 ∧ x6 < 18446744073709551616 := by
  have r1 := swar1 8 x
  have r2 := swar2 8 x
  have r3 := swar3 8 x
  rw [show rep8 85 8 = 6148914691236517205 from by decide] at r1
  rw [← r1, show rep8 51 8 = 3689348814741910323 from by decide] at r2
  rw [← h1, ← h2] at r2
  rw [← r2, show rep8 15 8 = 1085102592571150095 from by decide, ← h3] at r3
  have lb1 : x1 ≤ 12297829382473034410 := by
    have := Nat.and_le_right (n := x / 2) (m := 6148914691236517205)
    have := Nat.and_le_right (n := x) (m := 6148914691236517205)
    omega
  have lb2 : x2 / 16 + x2 < 18446744073709551616 := by
    have := Nat.and_le_right (n := x1 / 4) (m := 3689348814741910323)
    have := Nat.and_le_right (n := x1) (m := 3689348814741910323)
    omega
  have hp : popN 64 x = popN 8 x + (popN 8 (x / 256) + (popN 8 (x / 256 / 256) + (popN 8 (x / 256 / 256 / 256) + (popN 8 (x / 256 / 256 / 256 / 256) + (popN 8 (x / 256 / 256 / 256 / 256 / 256) + (popN 8 (x / 256 / 256 / 256 / 256 / 256 / 256) + popN 8 (x / 256 / 256 / 256 / 256 / 256 / 256 / 256))))))) := by
    rw [show (64 : Nat) = 8 + 56 from rfl, popN_split, show (56 : Nat) = 8 + 48 from rfl, popN_split, show (48 : Nat) = 8 + 40 from rfl, popN_split, show (40 : Nat) = 8 + 32 from rfl, popN_split, show (32 : Nat) = 8 + 24 from rfl, popN_split, show (24 : Nat) = 8 + 16 from rfl, popN_split, show (16 : Nat) = 8 + 8 from rfl, popN_split]
  have hb : ∀ y, g3 (y % 256) = popN 8 y ∧ popN 8 y ≤ 8 := fun y => by
    have := g3_pop ⟨y % 256, by omega⟩
    dsimp only at this
    rwa [popN_byte] at this
  rw [hp]
  simp only [by8, (hb _).1] at r3
  have b0 := (hb x).2
  have b1 := (hb (x / 256)).2
  have b2 := (hb (x / 256 / 256)).2
  have b3 := (hb (x / 256 / 256 / 256)).2
  have b4 := (hb (x / 256 / 256 / 256 / 256)).2
  have b5 := (hb (x / 256 / 256 / 256 / 256 / 256)).2
  have b6 := (hb (x / 256 / 256 / 256 / 256 / 256 / 256)).2
  have b7 := (hb (x / 256 / 256 / 256 / 256 / 256 / 256 / 256)).2
  generalize popN 8 x = p0 at *
  generalize popN 8 (x / 256) = p1 at *
  generalize popN 8 (x / 256 / 256) = p2 at *
  generalize popN 8 (x / 256 / 256 / 256) = p3 at *
  generalize popN 8 (x / 256 / 256 / 256 / 256) = p4 at *
  generalize popN 8 (x / 256 / 256 / 256 / 256 / 256) = p5 at *
  generalize popN 8 (x / 256 / 256 / 256 / 256 / 256 / 256) = p6 at *
  generalize popN 8 (x / 256 / 256 / 256 / 256 / 256 / 256 / 256) = p7 at *
  clear r1 r2 h1 h2 h3 hp hb
  have s4 : x4 = (p0 + p1) + 256 * (p1 + p2) + 65536 * ((p2 + p3) + 256 * (p3 + p4) + 65536 * ((p4 + p5) + 256 * (p5 + p6) + 65536 * ((p6 + p7) + 256 * p7))) := by omega
  clear r3 h4
  have s5 : x4 / 65536 = (p2 + p3) + 256 * (p3 + p4) + 65536 * ((p4 + p5) + 256 * (p5 + p6) + 65536 * ((p6 + p7) + 256 * p7)) := by omega
  have t5 : x5 = (p0 + p1 + p2 + p3) + 256 * (p1 + p2 + p3 + p4) + 65536 * (p2 + p3 + p4 + p5) + 16777216 * (p3 + p4 + p5 + p6) + 4294967296 * ((p4 + p5 + p6 + p7) + 256 * (p5 + p6 + p7) + 65536 * ((p6 + p7) + 256 * p7)) := by omega
  have s6 : x5 / 4294967296 = (p4 + p5 + p6 + p7) + 256 * (p5 + p6 + p7) + 65536 * ((p6 + p7) + 256 * p7) := by omega
  clear h5 s5
  have u4 : x4 < 18446744073709551616 := by omega
  clear s4
  have u5 : x5 < 18446744073709551616 := by omega
  rw [s6, t5] at h6
  clear t5 s6
  exact ⟨by omega, lb1, lb2, u4, u5, by omega⟩

end Wf
namespace Wf

/-- How many bytes a class has. -/
def cntC (c : Cls) : Nat := popN 64 c.1 + popN 64 c.2.1 + popN 64 c.2.2.1 + popN 64 c.2.2.2

theorem popN_le (f : Nat) : ∀ x, popN f x ≤ f := by
  induction f with
  | zero => intro x; simp [popN]
  | succ f ih => intro x; simp only [popN]; have := ih (x / 2); omega

theorem cntC_le (c : Cls) : cntC c ≤ 256 := by
  have h0 := popN_le 64 c.1
  have h1 := popN_le 64 c.2.1
  have h2 := popN_le 64 c.2.2.1
  have h3 := popN_le 64 c.2.2.2
  unfold cntC
  omega

theorem popN_bits (f : Nat) : ∀ x, popN f x = (List.range f).countP (fun i => x.testBit i) := by
  induction f with
  | zero => intro x; simp [popN]
  | succ f ih =>
    intro x
    rw [List.range_succ_eq_map, List.countP_cons, List.countP_map]
    simp only [popN, ih]
    have : (List.range f).countP (fun i => (x / 2).testBit i) = (List.range f).countP ((fun i => x.testBit i) ∘ Nat.succ) := by
      apply List.countP_congr
      intro i _
      simp [Nat.testBit_succ]
    rw [this, Nat.testBit_zero]
    by_cases h : x % 2 = 1
    · simp [h]; omega
    · simp [h]; omega

theorem cnt_has (c : Cls) : cntC c = (List.range 256).countP (fun x => has c x) := by
  have e : List.range 256 = List.range 64 ++ (List.range 64).map (64 + ·) ++ (List.range 64).map (128 + ·) ++ (List.range 64).map (192 + ·) := by decide +kernel
  have h : ∀ q, q < 4 → (List.range 64).countP ((fun x => has c x) ∘ (64 * q + ·)) = popN 64 (word c q) := by
    intro q _
    rw [popN_bits]
    apply List.countP_congr
    intro i hi
    rw [List.mem_range] at hi
    simp only [Function.comp, has]
    rw [show (64 * q + i) / 64 = q by omega, show (64 * q + i) % 64 = i by omega]
  have h0 := h 0 (by omega)
  have h1 := h 1 (by omega)
  have h2 := h 2 (by omega)
  have h3 := h 3 (by omega)
  rw [e, List.countP_append, List.countP_append, List.countP_append, List.countP_map, List.countP_map, List.countP_map]
  simp only [Nat.mul_zero, Nat.mul_one, Nat.reduceMul] at h0 h1 h2 h3
  rw [h1, h2, h3]
  have h0' : (List.range 64).countP (fun x => has c x) = popN 64 (word c 0) := by
    rw [← h0]; apply List.countP_congr; intro i _; simp [Function.comp]
  rw [h0']
  rfl

theorem cnt_one {c : Cls} (h : cntC c = 1) : ∃ b, b < 256 ∧ ∀ x, x < 256 → (has c x = true ↔ x = b) := by
  rw [cnt_has, List.countP_eq_length_filter] at h
  obtain ⟨b, hb⟩ := List.length_eq_one_iff.1 h
  have hm : ∀ x, x < 256 → (has c x = true ↔ x = b) := by
    intro x hx
    have : x ∈ (List.range 256).filter (fun x => has c x) ↔ x ∈ [b] := by rw [hb]
    rw [List.mem_filter, List.mem_range] at this
    simpa [hx] using this
  have : b ∈ (List.range 256).filter (fun x => has c x) := by rw [hb]; simp
  rw [List.mem_filter, List.mem_range] at this
  exact ⟨b, this.1, hm⟩

theorem one_cnt {c : Cls} {b : Nat} (hb : b < 256) (h : ∀ x, x < 256 → (has c x = true ↔ x = b)) : cntC c = 1 := by
  rw [cnt_has]
  have e : (List.range 256).countP (fun x => has c x) = (List.range 256).count b := by
    unfold List.count
    apply List.countP_congr
    intro x hx
    rw [List.mem_range] at hx
    simpa using h x hx
  rw [e, List.nodup_range.count, if_pos (List.mem_range.2 hb)]

/-! Both, either, not. -/
def bothC (a b : Cls) : Cls := (a.1 &&& b.1, a.2.1 &&& b.2.1, a.2.2.1 &&& b.2.2.1, a.2.2.2 &&& b.2.2.2)
def eitherC (a b : Cls) : Cls := (a.1 ||| b.1, a.2.1 ||| b.2.1, a.2.2.1 ||| b.2.2.1, a.2.2.2 ||| b.2.2.2)
def notC (a : Cls) : Cls := (18446744073709551615 - a.1, 18446744073709551615 - a.2.1, 18446744073709551615 - a.2.2.1, 18446744073709551615 - a.2.2.2)

theorem okC_both {a b : Cls} (ha : okC a) : okC (bothC a b) := by
  obtain ⟨h0, h1, h2, h3⟩ := ha
  unfold bothC
  refine ⟨?_, ?_, ?_, ?_⟩ <;> dsimp only
  · have := Nat.and_le_left (n := a.1) (m := b.1); omega
  · have := Nat.and_le_left (n := a.2.1) (m := b.2.1); omega
  · have := Nat.and_le_left (n := a.2.2.1) (m := b.2.2.1); omega
  · have := Nat.and_le_left (n := a.2.2.2) (m := b.2.2.2); omega
theorem okC_either {a b : Cls} (ha : okC a) (hb : okC b) : okC (eitherC a b) := by
  obtain ⟨h0, h1, h2, h3⟩ := ha
  obtain ⟨k0, k1, k2, k3⟩ := hb
  exact ⟨or_lt64 h0 k0, or_lt64 h1 k1, or_lt64 h2 k2, or_lt64 h3 k3⟩
theorem okC_not (a : Cls) : okC (notC a) := by
  unfold notC
  refine ⟨?_, ?_, ?_, ?_⟩ <;> dsimp only <;> omega

theorem word_both (a b : Cls) (q : Nat) : word (bothC a b) q = word a q &&& word b q := by unfold word bothC; dsimp only; split <;> (try split) <;> (try split) <;> rfl
theorem word_either (a b : Cls) (q : Nat) : word (eitherC a b) q = word a q ||| word b q := by unfold word eitherC; dsimp only; split <;> (try split) <;> (try split) <;> rfl
theorem word_not (a : Cls) (q : Nat) : word (notC a) q = 18446744073709551615 - word a q := by unfold word notC; dsimp only; split <;> (try split) <;> (try split) <;> rfl

theorem has_both (a b : Cls) (x : Nat) : has (bothC a b) x = (has a x && has b x) := by unfold has; rw [word_both, Nat.testBit_and]
theorem has_either (a b : Cls) (x : Nat) : has (eitherC a b) x = (has a x || has b x) := by unfold has; rw [word_either, Nat.testBit_or]
theorem has_not {a : Cls} (ha : okC a) (x : Nat) : has (notC a) x = !has a x := by
  unfold has
  rw [word_not, show 18446744073709551615 - word a (x / 64) = 2 ^ 64 - (word a (x / 64) + 1) by omega, Nat.testBit_two_pow_sub_succ (word_lt ha _)]
  have : x % 64 < 64 := Nat.mod_lt _ (by omega)
  simp [this]

theorem cnt_and_or (a b : Cls) : cntC (bothC a b) + cntC (eitherC a b) = cntC a + cntC b := by
  have h : ∀ l : List Nat, l.countP (fun x => has (bothC a b) x) + l.countP (fun x => has (eitherC a b) x) = l.countP (fun x => has a x) + l.countP (fun x => has b x) := by
    intro l
    induction l with
    | nil => rfl
    | cons x r ih =>
      simp only [List.countP_cons, has_both, has_either] at ih ⊢
      cases has a x <;> cases has b x <;> simp <;> omega
  simp only [cnt_has]
  exact h _
theorem cnt_not {a : Cls} (ha : okC a) : cntC a + cntC (notC a) = 256 := by
  have h : ∀ l : List Nat, l.countP (fun x => has a x) + l.countP (fun x => has (notC a) x) = l.length := by
    intro l
    induction l with
    | nil => rfl
    | cons x r ih =>
      simp only [List.countP_cons, has_not ha, List.length_cons] at ih ⊢
      cases has a x <;> simp <;> omega
  simp only [cnt_has]
  rw [h, List.length_range]

theorem not_not {a : Cls} (ha : okC a) : notC (notC a) = a := cls_ext (okC_not _) ha fun x _ => by rw [has_not (okC_not _), has_not ha, Bool.not_not]
theorem not_both {a b : Cls} (ha : okC a) (hb : okC b) : notC (bothC a b) = eitherC (notC a) (notC b) := cls_ext (okC_not _) (okC_either (okC_not _) (okC_not _)) fun x _ => by
  rw [has_not (okC_both ha), has_both, has_either, has_not ha, has_not hb, Bool.not_and]

/-! Texts of bytes. -/
def hexD (n : Nat) : UInt8 := if n < 10 then UInt8.ofNat (48 + n) else UInt8.ofNat (87 + n)
def specialL : List UInt8 := [92, 46, 91, 93, 40, 41, 124, 42, 43, 63, 94, 36, 45]
def byteT (b : Nat) : List UInt8 :=
  if b < 32 ∨ 126 < b then [92, 120, hexD (b / 16), hexD (b % 16)]
  else if UInt8.ofNat b ∈ specialL then [92, UInt8.ofNat b] else [UInt8.ofNat b]

def unhex (c : UInt8) : Nat := if c.toNat < 58 then c.toNat - 48 else c.toNat - 87
/-- The first byte told by a text, and what is behind it. -/
def dec1 : List UInt8 → Option (Nat × List UInt8)
  | [] => none
  | a :: r => if a = 92 then
      match r with
      | [] => none
      | c :: r => if c = 120 then
          match r with
          | h :: l :: r => some (unhex h * 16 + unhex l, r)
          | _ => none
        else some (c.toNat, r)
    else some (a.toNat, r)

theorem dec1_app {l s : List UInt8} {b : Nat} (h : dec1 l = some (b, s)) (r : List UInt8) : dec1 (l ++ r) = some (b, s ++ r) := by
  match l with
  | [] => simp [dec1] at h
  | a :: t =>
    by_cases ha : a = 92
    · subst ha
      match t with
      | [] => simp [dec1] at h
      | c :: t =>
        by_cases hc : c = 120
        · subst hc
          match t with
          | [] => simp [dec1] at h
          | [x] => simp [dec1] at h
          | x :: y :: t => simp [dec1] at h ⊢; simp [h]
        · simp [dec1, hc] at h ⊢; simp [h]
    · simp [dec1, ha] at h ⊢; simp [h]

theorem dec1_byte (b : Nat) (hb : b < 256) (r : List UInt8) : dec1 (byteT b ++ r) = some (b, r) := by
  have h : ∀ b : Fin 256, dec1 (byteT b.val) = some (b.val, []) := by decide +kernel
  have := dec1_app (h ⟨b, hb⟩) r
  simpa using this

theorem byteT_head (b : Nat) (hb : b < 256) : ∃ x t, byteT b = x :: t ∧ x ≠ 45 ∧ x ≠ 93 ∧ x ≠ 46 ∧ x ≠ 91 := by
  have h : ∀ b : Fin 256, ∃ x t, byteT b.val = x :: t ∧ x ≠ 45 ∧ x ≠ 93 ∧ x ≠ 46 ∧ x ≠ 91 := by
    have h : ∀ b : Fin 256, (match byteT b.val with | [] => false | x :: _ => decide (x ≠ 45 ∧ x ≠ 93 ∧ x ≠ 46 ∧ x ≠ 91)) = true := by decide +kernel
    intro b
    have := h b
    split at this
    · cases this
    · rename_i x t e; exact ⟨x, t, e, of_decide_eq_true this⟩
  exact h ⟨b, hb⟩

theorem byteT_pre {a b : Nat} (ha : a < 256) (hb : b < 256) {r r' : List UInt8} (h : byteT a ++ r = byteT b ++ r') : a = b ∧ r = r' := by
  have h1 := dec1_byte a ha r
  rw [h, dec1_byte b hb r'] at h1
  simp at h1
  exact ⟨h1.1.symm, h1.2.symm⟩

theorem byteT_len (b : Nat) : (byteT b).length ≤ 4 ∧ 1 ≤ (byteT b).length := by
  unfold byteT
  split
  · simp
  · split <;> simp

/-! Runs of a class. -/
/-- The end of the run in which a byte stands. -/
def top (c : Cls) (b : Nat) : Nat := if h : b < 255 ∧ has c (b + 1) = true then top c (b + 1) else b
termination_by 255 - b
decreasing_by omega

theorem le_top (c : Cls) (b : Nat) : b ≤ top c b := by
  unfold top
  split
  · have := le_top c (b + 1); omega
  · omega
termination_by 255 - b
decreasing_by omega
theorem top_lt (c : Cls) (b : Nat) (h : b < 256) : top c b < 256 := by
  unfold top
  split
  · exact top_lt c (b + 1) (by omega)
  · exact h
termination_by 255 - b
decreasing_by omega
theorem top_yes {c : Cls} {b : Nat} (h1 : b < 255) (h2 : has c (b + 1) = true) : top c b = top c (b + 1) := by
  conv => lhs; unfold top
  rw [dif_pos ⟨h1, h2⟩]
theorem top_no {c : Cls} {b : Nat} (h : ¬(b < 255 ∧ has c (b + 1) = true)) : top c b = b := by
  unfold top
  rw [dif_neg h]
theorem has_top {c : Cls} {b x : Nat} (hb : has c b = true) (h1 : b ≤ x) (h2 : x ≤ top c b) : has c x = true := by
  by_cases h : b < 255 ∧ has c (b + 1) = true
  · rw [top_yes h.1 h.2] at h2
    by_cases e : x = b
    · rw [e]; exact hb
    · exact has_top h.2 (by omega) h2
  · rw [top_no h] at h2
    have : x = b := by omega
    rw [this]; exact hb
termination_by 255 - b
decreasing_by omega
theorem top_next {c : Cls} {b : Nat} (h : top c b < 255) : has c (top c b + 1) = false := by
  by_cases h' : b < 255 ∧ has c (b + 1) = true
  · rw [top_yes h'.1 h'.2] at h ⊢
    exact top_next h
  · rw [top_no h'] at h ⊢
    simpa [h] using h'
termination_by 255 - b
decreasing_by omega

/-- A run as it is told: as items from a byte to a byte. -/
def runI (lo hi : Nat) : List (Nat × Nat) := if hi = lo then [(lo, lo)] else if hi = lo + 1 then [(lo, lo), (hi, hi)] else [(lo, hi)]
def items (c : Cls) (b : Nat) : List (Nat × Nat) := if h : b < 256 then (if has c b then runI b (top c b) ++ items c (top c b + 1) else items c (b + 1)) else []
termination_by 256 - b
decreasing_by
  · have := le_top c b; omega
  · omega
def itemT (p : Nat × Nat) : List UInt8 := if p.1 = p.2 then byteT p.1 else byteT p.1 ++ [45] ++ byteT p.2
def spT (lo hi : Nat) : List UInt8 := if hi - lo = 0 then byteT lo else if hi - lo = 1 then byteT lo ++ byteT hi else byteT lo ++ [45] ++ byteT hi

theorem spT_items (lo hi : Nat) (h : lo ≤ hi) : (runI lo hi).flatMap itemT = spT lo hi := by
  unfold runI spT
  split
  · rename_i e; subst e; simp [itemT]
  · split
    · rename_i e; subst e; simp [itemT]
    · rw [if_neg (by omega), if_neg (by omega)]
      have : lo ≠ hi := by omega
      simp [itemT, this]

def runsT (c : Cls) (b : Nat) : List UInt8 := (items c b).flatMap itemT
theorem runsT_yes {c : Cls} {b : Nat} (hb : b < 256) (h : has c b = true) : runsT c b = spT b (top c b) ++ runsT c (top c b + 1) := by
  unfold runsT
  conv => lhs; unfold items
  rw [dif_pos hb, if_pos h, List.flatMap_append, spT_items _ _ (le_top c b)]
theorem runsT_no {c : Cls} {b : Nat} (hb : b < 256) (h : has c b = false) : runsT c b = runsT c (b + 1) := by
  unfold runsT
  conv => lhs; unfold items
  rw [dif_pos hb, if_neg (by simp [h])]
theorem runsT_end {c : Cls} {b : Nat} (hb : 256 ≤ b) : runsT c b = [] := by
  unfold runsT items
  rw [dif_neg (by omega)]
  rfl

def okI (l : List (Nat × Nat)) : Prop := ∀ p ∈ l, p.1 ≤ p.2 ∧ p.2 < 256
theorem mem_runI {lo hi : Nat} (h : lo ≤ hi) (h2 : hi < 256) : okI (runI lo hi) ∧ ∀ x, (∃ p ∈ runI lo hi, p.1 ≤ x ∧ x ≤ p.2) ↔ lo ≤ x ∧ x ≤ hi := by
  unfold runI okI
  split
  · rename_i e; subst e; simp; omega
  · split
    · rename_i e; subst e; simp; exact ⟨by omega, fun x => by omega⟩
    · simp; omega

theorem mem_items (c : Cls) (b : Nat) : okI (items c b) ∧ ∀ x, (∃ p ∈ items c b, p.1 ≤ x ∧ x ≤ p.2) ↔ b ≤ x ∧ x < 256 ∧ has c x = true := by
  unfold items
  by_cases hb : b < 256
  · rw [dif_pos hb]
    by_cases h : has c b = true
    · rw [if_pos h]
      have hl := le_top c b
      have ht := top_lt c b hb
      obtain ⟨h1, h2⟩ := mem_items c (top c b + 1)
      obtain ⟨k1, k2⟩ := mem_runI hl ht
      refine ⟨fun p hp => ?_, fun x => ?_⟩
      · rw [List.mem_append] at hp
        exact hp.elim (k1 p) (h1 p)
      · have e : (∃ p ∈ runI b (top c b) ++ items c (top c b + 1), p.1 ≤ x ∧ x ≤ p.2) ↔ (∃ p ∈ runI b (top c b), p.1 ≤ x ∧ x ≤ p.2) ∨ (∃ p ∈ items c (top c b + 1), p.1 ≤ x ∧ x ≤ p.2) := by
          simp only [List.mem_append]
          constructor
          · rintro ⟨p, hp | hp, hx⟩
            · exact .inl ⟨p, hp, hx⟩
            · exact .inr ⟨p, hp, hx⟩
          · rintro (⟨p, hp, hx⟩ | ⟨p, hp, hx⟩)
            · exact ⟨p, .inl hp, hx⟩
            · exact ⟨p, .inr hp, hx⟩
        rw [e, k2, h2]
        constructor
        · rintro (⟨p1, p2⟩ | ⟨p1, p2, p3⟩)
          · exact ⟨p1, by omega, has_top h p1 p2⟩
          · exact ⟨by omega, p2, p3⟩
        · rintro ⟨p1, p2, p3⟩
          by_cases hx : x ≤ top c b
          · exact .inl ⟨p1, hx⟩
          · exact .inr ⟨by omega, p2, p3⟩
    · rw [if_neg h]
      obtain ⟨h1, h2⟩ := mem_items c (b + 1)
      refine ⟨h1, fun x => ?_⟩
      rw [h2]
      constructor
      · rintro ⟨p1, p2, p3⟩; exact ⟨by omega, p2, p3⟩
      · rintro ⟨p1, p2, p3⟩
        by_cases e : x = b
        · rw [e] at p3; exact absurd p3 h
        · exact ⟨by omega, p2, p3⟩
  · rw [dif_neg hb]
    refine ⟨fun p hp => (by cases hp), fun x => ⟨?_, ?_⟩⟩
    · rintro ⟨p, hp, _⟩; cases hp
    · rintro ⟨p1, p2, _⟩; omega
termination_by 256 - b
decreasing_by
  · have := le_top c b; omega
  · omega

theorem items_inj : ∀ (l m : List (Nat × Nat)), okI l → okI m → ∀ r r' : List UInt8, l.flatMap itemT ++ 93 :: r = m.flatMap itemT ++ 93 :: r' → l = m := by
  intro l
  induction l with
  | nil =>
    intro m _ hm r r' h
    cases m with
    | nil => rfl
    | cons q m =>
      exfalso
      obtain ⟨x, t, e, _, h93, _⟩ := byteT_head q.1 (by have := hm q (by simp); omega)
      simp only [List.flatMap_cons, List.flatMap_nil, List.nil_append, itemT] at h
      split at h <;> (rw [e] at h; simp at h; exact h93 h.1.symm)
  | cons p l ih =>
    intro m hl hm r r' h
    obtain ⟨hp1, hp2⟩ := hl p (by simp)
    cases m with
    | nil =>
      exfalso
      obtain ⟨x, t, e, _, h93, _⟩ := byteT_head p.1 (by omega)
      simp only [List.flatMap_cons, List.flatMap_nil, List.nil_append, itemT] at h
      split at h <;> (rw [e] at h; simp at h; exact h93 h.1)
    | cons q m =>
      obtain ⟨hq1, hq2⟩ := hm q (by simp)
      have hl' : okI l := fun p hp => hl p (by simp [hp])
      have hm' : okI m := fun p hp => hm p (by simp [hp])
      have nodash : ∀ (m : List (Nat × Nat)) (r : List UInt8), okI m → ∀ t, m.flatMap itemT ++ 93 :: r ≠ 45 :: t := by
        intro m r hm t h
        cases m with
        | nil => simp at h
        | cons q m =>
          obtain ⟨x, t, e, h45, _⟩ := byteT_head q.1 (by have := hm q (by simp); omega)
          simp only [List.flatMap_cons, itemT] at h
          split at h <;> (rw [e] at h; simp at h; exact h45 h.1)
      obtain ⟨p1, p2⟩ := p
      obtain ⟨q1, q2⟩ := q
      simp only at hp1 hp2 hq1 hq2
      simp only [List.flatMap_cons, itemT] at h
      by_cases e1 : p1 = p2 <;> by_cases e2 : q1 = q2
      · simp only [e1, e2, if_true, List.append_assoc] at h
        obtain ⟨e, h⟩ := byteT_pre (by omega) (by omega) h
        rw [ih m hl' hm' r r' h, e1, e2, e]
      · simp only [e1, e2, if_true, if_false, List.append_assoc] at h
        obtain ⟨e, h⟩ := byteT_pre (by omega) (by omega) h
        exact absurd h (nodash l r hl' _)
      · simp only [e1, e2, if_true, if_false, List.append_assoc] at h
        obtain ⟨e, h⟩ := byteT_pre (by omega) (by omega) h
        exact absurd h.symm (nodash m r' hm' _)
      · simp only [e1, e2, if_false, List.append_assoc] at h
        obtain ⟨e, h⟩ := byteT_pre (by omega) (by omega) h
        simp only [List.cons_append, List.nil_append, List.cons.injEq, true_and] at h
        obtain ⟨e', h⟩ := byteT_pre (by omega) (by omega) h
        rw [ih m hl' hm' r r' h, e, e']

/-! The text of a class. -/
/-- The least byte of a class from a byte on; 256: there is none. -/
def least (c : Cls) (b : Nat) : Nat := if h : b < 256 ∧ has c b = false then least c (b + 1) else b
termination_by 256 - b
decreasing_by omega
theorem least_no {c : Cls} {b : Nat} (h1 : b < 256) (h2 : has c b = false) : least c b = least c (b + 1) := by
  conv => lhs; unfold least
  rw [dif_pos ⟨h1, h2⟩]
theorem least_yes {c : Cls} {b : Nat} (h : has c b = true) : least c b = b := by
  unfold least
  rw [dif_neg (by simp [h])]
theorem least_of {c : Cls} {b x : Nat} (h1 : x ≤ b) (hb : b < 256) (h : ∀ y, y < 256 → (has c y = true ↔ y = b)) : least c x = b := by
  by_cases e : x = b
  · rw [e]; exact least_yes ((h b hb).2 rfl)
  · have hx : has c x = false := by
      cases hh : has c x with
      | false => rfl
      | true => exact absurd ((h x (by omega)).1 hh) e
    rw [least_no (by omega) hx]
    exact least_of (by omega) hb h
termination_by 256 - x
decreasing_by omega

def dotC : Cls := notC (ofL [10] zc)
instance : DecidableEq Cls := inferInstanceAs (DecidableEq (Nat × Nat × Nat × Nat))
def textC (c : Cls) : List UInt8 := if cntC c = 1 then byteT (least c 0) else if c = dotC then [46] else 91 :: (runsT c 0 ++ [93])

theorem cnt_one_least {c : Cls} (h : cntC c = 1) : least c 0 < 256 ∧ ∀ x, x < 256 → (has c x = true ↔ x = least c 0) := by
  obtain ⟨b, hb, hx⟩ := cnt_one h
  rw [least_of (Nat.zero_le _) hb hx]
  exact ⟨hb, hx⟩

theorem textC_inj {a b : Cls} (ha : okC a) (hb : okC b) (h : textC a = textC b) : a = b := by
  have key : ∀ {a b : Cls}, okC a → okC b → cntC a = 1 → textC a = textC b → a = b := by
    intro a b ha hb h1 h
    obtain ⟨l1, m1⟩ := cnt_one_least h1
    obtain ⟨x, t, e, _, _, h46, h91⟩ := byteT_head _ l1
    unfold textC at h
    rw [if_pos h1] at h
    split at h
    · rename_i h2
      obtain ⟨l2, m2⟩ := cnt_one_least h2
      have he := byteT_pre l1 l2 (r := []) (r' := []) (by simpa using h)
      exact cls_ext ha hb fun x hx => by rw [Bool.eq_iff_iff, m1 x hx, m2 x hx, he.1]
    · split at h
      · rw [e] at h; simp at h; exact absurd h.1 h46
      · rw [e] at h; simp at h; exact absurd h.1 h91
  by_cases h1 : cntC a = 1
  · exact key ha hb h1 h
  · by_cases h2 : cntC b = 1
    · exact (key hb ha h2 h.symm).symm
    · unfold textC at h
      rw [if_neg h1, if_neg h2] at h
      split at h
      · rename_i e1
        split at h
        · rename_i e2; rw [e1, e2]
        · simp at h
      · split at h
        · simp at h
        · simp only [List.cons.injEq, true_and] at h
          have hi := items_inj _ _ (mem_items a 0).1 (mem_items b 0).1 [] [] h
          exact cls_ext ha hb fun x hx => by
            have q1 := (mem_items a 0).2 x
            have q2 := (mem_items b 0).2 x
            rw [hi] at q1
            rw [Bool.eq_iff_iff]
            have : (0 ≤ x ∧ x < 256 ∧ has a x = true) ↔ (0 ≤ x ∧ x < 256 ∧ has b x = true) := q1.symm.trans q2
            simpa [hx] using this

theorem spT_len (lo hi : Nat) : (spT lo hi).length ≤ 9 := by
  have h1 := byteT_len lo
  have h2 := byteT_len hi
  unfold spT
  split
  · omega
  · split <;> simp <;> omega
theorem runsT_len (c : Cls) (b : Nat) : (runsT c b).length ≤ 9 * (256 - b) := by
  by_cases hb : b < 256
  · by_cases h : has c b = true
    · rw [runsT_yes hb h, List.length_append]
      have h1 := le_top c b
      have h2 := top_lt c b hb
      have h3 := spT_len b (top c b)
      have h4 := runsT_len c (top c b + 1)
      omega
    · rw [runsT_no hb (by simpa using h)]
      have h4 := runsT_len c (b + 1)
      omega
  · rw [runsT_end (by omega)]; simp
termination_by 256 - b
decreasing_by
  · have := le_top c b; omega
  · omega

/-! The same, so that it can be reckoned. -/
def topF (c : Cls) : Nat → Nat → Nat
  | 0, b => b
  | n + 1, b => if has c (b + 1) then topF c n (b + 1) else b
theorem topF_eq (c : Cls) (n : Nat) : ∀ b, b + n = 255 → top c b = topF c n b := by
  induction n with
  | zero => intro b h; exact top_no (by omega)
  | succ n ih =>
    intro b h
    simp only [topF]
    by_cases hh : has c (b + 1) = true
    · rw [if_pos hh, top_yes (by omega) hh, ih _ (by omega)]
    · rw [if_neg hh, top_no (fun x => hh x.2)]
def itemsF (c : Cls) : Nat → Nat → List (Nat × Nat)
  | 0, _ => []
  | n + 1, b => if b < 256 then (if has c b then runI b (topF c (255 - b) b) ++ itemsF c n (topF c (255 - b) b + 1) else itemsF c n (b + 1)) else []
theorem itemsF_eq (c : Cls) (n : Nat) : ∀ b, 256 ≤ b + n → items c b = itemsF c n b := by
  induction n with
  | zero => intro b h; unfold items; rw [dif_neg (by omega)]; rfl
  | succ n ih =>
    intro b h
    unfold items
    simp only [itemsF]
    by_cases hb : b < 256
    · rw [dif_pos hb, if_pos hb, ← topF_eq c (255 - b) b (by omega)]
      have := le_top c b
      by_cases hh : has c b = true
      · rw [if_pos hh, if_pos hh, ih _ (by omega)]
      · rw [if_neg hh, if_neg hh, ih _ (by omega)]
    · rw [dif_neg hb, if_neg hb]
theorem textC_eq (c : Cls) (h : cntC c ≠ 1) (hd : c ≠ dotC) : textC c = 91 :: ((itemsF c 256 0).flatMap itemT ++ [93]) := by
  unfold textC runsT
  rw [if_neg h, if_neg hd, itemsF_eq c 256 0 (by omega)]

end Wf

/-
  Walks of the document's answers: In, Count, Parts.
-/
namespace Go.Proofs.YthcahjnniendnabDoor
open Go.RowKit Wf

theorem half_bit (n i : Nat) : (n / 2 ^ i % 2 == 1) = n.testBit i := by
  rw [Nat.testBit_eq_decide_div_mod_eq]
  by_cases h : n / 2 ^ i % 2 = 1 <;> simp [h]

def RInIs (c : Cls) (b : Nat) (w : World) (e : Ending) (w' : World) : Prop := e = .returned (.bool (has c b)) ∧ Below w.heap.size w w'
set_option maxRecDepth 100000 in
set_option maxHeartbeats 2000000 in
theorem RIn_any (c0 c1 c2 c3 b : Nat) (w : World) (hok : okC (c0, c1, c2, c3)) (hb : b < 256) :
    Calls Tryd.prog 35 #[.agg #[.int .u64 (c0 : Int), .int .u64 (c1 : Int), .int .u64 (c2 : Int), .int .u64 (c3 : Int)], .int .i64 (b : Int)] w (RInIs (c0, c1, c2, c3) b w) := by
  have hw := word_lt hok (b / 64)
  have hbl := Blk.new w 54 #[.int .u64 (c0 : Int), .int .u64 (c1 : Int), .int .u64 (c2 : Int), .int .u64 (c3 : Int)]
  have hq : b / 64 < 4 := by omega
  have hcell : (w.alloc (.cells #[.int .u64 (c0 : Int), .int .u64 (c1 : Int), .int .u64 (c2 : Int), .int .u64 (c3 : Int)] 54)).cell? ⟨w.heap.size, b / 64, none⟩ = some (.int .u64 (word (c0, c1, c2, c3) (b / 64) : Int)) := by
    rw [hbl.cell]
    unfold word
    obtain h | h | h | h : b / 64 = 0 ∨ b / 64 = 1 ∨ b / 64 = 2 ∨ b / 64 = 3 := by omega
    all_goals (rw [h]; simp)
  have hH : Hid (∀ n, n = word (c0, c1, c2, c3) (b / 64) / 2 ^ (b % 64) → (n % 2 == 1) = has (c0, c1, c2, c3) b) := Lib.hid (by rintro n rfl; rw [half_bit]; rfl)
  generalize word (c0, c1, c2, c3) (b / 64) = W at *
  have hW2 : W < 18446744073709551616 := hw
  clear hbl hok hw
  go_enter Tryd.func35, Tryd.ntmps35
  go_wp2
  go_loopw [5, 6] (fun v5 v6 wr => ∃ k x : Nat, k ≤ b % 64 ∧ v6 = .int .i64 (k : Int) ∧ v5 = .int .u64 (x : Int) ∧ x < 18446744073709551616 ∧ Hid (x = W / 2 ^ k) ∧ Hid (Below w.heap.size w wr)) (fun _ i _ => b % 64 - (intOf i).toNat)
  case atStart => exact ⟨0, W, by omega, rfl, rfl, hW2, Lib.hid (by simp), Lib.hid ((Below.refl _ _).alloc (Nat.le_refl _) _)⟩
  case round =>
    obtain ⟨k, x, hk, rfl, rfl, hx, HX, HB⟩ := hrel
    have hb64 : b % 64 < 64 := by omega
    by_cases hlt : k < b % 64
    · have d1 : decide (k < b % 64) = true := by simpa using hlt
      have d2 : decide ((k : Int) < (b : Int) % 64) = true := by simp; omega
      have i2 : (k : Int) < (b : Int) % 64 := by omega
      go_wp2
      go_roundw
      case rel => exact ⟨k + 1, x / 2, by omega, by go_num, by go_num, by omega, Lib.hid (by rw [HX.out, Nat.div_div_eq_div_mul, Nat.pow_succ]), HB⟩
      case measure => simp [intOf]; omega
    · obtain rfl : k = b % 64 := by omega
      have d1 : decide (b % 64 < b % 64) = false := by simp
      have d2 : decide (((b % 64 : Nat) : Int) < (b : Int) % 64) = false := by simp
      have hres := hH.out x HX.out
      have HRES : Hid (((x : Int) % 2 == 1) = has (c0, c1, c2, c3) b) := Lib.hid (by
        rw [← hres, Bool.eq_iff_iff]; simp; omega)
      clear hres
      go_wp2
      go_ret
      refine ⟨?_, HB.out⟩
      rw [← HRES.out]
      rfl

/-- How many bytes below a number a class has. -/
def cntR (c : Cls) (k : Nat) : Nat := (List.range k).countP fun x => has c x
theorem cntR_succ (c : Cls) (k : Nat) : cntR c (k + 1) = cntR c k + if has c k then 1 else 0 := by
  unfold cntR
  rw [List.range_succ, List.countP_append]
  simp [List.countP_cons]
theorem cntR_le (c : Cls) (k : Nat) : cntR c k ≤ k := by
  have := List.countP_le_length (p := fun x => has c x) (l := List.range k)
  simpa [cntR] using this
theorem cntR_pos (c : Cls) (h : okC c) : 0 < cntR c 256 ↔ c ≠ zc := by
  unfold cntR
  rw [List.countP_pos_iff]
  constructor
  · rintro ⟨x, _, hx⟩ rfl
    rw [has_zc] at hx
    cases hx
  · intro hne
    refine Classical.byContradiction fun hno => hne ?_
    refine cls_ext h okC_zc fun x hx => ?_
    rw [has_zc]
    cases hh : has c x with
    | false => rfl
    | true => exact absurd ⟨x, by simp; exact hx, hh⟩ hno

def RCountIs (c : Cls) (w : World) (e : Ending) (w' : World) : Prop := e = .returned (.int .i64 (cntR c 256 : Int)) ∧ Below w.heap.size w w'
set_option maxRecDepth 100000 in
set_option maxHeartbeats 2000000 in
theorem RCount_any (c0 c1 c2 c3 : Nat) (w : World) (hok : okC (c0, c1, c2, c3)) :
    Calls Tryd.prog 32 #[.agg #[.int .u64 (c0 : Int), .int .u64 (c1 : Int), .int .u64 (c2 : Int), .int .u64 (c3 : Int)]] w (RCountIs (c0, c1, c2, c3) w) := by
  have HBL := Lib.hid (Blk.new w 54 #[.int .u64 (c0 : Int), .int .u64 (c1 : Int), .int .u64 (c2 : Int), .int .u64 (c3 : Int)])
  have HIN := Lib.hid (fun (b : Nat) (hb : b < 256) (W : World) => RIn_any c0 c1 c2 c3 b W hok hb)
  clear hok
  generalize hc : (c0, c1, c2, c3) = c at *
  have HC := Lib.hid hc
  clear hc
  go_enter Tryd.func32, Tryd.ntmps32
  go_wp2
  go_loopw [3, 4] (fun v3 v4 wr => ∃ k m : Nat, k ≤ 256 ∧ m ≤ k ∧ v4 = .int .i64 (k : Int) ∧ v3 = .int .i64 (m : Int) ∧ Hid (m = cntR c k) ∧ Hid (Below (w.heap.size + 1) (w.alloc (.cells #[.int .u64 (c0 : Int), .int .u64 (c1 : Int), .int .u64 (c2 : Int), .int .u64 (c3 : Int)] 54)) wr)) (fun _ i _ => 256 - (intOf i).toNat)
  case atStart => exact ⟨0, 0, by omega, by omega, rfl, rfl, Lib.hid (by simp [cntR]), Lib.hid (Below.refl _ _)⟩
  case round =>
    obtain ⟨k, m, hk, hm, rfl, rfl, HM, HB⟩ := hrel
    by_cases hlt : k < 256
    · have hbl := HBL.out.below HB.out (Nat.lt_succ_self _)
      have q0 := hbl.cell 0
      have q1 := hbl.cell 1
      have q2 := hbl.cell 2
      have q3 := hbl.cell 3
      simp only [List.getElem?_toArray, List.getElem?_cons_succ, List.getElem?_cons_zero] at q0 q1 q2 q3
      have hk1 : (k : Int) < 256 := by omega
      have hsz : w.heap.size + 1 ≤ wr.heap.size := by have := HB.out.size; simpa using this
      clear hbl
      go_wp2_with fail
      refine (HIN.out k hlt _).mono ?_
      rintro e w1 ⟨he, hb1⟩
      have HB1 := Lib.hid (HB.out.trans (hb1.mono hsz))
      clear hb1
      cases hh : has c k with
      | true =>
        rw [hh] at he
        subst he
        have HH := Lib.hid hh
        clear hh
        go_wp2_with fail
        go_roundw
        case rel => exact ⟨k + 1, m + 1, by omega, by omega, by go_num, by go_num, Lib.hid (by rw [cntR_succ, HH.out, HM.out]; rfl), HB1⟩
        case measure => simp [intOf]; omega
      | false =>
        rw [hh] at he
        subst he
        have HH := Lib.hid hh
        clear hh
        go_wp2_with fail
        go_roundw
        case rel => exact ⟨k + 1, m, by omega, by omega, by go_num, rfl, Lib.hid (by rw [cntR_succ, HH.out, HM.out]; rfl), HB1⟩
        case measure => simp [intOf]; omega
    · obtain rfl : k = 256 := by omega
      go_wp2_with fail
      go_ret
      refine ⟨?_, ?_⟩
      · rw [← HM.out]; rfl
      · exact ((Below.refl w.heap.size w).alloc (Nat.le_refl _) _).trans (HB.out.mono (Nat.le_succ _))

theorem RParts_any (op : Int) (w : World) : Calls Tryd.prog 84 #[.int .i64 op] w (fun e w' => e = .returned (.int .i64 (parts op : Int)) ∧ w = w') := by
  by_cases h2 : op = 3 ∨ op = 4
  · have hp : parts op = 2 := by simp [parts, h2]
    rw [hp]
    rcases h2 with rfl | rfl
    · go_enter Tryd.func84, Tryd.ntmps84
      go_wp2
      go_ret
      exact ⟨rfl, rfl⟩
    · go_enter Tryd.func84, Tryd.ntmps84
      go_wp2
      go_ret
      exact ⟨rfl, rfl⟩
  · by_cases h1 : op = 5 ∨ op = 6 ∨ op = 7
    · have hp : parts op = 1 := by unfold parts; rw [if_neg h2, if_pos h1]
      rw [hp]
      rcases h1 with rfl | rfl | rfl
      all_goals (
        go_enter Tryd.func84, Tryd.ntmps84
        go_wp2
        go_ret
        exact ⟨rfl, rfl⟩)
    · have hp : parts op = 0 := by unfold parts; rw [if_neg h2, if_neg h1]
      rw [hp]
      have n3 : (op == 3) = false := by simp; omega
      have n4 : (op == 4) = false := by simp; omega
      have n5 : (op == 5) = false := by simp; omega
      have n6 : (op == 6) = false := by simp; omega
      have n7 : (op == 7) = false := by simp; omega
      clear h1 h2 hp
      go_enter Tryd.func84, Tryd.ntmps84
      go_wp2
      go_ret
      exact ⟨rfl, rfl⟩

end Go.Proofs.YthcahjnniendnabDoor

/-
  Plain facts: the end of a part as the document reckons it; the check node by node. No program in sight.
-/
namespace Wf

open Classical in
/-- The end of the part at place i; -1 if there is none. -/
noncomputable def eo (l : List Nd) (i : Nat) : Int := if h : ∃ u, At l i u then ((i + (flat (choose h)).length : Nat) : Int) else -1
theorem eo_at {l : List Nd} {i : Nat} {u : Rx} (h : At l i u) : eo l i = ((i + (flat u).length : Nat) : Int) := by
  have hex : ∃ u, At l i u := ⟨u, h⟩
  unfold eo
  rw [dif_pos hex, (Classical.choose_spec hex).inj h]
theorem eo_none {l : List Nd} {i : Nat} (h : ¬ ∃ u, At l i u) : eo l i = -1 := by
  unfold eo
  rw [dif_neg h]
theorem eo_le (l : List Nd) (i : Nat) : eo l i ≤ l.length := by
  by_cases h : ∃ u, At l i u
  · obtain ⟨u, hu⟩ := h
    rw [eo_at hu]
    have := hu.lt
    omega
  · rw [eo_none h]; omega
theorem eo_ge (l : List Nd) (i : Nat) : eo l i = -1 ∨ (i : Int) < eo l i := by
  by_cases h : ∃ u, At l i u
  · obtain ⟨u, hu⟩ := h
    rw [eo_at hu]
    have := flat_pos u
    omega
  · exact .inl (eo_none h)

/-- The end of so many parts from a place on. -/
noncomputable def eoN (l : List Nd) : Nat → Int → Int
  | 0, c => c
  | n + 1, c => if c < 0 then c else eoN l n (eo l c.toNat)
theorem eoN_neg (l : List Nd) (n : Nat) (c : Int) (h : c < 0) : eoN l n c = c := by
  cases n with
  | zero => rfl
  | succ n => simp only [eoN, if_pos h]

theorem drop_at {l : List Nd} {i : Nat} {n : Nd} (h : l[i]? = some n) : l.drop i = n :: l.drop (i + 1) := by
  obtain ⟨hi, he⟩ := List.getElem?_eq_some_iff.1 h
  rw [List.drop_eq_getElem_cons hi, he]
theorem At.mk0 {l : List Nd} {i : Nat} {n : Nd} {u : Rx} (h : l[i]? = some n) (hf : flat u = [n]) : At l i u := ⟨l.drop (i + 1), by rw [drop_at h, hf]; rfl⟩
theorem At.mk1 {l : List Nd} {i : Nat} {n : Nd} {u a : Rx} (h : l[i]? = some n) (ha : At l (i + 1) a) (hf : flat u = n :: flat a) : At l i u := by
  obtain ⟨r, hr⟩ := ha
  exact ⟨r, by rw [drop_at h, hr, hf]; rfl⟩
theorem At.mk2 {l : List Nd} {i : Nat} {n : Nd} {u a b : Rx} (h : l[i]? = some n) (ha : At l (i + 1) a) (hb : At l (i + 1 + (flat a).length) b) (hf : flat u = n :: (flat a ++ flat b)) : At l i u := by
  obtain ⟨r, hr⟩ := ha
  obtain ⟨q, hq⟩ := hb
  refine ⟨q, ?_⟩
  have h2 : l.drop (i + 1 + (flat a).length) = r := by rw [← List.drop_drop, hr, List.drop_left]
  rw [hq] at h2
  rw [drop_at h, hr, ← h2, hf]
  simp

theorem eo_one {l : List Nd} {i : Nat} (mk : ∀ a, At l (i + 1) a → ∃ u, At l i u ∧ (flat u).length = 1 + (flat a).length) (op : ∀ u, At l i u → ∃ a, At l (i + 1) a) : eo l i = eoN l 1 ((i + 1 : Nat) : Int) := by
  simp only [eoN]
  rw [if_neg (by omega)]
  simp only [Int.toNat_natCast]
  by_cases h : ∃ a, At l (i + 1) a
  · obtain ⟨a, ha⟩ := h
    obtain ⟨u, hu, hl⟩ := mk a ha
    rw [eo_at hu, eo_at ha]
    omega
  · rw [eo_none h, eo_none]
    rintro ⟨u, hu⟩
    exact h (op u hu)
theorem eo_two {l : List Nd} {i : Nat} (mk : ∀ a b, At l (i + 1) a → At l (i + 1 + (flat a).length) b → ∃ u, At l i u ∧ (flat u).length = 1 + (flat a).length + (flat b).length)
    (op : ∀ u, At l i u → ∃ a b, At l (i + 1) a ∧ At l (i + 1 + (flat a).length) b) : eo l i = eoN l 2 ((i + 1 : Nat) : Int) := by
  simp only [eoN]
  rw [if_neg (by omega)]
  simp only [Int.toNat_natCast]
  by_cases h : ∃ a, At l (i + 1) a
  · obtain ⟨a, ha⟩ := h
    rw [eo_at ha, if_neg (by omega)]
    simp only [Int.toNat_natCast]
    by_cases h2 : ∃ b, At l (i + 1 + (flat a).length) b
    · obtain ⟨b, hb⟩ := h2
      obtain ⟨u, hu, hl⟩ := mk a b ha hb
      rw [eo_at hu, eo_at hb]
      omega
    · rw [eo_none h2, eo_none]
      rintro ⟨u, hu⟩
      obtain ⟨a', b', ha', hb'⟩ := op u hu
      rw [ha'.inj ha] at hb'
      exact h2 ⟨b', hb'⟩
  · rw [eo_none h, if_pos (by omega), eo_none]
    rintro ⟨u, hu⟩
    obtain ⟨a', _, ha', _⟩ := op u hu
    exact h ⟨a', ha'⟩

theorem at_op {l : List Nd} {i : Nat} {u : Rx} (h : At l i u) : ∃ n r, l[i]? = some n ∧ flat u = n :: r := by
  obtain ⟨rest, hr⟩ := h
  cases hf : flat u with
  | nil => have := flat_pos u; rw [hf] at this; simp at this
  | cons n r =>
    refine ⟨n, r, ?_, rfl⟩
    rw [hf] at hr
    have h2 : (l.drop i)[0]? = some n := by rw [hr]; rfl
    simpa using h2

/-- One step: the end of the part at a node is the end of its parts. -/
theorem eo_step {l : List Nd} {i : Nat} {n : Nd} (h : l[i]? = some n) (hg : good n) : eo l i = eoN l (parts n.op) ((i + 1 : Nat) : Int) := by
  obtain ⟨op, c⟩ := n
  obtain ⟨h1, h2, h3⟩ := hg
  simp only at h1 h2 h3
  have leaf : ∀ u, flat u = [⟨op, c⟩] → parts op = 0 → eo l i = eoN l (parts op) ((i + 1 : Nat) : Int) := fun u hf hp => by
    rw [hp]
    simp only [eoN]
    rw [eo_at (At.mk0 h hf), hf]
    rfl
  by_cases e1 : op = 1
  · subst e1; exact leaf (.byte c) rfl (by simp [parts])
  have hc : c = zc := h3.resolve_left e1
  subst hc
  have hop : op = 2 ∨ op = 3 ∨ op = 4 ∨ op = 5 ∨ op = 6 ∨ op = 7 ∨ op = 8 ∨ op = 9 := by omega
  rcases hop with rfl | rfl | rfl | rfl | rfl | rfl | rfl | rfl
  · exact leaf .empty rfl (by simp [parts])
  · have hp : parts 3 = 2 := by simp [parts]
    rw [hp]
    refine eo_two (fun a b ha hb => ⟨.cat a b, At.mk2 h ha hb rfl, by simp [flat]; omega⟩) (fun u hu => ?_)
    obtain ⟨n', r, hn', hf⟩ := at_op hu
    rw [h] at hn'
    cases hn'
    cases u <;> simp [flat] at hf
    exact ⟨_, _, hu.cat.2.1, hu.cat.2.2⟩
  · have hp : parts 4 = 2 := by simp [parts]
    rw [hp]
    refine eo_two (fun a b ha hb => ⟨.alt a b, At.mk2 h ha hb rfl, by simp [flat]; omega⟩) (fun u hu => ?_)
    obtain ⟨n', r, hn', hf⟩ := at_op hu
    rw [h] at hn'
    cases hn'
    cases u <;> simp [flat] at hf
    exact ⟨_, _, hu.alt.2.1, hu.alt.2.2⟩
  · have hp : parts 5 = 1 := by simp [parts]
    rw [hp]
    refine eo_one (fun a ha => ⟨.star a, At.mk1 h ha rfl, by simp [flat]; omega⟩) (fun u hu => ?_)
    obtain ⟨n', r, hn', hf⟩ := at_op hu
    rw [h] at hn'
    cases hn'
    cases u <;> simp [flat] at hf
    exact ⟨_, hu.star.2⟩
  · have hp : parts 6 = 1 := by simp [parts]
    rw [hp]
    refine eo_one (fun a ha => ⟨.plus a, At.mk1 h ha rfl, by simp [flat]; omega⟩) (fun u hu => ?_)
    obtain ⟨n', r, hn', hf⟩ := at_op hu
    rw [h] at hn'
    cases hn'
    cases u <;> simp [flat] at hf
    exact ⟨_, hu.plus.2⟩
  · have hp : parts 7 = 1 := by simp [parts]
    rw [hp]
    refine eo_one (fun a ha => ⟨.opt a, At.mk1 h ha rfl, by simp [flat]; omega⟩) (fun u hu => ?_)
    obtain ⟨n', r, hn', hf⟩ := at_op hu
    rw [h] at hn'
    cases hn'
    cases u <;> simp [flat] at hf
    exact ⟨_, hu.opt.2⟩
  · exact leaf .bgn rfl (by simp [parts])
  · exact leaf .fin rfl (by simp [parts])

/-- The first fault of a node. -/
def chkN : List Nd → Int
  | [] => 0
  | n :: r => if n.op < 1 ∨ 9 < n.op then 1 else if n.op ≠ 1 ∧ n.cls ≠ zc then 2 else chkN r
theorem chkN_good {l : List Nd} (h : chkN l = 0) : ∀ n ∈ l, good n := by
  induction l with
  | nil => intro n hn; cases hn
  | cons a r ih =>
    simp only [chkN] at h
    split at h
    · omega
    · split at h
      · omega
      · rename_i h1 h2
        intro n hn
        rcases List.mem_cons.1 hn with rfl | hn
        · refine ⟨by omega, by omega, ?_⟩
          by_cases e : n.op = 1
          · exact .inl e
          · exact .inr (Classical.byContradiction fun hc => h2 ⟨e, hc⟩)
        · exact ih h n hn
theorem chkLoop_err (l : List Nd) : ∀ need whole, chkN l ≠ 0 → chkLoop l need whole = chkN l := by
  induction l with
  | nil => intro need whole h; exact absurd rfl h
  | cons a r ih =>
    intro need whole h
    simp only [chkN, chkLoop] at h ⊢
    split
    · rfl
    · rename_i h1
      rw [if_neg h1] at h
      split
      · rfl
      · rename_i h2
        rw [if_neg h2] at h
        exact ih _ _ h
theorem chkLoop_shape (l : List Nd) : ∀ need whole, chkN l = 0 → chkLoop l need whole = 0 ∨ chkLoop l need whole = 2 := by
  induction l with
  | nil => intro need whole _; simp only [chkLoop]; split <;> simp
  | cons a r ih =>
    intro need whole h
    simp only [chkN, chkLoop] at h ⊢
    split at h
    · omega
    · rename_i h1
      rw [if_neg h1]
      split at h
      · omega
      · rename_i h2
        rw [if_neg h2]
        exact ih _ _ h
/-- The check as the document says it. -/
noncomputable def chkF (l : List Nd) : Int := if 60 < l.length then 3 else if chkN l ≠ 0 then chkN l else if l.length = 0 ∨ eo l 0 ≠ (l.length : Int) then 2 else 0
theorem chkF_chk (l : List Nd) : chkF l = chk l := by
  unfold chkF
  by_cases h60 : 60 < l.length
  · unfold chk; rw [if_pos h60, if_pos h60]
  rw [if_neg h60]
  by_cases hN : chkN l = 0
  · rw [if_neg (by simpa using hN)]
    have hs := chkLoop_shape l 1 true hN
    have he : chk l = chkLoop l 1 true := by unfold chk; rw [if_neg h60]
    by_cases hz : chk l = 0
    · obtain ⟨_, t, ht⟩ := chk_tree hz
      have hat : At l 0 t := by rw [ht]; exact At.whole t
      rw [hz, if_neg]
      rintro (h0 | h0)
      · have := flat_pos t; rw [← ht] at this; omega
      · rw [eo_at hat, ← ht] at h0; simp at h0
    · have h2 : chk l = 2 := by rw [he] at hz ⊢; omega
      rw [h2]
      by_cases hcond : l.length = 0 ∨ eo l 0 ≠ (l.length : Int)
      · rw [if_pos hcond]
      · exfalso
        have heq : eo l 0 = (l.length : Int) := Classical.byContradiction fun h => hcond (.inr h)
        have hex : ∃ u, At l 0 u := Classical.byContradiction fun h => by rw [eo_none h] at heq; omega
        obtain ⟨u, hu⟩ := hex
        rw [eo_at hu] at heq
        obtain ⟨r, hr⟩ := hu
        have hl := congrArg List.length hr
        simp at hl
        have hr0 : r = [] := List.length_eq_zero_iff.1 (by omega)
        rw [hr0] at hr
        simp at hr
        exact hz (by rw [hr]; exact chk_flat u (by rw [← hr]; omega))
  · rw [if_pos hN]
    unfold chk
    rw [if_neg h60, chkLoop_err l 1 true hN]

end Wf

/-
  Walks of the document's answers: EndOf, Fault, EmptyOf. And rex.End.
-/
namespace Go.Proofs.YthcahjnniendnabDoor
open Go.RowKit Wf

def REndIs (r : Int) (w : World) (e : Ending) (w' : World) : Prop := e = .returned (.int .i64 r) ∧ w = w'

set_option maxRecDepth 100000 in
set_option maxHeartbeats 4000000 in
theorem REnd_all (l : List Nd) (hg : ∀ n ∈ l, good n) (hlen : l.length ≤ 60) (A : Option Addr) (cap : Nat) : ∀ (m i : Nat) (w : World), l.length ≤ i + m → i ≤ l.length → RdN w (.slice A l.length cap) l →
    Calls Tryd.prog 51 #[.slice A l.length cap, .int .i64 (i : Int)] w (REndIs (eo l i) w) := by
  have HGD := Lib.hid hg
  clear hg
  intro m
  induction m with
  | zero =>
    intro i w hm hi hr
    obtain rfl : i = l.length := by omega
    have d1 : decide (l.length ≤ l.length) = true := by simp
    have HE : Hid (eo l l.length = -1) := Lib.hid (eo_none (fun ⟨u, hu⟩ => by have := hu.lt; have := flat_pos u; omega))
    rw [HE.out]
    clear hr
    go_enter Tryd.func51, Tryd.ntmps51
    go_wp2
    go_ret
    exact ⟨rfl, rfl⟩
  | succ m ih =>
    intro i w hm hi hr
    by_cases hlt : i < l.length
    · obtain ⟨A', cap', hv, hcap, hcap2, hmem⟩ := hr.open_
      obtain ⟨b, off, hA, hbl, hcell⟩ := hmem (by omega)
      injection hv with e1 _ e2
      subst e2
      rw [hA] at e1
      subst e1
      have hn : l[i]? = some (l[i]'hlt) := List.getElem?_eq_getElem hlt
      generalize l[i]'hlt = n at hn
      obtain ⟨q0, _, _, _, _⟩ := hcell w (fun _ => rfl) i n hn
      have HES := Lib.hid (eo_step hn (HGD.out n (List.mem_of_getElem? hn)))
      have hpl := parts_le n.op
      have HIH := Lib.hid ih
      have HR := Lib.hid hr
      have d1 : decide (l.length ≤ i) = false := by simp; omega
      have d2 : decide ((l.length : Int) ≤ (i : Int)) = false := by simp; omega
      have i1 : (i : Int) < (l.length : Int) := by omega
      obtain ⟨op, c⟩ := n
      dsimp only at q0 HES hpl
      obtain ⟨pn, hpn⟩ : ∃ X, X = parts op := ⟨_, rfl⟩
      have HPN := Lib.hid hpn
      rw [← hpn] at hpl
      obtain ⟨tg, htg⟩ : ∃ X, X = eo l i := ⟨_, rfl⟩
      have HTG : Hid (tg = eoN l pn ((i + 1 : Nat) : Int)) := Lib.hid (by rw [htg, hpn]; exact HES.out)
      rw [← htg]
      clear ih hr hmem hcell hn hpn htg HES
      go_enter Tryd.func51, Tryd.ntmps51
      go_wp2_with fail
      refine (RParts_any op _).mono ?_
      rintro e w1 ⟨he, rfl⟩
      rw [← HPN.out] at he
      subst he
      go_wp2_with fail
      go_loopw [1, 5] (fun v1 v5 wr => ∃ (c : Int) (k : Nat), k ≤ 2 ∧ v1 = .int .i64 c ∧ v5 = .int .i64 (k : Int) ∧ c ≤ l.length ∧ (c = -1 ∨ (i : Int) < c) ∧ Hid (tg = eoN l k c) ∧ wr = w) (fun _ v _ => (intOf v).toNat)
      case atStart => exact ⟨((i : Nat) : Int) + 1, pn, hpl, rfl, rfl, by omega, by omega, HTG, rfl⟩
      case round =>
        obtain ⟨c, k, hk, rfl, rfl, hc1, hc2, HT, rfl⟩ := hrel
        cases k with
        | zero =>
          have HT0 : Hid (tg = c) := HT
          go_wp2_with fail
          go_ret
          exact ⟨by rw [HT0.out]; rfl, rfl⟩
        | succ k =>
          by_cases hneg : c < 0
          · have hn : decide (0 ≤ c) = false := by simp; omega
            have HT0 : Hid (tg = c) := Lib.hid (by rw [HT.out]; exact eoN_neg _ _ _ hneg)
            clear hneg
            go_wp2_with fail
            go_ret
            exact ⟨by rw [HT0.out]; rfl, rfl⟩
          · have hn : decide (0 ≤ c) = true := by simp; omega
            obtain ⟨cn, rfl⟩ : ∃ n : Nat, c = (n : Int) := ⟨c.toNat, by omega⟩
            have HT1 : Hid (tg = eoN l k (eo l cn)) := Lib.hid (by rw [HT.out]; simp only [eoN]; rw [if_neg (by omega)]; simp)
            have hle := eo_le l cn
            have hge := eo_ge l cn
            have HCALL := Lib.hid (HIH.out cn wr (by omega) (by omega) HR.out)
            obtain ⟨nx, hnx⟩ : ∃ X, X = eo l cn := ⟨_, rfl⟩
            rw [← hnx] at hle hge HCALL HT1
            clear hnx hneg
            go_wp2_with fail
            refine HCALL.out.mono ?_
            rintro e w2 ⟨rfl, rfl⟩
            go_wp2_with fail
            go_roundw
            case rel => exact ⟨nx, k, by omega, rfl, by go_num, hle, by omega, HT1, by first | rfl | trivial⟩
            case measure => simp [intOf]
    · obtain rfl : i = l.length := by omega
      have d1 : decide (l.length ≤ l.length) = true := by simp
      have HE : Hid (eo l l.length = -1) := Lib.hid (eo_none (fun ⟨u, hu⟩ => by have := hu.lt; have := flat_pos u; omega))
      rw [HE.out]
      clear hr ih
      go_enter Tryd.func51, Tryd.ntmps51
      go_wp2
      go_ret
      exact ⟨rfl, rfl⟩

theorem chkN_at {l : List Nd} {i : Nat} {n : Nd} (h : l[i]? = some n) : chkN (l.drop i) = if n.op < 1 ∨ 9 < n.op then 1 else if n.op ≠ 1 ∧ n.cls ≠ zc then 2 else chkN (l.drop (i + 1)) := by
  rw [drop_at h]; rfl

def RFaultIs (l : List Nd) (w : World) (e : Ending) (w' : World) : Prop := e = .returned (.int .i64 (chk l)) ∧ Below w.heap.size w w'
set_option maxRecDepth 100000 in
set_option maxHeartbeats 4000000 in
theorem RFault_any (l : List Nd) (v : Value) (w : World) (hr : RdN w v l) (hok : ∀ n ∈ l, okC n.cls) : Calls Tryd.prog 10 #[v] w (RFaultIs l w) := by
  obtain ⟨A, cap, rfl, hcap, hcap2, hmem⟩ := hr.open_
  have HCF := Lib.hid (chkF_chk l)
  have HDEF : Hid (chkF l = if 60 < l.length then 3 else if chkN l ≠ 0 then chkN l else if l.length = 0 ∨ eo l 0 ≠ (l.length : Int) then 2 else 0) := Lib.hid rfl
  unfold RFaultIs
  rw [← HCF.out]
  by_cases h60 : 60 < l.length
  · have d1 : decide (60 < l.length) = true := by simpa using h60
    have d2 : decide ((60 : Int) < (l.length : Int)) = true := by simp; omega
    have HR : Hid (chkF l = 3) := Lib.hid (by rw [HDEF.out, if_pos h60])
    rw [HR.out]
    clear hr hmem hok h60
    go_enter Tryd.func10, Tryd.ntmps10
    go_wp2
    go_ret
    exact ⟨rfl, Below.refl _ _⟩
  have hl : l.length ≤ 60 := by omega
  have d1 : decide (60 < l.length) = false := by simpa using h60
  have d2 : decide ((60 : Int) < (l.length : Int)) = false := by simp; omega
  have HDEF2 : Hid (chkF l = if chkN l ≠ 0 then chkN l else if l.length = 0 ∨ eo l 0 ≠ (l.length : Int) then 2 else 0) := Lib.hid (by rw [HDEF.out, if_neg h60])
  have HR := Lib.hid hr
  have HM := Lib.hid hmem
  have HOK := Lib.hid hok
  have HEND := Lib.hid (fun (hg : ∀ n ∈ l, good n) (W : World) (h : RdN W (.slice A l.length cap) l) => REnd_all l hg hl A cap l.length 0 W (by omega) (by omega) h)
  obtain ⟨tg, htg⟩ : ∃ X, X = chkF l := ⟨_, rfl⟩
  rw [← htg] at HDEF2 ⊢
  clear hr hmem hok h60 HDEF HCF htg
  go_enter Tryd.func10, Tryd.ntmps10
  go_wp2_with fail
  go_loopw [3] (fun v3 wr => ∃ i : Nat, i ≤ l.length ∧ v3 = .int .i64 (i : Int) ∧ Hid (chkN l = chkN (l.drop i)) ∧ Hid (Below w.heap.size w wr)) (fun v _ => l.length - (intOf v).toNat)
  case atStart => exact ⟨0, by omega, rfl, Lib.hid (by simp), Lib.hid (Below.refl _ _)⟩
  case round =>
    obtain ⟨i, hi, rfl, HC, HB⟩ := hrel
    by_cases hlt : i < l.length
    · obtain ⟨b, off, rfl, hbl, hcell⟩ := HM.out (by omega)
      have hn : l[i]? = some (l[i]'hlt) := List.getElem?_eq_getElem hlt
      generalize l[i]'hlt = n at hn
      obtain ⟨q0, q1, q2, q3, q4⟩ := hcell wr (fun o => HB.out.cell (p := ⟨b, o, none⟩) hbl) i n hn
      have hstep := chkN_at hn
      have hcl := HOK.out n (List.mem_of_getElem? hn)
      have i1 : (i : Int) < (l.length : Int) := by omega
      obtain ⟨op, ⟨c0, c1, c2, c3⟩⟩ := n
      dsimp only at q0 q1 q2 q3 q4 hstep hcl
      clear hcell hn
      by_cases hlo : op < 1
      · have e1 : decide (op < 1) = true := by simpa using hlo
        have HR1 : Hid (tg = 1) := Lib.hid (by have hst : chkN (l.drop i) = 1 := by rw [hstep, if_pos (.inl hlo)]
                                               rw [HDEF2.out, HC.out, hst]; rfl)
        clear hstep hcl hlo
        go_wp2_with fail
        go_ret
        exact ⟨by rw [HR1.out]; rfl, HB.out⟩
      have e1 : decide (op < 1) = false := by simpa using hlo
      by_cases hhi : 9 < op
      · have e2 : decide (9 < op) = true := by simpa using hhi
        have HR1 : Hid (tg = 1) := Lib.hid (by have hst : chkN (l.drop i) = 1 := by rw [hstep, if_pos (.inr hhi)]
                                               rw [HDEF2.out, HC.out, hst]; rfl)
        clear hstep hcl hlo hhi
        go_wp2_with fail
        go_ret
        exact ⟨by rw [HR1.out]; rfl, HB.out⟩
      have e2 : decide (9 < op) = false := by simpa using hhi
      rw [if_neg (by omega)] at hstep
      by_cases hop : op = 1
      · subst hop
        rw [if_neg (by simp)] at hstep
        have HC1 : Hid (chkN l = chkN (l.drop (i + 1))) := Lib.hid (by rw [HC.out, hstep])
        clear hstep hcl hlo hhi
        go_wp2_with fail
        go_roundw
        case rel => exact ⟨i + 1, by omega, by go_num, HC1, HB⟩
        case measure => simp [intOf]; omega
      · have e3 : (op != 1) = true := by simpa using hop
        have HCNT := Lib.hid (RCount_any c0 c1 c2 c3 wr hcl)
        have HPOS := Lib.hid (cntR_pos (c0, c1, c2, c3) hcl)
        have hcn := cntR_le (c0, c1, c2, c3) 256
        unfold RCountIs at HCNT
        obtain ⟨cn, hcne⟩ : ∃ X, X = cntR (c0, c1, c2, c3) 256 := ⟨_, rfl⟩
        rw [← hcne] at HCNT HPOS hcn
        clear hcne
        by_cases hz : cn = 0
        · have e4 : decide (0 < cn) = false := by simp [hz]
          have e5 : decide ((0 : Int) < (cn : Int)) = false := by simp [hz]
          have hzc : (c0, c1, c2, c3) = zc := Classical.byContradiction fun h => by have := HPOS.out.2 h; omega
          rw [if_neg (by simp [hzc])] at hstep
          have HC1 : Hid (chkN l = chkN (l.drop (i + 1))) := Lib.hid (by rw [HC.out, hstep])
          clear hstep hcl hlo hhi hz hzc hop
          go_wp2_with fail
          refine HCNT.out.mono ?_
          rintro e w1 ⟨rfl, hb1⟩
          have HB1 := Lib.hid (HB.out.trans (hb1.mono HB.out.size))
          clear hb1
          go_wp2_with fail
          go_roundw
          case rel => exact ⟨i + 1, by omega, by go_num, HC1, HB1⟩
          case measure => simp [intOf]; omega
        · have e4 : decide (0 < cn) = true := by simp; omega
          have e5 : decide ((0 : Int) < (cn : Int)) = true := by simp; omega
          have hzc : (c0, c1, c2, c3) ≠ zc := HPOS.out.1 (by omega)
          rw [if_pos ⟨hop, hzc⟩] at hstep
          have HR1 : Hid (tg = 2) := Lib.hid (by rw [HDEF2.out, HC.out, hstep]; rfl)
          clear hstep hcl hlo hhi hz hzc hop
          go_wp2_with fail
          refine HCNT.out.mono ?_
          rintro e w1 ⟨rfl, hb1⟩
          have HB1 := Lib.hid (HB.out.trans (hb1.mono HB.out.size))
          clear hb1
          go_wp2_with fail
          go_ret
          exact ⟨by rw [HR1.out]; rfl, HB1.out⟩
    · obtain rfl : i = l.length := by omega
      have HN0 : Hid (chkN l = 0) := Lib.hid (by rw [HC.out]; simp [chkN])
      have HDEF3 : Hid (tg = if l.length = 0 ∨ eo l 0 ≠ (l.length : Int) then 2 else 0) := Lib.hid (by rw [HDEF2.out, if_neg (by simpa using HN0.out)])
      have HCALL := Lib.hid (HEND.out (chkN_good HN0.out) wr (HR.out.below HB.out))
      clear HC HDEF2
      by_cases h0 : l.length = 0
      · have e1 : ((l.length : Int) == 0) = true := by simpa using h0
        have HR1 : Hid (tg = 2) := Lib.hid (by rw [HDEF3.out, if_pos (.inl h0)])
        have z0 : l = [] := List.length_eq_zero_iff.1 h0
        go_wp2_with fail
        go_ret
        exact ⟨by rw [HR1.out]; rfl, HB.out⟩
      · have e1 : ((l.length : Int) == 0) = false := by simpa using h0
        obtain ⟨ev, hev⟩ : ∃ X, X = eo l 0 := ⟨_, rfl⟩
        rw [← hev] at HCALL HDEF3
        clear hev
        by_cases he : ev = (l.length : Int)
        · have e2 : (ev != (l.length : Int)) = false := by simp [he]
          have HR1 : Hid (tg = 0) := Lib.hid (by rw [HDEF3.out, if_neg (by simp [he]; intro h; simp [h] at h0)])
          clear he h0
          go_wp2_with fail
          refine HCALL.out.mono ?_
          rintro e w1 ⟨rfl, rfl⟩
          go_wp2_with fail
          go_ret
          exact ⟨by rw [HR1.out]; rfl, HB.out⟩
        · have e2 : (ev != (l.length : Int)) = true := by simpa using he
          have HR1 : Hid (tg = 2) := Lib.hid (by rw [HDEF3.out, if_pos (.inr he)])
          clear he h0
          go_wp2_with fail
          refine HCALL.out.mono ?_
          rintro e w1 ⟨rfl, rfl⟩
          go_wp2_with fail
          go_ret
          exact ⟨by rw [HR1.out]; rfl, HB.out⟩

end Go.Proofs.YthcahjnniendnabDoor

/-
  Walks of the document's answers: EmptyOf. And rex.End.
-/
namespace Go.Proofs.YthcahjnniendnabDoor
open Go.RowKit Wf

def RXEndIs (r n : Int) (w : World) (e : Ending) (w' : World) : Prop := e = .returned (.tuple #[.int .i64 r, errV n]) ∧ Below w.heap.size w w'
/-- What rex.End's error is. -/
def endErr (l : List Nd) (i : Int) : Int := if chk l ≠ 0 then chk l else if i < 0 ∨ (l.length : Int) ≤ i then 1 else 0
end Go.Proofs.YthcahjnniendnabDoor

/-
  The walk of the document's closed, by what Reach does at the part.
-/
namespace Go.Proofs.YthcahjnniendnabDoor
open Go.RowKit Wf

/-- Reach does what it ought at a part. -/
def ReachAt (l : List Nd) (b off cap : Nat) (s : ByteArray) (u : Rx) (i : Nat) : Prop := ∀ (w : World) (g : Nat) (D : Nat → Bool), RdN w (.slice (some ⟨b, off, none⟩) l.length cap) l → RB w g (s.size + 1) D →
  Calls Tryd.prog 57 #[.slice (some ⟨b, off, none⟩) l.length cap, .int .i64 (i : Int), .string s, .slice (some ⟨g, 0, none⟩) (s.size + 1) (s.size + 1)] w (NewB (s.size + 1) (ToD (Fits s.data.toList u) (s.size + 1) D) w)

set_option maxRecDepth 100000 in
set_option maxHeartbeats 8000000 in
theorem closed_any (l : List Nd) (b off cap : Nat) (s : ByteArray) (hs : s.size ≤ 400) (u : Rx) (i : Nat) (hR : ReachAt l b off cap s u i) (w : World) (g : Nat) (D : Nat → Bool) (hr : RdN w (.slice (some ⟨b, off, none⟩) l.length cap) l) (hg : RB w g (s.size + 1) D) :
    Calls Tryd.prog 90 #[.slice (some ⟨b, off, none⟩) l.length cap, .int .i64 (i : Int), .string s, .slice (some ⟨g, 0, none⟩) (s.size + 1) (s.size + 1)] w (NewB (s.size + 1) (ToD (Star (Fits s.data.toList u)) (s.size + 1) D) w) := by
  have hBD : ∀ x y, Fits s.data.toList u x y → x < s.size + 1 → y < s.size + 1 := fun x y h hx => by
    have := (fits_bound s.data.toList u x y h (by simp; omega)).2
    simp at this
    omega
  have hN : s.size + 1 ≤ 401 := by omega
  unfold ReachAt at hR
  clear hs
  generalize s.size + 1 = N at *
  have HR := Lib.hid hR
  have HRD := Lib.hid hr
  have HG := Lib.hid hg
  have HBD := Lib.hid hBD
  clear hR hr hg hBD
  go_enter Tryd.func90, Tryd.ntmps90
  go_wp2_with fail
  go_loopg [3] (N + 1) (fun gk v3 wr => ∃ (g : Nat) (Df : Nat → Bool), v3 = .slice (some ⟨g, 0, none⟩) N N ∧ Hid (RB wr g N Df) ∧ Hid (Part (Fits s.data.toList u) N D Df) ∧ Hid (Below w.heap.size w wr) ∧ Hid (N - cntD N Df < gk))
  case atStart => exact ⟨g, D, rfl, HG, Lib.hid (Part.start _ _ _), Lib.hid (Below.refl _ _), Lib.hid (by omega)⟩
  case round =>
    obtain ⟨g, Df, rfl, hG, hP, hB, hM⟩ := hrel
    go_wp2_with fail
    refine (HR.out wr g Df (HRD.out.below hB.out) hG.out).mono ?_
    rintro e w1 ⟨g1, Dn, rfl, hg1, hto, hb1⟩
    have HG1 := Lib.hid hg1
    have HTO := Lib.hid hto
    have HGa := Lib.hid (hG.out.below (hb1.mono (Nat.le_refl _)))
    have HB1 := Lib.hid (hB.out.trans (hb1.mono hB.out.size))
    clear hg1 hto hb1 hG hB
    go_wp2_with fail
    refine (joined_any g g1 N (by omega) Df Dn w1 HGa.out HG1.out).mono ?_
    rintro e w2 ⟨g2, rfl, hg2, hb2⟩
    have HG2 := Lib.hid hg2
    have HGb := Lib.hid (HGa.out.below hb2)
    have HB2 := Lib.hid (HB1.out.trans (hb2.mono HB1.out.size))
    clear hg2 hb2 HGa HG1 HB1
    go_wp2_with fail
    go_loopw [10, 11] (fun v10 v11 wx => ∃ (k : Nat) (x : Bool), k ≤ N ∧ v11 = .int .i64 (k : Int) ∧ v10 = .bool x ∧ Hid (x = true ↔ ∀ j, j < k → (Df j || Dn j) = Df j) ∧ Hid (RB wx g2 N (fun j => Df j || Dn j)) ∧ Hid (RB wx g N Df) ∧ Hid (Below w.heap.size w wx)) (fun _ i _ => N - (intOf i).toNat)
    case atStart => exact ⟨0, true, by omega, rfl, rfl, Lib.hid ⟨fun _ j hj => by omega, fun _ => rfl⟩, HG2, HGb, HB2⟩
    case round =>
      clear HG2 HGb HB2
      obtain ⟨k, x, hk, rfl, rfl, hX, hG2, hG, hB⟩ := hrel
      by_cases hlt : k < N
      · have y1 := hG2.out.cell hlt
        have y2 := hG.out.cell hlt
        have hk1 : (k : Int) < (N : Int) := by omega
        have hk0 : (0 : Int) ≤ (k : Int) := by omega
        have hd := below_drewN (Below.refl wr.heap.size wr) 
        obtain ⟨y, hy⟩ : ∃ y, y = (Df k || Dn k) := ⟨_, rfl⟩
        obtain ⟨z, hz⟩ : ∃ z, z = Df k := ⟨_, rfl⟩
        rw [← hy] at y1
        rw [← hz] at y2
        have hnext : ∀ x', (x' = true ↔ x = true ∧ y = z) → Hid (x' = true ↔ ∀ j, j < k + 1 → (Df j || Dn j) = Df j) := fun x' h => Lib.hid (by
          rw [h, hX.out]
          constructor
          · rintro ⟨h1, h2⟩ j hj
            by_cases e : j = k
            · subst e; rw [← hy, ← hz]; exact h2
            · exact h1 j (by omega)
          · intro h1
            exact ⟨fun j hj => h1 j (by omega), by rw [hy, hz]; exact h1 k (by omega)⟩)
        have HNX := Lib.hid hnext
        clear hnext hy hz hX
        cases x with
        | false =>
          go_wp2_with fail
          go_quiet (fail)
          go_wp2
          go_roundw
          case rel => exact ⟨k + 1, false, by omega, by go_num, rfl, HNX.out false (by simp), Lib.hid (hG2.out.below (hd _)), Lib.hid (hG.out.below (hd _)), Lib.hid (below_drewN hB.out _)⟩
          case measure => simp [intOf]; omega
        | true =>
          have HE := Lib.hid (HNX.out (y == z) (by simp))
          clear HNX
          cases y <;> cases z
          all_goals
            go_wp2_with fail
            go_quiet (fail)
            go_wp2
            go_roundw
            case rel => exact ⟨k + 1, _, by omega, by go_num, rfl, HE.out, Lib.hid (hG2.out.below (hd _)), Lib.hid (hG.out.below (hd _)), Lib.hid (below_drewN hB.out _)⟩
            case measure => simp [intOf]; omega
      · obtain rfl : k = N := by omega
        cases x with
        | true =>
          have hall := hX.out.1 rfl
          have HALL := Lib.hid hall
          clear hall hX
          go_wp2
          go_ret
          exact ⟨g2, _, rfl, hG2.out, Part.done hP.out HTO.out HBD.out HALL.out, hB.out⟩
        | false =>
          have hno : ∃ j, j < k ∧ (Df j || Dn j) ≠ Df j := Classical.byContradiction fun hn => by
            have := hX.out.2 fun j hj => Classical.byContradiction fun h => hn ⟨j, hj, h⟩
            cases this
          have HNO := Lib.hid hno
          have HP2 := Lib.hid (Part.step hP.out HTO.out)
          clear hno hX hP
          go_wp2
          go_roundg (gk - 1)
          case measure => have := hM.out; omega
          case rel =>
            obtain ⟨j, hj, hne⟩ := HNO.out
            have h1 := Part.more hj hne
            have h2 := cntD_le k (fun j => Df j || Dn j)
            have h3 := hM.out
            exact ⟨g2, _, rfl, hG2, HP2, hB, Lib.hid (by omega)⟩

end Go.Proofs.YthcahjnniendnabDoor

/-
  The walk of the document's Reach.
-/
namespace Go.Proofs.YthcahjnniendnabDoor
open Go.RowKit Wf

theorem repA_set (w : World) (N f : Nat) (x : Bool) : RB (w.alloc (.cells ((repA N (.bool false)).setIfInBounds f (.bool x)) 4)) w.heap.size N (setD (fun _ => false) f x) :=
  ⟨_, Blk.new _ _ _, by simp [repA_size], fun k hk => by
    rw [Array.getElem?_setIfInBounds]
    unfold setD
    by_cases e : f = k
    · subst e; rw [if_pos rfl, if_pos (by rw [repA_size]; exact hk), if_pos rfl]
    · rw [if_neg e, repA_get _ _ _ hk, if_neg (fun h => e h.symm)]⟩

def rowOf (N : Nat) (D : Nat → Bool) : List Value := (List.range N).map fun j => .bool (D j)
theorem rowOf_len (N : Nat) (D : Nat → Bool) : (rowOf N D).length = N := by simp [rowOf]
theorem rowOf_get {N : Nat} {D : Nat → Bool} {j : Nat} (h : j < N) : (rowOf N D)[j]? = some (.bool (D j)) := by simp [rowOf, h]
theorem rowOf_one (N : Nat) (D : Nat → Bool) : ∀ v ∈ rowOf N D, v.oneCell' = true := by
  intro v hv
  simp [rowOf] at hv
  obtain ⟨j, _, rfl⟩ := hv
  rfl
theorem rowOf_min (N : Nat) (D : Nat → Bool) : (rowOf N D).length = Nat.min N N := by rw [rowOf_len]; exact (Nat.min_self _).symm
theorem rowOf_fit (N : Nat) (D : Nat → Bool) : 0 + (rowOf N D).length ≤ (repA N (.bool false)).size := by rw [rowOf_len, repA_size]; omega
theorem RB.src {w : World} {g N : Nat} {D : Nat → Bool} (h : RB w g N D) : ∀ j v, (rowOf N D)[j]? = some v → w.cell? ((⟨g, 0, none⟩ : Addr).add j) = some v := by
  intro j v hv
  have hj : j < N := by have := (List.getElem?_eq_some_iff.1 hv).1; rw [rowOf_len] at this; exact this
  rw [rowOf_get hj] at hv
  cases hv
  rw [add_mk, Nat.zero_add]
  exact h.cell hj
theorem RB.copied {w : World} {H N : Nat} {D : Nat → Bool} {cur : Array Value} (h : w.heap[H]? = some (.cells cur 4 (0, 0))) (hs : cur.size = N) : RB (w.setRow H (rowOf N D ++ cur.toList.drop (rowOf N D).length).toArray) H N D := by
  have e : cur.toList.drop (rowOf N D).length = [] := List.drop_eq_nil_of_le (by rw [rowOf_len]; simp; omega)
  rw [e]
  refine ⟨_, setRow_heap w H cur _ 4 _ h, by simp [rowOf_len], fun k hk => ?_⟩
  simp only [List.append_nil, List.getElem?_toArray]
  exact rowOf_get hk

/-- While a byte's part is read: the new row, the node's block, the row that came. -/
def BE (w : World) (g N : Nat) (D E : Nat → Bool) (c0 c1 c2 c3 : Nat) (w' : World) : Prop :=
  RB w' w.heap.size N E ∧ Blk w' (w.heap.size + 1) 69 #[.int .i64 1, .int .u64 (c0 : Int), .int .u64 (c1 : Int), .int .u64 (c2 : Int), .int .u64 (c3 : Int)] ∧ RB w' g N D ∧ Below w.heap.size w w'
section
variable {w w1 w2 : World} {g N : Nat} {D E : Nat → Bool} {c0 c1 c2 c3 : Nat}
theorem BE.kept (h : BE w g N D E c0 c1 c2 c3 w1) (hb : Below w1.heap.size w1 w2) : BE w g N D E c0 c1 c2 c3 w2 :=
  ⟨h.1.below hb, h.2.1.kept hb, h.2.2.1.below hb, h.2.2.2.trans (hb.mono h.2.2.2.size)⟩
theorem BE.put (h : BE w g N D E c0 c1 c2 c3 w1) (hg : g < w.heap.size) (k : Nat) (x : Bool) : BE w g N D (setD E k x) c0 c1 c2 c3 (w1.setCell ⟨w.heap.size, k, none⟩ (.bool x)) :=
  ⟨h.1.set_ k x, h.2.1.far (by simp) _, h.2.2.1.far (by omega) _, h.2.2.2.setCell (Nat.le_refl _) _⟩
theorem BE.cells (h : BE w g N D E c0 c1 c2 c3 w1) : w1.cell? ⟨w.heap.size + 1, 1, none⟩ = some (.int .u64 (c0 : Int)) ∧ w1.cell? ⟨w.heap.size + 1, 2, none⟩ = some (.int .u64 (c1 : Int)) ∧ w1.cell? ⟨w.heap.size + 1, 3, none⟩ = some (.int .u64 (c2 : Int)) ∧ w1.cell? ⟨w.heap.size + 1, 4, none⟩ = some (.int .u64 (c3 : Int)) := ⟨h.2.1.cell 1, h.2.1.cell 2, h.2.1.cell 3, h.2.1.cell 4⟩
end
/-- The same, or the round's store has been made. -/
def BEx (w : World) (g N : Nat) (D E : Nat → Bool) (c0 c1 c2 c3 k : Nat) (r : Bool) (w' : World) : Prop :=
  BE w g N D E c0 c1 c2 c3 w' ∨ ∃ w0, w' = w0.setCell ⟨w.heap.size, k, none⟩ (.bool r) ∧ BE w g N D E c0 c1 c2 c3 w0

/-! A region whose operations but the last ones leave the world as it is, some of them guarded: step by step, the goal hidden. -/
/-- A fact that no elaborator looks into. -/
structure InBox (p : Prop) : Prop where
  out : p
section
variable {P : Program} {ops : Array Oper} {w : World} {Q : Act → Prop} {a : Act} {o : Oper} {rest : List Oper}
theorem still_one (h : ∀ K : Act → Prop, (∀ a, InBox (wpStill P ops w Q rest a) → K a) → if Region.wanted o (yielded ops a.tmps) then o.still P a w K else K (a.put o.dst undef)) : InBox (wpStill P ops w Q (o :: rest) a) :=
  InBox.mk (wpStill_step fun K hK => h K fun a ha => hK a ha.out)
theorem still_skip (hw : Region.wanted o (yielded ops a.tmps) = false) (h : InBox (wpStill P ops w Q rest (a.put o.dst undef))) : InBox (wpStill P ops w Q (o :: rest) a) :=
  InBox.mk (wpStill_step fun K hK => by rw [if_neg (by rw [hw]; simp)]; exact hK _ h.out)
theorem still_end (h : Q a) : InBox (wpStill P ops w Q [] a) := InBox.mk (wpStill_nil h)
theorem still_tail {id : Nat} {Q : Exit → Act → World → Prop} {l : List Oper} (n : Nat) (hm : P.follows .mixedOrders = true) (hB : Region.lexTailB .any l.toArray n = true)
    (h : InBox (wpStill P l.toArray { w with drawn := w.drawn + 1 } (fun a' => wpList P l.toArray Q (l.drop n) a' { w with drawn := w.drawn + 1 }) (l.take n) a)) : (Code.region id l.toArray true).wp P Q a w :=
  wp_region_still_tail n hm hB h.out
end
theorem i64_byte (n : Nat) (h : n < 256) : IntKind.i64.wrap (n : Int) = (n : Int) := by
  unfold IntKind.wrap
  simp [IntKind.signed, IntKind.bits]
  omega

end Go.Proofs.YthcahjnniendnabDoor

/-
  The walk of the document's Reach: the places without a part of their own.
-/
namespace Go.Proofs.YthcahjnniendnabDoor
open Go.RowKit Wf

set_option maxRecDepth 100000 in
set_option maxHeartbeats 16000000 in
theorem Reach_empty (l : List Nd) (hg : ∀ n ∈ l, good n) (hok : ∀ n ∈ l, okC n.cls) (hlen : l.length ≤ 60) (b off cap : Nat) (s : ByteArray) (hs : s.size ≤ 400) (i : Nat) (hat : At l i (.empty)) : ReachAt l b off cap s (.empty) i := by
  have HM : Hid (∀ (w : World), RdN w (.slice (some ⟨b, off, none⟩) l.length cap) l → ∀ k n, l[k]? = some n →
      w.cell? ⟨b, off + k * 5, none⟩ = some (.int .i64 n.op) ∧ w.cell? ⟨b, off + k * 5 + 1, none⟩ = some (.int .u64 (n.cls.1 : Int)) ∧ w.cell? ⟨b, off + k * 5 + 2, none⟩ = some (.int .u64 (n.cls.2.1 : Int)) ∧
      w.cell? ⟨b, off + k * 5 + 3, none⟩ = some (.int .u64 (n.cls.2.2.1 : Int)) ∧ w.cell? ⟨b, off + k * 5 + 4, none⟩ = some (.int .u64 (n.cls.2.2.2 : Int))) := Lib.hid (fun w hr k n hk => by
    obtain ⟨A', cap', hv, hcap, hcap2, hmem⟩ := hr.open_
    injection hv with e1 _ e2
    obtain ⟨b', off', hA, _, hc⟩ := hmem (by have := (List.getElem?_eq_some_iff.1 hk).1; omega)
    rw [hA] at e1
    cases e1
    exact hc w (fun _ => rfl) k n hk)
  have HBL : Hid (∀ (w : World), RdN w (.slice (some ⟨b, off, none⟩) l.length cap) l → 0 < l.length → b < w.heap.size) := Lib.hid (fun w hr hk => by
    obtain ⟨A', cap', hv, hcap, hcap2, hmem⟩ := hr.open_
    injection hv with e1 _ e2
    obtain ⟨b', off', hA, hb, _⟩ := hmem hk
    rw [hA] at e1
    cases e1
    exact hb)
  have HEND := Lib.hid (fun (i : Nat) (hi : i ≤ l.length) (w : World) (hr : RdN w (.slice (some ⟨b, off, none⟩) l.length cap) l) => REnd_all l hg hlen (some ⟨b, off, none⟩) cap l.length i w (by omega) hi hr)
  have HOK := Lib.hid hok
  have HSL := Lib.hid (show s.data.toList.length = s.size by simp)
  have HCLO := Lib.hid (fun (u : Rx) (i : Nat) (h : ReachAt l b off cap s u i) => closed_any l b off cap s hs u i h)
  have HBW : Hid (∀ (w : World) (o o' : Obj), Below w.heap.size w ((w.alloc o).alloc o')) := Lib.hid fun w o o' => ((Below.refl _ _).alloc (Nat.le_refl _) _).alloc (by simp) _
  have hmk0 := fun W => mk_bools (s.size + 1) (by omega) W
  have hmk := hmk0
  rw [show ((s.size + 1 : Nat) : Int) = (s.size : Int) + 1 by omega] at hmk
  have hrg := fun f (hf : f < s.size + 1) => repA_get (s.size + 1) (.bool false) f hf
  have HRG := Lib.hid hrg
  clear hg hok hrg
  · intro w g D hr hD
    obtain ⟨q0, q1, q2, q3, q4⟩ := HM.out w hr i _ hat.empty
    have hlt := hat.lt
    have hpos := flat_pos (.empty)
    have hi1 : (i : Int) < (l.length : Int) := by omega
    have hgl := hD.lt
    have hbl := HBL.out w hr (by omega)
    have HR := Lib.hid hr
    have HD := Lib.hid hD
    dsimp only [zc] at q0 q1 q2 q3 q4
    have hcp := run_copy_row (P := Tryd.prog) ((w.alloc (.cells (repA (s.size + 1) (.bool false)) 4)).alloc (.cells #[.int .i64 2, .int .u64 0, .int .u64 0, .int .u64 0, .int .u64 0] 69)) 103 103 3 4 w.heap.size 0 (s.size + 1) (s.size + 1) ⟨g, 0, none⟩ (s.size + 1) (s.size + 1) (repA (s.size + 1) (.bool false)) 4 (rowOf (s.size + 1) D) Tryd.underlying103 (by kernel_rfl) ((Blk.new w 4 (repA (s.size + 1) (.bool false))).alloc _) (rowOf_min _ _) ((HD.out.below (HBW.out w _ _)).src) (rowOf_fit _ _) (rowOf_one _ _)
    clear hat hr hD
    go_enter Tryd.func57, Tryd.ntmps57
    go_wp2
    go_ret
    exact ⟨w.heap.size, D, rfl, RB.copied ((Blk.new w 4 (repA (s.size + 1) (.bool false))).alloc _) (repA_size _ _), to_empty _ _ _, below_setRow (HBW.out w _ _) (Nat.le_refl _) _⟩
set_option maxRecDepth 100000 in
set_option maxHeartbeats 16000000 in
theorem Reach_bgn (l : List Nd) (hg : ∀ n ∈ l, good n) (hok : ∀ n ∈ l, okC n.cls) (hlen : l.length ≤ 60) (b off cap : Nat) (s : ByteArray) (hs : s.size ≤ 400) (i : Nat) (hat : At l i (.bgn)) : ReachAt l b off cap s (.bgn) i := by
  have HM : Hid (∀ (w : World), RdN w (.slice (some ⟨b, off, none⟩) l.length cap) l → ∀ k n, l[k]? = some n →
      w.cell? ⟨b, off + k * 5, none⟩ = some (.int .i64 n.op) ∧ w.cell? ⟨b, off + k * 5 + 1, none⟩ = some (.int .u64 (n.cls.1 : Int)) ∧ w.cell? ⟨b, off + k * 5 + 2, none⟩ = some (.int .u64 (n.cls.2.1 : Int)) ∧
      w.cell? ⟨b, off + k * 5 + 3, none⟩ = some (.int .u64 (n.cls.2.2.1 : Int)) ∧ w.cell? ⟨b, off + k * 5 + 4, none⟩ = some (.int .u64 (n.cls.2.2.2 : Int))) := Lib.hid (fun w hr k n hk => by
    obtain ⟨A', cap', hv, hcap, hcap2, hmem⟩ := hr.open_
    injection hv with e1 _ e2
    obtain ⟨b', off', hA, _, hc⟩ := hmem (by have := (List.getElem?_eq_some_iff.1 hk).1; omega)
    rw [hA] at e1
    cases e1
    exact hc w (fun _ => rfl) k n hk)
  have HBL : Hid (∀ (w : World), RdN w (.slice (some ⟨b, off, none⟩) l.length cap) l → 0 < l.length → b < w.heap.size) := Lib.hid (fun w hr hk => by
    obtain ⟨A', cap', hv, hcap, hcap2, hmem⟩ := hr.open_
    injection hv with e1 _ e2
    obtain ⟨b', off', hA, hb, _⟩ := hmem hk
    rw [hA] at e1
    cases e1
    exact hb)
  have HEND := Lib.hid (fun (i : Nat) (hi : i ≤ l.length) (w : World) (hr : RdN w (.slice (some ⟨b, off, none⟩) l.length cap) l) => REnd_all l hg hlen (some ⟨b, off, none⟩) cap l.length i w (by omega) hi hr)
  have HOK := Lib.hid hok
  have HSL := Lib.hid (show s.data.toList.length = s.size by simp)
  have HCLO := Lib.hid (fun (u : Rx) (i : Nat) (h : ReachAt l b off cap s u i) => closed_any l b off cap s hs u i h)
  have HBW : Hid (∀ (w : World) (o o' : Obj), Below w.heap.size w ((w.alloc o).alloc o')) := Lib.hid fun w o o' => ((Below.refl _ _).alloc (Nat.le_refl _) _).alloc (by simp) _
  have hmk0 := fun W => mk_bools (s.size + 1) (by omega) W
  have hmk := hmk0
  rw [show ((s.size + 1 : Nat) : Int) = (s.size : Int) + 1 by omega] at hmk
  have hrg := fun f (hf : f < s.size + 1) => repA_get (s.size + 1) (.bool false) f hf
  have HRG := Lib.hid hrg
  clear hg hok hrg
  · intro w g D hr hD
    obtain ⟨q0, q1, q2, q3, q4⟩ := HM.out w hr i _ hat.bgn
    have hlt := hat.lt
    have hpos := flat_pos (.bgn)
    have hi1 : (i : Int) < (l.length : Int) := by omega
    have hgl := hD.lt
    have hbl := HBL.out w hr (by omega)
    have HR := Lib.hid hr
    have HD := Lib.hid hD
    dsimp only [zc] at q0 q1 q2 q3 q4
    have hc := HD.out.cell (k := 0) (by omega)
    have hrg := HRG.out 0 (by omega)
    have hz0 : (0 : Int) < (s.size : Int) + 1 := by omega
    clear hat hr hD
    obtain ⟨x, hx⟩ : ∃ x, x = D 0 := ⟨_, rfl⟩
    rw [← hx] at hc
    have HX := Lib.hid hx
    clear hx
    go_enter Tryd.func57, Tryd.ntmps57
    go_wp2
    go_ret
    have hto := to_bgn s.data.toList (s.size + 1) D
    refine ⟨w.heap.size, setD (fun _ => false) 0 (D 0), rfl, by rw [← HX.out]; exact (repA_set w (s.size + 1) 0 x).alloc _, ?_, HBW.out w _ _⟩
    exact hto
set_option maxRecDepth 100000 in
set_option maxHeartbeats 16000000 in
theorem Reach_fin (l : List Nd) (hg : ∀ n ∈ l, good n) (hok : ∀ n ∈ l, okC n.cls) (hlen : l.length ≤ 60) (b off cap : Nat) (s : ByteArray) (hs : s.size ≤ 400) (i : Nat) (hat : At l i (.fin)) : ReachAt l b off cap s (.fin) i := by
  have HM : Hid (∀ (w : World), RdN w (.slice (some ⟨b, off, none⟩) l.length cap) l → ∀ k n, l[k]? = some n →
      w.cell? ⟨b, off + k * 5, none⟩ = some (.int .i64 n.op) ∧ w.cell? ⟨b, off + k * 5 + 1, none⟩ = some (.int .u64 (n.cls.1 : Int)) ∧ w.cell? ⟨b, off + k * 5 + 2, none⟩ = some (.int .u64 (n.cls.2.1 : Int)) ∧
      w.cell? ⟨b, off + k * 5 + 3, none⟩ = some (.int .u64 (n.cls.2.2.1 : Int)) ∧ w.cell? ⟨b, off + k * 5 + 4, none⟩ = some (.int .u64 (n.cls.2.2.2 : Int))) := Lib.hid (fun w hr k n hk => by
    obtain ⟨A', cap', hv, hcap, hcap2, hmem⟩ := hr.open_
    injection hv with e1 _ e2
    obtain ⟨b', off', hA, _, hc⟩ := hmem (by have := (List.getElem?_eq_some_iff.1 hk).1; omega)
    rw [hA] at e1
    cases e1
    exact hc w (fun _ => rfl) k n hk)
  have HBL : Hid (∀ (w : World), RdN w (.slice (some ⟨b, off, none⟩) l.length cap) l → 0 < l.length → b < w.heap.size) := Lib.hid (fun w hr hk => by
    obtain ⟨A', cap', hv, hcap, hcap2, hmem⟩ := hr.open_
    injection hv with e1 _ e2
    obtain ⟨b', off', hA, hb, _⟩ := hmem hk
    rw [hA] at e1
    cases e1
    exact hb)
  have HEND := Lib.hid (fun (i : Nat) (hi : i ≤ l.length) (w : World) (hr : RdN w (.slice (some ⟨b, off, none⟩) l.length cap) l) => REnd_all l hg hlen (some ⟨b, off, none⟩) cap l.length i w (by omega) hi hr)
  have HOK := Lib.hid hok
  have HSL := Lib.hid (show s.data.toList.length = s.size by simp)
  have HCLO := Lib.hid (fun (u : Rx) (i : Nat) (h : ReachAt l b off cap s u i) => closed_any l b off cap s hs u i h)
  have HBW : Hid (∀ (w : World) (o o' : Obj), Below w.heap.size w ((w.alloc o).alloc o')) := Lib.hid fun w o o' => ((Below.refl _ _).alloc (Nat.le_refl _) _).alloc (by simp) _
  have hmk0 := fun W => mk_bools (s.size + 1) (by omega) W
  have hmk := hmk0
  rw [show ((s.size + 1 : Nat) : Int) = (s.size : Int) + 1 by omega] at hmk
  have hrg := fun f (hf : f < s.size + 1) => repA_get (s.size + 1) (.bool false) f hf
  have HRG := Lib.hid hrg
  clear hg hok hrg
  · intro w g D hr hD
    obtain ⟨q0, q1, q2, q3, q4⟩ := HM.out w hr i _ hat.fin
    have hlt := hat.lt
    have hpos := flat_pos (.fin)
    have hi1 : (i : Int) < (l.length : Int) := by omega
    have hgl := hD.lt
    have hbl := HBL.out w hr (by omega)
    have HR := Lib.hid hr
    have HD := Lib.hid hD
    dsimp only [zc] at q0 q1 q2 q3 q4
    have hc := HD.out.cell (k := s.size) (by omega)
    have hrg := HRG.out s.size (by omega)
    have hz0 : (0 : Int) < (s.size : Int) + 1 := by omega
    clear hat hr hD
    obtain ⟨x, hx⟩ : ∃ x, x = D s.size := ⟨_, rfl⟩
    rw [← hx] at hc
    have HX := Lib.hid hx
    clear hx
    go_enter Tryd.func57, Tryd.ntmps57
    go_wp2
    go_ret
    have hto := to_fin s.data.toList D
    refine ⟨w.heap.size, setD (fun _ => false) s.size (D s.size), rfl, by rw [← HX.out]; exact (repA_set w (s.size + 1) s.size x).alloc _, ?_, HBW.out w _ _⟩
    rw [HSL.out] at hto; exact hto
end Go.Proofs.YthcahjnniendnabDoor

/-
  The walk of the document's Reach: a byte.
-/
namespace Go.Proofs.YthcahjnniendnabDoor
open Go.RowKit Wf

set_option maxRecDepth 100000 in
set_option maxHeartbeats 16000000 in
theorem Reach_byte (l : List Nd) (hg : ∀ n ∈ l, good n) (hok : ∀ n ∈ l, okC n.cls) (hlen : l.length ≤ 60) (b off cap : Nat) (s : ByteArray) (hs : s.size ≤ 400) (c : Cls) (i : Nat) (hat : At l i (.byte c)) : ReachAt l b off cap s (.byte c) i := by
  have HM : Hid (∀ (w : World), RdN w (.slice (some ⟨b, off, none⟩) l.length cap) l → ∀ k n, l[k]? = some n →
      w.cell? ⟨b, off + k * 5, none⟩ = some (.int .i64 n.op) ∧ w.cell? ⟨b, off + k * 5 + 1, none⟩ = some (.int .u64 (n.cls.1 : Int)) ∧ w.cell? ⟨b, off + k * 5 + 2, none⟩ = some (.int .u64 (n.cls.2.1 : Int)) ∧
      w.cell? ⟨b, off + k * 5 + 3, none⟩ = some (.int .u64 (n.cls.2.2.1 : Int)) ∧ w.cell? ⟨b, off + k * 5 + 4, none⟩ = some (.int .u64 (n.cls.2.2.2 : Int))) := Lib.hid (fun w hr k n hk => by
    obtain ⟨A', cap', hv, hcap, hcap2, hmem⟩ := hr.open_
    injection hv with e1 _ e2
    obtain ⟨b', off', hA, _, hc⟩ := hmem (by have := (List.getElem?_eq_some_iff.1 hk).1; omega)
    rw [hA] at e1
    cases e1
    exact hc w (fun _ => rfl) k n hk)
  have HBL : Hid (∀ (w : World), RdN w (.slice (some ⟨b, off, none⟩) l.length cap) l → 0 < l.length → b < w.heap.size) := Lib.hid (fun w hr hk => by
    obtain ⟨A', cap', hv, hcap, hcap2, hmem⟩ := hr.open_
    injection hv with e1 _ e2
    obtain ⟨b', off', hA, hb, _⟩ := hmem hk
    rw [hA] at e1
    cases e1
    exact hb)
  have HEND := Lib.hid (fun (i : Nat) (hi : i ≤ l.length) (w : World) (hr : RdN w (.slice (some ⟨b, off, none⟩) l.length cap) l) => REnd_all l hg hlen (some ⟨b, off, none⟩) cap l.length i w (by omega) hi hr)
  have HOK := Lib.hid hok
  have HSL := Lib.hid (show s.data.toList.length = s.size by simp)
  have HCLO := Lib.hid (fun (u : Rx) (i : Nat) (h : ReachAt l b off cap s u i) => closed_any l b off cap s hs u i h)
  have HBW : Hid (∀ (w : World) (o o' : Obj), Below w.heap.size w ((w.alloc o).alloc o')) := Lib.hid fun w o o' => ((Below.refl _ _).alloc (Nat.le_refl _) _).alloc (by simp) _
  have hmk0 := fun W => mk_bools (s.size + 1) (by omega) W
  have hmk := hmk0
  rw [show ((s.size + 1 : Nat) : Int) = (s.size : Int) + 1 by omega] at hmk
  have hrg := fun f (hf : f < s.size + 1) => repA_get (s.size + 1) (.bool false) f hf
  have HRG := Lib.hid hrg
  clear hg hok hrg
  · intro w g D hr hD
    obtain ⟨c0, c1, c2, c3⟩ := c
    obtain ⟨q0, q1, q2, q3, q4⟩ := HM.out w hr i _ hat.byte
    have hlt := hat.lt
    have hpos := flat_pos (.byte (c0, c1, c2, c3))
    have hi1 : (i : Int) < (l.length : Int) := by omega
    have hgl := hD.lt
    have hbl := HBL.out w hr (by omega)
    have HR := Lib.hid hr
    have HD := Lib.hid hD
    dsimp only at q0 q1 q2 q3 q4
    have hcok := HOK.out _ (List.mem_of_getElem? hat.byte)
    have HIN := Lib.hid (fun (x : Nat) (hx : x < 256) (W : World) => RIn_any c0 c1 c2 c3 x W hcok hx)
    have HBE : Hid (BE w g (s.size + 1) D (byteD s.data.toList (c0, c1, c2, c3) D 0) c0 c1 c2 c3 ((w.alloc (.cells (repA (s.size + 1) (.bool false)) 4)).alloc (.cells #[.int .i64 1, .int .u64 (c0 : Int), .int .u64 (c1 : Int), .int .u64 (c2 : Int), .int .u64 (c3 : Int)] 69))) := Lib.hid (by
      rw [byteD_zero]
      refine ⟨(RB.new w (s.size + 1)).alloc _, ?_, HD.out.below (HBW.out w _ _), HBW.out w _ _⟩
      have h := Blk.new (w.alloc (.cells (repA (s.size + 1) (.bool false)) 4)) 69 #[.int .i64 1, .int .u64 (c0 : Int), .int .u64 (c1 : Int), .int .u64 (c2 : Int), .int .u64 (c3 : Int)]
      rw [World.size_alloc] at h
      exact h)
    clear hat hr hD hcok
    go_enter Tryd.func57, Tryd.ntmps57
    go_wp2_with fail
    clear q0 q1 q2 q3 q4 hmk0 hmk
    go_loopw [11] (fun v11 wx => ∃ k : Nat, k ≤ s.size ∧ v11 = .int .i64 (k : Int) ∧ Hid (BE w g (s.size + 1) D (byteD s.data.toList (c0, c1, c2, c3) D k) c0 c1 c2 c3 wx)) (fun i _ => s.size - (intOf i).toNat)
    case atStart => exact ⟨0, by omega, rfl, HBE⟩
    case round =>
      clear HBE
      obtain ⟨k, hk, rfl, hE⟩ := hrel
      by_cases hlt : k < s.size
      · have hbyte : s[k].toNat < 256 := s[k].toNat_lt
        have hsk : s.data.toList[k]? = some s[k] := by
          rw [List.getElem?_eq_getElem (by rw [HSL.out]; exact hlt)]
          rfl
        have hbs := byteD_succ (s := s.data.toList) (c := (c0, c1, c2, c3)) (D := D) hsk
        have HI0 := Lib.hid (HIN.out s[k].toNat hbyte)
        unfold RInIs at HI0
        obtain ⟨x, hx⟩ : ∃ x, x = D k := ⟨_, rfl⟩
        have hcD := hE.out.2.2.1.cell (k := k) (by omega)
        obtain ⟨y1, y2, y3, y4⟩ := hE.out.cells
        have hcO := hE.out.1.cell (k := k + 1) (by omega)
        have hfO := hE.out.1.frozen (k + 1)
        have hsz : w.heap.size + 1 < wr.heap.size := hE.out.2.1.lt
        rw [← hx] at hcD hbs
        have i1 : (k : Int) < (s.size : Int) := by omega
        have i2 : (k : Int) + 1 < (s.size : Int) + 1 := by omega
        have i3 : (k : Int) < (s.size : Int) + 1 := by omega
        have i4 : (0 : Int) ≤ (k : Int) + 1 := by omega
        have i5 : (0 : Int) ≤ (k : Int) := by omega
        have hwr : IntKind.i64.wrap ((k : Int) + 1) = (k : Int) + 1 := IntWalk.i64_in _ (by omega)
        have HBS := Lib.hid hbs
        have HX := Lib.hid hx
        clear hbs hx hsk
        generalize hEE : byteD s.data.toList (c0, c1, c2, c3) D k = E at *
        clear hEE
        cases x with
        | false =>
          have HBX := Lib.hid HBS.out
          rw [Bool.false_and] at HBX
          have HS : Hid (∀ w', Hid (BEx w g (s.size + 1) D E c0 c1 c2 c3 (k + 1) false w') → (w'.cell? ⟨g, k, none⟩ = some (.bool (D k)) ∧ Hid (BEx w g (s.size + 1) D E c0 c1 c2 c3 (k + 1) false w'))) := Lib.hid (fun w' h => by
            rcases h.out with h1 | ⟨w0, rfl, h1⟩
            · exact ⟨h1.2.2.1.cell (by omega), h⟩
            · exact ⟨(h1.put hgl (k + 1) false).2.2.1.cell (by omega), h⟩)
          rw [← HX.out] at HS
          have HEN : Hid (byteD s.data.toList (c0, c1, c2, c3) D (k + 1) = setD E (k + 1) false) := Lib.hid (by rw [HBX.out])
          have HED : Hid (BE w g (s.size + 1) D E c0 c1 c2 c3 wr.drew) := Lib.hid (hE.out.kept (Below.refl _ _).drew)
          have y5 := HED.out.1.cell (k := k + 1) (by omega)
          have y6 := HED.out.1.frozen (k + 1)
          clear HI0 HX HBS HBX
          go_wp2_with fail
          refine still_tail 17 (by kernel_rfl) (by kernel_rfl) ?_
          simp only [List.take_succ_cons, List.take_zero, List.drop_succ_cons, List.drop_zero]
          refine still_one (fun K hK => ?_)
          go_simp
          refine hK _ ?_
          clear hK K
          refine still_one (fun K hK => ?_)
          go_simp
          refine hK _ ?_
          clear hK K
          refine still_one (fun K hK => ?_)
          go_simp
          refine hK _ ?_
          clear hK K
          refine still_one (fun K hK => ?_)
          go_simp
          refine hK _ ?_
          clear hK K
          refine still_one (fun K hK => ?_)
          go_simp
          refine hK _ ?_
          clear hK K
          refine still_one (fun K hK => ?_)
          go_simp
          refine hK _ ?_
          clear hK K
          refine still_one (fun K hK => ?_)
          go_simp
          refine hK _ ?_
          clear hK K
          refine still_one (fun K hK => ?_)
          go_simp
          refine hK _ ?_
          clear hK K
          refine still_skip (by kernel_rfl) ?_
          refine still_skip (by kernel_rfl) ?_
          refine still_skip (by kernel_rfl) ?_
          refine still_skip (by kernel_rfl) ?_
          refine still_skip (by kernel_rfl) ?_
          refine still_skip (by kernel_rfl) ?_
          refine still_skip (by kernel_rfl) ?_
          refine still_one (fun K hK => ?_)
          go_simp
          refine hK _ ?_
          clear hK K
          refine still_one (fun K hK => ?_)
          go_simp
          refine hK _ ?_
          clear hK K
          refine still_end ?_
          change wpList _ _ _ _ _ wr.drew
          go_wp2_with fail
          go_roundw
          case rel => exact ⟨k + 1, by omega, by go_num, Lib.hid (by rw [HEN.out]; exact HED.out.put hgl (k + 1) false)⟩
          case measure => simp [intOf]; omega
        | true =>
          obtain ⟨r, hr⟩ : ∃ r, r = has (c0, c1, c2, c3) s[k].toNat := ⟨_, rfl⟩
          rw [← hr] at HI0
          have HCI : Hid (∀ W, Hid (BE w g (s.size + 1) D E c0 c1 c2 c3 W) → Calls Tryd.prog 35 #[.agg #[.int .u64 (c0 : Int), .int .u64 (c1 : Int), .int .u64 (c2 : Int), .int .u64 (c3 : Int)], .int .i64 (IntKind.i64.wrap (s[k].toNat : Int))] W (fun e W' => e = .returned (.bool r) ∧ Hid (BE w g (s.size + 1) D E c0 c1 c2 c3 W'))) := Lib.hid (fun W h => by
            rw [show IntKind.i64.wrap (s[k].toNat : Int) = (s[k].toNat : Int) from i64_byte _ hbyte]
            exact (HI0.out W).mono fun e W' ⟨h1, h2⟩ => ⟨h1, Lib.hid (h.out.kept h2)⟩)
          have HS : Hid (∀ w', Hid (BEx w g (s.size + 1) D E c0 c1 c2 c3 (k + 1) r w') → (w'.cell? ⟨w.heap.size + 1, 1, none⟩ = some (.int .u64 (c0 : Int)) ∧ w'.cell? ⟨w.heap.size + 1, 2, none⟩ = some (.int .u64 (c1 : Int)) ∧ w'.cell? ⟨w.heap.size + 1, 3, none⟩ = some (.int .u64 (c2 : Int)) ∧ w'.cell? ⟨w.heap.size + 1, 4, none⟩ = some (.int .u64 (c3 : Int)) ∧ w'.cell? ⟨g, k, none⟩ = some (.bool (D k)) ∧ Hid (BEx w g (s.size + 1) D E c0 c1 c2 c3 (k + 1) r w'))) := Lib.hid (fun w' h => by
            rcases h.out with h1 | ⟨w0, rfl, h1⟩
            · obtain ⟨a1, a2, a3, a4⟩ := h1.cells
              exact ⟨a1, a2, a3, a4, h1.2.2.1.cell (by omega), h⟩
            · obtain ⟨a1, a2, a3, a4⟩ := (h1.put hgl (k + 1) r).cells
              exact ⟨a1, a2, a3, a4, (h1.put hgl (k + 1) r).2.2.1.cell (by omega), h⟩)
          rw [← HX.out] at HS
          have HST : Hid (∀ w', BE w g (s.size + 1) D E c0 c1 c2 c3 w' → (w'.cell? ⟨w.heap.size, k + 1, none⟩ = some (.bool (E (k + 1))) ∧ w'.frozen? ⟨w.heap.size, k + 1, none⟩ = false)) := Lib.hid (fun w' h => ⟨h.1.cell (by omega), h.1.frozen _⟩)
          have HEN : Hid (byteD s.data.toList (c0, c1, c2, c3) D (k + 1) = setD E (k + 1) r) := Lib.hid (by rw [HBS.out, Bool.true_and, hr])
          have HED : Hid (BE w g (s.size + 1) D E c0 c1 c2 c3 wr.drew) := Lib.hid (hE.out.kept (Below.refl _ _).drew)
          have hbI : (s[k].toNat : Int) < 256 := by omega
          clear hr HBS HX HI0
          go_wp2_with fail
          go_region_held3 (fun w' => w'.cell? ⟨w.heap.size + 1, 1, none⟩ = some (.int .u64 (c0 : Int)) ∧ w'.cell? ⟨w.heap.size + 1, 2, none⟩ = some (.int .u64 (c1 : Int)) ∧ w'.cell? ⟨w.heap.size + 1, 3, none⟩ = some (.int .u64 (c2 : Int)) ∧ w'.cell? ⟨w.heap.size + 1, 4, none⟩ = some (.int .u64 (c3 : Int)) ∧ w'.cell? ⟨g, k, none⟩ = some (.bool true) ∧ Hid (BEx w g (s.size + 1) D E c0 c1 c2 c3 (k + 1) r w'))
            (exact HS.out _ (by first | exact Lib.hid (.inl (Hid.out (by assumption))) | exact Lib.hid (.inr ⟨_, rfl, Hid.out (by assumption)⟩)))
            (first | (go_at_call 35; refine (HCI.out _ (by assumption)).mono ?_; rintro e w5 ⟨rfl, henv⟩; obtain ⟨z0, z1⟩ := HST.out _ henv.out))
          go_wp2_with fail
          go_roundw
          case rel => exact ⟨k + 1, by omega, by go_num, Lib.hid (by rw [HEN.out]; exact henv.out.put hgl (k + 1) r)⟩
          case measure => simp [intOf]; omega
      · obtain rfl : k = s.size := by omega
        have hto := to_byte s.data.toList (c0, c1, c2, c3) D
        rw [HSL.out] at hto
        have HTO := Lib.hid hto
        clear hto
        go_wp2
        go_ret
        exact ⟨w.heap.size, _, rfl, hE.out.1, HTO.out, hE.out.2.2.2⟩
end Go.Proofs.YthcahjnniendnabDoor

/-
  The walk of the document's Reach: one part.
-/
namespace Go.Proofs.YthcahjnniendnabDoor
open Go.RowKit Wf

set_option maxRecDepth 100000 in
set_option maxHeartbeats 16000000 in
theorem Reach_star (l : List Nd) (hg : ∀ n ∈ l, good n) (hok : ∀ n ∈ l, okC n.cls) (hlen : l.length ≤ 60) (b off cap : Nat) (s : ByteArray) (hs : s.size ≤ 400) (a : Rx) (iha : ∀ i, At l i a → ReachAt l b off cap s a i) (i : Nat) (hat : At l i (.star a)) : ReachAt l b off cap s (.star a) i := by
  have HM : Hid (∀ (w : World), RdN w (.slice (some ⟨b, off, none⟩) l.length cap) l → ∀ k n, l[k]? = some n →
      w.cell? ⟨b, off + k * 5, none⟩ = some (.int .i64 n.op) ∧ w.cell? ⟨b, off + k * 5 + 1, none⟩ = some (.int .u64 (n.cls.1 : Int)) ∧ w.cell? ⟨b, off + k * 5 + 2, none⟩ = some (.int .u64 (n.cls.2.1 : Int)) ∧
      w.cell? ⟨b, off + k * 5 + 3, none⟩ = some (.int .u64 (n.cls.2.2.1 : Int)) ∧ w.cell? ⟨b, off + k * 5 + 4, none⟩ = some (.int .u64 (n.cls.2.2.2 : Int))) := Lib.hid (fun w hr k n hk => by
    obtain ⟨A', cap', hv, hcap, hcap2, hmem⟩ := hr.open_
    injection hv with e1 _ e2
    obtain ⟨b', off', hA, _, hc⟩ := hmem (by have := (List.getElem?_eq_some_iff.1 hk).1; omega)
    rw [hA] at e1
    cases e1
    exact hc w (fun _ => rfl) k n hk)
  have HBL : Hid (∀ (w : World), RdN w (.slice (some ⟨b, off, none⟩) l.length cap) l → 0 < l.length → b < w.heap.size) := Lib.hid (fun w hr hk => by
    obtain ⟨A', cap', hv, hcap, hcap2, hmem⟩ := hr.open_
    injection hv with e1 _ e2
    obtain ⟨b', off', hA, hb, _⟩ := hmem hk
    rw [hA] at e1
    cases e1
    exact hb)
  have HEND := Lib.hid (fun (i : Nat) (hi : i ≤ l.length) (w : World) (hr : RdN w (.slice (some ⟨b, off, none⟩) l.length cap) l) => REnd_all l hg hlen (some ⟨b, off, none⟩) cap l.length i w (by omega) hi hr)
  have HOK := Lib.hid hok
  have HSL := Lib.hid (show s.data.toList.length = s.size by simp)
  have HCLO := Lib.hid (fun (u : Rx) (i : Nat) (h : ReachAt l b off cap s u i) => closed_any l b off cap s hs u i h)
  have HBW : Hid (∀ (w : World) (o o' : Obj), Below w.heap.size w ((w.alloc o).alloc o')) := Lib.hid fun w o o' => ((Below.refl _ _).alloc (Nat.le_refl _) _).alloc (by simp) _
  have hmk0 := fun W => mk_bools (s.size + 1) (by omega) W
  have hmk := hmk0
  rw [show ((s.size + 1 : Nat) : Int) = (s.size : Int) + 1 by omega] at hmk
  have hrg := fun f (hf : f < s.size + 1) => repA_get (s.size + 1) (.bool false) f hf
  have HRG := Lib.hid hrg
  clear hg hok hrg
  · intro w g D hr hD
    obtain ⟨q0, q1, q2, q3, q4⟩ := HM.out w hr i _ hat.star.1
    have hlt := hat.lt
    have hpos := flat_pos (.star a)
    have hi1 : (i : Int) < (l.length : Int) := by omega
    have hgl := hD.lt
    have hbl := HBL.out w hr (by omega)
    have HR := Lib.hid hr
    have HD := Lib.hid hD
    dsimp only [zc] at q0 q1 q2 q3 q4
    have HCL := Lib.hid (HCLO.out a (i + 1) (iha (i + 1) hat.star.2))
    clear hat hr hD iha
    go_enter Tryd.func57, Tryd.ntmps57
    go_wp2_with fail
    refine (HCL.out _ g D (HR.out.below (HBW.out w _ _)) (HD.out.below (HBW.out w _ _))).mono ?_
    rintro e w1 ⟨g1, D1, rfl, hg1, hto1, hb1⟩
    have HG1 := Lib.hid hg1
    have HTO1 := Lib.hid hto1
    have HB1 := Lib.hid (((HBW.out w _ _)).trans (hb1.mono ((HBW.out w _ _)).size))
    clear hg1 hto1 hb1
    go_wp2_with fail
    go_ret
    exact ⟨g1, D1, rfl, HG1.out, to_star HTO1.out, HB1.out⟩
set_option maxRecDepth 100000 in
set_option maxHeartbeats 16000000 in
theorem Reach_plus (l : List Nd) (hg : ∀ n ∈ l, good n) (hok : ∀ n ∈ l, okC n.cls) (hlen : l.length ≤ 60) (b off cap : Nat) (s : ByteArray) (hs : s.size ≤ 400) (a : Rx) (iha : ∀ i, At l i a → ReachAt l b off cap s a i) (i : Nat) (hat : At l i (.plus a)) : ReachAt l b off cap s (.plus a) i := by
  have HM : Hid (∀ (w : World), RdN w (.slice (some ⟨b, off, none⟩) l.length cap) l → ∀ k n, l[k]? = some n →
      w.cell? ⟨b, off + k * 5, none⟩ = some (.int .i64 n.op) ∧ w.cell? ⟨b, off + k * 5 + 1, none⟩ = some (.int .u64 (n.cls.1 : Int)) ∧ w.cell? ⟨b, off + k * 5 + 2, none⟩ = some (.int .u64 (n.cls.2.1 : Int)) ∧
      w.cell? ⟨b, off + k * 5 + 3, none⟩ = some (.int .u64 (n.cls.2.2.1 : Int)) ∧ w.cell? ⟨b, off + k * 5 + 4, none⟩ = some (.int .u64 (n.cls.2.2.2 : Int))) := Lib.hid (fun w hr k n hk => by
    obtain ⟨A', cap', hv, hcap, hcap2, hmem⟩ := hr.open_
    injection hv with e1 _ e2
    obtain ⟨b', off', hA, _, hc⟩ := hmem (by have := (List.getElem?_eq_some_iff.1 hk).1; omega)
    rw [hA] at e1
    cases e1
    exact hc w (fun _ => rfl) k n hk)
  have HBL : Hid (∀ (w : World), RdN w (.slice (some ⟨b, off, none⟩) l.length cap) l → 0 < l.length → b < w.heap.size) := Lib.hid (fun w hr hk => by
    obtain ⟨A', cap', hv, hcap, hcap2, hmem⟩ := hr.open_
    injection hv with e1 _ e2
    obtain ⟨b', off', hA, hb, _⟩ := hmem hk
    rw [hA] at e1
    cases e1
    exact hb)
  have HEND := Lib.hid (fun (i : Nat) (hi : i ≤ l.length) (w : World) (hr : RdN w (.slice (some ⟨b, off, none⟩) l.length cap) l) => REnd_all l hg hlen (some ⟨b, off, none⟩) cap l.length i w (by omega) hi hr)
  have HOK := Lib.hid hok
  have HSL := Lib.hid (show s.data.toList.length = s.size by simp)
  have HCLO := Lib.hid (fun (u : Rx) (i : Nat) (h : ReachAt l b off cap s u i) => closed_any l b off cap s hs u i h)
  have HBW : Hid (∀ (w : World) (o o' : Obj), Below w.heap.size w ((w.alloc o).alloc o')) := Lib.hid fun w o o' => ((Below.refl _ _).alloc (Nat.le_refl _) _).alloc (by simp) _
  have hmk0 := fun W => mk_bools (s.size + 1) (by omega) W
  have hmk := hmk0
  rw [show ((s.size + 1 : Nat) : Int) = (s.size : Int) + 1 by omega] at hmk
  have hrg := fun f (hf : f < s.size + 1) => repA_get (s.size + 1) (.bool false) f hf
  have HRG := Lib.hid hrg
  clear hg hok hrg
  · intro w g D hr hD
    obtain ⟨q0, q1, q2, q3, q4⟩ := HM.out w hr i _ hat.plus.1
    have hlt := hat.lt
    have hpos := flat_pos (.plus a)
    have hi1 : (i : Int) < (l.length : Int) := by omega
    have hgl := hD.lt
    have hbl := HBL.out w hr (by omega)
    have HR := Lib.hid hr
    have HD := Lib.hid hD
    dsimp only [zc] at q0 q1 q2 q3 q4
    have HCL := Lib.hid (HCLO.out a (i + 1) (iha (i + 1) hat.plus.2))
    have hRA := iha (i + 1) hat.plus.2
    unfold ReachAt at hRA
    have HRA := Lib.hid hRA
    clear hat hr hD iha hRA
    go_enter Tryd.func57, Tryd.ntmps57
    go_wp2_with fail
    refine (HRA.out _ g D (HR.out.below (HBW.out w _ _)) (HD.out.below (HBW.out w _ _))).mono ?_
    rintro e w1 ⟨g1, D1, rfl, hg1, hto1, hb1⟩
    have HG1 := Lib.hid hg1
    have HTO1 := Lib.hid hto1
    have HB1 := Lib.hid (((HBW.out w _ _)).trans (hb1.mono ((HBW.out w _ _)).size))
    clear hg1 hto1 hb1
    go_wp2_with fail
    refine (HCL.out _ g1 D1 (HR.out.below HB1.out) (HG1.out)).mono ?_
    rintro e w2 ⟨g2, D2, rfl, hg2, hto2, hb2⟩
    have HG2 := Lib.hid hg2
    have HTO2 := Lib.hid hto2
    have HB2 := Lib.hid ((HB1.out).trans (hb2.mono (HB1.out).size))
    clear hg2 hto2 hb2
    go_wp2_with fail
    go_ret
    exact ⟨g2, D2, rfl, HG2.out, by have h1 := HTO1.out; have h2 := HTO2.out; rw [← HSL.out] at h1 h2 ⊢; exact to_plus h1 h2, HB2.out⟩
set_option maxRecDepth 100000 in
set_option maxHeartbeats 16000000 in
theorem Reach_opt (l : List Nd) (hg : ∀ n ∈ l, good n) (hok : ∀ n ∈ l, okC n.cls) (hlen : l.length ≤ 60) (b off cap : Nat) (s : ByteArray) (hs : s.size ≤ 400) (a : Rx) (iha : ∀ i, At l i a → ReachAt l b off cap s a i) (i : Nat) (hat : At l i (.opt a)) : ReachAt l b off cap s (.opt a) i := by
  have HM : Hid (∀ (w : World), RdN w (.slice (some ⟨b, off, none⟩) l.length cap) l → ∀ k n, l[k]? = some n →
      w.cell? ⟨b, off + k * 5, none⟩ = some (.int .i64 n.op) ∧ w.cell? ⟨b, off + k * 5 + 1, none⟩ = some (.int .u64 (n.cls.1 : Int)) ∧ w.cell? ⟨b, off + k * 5 + 2, none⟩ = some (.int .u64 (n.cls.2.1 : Int)) ∧
      w.cell? ⟨b, off + k * 5 + 3, none⟩ = some (.int .u64 (n.cls.2.2.1 : Int)) ∧ w.cell? ⟨b, off + k * 5 + 4, none⟩ = some (.int .u64 (n.cls.2.2.2 : Int))) := Lib.hid (fun w hr k n hk => by
    obtain ⟨A', cap', hv, hcap, hcap2, hmem⟩ := hr.open_
    injection hv with e1 _ e2
    obtain ⟨b', off', hA, _, hc⟩ := hmem (by have := (List.getElem?_eq_some_iff.1 hk).1; omega)
    rw [hA] at e1
    cases e1
    exact hc w (fun _ => rfl) k n hk)
  have HBL : Hid (∀ (w : World), RdN w (.slice (some ⟨b, off, none⟩) l.length cap) l → 0 < l.length → b < w.heap.size) := Lib.hid (fun w hr hk => by
    obtain ⟨A', cap', hv, hcap, hcap2, hmem⟩ := hr.open_
    injection hv with e1 _ e2
    obtain ⟨b', off', hA, hb, _⟩ := hmem hk
    rw [hA] at e1
    cases e1
    exact hb)
  have HEND := Lib.hid (fun (i : Nat) (hi : i ≤ l.length) (w : World) (hr : RdN w (.slice (some ⟨b, off, none⟩) l.length cap) l) => REnd_all l hg hlen (some ⟨b, off, none⟩) cap l.length i w (by omega) hi hr)
  have HOK := Lib.hid hok
  have HSL := Lib.hid (show s.data.toList.length = s.size by simp)
  have HCLO := Lib.hid (fun (u : Rx) (i : Nat) (h : ReachAt l b off cap s u i) => closed_any l b off cap s hs u i h)
  have HBW : Hid (∀ (w : World) (o o' : Obj), Below w.heap.size w ((w.alloc o).alloc o')) := Lib.hid fun w o o' => ((Below.refl _ _).alloc (Nat.le_refl _) _).alloc (by simp) _
  have hmk0 := fun W => mk_bools (s.size + 1) (by omega) W
  have hmk := hmk0
  rw [show ((s.size + 1 : Nat) : Int) = (s.size : Int) + 1 by omega] at hmk
  have hrg := fun f (hf : f < s.size + 1) => repA_get (s.size + 1) (.bool false) f hf
  have HRG := Lib.hid hrg
  clear hg hok hrg
  · intro w g D hr hD
    obtain ⟨q0, q1, q2, q3, q4⟩ := HM.out w hr i _ hat.opt.1
    have hlt := hat.lt
    have hpos := flat_pos (.opt a)
    have hi1 : (i : Int) < (l.length : Int) := by omega
    have hgl := hD.lt
    have hbl := HBL.out w hr (by omega)
    have HR := Lib.hid hr
    have HD := Lib.hid hD
    dsimp only [zc] at q0 q1 q2 q3 q4
    have hRA := iha (i + 1) hat.opt.2
    unfold ReachAt at hRA
    have HRA := Lib.hid hRA
    clear hat hr hD iha hRA
    go_enter Tryd.func57, Tryd.ntmps57
    go_wp2_with fail
    refine (HRA.out _ g D (HR.out.below (HBW.out w _ _)) (HD.out.below (HBW.out w _ _))).mono ?_
    rintro e w1 ⟨g1, D1, rfl, hg1, hto1, hb1⟩
    have HG1 := Lib.hid hg1
    have HTO1 := Lib.hid hto1
    have HB1 := Lib.hid (((HBW.out w _ _)).trans (hb1.mono ((HBW.out w _ _)).size))
    have HD1 := Lib.hid ((HD.out.below (HBW.out w _ _)).below hb1)
    clear hg1 hto1 hb1
    go_wp2_with fail
    refine (joined_any g g1 (s.size + 1) (by omega) D D1 _ (HD1.out) (HG1.out)).mono ?_
    rintro e w2 ⟨g2, rfl, hg2, hb2⟩
    have HG2 := Lib.hid hg2
    have HB2 := Lib.hid ((HB1.out).trans (hb2.mono (HB1.out).size))
    clear hg2 hb2
    go_wp2_with fail
    go_ret
    exact ⟨g2, _, rfl, HG2.out, to_opt HTO1.out, HB2.out⟩
end Go.Proofs.YthcahjnniendnabDoor

/-
  The walk of the document's Reach: two parts.
-/
namespace Go.Proofs.YthcahjnniendnabDoor
open Go.RowKit Wf

set_option maxRecDepth 100000 in
set_option maxHeartbeats 16000000 in
theorem Reach_cat (l : List Nd) (hg : ∀ n ∈ l, good n) (hok : ∀ n ∈ l, okC n.cls) (hlen : l.length ≤ 60) (b off cap : Nat) (s : ByteArray) (hs : s.size ≤ 400) (a c : Rx) (iha : ∀ i, At l i a → ReachAt l b off cap s a i) (ihc : ∀ i, At l i c → ReachAt l b off cap s c i) (i : Nat) (hat : At l i (.cat a c)) : ReachAt l b off cap s (.cat a c) i := by
  have HM : Hid (∀ (w : World), RdN w (.slice (some ⟨b, off, none⟩) l.length cap) l → ∀ k n, l[k]? = some n →
      w.cell? ⟨b, off + k * 5, none⟩ = some (.int .i64 n.op) ∧ w.cell? ⟨b, off + k * 5 + 1, none⟩ = some (.int .u64 (n.cls.1 : Int)) ∧ w.cell? ⟨b, off + k * 5 + 2, none⟩ = some (.int .u64 (n.cls.2.1 : Int)) ∧
      w.cell? ⟨b, off + k * 5 + 3, none⟩ = some (.int .u64 (n.cls.2.2.1 : Int)) ∧ w.cell? ⟨b, off + k * 5 + 4, none⟩ = some (.int .u64 (n.cls.2.2.2 : Int))) := Lib.hid (fun w hr k n hk => by
    obtain ⟨A', cap', hv, hcap, hcap2, hmem⟩ := hr.open_
    injection hv with e1 _ e2
    obtain ⟨b', off', hA, _, hc⟩ := hmem (by have := (List.getElem?_eq_some_iff.1 hk).1; omega)
    rw [hA] at e1
    cases e1
    exact hc w (fun _ => rfl) k n hk)
  have HBL : Hid (∀ (w : World), RdN w (.slice (some ⟨b, off, none⟩) l.length cap) l → 0 < l.length → b < w.heap.size) := Lib.hid (fun w hr hk => by
    obtain ⟨A', cap', hv, hcap, hcap2, hmem⟩ := hr.open_
    injection hv with e1 _ e2
    obtain ⟨b', off', hA, hb, _⟩ := hmem hk
    rw [hA] at e1
    cases e1
    exact hb)
  have HEND := Lib.hid (fun (i : Nat) (hi : i ≤ l.length) (w : World) (hr : RdN w (.slice (some ⟨b, off, none⟩) l.length cap) l) => REnd_all l hg hlen (some ⟨b, off, none⟩) cap l.length i w (by omega) hi hr)
  have HOK := Lib.hid hok
  have HSL := Lib.hid (show s.data.toList.length = s.size by simp)
  have HCLO := Lib.hid (fun (u : Rx) (i : Nat) (h : ReachAt l b off cap s u i) => closed_any l b off cap s hs u i h)
  have HBW : Hid (∀ (w : World) (o o' : Obj), Below w.heap.size w ((w.alloc o).alloc o')) := Lib.hid fun w o o' => ((Below.refl _ _).alloc (Nat.le_refl _) _).alloc (by simp) _
  have hmk0 := fun W => mk_bools (s.size + 1) (by omega) W
  have hmk := hmk0
  rw [show ((s.size + 1 : Nat) : Int) = (s.size : Int) + 1 by omega] at hmk
  have hrg := fun f (hf : f < s.size + 1) => repA_get (s.size + 1) (.bool false) f hf
  have HRG := Lib.hid hrg
  clear hg hok hrg
  · intro w g D hr hD
    obtain ⟨q0, q1, q2, q3, q4⟩ := HM.out w hr i _ hat.cat.1
    have hlt := hat.lt
    have hpos := flat_pos (.cat a c)
    have hi1 : (i : Int) < (l.length : Int) := by omega
    have hgl := hD.lt
    have hbl := HBL.out w hr (by omega)
    have HR := Lib.hid hr
    have HD := Lib.hid hD
    dsimp only [zc] at q0 q1 q2 q3 q4
    obtain ⟨_, hata, hatc⟩ := hat.cat
    have hRA := iha (i + 1) hata
    have hRC := ihc (i + 1 + (flat a).length) hatc
    unfold ReachAt at hRA hRC
    have hpa := flat_pos a
    have hla := hata.lt
    have HE := Lib.hid (fun W h => HEND.out (i + 1) (by omega) W h)
    rw [eo_at hata] at HE
    generalize i + 1 + (flat a).length = e2 at *
    have HRA := Lib.hid hRA
    have HRC := Lib.hid hRC
    clear hat hr hD iha ihc hRA hRC hata hatc
    go_enter Tryd.func57, Tryd.ntmps57
    go_wp2_with fail
    refine (HE.out _ (HR.out.below (HBW.out w _ _))).mono ?_
    rintro e w1' ⟨rfl, rfl⟩
    go_wp2_with fail
    refine (HRA.out _ g D (HR.out.below (HBW.out w _ _)) (HD.out.below (HBW.out w _ _))).mono ?_
    rintro e w1 ⟨g1, D1, rfl, hg1, hto1, hb1⟩
    have HG1 := Lib.hid hg1
    have HTO1 := Lib.hid hto1
    have HB1 := Lib.hid (((HBW.out w _ _)).trans (hb1.mono ((HBW.out w _ _)).size))
    clear hg1 hto1 hb1
    go_wp2_with fail
    refine (HRC.out _ g1 D1 (HR.out.below HB1.out) (HG1.out)).mono ?_
    rintro e w2 ⟨g2, D2, rfl, hg2, hto2, hb2⟩
    have HG2 := Lib.hid hg2
    have HTO2 := Lib.hid hto2
    have HB2 := Lib.hid ((HB1.out).trans (hb2.mono (HB1.out).size))
    clear hg2 hto2 hb2
    go_wp2_with fail
    go_ret
    exact ⟨g2, D2, rfl, HG2.out, by have h1 := HTO1.out; have h2 := HTO2.out; rw [← HSL.out] at h1 h2 ⊢; exact to_cat h1 h2, HB2.out⟩
set_option maxRecDepth 100000 in
set_option maxHeartbeats 16000000 in
theorem Reach_alt (l : List Nd) (hg : ∀ n ∈ l, good n) (hok : ∀ n ∈ l, okC n.cls) (hlen : l.length ≤ 60) (b off cap : Nat) (s : ByteArray) (hs : s.size ≤ 400) (a c : Rx) (iha : ∀ i, At l i a → ReachAt l b off cap s a i) (ihc : ∀ i, At l i c → ReachAt l b off cap s c i) (i : Nat) (hat : At l i (.alt a c)) : ReachAt l b off cap s (.alt a c) i := by
  have HM : Hid (∀ (w : World), RdN w (.slice (some ⟨b, off, none⟩) l.length cap) l → ∀ k n, l[k]? = some n →
      w.cell? ⟨b, off + k * 5, none⟩ = some (.int .i64 n.op) ∧ w.cell? ⟨b, off + k * 5 + 1, none⟩ = some (.int .u64 (n.cls.1 : Int)) ∧ w.cell? ⟨b, off + k * 5 + 2, none⟩ = some (.int .u64 (n.cls.2.1 : Int)) ∧
      w.cell? ⟨b, off + k * 5 + 3, none⟩ = some (.int .u64 (n.cls.2.2.1 : Int)) ∧ w.cell? ⟨b, off + k * 5 + 4, none⟩ = some (.int .u64 (n.cls.2.2.2 : Int))) := Lib.hid (fun w hr k n hk => by
    obtain ⟨A', cap', hv, hcap, hcap2, hmem⟩ := hr.open_
    injection hv with e1 _ e2
    obtain ⟨b', off', hA, _, hc⟩ := hmem (by have := (List.getElem?_eq_some_iff.1 hk).1; omega)
    rw [hA] at e1
    cases e1
    exact hc w (fun _ => rfl) k n hk)
  have HBL : Hid (∀ (w : World), RdN w (.slice (some ⟨b, off, none⟩) l.length cap) l → 0 < l.length → b < w.heap.size) := Lib.hid (fun w hr hk => by
    obtain ⟨A', cap', hv, hcap, hcap2, hmem⟩ := hr.open_
    injection hv with e1 _ e2
    obtain ⟨b', off', hA, hb, _⟩ := hmem hk
    rw [hA] at e1
    cases e1
    exact hb)
  have HEND := Lib.hid (fun (i : Nat) (hi : i ≤ l.length) (w : World) (hr : RdN w (.slice (some ⟨b, off, none⟩) l.length cap) l) => REnd_all l hg hlen (some ⟨b, off, none⟩) cap l.length i w (by omega) hi hr)
  have HOK := Lib.hid hok
  have HSL := Lib.hid (show s.data.toList.length = s.size by simp)
  have HCLO := Lib.hid (fun (u : Rx) (i : Nat) (h : ReachAt l b off cap s u i) => closed_any l b off cap s hs u i h)
  have HBW : Hid (∀ (w : World) (o o' : Obj), Below w.heap.size w ((w.alloc o).alloc o')) := Lib.hid fun w o o' => ((Below.refl _ _).alloc (Nat.le_refl _) _).alloc (by simp) _
  have hmk0 := fun W => mk_bools (s.size + 1) (by omega) W
  have hmk := hmk0
  rw [show ((s.size + 1 : Nat) : Int) = (s.size : Int) + 1 by omega] at hmk
  have hrg := fun f (hf : f < s.size + 1) => repA_get (s.size + 1) (.bool false) f hf
  have HRG := Lib.hid hrg
  clear hg hok hrg
  · intro w g D hr hD
    obtain ⟨q0, q1, q2, q3, q4⟩ := HM.out w hr i _ hat.alt.1
    have hlt := hat.lt
    have hpos := flat_pos (.alt a c)
    have hi1 : (i : Int) < (l.length : Int) := by omega
    have hgl := hD.lt
    have hbl := HBL.out w hr (by omega)
    have HR := Lib.hid hr
    have HD := Lib.hid hD
    dsimp only [zc] at q0 q1 q2 q3 q4
    obtain ⟨_, hata, hatc⟩ := hat.alt
    have hRA := iha (i + 1) hata
    have hRC := ihc (i + 1 + (flat a).length) hatc
    unfold ReachAt at hRA hRC
    have hpa := flat_pos a
    have hla := hata.lt
    have HE := Lib.hid (fun W h => HEND.out (i + 1) (by omega) W h)
    rw [eo_at hata] at HE
    generalize i + 1 + (flat a).length = e2 at *
    have HRA := Lib.hid hRA
    have HRC := Lib.hid hRC
    clear hat hr hD iha ihc hRA hRC hata hatc
    go_enter Tryd.func57, Tryd.ntmps57
    go_wp2_with fail
    refine (HRA.out _ g D (HR.out.below (HBW.out w _ _)) (HD.out.below (HBW.out w _ _))).mono ?_
    rintro e w1 ⟨g1, D1, rfl, hg1, hto1, hb1⟩
    have HG1 := Lib.hid hg1
    have HTO1 := Lib.hid hto1
    have HB1 := Lib.hid (((HBW.out w _ _)).trans (hb1.mono ((HBW.out w _ _)).size))
    have HD1 := Lib.hid ((HD.out.below (HBW.out w _ _)).below hb1)
    clear hg1 hto1 hb1
    go_wp2_with fail
    refine (HE.out _ (HR.out.below HB1.out)).mono ?_
    rintro e w1' ⟨rfl, rfl⟩
    go_wp2_with fail
    refine (HRC.out _ g D (HR.out.below HB1.out) (HD1.out)).mono ?_
    rintro e w2 ⟨g2, D2, rfl, hg2, hto2, hb2⟩
    have HG2 := Lib.hid hg2
    have HTO2 := Lib.hid hto2
    have HB2 := Lib.hid ((HB1.out).trans (hb2.mono (HB1.out).size))
    have HG1b := Lib.hid (HG1.out.below hb2)
    clear hg2 hto2 hb2
    go_wp2_with fail
    refine (joined_any g1 g2 (s.size + 1) (by omega) D1 D2 _ (HG1b.out) (HG2.out)).mono ?_
    rintro e w3 ⟨g3, rfl, hg3, hb3⟩
    have HG3 := Lib.hid hg3
    have HB3 := Lib.hid ((HB2.out).trans (hb3.mono (HB2.out).size))
    clear hg3 hb3
    go_wp2_with fail
    go_ret
    exact ⟨g3, _, rfl, HG3.out, to_alt HTO1.out HTO2.out, HB3.out⟩
end Go.Proofs.YthcahjnniendnabDoor

/-
  The walk of the document's Reach: every part.
-/
namespace Go.Proofs.YthcahjnniendnabDoor
open Go.RowKit Wf

theorem RReach_all (l : List Nd) (hg : ∀ n ∈ l, good n) (hok : ∀ n ∈ l, okC n.cls) (hlen : l.length ≤ 60) (b off cap : Nat) (s : ByteArray) (hs : s.size ≤ 400) : ∀ (u : Rx) (i : Nat), At l i u → ReachAt l b off cap s u i := by
  intro u
  induction u with
  | byte c => exact fun i => Reach_byte l hg hok hlen b off cap s hs c i
  | empty => exact fun i => Reach_empty l hg hok hlen b off cap s hs i
  | bgn => exact fun i => Reach_bgn l hg hok hlen b off cap s hs i
  | fin => exact fun i => Reach_fin l hg hok hlen b off cap s hs i
  | star a iha => exact fun i => Reach_star l hg hok hlen b off cap s hs a iha i
  | plus a iha => exact fun i => Reach_plus l hg hok hlen b off cap s hs a iha i
  | opt a iha => exact fun i => Reach_opt l hg hok hlen b off cap s hs a iha i
  | cat a c iha ihc => exact fun i => Reach_cat l hg hok hlen b off cap s hs a c iha ihc i
  | alt a c iha ihc => exact fun i => Reach_alt l hg hok hlen b off cap s hs a c iha ihc i

end Go.Proofs.YthcahjnniendnabDoor

/-
  Lists of numbers: the statements' Ints and has.
-/
namespace Go.Proofs.YthcahjnniendnabDoor
open Go.RowKit Wf

def intVals (xs : List Int) : List Value := xs.map (Value.int .i64)
theorem intVals_len (xs : List Int) : (intVals xs).length = xs.length := by simp [intVals]
theorem intVals_get {xs : List Int} {k : Nat} {x : Int} (h : xs[k]? = some x) : (intVals xs)[k]? = some (.int .i64 x) := by simp [intVals, h]
def toInts (xs : List Nat) : List Int := xs.map fun (n : Nat) => (n : Int)
theorem natVals_ints (xs : List Nat) : natVals xs = intVals (toInts xs) := by simp [natVals, intVals, toInts]
theorem toInts_len (xs : List Nat) : (toInts xs).length = xs.length := by simp [toInts]
theorem toInts_inj {xs ys : List Nat} : toInts xs = toInts ys ↔ xs = ys := by
  unfold toInts
  exact List.map_inj_right (fun a b h => by omega)
theorem mem_toInts {xs : List Nat} {n : Nat} : (n : Int) ∈ toInts xs ↔ n ∈ xs := by
  unfold toInts
  rw [List.mem_map]
  constructor
  · rintro ⟨a, h1, h2⟩
    obtain rfl : a = n := by omega
    exact h1
  · intro h; exact ⟨n, h, rfl⟩
theorem toInts_get {xs : List Nat} {k : Nat} : (toInts xs)[k]? = xs[k]?.map fun (n : Nat) => (n : Int) := by simp [toInts]

/-- A slice that reads as a list of numbers. -/
def RdI (w : World) (v : Value) (xs : List Int) : Prop := Rd1 w v (intVals xs)
theorem RdI.below {w w' : World} {v : Value} {xs : List Int} (h : RdI w v xs) (hb : Below w.heap.size w w') : RdI w' v xs := Rd.below h hb
theorem RdI.nil (w : World) : RdI w (.slice none 0 0) [] := Rd.nil w 1
theorem RdI.open_ {w : World} {v : Value} {xs : List Int} (h : RdI w v xs) : ∃ (A : Option Addr) (cap : Nat), v = .slice A xs.length cap ∧ xs.length ≤ cap ∧ cap ≤ 9223372036854775807 ∧
    (0 < xs.length → ∃ b off, A = some ⟨b, off, none⟩ ∧ b < w.heap.size ∧ ∀ (w' : World), (∀ o, w'.cell? ⟨b, o, none⟩ = w.cell? ⟨b, o, none⟩) → ∀ k u, xs[k]? = some u → w'.cell? ⟨b, off + k, none⟩ = some (.int .i64 u)) := by
  obtain ⟨A, cap, hv, h1, h2, h3⟩ := Rd1.open_ h
  rw [intVals_len] at hv h1 h3
  refine ⟨A, cap, hv, h1, h2, fun hn => ?_⟩
  obtain ⟨b, off, ha, hb, hc⟩ := h3 hn
  exact ⟨b, off, ha, hb, fun w' hw k u hu => hc w' hw k _ (intVals_get hu)⟩

def IntsIs (a b : List Int) (w : World) (e : Ending) (w' : World) : Prop := ∃ r : Bool, e = .returned (.bool r) ∧ (r = true ↔ a = b) ∧ Below w.heap.size w w'

set_option maxRecDepth 100000 in
set_option maxHeartbeats 4000000 in
theorem Ints_any (a b : List Int) (va vb : Value) (w : World) (ha : RdI w va a) (hb : RdI w vb b) : Calls Tryd.prog 23 #[va, vb] w (IntsIs a b w) := by
  obtain ⟨A, ca, rfl, hca, hca2, hma⟩ := ha.open_
  obtain ⟨B, cb, rfl, hcb, hcb2, hmb⟩ := hb.open_
  have MA := Lib.hid hma
  have MB := Lib.hid hmb
  clear hma hmb ha hb
  by_cases hl : a.length = b.length
  · have hne : ((a.length : Int) != (b.length : Int)) = false := by rw [hl]; simp
    have HL := Lib.hid hl
    have hlen1 : a.length ≤ b.length := by omega
    have hlen2 : b.length ≤ a.length := by omega
    clear hl
    go_enter Tryd.func23, Tryd.ntmps23
    go_wp2
    go_loopw [5] (fun v5 wr => ∃ k : Nat, k ≤ a.length ∧ v5 = .int .i64 k ∧ Hid (a.take k = b.take k) ∧ Below w.heap.size w wr) (fun i _ => a.length - (intOf i).toNat)
    case atStart => exact ⟨0, by omega, rfl, Lib.hid rfl, Below.refl _ _⟩
    case round =>
      obtain ⟨k, hk, rfl, HT, hbl⟩ := hrel
      by_cases hlt : k < a.length
      · obtain ⟨b1, off1, rfl, hb1, hc1⟩ := MA.out (by omega)
        obtain ⟨b2, off2, rfl, hb2, hc2⟩ := MB.out (by omega)
        obtain ⟨n, hn⟩ := getD_get hlt
        obtain ⟨m, hm⟩ := getD_get (show k < b.length by omega)
        have g0 := hc1 wr (fun o => hbl.cell (p := ⟨b1, o, none⟩) hb1) k n hn
        have q0 := hc2 wr (fun o => hbl.cell (p := ⟨b2, o, none⟩) hb2) k m hm
        have hyes : n = m → Hid (a.take (k + 1) = b.take (k + 1)) := fun h => Lib.hid (by rw [take_snoc hn, take_snoc hm, HT.out, h])
        have hno : n ≠ m → a ≠ b := fun h => list_ne_of hn hm h
        have HY := Lib.hid hyes
        have HNO := Lib.hid hno
        clear hyes hno hn hm hc1 hc2
        have hk0 : (0 : Int) ≤ (k : Int) := by omega
        have hk1 : (k : Int) < (a.length : Int) := by omega
        have hk2 : (k : Int) < (b.length : Int) := by omega
        by_cases hcase : n = m
        · have hbne : (n != m) = false := by simp [hcase]
          have HC := Lib.hid hcase
          clear hcase
          go_wp2
          go_quiet (fail)
          go_wp2
          go_roundw
          case rel => exact ⟨k + 1, by omega, by go_num, HY.out HC.out, below_drewN hbl _⟩
          case measure => simp [intOf]; omega
        · have hbne : (n != m) = true := by simp [hcase]
          have HC := Lib.hid hcase
          clear hcase
          go_wp2
          go_quiet (fail)
          go_wp2
          go_ret
          exact ⟨_, rfl, ⟨(fun h => by cases h), fun h => absurd h (HNO.out HC.out)⟩, below_drewN hbl _⟩
      · obtain rfl : k = a.length := by omega
        go_wp2
        go_ret
        exact ⟨_, rfl, ⟨fun _ => list_eq_of HT.out rfl HL.out, fun _ => rfl⟩, hbl⟩
  · have hne : ((a.length : Int) != (b.length : Int)) = true := by simp; omega
    have HL := Lib.hid hl
    clear hl
    go_enter Tryd.func23, Tryd.ntmps23
    go_wp2
    go_ret
    exact ⟨_, rfl, ⟨(fun h => by cases h), fun h => absurd (congrArg List.length h) HL.out⟩, Below.refl _ _⟩

def HasIIs (a : List Int) (n : Int) (w : World) (e : Ending) (w' : World) : Prop := ∃ r : Bool, e = .returned (.bool r) ∧ (r = true ↔ n ∈ a) ∧ Below w.heap.size w w'

end Go.Proofs.YthcahjnniendnabDoor

/-
  Walks of slices.Grow and slices.Concat at rows of nodes.
-/
namespace Go.Proofs.YthcahjnniendnabDoor
open Go.RowKit Wf

theorem info_node : (Tryd.prog.info? 69).map (fun i => (i.zero, i.size, i.bytes)) = some (some (.agg #[.int .i64 0, .int .u64 0, .int .u64 0, .int .u64 0, .int .u64 0]), 5, 40) := by kernel_rfl

theorem run_append_make_nil {P : Program} (w : World) (t ti ty e : TypeId) (i : TypeInfo) (z : Value) (k : IntKind) (ht : P.underlying t = some (.slice e)) (hti : P.underlying ti = some (.int k)) (hi : P.info? e = some i) (hz : i.zero = some z)
    (n : Nat) (h0 : 0 < n) (h63 : n ≤ 1000000) (h48 : n * i.bytes ≤ 281474976710656) (hne : n * i.size ≠ 0) :
    (Builtin.append_ #[t, ti] ty #[.slice none 0 0, .int .i64 (n : Int)]).run P w =
      .ok (.slice (some ⟨w.heap.size, 0, none⟩) n (grownCap w n 0 e)) (w.drew.alloc (.cells (Builtin.zeroCells z.cells n ++ Builtin.zeroCells z.cells (grownCap w n 0 e - n)) e)) := by
  have hn : n ≠ 0 := by omega
  have h63' : ¬ (9223372036854775807 < (n : Int)) := by omega
  have h48' : ¬ (281474976710656 < Builtin.nextslicecap n 0 * i.bytes) := by rw [nextslicecap_zero h0]; omega
  have hw : IntKind.i64.wrap (n : Int) = n := by rw [IntKind.wrap_i64]; omega
  have h1 : ¬ ((n : Int) < 0) := by omega
  have h2 : ¬ (281474976710656 < (n : Int) * (i.bytes : Int)) := by
    have : (n : Int) * (i.bytes : Int) = ((n * i.bytes : Nat) : Int) := by rw [Int.natCast_mul]
    omega
  simp [Builtin.append_, run_underlying ht, run_underlying hti, sizeOf, typeInfo, zeroValue, hi, hz, asInt, asIntOf, hw, h1, h2, hn, h63', h48', hne, Question.forced, run_firstCells_none, newRow, grownCap]

theorem wpList_append_make {P : Program} (w : World) {ops : Array Oper} {rest : List Oper} {o : Oper} {a : Act} {Q : Exit → Act → World → Prop} (hgd : o.guard = none) (s x : Operand) (t ti : TypeId)
    (ho : o.op = .call { callee := .builtin .append, args := #[s, x], argTypes := #[t, ti] }) (v u : Value) (hs : a.eval s = v) (hx : a.eval x = u) (r : Value) (w' : World)
    (hrun : (Builtin.append_ #[t, ti] o.type #[v, u]).run P w = .ok r w') (h : wpList P ops Q rest (a.put o.dst r) w') : wpList P ops Q (o :: rest) a w :=
  wpList_plain hgd fun _ hK => by
    unfold Oper.wp execOp
    simp only [ho, resolve, invoke, builtin, Sem.run_bind, Sem.run_pure, Result.andThen_ok, List.map_toArray, List.map_cons, List.map_nil, hs, hx, hrun]
    exact hK _ _ h

def GrowIs (n : Nat) (w : World) (e : Ending) (w' : World) : Prop :=
  ∃ g cap, e = .returned (.slice (some ⟨g, 0, none⟩) 0 cap) ∧ w'.ownsRow w.heap.size 69 5 (.slice (some ⟨g, 0, none⟩) 0 cap) 0 [] ∧ Below w.heap.size w w'

end Go.Proofs.YthcahjnniendnabDoor

/-
  Walks of slices.Concat at rows of nodes; of package rex: turner.turn, Turn.
-/
namespace Go.Proofs.YthcahjnniendnabDoor
open Go.RowKit Wf

theorem flatten_take_succ {α : Type} {ls : List (List α)} {k : Nat} {x : List α} (h : ls[k]? = some x) : (ls.take (k + 1)).flatten = (ls.take k).flatten ++ x := by
  rw [take_snoc h]; simp
theorem flatten_take_le {α : Type} (ls : List (List α)) (k : Nat) : (ls.take k).flatten.length ≤ ls.flatten.length := by
  have h : (ls.take k ++ ls.drop k).flatten.length = ls.flatten.length := by rw [List.take_append_drop]
  simp only [List.flatten_append, List.length_append] at h
  omega

/-- A row of nodes in new memory, with its room. -/
def OwnN (w : World) (base : Nat) (v : Value) (l : List Nd) : Prop := w.ownsRow base 69 5 v l.length (l.flatMap ndCells)
theorem OwnN.rd {w : World} {base : Nat} {v : Value} {l : List Nd} (h : OwnN w base v l) : RdN w v l := Rd.of_own h

def ConcatIs (l : List Nd) (w : World) (e : Ending) (w' : World) : Prop :=
  ∃ g cap, e = .returned (.slice (some ⟨g, 0, none⟩) l.length cap) ∧ OwnN w' w.heap.size (.slice (some ⟨g, 0, none⟩) l.length cap) l ∧ Below w.heap.size w w'

def TurnerIs (u : Rx) (w : World) (e : Ending) (w' : World) : Prop :=
  ∃ g cap, e = .returned (.slice (some ⟨g, 0, none⟩) (flat (turnT u)).length cap) ∧ RdN w' (.slice (some ⟨g, 0, none⟩) (flat (turnT u)).length cap) (flat (turnT u)) ∧ Below w.heap.size w w'

/-- The world as a turner wants it: its row of nodes, its row of ends. -/
structure TEnv (l : List Nd) (b off cap g : Nat) (w : World) : Prop where
  hr : RdN w (.slice (some ⟨b, off, none⟩) l.length cap) l
  hb : b < w.heap.size
  hg : g < w.heap.size
  hx : ∀ i u, At l i u → w.cell? ⟨g, i, none⟩ = some (.int .i64 ((i + (flat u).length : Nat) : Int))

theorem TEnv.below {l : List Nd} {b off cap g : Nat} {w w' : World} (h : TEnv l b off cap g w) (hb : Below w.heap.size w w') : TEnv l b off cap g w' :=
  ⟨h.hr.below hb, Nat.lt_of_lt_of_le h.hb hb.size, Nat.lt_of_lt_of_le h.hg hb.size, fun i u hu => by rw [hb.cell (p := ⟨g, i, none⟩) h.hg]; exact h.hx i u hu⟩

theorem TEnv.node {l : List Nd} {b off cap g : Nat} {w : World} (h : TEnv l b off cap g w) {i : Nat} {n : Nd} (hn : l[i]? = some n) :
    w.cell? ⟨b, off + i * 5, none⟩ = some (.int .i64 n.op) ∧ w.cell? ⟨b, off + i * 5 + 1, none⟩ = some (.int .u64 (n.cls.1 : Int)) ∧ w.cell? ⟨b, off + i * 5 + 2, none⟩ = some (.int .u64 (n.cls.2.1 : Int)) ∧
      w.cell? ⟨b, off + i * 5 + 3, none⟩ = some (.int .u64 (n.cls.2.2.1 : Int)) ∧ w.cell? ⟨b, off + i * 5 + 4, none⟩ = some (.int .u64 (n.cls.2.2.2 : Int)) := by
  obtain ⟨A, cap', hv, _, _, hm⟩ := h.hr.open_
  have hlt : i < l.length := by
    rcases Nat.lt_or_ge i l.length with h | h
    · exact h
    · rw [List.getElem?_eq_none h] at hn; cases hn
  obtain ⟨b', off', hA, _, hc⟩ := hm (by omega)
  cases hv
  cases hA
  exact hc w (fun _ => rfl) i n hn

theorem rd_lit (w : World) (B : Nat) (hB : w.heap.size = B) (op : Int) (c0 c1 c2 c3 : Nat) : RdN (w.alloc (.cells #[.int .i64 op, .int .u64 (c0 : Int), .int .u64 (c1 : Int), .int .u64 (c2 : Int), .int .u64 (c3 : Int)] 69)) (.slice (some ⟨B, 0, none⟩) 1 1) [⟨op, c0, c1, c2, c3⟩] := by
  subst hB
  refine ⟨_, 1, 1, rfl, by omega, by omega, rfl, fun _ => ⟨_, 0, rfl, fun j u hu => ?_⟩⟩
  rw [Nat.zero_add, World.cell?_alloc_new, ← hu]
  simp [ndCells]

theorem own_lit (w : World) (B : Nat) (hB : w.heap.size = B) (base : Nat) (hb : base ≤ w.heap.size) (op : Int) (c0 c1 c2 c3 : Nat) : (w.alloc (.cells #[.int .i64 op, .int .u64 (c0 : Int), .int .u64 (c1 : Int), .int .u64 (c2 : Int), .int .u64 (c3 : Int)] 69)).ownsRow base 69 5 (.slice (some ⟨B, 0, none⟩) 1 1) 1 (ndCells ⟨op, c0, c1, c2, c3⟩) := by
  subst hB
  exact World.ownsRow_lit w _ 1 hb (by unfold maxLen; omega) rfl

theorem own_below {w w' : World} {base size n : Nat} {e : TypeId} {v : Value} {xs : List Value} (h : w.ownsRow base e size v n xs) (hb : Below w.heap.size w w') : w'.ownsRow base e size v n xs := by
  obtain ⟨h1, h2⟩ := h
  refine ⟨h1, ?_⟩
  rcases h2 with h2 | ⟨g, cap, cur, hv, h3, h4, h5⟩
  · exact .inl h2
  · refine .inr ⟨g, cap, cur, hv, h3, ?_, h5⟩
    rw [hb.block g (Array.getElem?_eq_some_iff.1 h4).1]
    exact h4

def TurnIs (t : Rx) (w : World) (e : Ending) (w' : World) : Prop :=
  ∃ g cap, e = .returned (.tuple #[.slice (some ⟨g, 0, none⟩) (flat (turnT t)).length cap, .nilIface]) ∧ RdN w' (.slice (some ⟨g, 0, none⟩) (flat (turnT t)).length cap) (flat (turnT t)) ∧ Below w.heap.size w w'

def TurnNo (l : List Nd) (w : World) (e : Ending) (w' : World) : Prop := e = .returned (.tuple #[.slice none 0 0, errV (chk l)]) ∧ Below w.heap.size w w'

end Go.Proofs.YthcahjnniendnabDoor

/-
  Laws of the map from spots (two numbers) to slices: looked up, written.
-/
namespace Go.Proofs.YthcahjnniendnabDoor
open Go.RowKit Wf

/-- A spot as a key. -/
def spotV (a b : Int) : Value := .agg #[.int .i64 a, .int .i64 b]

theorem eqIn_spot (d : Nat) (a b c e : Int) (w : World) :
    (Op.equalIn (d + 2) 154 (.agg #[.int .i64 a, .int .i64 b]) (.agg #[.int .i64 c, .int .i64 e])).run Tryd.prog w = .ok (a == c && b == e) w := by
  have a4 := Tryd.isAgg3
  have u4 := Tryd.underlying3
  have hS : Tryd.prog.underlying 154 = some (.struct (Tryd.prog.fieldsOf 154)) := by kernel_rfl
  have hp : Tryd.prog.stoodInHeld 154 = false := by kernel_rfl
  rw [show d + 2 = (d + 1) + 1 from rfl, run_equalIn_agg w (d + 1) 154 _ _ hS hp]
  simp only [Program.fieldsOf, Tryd.underlying154]
  go_simp
  by_cases h1 : a = c <;> by_cases h2 : b = e <;> simp [h1, h2]

theorem run_equal_spot (a b c e : Int) (w : World) : (Op.equal 154 (spotV a b) (spotV c e)).run Tryd.prog w = .ok (a == c && b == e) w := eqIn_spot 9998 a b c e w

theorem run_checkKey_int (em : Bool) (n : Nat) (a : Int) (w : World) : (Instr.checkKey em (n + 1) 3 (.int .i64 a)).run Tryd.prog w = .ok () w := by
  simp only [Instr.checkKey, Sem.run_bind, run_underlying Tryd.underlying3, Result.andThen_ok]
  rfl

theorem run_checkKey_spot' (em : Bool) (n : Nat) (a b : Int) (w : World) : (Instr.checkKey em (n + 2) 154 (spotV a b)).run Tryd.prog w = .ok () w := by
  have a4 := Tryd.isAgg3
  unfold spotV
  rw [show n + 2 = (n + 1) + 1 from rfl, Instr.checkKey]
  simp only [Sem.run_bind, run_underlying Tryd.underlying154, Result.andThen_ok]
  have h1 := fun w => run_checkKey_int em n a w
  have h2 := fun w => run_checkKey_int em n b w
  go_simp

theorem run_checkKey_spot (em : Bool) (a b : Int) (w : World) : (Instr.checkKey em 10000 154 (spotV a b)).run Tryd.prog w = .ok () w := run_checkKey_spot' em 9998 a b w

/-- All keys are spots. -/
def Spots (es : List MapEntry) : Prop := ∀ e ∈ es, ∃ a b, e.key = spotV a b

theorem findAsking_spot (a b : Int) (es : List MapEntry) (h : Spots es) (w : World) : ∀ i,
    (∃ j e, es[j]? = some e ∧ e.key = spotV a b ∧ (Instr.findAsking 154 (spotV a b) es i).run Tryd.prog w = .ok (some (i + j, e.val)) w) ∨
    ((∀ e ∈ es, e.key ≠ spotV a b) ∧ (Instr.findAsking 154 (spotV a b) es i).run Tryd.prog w = .ok none w) := by
  induction es with
  | nil => intro i; exact .inr ⟨by simp, rfl⟩
  | cons e r ih =>
    intro i
    obtain ⟨c, d, hk⟩ := h e (by simp)
    by_cases he : a = c ∧ b = d
    · obtain ⟨rfl, rfl⟩ := he
      refine .inl ⟨0, e, rfl, hk, ?_⟩
      rw [Instr.findAsking]
      simp only [Sem.run_bind, hk, run_equal_spot, Result.andThen_ok, beq_self_eq_true, Bool.and_self, if_true, Sem.run_pure, Nat.add_zero]
    · have hf : (a == c && b == d) = false := by
        rw [Bool.eq_false_iff]
        intro h
        simp at h
        exact he h
      have hne : e.key ≠ spotV a b := by
        rw [hk]
        unfold spotV
        intro h
        simp at h
        exact he ⟨h.1.symm, h.2.symm⟩
      have hrun : (Instr.findAsking 154 (spotV a b) (e :: r) i).run Tryd.prog w = (Instr.findAsking 154 (spotV a b) r (i + 1)).run Tryd.prog w := by
        rw [Instr.findAsking]
        simp only [Sem.run_bind, hk, run_equal_spot, Result.andThen_ok, hf, Bool.false_eq_true, if_false]
      rcases ih (fun e he => h e (by simp [he])) (i + 1) with ⟨j, e', hj, hk', hr⟩ | ⟨hn, hr⟩
      · exact .inl ⟨j + 1, e', by simpa using hj, hk', by rw [hrun, hr, show i + 1 + j = i + (j + 1) from by omega]⟩
      · refine .inr ⟨fun x hx => ?_, by rw [hrun, hr]⟩
        rcases List.mem_cons.1 hx with rfl | hx
        · exact hne
        · exact hn x hx

theorem findKey_spot (a b : Int) (es : List MapEntry) (h : Spots es) (w : World) :
    (∃ j e, es[j]? = some e ∧ e.key = spotV a b ∧ (Instr.findKey 154 (spotV a b) es).run Tryd.prog w = .ok (some (j, e.val)) w) ∨
    ((∀ e ∈ es, e.key ≠ spotV a b) ∧ (Instr.findKey 154 (spotV a b) es).run Tryd.prog w = .ok none w) := by
  have hfk : (Instr.findKey 154 (spotV a b) es).run Tryd.prog w = (Instr.findAsking 154 (spotV a b) es 0).run Tryd.prog w := by
    unfold Instr.findKey
    simp only [Sem.run_bind, run_underlying Tryd.underlying154, Result.andThen_ok]
    cases es with
    | nil => rfl
    | cons e r =>
      obtain ⟨c, d, hk⟩ := h e (by simp)
      simp only [Instr.findNow, hk, spotV, Instr.sameNow]
  rcases findAsking_spot a b es h w 0 with ⟨j, e, h1, h2, h3⟩ | ⟨h1, h2⟩
  · exact .inl ⟨j, e, h1, h2, by rw [hfk, h3, Nat.zero_add]⟩
  · exact .inr ⟨h1, by rw [hfk, h2]⟩

theorem run_getObj_map {P : Program} {w : World} {r : Nat} {es : Array MapEntry} {clock : Nat} (h : w.heap[r]? = some (.map es clock)) : (getObj r).run P w = .ok (.map es clock) w := by
  simp [getObj, Sem.run, h]

set_option maxRecDepth 100000 in
theorem lookup_spot (a b : Int) (r : Nat) (es : Array MapEntry) (clock : Nat) (w : World) (hw : w.heap[r]? = some (.map es clock)) (h : Spots es.toList) :
    (∃ e ∈ es.toList, e.key = spotV a b ∧ (Instr.lookup 107 (.map (some r)) (spotV a b) true).run Tryd.prog w = .ok (.tuple #[e.val, .bool true]) w) ∨
    ((∀ e ∈ es.toList, e.key ≠ spotV a b) ∧ (Instr.lookup 107 (.map (some r)) (spotV a b) true).run Tryd.prog w = .ok (.tuple #[.slice none 0 0, .bool false]) w) := by
  have hz : (zeroValue 110).run Tryd.prog w = .ok (.slice none 0 0) w := by kernel_rfl
  rcases findKey_spot a b es.toList h w with ⟨j, e, h1, h2, h3⟩ | ⟨h1, h2⟩
  · refine .inl ⟨e, List.mem_of_getElem? h1, h2, ?_⟩
    unfold Instr.lookup
    simp only [Sem.run_bind, run_underlying Tryd.underlying107, Result.andThen_ok, run_getObj_map hw, Sem.run_pure, run_checkKey_spot, h3, if_true]
  · refine .inr ⟨h1, ?_⟩
    unfold Instr.lookup
    simp only [Sem.run_bind, run_underlying Tryd.underlying107, Result.andThen_ok, run_getObj_map hw, Sem.run_pure, run_checkKey_spot, h2, hz, if_true]

theorem sameBits_spot (a b : Int) : Instr.sameBits 10000 (spotV a b) (spotV a b) = true := by
  rw [show (10000 : Nat) = 9999 + 1 from rfl]
  unfold spotV
  rw [Instr.sameBits]
  simp [Instr.sameBits]

/-- The map's block, turned. -/
def setMap (w : World) (r : Nat) (es : Array MapEntry) (clock : Nat) : World := { w with heap := w.heap.setIfInBounds r (.map es clock) }

theorem run_setObj_map {P : Program} {w : World} {r : Nat} {es es' : Array MapEntry} {clock clock' : Nat} (h : w.heap[r]? = some (.map es clock)) : (setObj r (.map es' clock')).run P w = .ok () (setMap w r es' clock') := by
  simp [setObj, Sem.run, h, setMap]

set_option maxRecDepth 100000 in
theorem update_spot (a b : Int) (v : Value) (r : Nat) (es : Array MapEntry) (clock : Nat) (w : World) (hw : w.heap[r]? = some (.map es clock)) (h : Spots es.toList) :
    ∃ es' clock', (Instr.mapUpdate 107 (.map (some r)) (spotV a b) v).run Tryd.prog w = .ok () (setMap w r es' clock') ∧
      ∀ e ∈ es'.toList, e ∈ es.toList ∨ (e.key = spotV a b ∧ e.val = v) := by
  rcases findKey_spot a b es.toList h w with ⟨j, e, h1, h2, h3⟩ | ⟨h1, h2⟩
  · have hj : es[j]? = some e := by simpa using h1
    refine ⟨es.modify j fun e => { e with key := spotV a b, val := v }, clock, ?_, ?_⟩
    · unfold Instr.mapUpdate
      simp only [Sem.run_bind, run_underlying Tryd.underlying107, Result.andThen_ok, run_getObj_map hw, Sem.run_pure, run_checkKey_spot, h3, hj, Option.map_some, Option.getD_some, h2, Instr.keyThatStays, sameBits_spot, if_true]
      exact run_setObj_map hw
    · intro x hx
      obtain ⟨i, hi⟩ := List.mem_iff_getElem?.1 hx
      rw [Array.getElem?_toList, Array.getElem?_modify] at hi
      split at hi
      · cases hei : es[i]? with
        | none => rw [hei] at hi; cases hi
        | some y =>
          rw [hei] at hi
          simp at hi
          subst hi
          exact .inr ⟨rfl, rfl⟩
      · exact .inl (List.mem_iff_getElem?.2 ⟨i, by rw [Array.getElem?_toList]; exact hi⟩)
  · refine ⟨es.push { key := spotV a b, val := v, born := clock }, clock + 1, ?_, ?_⟩
    · unfold Instr.mapUpdate
      simp only [Sem.run_bind, run_underlying Tryd.underlying107, Result.andThen_ok, run_getObj_map hw, Sem.run_pure, run_checkKey_spot, h2]
      exact run_setObj_map hw
    · intro x hx
      simp at hx
      rcases hx with hx | rfl
      · exact .inl (by simpa using hx)
      · exact .inr ⟨rfl, rfl⟩

end Go.Proofs.YthcahjnniendnabDoor
