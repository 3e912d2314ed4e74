/-
  Plain facts about classes: how many bytes; the count of set bits as the library does it. No program in sight.
-/
import Derived.Test.YthcahjnniendnabDoorPc
namespace Wf

def popN : Nat → Nat → Nat
  | 0, _ => 0
  | f + 1, x => x % 2 + popN f (x / 2)

/-- A byte k times. -/
def rep8 (c : Nat) : Nat → Nat
  | 0 => 0
  | k + 1 => c + 256 * rep8 c k

/-- A function at each byte. -/
def by8 (g : Nat → Nat) : Nat → Nat → Nat
  | 0, _ => 0
  | k + 1, x => g (x % 256) + 256 * by8 g k (x / 256)

theorem and_256 (a b y m : Nat) (hb : b < 256) (ha : a < 256) : (a + 256 * y) &&& (b + 256 * m) = (a &&& b) + 256 * (y &&& m) := by
  have h1 : ((a + 256 * y) &&& (b + 256 * m)) % 2 ^ 8 = a &&& b := by
    rw [Nat.and_mod_two_pow, show (a + 256 * y) % 2 ^ 8 = a by omega, show (b + 256 * m) % 2 ^ 8 = b by omega]
  have h2 : ((a + 256 * y) &&& (b + 256 * m)) / 2 ^ 8 = y &&& m := by
    rw [Nat.and_div_two_pow, show (a + 256 * y) / 2 ^ 8 = y by omega, show (b + 256 * m) / 2 ^ 8 = m by omega]
  omega

def g1 (b : Nat) : Nat := ((b / 2) &&& 85) + (b &&& 85)
def g2 (b : Nat) : Nat := ((g1 b / 4) &&& 51) + (g1 b &&& 51)
def g3 (b : Nat) : Nat := (g2 b / 16 + g2 b) &&& 15

theorem g1_carry : ∀ b : Fin 256, ∀ t : Fin 2, (b.val / 2 + 128 * t.val) &&& 85 = (b.val / 2) &&& 85 := by decide +kernel
theorem g1_le : ∀ b : Fin 256, g1 b.val ≤ 170 := by decide +kernel
theorem g2_carry : ∀ b : Fin 256, ∀ t : Fin 4, (g1 b.val / 4 + 64 * t.val) &&& 51 = (g1 b.val / 4) &&& 51 := by decide +kernel
theorem g2_le : ∀ b : Fin 256, g2 b.val ≤ 68 ∧ g2 b.val % 16 ≤ 4 := by decide +kernel
theorem g3_carry : ∀ b : Fin 256, ∀ t : Fin 5, (g2 b.val / 16 + 16 * t.val + g2 b.val) &&& 15 = g3 b.val := by decide +kernel
theorem g3_pop : ∀ b : Fin 256, g3 b.val = popN 8 b.val ∧ popN 8 b.val ≤ 8 := by decide +kernel

theorem swar1 (k : Nat) : ∀ x, ((x / 2) &&& rep8 85 k) + (x &&& rep8 85 k) = by8 g1 k x := by
  induction k with
  | zero => intro x; simp [rep8, by8]
  | succ k ih =>
    intro x
    obtain ⟨b, y, hb, rfl⟩ : ∃ b y, b < 256 ∧ x = b + 256 * y := ⟨x % 256, x / 256, by omega, by omega⟩
    have e1 : (b + 256 * y) / 2 = (b / 2 + 128 * (y % 2)) + 256 * (y / 2) := by omega
    have e2 : (b + 256 * y) % 256 = b := by omega
    have e3 : (b + 256 * y) / 256 = y := by omega
    have c := g1_carry ⟨b, hb⟩ ⟨y % 2, by omega⟩
    dsimp only at c
    simp only [rep8, by8, e1, e2, e3]
    rw [and_256 _ _ _ _ (by omega) (by omega), and_256 _ _ _ _ (by omega) hb, c, ← ih y]
    unfold g1
    omega

theorem swar2 (k : Nat) : ∀ x, ((by8 g1 k x / 4) &&& rep8 51 k) + (by8 g1 k x &&& rep8 51 k) = by8 g2 k x := by
  induction k with
  | zero => intro x; simp [rep8, by8]
  | succ k ih =>
    intro x
    have hb : x % 256 < 256 := by omega
    have l := g1_le ⟨_, hb⟩
    have h := ih (x / 256)
    have c := g2_carry ⟨_, hb⟩ ⟨by8 g1 k (x / 256) % 4, by omega⟩
    have e : g2 (x % 256) = ((g1 (x % 256) / 4) &&& 51) + (g1 (x % 256) &&& 51) := rfl
    simp only [rep8, by8]
    dsimp only at c l
    rw [e, ← h]
    clear e h
    generalize g1 (x % 256) = b at *
    generalize by8 g1 k (x / 256) = y at *
    have e1 : (b + 256 * y) / 4 = (b / 4 + 64 * (y % 4)) + 256 * (y / 4) := by omega
    rw [e1, and_256 _ _ _ _ (by omega) (by omega), and_256 _ _ _ _ (by omega) (by omega), c]
    omega

theorem by8_mod (g : Nat → Nat) (k x : Nat) (h : ∀ b, b < 256 → g b % 16 ≤ 4) : by8 g k x % 16 ≤ 4 := by
  cases k with
  | zero => simp [by8]
  | succ k => simp only [by8]; have := h (x % 256) (by omega); omega

theorem swar3 (k : Nat) : ∀ x, ((by8 g2 k x / 16 + by8 g2 k x) &&& rep8 15 k) = by8 g3 k x := by
  induction k with
  | zero => intro x; simp [rep8, by8]
  | succ k ih =>
    intro x
    have hb : x % 256 < 256 := by omega
    obtain ⟨l, l'⟩ := g2_le ⟨_, hb⟩
    have h := ih (x / 256)
    have m := by8_mod g2 k (x / 256) (fun b hb => (g2_le ⟨b, hb⟩).2)
    have c := g3_carry ⟨_, hb⟩ ⟨by8 g2 k (x / 256) % 16, by omega⟩
    simp only [rep8, by8]
    dsimp only at c l
    rw [← h]
    clear h
    generalize g2 (x % 256) = b at *
    generalize by8 g2 k (x / 256) = y at *
    have e1 : (b + 256 * y) / 16 + (b + 256 * y) = (b / 16 + 16 * (y % 16) + b) + 256 * (y / 16 + y) := by omega
    rw [e1, and_256 _ _ _ _ (by omega) (by omega), c]

theorem popN_split (a b : Nat) : ∀ x, popN (a + b) x = popN a x + popN b (x / 2 ^ a) := by
  induction a with
  | zero => intro x; simp [popN]
  | succ a ih =>
    intro x
    rw [show a + 1 + b = (a + b) + 1 by omega]
    simp only [popN]
    rw [ih, Nat.div_div_eq_div_mul, show 2 * 2 ^ a = 2 ^ (a + 1) by rw [Nat.pow_succ]; omega]
    omega

theorem popN_mod (a : Nat) : ∀ x, popN a (x % 2 ^ a) = popN a x := by
  induction a with
  | zero => intro x; simp [popN]
  | succ a ih =>
    intro x
    simp only [popN]
    have e1 : x % 2 ^ (a + 1) % 2 = x % 2 := Nat.mod_mod_of_dvd x ⟨2 ^ a, by rw [Nat.pow_succ, Nat.mul_comm]⟩
    have e2 : x % 2 ^ (a + 1) / 2 = (x / 2) % 2 ^ a := by rw [Nat.pow_succ, Nat.mul_comm, Nat.mod_mul_right_div_self]
    rw [e1, e2, ih]

theorem popN_byte (x : Nat) : popN 8 (x % 256) = popN 8 x := popN_mod 8 x

theorem onesCount64 (x x1 x2 x3 x4 x5 x6 : Nat) (h1 : x1 = ((x / 2) &&& 6148914691236517205) + (x &&& 6148914691236517205))
    (h2 : x2 = ((x1 / 4) &&& 3689348814741910323) + (x1 &&& 3689348814741910323)) (h3 : x3 = (x2 / 16 + x2) &&& 1085102592571150095)
    (h4 : x4 = x3 + x3 / 256) (h5 : x5 = x4 + x4 / 65536) (h6 : x6 = x5 + x5 / 4294967296) :
    x6 % 128 = popN 64 x ∧ x1 ≤ 12297829382473034410 ∧ x2 / 16 + x2 < 18446744073709551616 ∧ x4 < 18446744073709551616 ∧ x5 < 18446744073709551616 ∧ x6 < 18446744073709551616 := by
  have r1 := swar1 8 x
  have r2 := swar2 8 x
  have r3 := swar3 8 x
  rw [show rep8 85 8 = 6148914691236517205 from by decide] at r1
  rw [← r1, show rep8 51 8 = 3689348814741910323 from by decide] at r2
  rw [← h1, ← h2] at r2
  rw [← r2, show rep8 15 8 = 1085102592571150095 from by decide, ← h3] at r3
  have lb1 : x1 ≤ 12297829382473034410 := by
    have := Nat.and_le_right (n := x / 2) (m := 6148914691236517205)
    have := Nat.and_le_right (n := x) (m := 6148914691236517205)
    omega
  have lb2 : x2 / 16 + x2 < 18446744073709551616 := by
    have := Nat.and_le_right (n := x1 / 4) (m := 3689348814741910323)
    have := Nat.and_le_right (n := x1) (m := 3689348814741910323)
    omega
  have hp : popN 64 x = popN 8 x + (popN 8 (x / 256) + (popN 8 (x / 256 / 256) + (popN 8 (x / 256 / 256 / 256) + (popN 8 (x / 256 / 256 / 256 / 256) + (popN 8 (x / 256 / 256 / 256 / 256 / 256) + (popN 8 (x / 256 / 256 / 256 / 256 / 256 / 256) + popN 8 (x / 256 / 256 / 256 / 256 / 256 / 256 / 256))))))) := by
    rw [show (64 : Nat) = 8 + 56 from rfl, popN_split, show (56 : Nat) = 8 + 48 from rfl, popN_split, show (48 : Nat) = 8 + 40 from rfl, popN_split, show (40 : Nat) = 8 + 32 from rfl, popN_split, show (32 : Nat) = 8 + 24 from rfl, popN_split, show (24 : Nat) = 8 + 16 from rfl, popN_split, show (16 : Nat) = 8 + 8 from rfl, popN_split]
  have hb : ∀ y, g3 (y % 256) = popN 8 y ∧ popN 8 y ≤ 8 := fun y => by
    have := g3_pop ⟨y % 256, by omega⟩
    dsimp only at this
    rwa [popN_byte] at this
  rw [hp]
  simp only [by8, (hb _).1] at r3
  have b0 := (hb x).2
  have b1 := (hb (x / 256)).2
  have b2 := (hb (x / 256 / 256)).2
  have b3 := (hb (x / 256 / 256 / 256)).2
  have b4 := (hb (x / 256 / 256 / 256 / 256)).2
  have b5 := (hb (x / 256 / 256 / 256 / 256 / 256)).2
  have b6 := (hb (x / 256 / 256 / 256 / 256 / 256 / 256)).2
  have b7 := (hb (x / 256 / 256 / 256 / 256 / 256 / 256 / 256)).2
  generalize popN 8 x = p0 at *
  generalize popN 8 (x / 256) = p1 at *
  generalize popN 8 (x / 256 / 256) = p2 at *
  generalize popN 8 (x / 256 / 256 / 256) = p3 at *
  generalize popN 8 (x / 256 / 256 / 256 / 256) = p4 at *
  generalize popN 8 (x / 256 / 256 / 256 / 256 / 256) = p5 at *
  generalize popN 8 (x / 256 / 256 / 256 / 256 / 256 / 256) = p6 at *
  generalize popN 8 (x / 256 / 256 / 256 / 256 / 256 / 256 / 256) = p7 at *
  clear r1 r2 h1 h2 h3 hp hb
  have s4 : x4 = (p0 + p1) + 256 * (p1 + p2) + 65536 * ((p2 + p3) + 256 * (p3 + p4) + 65536 * ((p4 + p5) + 256 * (p5 + p6) + 65536 * ((p6 + p7) + 256 * p7))) := by omega
  clear r3 h4
  have s5 : x4 / 65536 = (p2 + p3) + 256 * (p3 + p4) + 65536 * ((p4 + p5) + 256 * (p5 + p6) + 65536 * ((p6 + p7) + 256 * p7)) := by omega
  have t5 : x5 = (p0 + p1 + p2 + p3) + 256 * (p1 + p2 + p3 + p4) + 65536 * (p2 + p3 + p4 + p5) + 16777216 * (p3 + p4 + p5 + p6) + 4294967296 * ((p4 + p5 + p6 + p7) + 256 * (p5 + p6 + p7) + 65536 * ((p6 + p7) + 256 * p7)) := by omega
  have s6 : x5 / 4294967296 = (p4 + p5 + p6 + p7) + 256 * (p5 + p6 + p7) + 65536 * ((p6 + p7) + 256 * p7) := by omega
  clear h5 s5
  have u4 : x4 < 18446744073709551616 := by omega
  clear s4
  have u5 : x5 < 18446744073709551616 := by omega
  rw [s6, t5] at h6
  clear t5 s6
  exact ⟨by omega, lb1, lb2, u4, u5, by omega⟩

end Wf
namespace Wf

/-- How many bytes a class has. -/
def cntC (c : Cls) : Nat := popN 64 c.1 + popN 64 c.2.1 + popN 64 c.2.2.1 + popN 64 c.2.2.2

theorem popN_le (f : Nat) : ∀ x, popN f x ≤ f := by
  induction f with
  | zero => intro x; simp [popN]
  | succ f ih => intro x; simp only [popN]; have := ih (x / 2); omega

theorem cntC_le (c : Cls) : cntC c ≤ 256 := by
  have h0 := popN_le 64 c.1
  have h1 := popN_le 64 c.2.1
  have h2 := popN_le 64 c.2.2.1
  have h3 := popN_le 64 c.2.2.2
  unfold cntC
  omega

theorem popN_bits (f : Nat) : ∀ x, popN f x = (List.range f).countP (fun i => x.testBit i) := by
  induction f with
  | zero => intro x; simp [popN]
  | succ f ih =>
    intro x
    rw [List.range_succ_eq_map, List.countP_cons, List.countP_map]
    simp only [popN, ih]
    have : (List.range f).countP (fun i => (x / 2).testBit i) = (List.range f).countP ((fun i => x.testBit i) ∘ Nat.succ) := by
      apply List.countP_congr
      intro i _
      simp [Nat.testBit_succ]
    rw [this, Nat.testBit_zero]
    by_cases h : x % 2 = 1
    · simp [h]; omega
    · simp [h]; omega

theorem cnt_has (c : Cls) : cntC c = (List.range 256).countP (fun x => has c x) := by
  have e : List.range 256 = List.range 64 ++ (List.range 64).map (64 + ·) ++ (List.range 64).map (128 + ·) ++ (List.range 64).map (192 + ·) := by decide +kernel
  have h : ∀ q, q < 4 → (List.range 64).countP ((fun x => has c x) ∘ (64 * q + ·)) = popN 64 (word c q) := by
    intro q _
    rw [popN_bits]
    apply List.countP_congr
    intro i hi
    rw [List.mem_range] at hi
    simp only [Function.comp, has]
    rw [show (64 * q + i) / 64 = q by omega, show (64 * q + i) % 64 = i by omega]
  have h0 := h 0 (by omega)
  have h1 := h 1 (by omega)
  have h2 := h 2 (by omega)
  have h3 := h 3 (by omega)
  rw [e, List.countP_append, List.countP_append, List.countP_append, List.countP_map, List.countP_map, List.countP_map]
  simp only [Nat.mul_zero, Nat.mul_one, Nat.reduceMul] at h0 h1 h2 h3
  rw [h1, h2, h3]
  have h0' : (List.range 64).countP (fun x => has c x) = popN 64 (word c 0) := by
    rw [← h0]; apply List.countP_congr; intro i _; simp [Function.comp]
  rw [h0']
  rfl

theorem cnt_one {c : Cls} (h : cntC c = 1) : ∃ b, b < 256 ∧ ∀ x, x < 256 → (has c x = true ↔ x = b) := by
  rw [cnt_has, List.countP_eq_length_filter] at h
  obtain ⟨b, hb⟩ := List.length_eq_one_iff.1 h
  have hm : ∀ x, x < 256 → (has c x = true ↔ x = b) := by
    intro x hx
    have : x ∈ (List.range 256).filter (fun x => has c x) ↔ x ∈ [b] := by rw [hb]
    rw [List.mem_filter, List.mem_range] at this
    simpa [hx] using this
  have : b ∈ (List.range 256).filter (fun x => has c x) := by rw [hb]; simp
  rw [List.mem_filter, List.mem_range] at this
  exact ⟨b, this.1, hm⟩

theorem one_cnt {c : Cls} {b : Nat} (hb : b < 256) (h : ∀ x, x < 256 → (has c x = true ↔ x = b)) : cntC c = 1 := by
  rw [cnt_has]
  have e : (List.range 256).countP (fun x => has c x) = (List.range 256).count b := by
    unfold List.count
    apply List.countP_congr
    intro x hx
    rw [List.mem_range] at hx
    simpa using h x hx
  rw [e, List.nodup_range.count, if_pos (List.mem_range.2 hb)]

/-! Both, either, not. -/
def bothC (a b : Cls) : Cls := (a.1 &&& b.1, a.2.1 &&& b.2.1, a.2.2.1 &&& b.2.2.1, a.2.2.2 &&& b.2.2.2)
def eitherC (a b : Cls) : Cls := (a.1 ||| b.1, a.2.1 ||| b.2.1, a.2.2.1 ||| b.2.2.1, a.2.2.2 ||| b.2.2.2)
def notC (a : Cls) : Cls := (18446744073709551615 - a.1, 18446744073709551615 - a.2.1, 18446744073709551615 - a.2.2.1, 18446744073709551615 - a.2.2.2)

theorem okC_both {a b : Cls} (ha : okC a) : okC (bothC a b) := by
  obtain ⟨h0, h1, h2, h3⟩ := ha
  unfold bothC
  refine ⟨?_, ?_, ?_, ?_⟩ <;> dsimp only
  · have := Nat.and_le_left (n := a.1) (m := b.1); omega
  · have := Nat.and_le_left (n := a.2.1) (m := b.2.1); omega
  · have := Nat.and_le_left (n := a.2.2.1) (m := b.2.2.1); omega
  · have := Nat.and_le_left (n := a.2.2.2) (m := b.2.2.2); omega
theorem okC_either {a b : Cls} (ha : okC a) (hb : okC b) : okC (eitherC a b) := by
  obtain ⟨h0, h1, h2, h3⟩ := ha
  obtain ⟨k0, k1, k2, k3⟩ := hb
  exact ⟨or_lt64 h0 k0, or_lt64 h1 k1, or_lt64 h2 k2, or_lt64 h3 k3⟩
theorem okC_not (a : Cls) : okC (notC a) := by
  unfold notC
  refine ⟨?_, ?_, ?_, ?_⟩ <;> dsimp only <;> omega

theorem word_both (a b : Cls) (q : Nat) : word (bothC a b) q = word a q &&& word b q := by unfold word bothC; dsimp only; split <;> (try split) <;> (try split) <;> rfl
theorem word_either (a b : Cls) (q : Nat) : word (eitherC a b) q = word a q ||| word b q := by unfold word eitherC; dsimp only; split <;> (try split) <;> (try split) <;> rfl
theorem word_not (a : Cls) (q : Nat) : word (notC a) q = 18446744073709551615 - word a q := by unfold word notC; dsimp only; split <;> (try split) <;> (try split) <;> rfl

theorem has_both (a b : Cls) (x : Nat) : has (bothC a b) x = (has a x && has b x) := by unfold has; rw [word_both, Nat.testBit_and]
theorem has_either (a b : Cls) (x : Nat) : has (eitherC a b) x = (has a x || has b x) := by unfold has; rw [word_either, Nat.testBit_or]
theorem has_not {a : Cls} (ha : okC a) (x : Nat) : has (notC a) x = !has a x := by
  unfold has
  rw [word_not, show 18446744073709551615 - word a (x / 64) = 2 ^ 64 - (word a (x / 64) + 1) by omega, Nat.testBit_two_pow_sub_succ (word_lt ha _)]
  have : x % 64 < 64 := Nat.mod_lt _ (by omega)
  simp [this]

theorem cnt_and_or (a b : Cls) : cntC (bothC a b) + cntC (eitherC a b) = cntC a + cntC b := by
  have h : ∀ l : List Nat, l.countP (fun x => has (bothC a b) x) + l.countP (fun x => has (eitherC a b) x) = l.countP (fun x => has a x) + l.countP (fun x => has b x) := by
    intro l
    induction l with
    | nil => rfl
    | cons x r ih =>
      simp only [List.countP_cons, has_both, has_either] at ih ⊢
      cases has a x <;> cases has b x <;> simp <;> omega
  simp only [cnt_has]
  exact h _
theorem cnt_not {a : Cls} (ha : okC a) : cntC a + cntC (notC a) = 256 := by
  have h : ∀ l : List Nat, l.countP (fun x => has a x) + l.countP (fun x => has (notC a) x) = l.length := by
    intro l
    induction l with
    | nil => rfl
    | cons x r ih =>
      simp only [List.countP_cons, has_not ha, List.length_cons] at ih ⊢
      cases has a x <;> simp <;> omega
  simp only [cnt_has]
  rw [h, List.length_range]

theorem not_not {a : Cls} (ha : okC a) : notC (notC a) = a := cls_ext (okC_not _) ha fun x _ => by rw [has_not (okC_not _), has_not ha, Bool.not_not]
theorem not_both {a b : Cls} (ha : okC a) (hb : okC b) : notC (bothC a b) = eitherC (notC a) (notC b) := cls_ext (okC_not _) (okC_either (okC_not _) (okC_not _)) fun x _ => by
  rw [has_not (okC_both ha), has_both, has_either, has_not ha, has_not hb, Bool.not_and]

/-! Texts of bytes. -/
def hexD (n : Nat) : UInt8 := if n < 10 then UInt8.ofNat (48 + n) else UInt8.ofNat (87 + n)
def specialL : List UInt8 := [92, 46, 91, 93, 40, 41, 124, 42, 43, 63, 94, 36, 45]
def byteT (b : Nat) : List UInt8 :=
  if b < 32 ∨ 126 < b then [92, 120, hexD (b / 16), hexD (b % 16)]
  else if UInt8.ofNat b ∈ specialL then [92, UInt8.ofNat b] else [UInt8.ofNat b]

def unhex (c : UInt8) : Nat := if c.toNat < 58 then c.toNat - 48 else c.toNat - 87
/-- The first byte told by a text, and what is behind it. -/
def dec1 : List UInt8 → Option (Nat × List UInt8)
  | [] => none
  | a :: r => if a = 92 then
      match r with
      | [] => none
      | c :: r => if c = 120 then
          match r with
          | h :: l :: r => some (unhex h * 16 + unhex l, r)
          | _ => none
        else some (c.toNat, r)
    else some (a.toNat, r)

theorem dec1_app {l s : List UInt8} {b : Nat} (h : dec1 l = some (b, s)) (r : List UInt8) : dec1 (l ++ r) = some (b, s ++ r) := by
  match l with
  | [] => simp [dec1] at h
  | a :: t =>
    by_cases ha : a = 92
    · subst ha
      match t with
      | [] => simp [dec1] at h
      | c :: t =>
        by_cases hc : c = 120
        · subst hc
          match t with
          | [] => simp [dec1] at h
          | [x] => simp [dec1] at h
          | x :: y :: t => simp [dec1] at h ⊢; simp [h]
        · simp [dec1, hc] at h ⊢; simp [h]
    · simp [dec1, ha] at h ⊢; simp [h]

theorem dec1_byte (b : Nat) (hb : b < 256) (r : List UInt8) : dec1 (byteT b ++ r) = some (b, r) := by
  have h : ∀ b : Fin 256, dec1 (byteT b.val) = some (b.val, []) := by decide +kernel
  have := dec1_app (h ⟨b, hb⟩) r
  simpa using this

theorem byteT_head (b : Nat) (hb : b < 256) : ∃ x t, byteT b = x :: t ∧ x ≠ 45 ∧ x ≠ 93 ∧ x ≠ 46 ∧ x ≠ 91 := by
  have h : ∀ b : Fin 256, ∃ x t, byteT b.val = x :: t ∧ x ≠ 45 ∧ x ≠ 93 ∧ x ≠ 46 ∧ x ≠ 91 := by
    have h : ∀ b : Fin 256, (match byteT b.val with | [] => false | x :: _ => decide (x ≠ 45 ∧ x ≠ 93 ∧ x ≠ 46 ∧ x ≠ 91)) = true := by decide +kernel
    intro b
    have := h b
    split at this
    · cases this
    · rename_i x t e; exact ⟨x, t, e, of_decide_eq_true this⟩
  exact h ⟨b, hb⟩

theorem byteT_pre {a b : Nat} (ha : a < 256) (hb : b < 256) {r r' : List UInt8} (h : byteT a ++ r = byteT b ++ r') : a = b ∧ r = r' := by
  have h1 := dec1_byte a ha r
  rw [h, dec1_byte b hb r'] at h1
  simp at h1
  exact ⟨h1.1.symm, h1.2.symm⟩

theorem byteT_len (b : Nat) : (byteT b).length ≤ 4 ∧ 1 ≤ (byteT b).length := by
  unfold byteT
  split
  · simp
  · split <;> simp

/-! Runs of a class. -/
/-- The end of the run in which a byte stands. -/
def top (c : Cls) (b : Nat) : Nat := if h : b < 255 ∧ has c (b + 1) = true then top c (b + 1) else b
termination_by 255 - b
decreasing_by omega

theorem le_top (c : Cls) (b : Nat) : b ≤ top c b := by
  unfold top
  split
  · have := le_top c (b + 1); omega
  · omega
termination_by 255 - b
decreasing_by omega
theorem top_lt (c : Cls) (b : Nat) (h : b < 256) : top c b < 256 := by
  unfold top
  split
  · exact top_lt c (b + 1) (by omega)
  · exact h
termination_by 255 - b
decreasing_by omega
theorem top_yes {c : Cls} {b : Nat} (h1 : b < 255) (h2 : has c (b + 1) = true) : top c b = top c (b + 1) := by
  conv => lhs; unfold top
  rw [dif_pos ⟨h1, h2⟩]
theorem top_no {c : Cls} {b : Nat} (h : ¬(b < 255 ∧ has c (b + 1) = true)) : top c b = b := by
  unfold top
  rw [dif_neg h]
theorem has_top {c : Cls} {b x : Nat} (hb : has c b = true) (h1 : b ≤ x) (h2 : x ≤ top c b) : has c x = true := by
  by_cases h : b < 255 ∧ has c (b + 1) = true
  · rw [top_yes h.1 h.2] at h2
    by_cases e : x = b
    · rw [e]; exact hb
    · exact has_top h.2 (by omega) h2
  · rw [top_no h] at h2
    have : x = b := by omega
    rw [this]; exact hb
termination_by 255 - b
decreasing_by omega
theorem top_next {c : Cls} {b : Nat} (h : top c b < 255) : has c (top c b + 1) = false := by
  by_cases h' : b < 255 ∧ has c (b + 1) = true
  · rw [top_yes h'.1 h'.2] at h ⊢
    exact top_next h
  · rw [top_no h'] at h ⊢
    simpa [h] using h'
termination_by 255 - b
decreasing_by omega

/-- A run as it is told: as items from a byte to a byte. -/
def runI (lo hi : Nat) : List (Nat × Nat) := if hi = lo then [(lo, lo)] else if hi = lo + 1 then [(lo, lo), (hi, hi)] else [(lo, hi)]
def items (c : Cls) (b : Nat) : List (Nat × Nat) := if h : b < 256 then (if has c b then runI b (top c b) ++ items c (top c b + 1) else items c (b + 1)) else []
termination_by 256 - b
decreasing_by
  · have := le_top c b; omega
  · omega
def itemT (p : Nat × Nat) : List UInt8 := if p.1 = p.2 then byteT p.1 else byteT p.1 ++ [45] ++ byteT p.2
def spT (lo hi : Nat) : List UInt8 := if hi - lo = 0 then byteT lo else if hi - lo = 1 then byteT lo ++ byteT hi else byteT lo ++ [45] ++ byteT hi

theorem spT_items (lo hi : Nat) (h : lo ≤ hi) : (runI lo hi).flatMap itemT = spT lo hi := by
  unfold runI spT
  split
  · rename_i e; subst e; simp [itemT]
  · split
    · rename_i e; subst e; simp [itemT]
    · rw [if_neg (by omega), if_neg (by omega)]
      have : lo ≠ hi := by omega
      simp [itemT, this]

def runsT (c : Cls) (b : Nat) : List UInt8 := (items c b).flatMap itemT
theorem runsT_yes {c : Cls} {b : Nat} (hb : b < 256) (h : has c b = true) : runsT c b = spT b (top c b) ++ runsT c (top c b + 1) := by
  unfold runsT
  conv => lhs; unfold items
  rw [dif_pos hb, if_pos h, List.flatMap_append, spT_items _ _ (le_top c b)]
theorem runsT_no {c : Cls} {b : Nat} (hb : b < 256) (h : has c b = false) : runsT c b = runsT c (b + 1) := by
  unfold runsT
  conv => lhs; unfold items
  rw [dif_pos hb, if_neg (by simp [h])]
theorem runsT_end {c : Cls} {b : Nat} (hb : 256 ≤ b) : runsT c b = [] := by
  unfold runsT items
  rw [dif_neg (by omega)]
  rfl

def okI (l : List (Nat × Nat)) : Prop := ∀ p ∈ l, p.1 ≤ p.2 ∧ p.2 < 256
theorem mem_runI {lo hi : Nat} (h : lo ≤ hi) (h2 : hi < 256) : okI (runI lo hi) ∧ ∀ x, (∃ p ∈ runI lo hi, p.1 ≤ x ∧ x ≤ p.2) ↔ lo ≤ x ∧ x ≤ hi := by
  unfold runI okI
  split
  · rename_i e; subst e; simp; omega
  · split
    · rename_i e; subst e; simp; exact ⟨by omega, fun x => by omega⟩
    · simp; omega

theorem mem_items (c : Cls) (b : Nat) : okI (items c b) ∧ ∀ x, (∃ p ∈ items c b, p.1 ≤ x ∧ x ≤ p.2) ↔ b ≤ x ∧ x < 256 ∧ has c x = true := by
  unfold items
  by_cases hb : b < 256
  · rw [dif_pos hb]
    by_cases h : has c b = true
    · rw [if_pos h]
      have hl := le_top c b
      have ht := top_lt c b hb
      obtain ⟨h1, h2⟩ := mem_items c (top c b + 1)
      obtain ⟨k1, k2⟩ := mem_runI hl ht
      refine ⟨fun p hp => ?_, fun x => ?_⟩
      · rw [List.mem_append] at hp
        exact hp.elim (k1 p) (h1 p)
      · have e : (∃ p ∈ runI b (top c b) ++ items c (top c b + 1), p.1 ≤ x ∧ x ≤ p.2) ↔ (∃ p ∈ runI b (top c b), p.1 ≤ x ∧ x ≤ p.2) ∨ (∃ p ∈ items c (top c b + 1), p.1 ≤ x ∧ x ≤ p.2) := by
          simp only [List.mem_append]
          constructor
          · rintro ⟨p, hp | hp, hx⟩
            · exact .inl ⟨p, hp, hx⟩
            · exact .inr ⟨p, hp, hx⟩
          · rintro (⟨p, hp, hx⟩ | ⟨p, hp, hx⟩)
            · exact ⟨p, .inl hp, hx⟩
            · exact ⟨p, .inr hp, hx⟩
        rw [e, k2, h2]
        constructor
        · rintro (⟨p1, p2⟩ | ⟨p1, p2, p3⟩)
          · exact ⟨p1, by omega, has_top h p1 p2⟩
          · exact ⟨by omega, p2, p3⟩
        · rintro ⟨p1, p2, p3⟩
          by_cases hx : x ≤ top c b
          · exact .inl ⟨p1, hx⟩
          · exact .inr ⟨by omega, p2, p3⟩
    · rw [if_neg h]
      obtain ⟨h1, h2⟩ := mem_items c (b + 1)
      refine ⟨h1, fun x => ?_⟩
      rw [h2]
      constructor
      · rintro ⟨p1, p2, p3⟩; exact ⟨by omega, p2, p3⟩
      · rintro ⟨p1, p2, p3⟩
        by_cases e : x = b
        · rw [e] at p3; exact absurd p3 h
        · exact ⟨by omega, p2, p3⟩
  · rw [dif_neg hb]
    refine ⟨fun p hp => (by cases hp), fun x => ⟨?_, ?_⟩⟩
    · rintro ⟨p, hp, _⟩; cases hp
    · rintro ⟨p1, p2, _⟩; omega
termination_by 256 - b
decreasing_by
  · have := le_top c b; omega
  · omega

theorem items_inj : ∀ (l m : List (Nat × Nat)), okI l → okI m → ∀ r r' : List UInt8, l.flatMap itemT ++ 93 :: r = m.flatMap itemT ++ 93 :: r' → l = m := by
  intro l
  induction l with
  | nil =>
    intro m _ hm r r' h
    cases m with
    | nil => rfl
    | cons q m =>
      exfalso
      obtain ⟨x, t, e, _, h93, _⟩ := byteT_head q.1 (by have := hm q (by simp); omega)
      simp only [List.flatMap_cons, List.flatMap_nil, List.nil_append, itemT] at h
      split at h <;> (rw [e] at h; simp at h; exact h93 h.1.symm)
  | cons p l ih =>
    intro m hl hm r r' h
    obtain ⟨hp1, hp2⟩ := hl p (by simp)
    cases m with
    | nil =>
      exfalso
      obtain ⟨x, t, e, _, h93, _⟩ := byteT_head p.1 (by omega)
      simp only [List.flatMap_cons, List.flatMap_nil, List.nil_append, itemT] at h
      split at h <;> (rw [e] at h; simp at h; exact h93 h.1)
    | cons q m =>
      obtain ⟨hq1, hq2⟩ := hm q (by simp)
      have hl' : okI l := fun p hp => hl p (by simp [hp])
      have hm' : okI m := fun p hp => hm p (by simp [hp])
      have nodash : ∀ (m : List (Nat × Nat)) (r : List UInt8), okI m → ∀ t, m.flatMap itemT ++ 93 :: r ≠ 45 :: t := by
        intro m r hm t h
        cases m with
        | nil => simp at h
        | cons q m =>
          obtain ⟨x, t, e, h45, _⟩ := byteT_head q.1 (by have := hm q (by simp); omega)
          simp only [List.flatMap_cons, itemT] at h
          split at h <;> (rw [e] at h; simp at h; exact h45 h.1)
      obtain ⟨p1, p2⟩ := p
      obtain ⟨q1, q2⟩ := q
      simp only at hp1 hp2 hq1 hq2
      simp only [List.flatMap_cons, itemT] at h
      by_cases e1 : p1 = p2 <;> by_cases e2 : q1 = q2
      · simp only [e1, e2, if_true, List.append_assoc] at h
        obtain ⟨e, h⟩ := byteT_pre (by omega) (by omega) h
        rw [ih m hl' hm' r r' h, e1, e2, e]
      · simp only [e1, e2, if_true, if_false, List.append_assoc] at h
        obtain ⟨e, h⟩ := byteT_pre (by omega) (by omega) h
        exact absurd h (nodash l r hl' _)
      · simp only [e1, e2, if_true, if_false, List.append_assoc] at h
        obtain ⟨e, h⟩ := byteT_pre (by omega) (by omega) h
        exact absurd h.symm (nodash m r' hm' _)
      · simp only [e1, e2, if_false, List.append_assoc] at h
        obtain ⟨e, h⟩ := byteT_pre (by omega) (by omega) h
        simp only [List.cons_append, List.nil_append, List.cons.injEq, true_and] at h
        obtain ⟨e', h⟩ := byteT_pre (by omega) (by omega) h
        rw [ih m hl' hm' r r' h, e, e']

/-! The text of a class. -/
/-- The least byte of a class from a byte on; 256: there is none. -/
def least (c : Cls) (b : Nat) : Nat := if h : b < 256 ∧ has c b = false then least c (b + 1) else b
termination_by 256 - b
decreasing_by omega
theorem least_no {c : Cls} {b : Nat} (h1 : b < 256) (h2 : has c b = false) : least c b = least c (b + 1) := by
  conv => lhs; unfold least
  rw [dif_pos ⟨h1, h2⟩]
theorem least_yes {c : Cls} {b : Nat} (h : has c b = true) : least c b = b := by
  unfold least
  rw [dif_neg (by simp [h])]
theorem least_of {c : Cls} {b x : Nat} (h1 : x ≤ b) (hb : b < 256) (h : ∀ y, y < 256 → (has c y = true ↔ y = b)) : least c x = b := by
  by_cases e : x = b
  · rw [e]; exact least_yes ((h b hb).2 rfl)
  · have hx : has c x = false := by
      cases hh : has c x with
      | false => rfl
      | true => exact absurd ((h x (by omega)).1 hh) e
    rw [least_no (by omega) hx]
    exact least_of (by omega) hb h
termination_by 256 - x
decreasing_by omega

def dotC : Cls := notC (ofL [10] zc)
instance : DecidableEq Cls := inferInstanceAs (DecidableEq (Nat × Nat × Nat × Nat))
def textC (c : Cls) : List UInt8 := if cntC c = 1 then byteT (least c 0) else if c = dotC then [46] else 91 :: (runsT c 0 ++ [93])

theorem cnt_one_least {c : Cls} (h : cntC c = 1) : least c 0 < 256 ∧ ∀ x, x < 256 → (has c x = true ↔ x = least c 0) := by
  obtain ⟨b, hb, hx⟩ := cnt_one h
  rw [least_of (Nat.zero_le _) hb hx]
  exact ⟨hb, hx⟩

theorem textC_inj {a b : Cls} (ha : okC a) (hb : okC b) (h : textC a = textC b) : a = b := by
  have key : ∀ {a b : Cls}, okC a → okC b → cntC a = 1 → textC a = textC b → a = b := by
    intro a b ha hb h1 h
    obtain ⟨l1, m1⟩ := cnt_one_least h1
    obtain ⟨x, t, e, _, _, h46, h91⟩ := byteT_head _ l1
    unfold textC at h
    rw [if_pos h1] at h
    split at h
    · rename_i h2
      obtain ⟨l2, m2⟩ := cnt_one_least h2
      have he := byteT_pre l1 l2 (r := []) (r' := []) (by simpa using h)
      exact cls_ext ha hb fun x hx => by rw [Bool.eq_iff_iff, m1 x hx, m2 x hx, he.1]
    · split at h
      · rw [e] at h; simp at h; exact absurd h.1 h46
      · rw [e] at h; simp at h; exact absurd h.1 h91
  by_cases h1 : cntC a = 1
  · exact key ha hb h1 h
  · by_cases h2 : cntC b = 1
    · exact (key hb ha h2 h.symm).symm
    · unfold textC at h
      rw [if_neg h1, if_neg h2] at h
      split at h
      · rename_i e1
        split at h
        · rename_i e2; rw [e1, e2]
        · simp at h
      · split at h
        · simp at h
        · simp only [List.cons.injEq, true_and] at h
          have hi := items_inj _ _ (mem_items a 0).1 (mem_items b 0).1 [] [] h
          exact cls_ext ha hb fun x hx => by
            have q1 := (mem_items a 0).2 x
            have q2 := (mem_items b 0).2 x
            rw [hi] at q1
            rw [Bool.eq_iff_iff]
            have : (0 ≤ x ∧ x < 256 ∧ has a x = true) ↔ (0 ≤ x ∧ x < 256 ∧ has b x = true) := q1.symm.trans q2
            simpa [hx] using this

theorem spT_len (lo hi : Nat) : (spT lo hi).length ≤ 9 := by
  have h1 := byteT_len lo
  have h2 := byteT_len hi
  unfold spT
  split
  · omega
  · split <;> simp <;> omega
theorem runsT_len (c : Cls) (b : Nat) : (runsT c b).length ≤ 9 * (256 - b) := by
  by_cases hb : b < 256
  · by_cases h : has c b = true
    · rw [runsT_yes hb h, List.length_append]
      have h1 := le_top c b
      have h2 := top_lt c b hb
      have h3 := spT_len b (top c b)
      have h4 := runsT_len c (top c b + 1)
      omega
    · rw [runsT_no hb (by simpa using h)]
      have h4 := runsT_len c (b + 1)
      omega
  · rw [runsT_end (by omega)]; simp
termination_by 256 - b
decreasing_by
  · have := le_top c b; omega
  · omega

/-! The same, so that it can be reckoned. -/
def topF (c : Cls) : Nat → Nat → Nat
  | 0, b => b
  | n + 1, b => if has c (b + 1) then topF c n (b + 1) else b
theorem topF_eq (c : Cls) (n : Nat) : ∀ b, b + n = 255 → top c b = topF c n b := by
  induction n with
  | zero => intro b h; exact top_no (by omega)
  | succ n ih =>
    intro b h
    simp only [topF]
    by_cases hh : has c (b + 1) = true
    · rw [if_pos hh, top_yes (by omega) hh, ih _ (by omega)]
    · rw [if_neg hh, top_no (fun x => hh x.2)]
def itemsF (c : Cls) : Nat → Nat → List (Nat × Nat)
  | 0, _ => []
  | n + 1, b => if b < 256 then (if has c b then runI b (topF c (255 - b) b) ++ itemsF c n (topF c (255 - b) b + 1) else itemsF c n (b + 1)) else []
theorem itemsF_eq (c : Cls) (n : Nat) : ∀ b, 256 ≤ b + n → items c b = itemsF c n b := by
  induction n with
  | zero => intro b h; unfold items; rw [dif_neg (by omega)]; rfl
  | succ n ih =>
    intro b h
    unfold items
    simp only [itemsF]
    by_cases hb : b < 256
    · rw [dif_pos hb, if_pos hb, ← topF_eq c (255 - b) b (by omega)]
      have := le_top c b
      by_cases hh : has c b = true
      · rw [if_pos hh, if_pos hh, ih _ (by omega)]
      · rw [if_neg hh, if_neg hh, ih _ (by omega)]
    · rw [dif_neg hb, if_neg hb]
theorem textC_eq (c : Cls) (h : cntC c ≠ 1) (hd : c ≠ dotC) : textC c = 91 :: ((itemsF c 256 0).flatMap itemT ++ [93]) := by
  unfold textC runsT
  rw [if_neg h, if_neg hd, itemsF_eq c 256 0 (by omega)]

end Wf
