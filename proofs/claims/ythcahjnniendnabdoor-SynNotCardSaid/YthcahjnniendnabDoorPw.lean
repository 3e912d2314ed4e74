/-
  Plain facts about classes as the document makes them: byte by byte. No program in sight.
-/
import Derived.Test.YthcahjnniendnabDoorPn
namespace Wf

theorem add_or {n k : Nat} (h : n.testBit k = false) : n + 2 ^ k = n ||| 2 ^ k := by
  have hr : n % 2 ^ (k + 1) < 2 ^ k := by
    rw [Nat.testBit_eq_decide_div_mod_eq] at h
    have h' : n / 2 ^ k % 2 = 0 := by
      have := Nat.mod_two_eq_zero_or_one (n / 2 ^ k)
      rcases this with h0 | h1
      · exact h0
      · simp [h1] at h
    rw [Nat.pow_succ, Nat.mod_mul, h', Nat.mul_zero, Nat.add_zero]
    exact Nat.mod_lt _ (Nat.two_pow_pos k)
  have hd := Nat.div_add_mod n (2 ^ (k + 1))
  generalize n / 2 ^ (k + 1) = q at hd
  generalize n % 2 ^ (k + 1) = r at hd hr
  subst hd
  have h1 : 2 ^ k * 1 + r = 2 ^ k * 1 ||| r := Nat.two_pow_add_eq_or_of_lt hr 1
  rw [Nat.mul_one] at h1
  have hr2 : r < 2 ^ (k + 1) := by rw [Nat.pow_succ]; omega
  have hs : 2 ^ k + r < 2 ^ (k + 1) := by rw [Nat.pow_succ]; omega
  rw [Nat.two_pow_add_eq_or_of_lt hr2 q, Nat.or_assoc, Nat.or_comm r, ← h1, ← Nat.two_pow_add_eq_or_of_lt hs q]
  have := Nat.two_pow_add_eq_or_of_lt hr2 q
  omega

theorem with_has {c : Cls} {b : Nat} (hc : okC c) (hb : b < 256) (h : has c b = true) : withB c b = c := by
  refine cls_ext (okC_with hc b) hc fun x hx => ?_
  rw [has_with c b x hb hx]
  by_cases e : x = b
  · subst e; simp [h]
  · simp [e]

/-- The bytes below a number that are so. -/
def selC (P : Nat → Bool) : Nat → Cls
  | 0 => zc
  | k + 1 => if P k then withB (selC P k) k else selC P k
theorem okC_sel (P : Nat → Bool) : ∀ k, okC (selC P k) := by
  intro k
  induction k with
  | zero => exact okC_zc
  | succ k ih =>
    unfold selC
    split
    · exact okC_with ih k
    · exact ih
theorem has_sel (P : Nat → Bool) : ∀ k, k ≤ 256 → ∀ x, x < 256 → has (selC P k) x = (decide (x < k) && P x) := by
  intro k
  induction k with
  | zero => intro _ x _; simp [selC, has_zc]
  | succ k ih =>
    intro hk x hx
    unfold selC
    split
    · rename_i h
      rw [has_with _ k x (by omega) hx, ih (by omega) x hx]
      by_cases e : x = k
      · subst e; simp [h]
      · have : decide (x < k + 1) = decide (x < k) := by congr 1; simp; omega
        simp [e, this]
    · rename_i h
      rw [ih (by omega) x hx]
      by_cases e : x = k
      · subst e; simp [h]
      · have : decide (x < k + 1) = decide (x < k) := by congr 1; simp; omega
        simp [this]
theorem sel_not {c : Cls} (hc : okC c) : selC (fun x => !has c x) 256 = notC c :=
  cls_ext (okC_sel _ _) (okC_not c) fun x hx => by rw [has_sel _ 256 (by omega) x hx, has_not hc]; simp [hx]
theorem sel_both {a b : Cls} (ha : okC a) : selC (fun x => has a x && has b x) 256 = bothC a b :=
  cls_ext (okC_sel _ _) (okC_both ha) fun x hx => by rw [has_sel _ 256 (by omega) x hx, has_both]; simp [hx]
theorem sel_either {a b : Cls} (ha : okC a) (hb : okC b) : selC (fun x => has a x || has b x) 256 = eitherC a b :=
  cls_ext (okC_sel _ _) (okC_either ha hb) fun x hx => by rw [has_sel _ 256 (by omega) x hx, has_either]; simp [hx]

/-- The bytes from one on, so many. -/
def rngC (lo : Nat) : Nat → Cls
  | 0 => zc
  | k + 1 => withB (rngC lo k) (lo + k)
theorem okC_rng (lo : Nat) : ∀ k, okC (rngC lo k) := by
  intro k
  induction k with
  | zero => exact okC_zc
  | succ k ih => exact okC_with ih _

theorem only10 {x : Nat} (hx : x < 256) : has (ofL [10] zc) x = true ↔ x = 10 := by
  rw [has_ofL _ _ x hx, has_zc]
  simp
theorem dot_iff {c : Cls} (hc : okC c) : c = dotC ↔ cntC (notC c) = 1 ∧ has c 10 = false := by
  have h10 : okC (ofL [10] zc) := okC_ofL _ _ okC_zc
  constructor
  · rintro rfl
    unfold dotC
    rw [not_not h10, has_not h10]
    exact ⟨one_cnt (b := 10) (by omega) fun x hx => only10 hx, by rw [(only10 (by omega)).2 rfl]; rfl⟩
  · rintro ⟨h1, h2⟩
    obtain ⟨b, hb, hall⟩ := cnt_one h1
    have e : b = 10 := by
      have := hall 10 (by omega)
      rw [has_not hc, h2] at this
      exact (this.1 rfl).symm
    subst e
    have : notC c = ofL [10] zc := cls_ext (okC_not c) h10 fun x hx => by rw [Bool.eq_iff_iff, hall x hx, only10 hx]
    unfold dotC
    rw [← this, not_not hc]

/-- What stands in brackets, from a byte on, when a run begins there and ends ahead of b. -/
theorem top_step {c : Cls} {lo b : Nat} (h : b = lo ∨ (lo < b ∧ top c lo = top c (b - 1))) (hb : b < 256) (hh : has c b = true) : lo < b + 1 ∧ top c lo = top c (b + 1 - 1) := by
  rw [Nat.add_sub_cancel]
  rcases h with rfl | ⟨h1, h2⟩
  · exact ⟨by omega, rfl⟩
  · refine ⟨by omega, ?_⟩
    rw [h2, top_yes (by omega) (by rw [show b - 1 + 1 = b by omega]; exact hh), show b - 1 + 1 = b by omega]
theorem top_end {c : Cls} {lo b : Nat} (hlo : has c lo = true) (hl : lo < 256) (h : b = lo ∨ (lo < b ∧ top c lo = top c (b - 1))) (he : b = 256 ∨ has c b = false) : lo < b ∧ top c lo = b - 1 := by
  rcases h with rfl | ⟨h1, h2⟩
  · rcases he with rfl | he
    · omega
    · rw [hlo] at he; cases he
  · refine ⟨h1, ?_⟩
    rw [h2, top_no]
    rintro ⟨q1, q2⟩
    rw [show b - 1 + 1 = b by omega] at q2
    rcases he with rfl | he
    · omega
    · rw [q2] at he; cases he

end Wf
