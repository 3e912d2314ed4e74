/-
  Plain: what the document's reader comes to, row by row.
-/
import Derived.Test.YthcahjnniendnacGreatDoorPrd
namespace Wf

/-- Rows joined by an operation, from the right. -/
def joinN (op : Int) (e : List Nd) : List (List Nd) → List Nd
  | [] => e
  | [x] => x
  | x :: y :: r => ⟨op, zc⟩ :: (x ++ joinN op e (y :: r))
/-- How long rows are, with one more for each. -/
def sumN : List (List Nd) → Nat
  | [] => 0
  | x :: r => x.length + 1 + sumN r

theorem sumN_app (a b : List (List Nd)) : sumN (a ++ b) = sumN a + sumN b := by
  induction a with
  | nil => simp [sumN]
  | cons x r ih => simp [sumN, ih]; omega
theorem sumN_drop (l : List (List Nd)) (k : Nat) : sumN (l.drop k) ≤ sumN l := by
  induction l generalizing k with
  | nil => simp [sumN]
  | cons x r ih =>
    cases k with
    | zero => exact Nat.le_refl _
    | succ k => have := ih k; simp only [List.drop_succ_cons, sumN]; omega
theorem sumN_len (l : List (List Nd)) : l.length ≤ sumN l := by
  induction l with
  | nil => simp
  | cons x r ih => simp only [List.length_cons, sumN]; omega
theorem sumN_get (l : List (List Nd)) : ∀ (k : Nat) (x : List Nd), l[k]? = some x → x.length + 1 ≤ sumN l := by
  induction l with
  | nil => intro k x h; simp at h
  | cons y r ih =>
    intro k x h
    cases k with
    | zero => simp at h; subst h; simp only [sumN]; omega
    | succ k => have := ih k x (by simpa using h); simp only [sumN]; omega
theorem joinN_len (op : Int) (e : List Nd) : ∀ l : List (List Nd), (joinN op e l).length ≤ e.length + sumN l
  | [] => by simp [joinN]
  | [x] => by simp [joinN, sumN]; omega
  | x :: y :: r => by
    have := joinN_len op e (y :: r)
    simp only [joinN, sumN, List.length_cons, List.length_append] at this ⊢
    omega
theorem joinN_le (op : Int) (e : List Nd) : ∀ l : List (List Nd), l ≠ [] → (joinN op e l).length + 1 ≤ sumN l
  | [], h => absurd rfl h
  | [x], _ => by simp [joinN, sumN]
  | x :: y :: r, _ => by
    have := joinN_le op e (y :: r) (by simp)
    simp only [joinN, sumN, List.length_cons, List.length_append] at this ⊢
    omega
theorem joinN_pos (op : Int) (e : List Nd) (l : List (List Nd)) (h : ∀ x ∈ l, 0 < x.length) (he : l = [] → 0 < e.length) : 0 < (joinN op e l).length := by
  cases l with
  | nil => exact he rfl
  | cons x r =>
    cases r with
    | nil => exact h x (by simp)
    | cons y r => simp only [joinN, List.length_cons]; omega
theorem joinN_last (op : Int) (e : List Nd) {l : List (List Nd)} {k : Nat} {x : List Nd} (h : l[k]? = some x) (hk : k + 1 = l.length) : joinN op e (l.drop k) = x := by
  obtain ⟨hlt, hx⟩ := List.getElem?_eq_some_iff.1 h
  rw [List.drop_eq_getElem_cons hlt, hx, hk, List.drop_length]
  rfl
theorem joinN_step (op : Int) (e : List Nd) {l : List (List Nd)} {k : Nat} {x : List Nd} (h : l[k]? = some x) (hk : k + 1 < l.length) : joinN op e (l.drop k) = ⟨op, zc⟩ :: (x ++ joinN op e (l.drop (k + 1))) := by
  obtain ⟨hlt, hx⟩ := List.getElem?_eq_some_iff.1 h
  rw [List.drop_eq_getElem_cons hlt, hx, List.drop_eq_getElem_cons hk]
  rfl
theorem joinN_cat : ∀ ts : List Rx, joinN 3 [⟨2, zc⟩] (ts.map flat) = flat (catLs ts)
  | [] => rfl
  | [t] => rfl
  | t :: u :: r => by
    have := joinN_cat (u :: r)
    simp only [List.map_cons] at this ⊢
    rw [joinN, this]
    rfl
theorem joinN_alt : ∀ ts : List Rx, ts ≠ [] → joinN 4 [] (ts.map flat) = flat (altLs ts)
  | [], h => absurd rfl h
  | [t], _ => rfl
  | t :: u :: r, _ => by
    have := joinN_alt (u :: r) (by simp)
    simp only [List.map_cons] at this ⊢
    rw [joinN, this]
    rfl

/-- Where atoms are being read: so far so good, up to place j; or one of them was none. -/
def AtomsIn (s : List UInt8) (i j : Nat) (bad : Option Nat) (rows : List (List Nd)) : Prop :=
  (∀ x ∈ rows, 0 < x.length) ∧ i ≤ s.length ∧ match bad with
  | none => ∃ ts, rows = ts.map flat ∧ atomsS s i = (atomsS s j).pre ts ∧ i ≤ j ∧ j ≤ s.length ∧ sumN rows + 2 * i ≤ 2 * j
  | some k => atomsS s i = .bad k ∧ rows ≠ [] ∧ sumN rows + 2 * i ≤ 2 * s.length + 1 ∧ j + i ≤ 2 * s.length + 3
/-- What comes of an atom with its signs. -/
def atomR (s : List UInt8) (i : Nat) : PR Rx := match atomS s i with
  | .bad k => .bad k
  | .ok t j => .ok (signsS s j t).1 (signsS s j t).2
/-- An atom, a row, a side as the document's reader hands it back. -/
def OutIs (r : PR Rx) (s : List UInt8) (i m : Nat) (j : Nat) (bad : Option Nat) (l : List Nd) : Prop :=
  0 < l.length ∧ match bad with
  | none => ∃ t, r = .ok t j ∧ l = flat t ∧ i ≤ j ∧ j ≤ s.length ∧ l.length + 2 * i ≤ 2 * j + m
  | some k => r = .bad k ∧ l.length + 2 * i ≤ 2 * s.length + m ∧ j + i ≤ 2 * s.length + 3

theorem AtomsIn.start {s : List UInt8} {i : Nat} (h : i ≤ s.length) : AtomsIn s i i none [] :=
  ⟨by simp, h, [], rfl, (PR.pre_nil _).symm, Nat.le_refl _, h, by simp [sumN]⟩
theorem atomR_ok {s : List UInt8} {i j : Nat} {t : Rx} (hi : i ≤ s.length) (h : atomR s i = .ok t j) : i < j ∧ j ≤ s.length ∧ okT t ∧ (flat t).length + 1 + 2 * i ≤ 2 * j := by
  unfold atomR at h
  cases hA : atomS s i with
  | bad k => rw [hA] at h; cases h
  | ok u k =>
    rw [hA] at h
    cases h
    obtain ⟨g1, g2, g3, g4⟩ := (read_ok _ i (Nat.le_refl _) hi).1 _ _ hA
    obtain ⟨k1, k2, k3, k4, _⟩ := signsS_ok _ k u (Nat.le_refl _) g2 g3
    exact ⟨by omega, k2, k3, by omega⟩
theorem AtomsIn.more {s : List UInt8} {i j j' : Nat} {rows : List (List Nd)} {bad : Option Nat} {l : List Nd} (h : AtomsIn s i j none rows) (hst : stopS s j = false) (ho : OutIs (atomR s j) s j 0 j' bad l) :
    AtomsIn s i j' bad (rows ++ [l]) := by
  obtain ⟨hp, hi, ts, hr, ha, h1, h2, h3⟩ := h
  obtain ⟨hl, ho⟩ := ho
  have hp2 : ∀ x ∈ rows ++ [l], 0 < x.length := by
    intro x hx
    rcases List.mem_append.1 hx with hx | hx
    · exact hp x hx
    · obtain rfl : x = l := by simpa using hx
      exact hl
  have hs : sumN (rows ++ [l]) = sumN rows + (l.length + 1) := by rw [sumN_app]; simp [sumN]
  cases bad with
  | none =>
    obtain ⟨t, hA, rfl, g1, g2, g3⟩ := ho
    have hok := atomR_ok h2 hA
    refine ⟨hp2, hi, ts ++ [t], by simp [hr], ?_, by omega, g2, by rw [hs]; omega⟩
    unfold atomR at hA
    cases hB : atomS s j with
    | bad k => rw [hB] at hA; cases hA
    | ok u k =>
      rw [hB] at hA
      cases hA
      rw [ha, atomsS_more hst hB, PR.pre_pre]
  | some k =>
    obtain ⟨hA, g1, g2⟩ := ho
    refine ⟨hp2, hi, ?_, by simp, by rw [hs]; omega, by omega⟩
    unfold atomR at hA
    cases hB : atomS s j with
    | bad k' => rw [hB] at hA; cases hA; rw [ha, atomsS_bad hst hB]; rfl
    | ok u k' => rw [hB] at hA; cases hA
/-- A row is read. -/
theorem AtomsIn.row {s : List UInt8} {i j : Nat} {rows : List (List Nd)} {bad : Option Nat} (h : AtomsIn s i j bad rows) (hst : bad = none → stopS s j = true) :
    OutIs (catS s i) s i 1 j bad (joinN 3 [⟨2, zc⟩] rows) := by
  obtain ⟨hp, hi, h⟩ := h
  refine ⟨joinN_pos _ _ _ hp (fun _ => by simp), ?_⟩
  cases bad with
  | none =>
    obtain ⟨ts, hr, ha, h1, h2, h3⟩ := h
    have hc : catS s i = .ok (catLs ts) j := by
      rw [catS_all s i hi, ha, atomsS_stop (hst rfl)]
      simp [PR.pre, PR.to]
    refine ⟨catLs ts, hc, by rw [hr, joinN_cat], h1, h2, ?_⟩
    have := ((read_ok _ i (Nat.le_refl _) hi).2.1 _ _ hc).2.2.2.1
    rw [hr, joinN_cat]
    exact this
  | some k =>
    obtain ⟨ha, hne, h1, h2⟩ := h
    refine ⟨by rw [catS_all s i hi, ha]; rfl, ?_, h2⟩
    have := joinN_le 3 [⟨2, zc⟩] rows hne
    omega

/-- Where sides are being read, ahead of one. -/
def SidesIn (s : List UInt8) (i j : Nat) (rows : List (List Nd)) : Prop :=
  (∀ x ∈ rows, 0 < x.length) ∧ i ≤ s.length ∧ ∃ ts, rows = ts.map flat ∧ sidesS s i = (sidesS s j).pre ts ∧ i ≤ j ∧ j ≤ s.length ∧ sumN rows + 2 * i ≤ 2 * j
/-- Behind the last one. -/
def SidesOut (s : List UInt8) (i j : Nat) (bad : Option Nat) (rows : List (List Nd)) : Prop :=
  (∀ x ∈ rows, 0 < x.length) ∧ i ≤ s.length ∧ rows ≠ [] ∧ match bad with
  | none => ∃ ts, rows = ts.map flat ∧ sidesS s i = .ok ts j ∧ i ≤ j ∧ j ≤ s.length ∧ sumN rows + 2 * i ≤ 2 * j + 2
  | some k => sidesS s i = .bad k ∧ sumN rows + 2 * i ≤ 2 * s.length + 2 ∧ j + i ≤ 2 * s.length + 3
theorem SidesIn.start {s : List UInt8} {i : Nat} (h : i ≤ s.length) : SidesIn s i i [] :=
  ⟨by simp, h, [], rfl, (PR.pre_nil _).symm, Nat.le_refl _, h, by simp [sumN]⟩
theorem pos_snoc {rows : List (List Nd)} {l : List Nd} (hp : ∀ x ∈ rows, 0 < x.length) (hl : 0 < l.length) : ∀ x ∈ rows ++ [l], 0 < x.length := by
  intro x hx
  rcases List.mem_append.1 hx with hx | hx
  · exact hp x hx
  · obtain rfl : x = l := by simpa using hx
    exact hl
theorem SidesIn.more {s : List UInt8} {i j j' : Nat} {rows : List (List Nd)} {l : List Nd} (h : SidesIn s i j rows) (ho : OutIs (catS s j) s j 1 j' none l) (hb : s[j']? = some 124) : SidesIn s i (j' + 1) (rows ++ [l]) := by
  obtain ⟨hp, hi, ts, hr, ha, h1, h2, h3⟩ := h
  obtain ⟨hl, t, hc, rfl, g1, g2, g3⟩ := ho
  have hs : sumN (rows ++ [flat t]) = sumN rows + ((flat t).length + 1) := by rw [sumN_app]; simp [sumN]
  have := getE_lt hb
  exact ⟨pos_snoc hp hl, hi, ts ++ [t], by simp [hr], by rw [ha, sidesS_more h2 hc hb, PR.pre_pre], by omega, by omega, by rw [hs]; omega⟩
theorem SidesIn.last {s : List UInt8} {i j j' : Nat} {rows : List (List Nd)} {bad : Option Nat} {l : List Nd} (h : SidesIn s i j rows) (ho : OutIs (catS s j) s j 1 j' bad l) (hb : bad = none → s[j']? ≠ some 124) : SidesOut s i j' bad (rows ++ [l]) := by
  obtain ⟨hp, hi, ts, hr, ha, h1, h2, h3⟩ := h
  obtain ⟨hl, ho⟩ := ho
  have hs : sumN (rows ++ [l]) = sumN rows + (l.length + 1) := by rw [sumN_app]; simp [sumN]
  refine ⟨pos_snoc hp hl, hi, by simp, ?_⟩
  cases bad with
  | none =>
    obtain ⟨t, hc, rfl, g1, g2, g3⟩ := ho
    exact ⟨ts ++ [t], by simp [hr], by rw [ha, sidesS_one hc (hb rfl)]; rfl, by omega, g2, by rw [hs]; omega⟩
  | some k =>
    obtain ⟨hc, g1, g2⟩ := ho
    exact ⟨by rw [ha, sidesS_bad hc]; rfl, by rw [hs]; omega, by omega⟩
theorem SidesOut.all {s : List UInt8} {i j : Nat} {rows : List (List Nd)} {bad : Option Nat} (h : SidesOut s i j bad rows) : OutIs (orS s i) s i 1 j bad (joinN 4 [] rows) := by
  obtain ⟨hp, hi, hne, h⟩ := h
  refine ⟨joinN_pos _ _ _ hp (fun e => absurd e hne), ?_⟩
  have hle := joinN_le 4 [] rows hne
  cases bad with
  | none =>
    obtain ⟨ts, hr, ha, h1, h2, h3⟩ := h
    have ht : ts ≠ [] := fun e => hne (by rw [hr, e]; rfl)
    exact ⟨altLs ts, by rw [orS_all s i hi, ha]; rfl, by rw [hr, joinN_alt ts ht], h1, h2, by omega⟩
  | some k =>
    obtain ⟨ha, h1, h2⟩ := h
    exact ⟨by rw [orS_all s i hi, ha]; rfl, by omega, h2⟩

/-- A hex digit's number, or -1. -/
def hexI (b : Nat) : Int := match hexV (UInt8.ofNat b) with
  | some a => (a : Int)
  | none => -1
theorem hex_tab : ∀ (b : Fin 256) (i : Fin 16), ((((⟨#[48, 49, 50, 51, 52, 53, 54, 55, 56, 57, 97, 98, 99, 100, 101, 102]⟩ : ByteArray)[i.val]'i.isLt).toNat = b.val) ↔ hexV (UInt8.ofNat b.val) = some i.val) := by decide +kernel
theorem hexI_some {b i : Nat} (hb : b < 256) (hi : i < 16) (h : (((⟨#[48, 49, 50, 51, 52, 53, 54, 55, 56, 57, 97, 98, 99, 100, 101, 102]⟩ : ByteArray)[i]'hi).toNat = b)) : hexI b = (i : Int) := by
  unfold hexI
  rw [(hex_tab ⟨b, hb⟩ ⟨i, hi⟩).1 h]
theorem hexI_none {b : Nat} (hb : b < 256) (h : ∀ i, ∀ hi : i < 16, (((⟨#[48, 49, 50, 51, 52, 53, 54, 55, 56, 57, 97, 98, 99, 100, 101, 102]⟩ : ByteArray)[i]'hi).toNat ≠ b)) : hexI b = -1 := by
  unfold hexI
  cases hx : hexV (UInt8.ofNat b) with
  | none => rfl
  | some a => exact absurd ((hex_tab ⟨b, hb⟩ ⟨a, hexV_lt hx⟩).2 hx) (h a (hexV_lt hx))
end Wf
