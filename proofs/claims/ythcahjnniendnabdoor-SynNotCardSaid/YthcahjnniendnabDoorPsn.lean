/-
  Plain: what is read of a text is read of it in another one, moved.
-/
import Derived.Test.YthcahjnniendnabDoorPz
namespace Wf

/-- From i0 on s stands in s', moved by d; behind it there is nothing, or a bracket that closes. -/
structure Sh (s s' : List UInt8) (d i0 : Nat) : Prop where
  get : ∀ k c, i0 ≤ k → s[k]? = some c → s'[k + d]? = some c
  fin : s'[s.length + d]? = none ∨ s'[s.length + d]? = some 41

section
variable {s s' : List UInt8} {d i0 : Nat}
theorem Sh.iff (h : Sh s s' d i0) {j : Nat} (h0 : i0 ≤ j) (hj : j ≤ s.length) {c : UInt8} (hc : c ≠ 41) : s'[j + d]? = some c ↔ s[j]? = some c := by
  constructor
  · intro e
    rcases Nat.lt_or_ge j s.length with hl | hl
    · have e2 := h.get j _ h0 (List.getElem?_eq_getElem hl)
      rw [e] at e2
      rw [List.getElem?_eq_getElem hl, ← e2]
    · obtain rfl : j = s.length := by omega
      rcases h.fin with f | f <;> rw [f] at e
      · cases e
      · exact absurd (Option.some.inj e).symm hc
  · exact h.get j c h0
theorem Sh.stop (h : Sh s s' d i0) {j : Nat} (h0 : i0 ≤ j) (hj : j ≤ s.length) : stopS s' (j + d) = stopS s j := by
  unfold stopS
  rcases Nat.lt_or_ge j s.length with hl | hl
  · rw [h.get j _ h0 (List.getElem?_eq_getElem hl), List.getElem?_eq_getElem hl]
  · obtain rfl : j = s.length := by omega
    rw [List.getElem?_eq_none (Nat.le_refl _)]
    rcases h.fin with f | f <;> rw [f] <;> rfl
theorem Sh.hex (h : Sh s s' d i0) {i b j : Nat} (h0 : i0 ≤ i) (hr : hexS s i = .ok b j) : hexS s' (i + d) = .ok b (j + d) := by
  unfold hexS at hr
  split at hr
  · cases hr
  · rename_i x e1
    split at hr
    · cases hr
    · rename_i a ea
      split at hr
      · cases hr
      · rename_i y e2
        split at hr
        · cases hr
        · rename_i b' eb
          cases hr
          have g1 := h.get _ _ (by omega) e1
          have g2 := h.get _ _ (by omega) e2
          unfold hexS
          rw [show i + d + 2 = i + 2 + d by omega, g1]
          dsimp only
          rw [ea]
          dsimp only
          rw [show i + d + 3 = i + 3 + d by omega, g2]
          dsimp only
          rw [eb]
          dsimp only
          rw [show i + d + 4 = i + 4 + d by omega]
theorem Sh.one (h : Sh s s' d i0) {i b j : Nat} (h0 : i0 ≤ i) (hr : oneS s i = .ok b j) : oneS s' (i + d) = .ok b (j + d) := by
  unfold oneS at hr
  split at hr
  · cases hr
  · rename_i c e1
    have g1 := h.get _ _ h0 e1
    unfold oneS
    rw [g1]
    dsimp only
    split at hr
    · rename_i hc
      rw [if_pos hc]
      split at hr
      · cases hr
      · rename_i x e2
        have g2 := h.get _ _ (by omega) e2
        rw [show i + d + 1 = i + 1 + d by omega, g2]
        dsimp only
        split at hr
        · rename_i hx
          rw [if_pos hx]
          exact h.hex h0 hr
        · rename_i hx
          rw [if_neg hx]
          split at hr
          · rename_i hm
            rw [if_pos hm]
            cases hr
            rw [show i + d + 2 = i + 2 + d by omega]
          · cases hr
    · rename_i hc
      rw [if_neg hc]
      split at hr
      · cases hr
      · rename_i hx
        rw [if_neg hx]
        cases hr
        rw [show i + d + 1 = i + 1 + d by omega]
theorem Sh.item (h : Sh s s' d i0) {i j : Nat} {p : Nat × Nat} (h0 : i0 ≤ i) (hr : itemS s i = .ok p j) : itemS s' (i + d) = .ok p (j + d) := by
  unfold itemS at hr ⊢
  cases e1 : oneS s i with
  | bad k => rw [e1] at hr; cases hr
  | ok lo j1 =>
    rw [e1] at hr
    obtain ⟨o1, o2, _⟩ := oneS_ok e1
    rw [h.one h0 e1]
    dsimp only at hr ⊢
    by_cases hm : s[j1]? = some 45
    · rw [if_pos hm] at hr
      rw [if_pos ((h.iff (by omega) o2 (by decide)).2 hm)]
      cases e2 : oneS s (j1 + 1) with
      | bad k => rw [e2] at hr; cases hr
      | ok hi j2 =>
        rw [e2] at hr
        rw [show j1 + d + 1 = j1 + 1 + d by omega, h.one (by omega) e2]
        dsimp only at hr ⊢
        by_cases hlt : hi < lo
        · rw [if_pos hlt] at hr; cases hr
        · rw [if_neg hlt] at hr ⊢
          cases hr
          rfl
    · rw [if_neg hm] at hr
      rw [if_neg (fun e => hm ((h.iff (by omega) o2 (by decide)).1 e))]
      cases hr
      rfl
theorem Sh.signs (h : Sh s s' d i0) : ∀ (n j : Nat) (t : Rx), s.length - j ≤ n → j ≤ s.length → i0 ≤ j → signsS s' (j + d) t = ((signsS s j t).1, (signsS s j t).2 + d) := by
  intro n
  induction n with
  | zero =>
    intro j t hn hj h0
    obtain rfl : j = s.length := by omega
    rw [signsS_end (s := s) t (fun c hc => by rw [List.getElem?_eq_none (Nat.le_refl _)] at hc; cases hc)]
    rw [signsS_end (s := s') t (fun c hc => by
      rcases h.fin with f | f <;> rw [f] at hc <;> cases hc
      decide)]
  | succ n ih =>
    intro j t hn hj h0
    by_cases h1 : s[j]? = some 42
    · have hl := getE_lt h1
      rw [signsS_star t h1, signsS_star t ((h.iff h0 hj (by decide)).2 h1), show j + d + 1 = j + 1 + d by omega]
      exact ih (j + 1) _ (by omega) (by omega) (by omega)
    · by_cases h2 : s[j]? = some 43
      · have hl := getE_lt h2
        rw [signsS_plus t h2, signsS_plus t ((h.iff h0 hj (by decide)).2 h2), show j + d + 1 = j + 1 + d by omega]
        exact ih (j + 1) _ (by omega) (by omega) (by omega)
      · by_cases h3 : s[j]? = some 63
        · have hl := getE_lt h3
          rw [signsS_opt t h3, signsS_opt t ((h.iff h0 hj (by decide)).2 h3), show j + d + 1 = j + 1 + d by omega]
          exact ih (j + 1) _ (by omega) (by omega) (by omega)
        · rw [signsS_end (s := s) t (fun c hc => ⟨fun e => h1 (by rw [hc, e]), fun e => h2 (by rw [hc, e]), fun e => h3 (by rw [hc, e])⟩)]
          rw [signsS_end (s := s') t (fun c hc => ⟨fun e => h1 ((h.iff h0 hj (by decide)).1 (by rw [hc, e])), fun e => h2 ((h.iff h0 hj (by decide)).1 (by rw [hc, e])), fun e => h3 ((h.iff h0 hj (by decide)).1 (by rw [hc, e]))⟩)]
theorem Sh.items (h : Sh s s' d i0) : ∀ (n i : Nat) (c c' : Cls) (j : Nat), s.length - i ≤ n → i0 ≤ i → i ≤ s.length → itemsS s i c = .ok c' j → itemsS s' (i + d) c = .ok c' (j + d) := by
  intro n
  induction n with
  | zero =>
    intro i c c' j hn h0 hi hr
    obtain rfl : i = s.length := by omega
    have hno : s[s.length]? = none := List.getElem?_eq_none (Nat.le_refl _)
    have hit : itemS s s.length = .bad s.length := by unfold itemS; rw [oneS]; rw [hno]
    rw [itemsS_bad c (by rw [hno]; simp) hit] at hr
    cases hr
  | succ n ih =>
    intro i c c' j hn h0 hi hr
    by_cases he : s[i]? = some 93
    · rw [itemsS_end c he] at hr
      cases hr
      rw [itemsS_end c ((h.iff h0 hi (by decide)).2 he)]
      rw [show i + d + 1 = i + 1 + d by omega]
    · have he' : s'[i + d]? ≠ some 93 := fun e => he ((h.iff h0 hi (by decide)).1 e)
      cases hit : itemS s i with
      | bad k => rw [itemsS_bad c he hit] at hr; cases hr
      | ok p j1 =>
        obtain ⟨o1, o2, _⟩ := itemS_ok hit
        rw [itemsS_more c he hit] at hr
        rw [itemsS_more c he' (h.item h0 hit)]
        exact ih j1 _ c' j (by omega) (by omega) o2 hr
theorem Sh.bracket (h : Sh s s' d i0) {i j : Nat} {c : Cls} (h0 : i0 ≤ i) (hi : i ≤ s.length) (hr : bracketS s i = .ok c j) : bracketS s' (i + d) = .ok c (j + d) := by
  unfold bracketS at hr ⊢
  by_cases hm : s[i]? = some 94
  · have hl := getE_lt hm
    rw [if_pos hm] at hr
    rw [if_pos ((h.iff h0 hi (by decide)).2 hm)]
    cases e : itemsS s (i + 1) zc with
    | bad k => rw [e] at hr; cases hr
    | ok c1 j1 =>
      rw [e] at hr
      cases hr
      rw [show i + d + 1 = i + 1 + d by omega, h.items _ _ _ _ _ (Nat.le_refl _) (by omega) (by omega) e]
  · rw [if_neg hm] at hr
    rw [if_neg (fun e => hm ((h.iff h0 hi (by decide)).1 e))]
    exact h.items _ _ _ _ _ (Nat.le_refl _) h0 hi hr
theorem atomS_cases (s : List UInt8) (i : Nat) (hi : i < s.length) : atomS s i =
    if s[i]? = some 40 then
      match orS s (i + 1) with
      | .bad k => .bad k
      | .ok t j => if s[j]? = some 41 then .ok t (j + 1) else .bad j
    else if s[i]? = some 91 then
      match bracketS s (i + 1) with
      | .bad k => .bad k
      | .ok c j => .ok (.byte c) j
    else if s[i]? = some 46 then .ok (.byte dotC) (i + 1)
    else if s[i]? = some 94 then .ok .bgn (i + 1)
    else if s[i]? = some 36 then .ok .fin (i + 1)
    else match oneS s i with
      | .bad k => .bad k
      | .ok b j => .ok (.byte (withB zc b)) j := by
  rw [atomS, dif_pos hi, List.getElem?_eq_getElem hi]
  simp only [Option.some.injEq]
  all_goals rfl
theorem Sh.read (h : Sh s s' d i0) : ∀ (n i : Nat), s.length - i ≤ n → i0 ≤ i → i ≤ s.length →
    (∀ t j, atomS s i = .ok t j → atomS s' (i + d) = .ok t (j + d)) ∧
    (∀ t j, catS s i = .ok t j → catS s' (i + d) = .ok t (j + d)) ∧
    (∀ t j, orS s i = .ok t j → orS s' (i + d) = .ok t (j + d)) := by
  intro n
  induction n with
  | zero =>
    intro i hn h0 hi
    obtain rfl : i = s.length := by omega
    have hno : s[s.length]? = none := List.getElem?_eq_none (Nat.le_refl _)
    have hst : stopS s s.length = true := by unfold stopS; rw [hno]
    have hst' : stopS s' (s.length + d) = true := by rw [h.stop h0 hi, hst]
    have hC : catS s s.length = .ok .empty s.length := by rw [catS, if_pos hst]
    have hC' : catS s' (s.length + d) = .ok .empty (s.length + d) := by rw [catS, if_pos hst']
    refine ⟨fun t j hr => ?_, fun t j hr => ?_, fun t j hr => ?_⟩
    · rw [atomS, dif_neg (by omega)] at hr; cases hr
    · rw [hC] at hr; cases hr; exact hC'
    · have hO : orS s s.length = .ok .empty s.length := by rw [orS, hC]; simp
      rw [hO] at hr
      cases hr
      rw [orS, hC']
      dsimp only
      rw [if_neg (by rcases h.fin with f | f <;> rw [f] <;> decide)]
  | succ n ih =>
    intro i hn h0 hi
    have hat : ∀ t j, atomS s i = .ok t j → atomS s' (i + d) = .ok t (j + d) := by
      intro t j hr
      rcases Nat.lt_or_ge i s.length with hl | hl
      · have hl' : i + d < s'.length := getE_lt (h.get i _ h0 (List.getElem?_eq_getElem hl))
        have hf : ∀ c : UInt8, s'[i + d]? = some c ↔ s[i]? = some c := fun c => by
          rw [h.get i _ h0 (List.getElem?_eq_getElem hl), List.getElem?_eq_getElem hl]
        rw [atomS_cases s i hl] at hr
        rw [atomS_cases s' (i + d) hl']
        simp only [hf]
        by_cases h1 : s[i]? = some 40
        · rw [if_pos h1] at hr ⊢
          cases hO : orS s (i + 1) with
          | bad k => rw [hO] at hr; cases hr
          | ok t1 j1 =>
            rw [hO] at hr
            dsimp only at hr
            rw [show i + d + 1 = i + 1 + d by omega, (ih (i + 1) (by omega) (by omega) (by omega)).2.2 _ _ hO]
            dsimp only
            by_cases hj : s[j1]? = some 41
            · rw [if_pos hj] at hr
              cases hr
              have := (read_ok (s := s) _ (i + 1) (Nat.le_refl _) (by omega)).2.2 _ _ hO
              rw [if_pos (h.get _ _ (by omega) hj), show j1 + d + 1 = j1 + 1 + d by omega]
            · rw [if_neg hj] at hr; cases hr
        · rw [if_neg h1] at hr ⊢
          by_cases h2 : s[i]? = some 91
          · rw [if_pos h2] at hr ⊢
            cases hO : bracketS s (i + 1) with
            | bad k => rw [hO] at hr; cases hr
            | ok c1 j1 =>
              rw [hO] at hr
              cases hr
              rw [show i + d + 1 = i + 1 + d by omega, h.bracket (by omega) (by omega) hO]
          · rw [if_neg h2] at hr ⊢
            by_cases h3 : s[i]? = some 46
            · rw [if_pos h3] at hr ⊢; cases hr; rw [show i + d + 1 = i + 1 + d by omega]
            · rw [if_neg h3] at hr ⊢
              by_cases h4 : s[i]? = some 94
              · rw [if_pos h4] at hr ⊢; cases hr; rw [show i + d + 1 = i + 1 + d by omega]
              · rw [if_neg h4] at hr ⊢
                by_cases h5 : s[i]? = some 36
                · rw [if_pos h5] at hr ⊢; cases hr; rw [show i + d + 1 = i + 1 + d by omega]
                · rw [if_neg h5] at hr ⊢
                  cases hO : oneS s i with
                  | bad k => rw [hO] at hr; cases hr
                  | ok b j1 =>
                    rw [hO] at hr
                    cases hr
                    rw [h.one h0 hO]
      · rw [atomS, dif_neg (by omega)] at hr; cases hr
    have hcat : ∀ t j, catS s i = .ok t j → catS s' (i + d) = .ok t (j + d) := by
      intro t j hr
      rw [catS] at hr ⊢
      rw [h.stop h0 hi]
      by_cases hst : stopS s i = true
      · rw [if_pos hst] at hr ⊢; cases hr; rfl
      · rw [if_neg hst] at hr ⊢
        cases hA : atomS s i with
        | bad k => rw [hA] at hr; cases hr
        | ok t1 j1 =>
          rw [hA] at hr
          rw [hat _ _ hA]
          obtain ⟨a1, a2, a3, _⟩ := (read_ok (s := s) _ i (Nat.le_refl _) hi).1 _ _ hA
          obtain ⟨s1, s2, _⟩ := signsS_ok _ j1 t1 (Nat.le_refl _) a2 a3
          dsimp only at hr ⊢
          rw [h.signs _ j1 t1 (Nat.le_refl _) a2 (by omega)]
          dsimp only
          generalize (signsS s j1 t1).1 = tg at *
          generalize (signsS s j1 t1).2 = jg at *
          rw [h.stop (by omega) s2]
          by_cases hs2 : stopS s jg = true
          · rw [if_pos hs2] at hr ⊢; cases hr; rfl
          · rw [if_neg hs2] at hr ⊢
            rw [if_pos (show i < jg ∧ i ≤ s.length from ⟨by omega, hi⟩)] at hr
            have hil : i < s.length := by omega
            have hl' : i + d < s'.length := getE_lt (h.get i _ h0 (List.getElem?_eq_getElem hil))
            rw [if_pos (show i + d < jg + d ∧ i + d ≤ s'.length from ⟨by omega, by omega⟩)]
            cases hC : catS s jg with
            | bad k => rw [hC] at hr; cases hr
            | ok u k =>
              rw [hC] at hr
              cases hr
              rw [(ih jg (by omega) (by omega) s2).2.1 _ _ hC]
    refine ⟨hat, hcat, fun t j hr => ?_⟩
    rw [orS] at hr ⊢
    cases hA : catS s i with
    | bad k => rw [hA] at hr; cases hr
    | ok t1 j1 =>
      rw [hA] at hr
      rw [hcat _ _ hA]
      obtain ⟨a1, a2, _⟩ := (read_ok (s := s) _ i (Nat.le_refl _) hi).2.1 _ _ hA
      dsimp only at hr ⊢
      by_cases hj : s[j1]? = some 124
      · have hl := getE_lt hj
        have g1 := h.get _ _ (by omega) hj
        have hl' := getE_lt g1
        rw [if_pos hj, if_pos (show i ≤ j1 ∧ i ≤ s.length from ⟨a1, hi⟩)] at hr
        rw [if_pos g1, if_pos (show i + d ≤ j1 + d ∧ i + d ≤ s'.length from ⟨by omega, by omega⟩)]
        cases hO : orS s (j1 + 1) with
        | bad k => rw [hO] at hr; cases hr
        | ok u k =>
          rw [hO] at hr
          cases hr
          rw [show j1 + d + 1 = j1 + 1 + d by omega, (ih (j1 + 1) (by omega) (by omega) (by omega)).2.2 _ _ hO]
      · rw [if_neg hj] at hr
        rw [if_neg (fun e => hj ((h.iff (by omega) a2 (by decide)).1 e))]
        cases hr
        rfl
end
end Wf
