/-
  Plain: brackets about a whole text; a class with a hat.
-/
import Derived.Test.YthcahjnniendnabDoorPsn
namespace Wf

theorem orS_whole {s : List UInt8} {t : Rx} (hst : ¬ stopS s 0 = true) (hA : atomS s 0 = .ok t s.length) : orS s 0 = .ok t s.length := by
  have hno : s[s.length]? = none := List.getElem?_eq_none (Nat.le_refl _)
  have hsg : signsS s s.length t = (t, s.length) := signsS_end t (fun c hc => by rw [hno] at hc; cases hc)
  have hC : catS s 0 = .ok t s.length := by
    rw [catS, if_neg hst, hA]
    dsimp only
    rw [hsg]
    dsimp only
    rw [if_pos (show stopS s s.length = true by unfold stopS; rw [hno])]
  rw [orS, hC]
  dsimp only
  rw [hno, if_neg (by simp)]
/-- Brackets about a whole text make no difference. -/
theorem orS_par {l : List UInt8} {t : Rx} (h : orS l 0 = .ok t l.length) : orS (40 :: (l ++ [41])) 0 = .ok t (l.length + 2) := by
  have hsh : Sh l (40 :: (l ++ [41])) 1 0 := ⟨fun k c _ hk => by
    rw [List.getElem?_cons_succ, List.getElem?_append_left (List.getElem?_eq_some_iff.1 hk).1]
    exact hk, .inr (by rw [List.getElem?_cons_succ, List.getElem?_append_right (Nat.le_refl _), Nat.sub_self]; rfl)⟩
  have h1 := (hsh.read l.length 0 (by omega) (Nat.le_refl _) (by omega)).2.2 _ _ h
  have hlen : (40 :: (l ++ [41])).length = l.length + 2 := by simp
  have h41 : (40 :: (l ++ [41]))[l.length + 1]? = some 41 := by rw [List.getElem?_cons_succ, List.getElem?_append_right (Nat.le_refl _), Nat.sub_self]; rfl
  rw [← hlen]
  refine orS_whole (by simp [stopS]) ?_
  rw [atomS_cases _ 0 (by simp), if_pos (by simp)]
  rw [Nat.zero_add] at h1 ⊢
  rw [h1]
  dsimp only
  rw [if_pos h41, hlen]
/-- A class with a hat. -/
theorem orS_not {l : List UInt8} {t : Rx} (h94 : l[0]? ≠ some 94) (hl : 0 < l.length) (h : orS (91 :: (l ++ [93])) 0 = .ok t (l.length + 2)) {n : Nd} (hf : flat t = [n]) (hop : n.op = 1) :
    ∃ c, t = .byte c ∧ orS (91 :: 94 :: (l ++ [93])) 0 = .ok (.byte (notC c)) (l.length + 3) := by
  have hlen : (91 :: (l ++ [93])).length = l.length + 2 := by simp
  have hflen : (flat t).length = 1 := by rw [hf]; rfl
  obtain ⟨c, hc⟩ : ∃ c, t = .byte c := by
    cases t with
    | byte c => exact ⟨c, rfl⟩
    | empty => simp [flat] at hf; rw [← hf] at hop; exact absurd hop (by decide)
    | bgn => simp [flat] at hf; rw [← hf] at hop; exact absurd hop (by decide)
    | fin => simp [flat] at hf; rw [← hf] at hop; exact absurd hop (by decide)
    | cat a b => have := flat_pos a; rw [show flat (.cat a b) = ⟨3, zc⟩ :: (flat a ++ flat b) from rfl, List.length_cons, List.length_append] at hflen; omega
    | alt a b => have := flat_pos a; rw [show flat (.alt a b) = ⟨4, zc⟩ :: (flat a ++ flat b) from rfl, List.length_cons, List.length_append] at hflen; omega
    | star a => have := flat_pos a; rw [show flat (.star a) = ⟨5, zc⟩ :: flat a from rfl, List.length_cons] at hflen; omega
    | plus a => have := flat_pos a; rw [show flat (.plus a) = ⟨6, zc⟩ :: flat a from rfl, List.length_cons] at hflen; omega
    | opt a => have := flat_pos a; rw [show flat (.opt a) = ⟨7, zc⟩ :: flat a from rfl, List.length_cons] at hflen; omega
  refine ⟨c, hc, ?_⟩
  generalize hs1 : (91 :: (l ++ [93]) : List UInt8) = s1 at *
  have h0 : s1[0]? = some 91 := by rw [← hs1]; rfl
  have hst : ¬ stopS s1 0 = true := by rw [← hs1]; simp [stopS]
  have hl1 : 0 < s1.length := by omega
  -- what orS has read
  have hbr : bracketS s1 1 = .ok c s1.length := by
    rw [orS] at h
    cases hC : catS s1 0 with
    | bad k => rw [hC] at h; cases h
    | ok t1 j1 =>
      rw [hC] at h
      dsimp only at h
      by_cases hj : s1[j1]? = some 124
      · rw [if_pos hj] at h
        split at h
        · cases hO : orS s1 (j1 + 1) with
          | bad k => rw [hO] at h; cases h
          | ok u k =>
            rw [hO] at h
            cases h
            have := flat_pos t1
            rw [show flat (.alt t1 u) = ⟨4, zc⟩ :: (flat t1 ++ flat u) from rfl, List.length_cons, List.length_append] at hflen
            omega
        · cases h
      · rw [if_neg hj] at h
        cases h
        rw [catS, if_neg hst] at hC
        cases hA : atomS s1 0 with
        | bad k => rw [hA] at hC; cases hC
        | ok t2 j2 =>
          rw [hA] at hC
          obtain ⟨a1, a2, a3, _⟩ := (read_ok (s := s1) _ 0 (Nat.le_refl _) (by omega)).1 _ _ hA
          obtain ⟨s1', s2', _, s4', _⟩ := signsS_ok _ j2 t2 (Nat.le_refl _) a2 a3
          dsimp only at hC
          split at hC
          · have hC' := PR.ok.inj hC
            rw [hC'.1, hC'.2, hflen] at s4'
            rw [hC'.2] at s1' s2'
            have hp2 := flat_pos t2
            have hj2 : j2 = s1.length := by omega
            have hno : s1[s1.length]? = none := List.getElem?_eq_none (Nat.le_refl _)
            have hsg : signsS s1 j2 t2 = (t2, j2) := signsS_end t2 (fun c hc => by rw [hj2, hno] at hc; cases hc)
            rw [hsg] at hC'
            dsimp only at hC'
            rw [atomS_cases s1 0 hl1, h0, if_neg (by decide), if_pos rfl] at hA
            cases hB : bracketS s1 (0 + 1) with
            | bad k => rw [hB] at hA; cases hA
            | ok c2 j3 =>
              rw [hB] at hA
              have hA' := PR.ok.inj hA
              have e1 := hA'.1.trans (hC'.1.trans hc)
              cases e1
              rw [Nat.zero_add] at hB
              rw [hA'.2, hj2]
          · split at hC
            · cases hO : catS s1 (signsS s1 j2 t2).2 with
              | bad k => rw [hO] at hC; cases hC
              | ok u k =>
                rw [hO] at hC
                have hC' := PR.ok.inj hC
                rw [← hC'.1] at hflen
                have := flat_pos (signsS s1 j2 t2).1
                rw [show flat (.cat (signsS s1 j2 t2).1 u) = ⟨3, zc⟩ :: (flat (signsS s1 j2 t2).1 ++ flat u) from rfl, List.length_cons, List.length_append] at hflen
                omega
            · cases hC
  have h1 : s1[1]? ≠ some 94 := by
    rw [← hs1, List.getElem?_cons_succ, List.getElem?_append_left hl]
    exact h94
  unfold bracketS at hbr
  rw [if_neg h1] at hbr
  have hsh : Sh s1 (91 :: 94 :: (l ++ [93])) 1 1 := ⟨fun k c hk0 hk => by
    obtain ⟨k', rfl⟩ : ∃ k', k = k' + 1 := ⟨k - 1, by omega⟩
    rw [← hs1, List.getElem?_cons_succ] at hk
    rw [List.getElem?_cons_succ, List.getElem?_cons_succ]
    exact hk, .inl (List.getElem?_eq_none (by rw [hlen]; simp))⟩
  have h2 := hsh.items _ 1 zc c s1.length (Nat.le_refl _) (Nat.le_refl _) (by omega) hbr
  have hlen2 : (91 :: 94 :: (l ++ [93])).length = l.length + 3 := by simp
  rw [← hlen2]
  refine orS_whole (by simp [stopS]) ?_
  rw [atomS_cases _ 0 (by simp), if_neg (by simp), if_pos (by simp)]
  have hb2 : bracketS (91 :: 94 :: (l ++ [93])) (0 + 1) = .ok (notC c) (s1.length + 1) := by
    unfold bracketS
    rw [if_pos (by simp)]
    rw [h2]
  rw [hb2]
  dsimp only
  rw [hlen2, hlen]
/-- "[^a]". -/
theorem fact_one : oneS [91, 94, 97, 93] 2 = .ok 97 3 := rfl
theorem fact_cls : eitherC zc (spanC 97 97) = withB zc 97 := by decide +kernel
theorem fact_not : orS [91, 94, 97, 93] 0 = .ok (.byte (notC (withB zc 97))) 4 := by
  have hit : itemS [91, 94, 97, 93] 2 = .ok (97, 97) 3 := by
    unfold itemS
    rw [fact_one]
    dsimp only
    rw [if_neg (by decide)]
  have hits : itemsS [91, 94, 97, 93] 2 zc = .ok (withB zc 97) 4 := by
    rw [itemsS_more zc (by decide) hit, itemsS_end _ (by rfl), fact_cls]
  have hb : bracketS [91, 94, 97, 93] (0 + 1) = .ok (notC (withB zc 97)) 4 := by
    unfold bracketS
    rw [if_pos (by rfl), hits]
  refine orS_whole (s := [91, 94, 97, 93]) (by simp [stopS]) ?_
  rw [atomS_cases _ 0 (by simp), if_neg (by simp), if_pos (by rfl), hb]
  rfl
end Wf
