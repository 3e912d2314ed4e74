/-
  winnowfantop.TopWords: the walk.
-/
import Derived.Test.YthcahjnniendnabGreatDoorGAll
import Derived.Test.YthcahjnniendnabGreatDoorGMean
import Derived.Test.YthcahjnniendnabGreatDoorOne
import Derived.Test.YthcahjnniendnabGreatDoorPtw
import Derived.Test.YthcahjnniendnabGreatDoorWordT
namespace Go.Proofs.YthcahjnniendnabGreatDoor.topWords
open Go.RowKit Wf
open law (own laidOut LawIs)
open wordT (word_c WordIs own_slice nd_news own_snoc own_kept below_ownW)
set_option linter.unusedVariables false

theorem own_form {w : World} {base : Nat} {v : Value} {l : List Nd} (h : OwnN w base v l) (hn : 0 < l.length) : ∃ g cap, v = .slice (some ⟨g, 0, none⟩) l.length cap := by
  obtain ⟨_, h2⟩ := h
  rcases h2 with ⟨_, h0⟩ | ⟨g, cap, cur, hv, _⟩
  · omega
  · exact ⟨g, cap, hv⟩
theorem own_app {w : World} {base m k : Nat} {v : Value} {L M : List Nd} (hm : m = L.length) (hk : k = M.length) (h : w.ownsRow base 43 5 v (m + k) (L.flatMap ndCells ++ M.flatMap ndCells)) : OwnN w base v (L ++ M) := by
  subst hm
  subst hk
  unfold OwnN
  rw [List.length_append, List.flatMap_append]
  exact h
theorem own_cells {w : World} {base g n cap : Nat} {l : List Nd} (h : OwnN w base (.slice (some ⟨g, 0, none⟩) n cap) l) (hn : 0 < n) : ∀ (j : Nat) (u : Value), (l.flatMap ndCells)[j]? = some u → w.cell? ((⟨g, 0, none⟩ : Addr).add j) = some u := by
  obtain ⟨A', n', cap', hv, h1, h2, h3, h4⟩ := Rd.of_own h
  cases hv
  obtain ⟨b, off, ha, hc⟩ := h4 hn
  cases ha
  intro j u hu
  rw [add_mk]
  exact hc j u hu
theorem wordR_len : ∀ w : List UInt8, (wordR w).length ≤ 2 * w.length := by
  intro w
  induction w with
  | nil => simp [wordR]
  | cons b r ih =>
    unfold wordR
    rw [List.length_append, List.length_cons, List.length_cons]
    split <;> simp <;> omega
theorem wordR_pos {w : List UInt8} (h : 0 < w.length) : 0 < (wordR w).length := by
  cases w with
  | nil => simp at h
  | cons b r => simp [wordR]; omega
theorem orR_more (x : List UInt8) {r : List (List UInt8)} (h : r ≠ []) : orR (x :: r) = ([⟨4, zc⟩] : List Nd) ++ (wordR x ++ orR r) := by
  show (if r = [] then ([] : List Nd) else [⟨4, zc⟩]) ++ (wordR x ++ orR r) = _
  rw [if_neg h]
theorem orR_last (x : List UInt8) : orR [x] = wordR x := by simp [orR]
theorem wsOf_len (l : List ByteArray) : (wsOf l).length = l.length := by simp [wsOf]
theorem wsOf_drop {l : List ByteArray} {k : Nat} {x : ByteArray} (h : l[k]? = some x) : (wsOf l).drop k = x.data.toList :: (wsOf l).drop (k + 1) := by
  have hk := (List.getElem?_eq_some_iff.1 h)
  obtain ⟨hk, hx⟩ := hk
  rw [List.drop_eq_getElem_cons (by rw [wsOf_len]; exact hk)]
  simp [wsOf, hx]

/-- How many ends there are from the places below one. -/
noncomputable def cntE (t : List UInt8) (p : Rx) (i : Nat) : Nat := (endsAll t p i).length
theorem cntE_succ (t : List UInt8) (p : Rx) (i : Nat) : cntE t p (i + 1) = cntE t p i + (endsL t p i).length := endsAll_succ t p i
theorem endsL_len (t : List UInt8) (p : Rx) (i : Nat) : (endsL t p i).length ≤ t.length + 1 := by
  unfold endsL
  exact upTo_len _ _
theorem cntE_le (t : List UInt8) (p : Rx) : ∀ i, cntE t p i ≤ i * (t.length + 1) := by
  intro i
  induction i with
  | zero => simp [cntE, endsAll]
  | succ i ih =>
    have := endsL_len t p i
    rw [cntE_succ, Nat.succ_mul]
    omega

/-- The ends, told in the walk's form. -/
def EndsAt (xs : List Nat) (N : Nat) (w : World) (e : Ending) (w' : World) : Prop := ∃ A cap, e = .returned (.tuple #[.slice A N cap, .nilIface]) ∧ Rd1 w' (.slice A N cap) (natVals xs) ∧ Below w.heap.size w w'
theorem ends_at {xs : List Nat} {s : ByteArray} {t : Rx} {i : Nat} (hx : xs = endsL s.data.toList t i) {w : World} {e : Ending} {w' : World} (h : MEndsIs t s i w e w') : EndsAt xs xs.length w e w' := by
  obtain ⟨v, h1, h2, h3⟩ := h
  rw [← hx] at h2
  obtain ⟨A, cap, hv, _⟩ := Rd1.open_ h2
  have hl : (natVals xs).length = xs.length := by simp [natVals]
  rw [hl] at hv
  subst hv
  exact ⟨A, cap, h1, h2, h3⟩
/-- Does one of the first hits lie there? -/
def anyAt (S : List (Nat × Nat × Nat)) (i x j : Nat) : Prop := ∃ q, q < j ∧ ∃ h, S[q]? = some h ∧ h.2.1 = i ∧ h.2.2 = x
theorem anyAt_succ {S : List (Nat × Nat × Nat)} {i x j a b c : Nat} (h : S[j]? = some (a, b, c)) : anyAt S i x (j + 1) ↔ anyAt S i x j ∨ (b = i ∧ c = x) := by
  constructor
  · rintro ⟨q, hq, h', h1, h2, h3⟩
    by_cases e : q = j
    · subst e
      rw [h] at h1
      cases h1
      exact .inr ⟨h2, h3⟩
    · exact .inl ⟨q, by omega, h', h1, h2, h3⟩
  · rintro (⟨q, hq, h', h1, h2, h3⟩ | ⟨h1, h2⟩)
    · exact ⟨q, by omega, h', h1, h2, h3⟩
    · exact ⟨j, by omega, _, h, h1, h2⟩

set_option maxRecDepth 100000 in
set_option maxHeartbeats 32000000 in
theorem walk {ev : Value} (l : List ByteArray) (v : Value) (s : ByteArray) (w : World) (hr : Rd1 w v (strVals l)) (hls : ∀ x ∈ l, x.size ≤ maxLen) (hs : s.size ≤ maxLen) (hev : SynE ev w) :
    Calls Tryz.prog 4 #[v, .string s] w (LawIs w) := by
  unfold maxLen at hls hs
  have HONE := Lib.hid (One_c w hev)
  unfold LawIs at HONE
  have HR := Lib.hid hr
  obtain ⟨A, cap, rfl, hcap, hcap2, hmem⟩ := str_open hr
  clear hev
  by_cases h1 : chkAll l s = 0
  · obtain ⟨⟨h20, hsz, hnd⟩, hs4⟩ := chkAll_zero.1 h1
    have HALL := Lib.hid (fun W h => All_fine l (.slice A l.length cap) s W h h1 _ rfl _ rfl)
    by_cases hemp : l = []
    · subst hemp
      generalize hS : hitsL (wsOf []) s.data.toList = S at *
      generalize hN : S.length = N at *
      have HR0 : Hid (Rd1 w (.slice A 0 cap) (strVals [])) := HR
      have HALL0 : Hid (∀ W, Rd1 W (.slice A 0 cap) (strVals []) → Calls Tryz.prog 9 #[.slice A 0 cap, .string s] W (fun e w' => ∃ B c, e = .returned (.tuple #[.slice B N c, .nilIface]) ∧ Rd w' 3 (.slice B N c) (S.flatMap hitCells) ∧ Below W.heap.size W w')) := HALL
      clear hr hls h1 hcap hcap2 hmem h20 hsz hnd HR HALL hS hN
      show Calls Tryz.prog 4 #[.slice A 0 cap, .string s] w (LawIs w)
      go_enter Tryz.func4, Tryz.ntmps4
      go_wp2_with fail
      refine HONE.out.mono ?_
      rintro e w1 ⟨rfl, hb1⟩
      have HB1 := Lib.hid hb1
      clear hb1 HONE
      go_wp2_with fail
      refine (HALL0.out w1 (HR0.out.below HB1.out)).mono ?_
      rintro e w2 ⟨B2, c2, rfl, hr2, hb2⟩
      have HB2 := Lib.hid (HB1.out.trans (hb2.mono HB1.out.size))
      clear hr2 hb2 HALL0
      go_wp2_with fail
      go_ret
      exact ⟨rfl, HB2.out⟩
    · have hpos : 0 < l.length := List.length_pos_iff.2 hemp
      have hz : ((l.length : Int) == 0) = false := by
        have : (l.length : Int) ≠ 0 := by omega
        simpa using this
      obtain ⟨lb, lo, rfl, hlb, hlc⟩ := hmem hpos
      have HLC := Lib.hid fun W (hb : Below w.heap.size w W) => hlc W (fun o => hb.cell (p := ⟨lb, o, none⟩) hlb)
      have hne : ∀ x ∈ wsOf l, x ≠ [] := by
        intro x hx
        obtain ⟨y, hy, rfl⟩ := List.mem_map.1 hx
        have := (hsz y hy).1
        intro h
        have h2 : y.data.toList.length = y.size := by simp
        rw [h] at h2
        simp at h2
        omega
      have hws : wsOf l ≠ [] := fun h => by have := wsOf_len l; rw [h] at this; simp at this; omega
      have hwnd : (wsOf l).Nodup := words_nodup hnd
      have HTOT := Lib.hid (show cntE s.data.toList (orT (wsOf l)) (s.size + 1) = (hitsL (wsOf l) s.data.toList).length by
        have := ends_hits (t := s.data.toList) hne hws hwnd
        have h2 : s.data.toList.length = s.size := by simp
        rw [h2] at this
        exact this)
      have HIN := Lib.hid (show ∀ i, i ≤ s.size → ∀ x ∈ endsL s.data.toList (orT (wsOf l)) i, ∃ k, (k, i, x) ∈ hitsL (wsOf l) s.data.toList from fun i hi x hx => (word_at hne hws (by simpa using hi)).1 ((endsO_mem (by simpa using hi)).1 hx))
      have hCL := cntE_le s.data.toList (orT (wsOf l))
      have hCS := cntE_succ s.data.toList (orT (wsOf l))
      have hEL := endsL_len s.data.toList (orT (wsOf l))
      rw [show s.data.toList.length = s.size by simp] at hCL hEL
      have HCL := Lib.hid hCL
      have HCS := Lib.hid hCS
      have HEL := Lib.hid hEL
      have hC0 : cntE s.data.toList (orT (wsOf l)) 0 = 0 := by simp [cntE, endsAll]
      have HC0 := Lib.hid hC0
      have hfl : flat (orT (wsOf l)) = orR (wsOf l) := flat_orT hws hne
      have HME := Lib.hid (fun (hq : (orR (wsOf l)).length ≤ 60) (i : Nat) (hi : i ≤ s.size) v' W h => (MEnds_ok (orR (wsOf l)) (orT (wsOf l)) hfl.symm (ok_orR _) v' s i W hq h hs4 hi).mono fun e w' h => ends_at rfl h)
      unfold EndsAt at HME
      have HWD : Hid (∀ (x : ByteArray), 0 < x.size → x.size ≤ 20 → ∀ W, Calls Tryz.prog 10 #[.string x] W (fun e w' => ∃ g cap, e = .returned (.slice (some ⟨g, 0, none⟩) (wordR x.data.toList).length cap) ∧ OwnN w' W.heap.size (.slice (some ⟨g, 0, none⟩) (wordR x.data.toList).length cap) (wordR x.data.toList) ∧ Below W.heap.size W w')) := Lib.hid fun x h1 h2 W => (word_c x W (by omega)).mono (by
        rintro e w' ⟨A, cap, h3, h4, h5⟩
        obtain ⟨g, cap', hv⟩ := own_form h4 (wordR_pos (by simpa using h1))
        rw [hv] at h3 h4
        exact ⟨g, cap', h3, h4, h5⟩)
      have HSZ := Lib.hid hsz
      have HDR := Lib.hid (fun k x (h : l[k]? = some x) => wsOf_drop h)
      have HWL : Hid ((wsOf l).length = l.length) := Lib.hid (wsOf_len l)
      obtain ⟨i0, hi0, hz0, hz1, hz2⟩ := info_parts info_node
      have hN8 : (hitsL (wsOf l) s.data.toList).length ≤ 8000 := by
        have h1 := hitsTo_len (wsOf l) s.data.toList s.data.toList.length
        rw [wsOf_len, show s.data.toList.length = s.size by simp] at h1
        exact Nat.le_trans (by unfold hitsL; rw [show s.data.toList.length = s.size by simp]; exact h1) (Nat.le_trans (Nat.mul_le_mul hs4 h20) (by decide))
      generalize hS : hitsL (wsOf l) s.data.toList = S at *
      generalize hN : S.length = N at *
      have HNS := Lib.hid hN
      generalize hQ : orR (wsOf l) = Q at *
      have HQ := Lib.hid hQ
      generalize cntE s.data.toList (orT (wsOf l)) = C at *
      generalize endsL s.data.toList (orT (wsOf l)) = En at *
      generalize orT (wsOf l) = P at *
      generalize hWS : wsOf l = ws at *
      clear hr hls h1 hcap hcap2 hmem hsz hnd hlc hlb hne hws hwnd hCL hCS hEL hC0 hfl hS hN hQ hWS hemp
      go_enter Tryz.func4, Tryz.ntmps4
      go_wp2_with fail
      refine HONE.out.mono ?_
      rintro e w1 ⟨rfl, hb1⟩
      have HB1 := Lib.hid hb1
      clear hb1 HONE
      go_wp2_with fail
      refine (HALL.out w1 (HR.out.below HB1.out)).mono ?_
      rintro e w2 ⟨B2, c2, rfl, hr2, hb2⟩
      have HB2 := Lib.hid (HB1.out.trans (hb2.mono HB1.out.size))
      have HR2 := Lib.hid hr2
      have HO0 : Hid (OwnN w2 w2.heap.size (.slice none 0 0) []) := Lib.hid ⟨by simp, .inl ⟨rfl, rfl⟩⟩
      clear hr2 hb2 HALL HB1
      go_wp2_with fail
      go_loopw [8, 9] (fun v8 v9 wr => ∃ (k : Nat) (L : List Nd) (Aq : Option Addr) (cq : Nat), k ≤ l.length ∧ v9 = .int .i64 (k : Int) ∧ v8 = .slice Aq L.length cq ∧ L.length ≤ 41 * k ∧ Hid (OwnN wr w2.heap.size (.slice Aq L.length cq) L) ∧ Hid (L ++ orR (ws.drop k) = Q) ∧ Hid (Below w2.heap.size w2 wr)) (fun _ i _ => l.length - (intOf i).toNat)
      case atStart => exact ⟨0, [], none, 0, by omega, rfl, rfl, by simp, HO0, Lib.hid (by rw [List.drop_zero]; exact HQ.out), Lib.hid (Below.refl _ _)⟩
      case round =>
        obtain ⟨k, L, Aq, cq, hk, rfl, rfl, hL, HO, HW, HB⟩ := hrel
        by_cases hlt : k < l.length
        · have hget : l[k]? = some (l[k]'hlt) := List.getElem?_eq_getElem hlt
          generalize l[k]'hlt = x at hget
          have hdr := HDR.out k x hget
          have hx := HSZ.out x (List.mem_of_getElem? hget)
          have hrl := wordR_len x.data.toList
          have hrp := wordR_pos (w := x.data.toList) (by simpa using hx.1)
          rw [show x.data.toList.length = x.size by simp] at hrl
          have HWX := Lib.hid (HWD.out x hx.1 hx.2)
          have HBw := Lib.hid (HB2.out.trans (HB.out.mono HB2.out.size))
          have hcell := HLC.out wr HBw.out k x hget
          have HDX := Lib.hid hdr
          generalize hM : wordR x.data.toList = M at *
          have HM := Lib.hid hM
          have i1 : (0 : Int) ≤ (k : Int) := by omega
          have i2 : (k : Int) < (l.length : Int) := by omega
          have hM40 : M.length ≤ 40 := by omega
          have HGET := Lib.hid hget
          clear hget hdr hx hrl hM
          by_cases hlast : k + 1 < l.length
          · have hdl : decide ((k : Int) < (l.length : Int) - 1) = true := by simp; omega
            go_wp2_with (first
              | (at_builtin; refine wpList_append_own _ rfl (.tmp 44) (.tmp 46) _ rfl w2.heap.size 43 i0 _ 5 40 Tryz.underlying22 hi0 hz0 hz1 hz2 rfl (by decide) _ L.length (L.flatMap ndCells) rfl (HO.out.alloc _) ⟨wr.heap.size, 0, none⟩ 1 1 (ndCells ⟨4, 0, 0, 0, 0⟩) rfl rfl (nd_news wr _ rfl 4 0 0 0 0) (wordT.nd_one _) (by unfold maxLen; omega) (by omega) (by have := HB.out.size; simp; omega) ?_; intro v3 w3 hown3 hg3 _
                 obtain ⟨A3, cap3, rfl⟩ := own_slice (own_snoc rfl hown3)
                 have HO3 := Lib.hid (own_snoc rfl hown3)
                 have HB3 := Lib.hid (below_ownW ((HB.out.alloc HB.out.size _)) (by have := HB.out.size; simp; omega) (HO.out.alloc _) hg3)
                 have hl3 : (L ++ [(⟨4, 0, 0, 0, 0⟩ : Nd)]).length ≤ 41 * k + 1 := (by rw [List.length_append]; show L.length + 1 ≤ _; omega)
                 obtain ⟨L1, hL1⟩ : ∃ L1 : List Nd, L1 = L ++ [⟨4, 0, 0, 0, 0⟩] := ⟨_, rfl⟩
                 rw [← hL1] at HO3 hl3 ⊢
                 have HL1 := Lib.hid hL1
                 replace hcell := HLC.out w3 (HB2.out.trans (HB3.out.mono HB2.out.size)) k x HGET.out
                 clear hown3 hg3 hL1 HO HB hL)
              | (go_at_call 10; refine (HWX.out _).mono ?_; rintro e w4 ⟨g4, cap4, rfl, ho4, hb4⟩
                 have HC4 := Lib.hid (own_cells ho4 hrp)
                 have HO4 := Lib.hid (own_kept HO3.out hb4)
                 have HB4 := Lib.hid (HB3.out.trans (hb4.mono HB3.out.size))
                 clear ho4 hb4 HO3 HB3 hcell)
              | (at_builtin; refine wpList_append_own _ rfl (.tmp 48) (.tmp 53) _ rfl w2.heap.size 43 i0 _ 5 40 Tryz.underlying22 hi0 hz0 hz1 hz2 rfl (by decide) _ L1.length (L1.flatMap ndCells) rfl HO4.out ⟨g4, 0, none⟩ M.length cap4 (M.flatMap ndCells) rfl (flatMap_len M) HC4.out (ndCells_one M) (by unfold maxLen; omega) (by omega) HB4.out.size ?_; intro v5 w5 hown5 hg5 _
                 have ho5 := own_app rfl rfl hown5
                 have hl5 : (L1 ++ M).length ≤ 41 * (k + 1) := (by rw [List.length_append]; omega)
                 have HB5 := Lib.hid (below_ownW HB4.out HB4.out.size HO4.out hg5)
                 obtain ⟨A5, cap5, rfl⟩ := own_slice ho5
                 have HO5 := Lib.hid ho5
                 rw [List.length_append]
                 clear hown5 hg5 HO4 HB4 HC4 ho5))
            refine ⟨⟨k + 1, L1 ++ M, A5, cap5, by omega, by go_num, by rw [List.length_append], hl5, HO5, Lib.hid ?_, HB5⟩, by simp [intOf]; omega⟩
            have hne : ws.drop (k + 1) ≠ [] := fun h => by have := congrArg List.length h; rw [List.length_drop, HWL.out] at this; simp at this; omega
            have e := HW.out
            rw [HDX.out, orR_more _ hne, HM.out] at e
            rw [HL1.out, ← e]
            simp [zc]
          · have hdl : decide ((k : Int) < (l.length : Int) - 1) = false := by simp; omega
            go_wp2_with (first
              | (go_at_call 10; refine (HWX.out _).mono ?_; rintro e w4 ⟨g4, cap4, rfl, ho4, hb4⟩
                 have HC4 := Lib.hid (own_cells ho4 hrp)
                 have HO4 := Lib.hid (own_kept HO.out hb4)
                 have HB4 := Lib.hid (HB.out.trans (hb4.mono HB.out.size))
                 clear ho4 hb4 HO HB hcell)
              | (at_builtin; refine wpList_append_own _ rfl (.tmp 48) (.tmp 53) _ rfl w2.heap.size 43 i0 _ 5 40 Tryz.underlying22 hi0 hz0 hz1 hz2 rfl (by decide) _ L.length (L.flatMap ndCells) rfl HO4.out ⟨g4, 0, none⟩ M.length cap4 (M.flatMap ndCells) rfl (flatMap_len M) HC4.out (ndCells_one M) (by unfold maxLen; omega) (by omega) HB4.out.size ?_; intro v5 w5 hown5 hg5 _
                 have ho5 := own_app rfl rfl hown5
                 have hl5 : (L ++ M).length ≤ 41 * (k + 1) := (by rw [List.length_append]; omega)
                 have HB5 := Lib.hid (below_ownW HB4.out HB4.out.size HO4.out hg5)
                 obtain ⟨A5, cap5, rfl⟩ := own_slice ho5
                 have HO5 := Lib.hid ho5
                 rw [List.length_append]
                 clear hown5 hg5 HO4 HB4 HC4 ho5))
            refine ⟨⟨k + 1, L ++ M, A5, cap5, by omega, by go_num, by rw [List.length_append], hl5, HO5, Lib.hid ?_, HB5⟩, by simp [intOf]; omega⟩
            have hnil : ws.drop (k + 1) = [] := List.drop_of_length_le (by rw [HWL.out]; omega)
            have e := HW.out
            rw [HDX.out, hnil, orR_last, HM.out] at e
            rw [hnil, ← e]
            simp [orR]
        · obtain rfl : k = l.length := by omega
          have eL : L = Q := by
            have e := HW.out
            rw [List.drop_of_length_le (by rw [HWL.out]; exact Nat.le_refl _)] at e
            rw [← e]
            simp [orR]
          subst eL
          clear HW HWD HDR HLC HO0
          have HRQ := Lib.hid (Rd.of_own HO.out)
          clear HO
          by_cases h60 : 60 < L.length
          · have d60 : decide ((60 : Int) < (L.length : Int)) = true := by simp; omega
            go_wp2_with fail
            go_ret
            exact ⟨rfl, HB2.out.trans (HB.out.mono HB2.out.size)⟩
          · have d60 : decide ((60 : Int) < (L.length : Int)) = false := by simp; omega
            have HMQ := Lib.hid (HME.out (by omega))
            have HB3 := Lib.hid (HB2.out.trans (HB.out.mono HB2.out.size))
            have HH3 := Lib.hid (Rd.below HR2.out HB.out)
            clear HME HB2 HB HR2
            obtain ⟨Ah, ch, hv, hch, hch2, hmh⟩ := hit_open HH3.out
            injection hv with hv1 hv2 hv3
            subst hv1
            subst hv3
            clear hv2
            have HMH := Lib.hid hmh
            clear hmh hch hch2
            go_wp2_with fail
            obtain ⟨w3, hw3⟩ : ∃ w3, w3 = wr := ⟨_, rfl⟩
            subst hw3
            go_loopw [10, 11] (fun v10 v11 wx => ∃ (i : Nat), i ≤ s.size + 1 ∧ v11 = .int .i64 (i : Int) ∧ v10 = .int .i64 (C i : Int) ∧ Hid (Below w3.heap.size w3 wx)) (fun _ i _ => s.size + 1 - (intOf i).toNat)
            case atStart => exact ⟨0, by omega, rfl, by rw [HC0.out]; rfl, Lib.hid (Below.refl _ _)⟩
            case round =>
              obtain ⟨i, hi, rfl, rfl, HX⟩ := hrel
              by_cases hlt : i ≤ s.size
              · have hin : decide ((i : Int) ≤ (s.size : Int)) = true := by simp; omega
                have HE := Lib.hid (HMQ.out i hlt _ wr (Rd.below HRQ.out HX.out))
                have HIX := Lib.hid (HIN.out i hlt)
                have hci := HCL.out i
                have HCI := Lib.hid (HCS.out i)
                have hel := HEL.out i
                have hci2 : C i ≤ 400000 := Nat.le_trans hci (Nat.le_trans (Nat.mul_le_mul (show i ≤ 401 by omega) (show s.size + 1 ≤ 401 by omega)) (by decide))
                generalize En i = E at *
                generalize hci3 : C i = c0 at *
                clear hci3 hci
                go_wp2_with fail
                refine HE.out.mono ?_
                rintro e w4 ⟨Ax, cx, rfl, hrx, hb4⟩
                have HB4 := Lib.hid (HX.out.trans (hb4.mono HX.out.size))
                obtain ⟨Ax', cx', hv, hcx, hcx2, hmx⟩ := Rd1.open_ hrx
                injection hv with hv1 hv2 hv3
                subst hv1
                subst hv3
                rw [show (natVals E).length = E.length by simp [natVals]] at hmx
                have HMX := Lib.hid hmx
                clear hv2 hcx hcx2 hmx hrx hb4 HE HX
                go_wp2_with fail
                go_loopw [10, 14] (fun v10 v14 wx => ∃ (k : Nat), k ≤ E.length ∧ v14 = .int .i64 (k : Int) ∧ v10 = .int .i64 ((c0 : Int) + (k : Int)) ∧ Hid (Below w4.heap.size w4 wx)) (fun _ k _ => E.length - (intOf k).toNat)
                case atStart => exact ⟨0, by omega, rfl, by simp, Lib.hid (Below.refl _ _)⟩
                case round =>
                  obtain ⟨k, hk, rfl, rfl, HY⟩ := hrel
                  by_cases hkl : k < E.length
                  · have hget : E[k]? = some (E[k]'hkl) := List.getElem?_eq_getElem hkl
                    generalize E[k]'hkl = x at hget
                    obtain ⟨kx, hkx⟩ := HIX.out x (List.mem_of_getElem? hget)
                    obtain ⟨qx, hqx⟩ := List.mem_iff_getElem?.1 hkx
                    obtain ⟨xb, xo, rfl, hxb, hxc⟩ := HMX.out (by omega)
                    have hxv : (natVals E)[k]? = some (.int .i64 (x : Int)) := by simp [natVals, hget]
                    have HXC : Hid (∀ W, Below w4.heap.size w4 W → W.cell? ⟨xb, xo + k, none⟩ = some (.int .i64 (x : Int))) := Lib.hid fun W hb => hxc W (fun o => hb.cell (p := ⟨xb, o, none⟩) hxb) k _ hxv
                    have hqN : qx < N := by rw [← HNS.out]; exact (List.getElem?_eq_some_iff.1 hqx).1
                    obtain ⟨hb_, ho_, rfl, hhb, hhc⟩ := HMH.out (by rw [HNS.out]; omega)
                    have HHC : Hid (∀ W, Below w4.heap.size w4 W → ∀ (j a b c : Nat), S[j]? = some (a, b, c) → W.cell? ⟨hb_, ho_ + j * 3 + 1, none⟩ = some (.int .i64 (b : Int)) ∧ W.cell? ⟨hb_, ho_ + j * 3 + 2, none⟩ = some (.int .i64 (c : Int))) := Lib.hid fun W hb j a b c h => (hhc W (fun o => (HB4.out.trans (hb.mono HB4.out.size)).cell (p := ⟨hb_, o, none⟩) hhb) j a b c h).2
                    have HANY : Hid (anyAt S i x N) := Lib.hid ⟨qx, hqN, _, hqx, rfl, rfl⟩
                    have k0 : (0 : Int) ≤ (k : Int) := by omega
                    have k1 : (k : Int) < (E.length : Int) := by omega
                    clear hget hkx hqx hxc hxv hhc hhb hxb hqN
                    go_wp2_with fail
                    obtain ⟨w5, hw5⟩ : ∃ w5, w5 = wr := ⟨_, rfl⟩
                    subst hw5
                    go_loopw [15, 16] (fun v15 v16 wx => ∃ (j : Nat) (bb : Bool), j ≤ N ∧ v16 = .int .i64 (j : Int) ∧ v15 = .bool bb ∧ Hid (bb = true ↔ anyAt S i x j) ∧ Hid (Below w4.heap.size w4 wx)) (fun _ j _ => N - (intOf j).toNat)
                    case atStart => exact ⟨0, false, by omega, rfl, rfl, Lib.hid ⟨fun h => (by cases h), fun ⟨q, hq, _⟩ => (by omega)⟩, HY⟩
                    case round =>
                      obtain ⟨j, bb, hj, rfl, rfl, HA, HZ⟩ := hrel
                      by_cases hjl : j < N
                      · have hgj : S[j]? = some (S[j]'(by rw [HNS.out]; exact hjl)) := List.getElem?_eq_getElem _
                        generalize S[j]'(by rw [HNS.out]; exact hjl) = hit at hgj
                        obtain ⟨a, b, c⟩ := hit
                        have HS1 := Lib.hid (anyAt_succ (i := i) (x := x) hgj)
                        have j0 : (0 : Int) ≤ (j : Int) := by omega
                        have j1 : (j : Int) < (N : Int) := by omega
                        cases bb with
                        | true =>
                          clear hgj
                          go_wp2_with fail
                          go_quiet (fail)
                          go_wp2_with fail
                          go_roundw
                          case rel => exact ⟨j + 1, true, by omega, by go_num, rfl, Lib.hid ⟨fun _ => HS1.out.2 (.inl (HA.out.1 (by simp))), fun _ => rfl⟩, Lib.hid (below_drewN HZ.out _)⟩
                          case measure => simp [intOf]; omega
                        | false =>
                          obtain ⟨hb1, hb2⟩ := HHC.out wr HZ.out j a b c hgj
                          have hx1 := HXC.out wr HZ.out
                          clear hgj
                          by_cases e1 : b = i
                          · have q1 : ((b : Int) == (i : Int)) = true := by rw [e1]; simp
                            have q2 : (b == i) = true := by rw [e1]; simp
                            by_cases e2 : c = x
                            · have q3 : ((c : Int) == (x : Int)) = true := by rw [e2]; simp
                              have q4 : (c == x) = true := by rw [e2]; simp
                              have HE12 := Lib.hid (And.intro e1 e2)
                              clear e1 e2
                              go_wp2_with fail
                              go_quiet (fail)
                              go_wp2_with fail
                              refine ⟨⟨j + 1, true, by omega, by go_num, rfl, Lib.hid ⟨fun _ => HS1.out.2 (.inr HE12.out), fun _ => rfl⟩, Lib.hid (below_drewN HZ.out _)⟩, by simp [intOf]; omega⟩
                            · have q3 : ((c : Int) == (x : Int)) = false := by rw [beq_eq_false_iff_ne]; omega
                              have q4 : (c == x) = false := by rw [beq_eq_false_iff_ne]; exact e2
                              have HE2 := Lib.hid e2
                              clear e1 e2
                              go_wp2_with fail
                              go_quiet (fail)
                              go_wp2_with fail
                              refine ⟨⟨j + 1, false, by omega, by go_num, rfl, Lib.hid ⟨fun h => (by cases h), fun h => (HS1.out.1 h).elim (fun h => HA.out.2 h) (fun h => absurd h.2 HE2.out)⟩, Lib.hid (below_drewN HZ.out _)⟩, by simp [intOf]; omega⟩
                          · have q1 : ((b : Int) == (i : Int)) = false := by rw [beq_eq_false_iff_ne]; omega
                            have q2 : (b == i) = false := by rw [beq_eq_false_iff_ne]; exact e1
                            have HE1 := Lib.hid e1
                            clear e1
                            go_wp2_with fail
                            go_quiet (fail)
                            go_wp2_with fail
                            refine ⟨⟨j + 1, false, by omega, by go_num, rfl, Lib.hid ⟨fun h => (by cases h), fun h => (HS1.out.1 h).elim (fun h => HA.out.2 h) (fun h => absurd h.1 HE1.out)⟩, Lib.hid (below_drewN HZ.out _)⟩, by simp [intOf]; omega⟩
                      · obtain rfl : j = N := by omega
                        obtain rfl : bb = true := HA.out.2 HANY.out
                        go_wp2_with fail
                        refine ⟨⟨k + 1, by omega, by go_num, by go_num, HZ⟩, by simp [intOf]; omega⟩
                  · obtain rfl : k = E.length := by omega
                    go_wp2_with fail
                    refine ⟨⟨i + 1, by omega, by go_num, by rw [HCI.out]; go_num, Lib.hid (HB4.out.trans (HY.out.mono HB4.out.size))⟩, by simp [intOf]; omega⟩
              · obtain rfl : i = s.size + 1 := by omega
                have hin : decide (((s.size + 1 : Nat) : Int) ≤ (s.size : Int)) = false := by simp; omega
                have hin2 : decide ((s.size : Int) + 1 ≤ (s.size : Int)) = false := by simp; omega
                rw [HTOT.out]
                go_wp2_with fail
                go_ret
                exact ⟨rfl, HB3.out.trans (HX.out.mono HB3.out.size)⟩
  · have HALL := Lib.hid (fun W h => All_err l (.slice A l.length cap) s W h (by omega) hls h1)
    clear hr hls h1 hcap hcap2 hmem
    generalize chkAll l s = c at *
    go_enter Tryz.func4, Tryz.ntmps4
    go_wp2_with fail
    refine HONE.out.mono ?_
    rintro e w1 ⟨rfl, hb1⟩
    have HB1 := Lib.hid hb1
    clear hb1 HONE
    go_wp2_with fail
    refine (HALL.out w1 (HR.out.below HB1.out)).mono ?_
    rintro e w2 ⟨rfl, hb2⟩
    have HB2 := Lib.hid (HB1.out.trans (hb2.mono HB1.out.size))
    clear hb2 HALL
    go_wp2_with fail
    go_ret
    exact ⟨rfl, HB2.out⟩
end Go.Proofs.YthcahjnniendnabGreatDoor.topWords
