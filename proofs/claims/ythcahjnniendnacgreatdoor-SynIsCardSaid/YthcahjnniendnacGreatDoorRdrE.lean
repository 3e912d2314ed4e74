/-
  Walks of the document's reader: all that stands beside one another. (Printed by gen-rdre.py.)
-/
import Derived.Test.YthcahjnniendnacGreatDoorRdrD
namespace Wf
theorem AtomsIn.len {s : List UInt8} {i j : Nat} {bad : Option Nat} {rows : List (List Nd)} (h : AtomsIn s i j bad rows) : sumN rows ≤ 2 * s.length + 1 ∧ j ≤ 2 * s.length + 3 := by
  obtain ⟨_, _, h⟩ := h
  cases bad with
  | none => obtain ⟨ts, _, _, h1, h2, h3⟩ := h; omega
  | some k => obtain ⟨_, _, h1, h2⟩ := h; omega
theorem SidesOut.len {s : List UInt8} {i j : Nat} {bad : Option Nat} {rows : List (List Nd)} (h : SidesOut s i j bad rows) : sumN rows ≤ 2 * s.length + 2 ∧ 0 < rows.length := by
  obtain ⟨_, _, hne, h⟩ := h
  refine ⟨?_, List.length_pos_iff.2 hne⟩
  cases bad with
  | none => obtain ⟨ts, _, _, h1, h2, h3⟩ := h; omega
  | some k => obtain ⟨_, h1, h2⟩ := h; omega
theorem OutIs.far {r : PR Rx} {s : List UInt8} {i j m : Nat} {bad : Option Nat} {l : List Nd} (h : OutIs r s i m j bad l) : j ≤ 2 * s.length + 3 := by
  obtain ⟨_, h⟩ := h
  cases bad with
  | none => obtain ⟨t, _, _, h1, h2, h3⟩ := h; omega
  | some k => obtain ⟨_, h1, h2⟩ := h; omega
end Wf
namespace Go.Proofs.YthcahjnniendnacGreatDoor
open Go.RowKit Wf

theorem info_row : (Tryz.prog.info? 22).map (fun i => (i.zero, i.size, i.bytes)) = some (some (.slice none 0 0), 1, 24) := by kernel_rfl
/-- Values that read as rows of nodes. -/
def RowsAt (w : World) (lo : Nat) (vs : List Value) (rows : List (List Nd)) : Prop := vs.length = rows.length ∧ ∀ (k : Nat) (u : Value) (l : List Nd), vs[k]? = some u → rows[k]? = some l → RowIn w lo u l
theorem RowsAt.keep {w w' : World} {lo : Nat} {vs : List Value} {rows : List (List Nd)} (h : RowsAt w lo vs rows) (hk : ∀ u l, RowIn w lo u l → RowIn w' lo u l) : RowsAt w' lo vs rows := ⟨h.1, fun k u l h1 h2 => hk u l (h.2 k u l h1 h2)⟩
theorem RowsAt.snoc {w : World} {lo : Nat} {vs : List Value} {rows : List (List Nd)} {u : Value} {l : List Nd} (h : RowsAt w lo vs rows) (hu : RowIn w lo u l) : RowsAt w lo (vs ++ [u]) (rows ++ [l]) := by
  refine ⟨by simp [h.1], fun k v m h1 h2 => ?_⟩
  have hl := h.1
  by_cases hk : k < vs.length
  · rw [List.getElem?_append_left hk] at h1
    rw [List.getElem?_append_left (by omega)] at h2
    exact h.2 k v m h1 h2
  · have h1' := List.getElem?_eq_some_iff.1 h1
    have hkl := h1'.1
    simp at hkl
    obtain rfl : k = vs.length := by omega
    simp at h1
    rw [hl] at h2
    simp at h2
    subst h1 h2
    exact hu
theorem RowsAt.nil (w : World) (lo : Nat) : RowsAt w lo [] [] := ⟨rfl, fun k u l h1 => by simp at h1⟩
theorem RowIn.app {w w' : World} {lo base n : Nat} {v vv : Value} {xs : List Value} {l : List Nd} (h : RowIn w lo v l) (hown : w.ownsRow base 22 1 vv n xs) (hg : w.grownBy w' vv.ownBlock) : RowIn w' lo v l := by
  obtain ⟨g, cap, cur, hv, h1, h2, h3, h4, h5, h6⟩ := h
  refine ⟨g, cap, cur, hv, h1, h2, h3, h4, (hg.block g (Blk.lt h5) ?_).trans h5, h6⟩
  intro e
  rcases hown.2 with ⟨rfl, _⟩ | ⟨g', cap', cur', rfl, _, k2, _⟩
  · simp [Value.ownBlock] at e
  · have hgg : g = g' := by simpa [Value.ownBlock] using e
    subst hgg
    have hc : some (Obj.cells cur' 22 (0, 0)) = some (Obj.cells cur 41 (0, 0)) := k2.symm.trans h5
    injection hc with hc
    injection hc with _ hc _
    exact absurd hc (by decide)
theorem RW.own {w0 w w' : World} {rb i base n size : Nat} {T : TypeId} {bad : Option Nat} {s : ByteArray} {vv : Value} {xs : List Value} (h : RW w0 rb s i bad w) (hown : w.ownsRow base T size vv n xs) (hb : w0.heap.size ≤ base) (hg : w.grownBy w' vv.ownBlock) : RW w0 rb s i bad w' := by
  have hlt := h.lt
  have hsz := h.grow.size
  exact ⟨(hg.block rb (Blk.lt h.par) (fun e => by have := (hown.lt rb e.symm).1; omega)).trans h.par,
    ⟨hg.os.trans h.grow.os, hg.tape.trans h.grow.tape, hg.output.trans h.grow.output, Nat.le_trans hsz hg.size, fun q hq hn => (hg.block q (by omega) (fun e => by have := (hown.lt q e.symm).1; omega)).trans (h.grow.block q hq hn)⟩, h.lt⟩
theorem own_one {w : World} {base n size : Nat} {T : TypeId} {v : Value} {xs : List Value} {w' : World} {rb : Nat} (h : w.ownsRow base T size v n xs) (hg : w.grownBy w' (some rb)) (hb : rb < base) : w'.ownsRow base T size v n xs :=
  World.ownsRow.kept h hg (.inr (fun e => by have := (h.lt rb e).1; omega))
theorem own_below' {w : World} {base n size : Nat} {T : TypeId} {v : Value} {xs : List Value} {w' : World} (h : w.ownsRow base T size v n xs) (hb : Below w.heap.size w w') : w'.ownsRow base T size v n xs :=
  World.ownsRow.kept (row := none) h ⟨hb.os, hb.tape, hb.output, hb.size, fun q hq _ => hb.block q hq⟩ (by cases v.ownBlock <;> simp)
/-- The cells of a row of values that is not empty. -/
theorem own_form1 {w : World} {base n : Nat} {T : TypeId} {v : Value} {xs : List Value} (h : w.ownsRow base T 1 v n xs) (hn : 0 < n) :
    ∃ g cap, v = .slice (some ⟨g, 0, none⟩) n cap ∧ n ≤ cap ∧ cap ≤ 9223372036854775807 ∧ base ≤ g ∧ g < w.heap.size ∧ ∀ W : World, W.heap[g]? = w.heap[g]? → ∀ (k : Nat) (u : Value), xs[k]? = some u → W.cell? ⟨g, k, none⟩ = some u := by
  rcases h.2 with ⟨_, h0⟩ | ⟨g, cap, cur, hv, h1, h2, h3, h4, h5, h6⟩
  · omega
  · refine ⟨g, cap, hv, h3, by unfold maxLen at h4; omega, h1, Blk.lt (show Blk w g T cur from h2), fun W hW k u hu => ?_⟩
    have hB : Blk W g T cur := hW.trans h2
    rw [hB.cell, ← Array.getElem?_toList]
    rw [← h6, List.getElem?_take] at hu
    split at hu
    · exact hu
    · cases hu
theorem new_oneR (W : World) (t : TypeId) (x : Value) (g : Nat) (hg : g = W.heap.size) : ∀ (j : Nat) (u : Value), [x][j]? = some u → (W.alloc (.cells #[x] t)).cell? ((⟨g, 0, none⟩ : Addr).add j) = some u := by
  intro j u hu
  subst hg
  rw [add_mk, Nat.zero_add, (Blk.new W t #[x]).cell]
  simpa using hu
theorem own_form0 {w : World} {base n : Nat} {T : TypeId} {v : Value} {xs : List Value} (h : w.ownsRow base T 1 v n xs) :
    ∃ A cap, v = .slice A n cap ∧ n ≤ cap ∧ cap ≤ 9223372036854775807 ∧ (0 < n → ∃ g, A = some ⟨g, 0, none⟩ ∧ g < w.heap.size ∧ ∀ W : World, W.heap[g]? = w.heap[g]? → ∀ (k : Nat) (u : Value), xs[k]? = some u → W.cell? ⟨g, k, none⟩ = some u) := by
  rcases Nat.eq_zero_or_pos n with rfl | hn
  · rcases h.2 with ⟨rfl, _⟩ | ⟨g, cap, cur, hv, h1, h2, h3, h4, h5, h6⟩
    · exact ⟨none, 0, rfl, by omega, by omega, fun h => by omega⟩
    · exact ⟨_, cap, hv, h3, by unfold maxLen at h4; omega, fun h => by omega⟩
  · obtain ⟨g, cap, hv, h1, h2, h3, h4, h5⟩ := own_form1 h hn
    exact ⟨_, cap, hv, h1, h2, fun _ => ⟨g, rfl, h4, h5⟩⟩
theorem stop_yesR {s : List UInt8} {j : Nat} (h : stopS s j = true) : s[j]? = none ∨ s[j]? = some 124 ∨ s[j]? = some 41 := by
  unfold stopS at h
  cases hc : s[j]? with
  | none => exact .inl rfl
  | some c =>
    rw [hc] at h
    simp only [Bool.or_eq_true, beq_iff_eq] at h
    rcases h with rfl | rfl
    · exact .inr (.inl rfl)
    · exact .inr (.inr rfl)
theorem stop_noR {s : List UInt8} {j : Nat} (h : ¬ stopS s j = true) : ∃ c, s[j]? = some c ∧ c.toNat ≠ 124 ∧ c.toNat ≠ 41 := by
  unfold stopS at h
  cases hc : s[j]? with
  | none => rw [hc] at h; exact absurd rfl h
  | some c =>
    rw [hc] at h
    simp only [Bool.or_eq_true, beq_iff_eq, not_or] at h
    exact ⟨c, rfl, fun e => h.1 (UInt8.toNat_inj.1 e), fun e => h.2 (UInt8.toNat_inj.1 e)⟩

set_option maxRecDepth 100000 in
set_option maxHeartbeats 8000000 in
theorem rall_w {rb : Nat} {s : ByteArray} {i : Nat} (w : World) (h : RW w rb s i none w) (hs : s.size ≤ 200) (hi : i ≤ s.size)
    (hat : ∀ j W, i ≤ j → j < s.size → RW W rb s j none W → Calls Tryz.prog 63 #[.pointer (some ⟨rb, 0, none⟩)] W (RRdIs (atomR s.data.toList j) rb s j 0 W)) :
    Calls Tryz.prog 39 #[.pointer (some ⟨rb, 0, none⟩)] w (RRdIs (orS s.data.toList i) rb s i 1 w) := by
  obtain ⟨L, hL⟩ : ∃ L, L = s.data.toList := ⟨_, rfl⟩
  have hLZ : L.length = s.size := by rw [hL]; simp
  have HLZ := Lib.hid hLZ
  have HSY : Hid (∀ (j : Nat) W, L[j]? = some 124 → RW w rb s j none W → Calls Tryz.prog 64 #[.pointer (some ⟨rb, 0, none⟩), .int .u8 124] W (RSeesIs true W)) := Lib.hid fun j W hc hw => rsees_yes (c := 124) W hw.here hs (by rw [← hL]; exact hc)
  have HSN : Hid (∀ (j : Nat) (bad : Option Nat) W, (bad = none → j ≤ s.size ∧ L[j]? ≠ some 124) → RW w rb s j bad W → Calls Tryz.prog 64 #[.pointer (some ⟨rb, 0, none⟩), .int .u8 124] W (RSeesIs false W)) := Lib.hid fun j bad W hj hw => by
    cases bad with
    | none => exact rsees_no (c := 124) W hw.here hs (hj rfl).1 (by rw [← hL]; exact (hj rfl).2)
    | some k => exact rsees_bad 124 W hw.here
  have HGT : Hid (∀ (j : Nat) (c : UInt8), L[j]? = some c → ∃ hi : j < s.size, s[j] = c) := Lib.hid fun j c hc => at_getR (by rw [← hL]; exact hc)
  have HAT := Lib.hid hat
  have HP := Lib.hid h
  have hrb := h.lt
  unfold RSeesIs at HSY HSN
  unfold RRdIs at HAT ⊢
  rw [← hL] at HAT ⊢
  obtain ⟨i0, hi0, hz0, hz1, hz2⟩ := info_parts info_node
  obtain ⟨r0', hri0, hrz0, hrz1, hrz2⟩ := info_parts info_row
  clear hL hLZ h hat
  go_enter Tryz.func39, Tryz.ntmps39
  go_wp2_with fail
  go_loopg [3] (s.size + 2) (fun gk v3 wr => ∃ (j : Nat) (vs : List Value) (rows : List (List Nd)), Hid (wr.ownsRow w.heap.size 22 1 v3 rows.length vs) ∧ Hid (RowsAt wr w.heap.size vs rows) ∧ Hid (RW w rb s j none wr) ∧ Hid (SidesIn L i j rows) ∧ Hid (s.size - j + 1 < gk))
  case atStart => exact ⟨i, [], [], Lib.hid (World.ownsRow_nil _ _ _ _), Lib.hid (RowsAt.nil _ _), HP, Lib.hid (SidesIn.start (by rw [HLZ.out]; exact hi)), Lib.hid (by omega)⟩
  case round =>
    rename World => wo
    obtain ⟨j, vS, sides, HOS, HRS, HRW, HSI, HG⟩ := hrel
    have hjj : i ≤ j ∧ j ≤ s.size := by
      obtain ⟨_, _, _, _, _, h1, h2, _⟩ := HSI.out
      rw [HLZ.out] at h2
      exact ⟨h1, h2⟩
    obtain ⟨hij, hjs⟩ := hjj
    have hW := HRW.out.grow.size
    have q2 : _ = some (Value.int .i64 (-1)) := HRW.out.c2
    go_upto_block 2 with fail
    go_cut [4, 5] from 13 to 108 (fun v4 v5 wx => ∃ (j' : Nat) (bad : Option Nat) (vs : List Value) (rows : List (List Nd)), Hid (wx.ownsRow wo.heap.size 22 1 v4 rows.length vs) ∧ Hid (RowsAt wx wo.heap.size vs rows) ∧ Hid (RW wo rb s j' bad wx) ∧ Hid (AtomsIn L j j' bad rows) ∧ Hid (bad = none → stopS L j' = true))
    case first =>
      go_wp2_with fail
      go_loopg [4] (s.size + 2) (fun gk v4 wx => ∃ (j' : Nat) (bad : Option Nat) (vs : List Value) (rows : List (List Nd)), Hid (wx.ownsRow wo.heap.size 22 1 v4 rows.length vs) ∧ Hid (RowsAt wx wo.heap.size vs rows) ∧ Hid (RW wo rb s j' bad wx) ∧ Hid (AtomsIn L j j' bad rows) ∧ Hid (badM bad (s.size - j') < gk))
      case atStart => exact ⟨j, none, [], [], Lib.hid (World.ownsRow_nil _ _ _ _), Lib.hid (RowsAt.nil _ _), Lib.hid HRW.out.here, Lib.hid (AtomsIn.start (by rw [HLZ.out]; exact hjs)), Lib.hid (by rw [badM_none]; omega)⟩
      case round =>
        clear q2
        obtain ⟨j', bad, vs, rows, HOA, HRA, HRX, HAI, HG2⟩ := hrel
        have r0 := HRX.out.c0
        have r1 := HRX.out.c1
        cases bad with
        | some k =>
          have q2 : _ = some (Value.int .i64 ((k : Nat) : Int)) := HRX.out.c2
          have dk : decide (((k : Nat) : Int) < 0) = false := by simp
          go_wp2_with fail
          go_quiet (fail)
          go_wp2_with fail
          go_meet
          exact ⟨j', some k, vs, rows, Lib.hid (own_below' HOA.out (below_drewN (Below.refl _ _) _)), Lib.hid (HRA.out.keep fun u l hr => hr.below (below_drewN (Below.refl _ _) _)), Lib.hid (HRX.out.below (below_drewN (Below.refl _ _) _)), HAI, Lib.hid fun h => by cases h⟩
        | none =>
          have q2 : _ = some (Value.int .i64 (-1)) := HRX.out.c2
          have hj' : j ≤ j' ∧ j' ≤ s.size ∧ rows.length ≤ 402 := by
            obtain ⟨_, _, ts, _, _, h1, h2, h3⟩ := HAI.out
            rw [HLZ.out] at h2
            have := sumN_len rows
            exact ⟨h1, h2, by omega⟩
          obtain ⟨hj1, hj2, hrl⟩ := hj'
          by_cases hst : stopS L j' = true
          · rcases stop_yesR hst with hc | hc | hc
            · have hge := List.getElem?_eq_none_iff.1 hc
              rw [HLZ.out] at hge
              have d1 : decide ((j' : Int) < (s.size : Int)) = false := by simp; omega
              have d2 : decide (j' < s.size) = false := by simp; omega
              clear hc hge
              go_wp2_with fail
              go_quiet (fail)
              go_wp2_with fail
              go_meet
              exact ⟨j', none, vs, rows, Lib.hid (own_below' HOA.out (below_drewN (Below.refl _ _) _)), Lib.hid (HRA.out.keep fun u l hr => hr.below (below_drewN (Below.refl _ _) _)), Lib.hid (HRX.out.below (below_drewN (Below.refl _ _) _)), HAI, Lib.hid fun _ => hst⟩
            · obtain ⟨hjn, he⟩ := HGT.out _ _ hc
              have hz : (0 : Int) ≤ (j' : Int) := by omega
              have d1 : decide ((j' : Int) < (s.size : Int)) = true := by simp; omega
              have d3 : ((s[j'].toNat : Int) != 124) = false := by rw [he]; decide
              clear hc he
              go_wp2_with fail
              go_quiet (fail)
              go_wp2_with fail
              go_meet
              exact ⟨j', none, vs, rows, Lib.hid (own_below' HOA.out (below_drewN (Below.refl _ _) _)), Lib.hid (HRA.out.keep fun u l hr => hr.below (below_drewN (Below.refl _ _) _)), Lib.hid (HRX.out.below (below_drewN (Below.refl _ _) _)), HAI, Lib.hid fun _ => hst⟩
            · obtain ⟨hjn, he⟩ := HGT.out _ _ hc
              have hz : (0 : Int) ≤ (j' : Int) := by omega
              have d1 : decide ((j' : Int) < (s.size : Int)) = true := by simp; omega
              have d3 : ((s[j'].toNat : Int) != 124) = true := by rw [he]; decide
              have d4 : ((s[j'].toNat : Int) != 41) = false := by rw [he]; decide
              clear hc he
              go_wp2_with fail
              go_quiet (fail)
              go_wp2_with fail
              go_meet
              exact ⟨j', none, vs, rows, Lib.hid (own_below' HOA.out (below_drewN (Below.refl _ _) _)), Lib.hid (HRA.out.keep fun u l hr => hr.below (below_drewN (Below.refl _ _) _)), Lib.hid (HRX.out.below (below_drewN (Below.refl _ _) _)), HAI, Lib.hid fun _ => hst⟩
          · obtain ⟨c, hc, hc1, hc2⟩ := stop_noR hst
            obtain ⟨hjn, he⟩ := HGT.out _ _ hc
            have hz : (0 : Int) ≤ (j' : Int) := by omega
            have d1 : decide ((j' : Int) < (s.size : Int)) = true := by simp; omega
            have d3 : ((s[j'].toNat : Int) != 124) = true := by rw [he]; simp; omega
            have d4 : ((s[j'].toNat : Int) != 41) = true := by rw [he]; simp; omega
            have hstf : stopS L j' = false := by simpa using hst
            have HSTF := Lib.hid hstf
            clear hc he hst hstf
            go_wp2_with fail
            go_quiet (fail)
            go_wp2_with fail
            have hBd : Below wr.heap.size wr (wr.drewN nq) := below_drewN (Below.refl _ _) _
            have HRXd := Lib.hid (HRX.out.below hBd)
            have HRAd := Lib.hid (HRA.out.keep fun u l hr => hr.below hBd)
            have HOAd := Lib.hid (own_below' HOA.out hBd)
            have hszd : wo.heap.size ≤ (wr.drewN nq).heap.size := HRXd.out.grow.size
            clear hBd
            generalize wr.drewN nq = wd at *
            refine (HAT.out j' wd (by omega) hjn HRXd.out.here).mono ?_
            rintro e x1 ⟨g, cap, l, j2, bad2, rfl, hrow, hrw, ho⟩
            have HX1 := Lib.hid (HRXd.out.trans hrw)
            have hrbo : rb < wo.heap.size := by omega
            have HR1 := Lib.hid (HRAd.out.keep fun u l hr => hr.grown hrw.grow hrbo)
            have HN1 := Lib.hid (hrow.lower hszd)
            have HO1 := Lib.hid (own_one HOAd.out hrw.grow hrbo)
            have HAI2 := Lib.hid (HAI.out.more HSTF.out ho)
            have hx1 := HX1.out.grow.size
            have HG3 : Hid (badM bad2 (s.size - j2) < gk - 1 ∧ 0 < gk) := Lib.hid (by
              have h1 := HG2.out
              have h0 := ho.1
              rw [badM_none] at h1
              cases bad2 with
              | some k => exact ⟨by show 0 < gk - 1; omega, by omega⟩
              | none =>
                obtain ⟨_, t, _, _, h4, h5, h6⟩ := ho
                rw [HLZ.out] at h5
                rw [badM_none]
                omega)
            clear hrow hrw ho HG2
            go_wp2_with (at_builtin; refine wpList_append_own _ rfl (.tmp 61) (.tmp 63) _ rfl wo.heap.size 22 r0' _ 1 24 Tryz.underlying69 hri0 hrz0 hrz1 hrz2 rfl (by omega) _ rows.length vs rfl (HO1.out.alloc _) ⟨x1.heap.size, 0, none⟩ 1 1 [.slice (some ⟨g, 0, none⟩) l.length cap] rfl rfl (new_oneR _ _ _ _ rfl) (by intro u hu; simp at hu; subst hu; rfl) (by unfold maxLen; omega) (by omega) (by simp; omega) ?_)
            intro v' w' hown' hg' _
            have hBa : Below x1.heap.size x1 (x1.alloc (.cells #[.slice (some ⟨g, 0, none⟩) l.length cap] 22)) := (Below.refl _ _).alloc (Nat.le_refl _) _
            have HO2 : Hid (w'.ownsRow wo.heap.size 22 1 v' (rows ++ [l]).length (vs ++ [.slice (some ⟨g, 0, none⟩) l.length cap])) := Lib.hid (by rw [List.length_append]; exact hown')
            have HR2 : Hid (RowsAt w' wo.heap.size (vs ++ [.slice (some ⟨g, 0, none⟩) l.length cap]) (rows ++ [l])) := Lib.hid ((HR1.out.snoc HN1.out).keep fun u l hr => (hr.below hBa).app (HO1.out.alloc _) hg')
            have HX2 : Hid (RW wo rb s j2 bad2 w') := Lib.hid ((HX1.out.alloc _).own (HO1.out.alloc _) (Nat.le_refl _) hg')
            clear hown' hg' hBa
            go_wp2_with fail
            go_roundg (gk - 1)
            case rel => exact ⟨j2, bad2, _, _, HO2, HR2, HX2, HAI2, Lib.hid HG3.out.1⟩
            all_goals (have := HG3.out.2; omega)
    case rest =>
      rename World => wa
      obtain ⟨j', bad, vs, rows, HOA, HRA, HRX, HAI, HST⟩ := hcut
      have HRO := Lib.hid (HAI.out.row HST.out)
      have hlen := HAI.out.len
      rw [HLZ.out] at hlen
      have hrl := sumN_len rows
      have HLN : Hid (sumN rows ≤ 402) := Lib.hid (by omega)
      have hrl2 : rows.length ≤ 402 := by omega
      obtain ⟨A, cap, rfl, hcap, hcap2, hmf⟩ := own_form0 HOA.out
      have HMF := Lib.hid hmf
      have HRD := HRA
      have hLO := HRX.out.grow.size
      clear hmf hlen hrl q2 HAI HST
      go_wp2_with fail
      go_loopw [6, 7] (fun vx vi wx => ∃ (k : Nat) (q : Int), k ≤ rows.length ∧ q = (k : Int) - 1 ∧ vi = .int .i64 q ∧ Hid (True → RowIn wx wo.heap.size vx (joinN 3 [⟨2, zc⟩] (rows.drop k))) ∧ Hid (Below wa.heap.size wa wx)) (fun _ vi _ => (intOf vi + 1).toNat)
      case atStart => exact ⟨rows.length, _, Nat.le_refl _, rfl, by go_num, Lib.hid (fun _ => by rw [List.drop_length]; exact new_node _ _ rfl hLO 2 0 0 0 0), Lib.hid ((Below.refl _ _).alloc (Nat.le_refl _) _)⟩
      case round =>
        obtain ⟨k, q, hk, hq, rfl, HJ, HB⟩ := hrel
        have hsz := HB.out.size
        cases k with
        | zero =>
          obtain rfl : q = -1 := by omega
          clear hq hk
          have hJ := HJ.out trivial
          rw [List.drop_zero] at hJ
          obtain ⟨sd, hsd⟩ : ∃ sd, sd = joinN 3 [⟨2, zc⟩] rows := ⟨_, rfl⟩
          rw [← hsd] at hJ HRO
          clear hsd
          have HSD := Lib.hid hJ
          obtain ⟨g6, cap6, rfl, hs0, hsc, hcp6, hlo6, hg6, _⟩ := hJ.form
          have HX := Lib.hid (HRX.out.below HB.out)
          have HXW := Lib.hid (HRW.out.trans HX.out)
          have hrbw : rb < w.heap.size := hrb
          have HS1 := Lib.hid (own_one HOS.out HX.out.grow hrbw)
          have HSR1 := Lib.hid (HRS.out.keep fun u l hr => hr.grown HX.out.grow hrbw)
          have hsl : sides.length ≤ 402 := by
            obtain ⟨_, _, _, _, _, _, h2, h3⟩ := HSI.out
            rw [HLZ.out] at h2
            have := sumN_len sides
            omega
          have hww : w.heap.size ≤ wr.heap.size := HXW.out.grow.size
          have HSDW := Lib.hid (HSD.out.lower hW)
          clear hJ HJ
          go_wp2_with (at_builtin; refine wpList_append_own _ rfl (.tmp 94) (.tmp 96) _ rfl w.heap.size 22 r0' _ 1 24 Tryz.underlying69 hri0 hrz0 hrz1 hrz2 rfl (by omega) _ sides.length vS rfl (HS1.out.alloc _) ⟨wr.heap.size, 0, none⟩ 1 1 [.slice (some ⟨g6, 0, none⟩) sd.length cap6] rfl rfl (new_oneR _ _ _ _ rfl) (by intro u hu; simp at hu; subst hu; rfl) (by unfold maxLen; omega) (by omega) (by simp; omega) ?_)
          intro v' w5 hown' hg' _
          have hBa : Below wr.heap.size wr (wr.alloc (.cells #[.slice (some ⟨g6, 0, none⟩) sd.length cap6] 22)) := (Below.refl _ _).alloc (Nat.le_refl _) _
          have HO5 : Hid (w5.ownsRow w.heap.size 22 1 v' (sides ++ [sd]).length (vS ++ [.slice (some ⟨g6, 0, none⟩) sd.length cap6])) := Lib.hid (by rw [List.length_append]; exact hown')
          have HR5 : Hid (RowsAt w5 w.heap.size (vS ++ [.slice (some ⟨g6, 0, none⟩) sd.length cap6]) (sides ++ [sd])) := Lib.hid ((HSR1.out.snoc HSDW.out).keep fun u l hr => (hr.below hBa).app (HS1.out.alloc _) hg')
          have HX5 : Hid (RW w rb s j' bad w5) := Lib.hid ((HXW.out.alloc _).own (HS1.out.alloc _) (Nat.le_refl _) hg')
          clear hown' hg' hBa
          by_cases hm : bad = none ∧ L[j']? = some 124
          · obtain ⟨rfl, hm⟩ := hm
            have HSI2 := Lib.hid (HSI.out.more HRO.out hm)
            have HG2 : Hid (s.size - (j' + 1) + 1 < gk - 1 ∧ 0 < gk) := Lib.hid (by
              have h1 := HG.out
              obtain ⟨_, _, _, _, h4, h5, _⟩ := HRO.out
              have h6 := getE_lt hm
              rw [HLZ.out] at h6
              omega)
            have hjx : j' + 1 ≤ s.size := by have := getE_lt hm; rw [HLZ.out] at this; omega
            clear HG HSI
            go_wp2_with fail
            refine (HSY.out j' _ hm HX5.out).mono ?_
            rintro e w6 ⟨rfl, hb6⟩
            have HX6 := Lib.hid (HX5.out.below hb6)
            have HO6 := Lib.hid (own_below' HO5.out hb6)
            have HR6 := Lib.hid (HR5.out.keep fun u l hr => hr.below hb6)
            clear hb6
            have r0 := HX6.out.c0
            have r1 := HX6.out.c1
            have rf := HX6.out.f1
            go_wp2_with fail
            go_roundg (gk - 1)
            case rel => exact ⟨j' + 1, _, _, Lib.hid (own_one HO6.out (HX6.out.here.step).grow hrbw), Lib.hid (HR6.out.keep fun u l hr => hr.step hrbw), Lib.hid HX6.out.step, HSI2, Lib.hid HG2.out.1⟩
            all_goals (have := HG2.out.2; omega)
          · have hm2 : bad = none → j' ≤ s.size ∧ L[j']? ≠ some 124 := by
              rintro rfl
              obtain ⟨_, _, _, _, _, h5, _⟩ := HRO.out
              rw [HLZ.out] at h5
              exact ⟨h5, fun e => hm ⟨rfl, e⟩⟩
            have HSO := Lib.hid (HSI.out.last HRO.out fun e => (hm2 e).2)
            have HM2 := Lib.hid hm2
            clear hm hm2 HSI HG
            go_wp2_with fail
            refine (HSN.out j' bad _ HM2.out HX5.out).mono ?_
            rintro e x6 ⟨rfl, hb6⟩
            have HX6 := Lib.hid (HX5.out.below hb6)
            have HO6 := Lib.hid (own_below' HO5.out hb6)
            have HRD2 := Lib.hid (HR5.out.keep fun u l hr => hr.below hb6)
            clear hb6
            obtain ⟨R2, hR2⟩ : ∃ R2, R2 = sides ++ [sd] := ⟨_, rfl⟩
            obtain ⟨V2, hV2⟩ : ∃ V2, V2 = vS ++ [.slice (some ⟨g6, 0, none⟩) sd.length cap6] := ⟨_, rfl⟩
            rw [← hR2] at HSO HO6 HRD2
            rw [← hV2] at HO6 HRD2
            clear hR2 hV2 HO5 HR5 HRD HMF HLN hLO
            have hlen2 := HSO.out.len
            rw [HLZ.out] at hlen2
            have hrl3 := sumN_len R2
            have hR0 : 0 < R2.length := hlen2.2
            have HLN : Hid (sumN R2 ≤ 402) := Lib.hid (by omega)
            have hrl4 : R2.length ≤ 402 := by omega
            obtain ⟨A2, cap2', rfl, hcapb, hcapb2, hmf⟩ := own_form0 HO6.out
            have HMF := Lib.hid hmf
            have HRD := HRD2
            have hLO := HX6.out.grow.size
            clear hmf hlen2 hrl3
            go_wp2_with fail
            go_loopw [10, 11] (fun vx vi wx => ∃ (k : Nat) (q : Int), k ≤ R2.length ∧ q = (k : Int) - 1 ∧ vi = .int .i64 q ∧ Hid (k < R2.length → RowIn wx w.heap.size vx (joinN 4 [] (R2.drop k))) ∧ Hid (Below x6.heap.size x6 wx)) (fun _ vi _ => (intOf vi + 1).toNat)
            case atStart => exact ⟨R2.length, _, Nat.le_refl _, rfl, by go_num, Lib.hid (fun h => absurd h (Nat.lt_irrefl _)), Lib.hid (Below.refl _ _)⟩
            case round =>
              obtain ⟨k, q, hk, hq, rfl, HJ, HB⟩ := hrel
              have hsz := HB.out.size
              cases k with
              | zero =>
                obtain rfl : q = -1 := by omega
                clear hq hk
                have hJ := HJ.out hR0
                rw [List.drop_zero] at hJ
                have HAO := Lib.hid HSO.out.all
                obtain ⟨sd2, hsd2⟩ : ∃ sd2, sd2 = joinN 4 [] R2 := ⟨_, rfl⟩
                rw [← hsd2] at hJ HAO
                clear hsd2
                have HJJ := Lib.hid hJ
                obtain ⟨g7, cap7, rfl, hs7, _, _, _, _, _⟩ := hJ.form
                have HX7 := Lib.hid (HX6.out.below HB.out)
                clear hJ HJ
                go_wp2_with fail
                go_ret
                exact ⟨g7, cap7, sd2, j', bad, rfl, HJJ.out, HX7.out, HAO.out⟩
              | succ m =>
                obtain rfl : q = (m : Int) := by push_cast at hq; omega
                clear hq
                obtain ⟨u, hu⟩ : ∃ u, V2[m]? = some u := ⟨_, List.getElem?_eq_getElem (by rw [HRD.out.1]; omega)⟩
                obtain ⟨l, hl⟩ : ∃ l, R2[m]? = some l := ⟨_, List.getElem?_eq_getElem (by omega)⟩
                have hRm := (HRD.out.2 m u l hu hl).keep (w' := wr) fun q _ hq => HB.out.block q hq
                obtain ⟨ga, rfl, hga, hcs⟩ := HMF.out (by omega)
                have hcell := hcs wr (HB.out.block ga hga) m u hu
                have hga2 : ga < wr.heap.size := by omega
                have hcell2 := hcs (wr.alloc (.cells #[.int .i64 4, .int .u64 0, .int .u64 0, .int .u64 0, .int .u64 0] 41)) ((Below.heap_alloc _ _ _ hga2).trans (HB.out.block ga hga)) m u hu
                have HRM := Lib.hid hRm
                obtain ⟨g1, cap1, rfl, hl0, hlc, hcap1, hlo1, hg1, hcs1⟩ := hRm.form
                have HC1 := Lib.hid hcs1
                have hll : l.length + 1 ≤ 402 := Nat.le_trans (sumN_get R2 m l hl) HLN.out
                have hm1 : (m : Int) < (R2.length : Int) := by omega
                have HL := Lib.hid hl
                clear hcs hu hl hcs1 hRm
                by_cases hlast : m + 1 = R2.length
                · have d : ((m : Int) == (R2.length : Int) - 1) = true := by simp; omega
                  have HN : Hid (joinN 4 [] (R2.drop m) = l) := Lib.hid (joinN_last 4 [] HL.out hlast)
                  clear hlast
                  go_wp2_with fail
                  go_roundw
                  case rel => exact ⟨m, _, by omega, rfl, by go_num, Lib.hid fun _ => by rw [HN.out]; exact HRM.out, HB⟩
                  case measure => simp [intOf]
                · have d : ((m : Int) == (R2.length : Int) - 1) = false := by simp; omega
                  have hlt : m + 1 < R2.length := by omega
                  have HN := Lib.hid (joinN_step 4 [] HL.out hlt)
                  have hJ := HJ.out (by omega)
                  have hle := joinN_len 4 [] (R2.drop (m + 1))
                  have hle2 := sumN_drop R2 (m + 1)
                  obtain ⟨sd, hsd⟩ : ∃ sd, sd = joinN 4 [] (R2.drop (m + 1)) := ⟨_, rfl⟩
                  rw [← hsd] at HN hJ hle
                  obtain ⟨g2, cap2, rfl, hs0, hsc, hcap2, hlo2, hg2, hcs2⟩ := hJ.form
                  have hsl : sd.length ≤ 403 := by
                    have h1 := HLN.out
                    simp at hle
                    omega
                  have HC2 := Lib.hid hcs2
                  have HO : Hid ((wr.alloc (.cells #[.int .i64 4, .int .u64 0, .int .u64 0, .int .u64 0, .int .u64 0] 41)).ownsRow x6.heap.size 41 5 (.slice (some ⟨wr.heap.size, 0, none⟩) 1 1) 1 [.int .i64 4, .int .u64 0, .int .u64 0, .int .u64 0, .int .u64 0]) := Lib.hid (own_blk (Blk.new _ _ _) hsz)
                  have HSRC := Lib.hid (HC1.out (wr.alloc (.cells #[.int .i64 4, .int .u64 0, .int .u64 0, .int .u64 0, .int .u64 0] 41)) (Below.heap_alloc _ _ _ hg1))
                  have HNL : Hid ((l.flatMap ndCells).length = l.length * 5) := Lib.hid (flatMap_len l)
                  have HONE := Lib.hid (ndCells_one l)
                  have HNL2 : Hid ((sd.flatMap ndCells).length = sd.length * 5) := Lib.hid (flatMap_len sd)
                  have HONE2 := Lib.hid (ndCells_one sd)
                  have hbase : x6.heap.size ≤ (wr.alloc (.cells #[.int .i64 4, .int .u64 0, .int .u64 0, .int .u64 0, .int .u64 0] 41)).heap.size := by simp; omega
                  have HBA : Hid (Below x6.heap.size x6 (wr.alloc (.cells #[.int .i64 4, .int .u64 0, .int .u64 0, .int .u64 0, .int .u64 0] 41))) := Lib.hid (HB.out.alloc hsz _)
                  clear hsd hJ hle hle2 hcs2 HJ
                  go_wp2_with (first
                    | (at_builtin; refine wpList_append_lies _ rfl (.tmp 127) (.tmp 131) _ rfl x6.heap.size 41 i0 _ 5 40 Tryz.underlying22 hi0 hz0 hz1 hz2 rfl (by omega) _ 1 _ rfl HO.out ⟨g1, 0, none⟩ l.length _ (l.flatMap ndCells) rfl HNL.out HSRC.out HONE.out hl0 (by unfold maxLen; omega) (by omega) hbase _ rfl ?_; intro g3 cap3 w3 hown3 hgrow3 hat3 hlt3; have HGR := Lib.hid hgrow3; have HO3 := Lib.hid hown3; have hs3 := hgrow3.size; have HSY : Hid (∀ (j : Nat) (u : Value), (sd.flatMap ndCells)[j]? = some u → w3.cell? ((⟨g2, 0, none⟩ : Addr).add j) = some u) := Lib.hid (HC2.out w3 ((hgrow3.block g2 (by simp; omega) (fun e => absurd (show g2 = wr.heap.size from Option.some.inj e) (by omega))).trans (Below.heap_alloc _ _ _ hg2))); have hbase3 : x6.heap.size ≤ w3.heap.size := (by omega); clear hown3 hgrow3 hat3)
                    | (at_builtin; refine wpList_append_lies _ rfl (.tmp 133) (.tmp 134) _ rfl x6.heap.size 41 i0 _ 5 40 Tryz.underlying22 hi0 hz0 hz1 hz2 rfl (by omega) _ (1 + l.length) _ rfl HO3.out ⟨g2, 0, none⟩ sd.length _ (sd.flatMap ndCells) rfl HNL2.out HSY.out HONE2.out hs0 (by unfold maxLen; omega) (by omega) hbase3 _ rfl ?_; intro g4 cap4 w4 hown4 hgrow4 hat4 hlt4))
                  have HR4 : Hid (RowIn w4 w.heap.size (.slice (some ⟨g4, 0, none⟩) (1 + l.length + sd.length) cap4) (joinN 4 [] (R2.drop m))) := Lib.hid (by
                    have e1 : 1 + l.length + sd.length = (⟨4, zc⟩ :: (l ++ sd) : List Nd).length := by simp; omega
                    have e2 : [Value.int .i64 4, .int .u64 0, .int .u64 0, .int .u64 0, .int .u64 0] ++ l.flatMap ndCells ++ sd.flatMap ndCells = (⟨4, zc⟩ :: (l ++ sd) : List Nd).flatMap ndCells := by simp [List.flatMap_append, ndCells, zc]
                    rw [HN.out]
                    rw [e1, e2] at hown4
                    rw [e1]
                    exact (RowIn.of_own hown4 (by simp)).lower hLO)
                  have HB4 : Hid (Below x6.heap.size x6 w4) := Lib.hid ((HBA.out.grown HGR.out hbase fun q hq => (HO.out.lt q hq).1).grown hgrow4 hbase3 fun q hq => (HO3.out.lt q hq).1)
                  clear hown4 hgrow4
                  go_wp2_with fail
                  go_roundw
                  case rel => exact ⟨m, _, by omega, rfl, by go_num, Lib.hid fun _ => HR4.out, HB4⟩
                  case measure => simp [intOf]
        | succ m =>
          obtain rfl : q = (m : Int) := by push_cast at hq; omega
          clear hq
          obtain ⟨u, hu⟩ : ∃ u, vs[m]? = some u := ⟨_, List.getElem?_eq_getElem (by rw [HRD.out.1]; omega)⟩
          obtain ⟨l, hl⟩ : ∃ l, rows[m]? = some l := ⟨_, List.getElem?_eq_getElem (by omega)⟩
          have hRm := (HRD.out.2 m u l hu hl).keep (w' := wr) fun q _ hq => HB.out.block q hq
          obtain ⟨ga, rfl, hga, hcs⟩ := HMF.out (by omega)
          have hcell := hcs wr (HB.out.block ga hga) m u hu
          have hga2 : ga < wr.heap.size := by omega
          have hcell2 := hcs (wr.alloc (.cells #[.int .i64 3, .int .u64 0, .int .u64 0, .int .u64 0, .int .u64 0] 41)) ((Below.heap_alloc _ _ _ hga2).trans (HB.out.block ga hga)) m u hu
          have HRM := Lib.hid hRm
          obtain ⟨g1, cap1, rfl, hl0, hlc, hcap1, hlo1, hg1, hcs1⟩ := hRm.form
          have HC1 := Lib.hid hcs1
          have hll : l.length + 1 ≤ 402 := Nat.le_trans (sumN_get rows m l hl) HLN.out
          have hm1 : (m : Int) < (rows.length : Int) := by omega
          have HL := Lib.hid hl
          clear hcs hu hl hcs1 hRm
          by_cases hlast : m + 1 = rows.length
          · have d : ((m : Int) == (rows.length : Int) - 1) = true := by simp; omega
            have HN : Hid (joinN 3 [⟨2, zc⟩] (rows.drop m) = l) := Lib.hid (joinN_last 3 [⟨2, zc⟩] HL.out hlast)
            clear hlast
            go_wp2_with fail
            go_roundw
            case rel => exact ⟨m, _, by omega, rfl, by go_num, Lib.hid fun _ => by rw [HN.out]; exact HRM.out, HB⟩
            case measure => simp [intOf]
          · have d : ((m : Int) == (rows.length : Int) - 1) = false := by simp; omega
            have hlt : m + 1 < rows.length := by omega
            have HN := Lib.hid (joinN_step 3 [⟨2, zc⟩] HL.out hlt)
            have hJ := HJ.out (trivial)
            have hle := joinN_len 3 [⟨2, zc⟩] (rows.drop (m + 1))
            have hle2 := sumN_drop rows (m + 1)
            obtain ⟨sd, hsd⟩ : ∃ sd, sd = joinN 3 [⟨2, zc⟩] (rows.drop (m + 1)) := ⟨_, rfl⟩
            rw [← hsd] at HN hJ hle
            obtain ⟨g2, cap2, rfl, hs0, hsc, hcap2, hlo2, hg2, hcs2⟩ := hJ.form
            have hsl : sd.length ≤ 403 := by
              have h1 := HLN.out
              simp at hle
              omega
            have HC2 := Lib.hid hcs2
            have HO : Hid ((wr.alloc (.cells #[.int .i64 3, .int .u64 0, .int .u64 0, .int .u64 0, .int .u64 0] 41)).ownsRow wa.heap.size 41 5 (.slice (some ⟨wr.heap.size, 0, none⟩) 1 1) 1 [.int .i64 3, .int .u64 0, .int .u64 0, .int .u64 0, .int .u64 0]) := Lib.hid (own_blk (Blk.new _ _ _) hsz)
            have HSRC := Lib.hid (HC1.out (wr.alloc (.cells #[.int .i64 3, .int .u64 0, .int .u64 0, .int .u64 0, .int .u64 0] 41)) (Below.heap_alloc _ _ _ hg1))
            have HNL : Hid ((l.flatMap ndCells).length = l.length * 5) := Lib.hid (flatMap_len l)
            have HONE := Lib.hid (ndCells_one l)
            have HNL2 : Hid ((sd.flatMap ndCells).length = sd.length * 5) := Lib.hid (flatMap_len sd)
            have HONE2 := Lib.hid (ndCells_one sd)
            have hbase : wa.heap.size ≤ (wr.alloc (.cells #[.int .i64 3, .int .u64 0, .int .u64 0, .int .u64 0, .int .u64 0] 41)).heap.size := by simp; omega
            have HBA : Hid (Below wa.heap.size wa (wr.alloc (.cells #[.int .i64 3, .int .u64 0, .int .u64 0, .int .u64 0, .int .u64 0] 41))) := Lib.hid (HB.out.alloc hsz _)
            clear hsd hJ hle hle2 hcs2 HJ
            go_wp2_with (first
              | (at_builtin; refine wpList_append_lies _ rfl (.tmp 85) (.tmp 89) _ rfl wa.heap.size 41 i0 _ 5 40 Tryz.underlying22 hi0 hz0 hz1 hz2 rfl (by omega) _ 1 _ rfl HO.out ⟨g1, 0, none⟩ l.length _ (l.flatMap ndCells) rfl HNL.out HSRC.out HONE.out hl0 (by unfold maxLen; omega) (by omega) hbase _ rfl ?_; intro g3 cap3 w3 hown3 hgrow3 hat3 hlt3; have HGR := Lib.hid hgrow3; have HO3 := Lib.hid hown3; have hs3 := hgrow3.size; have HSY : Hid (∀ (j : Nat) (u : Value), (sd.flatMap ndCells)[j]? = some u → w3.cell? ((⟨g2, 0, none⟩ : Addr).add j) = some u) := Lib.hid (HC2.out w3 ((hgrow3.block g2 (by simp; omega) (fun e => absurd (show g2 = wr.heap.size from Option.some.inj e) (by omega))).trans (Below.heap_alloc _ _ _ hg2))); have hbase3 : wa.heap.size ≤ w3.heap.size := (by omega); clear hown3 hgrow3 hat3)
              | (at_builtin; refine wpList_append_lies _ rfl (.tmp 91) (.tmp 92) _ rfl wa.heap.size 41 i0 _ 5 40 Tryz.underlying22 hi0 hz0 hz1 hz2 rfl (by omega) _ (1 + l.length) _ rfl HO3.out ⟨g2, 0, none⟩ sd.length _ (sd.flatMap ndCells) rfl HNL2.out HSY.out HONE2.out hs0 (by unfold maxLen; omega) (by omega) hbase3 _ rfl ?_; intro g4 cap4 w4 hown4 hgrow4 hat4 hlt4))
            have HR4 : Hid (RowIn w4 wo.heap.size (.slice (some ⟨g4, 0, none⟩) (1 + l.length + sd.length) cap4) (joinN 3 [⟨2, zc⟩] (rows.drop m))) := Lib.hid (by
              have e1 : 1 + l.length + sd.length = (⟨3, zc⟩ :: (l ++ sd) : List Nd).length := by simp; omega
              have e2 : [Value.int .i64 3, .int .u64 0, .int .u64 0, .int .u64 0, .int .u64 0] ++ l.flatMap ndCells ++ sd.flatMap ndCells = (⟨3, zc⟩ :: (l ++ sd) : List Nd).flatMap ndCells := by simp [List.flatMap_append, ndCells, zc]
              rw [HN.out]
              rw [e1, e2] at hown4
              rw [e1]
              exact (RowIn.of_own hown4 (by simp)).lower hLO)
            have HB4 : Hid (Below wa.heap.size wa w4) := Lib.hid ((HBA.out.grown HGR.out hbase fun q hq => (HO.out.lt q hq).1).grown hgrow4 hbase3 fun q hq => (HO3.out.lt q hq).1)
            clear hown4 hgrow4
            go_wp2_with fail
            go_roundw
            case rel => exact ⟨m, _, by omega, rfl, by go_num, Lib.hid fun _ => HR4.out, HB4⟩
            case measure => simp [intOf]
end Go.Proofs.YthcahjnniendnacGreatDoor
