/-
  Walks of the fitter's then and often, by what its from does at a part.
-/
import Derived.Test.YthcahjnniendnabDoorMeanA
import Derived.Test.YthcahjnniendnabDoorQueue
namespace Go.Proofs.YthcahjnniendnabDoor
open Go.RowKit Wf

theorem grown_new {w w1 w2 : World} {M p : Nat} (h : w.grownBy w1 (some M)) (h2 : w1.grownBy w2 (some p)) (hp : w.heap.size ≤ p) : w.grownBy w2 (some M) :=
  ⟨h2.os.trans h.os, h2.tape.trans h.tape, h2.output.trans h.output, Nat.le_trans h.size h2.size, fun i hi hne =>
    (h2.block i (Nat.lt_of_lt_of_le hi h.size) (fun e => by have := Option.some.inj e; omega)).trans (h.block i hi hne)⟩
theorem grown_below {w w1 w2 : World} {M : Nat} (h : w.grownBy w1 (some M)) (h2 : Below w1.heap.size w1 w2) : w.grownBy w2 (some M) :=
  ⟨h2.os.trans h.os, h2.tape.trans h.tape, h2.output.trans h.output, Nat.le_trans h.size h2.size, fun i hi hne => (h2.block i (Nat.lt_of_lt_of_le hi h.size)).trans (h.block i hi hne)⟩

section
variable (l : List Nd) (s : ByteArray) (b off cap ge F M : Nat)

/-- What 'from' leaves: a row of marks that is not ours, the fitter as it wants to be, nothing turned but its map. -/
def FromIs (O P : Nat → Prop) (w : World) (e : Ending) (w' : World) : Prop :=
  ∃ g, e = .returned (.slice (some ⟨g, 0, none⟩) (s.size + 1) (s.size + 1)) ∧ ¬ O g ∧ Pl w' g s.size P ∧ FEnv l s b off cap ge F M O w' ∧ w.grownBy w' (some M)

/-- What 'fit', 'then' and 'often' leave: likewise, and the row is new. -/
def FitIs (O P : Nat → Prop) (w : World) (e : Ending) (w' : World) : Prop :=
  ∃ g, e = .returned (.slice (some ⟨g, 0, none⟩) (s.size + 1) (s.size + 1)) ∧ w.heap.size ≤ g ∧ Pl w' g s.size P ∧ FEnv l s b off cap ge F M O w' ∧ w.grownBy w' (some M)

/-- 'from' does what it ought at a part. -/
def FromC (u : Rx) : Prop := ∀ (O : Nat → Prop) (i k : Nat) (w : World), At l i u → k ≤ s.size → FEnv l s b off cap ge F M O w →
  Calls Tryd.prog 59 #[.pointer (some ⟨F, 0, none⟩), .int .i64 (i : Int), .int .i64 (k : Int)] w (FromIs l s b off cap ge F M O (Fits s.data.toList u k) w)
end

section
variable {l : List Nd} {s : ByteArray} {b off cap ge F M : Nat} {O : Nat → Prop} {w w' : World}

theorem FEnv.neM (h : FEnv l s b off cap ge F M O w) {g n : Nat} {P : Nat → Prop} (hp : Pl w g n P) : g ≠ M := by
  rintro rfl
  obtain ⟨es, clock, hm, _⟩ := h.hm
  obtain ⟨cs, hb, _⟩ := hp
  unfold Blk at hb
  rw [hm] at hb
  cases hb

theorem FEnv.text (h : FEnv l s b off cap ge F M O w) : w.cell? ⟨F, 2, none⟩ = some (.string s) := h.hf.cell 2

set_option maxRecDepth 100000 in
set_option maxHeartbeats 4000000 in
theorem then_any (u : Rx) (hfrom : FromC l s b off cap ge F M u) (hs : s.size ≤ 400) (i gp : Nat) (P : Nat → Prop) (hu : At l i u) (hp : Pl w gp s.size P) (henv : FEnv l s b off cap ge F M O w) :
    Calls Tryd.prog 111 #[.pointer (some ⟨F, 0, none⟩), .slice (some ⟨gp, 0, none⟩) (s.size + 1) (s.size + 1), .int .i64 (i : Int)] w
      (FitIs l s b off cap ge F M O (fun j => ∃ q, q ≤ s.size ∧ P q ∧ Fits s.data.toList u q j) w) := by
  have HF := Lib.hid hfrom
  have HU := Lib.hid hu
  have HP := Lib.hid hp
  have HE := Lib.hid henv
  clear hfrom hu hp henv
  go_enter Tryd.func111, Tryd.ntmps111
  go_wp2_with fail
  refine (none_any F s hs _ HE.out.text).mono ?_
  rintro e w1 ⟨rfl, hp1, hb1, hlt1⟩
  have henv1 := HE.out.own hb1 (Nat.le_refl _) hlt1
  have hg1 := grown_of_below hb1 (some M)
  have HPP := Lib.hid (HP.out.below hb1)
  have HP1 := Lib.hid (hp1.iff (Q := fun j => ∃ q, q < 0 ∧ P q ∧ Fits s.data.toList u q j) fun j _ => by simp)
  have HE1 := Lib.hid henv1
  have HG1 := Lib.hid hg1
  clear henv1 hg1 hp1 hb1
  go_wp2_with fail
  go_loopw [14] (fun v14 wr => ∃ k : Nat, k ≤ s.size + 1 ∧ v14 = .int .i64 (k : Int) ∧ Hid (Pl wr w.heap.size s.size (fun j => ∃ q, q < k ∧ P q ∧ Fits s.data.toList u q j)) ∧ Hid (Pl wr gp s.size P) ∧
      Hid (FEnv l s b off cap ge F M (fun x => O x ∨ x = w.heap.size) wr) ∧ Hid (w.grownBy wr (some M))) (fun i _ => s.size + 1 - (intOf i).toNat)
  case atStart => exact ⟨0, by omega, rfl, HP1, HPP, HE1, HG1⟩
  case round =>
    obtain ⟨k, hk, rfl, hP, hQ, hE, hG⟩ := hrel
    by_cases hlt : k < s.size + 1
    · obtain ⟨x, hx, hx'⟩ := hQ.out.cell k (by omega)
      have hk1 : (k : Int) < (s.size : Int) + 1 := by omega
      have HX := Lib.hid hx'
      clear hx'
      cases x
      · go_wp2
        go_roundw
        case rel =>
          refine ⟨k + 1, by omega, by go_num, Lib.hid (hP.out.iff fun j hj => ?_), hQ, hE, hG⟩
          have hno : ¬ P k := fun h => by have := HX.out.2 h; cases this
          constructor
          · rintro ⟨q, h1, h2, h3⟩; exact ⟨q, by omega, h2, h3⟩
          · rintro ⟨q, h1, h2, h3⟩
            have : q ≠ k := fun e => hno (e ▸ h2)
            exact ⟨q, by omega, h2, h3⟩
        case measure => simp [intOf]; omega
      · go_wp2_with fail
        refine (HF.out _ i k _ HU.out (by omega) hE.out).mono ?_
        rintro e w2 ⟨g, rfl, hO2, hp2, henv2, hg2⟩
        have hne : w.heap.size ≠ g := fun h => hO2 (.inr h.symm)
        have hneM : (some w.heap.size : Option Nat) ≠ some M := fun h => by have := HE.out.ltM; have := Option.some.inj h; omega
        have HPa := Lib.hid (hP.out.kept hg2 hneM)
        have HQa := Lib.hid (hQ.out.kept hg2 (fun h => hE.out.neM hQ.out (Option.some.inj h)))
        have HGa := Lib.hid (hG.out.trans hg2)
        have HP2 := Lib.hid hp2
        have HE2 := Lib.hid henv2
        have hneq : w.heap.size ≠ gp := fun h => by have := HP.out.lt; omega
        clear hp2 henv2 hg2 hO2
        go_wp2_with fail
        refine (add_any _ _ s.size _ _ hne hs _ HPa.out HP2.out).mono ?_
        rintro e w3 ⟨rfl, hp3, hg3⟩
        have HP3 := Lib.hid hp3
        have HG3 := Lib.hid hg3
        clear hp3 hg3
        go_wp2_with fail
        go_roundw
        case rel =>
          refine ⟨k + 1, by omega, by go_num, Lib.hid (HP3.out.iff fun j hj => ?_), Lib.hid (HQa.out.kept HG3.out (fun h => hneq (Option.some.inj h).symm)), Lib.hid (HE2.out.put (.inr rfl) HG3.out), Lib.hid (grown_new HGa.out HG3.out (Nat.le_refl _))⟩
          have hyes : P k := HX.out.1 (by simp)
          constructor
          · rintro (⟨q, h1, h2, h3⟩ | h)
            · exact ⟨q, by omega, h2, h3⟩
            · exact ⟨k, by omega, hyes, h⟩
          · rintro ⟨q, h1, h2, h3⟩
            by_cases e : q = k
            · subst e; exact .inr h3
            · exact .inl ⟨q, by omega, h2, h3⟩
        case measure => simp [intOf]; omega
    · obtain rfl : k = s.size + 1 := by omega
      go_wp2
      go_ret
      refine ⟨_, rfl, Nat.le_refl _, hP.out.iff fun j hj => ?_, hE.out.less (fun x h => .inl h), hG.out⟩
      constructor
      · rintro ⟨q, h1, h2, h3⟩; exact ⟨q, by omega, h2, h3⟩
      · rintro ⟨q, h1, h2, h3⟩; exact ⟨q, by omega, h2, h3⟩

theorem Pl.ne_blk {w : World} {g n q : Nat} {P : Nat → Prop} {cur : Array Value} {t : TypeId} (h : Pl w g n P) (hc : w.heap[q]? = some (.cells cur t (0, 0))) (ht : t ≠ 4) : g ≠ q := by
  rintro rfl
  obtain ⟨cs, hb, _⟩ := h
  unfold Blk at hb
  rw [hb] at hc
  cases hc
  exact ht rfl

theorem FEnv.putT {q : Nat} {cur : Array Value} {t : TypeId} (h : FEnv l s b off cap ge F M O w) (hc : w.heap[q]? = some (.cells cur t (0, 0))) (ht : t ≠ 4) (hF' : q ≠ F) (hb' : q ≠ b) (hge' : q ≠ ge) (hg : w.grownBy w' (some q)) : FEnv l s b off cap ge F M O w' := by
  have hM := h.ltM
  have hF := h.ltF
  obtain ⟨h1, h2, ⟨es, clock, h3, h4⟩, h5⟩ := h
  have hqM : q ≠ M := by
    rintro rfl
    rw [h3] at hc
    cases hc
  refine ⟨h1.grown hg hb' hge', (hg.block F hF (fun e => hF' (Option.some.inj e).symm)).trans h2, ⟨es, clock, (hg.block M hM (fun e => hqM (Option.some.inj e).symm)).trans h3, fun e he => ?_⟩, fun x hx => ?_⟩
  · obtain ⟨i, k, u, g, q1, q2, q3, q4, q5, q6⟩ := h4 e he
    exact ⟨i, k, u, g, q1, q2, q3, q4, q5, q6.kept hg (fun e => q6.ne_blk hc ht (Option.some.inj e))⟩
  · obtain ⟨a1, a2, a3, a4, a5⟩ := h5 x hx
    exact ⟨a1, a2, a3, a4, Nat.lt_of_lt_of_le a5 hg.size⟩

theorem natVals_snoc (xs : List Nat) (k : Nat) : natVals (xs ++ [k]) = natVals xs ++ [.int .i64 (k : Int)] := by simp [natVals]
theorem natVals_len (xs : List Nat) : (natVals xs).length = xs.length := by simp [natVals]

set_option maxRecDepth 100000 in
set_option maxHeartbeats 8000000 in
theorem often_any (u : Rx) (hfrom : FromC l s b off cap ge F M u) (hs : s.size ≤ 400) (i at_ : Nat) (hat : at_ ≤ s.size) (hu : At l i u) (henv : FEnv l s b off cap ge F M O w) :
    Calls Tryd.prog 113 #[.pointer (some ⟨F, 0, none⟩), .int .i64 (i : Int), .int .i64 (at_ : Int)] w
      (FitIs l s b off cap ge F M O (fun j => Star (Fits s.data.toList u) at_ j) w) := by
  obtain ⟨i0, hi0, hz0, hz1, hz2⟩ := info_parts info_int
  have HF := Lib.hid hfrom
  have HU := Lib.hid hu
  have HE := Lib.hid henv
  have hbd : ∀ x y, Fits s.data.toList u x y → x ≤ s.size → y ≤ s.size := fun x y h hx => Nat.le_trans (fits_bound _ u x y h (by simpa using hx)).2 (by simp)
  have HBD := Lib.hid hbd
  clear hfrom hu henv hbd
  go_enter Tryd.func113, Tryd.ntmps113
  go_wp2_with fail
  refine (here_any F at_ true s hs hat _ HE.out.text).mono ?_
  rintro e w1 ⟨rfl, hp1, hb1, hlt1⟩
  have HE1 := Lib.hid (HE.out.own hb1 (Nat.le_refl _) hlt1)
  have HG1 := Lib.hid (grown_of_below hb1 (some M))
  have HP1 := Lib.hid (hp1.iff (Q := fun j => (fun j => j == at_) j = true) fun j _ => by simp)
  have hsz1 := hb1.size
  clear hp1 hb1
  go_wp2_with fail
  go_loopg [8] (2 * (s.size + 2) + 1) (fun gk v8 wr => ∃ (g o c : Nat) (D : Nat → Bool) (qs : List Nat), v8 = .slice (some ⟨g, o, none⟩) qs.length c ∧ Hid (Qu wr w1.heap.size 3 g o c (natVals qs)) ∧ Hid (Pl wr w.heap.size s.size (fun j => D j = true)) ∧
      Hid (InvO s.size (Fits s.data.toList u) at_ D qs) ∧ Hid (FEnv l s b off cap ge F M (fun x => O x ∨ x = w.heap.size) wr) ∧ Hid (w.grownBy wr (some M)) ∧ Hid (2 * cnt D s.size + qs.length ≤ gk) ∧ w1.heap.size ≤ wr.heap.size ∧ gk ≤ 2 * (s.size + 2) + 1)
  case atStart =>
    have hal : Below w1.heap.size w1 (w1.alloc (.cells #[.int .i64 (at_ : Int)] 3)) := (Below.refl _ _).alloc (Nat.le_refl _) _
    exact ⟨w1.heap.size, 0, 1, fun j => j == at_, [at_], rfl, Lib.hid (Qu.one w1 _ _ _ rfl (Nat.le_refl _) _), Lib.hid (HP1.out.below hal), Lib.hid (InvO.first hat), Lib.hid (HE1.out.grow hal), Lib.hid (grown_below HG1.out hal), Lib.hid (by have := cnt_le (fun j => j == at_) s.size; simp; omega), by simp, by omega⟩
  case round =>
    obtain ⟨g, o, c, D, qs, rfl, hQ, hP, hI, hE, hG, hM, hsz, hgk⟩ := hrel
    cases qs with
    | nil =>
      go_wp2
      go_ret
      exact ⟨_, rfl, Nat.le_refl _, hP.out.iff fun j hj => hI.out.done HBD.out hat j, hE.out.less (fun x h => .inl h), hG.out⟩
    | cons h rest =>
      have hII := Lib.hid hI.out.open_
      have hhn : h ≤ s.size := (hI.out.sound h (hI.out.wait h (by simp))).1
      have hc0 : wr.cell? ⟨g, o, none⟩ = some (.int .i64 (h : Int)) := by have := hQ.out.cell 0 (.int .i64 (h : Int)) rfl; simpa using this
      have hlen : (h :: rest).length = rest.length + 1 := rfl
      rw [hlen] at hM ⊢
      have hpos : (0 : Int) < (rest.length : Int) + 1 := by omega
      clear hI hlen
      go_wp2_with fail
      refine (HF.out _ i h _ HU.out hhn hE.out).mono ?_
      rintro e w2 ⟨g2, rfl, hO2, hp2, henv2, hg2⟩
      have hneM : g ≠ M := fun hh => by have := HE.out.ltM; have := hQ.out.hbase; omega
      have hneM1 : w.heap.size ≠ M := fun hh => by have := HE.out.ltM; omega
      have HQ2 := Lib.hid (hQ.out.kept hg2 (fun hh => hneM (Option.some.inj hh)))
      have HPO := Lib.hid (hP.out.kept hg2 (fun hh => hneM1 (Option.some.inj hh)))
      have HP2 := Lib.hid hp2
      have HE2 := Lib.hid henv2
      have HG2 := Lib.hid (hG.out.trans hg2)
      have hne2 : g2 ≠ w.heap.size := fun hh => hO2 (.inr hh)
      have hszw : wr.heap.size ≤ w2.heap.size := hg2.size
      clear hp2 henv2 hg2 hO2 hc0
      go_wp2_with fail
      go_loopw [8, 28] (fun v8 v28 wx => ∃ (k g o c : Nat) (D : Nat → Bool) (rest : List Nat), k ≤ s.size + 1 ∧ v28 = .int .i64 (k : Int) ∧ v8 = .slice (some ⟨g, o, none⟩) (rest.length + 1) c ∧ Hid (Qu wx w1.heap.size 3 g o c (natVals (h :: rest))) ∧
          Hid (Pl wx w.heap.size s.size (fun j => D j = true)) ∧ Hid (Pl wx g2 s.size (Fits s.data.toList u h)) ∧ Hid (InvI s.size (Fits s.data.toList u) at_ D h rest k) ∧ Hid (FEnv l s b off cap ge F M (fun x => O x ∨ x = w.heap.size) wx) ∧ Hid (w.grownBy wx (some M)) ∧
          Hid (2 * cnt D s.size + (rest.length + 1) ≤ gk) ∧ w1.heap.size ≤ wx.heap.size ∧ rest.length + cnt D s.size ≤ gk) (fun _ i _ => s.size + 1 - (intOf i).toNat)
      case atStart => exact ⟨0, g, o, c, D, rest, by omega, rfl, rfl, HQ2, HPO, HP2, hII, HE2, HG2, hM, by omega, by have := hM.out; omega⟩
      case round =>
        obtain ⟨k, g, o, c, D, rest, hk, rfl, rfl, hQ, hP, hR, hI, hE, hG, hM, hsz, hsmall⟩ := hrel
        by_cases hlt : k < s.size + 1
        · obtain ⟨x, hx, hx'⟩ := hR.out.cell k (by omega)
          obtain ⟨y, hy, hy'⟩ := hP.out.cell k (by omega)
          have hfz := hP.out.frozen k
          have hk1 : (k : Int) < (s.size : Int) + 1 := by omega
          have hyD : y = D k := by rw [Bool.eq_iff_iff]; exact hy'
          have HX := Lib.hid hx'
          have HY := Lib.hid hyD
          clear hx' hy' hyD
          cases x
          · go_wp2
            go_roundw
            case rel => exact ⟨k + 1, g, o, c, D, rest, by omega, by go_num, rfl, hQ, hP, hR, Lib.hid (hI.out.skip fun hr => by have := HX.out.2 hr; cases this), hE, hG, hM, hsz, hsmall⟩
            case measure => simp [intOf]; omega
          · cases y
            · have hneQ : g ≠ w.heap.size := fun hh => by have := hQ.out.hbase; omega
              have HQa := Lib.hid ((hQ.out.kept (grown_set wr w.heap.size k (.bool true)) (fun hh => hneQ (Option.some.inj hh))).kept (World.grownBy_alloc _ (.cells #[.int .i64 (k : Int)] 3) none) (by simp))
              have hcell : ((wr.setCell ⟨w.heap.size, k, none⟩ (.bool true)).alloc (.cells #[.int .i64 (k : Int)] 3)).cell? ⟨wr.heap.size, 0, none⟩ = some (.int .i64 (k : Int)) := by
                have := World.cell?_alloc_new (wr.setCell ⟨w.heap.size, k, none⟩ (.bool true)) #[.int .i64 (k : Int)] 3 0
                simpa using this
              have HCELL := Lib.hid hcell
              have HLEN := Lib.hid (show (natVals (h :: rest)).length = rest.length + 1 by simp [natVals])
              have hszx : w1.heap.size ≤ ((wr.setCell ⟨w.heap.size, k, none⟩ (.bool true)).alloc (.cells #[.int .i64 (k : Int)] 3)).heap.size := by simp; omega
              have HSZX := Lib.hid hszx
              clear hcell hszx
              go_wp2_with (at_builtin; refine wpList_app_q rfl (.tmp 44) (.tmp 46) _ rfl i0 _ 8 Tryd.underlying41 hi0 hz0 hz1 hz2 rfl (rest.length + 1) HLEN.out rfl HQa.out HSZX.out (.int .i64 (k : Int)) rfl wr.heap.size 1 rfl HCELL.out (by unfold maxLen; omega) (by omega) ?_; intro g' o' c' w' hQ' hg' hat')
              go_roundw
              case rel =>
                have hRk : Fits s.data.toList u h k := HX.out.1 (by simp)
                have hDk : D k = false := HY.out.symm
                obtain ⟨cur, hcur, _⟩ := HQa.out.hcur
                have hP' := hP.out.set_ k true
                have hal : ∀ W : World, Below W.heap.size W (W.alloc (.cells #[.int .i64 (k : Int)] 3)) := fun W => (Below.refl _ _).alloc (Nat.le_refl _) _
                have hP'' := (hP'.below (hal _)).kept hg' (fun hh => hneQ (Option.some.inj hh).symm)
                obtain ⟨cur0, hcur0, _⟩ := hQ.out.hcur
                have hneR : g2 ≠ g := fun hh => hR.out.ne_blk hcur0 (by decide) hh
                have hR' := ((hR.out.kept (grown_set wr w.heap.size k (.bool true)) (fun hh => hne2 (Option.some.inj hh))).below (hal _)).kept hg' (fun hh => hneR (Option.some.inj hh))
                have hEF := HE.out.ltF
                have hEb := HE.out.tenv.hb
                have hEg := HE.out.tenv.hg
                have hgb := hQ.out.hbase
                have hE' := ((hE.out.put (.inr rfl) (grown_set wr w.heap.size k (.bool true))).grow (hal _)).putT hcur (by decide) (by omega) (by omega) (by omega) hg'
                have hG' := grown_new (grown_below (grown_new hG.out (grown_set wr w.heap.size k (.bool true)) (Nat.le_refl _)) (hal _)) hg' (by omega)
                have hcm := cnt_mark D k hDk s.size (by omega)
                have hs2 := hg'.size
                have hMM := hM.out
                refine ⟨k + 1, g', o', c', Wf.mark D k, rest ++ [k], by omega, by go_num, by simp, Lib.hid (by rw [← List.cons_append, natVals_snoc]; exact hQ'), Lib.hid (hP''.iff fun j hj => ?_), Lib.hid hR', Lib.hid (hI.out.add hRk (by omega)), Lib.hid hE', Lib.hid hG', Lib.hid (by simp; omega), by simp at hs2; omega, by simp; omega⟩
                by_cases e : j = k
                · subst e; simp [Wf.mark]
                · simp [Wf.mark, e]
              case measure => simp [intOf]; omega
            · go_wp2
              go_roundw
              case rel => exact ⟨k + 1, g, o, c, D, rest, by omega, by go_num, rfl, hQ, hP, hR, Lib.hid (hI.out.skip fun _ => HY.out.symm), hE, hG, hM, hsz, hsmall⟩
              case measure => simp [intOf]; omega
        · obtain rfl : k = s.size + 1 := by omega
          have hT := Lib.hid (hQ.out.tail (by simp [natVals]))
          have htl : (natVals (h :: rest)).tail = natVals rest := rfl
          rw [htl] at hT
          have hIc := Lib.hid hI.out.close
          have hle := hQ.out.hle
          have hle2 : rest.length + 1 ≤ c := by simpa [natVals] using hle
          clear htl hle hI hQ
          have hMM := hM.out
          by_cases hc1 : c = 1
          · subst hc1
            have hr0 : rest.length = 0 := by omega
            have hr : rest = [] := List.eq_nil_of_length_eq_zero hr0
            subst hr
            clear hr0
            go_wp2
            go_roundg (gk - 1)
            case measure => simp at hMM; omega
            case rel => exact ⟨g, o, 0, D, [], rfl, hT, hP, hIc, hE, hG, Lib.hid (by simp at hMM ⊢; omega), hsz, by omega⟩
          · have hc2 : 2 ≤ c := by omega
            rw [if_neg hc1] at hT
            clear hc1
            go_wp2
            go_roundg (gk - 1)
            case measure => omega
            case rel => exact ⟨g, o + 1, c - 1, D, rest, rfl, hT, hP, hIc, hE, hG, Lib.hid (by omega), hsz, by omega⟩
end

end Go.Proofs.YthcahjnniendnabDoor
