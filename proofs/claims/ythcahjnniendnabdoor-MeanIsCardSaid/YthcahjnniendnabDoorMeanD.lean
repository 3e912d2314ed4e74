/-
  Walks of the fitter's fit: byte, plus, cat.
-/
import Derived.Test.YthcahjnniendnabDoorMeanC
namespace Go.Proofs.YthcahjnniendnabDoor
open Go.RowKit Wf

section
variable {l : List Nd} {s : ByteArray} {b off cap ge F M : Nat} {O : Nat → Prop} {w w' : World}

set_option maxRecDepth 100000 in
set_option maxHeartbeats 8000000 in
theorem fit_plus (a : Rx) (ha : FromC l s b off cap ge F M a) (hs : s.size ≤ 400) (hl : l.length ≤ cap) (hcap : cap ≤ 9223372036854775807) : FitC l s b off cap ge F M (.plus a) := by
  intro O i k w hu hk henv
  have hlt := hu.lt
  obtain ⟨q0, q1, q2, q3, q4⟩ := henv.tenv.node hu.plus.1
  dsimp only [zc] at q0 q1 q2 q3 q4
  have f0 := henv.cellr
  have f2 := henv.text
  have hpos := flat_pos (.plus a)
  have hil : (i : Int) < (l.length : Int) := by omega
  have hFlt := henv.ltF
  have HE := Lib.hid henv
  have hlen60 : i < l.length := by omega
  have hb1 : ∀ o : Obj, Below w.heap.size w (w.alloc o) := fun o => (Below.refl _ _).alloc (Nat.le_refl _) _
  have HB := Lib.hid hb1
  have hua := hu.plus.2
  have HA := Lib.hid ha
  have HU := Lib.hid hua
  clear henv hu hlt hpos ha hua hb1
  go_enter Tryd.func91, Tryd.ntmps91
  go_wp2_with fail
  refine (none_own hs _ (HB.out _) HE.out).mono ?_
  rintro e w1 ⟨g1, rfl, hge1, hp1, he1, hg1⟩
  have HE1 := Lib.hid he1
  have HP1 := Lib.hid hp1
  have HG1 := Lib.hid hg1
  have hneM : g1 ≠ M := fun h => by have := HE.out.ltM; omega
  clear hp1 he1 hg1
  go_wp2_with fail
  refine (HA.out _ (i + 1) k _ HU.out hk HE1.out).mono ?_
  rintro e w2 ⟨g2, rfl, hO2, hp2, he2, hg2⟩
  have hne : g1 ≠ g2 := fun h => hO2 (.inr h.symm)
  have hneM2 : g2 ≠ M := fun h => he2.neM hp2 h
  have HPa := Lib.hid ((HP1.out.kept hg2 (fun h => hneM (Option.some.inj h))).iff (Q := fun j => ∃ q, q < 0 ∧ Fits s.data.toList a k q ∧ Star (Fits s.data.toList a) q j) fun j _ => by simp)
  have HP2 := Lib.hid hp2
  have HE2 := Lib.hid he2
  have HG2 := Lib.hid (HG1.out.trans hg2)
  clear hp2 he2 hg2 hO2
  go_wp2_with fail
  go_loopw [128] (fun v128 wr => ∃ q : Nat, q ≤ s.size + 1 ∧ v128 = .int .i64 (q : Int) ∧ Hid (Pl wr g1 s.size (fun j => ∃ p, p < q ∧ Fits s.data.toList a k p ∧ Star (Fits s.data.toList a) p j)) ∧ Hid (Pl wr g2 s.size (Fits s.data.toList a k)) ∧
      Hid (FEnv l s b off cap ge F M (fun x => O x ∨ x = g1) wr) ∧ Hid (w.grownBy wr (some M))) (fun i _ => s.size + 1 - (intOf i).toNat)
  case atStart => exact ⟨0, by omega, rfl, HPa, HP2, HE2, HG2⟩
  case round =>
    obtain ⟨q, hq, rfl, hP, hQ, hE, hG⟩ := hrel
    by_cases hlt : q < s.size + 1
    · obtain ⟨x, hx, hx'⟩ := hQ.out.cell q (by omega)
      have hk1 : (q : Int) < (s.size : Int) + 1 := by omega
      have HX := Lib.hid hx'
      clear hx'
      cases x
      · go_wp2
        go_roundw
        case rel =>
          refine ⟨q + 1, by omega, by go_num, Lib.hid (hP.out.iff fun j hj => ?_), hQ, hE, hG⟩
          have hno : ¬ Fits s.data.toList a k q := fun h => by have := HX.out.2 h; cases this
          constructor
          · rintro ⟨p, h1, h2, h3⟩; exact ⟨p, by omega, h2, h3⟩
          · rintro ⟨p, h1, h2, h3⟩
            have : p ≠ q := fun e => hno (e ▸ h2)
            exact ⟨p, by omega, h2, h3⟩
        case measure => simp [intOf]; omega
      · go_wp2_with fail
        refine (often_any a HA.out hs (i + 1) q (by omega) HU.out hE.out).mono ?_
        rintro e w3 ⟨g3, rfl, hge3, hp3, henv3, hg3⟩
        have hlt1 := hP.out.lt
        have hne13 : g1 ≠ g3 := fun h => by omega
        have hne12 : g2 ≠ g1 := fun h => hne h.symm
        have HPb := Lib.hid (hP.out.kept hg3 (fun h => hneM (Option.some.inj h)))
        have HQb := Lib.hid (hQ.out.kept hg3 (fun h => hneM2 (Option.some.inj h)))
        have HGb := Lib.hid (hG.out.trans hg3)
        have HP3 := Lib.hid hp3
        have HE3 := Lib.hid henv3
        clear hp3 henv3 hg3
        go_wp2_with fail
        refine (add_any _ _ s.size _ _ hne13 hs _ HPb.out HP3.out).mono ?_
        rintro e w4 ⟨rfl, hp4, hg4⟩
        have HP4 := Lib.hid hp4
        have HG4 := Lib.hid hg4
        clear hp4 hg4
        go_wp2_with fail
        go_roundw
        case rel =>
          refine ⟨q + 1, by omega, by go_num, Lib.hid (HP4.out.iff fun j hj => ?_), Lib.hid (HQb.out.kept HG4.out (fun h => hne12 (Option.some.inj h))), Lib.hid (HE3.out.put (.inr rfl) HG4.out), Lib.hid (grown_new HGb.out HG4.out hge1)⟩
          have hyes : Fits s.data.toList a k q := HX.out.1 (by simp)
          constructor
          · rintro (⟨p, h1, h2, h3⟩ | h)
            · exact ⟨p, by omega, h2, h3⟩
            · exact ⟨q, by omega, hyes, h⟩
          · rintro ⟨p, h1, h2, h3⟩
            by_cases e : p = q
            · subst e; exact .inr h3
            · exact .inl ⟨p, by omega, h2, h3⟩
        case measure => simp [intOf]; omega
    · obtain rfl : q = s.size + 1 := by omega
      go_wp2
      go_ret
      refine ⟨g1, rfl, hge1, hP.out.iff fun j hj => ?_, hE.out.less (fun x h => .inl h), hG.out⟩
      simp only [Fits]
      constructor
      · rintro ⟨p, h1, h2, h3⟩; exact ⟨p, h2, h3⟩
      · rintro ⟨p, h2, h3⟩
        have := (fits_bound _ a k p h2 (by simpa using hk)).2
        exact ⟨p, by simp at this; omega, h2, h3⟩

set_option maxRecDepth 100000 in
set_option maxHeartbeats 8000000 in
theorem fit_cat (a c : Rx) (ha : FromC l s b off cap ge F M a) (hc : FromC l s b off cap ge F M c) (hs : s.size ≤ 400) (hl : l.length ≤ cap) (hcap : cap ≤ 9223372036854775807) : FitC l s b off cap ge F M (.cat a c) := by
  intro O i k w hu hk henv
  have hlt := hu.lt
  obtain ⟨q0, q1, q2, q3, q4⟩ := henv.tenv.node hu.cat.1
  dsimp only [zc] at q0 q1 q2 q3 q4
  have f0 := henv.cellr
  have f2 := henv.text
  have hpos := flat_pos (.cat a c)
  have hil : (i : Int) < (l.length : Int) := by omega
  have hFlt := henv.ltF
  have HE := Lib.hid henv
  have hlen60 : i < l.length := by omega
  have hb1 : ∀ o : Obj, Below w.heap.size w (w.alloc o) := fun o => (Below.refl _ _).alloc (Nat.le_refl _) _
  have HB := Lib.hid hb1
  obtain ⟨_, hua, huc⟩ := hu.cat
  have hi1 : (i : Int) + 1 < (l.length : Int) := by have := hua.lt; have := flat_pos a; omega
  have hi0 : (0 : Int) ≤ (i : Int) + 1 := by omega
  have HA := Lib.hid ha
  have HU := Lib.hid hua
  have HC := Lib.hid hc
  have HUC := Lib.hid huc
  clear henv hu hlt hpos ha hua hb1 hc huc
  go_enter Tryd.func91, Tryd.ntmps91
  go_wp2_with fail
  have HSZ := Lib.hid (HB.out (.cells #[.int .i64 3, .int .u64 0, .int .u64 0, .int .u64 0, .int .u64 0] 69))
  obtain ⟨W, hW⟩ : ∃ W, W = w.alloc (.cells #[.int .i64 3, .int .u64 0, .int .u64 0, .int .u64 0, .int .u64 0] 69) := ⟨_, rfl⟩
  rw [← hW] at HSZ ⊢
  have H0 := Lib.hid (show FEnv l s b off cap ge F M O W.drew ∧ w.grownBy W.drew (some M) from ⟨HE.out.grow HSZ.out.drew, grown_of_below HSZ.out.drew _⟩)
  have hx1 := HE.out.tenv.hx (i + 1) a HU.out
  clear hW
  have hS : ∀ w', Hid (FEnv l s b off cap ge F M O w' ∧ w.grownBy w' (some M)) → (w'.cell? ⟨F, 1, none⟩ = some (.slice (some ⟨ge, 0, none⟩) l.length l.length) ∧ w'.cell? ⟨ge, i + 1, none⟩ = some (.int .i64 ((i + 1 + (flat a).length : Nat) : Int)) ∧ Hid (FEnv l s b off cap ge F M O w' ∧ w.grownBy w' (some M))) :=
    fun w' h => ⟨h.out.1.celle, h.out.1.tenv.hx (i + 1) a HU.out, h⟩
  have HS := Lib.hid hS
  generalize he : i + 1 + (flat a).length = e2 at *
  clear hS hx1
  have hwr : IntKind.i64.wrap ((i : Int) + 1) = (i : Int) + 1 := IntWalk.i64_in _ (by omega)
  have htn : ((i : Int) + 1).toNat = i + 1 := by omega
  have hcall1 : ∀ w', Hid (FEnv l s b off cap ge F M O w' ∧ w.grownBy w' (some M)) → Calls Tryd.prog 59 #[.pointer (some ⟨F, 0, none⟩), .int .i64 ((i + 1 : Nat) : Int), .int .i64 (k : Int)] w' (fun e w2 => ∃ g, e = .returned (.slice (some ⟨g, 0, none⟩) (s.size + 1) (s.size + 1)) ∧ Hid (Pl w2 g s.size (Fits s.data.toList a k)) ∧ Hid (FEnv l s b off cap ge F M O w2 ∧ w.grownBy w2 (some M))) :=
    fun w' h => (HA.out O (i + 1) k w' HU.out hk h.out.1).mono fun e w2 ⟨g, h1, h2, h3, h4, h5⟩ => ⟨g, h1, Lib.hid h3, Lib.hid ⟨h4, h.out.2.trans h5⟩⟩
  have hcall2 : ∀ g1 w', Hid (Pl w' g1 s.size (Fits s.data.toList a k)) → Hid (FEnv l s b off cap ge F M O w' ∧ w.grownBy w' (some M)) → Calls Tryd.prog 111 #[.pointer (some ⟨F, 0, none⟩), .slice (some ⟨g1, 0, none⟩) (s.size + 1) (s.size + 1), .int .i64 (e2 : Int)] w' (fun e w2 => ∃ g, e = .returned (.slice (some ⟨g, 0, none⟩) (s.size + 1) (s.size + 1)) ∧ w.heap.size ≤ g ∧ Hid (Pl w2 g s.size (Fits s.data.toList (.cat a c) k)) ∧ Hid (FEnv l s b off cap ge F M O w2 ∧ w.grownBy w2 (some M))) :=
    fun g1 w' hp h => (then_any c HC.out hs e2 g1 _ HUC.out hp.out h.out.1).mono fun e w2 ⟨g, h1, h2, h3, h4, h5⟩ => ⟨g, h1, Nat.le_trans h.out.2.size h2, Lib.hid (h3.iff fun j hj => by
      simp only [Fits]
      constructor
      · rintro ⟨p, h1, h2, h3⟩; exact ⟨p, h2, h3⟩
      · rintro ⟨p, h2, h3⟩
        have := (fits_bound _ a k p h2 (by simpa using hk)).2
        exact ⟨p, by simpa using this, h2, h3⟩), Lib.hid ⟨h4, h.out.2.trans h5⟩⟩
  have HC1 := Lib.hid hcall1
  have HC2 := Lib.hid hcall2
  clear hcall1 hcall2 he
  go_region_held3 (fun w' => w'.cell? ⟨F, 1, none⟩ = some (.slice (some ⟨ge, 0, none⟩) l.length l.length) ∧ w'.cell? ⟨ge, i + 1, none⟩ = some (.int .i64 (e2 : Int)) ∧ Hid (FEnv l s b off cap ge F M O w' ∧ w.grownBy w' (some M)))
    (exact HS.out _ (by assumption))
    (first
      | (go_at_call 59; refine (HC1.out _ (by assumption)).mono ?_; rintro e w2 ⟨g1, rfl, hp1, h1⟩)
      | (go_at_call 111; refine (HC2.out _ _ (by assumption) (by assumption)).mono ?_; rintro e w3 ⟨g3, rfl, hge3, hp3, h3⟩))
  go_wp2_with fail
  go_ret
  exact ⟨g3, rfl, hge3, hp3.out, h3.out.1, h3.out.2⟩

set_option maxRecDepth 100000 in
set_option maxHeartbeats 8000000 in
theorem fit_byte (c : Cls) (hok : okC c) (hs : s.size ≤ 400) (hl : l.length ≤ cap) (hcap : cap ≤ 9223372036854775807) : FitC l s b off cap ge F M (.byte c) := by
  intro O i k w hu hk henv
  obtain ⟨c0, c1, c2, c3⟩ := c
  have hlt := hu.lt
  obtain ⟨q0, q1, q2, q3, q4⟩ := henv.tenv.node hu.byte
  dsimp only at q0 q1 q2 q3 q4
  have f0 := henv.cellr
  have f2 := henv.text
  have hpos := flat_pos (.byte (c0, c1, c2, c3))
  have hil : (i : Int) < (l.length : Int) := by omega
  have hFlt := henv.ltF
  have HE := Lib.hid henv
  have hlen60 : i < l.length := by omega
  have hb1 : ∀ o : Obj, Below w.heap.size w (w.alloc o) := fun o => (Below.refl _ _).alloc (Nat.le_refl _) _
  have HB := Lib.hid hb1
  have HOK := Lib.hid hok
  clear henv hu hlt hpos hb1 hok
  go_enter Tryd.func91, Tryd.ntmps91
  go_wp2_with fail
  have HSZ := Lib.hid (HB.out (.cells #[.int .i64 1, .int .u64 c0, .int .u64 c1, .int .u64 c2, .int .u64 c3] 69))
  have HBK := Lib.hid (Blk.new w 69 #[.int .i64 1, .int .u64 c0, .int .u64 c1, .int .u64 c2, .int .u64 c3])
  have hw0 : (w.alloc (.cells #[.int .i64 1, .int .u64 c0, .int .u64 c1, .int .u64 c2, .int .u64 c3] 69)).heap.size = w.heap.size + 1 := by simp
  obtain ⟨W, hW⟩ : ∃ W, W = w.alloc (.cells #[.int .i64 1, .int .u64 c0, .int .u64 c1, .int .u64 c2, .int .u64 c3] 69) := ⟨_, rfl⟩
  rw [← hW] at HSZ HBK hw0 ⊢
  clear hW
  refine (none_any F s hs _ ((HE.out.grow HSZ.out).text)).mono ?_
  rintro e w1 hn
  have hown := OwnIs.of HSZ.out HE.out hn
  obtain ⟨rfl, hp, hbw, hlt⟩ := hn
  obtain ⟨g1, hee, hge1, hp1, he1, hg1⟩ := hown
  have hg1W : g1 = W.heap.size := by
    have h1 := Ending.returned.inj hee
    simp at h1
    exact h1.symm
  rw [hw0] at hg1W
  subst hg1W
  clear hee hp
  have HE1 := Lib.hid he1
  have HP1 := Lib.hid hp1
  have HG1 := Lib.hid hg1
  have hblk := HBK.out.kept hbw
  have HBL := Lib.hid hblk
  have hSZ : w.heap.size ≤ w.heap.size + 1 := by omega
  clear hp1 he1 hg1 hbw hblk
  by_cases hlt : k < s.size
  · have hk1 : (k : Int) < (s.size : Int) := by omega
    have hk0 : (0 : Int) ≤ (k : Int) := by omega
    have hS : ∀ w', Below w1.heap.size w1 w' → (w'.cell? ⟨F, 2, none⟩ = some (.string s) ∧ w'.cell? ⟨w.heap.size, 1, none⟩ = some (.int .u64 (c0 : Int)) ∧ w'.cell? ⟨w.heap.size, 2, none⟩ = some (.int .u64 (c1 : Int)) ∧ w'.cell? ⟨w.heap.size, 3, none⟩ = some (.int .u64 (c2 : Int)) ∧ w'.cell? ⟨w.heap.size, 4, none⟩ = some (.int .u64 (c3 : Int)) ∧ Below w1.heap.size w1 w') :=
      fun w' h => by
        have hb2 := HBL.out.kept h
        exact ⟨(HE1.out.grow h).text, hb2.cell 1, hb2.cell 2, hb2.cell 3, hb2.cell 4, h⟩
    have HS := Lib.hid hS
    have B0 : Below w1.heap.size w1 w1.drew := (Below.refl _ _).drew
    have hbyte' : s[k].toNat < 256 := s[k].toNat_lt
    clear hS
    go_wp2_with fail
    go_region_held3 (fun w' => w'.cell? ⟨F, 2, none⟩ = some (.string s) ∧ w'.cell? ⟨w.heap.size, 1, none⟩ = some (.int .u64 (c0 : Int)) ∧ w'.cell? ⟨w.heap.size, 2, none⟩ = some (.int .u64 (c1 : Int)) ∧ w'.cell? ⟨w.heap.size, 3, none⟩ = some (.int .u64 (c2 : Int)) ∧ w'.cell? ⟨w.heap.size, 4, none⟩ = some (.int .u64 (c3 : Int)) ∧ Below w1.heap.size w1 w')
      (exact HS.out _ (by assumption))
      (first
        | (go_at_call 36; refine (Has_any c0 c1 c2 c3 s[k].toNat _ HOK.out hbyte').mono ?_; rintro e w2 ⟨rfl, hb2⟩; have hB2 : Below w1.heap.size w1 w2 := (by assumption : Below w1.heap.size w1 _).trans (hb2.mono (by assumption : Below w1.heap.size w1 _).size)))
    have hp2 := HP1.out.below hB2
    have he2 := HE1.out.grow hB2
    have hg2 := HG1.out.trans (grown_of_below hB2 (some M))
    obtain ⟨x, hx, _⟩ := hp2.cell (k + 1) (by omega)
    have hfz := hp2.frozen (k + 1)
    have hwr : IntKind.i64.wrap ((k : Int) + 1) = (k : Int) + 1 := IntWalk.i64_in _ (by omega)
    have htn : ((k : Int) + 1).toNat = k + 1 := by omega
    have hki : (k : Int) + 1 < (s.size : Int) + 1 := by omega
    have hki0 : (0 : Int) ≤ (k : Int) + 1 := by omega
    have hgk : s.data.toList[k]? = some s[k] := by
      have : s.data.toList[k]? = s.data[k]? := by simp
      rw [this]
      exact Array.getElem?_eq_getElem _
    have HP2 := Lib.hid hp2
    have HE2 := Lib.hid he2
    have HG2 := Lib.hid hg2
    have HGK := Lib.hid hgk
    have HSZ2 := Lib.hid hSZ
    obtain ⟨y, hy⟩ : ∃ y, y = has (c0, c1, c2, c3) s[k].toNat := ⟨_, rfl⟩
    rw [← hy]
    have HY := Lib.hid hy
    clear hp2 he2 hg2 hgk hB2 hb2 hy
    cases y
    · go_wp2
      go_ret
      refine ⟨_, rfl, hSZ, HP2.out.iff fun j hj => ?_, HE2.out.less (fun x h => .inl h), HG2.out⟩
      simp only [Fits, HGK.out]
      constructor
      · intro h; cases h
      · rintro ⟨_, bb, h1, h2⟩
        cases h1
        rw [← HY.out] at h2
        cases h2
    · go_wp2
      go_ret
      refine ⟨_, rfl, hSZ, (HP2.out.set_ (k + 1) true).iff fun j hj => ?_, (HE2.out.put (.inr rfl) (grown_set _ _ _ _)).less (fun x h => .inl h), grown_new HG2.out (grown_set _ _ _ _) hSZ⟩
      simp only [Fits, HGK.out]
      by_cases e : j = k + 1
      · subst e
        simp [← HY.out]
      · simp [e]
  · have hd : decide ((k : Int) < (s.size : Int)) = false := by simp; omega
    have f2' := HE1.out.text
    go_wp2_with fail
    go_quiet (fail)
    go_wp2
    go_ret
    refine ⟨_, rfl, hSZ, (HP1.out.below (below_drewN (Below.refl _ _) _)).iff fun j hj => ?_, (HE1.out.grow (below_drewN (Below.refl _ _) _)).less (fun x h => .inl h), grown_drewN HG1.out _⟩
    have hno : s.data.toList[k]? = none := by
      rw [List.getElem?_eq_none_iff]
      have : s.data.toList.length = s.size := by simp
      omega
    simp [Fits, hno]
end

end Go.Proofs.YthcahjnniendnabDoor
