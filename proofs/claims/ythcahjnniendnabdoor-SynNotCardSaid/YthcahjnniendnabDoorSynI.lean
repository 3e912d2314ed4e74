/-
  Walks of package syn: cat, or. (Printed by gen-syni.py.)
-/
import Derived.Test.YthcahjnniendnabDoorSynH
namespace Go.Proofs.YthcahjnniendnabDoor
open Go.RowKit Wf

theorem int_ne {a b : Int} (h : a ≠ b) : (a == b) = false := by simpa using h
theorem stop_yes {s : List UInt8} {j : Nat} (h : stopS s j = true) : s[j]? = none ∨ s[j]? = some 124 ∨ s[j]? = some 41 := by
  unfold stopS at h
  cases hc : s[j]? with
  | none => exact .inl rfl
  | some c =>
    rw [hc] at h
    simp only [Bool.or_eq_true, beq_iff_eq] at h
    rcases h with rfl | rfl
    · exact .inr (.inl rfl)
    · exact .inr (.inr rfl)
theorem stop_no {s : List UInt8} {j : Nat} (h : ¬ stopS s j = true) : ∃ c, s[j]? = some c ∧ c.toNat ≠ 124 ∧ c.toNat ≠ 41 := by
  unfold stopS at h
  cases hc : s[j]? with
  | none => rw [hc] at h; exact absurd rfl h
  | some c =>
    rw [hc] at h
    simp only [Bool.or_eq_true, beq_iff_eq, not_or] at h
    exact ⟨c, rfl, fun e => h.1 (UInt8.toNat_inj.1 e), fun e => h.2 (UInt8.toNat_inj.1 e)⟩

set_option maxRecDepth 100000 in
set_option maxHeartbeats 8000000 in
theorem cat_stop {ev : Value} {pb : Nat} {s : ByteArray} {i : Nat} (w : World) (h : PIn ev pb s i w) (hst : stopS s.data.toList i = true) :
    Calls Tryd.prog 116 #[.pointer (some ⟨pb, 0, none⟩)] w (TreeAt pb s .empty i w) := by
  have HP0 := Lib.hid h.pw
  have hsz := h.sz
  have hle := h.le
  have HND := Lib.hid fun W B hB => node_at 2 W B hB
  unfold TreeAt
  rcases stop_yes hst with hg | hg | hg
  · have PK1 : Hid (∀ W, PW w pb s i W → Calls Tryd.prog 128 #[.pointer (some ⟨pb, 0, none⟩)] W (PeekIs 0 false W)) := Lib.hid fun W hw => peek_none W hw.here hsz hle hg
    unfold PeekIs at PK1
    clear h hst hg
    go_enter Tryd.func116, Tryd.ntmps116
    go_wp2_with fail
    refine (PK1.out _ HP0.out).mono ?_
    rintro e x1 ⟨rfl, hb1⟩
    have HP1 := Lib.hid (HP0.out.below hb1)
    clear hb1
    go_wp2_with fail
    refine (HND.out _ x1.heap.size rfl).mono ?_
    rintro e x2 ⟨rfl, ho, hb⟩
    have HP2 := Lib.hid (HP1.out.below hb)
    have HO := Lib.hid ho
    clear ho hb
    go_wp2_with fail
    go_ret
    exact ⟨_, _, rfl, HO.out.base HP1.out.grow.size, HP2.out⟩
  · have PK1 : Hid (∀ W, PW w pb s i W → Calls Tryd.prog 128 #[.pointer (some ⟨pb, 0, none⟩)] W (PeekIs 124 true W)) := Lib.hid fun W hw => peek_some W hw.here hsz hg
    unfold PeekIs at PK1
    clear h hst hg
    go_enter Tryd.func116, Tryd.ntmps116
    go_wp2_with fail
    refine (PK1.out _ HP0.out).mono ?_
    rintro e x1 ⟨rfl, hb1⟩
    have HP1 := Lib.hid (HP0.out.below hb1)
    clear hb1
    go_wp2_with fail
    refine (HND.out _ x1.heap.size rfl).mono ?_
    rintro e x2 ⟨rfl, ho, hb⟩
    have HP2 := Lib.hid (HP1.out.below hb)
    have HO := Lib.hid ho
    clear ho hb
    go_wp2_with fail
    go_ret
    exact ⟨_, _, rfl, HO.out.base HP1.out.grow.size, HP2.out⟩
  · have PK1 : Hid (∀ W, PW w pb s i W → Calls Tryd.prog 128 #[.pointer (some ⟨pb, 0, none⟩)] W (PeekIs 41 true W)) := Lib.hid fun W hw => peek_some W hw.here hsz hg
    unfold PeekIs at PK1
    clear h hst hg
    go_enter Tryd.func116, Tryd.ntmps116
    go_wp2_with fail
    refine (PK1.out _ HP0.out).mono ?_
    rintro e x1 ⟨rfl, hb1⟩
    have HP1 := Lib.hid (HP0.out.below hb1)
    clear hb1
    go_wp2_with fail
    refine (HND.out _ x1.heap.size rfl).mono ?_
    rintro e x2 ⟨rfl, ho, hb⟩
    have HP2 := Lib.hid (HP1.out.below hb)
    have HO := Lib.hid ho
    clear ho hb
    go_wp2_with fail
    go_ret
    exact ⟨_, _, rfl, HO.out.base HP1.out.grow.size, HP2.out⟩

set_option maxRecDepth 100000 in
set_option maxHeartbeats 8000000 in
theorem cat_bad {ev : Value} {pb : Nat} {s : ByteArray} {i : Nat} (w : World) (h : PIn ev pb s i w) (hst : ¬ stopS s.data.toList i = true) {k : Nat} (hof : ∀ W, PW w pb s i W → Calls Tryd.prog 129 #[.pointer (some ⟨pb, 0, none⟩)] W (PS W pb k)) :
    Calls Tryd.prog 116 #[.pointer (some ⟨pb, 0, none⟩)] w (PS w pb k) := by
  obtain ⟨c, hgc, c1, c2⟩ := stop_no hst
  have PK1 : Hid (∀ W, PW w pb s i W → Calls Tryd.prog 128 #[.pointer (some ⟨pb, 0, none⟩)] W (PeekIs c.toNat true W)) := Lib.hid fun W hw => peek_some W hw.here h.sz hgc
  have d1 : ((c.toNat : Int) == 124) = false := int_ne (by omega)
  have d2 : ((c.toNat : Int) == 41) = false := int_ne (by omega)
  have HP0 := Lib.hid h.pw
  unfold PeekIs at PK1
  have HOF := Lib.hid hof
  clear h hst hgc hof
  unfold PS at *
  go_enter Tryd.func116, Tryd.ntmps116
  go_wp2_with fail
  refine (PK1.out _ HP0.out).mono ?_
  rintro e x1 ⟨rfl, hb1⟩
  have HP1 := Lib.hid (HP0.out.below hb1)
  clear hb1
  go_wp2_with fail
  refine (HOF.out _ HP1.out).mono ?_
  rintro e x2 ⟨rfl, hp⟩
  exact ⟨rfl, rfl, HP1.out.grow.trans hp⟩

set_option maxRecDepth 100000 in
set_option maxHeartbeats 8000000 in
theorem cat_one {ev : Value} {pb : Nat} {s : ByteArray} {i : Nat} (w : World) (h : PIn ev pb s i w) (hst : ¬ stopS s.data.toList i = true) {t : Rx} {j : Nat} (hjs : j ≤ s.size) (hst2 : stopS s.data.toList j = true) (hof : ∀ W, PW w pb s i W → Calls Tryd.prog 129 #[.pointer (some ⟨pb, 0, none⟩)] W (TreeAt pb s t j W)) :
    Calls Tryd.prog 116 #[.pointer (some ⟨pb, 0, none⟩)] w (TreeAt pb s t j w) := by
  obtain ⟨c, hgc, c1, c2⟩ := stop_no hst
  have PK1 : Hid (∀ W, PW w pb s i W → Calls Tryd.prog 128 #[.pointer (some ⟨pb, 0, none⟩)] W (PeekIs c.toNat true W)) := Lib.hid fun W hw => peek_some W hw.here h.sz hgc
  have d1 : ((c.toNat : Int) == 124) = false := int_ne (by omega)
  have d2 : ((c.toNat : Int) == 41) = false := int_ne (by omega)
  have HP0 := Lib.hid h.pw
  unfold PeekIs at PK1
  have HOF := Lib.hid hof
  have hsz := h.sz
  unfold TreeAt at *
  rcases stop_yes hst2 with hg | hg | hg
  · have PK2 : Hid (∀ W, PW w pb s j W → Calls Tryd.prog 128 #[.pointer (some ⟨pb, 0, none⟩)] W (PeekIs 0 false W)) := Lib.hid fun W hw => peek_none W hw.here hsz hjs hg
    unfold PeekIs at PK2
    clear h hst hst2 hgc hof hg
    go_enter Tryd.func116, Tryd.ntmps116
    go_wp2_with fail
    refine (PK1.out _ HP0.out).mono ?_
    rintro e x1 ⟨rfl, hb1⟩
    have HP1 := Lib.hid (HP0.out.below hb1)
    clear hb1
    go_wp2_with fail
    refine (HOF.out _ HP1.out).mono ?_
    rintro e x2 ⟨g, cap, rfl, ho, hp⟩
    have HP2 := Lib.hid (HP1.out.trans hp)
    have HO2 := Lib.hid (ho.base HP1.out.grow.size)
    clear ho hp
    go_wp2_with fail
    refine (PK2.out _ HP2.out).mono ?_
    rintro e x3 ⟨rfl, hb3⟩
    have HP3 := Lib.hid (HP2.out.below hb3)
    have HO3 := Lib.hid (HO2.out.below hb3)
    clear hb3
    go_wp2_with fail
    go_ret
    exact ⟨g, cap, rfl, HO3.out, HP3.out⟩
  · have PK2 : Hid (∀ W, PW w pb s j W → Calls Tryd.prog 128 #[.pointer (some ⟨pb, 0, none⟩)] W (PeekIs 124 true W)) := Lib.hid fun W hw => peek_some W hw.here hsz hg
    unfold PeekIs at PK2
    clear h hst hst2 hgc hof hg
    go_enter Tryd.func116, Tryd.ntmps116
    go_wp2_with fail
    refine (PK1.out _ HP0.out).mono ?_
    rintro e x1 ⟨rfl, hb1⟩
    have HP1 := Lib.hid (HP0.out.below hb1)
    clear hb1
    go_wp2_with fail
    refine (HOF.out _ HP1.out).mono ?_
    rintro e x2 ⟨g, cap, rfl, ho, hp⟩
    have HP2 := Lib.hid (HP1.out.trans hp)
    have HO2 := Lib.hid (ho.base HP1.out.grow.size)
    clear ho hp
    go_wp2_with fail
    refine (PK2.out _ HP2.out).mono ?_
    rintro e x3 ⟨rfl, hb3⟩
    have HP3 := Lib.hid (HP2.out.below hb3)
    have HO3 := Lib.hid (HO2.out.below hb3)
    clear hb3
    go_wp2_with fail
    go_ret
    exact ⟨g, cap, rfl, HO3.out, HP3.out⟩
  · have PK2 : Hid (∀ W, PW w pb s j W → Calls Tryd.prog 128 #[.pointer (some ⟨pb, 0, none⟩)] W (PeekIs 41 true W)) := Lib.hid fun W hw => peek_some W hw.here hsz hg
    unfold PeekIs at PK2
    clear h hst hst2 hgc hof hg
    go_enter Tryd.func116, Tryd.ntmps116
    go_wp2_with fail
    refine (PK1.out _ HP0.out).mono ?_
    rintro e x1 ⟨rfl, hb1⟩
    have HP1 := Lib.hid (HP0.out.below hb1)
    clear hb1
    go_wp2_with fail
    refine (HOF.out _ HP1.out).mono ?_
    rintro e x2 ⟨g, cap, rfl, ho, hp⟩
    have HP2 := Lib.hid (HP1.out.trans hp)
    have HO2 := Lib.hid (ho.base HP1.out.grow.size)
    clear ho hp
    go_wp2_with fail
    refine (PK2.out _ HP2.out).mono ?_
    rintro e x3 ⟨rfl, hb3⟩
    have HP3 := Lib.hid (HP2.out.below hb3)
    have HO3 := Lib.hid (HO2.out.below hb3)
    clear hb3
    go_wp2_with fail
    go_ret
    exact ⟨g, cap, rfl, HO3.out, HP3.out⟩

set_option maxRecDepth 100000 in
set_option maxHeartbeats 8000000 in
theorem cat_two {ev : Value} {pb : Nat} {s : ByteArray} {i : Nat} (w : World) (h : PIn ev pb s i w) (hst : ¬ stopS s.data.toList i = true) {t u : Rx} {j k : Nat} (hst2 : ¬ stopS s.data.toList j = true) (hfl : (flat t).length ≤ 400) (hfl2 : (flat u).length ≤ 1000) (hof : ∀ W, PW w pb s i W → Calls Tryd.prog 129 #[.pointer (some ⟨pb, 0, none⟩)] W (TreeAt pb s t j W)) (hct : ∀ W, PW w pb s j W → Calls Tryd.prog 116 #[.pointer (some ⟨pb, 0, none⟩)] W (TreeAt pb s u k W)) :
    Calls Tryd.prog 116 #[.pointer (some ⟨pb, 0, none⟩)] w (TreeAt pb s (.cat t u) k w) := by
  obtain ⟨c, hgc, c1, c2⟩ := stop_no hst
  have PK1 : Hid (∀ W, PW w pb s i W → Calls Tryd.prog 128 #[.pointer (some ⟨pb, 0, none⟩)] W (PeekIs c.toNat true W)) := Lib.hid fun W hw => peek_some W hw.here h.sz hgc
  have d1 : ((c.toNat : Int) == 124) = false := int_ne (by omega)
  have d2 : ((c.toNat : Int) == 41) = false := int_ne (by omega)
  have HP0 := Lib.hid h.pw
  unfold PeekIs at PK1
  have hsz := h.sz
  obtain ⟨c', hgc', c1', c2'⟩ := stop_no hst2
  have PK2 : Hid (∀ W, PW w pb s j W → Calls Tryd.prog 128 #[.pointer (some ⟨pb, 0, none⟩)] W (PeekIs c'.toNat true W)) := Lib.hid fun W hw => peek_some W hw.here hsz hgc'
  have d3 : ((c'.toNat : Int) == 124) = false := int_ne (by omega)
  have d4 : ((c'.toNat : Int) == 41) = false := int_ne (by omega)
  unfold PeekIs at PK2
  obtain ⟨i0, hi0, hz0, hz1, hz2⟩ := nd_parts
  have hpb := h.pw.lt
  have hpos := flat_pos t
  obtain ⟨N, hN⟩ : ∃ N, N = (flat t).length := ⟨_, rfl⟩
  have HN := Lib.hid hN
  have hposM := flat_pos u
  obtain ⟨M, hM⟩ : ∃ M, M = (flat u).length := ⟨_, rfl⟩
  have HM := Lib.hid hM
  have HND := Lib.hid fun W B hB => node_at 3 W B hB
  have HOF := Lib.hid hof
  have HCT := Lib.hid hct
  unfold TreeAt at *
  rw [← hN] at HOF hfl hpos
  rw [← hM] at HCT hfl2 hposM
  clear h hst hst2 hgc hgc' hof hct hN hM
  go_enter Tryd.func116, Tryd.ntmps116
  go_wp2_with fail
  refine (PK1.out _ HP0.out).mono ?_
  rintro e x1 ⟨rfl, hb1⟩
  have HP1 := Lib.hid (HP0.out.below hb1)
  clear hb1
  go_wp2_with fail
  refine (HOF.out _ HP1.out).mono ?_
  rintro e x2 ⟨g, cap, rfl, ho, hp⟩
  have HP2 := Lib.hid (HP1.out.trans hp)
  have HO2 := Lib.hid (ho.base HP1.out.grow.size)
  clear ho hp
  go_wp2_with fail
  refine (PK2.out _ HP2.out).mono ?_
  rintro e x3 ⟨rfl, hb3⟩
  have HP3 := Lib.hid (HP2.out.below hb3)
  have HO3 := Lib.hid (HO2.out.below hb3)
  clear hb3
  go_wp2_with fail
  refine (HND.out _ x3.heap.size rfl).mono ?_
  rintro e x4 ⟨rfl, ho4, hb4⟩
  have HP4 := Lib.hid (HP3.out.below hb4)
  have HO4 := Lib.hid (HO3.out.below hb4)
  have hx3 := HP3.out.grow.size
  have HN4 := Lib.hid (ho4.base hx3)
  have hx4 := HP4.out.grow.size
  have HCS := Lib.hid (HO4.out.cells hpos)
  have HNL : Hid (((flat t).flatMap ndCells).length = N * 5) := Lib.hid (by rw [flatMap_len, HN.out])
  have HON := Lib.hid (nd_one (flat t))
  clear ho4 hb4
  go_wp2_with (at_builtin; refine wpList_append_lies _ rfl (.tmp 42) (.tmp 43) _ rfl w.heap.size 69 i0 _ 5 40 Tryd.underlying22 hi0 hz0 hz1 hz2 rfl (by omega) _ 1 _ rfl HN4.out ⟨g, 0, none⟩ N _ ((flat t).flatMap ndCells) rfl HNL.out HCS.out HON.out hpos (by unfold maxLen; omega) (by omega) hx4 _ rfl ?_)
  intro g5 cap5 x5 hown5 hgrow5 _ _
  have HP5 := Lib.hid (HP4.out.app hgrow5 hx3)
  have hg5 := (hown5.lt g5 rfl).1
  have HR5 : Hid (OwnT x5 w.heap.size (.slice (some ⟨g5, 0, none⟩) (1 + N) cap5) (⟨3, zc⟩ :: flat t)) := Lib.hid (by
    unfold OwnT
    have e : (⟨3, zc⟩ :: flat t : List Nd).length = 1 + N := by rw [List.length_cons, ← HN.out]; omega
    rw [e]
    exact hown5)
  clear hown5 hgrow5
  go_wp2_with fail
  refine (HCT.out _ HP5.out).mono ?_
  rintro e x6 ⟨g6, cap6, rfl, ho6, hp6⟩
  have HP6 := Lib.hid (HP5.out.trans hp6)
  have HR6 := Lib.hid (HR5.out.grown hp6.grow hpb)
  have hx6 := HP6.out.grow.size
  have HC6 := Lib.hid (ho6.cells hposM)
  have HNM : Hid (((flat u).flatMap ndCells).length = M * 5) := Lib.hid (by rw [flatMap_len, HM.out])
  have HOM := Lib.hid (nd_one (flat u))
  have hr6 := HR6.out
  unfold OwnT at hr6
  have e6 : (⟨3, zc⟩ :: flat t : List Nd).length = 1 + N := by rw [List.length_cons, ← HN.out]; omega
  rw [e6] at hr6
  have HR7 := Lib.hid hr6
  clear ho6 hp6 hr6 e6
  go_wp2_with (at_builtin; refine wpList_append_lies _ rfl (.tmp 44) (.tmp 46) _ rfl w.heap.size 69 i0 _ 5 40 Tryd.underlying22 hi0 hz0 hz1 hz2 rfl (by omega) _ (1 + N) _ rfl HR7.out ⟨g6, 0, none⟩ M _ ((flat u).flatMap ndCells) rfl HNM.out HC6.out HOM.out hposM (by unfold maxLen; omega) (by omega) hx6 _ rfl ?_)
  intro g7 cap7 x7 hown7 hgrow7 _ _
  have HP7 := Lib.hid (HP6.out.app hgrow7 hg5)
  have HR8 : Hid (OwnT x7 w.heap.size (.slice (some ⟨g7, 0, none⟩) (1 + N + M) cap7) (flat (.cat t u))) := Lib.hid (by
    unfold OwnT
    have e : (flat (.cat t u)).length = 1 + N + M := by show ((⟨3, zc⟩ : Nd) :: (flat t ++ flat u)).length = _; rw [List.length_cons, List.length_append, ← HN.out, ← HM.out]; omega
    have e2 : (flat (.cat t u)).flatMap ndCells = (⟨3, zc⟩ :: flat t : List Nd).flatMap ndCells ++ (flat u).flatMap ndCells := by show ((⟨3, zc⟩ : Nd) :: (flat t ++ flat u)).flatMap ndCells = _; simp [List.flatMap_append]
    rw [e, e2]
    exact hown7)
  have HL8 : Hid ((flat (.cat t u)).length = 1 + N + M) := Lib.hid (by show ((⟨3, zc⟩ : Nd) :: (flat t ++ flat u)).length = _; rw [List.length_cons, List.length_append, ← HN.out, ← HM.out]; omega)
  clear hown7 hgrow7
  go_wp2_with fail
  go_ret
  refine ⟨g7, cap7, by rw [HL8.out]; rfl, ?_, HP7.out⟩
  rw [HL8.out]
  exact HR8.out

set_option maxRecDepth 100000 in
set_option maxHeartbeats 8000000 in
theorem cat_twobad {ev : Value} {pb : Nat} {s : ByteArray} {i : Nat} (w : World) (h : PIn ev pb s i w) (hst : ¬ stopS s.data.toList i = true) {t : Rx} {j k : Nat} (hst2 : ¬ stopS s.data.toList j = true) (hfl : (flat t).length ≤ 400) (hof : ∀ W, PW w pb s i W → Calls Tryd.prog 129 #[.pointer (some ⟨pb, 0, none⟩)] W (TreeAt pb s t j W)) (hct : ∀ W, PW w pb s j W → Calls Tryd.prog 116 #[.pointer (some ⟨pb, 0, none⟩)] W (PS W pb k)) :
    Calls Tryd.prog 116 #[.pointer (some ⟨pb, 0, none⟩)] w (PS w pb k) := by
  obtain ⟨c, hgc, c1, c2⟩ := stop_no hst
  have PK1 : Hid (∀ W, PW w pb s i W → Calls Tryd.prog 128 #[.pointer (some ⟨pb, 0, none⟩)] W (PeekIs c.toNat true W)) := Lib.hid fun W hw => peek_some W hw.here h.sz hgc
  have d1 : ((c.toNat : Int) == 124) = false := int_ne (by omega)
  have d2 : ((c.toNat : Int) == 41) = false := int_ne (by omega)
  have HP0 := Lib.hid h.pw
  unfold PeekIs at PK1
  have hsz := h.sz
  obtain ⟨c', hgc', c1', c2'⟩ := stop_no hst2
  have PK2 : Hid (∀ W, PW w pb s j W → Calls Tryd.prog 128 #[.pointer (some ⟨pb, 0, none⟩)] W (PeekIs c'.toNat true W)) := Lib.hid fun W hw => peek_some W hw.here hsz hgc'
  have d3 : ((c'.toNat : Int) == 124) = false := int_ne (by omega)
  have d4 : ((c'.toNat : Int) == 41) = false := int_ne (by omega)
  unfold PeekIs at PK2
  obtain ⟨i0, hi0, hz0, hz1, hz2⟩ := nd_parts
  have hpb := h.pw.lt
  have hpos := flat_pos t
  obtain ⟨N, hN⟩ : ∃ N, N = (flat t).length := ⟨_, rfl⟩
  have HN := Lib.hid hN
  have HND := Lib.hid fun W B hB => node_at 3 W B hB
  have HOF := Lib.hid hof
  have HCT := Lib.hid hct
  unfold TreeAt at *
  unfold PS at *
  rw [← hN] at HOF hfl hpos
  clear h hst hst2 hgc hgc' hof hct hN
  go_enter Tryd.func116, Tryd.ntmps116
  go_wp2_with fail
  refine (PK1.out _ HP0.out).mono ?_
  rintro e x1 ⟨rfl, hb1⟩
  have HP1 := Lib.hid (HP0.out.below hb1)
  clear hb1
  go_wp2_with fail
  refine (HOF.out _ HP1.out).mono ?_
  rintro e x2 ⟨g, cap, rfl, ho, hp⟩
  have HP2 := Lib.hid (HP1.out.trans hp)
  have HO2 := Lib.hid (ho.base HP1.out.grow.size)
  clear ho hp
  go_wp2_with fail
  refine (PK2.out _ HP2.out).mono ?_
  rintro e x3 ⟨rfl, hb3⟩
  have HP3 := Lib.hid (HP2.out.below hb3)
  have HO3 := Lib.hid (HO2.out.below hb3)
  clear hb3
  go_wp2_with fail
  refine (HND.out _ x3.heap.size rfl).mono ?_
  rintro e x4 ⟨rfl, ho4, hb4⟩
  have HP4 := Lib.hid (HP3.out.below hb4)
  have HO4 := Lib.hid (HO3.out.below hb4)
  have hx3 := HP3.out.grow.size
  have HN4 := Lib.hid (ho4.base hx3)
  have hx4 := HP4.out.grow.size
  have HCS := Lib.hid (HO4.out.cells hpos)
  have HNL : Hid (((flat t).flatMap ndCells).length = N * 5) := Lib.hid (by rw [flatMap_len, HN.out])
  have HON := Lib.hid (nd_one (flat t))
  clear ho4 hb4
  go_wp2_with (at_builtin; refine wpList_append_lies _ rfl (.tmp 42) (.tmp 43) _ rfl w.heap.size 69 i0 _ 5 40 Tryd.underlying22 hi0 hz0 hz1 hz2 rfl (by omega) _ 1 _ rfl HN4.out ⟨g, 0, none⟩ N _ ((flat t).flatMap ndCells) rfl HNL.out HCS.out HON.out hpos (by unfold maxLen; omega) (by omega) hx4 _ rfl ?_)
  intro g5 cap5 x5 hown5 hgrow5 _ _
  have HP5 := Lib.hid (HP4.out.app hgrow5 hx3)
  have hg5 := (hown5.lt g5 rfl).1
  have HR5 : Hid (OwnT x5 w.heap.size (.slice (some ⟨g5, 0, none⟩) (1 + N) cap5) (⟨3, zc⟩ :: flat t)) := Lib.hid (by
    unfold OwnT
    have e : (⟨3, zc⟩ :: flat t : List Nd).length = 1 + N := by rw [List.length_cons, ← HN.out]; omega
    rw [e]
    exact hown5)
  clear hown5 hgrow5
  go_wp2_with fail
  refine (HCT.out _ HP5.out).mono ?_
  rintro e x6 ⟨rfl, hp⟩
  exact ⟨rfl, rfl, HP5.out.grow.trans hp⟩

set_option maxRecDepth 100000 in
set_option maxHeartbeats 8000000 in
theorem or_bad {ev : Value} {pb : Nat} {s : ByteArray} {i : Nat} (w : World) (h : PIn ev pb s i w) {k : Nat} (hca : ∀ W, PW w pb s i W → Calls Tryd.prog 116 #[.pointer (some ⟨pb, 0, none⟩)] W (PS W pb k)) :
    Calls Tryd.prog 96 #[.pointer (some ⟨pb, 0, none⟩)] w (PS w pb k) := by
  have HCA := Lib.hid hca
  have HP0 := Lib.hid h.pw
  clear h hca
  unfold PS at *
  go_enter Tryd.func96, Tryd.ntmps96
  go_wp2_with fail
  refine (HCA.out _ HP0.out).mono ?_
  rintro e x2 ⟨rfl, hp⟩
  exact ⟨rfl, rfl, HP0.out.grow.trans hp⟩

set_option maxRecDepth 100000 in
set_option maxHeartbeats 8000000 in
theorem or_one {ev : Value} {pb : Nat} {s : ByteArray} {i : Nat} (w : World) (h : PIn ev pb s i w) {t : Rx} {j : Nat} (hjs : j ≤ s.size) (hj : s.data.toList[j]? ≠ some 124) (hca : ∀ W, PW w pb s i W → Calls Tryd.prog 116 #[.pointer (some ⟨pb, 0, none⟩)] W (TreeAt pb s t j W)) :
    Calls Tryd.prog 96 #[.pointer (some ⟨pb, 0, none⟩)] w (TreeAt pb s t j w) := by
  have HCA := Lib.hid hca
  have HP0 := Lib.hid h.pw
  have hsz := h.sz
  have NO : Hid (∀ W, PW w pb s j W → Calls Tryd.prog 117 #[.pointer (some ⟨pb, 0, none⟩), .int .u8 124] W (IsNo W)) := Lib.hid fun W hw => is_no (c := 124) W hw.here hsz hjs hj
  unfold TreeAt at *
  clear h hca hj
  go_enter Tryd.func96, Tryd.ntmps96
  go_wp2_with fail
  refine (HCA.out _ HP0.out).mono ?_
  rintro e x2 ⟨g, cap, rfl, ho, hp⟩
  have HP2 := Lib.hid (HP0.out.trans hp)
  have HO2 := Lib.hid (ho.base HP0.out.grow.size)
  clear ho hp
  go_wp2_with fail
  refine (NO.out _ HP2.out).mono ?_
  rintro e x3 ⟨rfl, hb3⟩
  have HP3 := Lib.hid (HP2.out.below hb3)
  have HO3 := Lib.hid (HO2.out.below hb3)
  clear hb3
  go_wp2_with fail
  go_ret
  exact ⟨g, cap, rfl, HO3.out, HP3.out⟩

set_option maxRecDepth 100000 in
set_option maxHeartbeats 8000000 in
theorem or_two {ev : Value} {pb : Nat} {s : ByteArray} {i : Nat} (w : World) (h : PIn ev pb s i w) {t u : Rx} {j k : Nat} (hj : s.data.toList[j]? = some 124) (hfl : (flat t).length ≤ 1000) (hfl2 : (flat u).length ≤ 1000) (hca : ∀ W, PW w pb s i W → Calls Tryd.prog 116 #[.pointer (some ⟨pb, 0, none⟩)] W (TreeAt pb s t j W)) (hoo : ∀ W, PW w pb s (j + 1) W → Calls Tryd.prog 96 #[.pointer (some ⟨pb, 0, none⟩)] W (TreeAt pb s u k W)) :
    Calls Tryd.prog 96 #[.pointer (some ⟨pb, 0, none⟩)] w (TreeAt pb s (.alt t u) k w) := by
  have HCA := Lib.hid hca
  have HOO := Lib.hid hoo
  have HP0 := Lib.hid h.pw
  have hsz := h.sz
  have YS : Hid (∀ W, PW w pb s j W → Calls Tryd.prog 117 #[.pointer (some ⟨pb, 0, none⟩), .int .u8 124] W (IsYes pb s j W)) := Lib.hid fun W hw => is_yes (c := 124) W hw.here hsz hj
  have HND := Lib.hid fun W B hB => node_at 4 W B hB
  obtain ⟨i0, hi0, hz0, hz1, hz2⟩ := nd_parts
  have hpb := h.pw.lt
  have hpos := flat_pos t
  obtain ⟨N, hN⟩ : ∃ N, N = (flat t).length := ⟨_, rfl⟩
  have HN := Lib.hid hN
  have hposM := flat_pos u
  obtain ⟨M, hM⟩ : ∃ M, M = (flat u).length := ⟨_, rfl⟩
  have HM := Lib.hid hM
  unfold TreeAt at *
  rw [← hN] at HCA hfl hpos
  rw [← hM] at HOO hfl2 hposM
  clear h hca hoo hj hN hM
  go_enter Tryd.func96, Tryd.ntmps96
  go_wp2_with fail
  refine (HCA.out _ HP0.out).mono ?_
  rintro e x2 ⟨g, cap, rfl, ho, hp⟩
  have HP2 := Lib.hid (HP0.out.trans hp)
  have HO2 := Lib.hid (ho.base HP0.out.grow.size)
  clear ho hp
  go_wp2_with fail
  refine (YS.out _ HP2.out).mono ?_
  rintro e x3 ⟨rfl, hp3⟩
  have HP3 := Lib.hid (HP2.out.trans hp3)
  have HO3 := Lib.hid (HO2.out.grown hp3.grow hpb)
  clear hp3
  go_wp2_with fail
  refine (HND.out _ x3.heap.size rfl).mono ?_
  rintro e x4 ⟨rfl, ho4, hb4⟩
  have HP4 := Lib.hid (HP3.out.below hb4)
  have HO4 := Lib.hid (HO3.out.below hb4)
  have hx3 := HP3.out.grow.size
  have HN4 := Lib.hid (ho4.base hx3)
  have hx4 := HP4.out.grow.size
  have HCS := Lib.hid (HO4.out.cells hpos)
  have HNL : Hid (((flat t).flatMap ndCells).length = N * 5) := Lib.hid (by rw [flatMap_len, HN.out])
  have HON := Lib.hid (nd_one (flat t))
  clear ho4 hb4
  go_wp2_with (at_builtin; refine wpList_append_lies _ rfl (.tmp 10) (.tmp 11) _ rfl w.heap.size 69 i0 _ 5 40 Tryd.underlying22 hi0 hz0 hz1 hz2 rfl (by omega) _ 1 _ rfl HN4.out ⟨g, 0, none⟩ N _ ((flat t).flatMap ndCells) rfl HNL.out HCS.out HON.out hpos (by unfold maxLen; omega) (by omega) hx4 _ rfl ?_)
  intro g5 cap5 x5 hown5 hgrow5 _ _
  have HP5 := Lib.hid (HP4.out.app hgrow5 hx3)
  have hg5 := (hown5.lt g5 rfl).1
  have HR5 : Hid (OwnT x5 w.heap.size (.slice (some ⟨g5, 0, none⟩) (1 + N) cap5) (⟨4, zc⟩ :: flat t)) := Lib.hid (by
    unfold OwnT
    have e : (⟨4, zc⟩ :: flat t : List Nd).length = 1 + N := by rw [List.length_cons, ← HN.out]; omega
    rw [e]
    exact hown5)
  clear hown5 hgrow5
  go_wp2_with fail
  refine (HOO.out _ HP5.out).mono ?_
  rintro e x6 ⟨g6, cap6, rfl, ho6, hp6⟩
  have HP6 := Lib.hid (HP5.out.trans hp6)
  have HR6 := Lib.hid (HR5.out.grown hp6.grow hpb)
  have hx6 := HP6.out.grow.size
  have HC6 := Lib.hid (ho6.cells hposM)
  have HNM : Hid (((flat u).flatMap ndCells).length = M * 5) := Lib.hid (by rw [flatMap_len, HM.out])
  have HOM := Lib.hid (nd_one (flat u))
  have hr6 := HR6.out
  unfold OwnT at hr6
  have e6 : (⟨4, zc⟩ :: flat t : List Nd).length = 1 + N := by rw [List.length_cons, ← HN.out]; omega
  rw [e6] at hr6
  have HR7 := Lib.hid hr6
  clear ho6 hp6 hr6 e6
  go_wp2_with (at_builtin; refine wpList_append_lies _ rfl (.tmp 12) (.tmp 14) _ rfl w.heap.size 69 i0 _ 5 40 Tryd.underlying22 hi0 hz0 hz1 hz2 rfl (by omega) _ (1 + N) _ rfl HR7.out ⟨g6, 0, none⟩ M _ ((flat u).flatMap ndCells) rfl HNM.out HC6.out HOM.out hposM (by unfold maxLen; omega) (by omega) hx6 _ rfl ?_)
  intro g7 cap7 x7 hown7 hgrow7 _ _
  have HP7 := Lib.hid (HP6.out.app hgrow7 hg5)
  have HR8 : Hid (OwnT x7 w.heap.size (.slice (some ⟨g7, 0, none⟩) (1 + N + M) cap7) (flat (.alt t u))) := Lib.hid (by
    unfold OwnT
    have e : (flat (.alt t u)).length = 1 + N + M := by show ((⟨4, zc⟩ : Nd) :: (flat t ++ flat u)).length = _; rw [List.length_cons, List.length_append, ← HN.out, ← HM.out]; omega
    have e2 : (flat (.alt t u)).flatMap ndCells = (⟨4, zc⟩ :: flat t : List Nd).flatMap ndCells ++ (flat u).flatMap ndCells := by show ((⟨4, zc⟩ : Nd) :: (flat t ++ flat u)).flatMap ndCells = _; simp [List.flatMap_append]
    rw [e, e2]
    exact hown7)
  have HL8 : Hid ((flat (.alt t u)).length = 1 + N + M) := Lib.hid (by show ((⟨4, zc⟩ : Nd) :: (flat t ++ flat u)).length = _; rw [List.length_cons, List.length_append, ← HN.out, ← HM.out]; omega)
  clear hown7 hgrow7
  go_wp2_with fail
  go_ret
  refine ⟨g7, cap7, by rw [HL8.out]; rfl, ?_, HP7.out⟩
  rw [HL8.out]
  exact HR8.out

set_option maxRecDepth 100000 in
set_option maxHeartbeats 8000000 in
theorem or_twobad {ev : Value} {pb : Nat} {s : ByteArray} {i : Nat} (w : World) (h : PIn ev pb s i w) {t : Rx} {j k : Nat} (hj : s.data.toList[j]? = some 124) (hfl : (flat t).length ≤ 1000) (hca : ∀ W, PW w pb s i W → Calls Tryd.prog 116 #[.pointer (some ⟨pb, 0, none⟩)] W (TreeAt pb s t j W)) (hoo : ∀ W, PW w pb s (j + 1) W → Calls Tryd.prog 96 #[.pointer (some ⟨pb, 0, none⟩)] W (PS W pb k)) :
    Calls Tryd.prog 96 #[.pointer (some ⟨pb, 0, none⟩)] w (PS w pb k) := by
  have HCA := Lib.hid hca
  have HOO := Lib.hid hoo
  have HP0 := Lib.hid h.pw
  have hsz := h.sz
  have YS : Hid (∀ W, PW w pb s j W → Calls Tryd.prog 117 #[.pointer (some ⟨pb, 0, none⟩), .int .u8 124] W (IsYes pb s j W)) := Lib.hid fun W hw => is_yes (c := 124) W hw.here hsz hj
  have HND := Lib.hid fun W B hB => node_at 4 W B hB
  obtain ⟨i0, hi0, hz0, hz1, hz2⟩ := nd_parts
  have hpb := h.pw.lt
  have hpos := flat_pos t
  obtain ⟨N, hN⟩ : ∃ N, N = (flat t).length := ⟨_, rfl⟩
  have HN := Lib.hid hN
  unfold TreeAt at *
  unfold PS at *
  rw [← hN] at HCA hfl hpos
  clear h hca hoo hj hN
  go_enter Tryd.func96, Tryd.ntmps96
  go_wp2_with fail
  refine (HCA.out _ HP0.out).mono ?_
  rintro e x2 ⟨g, cap, rfl, ho, hp⟩
  have HP2 := Lib.hid (HP0.out.trans hp)
  have HO2 := Lib.hid (ho.base HP0.out.grow.size)
  clear ho hp
  go_wp2_with fail
  refine (YS.out _ HP2.out).mono ?_
  rintro e x3 ⟨rfl, hp3⟩
  have HP3 := Lib.hid (HP2.out.trans hp3)
  have HO3 := Lib.hid (HO2.out.grown hp3.grow hpb)
  clear hp3
  go_wp2_with fail
  refine (HND.out _ x3.heap.size rfl).mono ?_
  rintro e x4 ⟨rfl, ho4, hb4⟩
  have HP4 := Lib.hid (HP3.out.below hb4)
  have HO4 := Lib.hid (HO3.out.below hb4)
  have hx3 := HP3.out.grow.size
  have HN4 := Lib.hid (ho4.base hx3)
  have hx4 := HP4.out.grow.size
  have HCS := Lib.hid (HO4.out.cells hpos)
  have HNL : Hid (((flat t).flatMap ndCells).length = N * 5) := Lib.hid (by rw [flatMap_len, HN.out])
  have HON := Lib.hid (nd_one (flat t))
  clear ho4 hb4
  go_wp2_with (at_builtin; refine wpList_append_lies _ rfl (.tmp 10) (.tmp 11) _ rfl w.heap.size 69 i0 _ 5 40 Tryd.underlying22 hi0 hz0 hz1 hz2 rfl (by omega) _ 1 _ rfl HN4.out ⟨g, 0, none⟩ N _ ((flat t).flatMap ndCells) rfl HNL.out HCS.out HON.out hpos (by unfold maxLen; omega) (by omega) hx4 _ rfl ?_)
  intro g5 cap5 x5 hown5 hgrow5 _ _
  have HP5 := Lib.hid (HP4.out.app hgrow5 hx3)
  have hg5 := (hown5.lt g5 rfl).1
  have HR5 : Hid (OwnT x5 w.heap.size (.slice (some ⟨g5, 0, none⟩) (1 + N) cap5) (⟨4, zc⟩ :: flat t)) := Lib.hid (by
    unfold OwnT
    have e : (⟨4, zc⟩ :: flat t : List Nd).length = 1 + N := by rw [List.length_cons, ← HN.out]; omega
    rw [e]
    exact hown5)
  clear hown5 hgrow5
  go_wp2_with fail
  refine (HOO.out _ HP5.out).mono ?_
  rintro e x6 ⟨rfl, hp⟩
  exact ⟨rfl, rfl, HP5.out.grow.trans hp⟩

theorem read_c {ev : Value} {pb : Nat} {s : ByteArray} : ∀ (n i : Nat) (W : World), s.size - i < n → PIn ev pb s i W →
    Calls Tryd.prog 116 #[.pointer (some ⟨pb, 0, none⟩)] W (RdT (catS s.data.toList i) pb s W) ∧ Calls Tryd.prog 96 #[.pointer (some ⟨pb, 0, none⟩)] W (RdT (orS s.data.toList i) pb s W) := by
  intro n
  induction n with
  | zero => intro i W hn; omega
  | succ n ih =>
    intro i W hn h
    have hle := h.le
    have hl := at_end s
    have hat : ∀ W', PW W pb s i W' → Calls Tryd.prog 138 #[.pointer (some ⟨pb, 0, none⟩)] W' (RdT (atomS s.data.toList i) pb s W') := fun W' hw =>
      atom_c W' (h.next hw hle) (fun h40 W'' hw' => by
        have := getE_lt h40
        rw [hl] at this
        exact (ih (i + 1) W'' (by omega) ((h.next hw hle).next hw' (by omega))).2)
    have hrd := read_ok (s := s.data.toList) _ i (Nat.le_refl _) (by rw [hl]; exact hle)
    have hcat : ∀ W', PW W pb s i W' → Calls Tryd.prog 116 #[.pointer (some ⟨pb, 0, none⟩)] W' (RdT (catS s.data.toList i) pb s W') := by
      intro W' hw
      have h' := h.next hw hle
      by_cases hst : stopS s.data.toList i = true
      · exact (cat_stop W' h' hst).mono fun e w' hh => .inl ⟨.empty, i, by rw [catS, if_pos hst], hh⟩
      · cases hA : atomS s.data.toList i with
        | bad k =>
          exact (cat_bad W' h' hst (fun W'' hw' => often_bad W'' (h'.next hw' hle) ((hat W'' (hw.trans hw')).mono fun e w' hh => hh.bad hA))).mono fun e w' hh => .inr ⟨k, by rw [catS, if_neg hst, hA], hh⟩
        | ok t j =>
          obtain ⟨hij, hjs, hokt, hfl⟩ := hrd.1 t j hA
          obtain ⟨s1, s2, s3, s4, _⟩ := signsS_ok _ j t (Nat.le_refl _) hjs hokt
          have hof : ∀ W'', PW W' pb s i W'' → Calls Tryd.prog 129 #[.pointer (some ⟨pb, 0, none⟩)] W'' (TreeAt pb s (signsS s.data.toList j t).1 (signsS s.data.toList j t).2 W'') := fun W'' hw' =>
            (often_ok W'' (h'.next hw' hle) (by rw [hl] at hjs; exact hjs) (by omega) ((hat W'' (hw.trans hw')).mono fun e w' hh => hh.ok hA)).mono (by
              rintro e w' ⟨tg, jg, hs, ht⟩
              rw [hs]
              exact ht)
          have hC0 : catS s.data.toList i = if stopS s.data.toList (signsS s.data.toList j t).2 = true then .ok (signsS s.data.toList j t).1 (signsS s.data.toList j t).2
              else match catS s.data.toList (signsS s.data.toList j t).2 with
                | .bad k => .bad k
                | .ok u k => .ok (.cat (signsS s.data.toList j t).1 u) k := by
            rw [catS, if_neg hst, hA]
            dsimp only
            rw [if_pos (show i < (signsS s.data.toList j t).2 ∧ i ≤ s.data.toList.length from ⟨by omega, by omega⟩)]
            rfl
          generalize (signsS s.data.toList j t).1 = tg at *
          generalize (signsS s.data.toList j t).2 = jg at *
          rw [hl] at s2
          by_cases hst2 : stopS s.data.toList jg = true
          · exact (cat_one W' h' hst s2 hst2 hof).mono fun e w' hh => .inl ⟨tg, jg, by rw [hC0, if_pos hst2], hh⟩
          · rw [if_neg hst2] at hC0
            have hsz := h.sz
            have hrec : ∀ W'', PW W' pb s jg W'' → Calls Tryd.prog 116 #[.pointer (some ⟨pb, 0, none⟩)] W'' (RdT (catS s.data.toList jg) pb s W'') := fun W'' hw' => (ih jg W'' (by omega) (h'.next hw' s2)).1
            cases hC : catS s.data.toList jg with
            | bad k => exact (cat_twobad W' h' hst hst2 (by omega) hof (fun W'' hw' => (hrec W'' hw').mono fun e w' hh => hh.bad hC)).mono fun e w' hh => .inr ⟨k, by rw [hC0, hC], hh⟩
            | ok u k =>
              have hu := (read_ok (s := s.data.toList) _ jg (Nat.le_refl _) (by rw [hl]; exact s2)).2.1 u k hC
              exact (cat_two W' h' hst hst2 (by omega) (by have := hu.2.1; have := hu.2.2.2.1; omega) hof (fun W'' hw' => (hrec W'' hw').mono fun e w' hh => hh.ok hC)).mono fun e w' hh => .inl ⟨.cat tg u, k, by rw [hC0, hC], hh⟩
    refine ⟨hcat W h.pw, ?_⟩
    cases hA : catS s.data.toList i with
    | bad k => exact (or_bad W h (fun W' hw => (hcat W' hw).mono fun e w' hh => hh.bad hA)).mono fun e w' hh => .inr ⟨k, by rw [orS, hA], hh⟩
    | ok t j =>
      obtain ⟨hij, hjs, hokt, hfl, hst⟩ := hrd.2.1 t j hA
      have hsz := h.sz
      have hjs' := hjs
      rw [hl] at hjs'
      by_cases hj : s.data.toList[j]? = some 124
      · have hj2 := getE_lt hj
        rw [hl] at hj2
        have hO0 : orS s.data.toList i = match orS s.data.toList (j + 1) with
            | .bad k => .bad k
            | .ok u k => .ok (.alt t u) k := by
          rw [orS, hA]
          dsimp only
          rw [if_pos hj, if_pos (show i ≤ j ∧ i ≤ s.data.toList.length from ⟨hij, by omega⟩)]
          rfl
        have hrec : ∀ W'', PW W pb s (j + 1) W'' → Calls Tryd.prog 96 #[.pointer (some ⟨pb, 0, none⟩)] W'' (RdT (orS s.data.toList (j + 1)) pb s W'') := fun W'' hw' => (ih (j + 1) W'' (by omega) (h.next hw' (by omega))).2
        cases hC : orS s.data.toList (j + 1) with
        | bad k => exact (or_twobad W h hj (by omega) (fun W' hw => (hcat W' hw).mono fun e w' hh => hh.ok hA) (fun W'' hw' => (hrec W'' hw').mono fun e w' hh => hh.bad hC)).mono fun e w' hh => .inr ⟨k, by rw [hO0, hC], hh⟩
        | ok u k =>
          have hu := (read_ok (s := s.data.toList) _ (j + 1) (Nat.le_refl _) (by rw [hl]; omega)).2.2 u k hC
          exact (or_two W h hj (by omega) (by have := hu.2.1; have := hu.2.2.2.1; omega) (fun W' hw => (hcat W' hw).mono fun e w' hh => hh.ok hA) (fun W'' hw' => (hrec W'' hw').mono fun e w' hh => hh.ok hC)).mono fun e w' hh => .inl ⟨.alt t u, k, by rw [hO0, hC], hh⟩
      · exact (or_one W h hjs' hj (fun W' hw => (hcat W' hw).mono fun e w' hh => hh.ok hA)).mono fun e w' hh => .inl ⟨t, j, by rw [orS, hA]; dsimp only; rw [if_neg hj], hh⟩
end Go.Proofs.YthcahjnniendnabDoor
