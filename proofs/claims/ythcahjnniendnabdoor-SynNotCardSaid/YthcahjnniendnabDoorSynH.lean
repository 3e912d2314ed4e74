/-
  Walks of package syn: atom whole, often. (Printed by gen-synh.py.)
-/
import Derived.Test.YthcahjnniendnabDoorSynG
import Derived.Deep.AppendLies
namespace Go.Proofs.YthcahjnniendnabDoor
open Go.RowKit Wf

theorem info_nd : (Tryd.prog.info? 69).map (fun i => (i.zero, i.size, i.bytes)) = some (some (.agg #[.int .i64 0, .int .u64 0, .int .u64 0, .int .u64 0, .int .u64 0]), 5, 40) := by kernel_rfl
theorem nd_parts : ∃ i : TypeInfo, Tryd.prog.info? 69 = some i ∧ i.zero = some (.agg #[.int .i64 0, .int .u64 0, .int .u64 0, .int .u64 0, .int .u64 0]) ∧ i.size = 5 ∧ i.bytes = 40 := by
  have h := info_nd
  cases hi : Tryd.prog.info? 69 with
  | none => rw [hi] at h; cases h
  | some i =>
    rw [hi] at h
    simp only [Option.map_some, Option.some.injEq, Prod.mk.injEq] at h
    exact ⟨i, rfl, h.1, h.2.1, h.2.2⟩
theorem PW.app {w0 w w' : World} {pb i g : Nat} {s : ByteArray} (h : PW w0 pb s i w) (hg : w.grownBy w' (some g)) (hge : w0.heap.size ≤ g) : PW w0 pb s i w' :=
  ⟨(hg.block pb h.par.lt (fun e => by have := h.lt; have e2 := Option.some.inj e; omega)).trans h.par, ⟨hg.os.trans h.grow.os, hg.tape.trans h.grow.tape, hg.output.trans h.grow.output, Nat.le_trans h.grow.size hg.size, fun q hq hne => (hg.block q (Nat.lt_of_lt_of_le hq h.grow.size) (fun e => by have e2 := Option.some.inj e; omega)).trans (h.grow.block q hq hne)⟩, h.lt⟩
theorem OwnT.cells {w : World} {base g n cap : Nat} {l : List Nd} (h : OwnT w base (.slice (some ⟨g, 0, none⟩) n cap) l) (hn : 0 < n) : ∀ (j : Nat) (u : Value), (l.flatMap ndCells)[j]? = some u → w.cell? ((⟨g, 0, none⟩ : Addr).add j) = some u := by
  obtain ⟨A, n', cap', hv, _, _, _, hc⟩ := Rd.of_own h
  injection hv with e1 e2 _
  subst e2
  obtain ⟨b, off, hA, hcc⟩ := hc hn
  rw [hA] at e1
  have e3 := Option.some.inj e1
  injection e3 with e4 e5 _
  intro j u hu
  rw [add_mk, e4, e5]
  exact hcc j u hu
theorem nd_one (l : List Nd) : ∀ u ∈ l.flatMap ndCells, u.oneCell' = true := by
  intro u hu
  obtain ⟨n, _, hn⟩ := List.mem_flatMap.1 hu
  simp only [ndCells, List.mem_cons, List.not_mem_nil, or_false] at hn
  rcases hn with rfl | rfl | rfl | rfl | rfl <;> rfl

theorem sgnIdx : ∀ b : Fin 256, Lib.indexByte [42, 43, 63] b.val.toUInt8 = if b.val = 42 then 0 else if b.val = 43 then 1 else if b.val = 63 then 2 else -1 := by decide +kernel
theorem Sign_c (n : Nat) (hn : n < 256) (q : Int) (hq : (if n = 42 then 0 else if n = 43 then 1 else if n = 63 then 2 else -1) = q) : Hid (∀ W, Calls Tryd.prog 92 #[.string ⟨#[42, 43, 63]⟩, .int .u8 (n : Int)] W (fun e w' => e = .returned (.int .i64 q) ∧ W = w')) := Lib.hid fun W => (IndexB_c _ _ W).mono (by
  rintro e w' ⟨rfl, rfl⟩
  refine ⟨?_, rfl⟩
  have h := sgnIdx ⟨n, hn⟩
  dsimp only at h
  rw [hq] at h
  rw [← h]
  rfl)
theorem node_at (op : Int) (W : World) (B : Nat) (hB : W.heap.size = B) : Calls Tryd.prog 118 #[.int .i64 op] W (fun e w' => e = .returned (.slice (some ⟨B, 0, none⟩) 1 1) ∧ OwnT w' B (.slice (some ⟨B, 0, none⟩) 1 1) [⟨op, zc⟩] ∧ Below W.heap.size W w') := by
  subst hB
  exact node_c op W
theorem orS_le {s : ByteArray} {i j : Nat} {t : Rx} (h : orS s.data.toList i = .ok t j) (hi : i ≤ s.size) : j ≤ s.size := by
  have := ((read_ok _ i (Nat.le_refl _) (by rw [at_end]; exact hi)).2.2 t j h).2.1
  rwa [at_end] at this

set_option maxRecDepth 100000 in
set_option maxHeartbeats 8000000 in
theorem atom_par {ev : Value} {pb : Nat} {s : ByteArray} {i : Nat} (w : World) (h : PIn ev pb s i w) (hc : s.data.toList[i]? = some 40) {t : Rx} {j : Nat} (hor : (∀ W, PW w pb s (i + 1) W → Calls Tryd.prog 96 #[.pointer (some ⟨pb, 0, none⟩)] W (TreeAt pb s t j W))) (hj : s.data.toList[j]? = some 41) :
    Calls Tryd.prog 138 #[.pointer (some ⟨pb, 0, none⟩)] w (TreeAt pb s t (j + 1) w) := by
  have YES : Hid (∀ W, PW w pb s i W → Calls Tryd.prog 117 #[.pointer (some ⟨pb, 0, none⟩), .int .u8 40] W (IsYes pb s i W)) := h.yes (c := 40) hc
  have HOR := Lib.hid hor
  have hsz := h.sz
  have Y2 : Hid (∀ W, PW w pb s j W → Calls Tryd.prog 117 #[.pointer (some ⟨pb, 0, none⟩), .int .u8 41] W (IsYes pb s j W)) := Lib.hid fun W hw => is_yes (c := 41) W hw.here hsz hj
  have HP0 := Lib.hid h.pw
  unfold TreeAt at HOR
  clear h hc hor hj
  unfold TreeAt
  go_enter Tryd.func138, Tryd.ntmps138
  go_wp2_with fail
  refine (YES.out _ HP0.out).mono ?_
  rintro e y ⟨rfl, hp⟩
  have HY := Lib.hid (HP0.out.trans hp)
  clear hp
  go_wp2_with fail
  refine (HOR.out _ HY.out).mono ?_
  rintro e z ⟨g, cap, rfl, ho, hp⟩
  have HZ := Lib.hid (HY.out.trans hp)
  have HO := Lib.hid ho
  clear ho hp
  go_wp2_with fail
  refine (Y2.out _ HZ.out).mono ?_
  rintro e u ⟨rfl, hp⟩
  have HU := Lib.hid (HZ.out.trans hp)
  have HO2 := Lib.hid (HO.out.grown hp.grow (by have := HY.out.lt; have := HY.out.grow.size; omega))
  clear hp
  go_wp2_with fail
  go_ret
  exact ⟨g, cap, rfl, HO2.out.base HY.out.grow.size, HU.out⟩

set_option maxRecDepth 100000 in
set_option maxHeartbeats 8000000 in
theorem atom_parno {ev : Value} {pb : Nat} {s : ByteArray} {i : Nat} (w : World) (h : PIn ev pb s i w) (hc : s.data.toList[i]? = some 40) {t : Rx} {j : Nat} (hor : (∀ W, PW w pb s (i + 1) W → Calls Tryd.prog 96 #[.pointer (some ⟨pb, 0, none⟩)] W (TreeAt pb s t j W))) (hjs : j ≤ s.size) (hj : s.data.toList[j]? ≠ some 41) :
    Calls Tryd.prog 138 #[.pointer (some ⟨pb, 0, none⟩)] w (PS w pb j) := by
  have YES : Hid (∀ W, PW w pb s i W → Calls Tryd.prog 117 #[.pointer (some ⟨pb, 0, none⟩), .int .u8 40] W (IsYes pb s i W)) := h.yes (c := 40) hc
  have HOR := Lib.hid hor
  have hsz := h.sz
  have N2 : Hid (∀ W, PW w pb s j W → Calls Tryd.prog 117 #[.pointer (some ⟨pb, 0, none⟩), .int .u8 41] W (IsNo W)) := Lib.hid fun W hw => is_no (c := 41) W hw.here hsz hjs hj
  have HP0 := Lib.hid h.pw
  unfold TreeAt at HOR
  clear h hc hor hj
  unfold PS stopV
  go_enter Tryd.func138, Tryd.ntmps138
  go_wp2_with fail
  refine (YES.out _ HP0.out).mono ?_
  rintro e y ⟨rfl, hp⟩
  have HY := Lib.hid (HP0.out.trans hp)
  clear hp
  go_wp2_with fail
  refine (HOR.out _ HY.out).mono ?_
  rintro e z ⟨g, cap, rfl, ho, hp⟩
  have HZ := Lib.hid (HY.out.trans hp)
  clear ho hp
  go_wp2_with fail
  refine (N2.out _ HZ.out).mono ?_
  rintro e u ⟨rfl, hb⟩
  have HU := Lib.hid (HZ.out.below hb)
  have c1 := HU.out.c1
  clear hb
  go_wp2_with fail
  exact ⟨rfl, rfl, HU.out.grow⟩

set_option maxRecDepth 100000 in
set_option maxHeartbeats 8000000 in
theorem atom_parbad {ev : Value} {pb : Nat} {s : ByteArray} {i : Nat} (w : World) (h : PIn ev pb s i w) (hc : s.data.toList[i]? = some 40) {k : Nat} (hor : (∀ W, PW w pb s (i + 1) W → Calls Tryd.prog 96 #[.pointer (some ⟨pb, 0, none⟩)] W (PS W pb k))) :
    Calls Tryd.prog 138 #[.pointer (some ⟨pb, 0, none⟩)] w (PS w pb k) := by
  have YES : Hid (∀ W, PW w pb s i W → Calls Tryd.prog 117 #[.pointer (some ⟨pb, 0, none⟩), .int .u8 40] W (IsYes pb s i W)) := h.yes (c := 40) hc
  have HOR := Lib.hid hor
  have HP0 := Lib.hid h.pw
  clear h hc hor
  unfold PS at *
  go_enter Tryd.func138, Tryd.ntmps138
  go_wp2_with fail
  refine (YES.out _ HP0.out).mono ?_
  rintro e y ⟨rfl, hp⟩
  have HY := Lib.hid (HP0.out.trans hp)
  clear hp
  go_wp2_with fail
  refine (HOR.out _ HY.out).mono ?_
  rintro e z ⟨rfl, hp⟩
  exact ⟨rfl, rfl, HY.out.grow.trans hp⟩

theorem atom_c {ev : Value} {pb : Nat} {s : ByteArray} {i : Nat} (w : World) (h : PIn ev pb s i w) (hor : s.data.toList[i]? = some 40 → ∀ W, PW w pb s (i + 1) W → Calls Tryd.prog 96 #[.pointer (some ⟨pb, 0, none⟩)] W (RdT (orS s.data.toList (i + 1)) pb s W)) :
    Calls Tryd.prog 138 #[.pointer (some ⟨pb, 0, none⟩)] w (RdT (atomS s.data.toList i) pb s w) := by
  have good : ∀ t j, atomS s.data.toList i = .ok t j → Calls Tryd.prog 138 #[.pointer (some ⟨pb, 0, none⟩)] w (TreeAt pb s t j w) → Calls Tryd.prog 138 #[.pointer (some ⟨pb, 0, none⟩)] w (RdT (atomS s.data.toList i) pb s w) := fun t j h1 h2 => h2.mono fun e w' hh => .inl ⟨t, j, h1, hh⟩
  have bad : ∀ k, atomS s.data.toList i = .bad k → Calls Tryd.prog 138 #[.pointer (some ⟨pb, 0, none⟩)] w (PS w pb k) → Calls Tryd.prog 138 #[.pointer (some ⟨pb, 0, none⟩)] w (RdT (atomS s.data.toList i) pb s w) := fun k h1 h2 => h2.mono fun e w' hh => .inr ⟨k, h1, hh⟩
  by_cases h1 : s.data.toList[i]? = some 40
  · have hi2 := getE_lt h1
    rw [at_end] at hi2
    have ho := hor h1
    cases hO : orS s.data.toList (i + 1) with
    | bad k => exact bad k (by rw [atomS_at h1, if_pos rfl, hO]) (atom_parbad w h h1 (fun W hw => (ho W hw).mono fun e w' hh => hh.bad hO))
    | ok t j =>
      have hjs := orS_le hO (by omega)
      by_cases hj : s.data.toList[j]? = some 41
      · exact good t (j + 1) (by rw [atomS_at h1, if_pos rfl, hO]; simp only [if_pos hj]) (atom_par w h h1 (fun W hw => (ho W hw).mono fun e w' hh => hh.ok hO) hj)
      · exact bad j (by rw [atomS_at h1, if_pos rfl, hO]; simp only [if_neg hj]) (atom_parno w h h1 (fun W hw => (ho W hw).mono fun e w' hh => hh.ok hO) hjs hj)
  · by_cases h2 : s.data.toList[i]? = some 91
    · cases hB : bracketS s.data.toList (i + 1) with
      | bad k => exact bad k (by rw [atomS_at h2, if_neg (by decide), if_pos rfl, hB]) (atom_clsbad w h h2 hB)
      | ok c j => exact good (.byte c) j (by rw [atomS_at h2, if_neg (by decide), if_pos rfl, hB]) (atom_cls w h h2 hB)
    · by_cases h3 : s.data.toList[i]? = some 46
      · exact good (.byte dotC) (i + 1) (by rw [atomS_at h3, if_neg (by decide), if_neg (by decide), if_pos rfl]) (atom_dot w h h3)
      · by_cases h4 : s.data.toList[i]? = some 94
        · exact good .bgn (i + 1) (by rw [atomS_at h4, if_neg (by decide), if_neg (by decide), if_neg (by decide), if_pos rfl]) (atom_bgn w h h4)
        · by_cases h5 : s.data.toList[i]? = some 36
          · exact good .fin (i + 1) (by rw [atomS_at h5, if_neg (by decide), if_neg (by decide), if_neg (by decide), if_neg (by decide), if_pos rfl]) (atom_fin w h h5)
          · cases hO : oneS s.data.toList i with
            | bad k => exact bad k (by rw [atomS_one h1 h2 h3 h4 h5, hO]) (atom_onebad w h h1 h2 h3 h4 h5 hO)
            | ok b j => exact good (.byte (withB zc b)) j (by rw [atomS_one h1 h2 h3 h4 h5, hO]) (atom_one w h h1 h2 h3 h4 h5 hO)

set_option maxRecDepth 100000 in
set_option maxHeartbeats 8000000 in
theorem often_bad {ev : Value} {pb : Nat} {s : ByteArray} {i : Nat} (w : World) (h : PIn ev pb s i w) {k : Nat} (hat : Calls Tryd.prog 138 #[.pointer (some ⟨pb, 0, none⟩)] w (PS w pb k)) :
    Calls Tryd.prog 129 #[.pointer (some ⟨pb, 0, none⟩)] w (PS w pb k) := by
  have HAT := Lib.hid hat
  clear h hat
  unfold PS at *
  go_enter Tryd.func129, Tryd.ntmps129
  go_wp2_with fail
  refine HAT.out.mono ?_
  rintro e z ⟨rfl, hp⟩
  exact ⟨rfl, rfl, hp⟩

set_option maxRecDepth 100000 in
set_option maxHeartbeats 8000000 in
theorem often_ok {ev : Value} {pb : Nat} {s : ByteArray} {i : Nat} (w : World) (h : PIn ev pb s i w) {t : Rx} {j : Nat} (hjs : j ≤ s.size) (hfl : (flat t).length ≤ 2 * j) (hat : Calls Tryd.prog 138 #[.pointer (some ⟨pb, 0, none⟩)] w (TreeAt pb s t j w)) :
    Calls Tryd.prog 129 #[.pointer (some ⟨pb, 0, none⟩)] w (fun e w' => ∃ tg jg, signsS s.data.toList j t = (tg, jg) ∧ TreeAt pb s tg jg w e w') := by
  obtain ⟨i0, hi0, hz0, hz1, hz2⟩ := nd_parts
  have HAT := Lib.hid hat
  have hsz := h.sz
  have hpb := h.pw.lt
  have hpos0 := flat_pos t
  unfold TreeAt at *
  obtain ⟨N0, hN0⟩ : ∃ N0, N0 = (flat t).length := ⟨_, rfl⟩
  rw [← hN0] at HAT hfl hpos0
  have HN0 := Lib.hid hN0
  clear h hat hN0
  go_enter Tryd.func129, Tryd.ntmps129
  go_wp2_with fail
  refine HAT.out.mono ?_
  rintro e w1 ⟨g1, cap1, rfl, ho1, hp1⟩
  have HO1 := Lib.hid ho1
  have HP1 := Lib.hid hp1
  clear ho1 hp1 HAT
  go_wp2_with fail
  go_loopg [3] (s.size + 1) (fun gk v3 wr => ∃ (tg : Rx) (jg g cap N : Nat), jg ≤ s.size ∧ v3 = .slice (some ⟨g, 0, none⟩) N cap ∧ N ≤ 2 * jg ∧ 0 < N ∧ Hid (N = (flat tg).length) ∧ Hid (OwnT wr w.heap.size (.slice (some ⟨g, 0, none⟩) N cap) (flat tg)) ∧ Hid (PW w pb s jg wr) ∧ Hid (signsS s.data.toList j t = signsS s.data.toList jg tg) ∧ Hid (s.size - jg < gk))
  case atStart => exact ⟨t, j, g1, cap1, N0, hjs, rfl, hfl, hpos0, HN0, HO1, HP1, Lib.hid rfl, Lib.hid (by omega)⟩
  case round =>
    clear HO1 HP1 HN0
    obtain ⟨tg, jg, g, cap, N, hjg, rfl, hNj, hpos, HN, HOW, HPW, HEQ, HG⟩ := hrel
    have hg0 : 0 < gk := by have := HG.out; omega
    cases hg : s.data.toList[jg]? with
    | none =>
      have HPK : Hid (∀ W, PW w pb s jg W → Calls Tryd.prog 128 #[.pointer (some ⟨pb, 0, none⟩)] W (PeekIs 0 false W)) := Lib.hid fun W hw => peek_none W hw.here hsz hjg hg
      have HIX := Sign_c 0 (by decide) (-1) (by decide)
      have HSG : Hid (signsS s.data.toList j t = (tg, jg)) := Lib.hid (by rw [HEQ.out, signsS_end tg (fun c hc => by rw [hg] at hc; cases hc)])
      unfold PeekIs at HPK
      clear hg HEQ
      go_wp2_with fail
      refine (HPK.out _ HPW.out).mono ?_
      rintro e x1 ⟨rfl, hb1⟩
      have HP1 := Lib.hid (HPW.out.below hb1)
      have HO1 := Lib.hid (HOW.out.below hb1)
      clear hb1
      go_wp2_with fail
      refine (HIX.out _).mono ?_
      rintro e x2 ⟨rfl, rfl⟩
      go_wp2_with fail
      go_ret
      refine ⟨tg, jg, HSG.out, g, cap, by rw [← HN.out]; rfl, ?_, HP1.out⟩
      rw [← HN.out]
      exact HO1.out
    | some c =>
      by_cases h42 : c = 42
      · subst h42
        have HPK : Hid (∀ W, PW w pb s jg W → Calls Tryd.prog 128 #[.pointer (some ⟨pb, 0, none⟩)] W (PeekIs 42 true W)) := Lib.hid fun W hw => peek_some W hw.here hsz hg
        have HIX := Sign_c 42 (by decide) 0 (by decide)
        have HND := Lib.hid fun W B hB => node_at 5 W B hB
        have hj2 := getE_lt hg
        rw [at_end] at hj2
        have HSG : Hid (signsS s.data.toList j t = signsS s.data.toList (jg + 1) (.star tg)) := Lib.hid (by rw [HEQ.out, signsS_star _ hg])
        unfold PeekIs at HPK
        clear hg HEQ
        go_wp2_with fail
        refine (HPK.out _ HPW.out).mono ?_
        rintro e x1 ⟨rfl, hb1⟩
        have HP1 := Lib.hid (HPW.out.below hb1)
        have HO1 := Lib.hid (HOW.out.below hb1)
        clear hb1
        have c1 := HP1.out.c1
        have f1 := HP1.out.f1
        go_wp2_with fail
        refine (HIX.out _).mono ?_
        rintro e x2 ⟨rfl, rfl⟩
        have hp2 : PW x1 pb s (jg + 1) (x1.setCell ⟨pb, 1, none⟩ (.int .i64 ((jg : Int) + 1))) := by have := HP1.out.here.one (jg + 1); push_cast at this; exact this
        have HP2 := Lib.hid hp2
        have HO2 := Lib.hid (HO1.out.grown hp2.grow hpb)
        clear hp2
        go_wp2_with fail
        refine (HND.out _ x1.heap.size (by simp)).mono ?_
        rintro e x3 ⟨rfl, ho3, hb3⟩
        have HP3 := Lib.hid ((HP1.out.trans HP2.out).below hb3)
        have HO3 := Lib.hid (HO2.out.below hb3)
        have hx1 := HP1.out.grow.size
        have HN3 := Lib.hid (ho3.base hx1)
        have hx3 := HP3.out.grow.size
        have HCS := Lib.hid (HO3.out.cells hpos)
        have HNL : Hid (((flat tg).flatMap ndCells).length = N * 5) := Lib.hid (by rw [flatMap_len, HN.out])
        have HON := Lib.hid (nd_one (flat tg))
        clear ho3 hb3
        go_wp2_with (at_builtin; refine wpList_append_lies _ rfl (.tmp 32) (.tmp 33) _ rfl w.heap.size 69 i0 _ 5 40 Tryd.underlying22 hi0 hz0 hz1 hz2 rfl (by omega) _ 1 _ rfl HN3.out ⟨g, 0, none⟩ N _ ((flat tg).flatMap ndCells) rfl HNL.out HCS.out HON.out hpos (by unfold maxLen; omega) (by omega) hx3 _ rfl ?_)
        intro g4 cap4 x4 hown4 hgrow4 _ _
        have HP4 := Lib.hid (HP3.out.app hgrow4 hx1)
        have HO4 : Hid (OwnT x4 w.heap.size (.slice (some ⟨g4, 0, none⟩) (1 + N) cap4) (flat (.star tg))) := Lib.hid (by
          unfold OwnT
          have e : (flat (.star tg)).length = 1 + N := by show (flat tg).length + 1 = _; rw [← HN.out]; omega
          rw [e]
          exact hown4)
        have HN4 : Hid (1 + N = (flat (.star tg)).length) := Lib.hid (by show _ = (flat tg).length + 1; rw [← HN.out]; omega)
        clear hown4 hgrow4
        go_wp2_with fail
        go_roundg (gk - 1)
        case rel => exact ⟨.star tg, jg + 1, g4, cap4, 1 + N, by omega, rfl, by omega, by omega, HN4, HO4, HP4, HSG, Lib.hid (by have := HG.out; omega)⟩
        all_goals (first | (have := HG.out; omega) | omega)
      · by_cases h43 : c = 43
        · subst h43
          have HPK : Hid (∀ W, PW w pb s jg W → Calls Tryd.prog 128 #[.pointer (some ⟨pb, 0, none⟩)] W (PeekIs 43 true W)) := Lib.hid fun W hw => peek_some W hw.here hsz hg
          have HIX := Sign_c 43 (by decide) 1 (by decide)
          have HND := Lib.hid fun W B hB => node_at 6 W B hB
          have hj2 := getE_lt hg
          rw [at_end] at hj2
          have HSG : Hid (signsS s.data.toList j t = signsS s.data.toList (jg + 1) (.plus tg)) := Lib.hid (by rw [HEQ.out, signsS_plus _ hg])
          unfold PeekIs at HPK
          clear hg HEQ
          go_wp2_with fail
          refine (HPK.out _ HPW.out).mono ?_
          rintro e x1 ⟨rfl, hb1⟩
          have HP1 := Lib.hid (HPW.out.below hb1)
          have HO1 := Lib.hid (HOW.out.below hb1)
          clear hb1
          have c1 := HP1.out.c1
          have f1 := HP1.out.f1
          go_wp2_with fail
          refine (HIX.out _).mono ?_
          rintro e x2 ⟨rfl, rfl⟩
          have hp2 : PW x1 pb s (jg + 1) (x1.setCell ⟨pb, 1, none⟩ (.int .i64 ((jg : Int) + 1))) := by have := HP1.out.here.one (jg + 1); push_cast at this; exact this
          have HP2 := Lib.hid hp2
          have HO2 := Lib.hid (HO1.out.grown hp2.grow hpb)
          clear hp2
          go_wp2_with fail
          refine (HND.out _ x1.heap.size (by simp)).mono ?_
          rintro e x3 ⟨rfl, ho3, hb3⟩
          have HP3 := Lib.hid ((HP1.out.trans HP2.out).below hb3)
          have HO3 := Lib.hid (HO2.out.below hb3)
          have hx1 := HP1.out.grow.size
          have HN3 := Lib.hid (ho3.base hx1)
          have hx3 := HP3.out.grow.size
          have HCS := Lib.hid (HO3.out.cells hpos)
          have HNL : Hid (((flat tg).flatMap ndCells).length = N * 5) := Lib.hid (by rw [flatMap_len, HN.out])
          have HON := Lib.hid (nd_one (flat tg))
          clear ho3 hb3
          go_wp2_with (at_builtin; refine wpList_append_lies _ rfl (.tmp 32) (.tmp 33) _ rfl w.heap.size 69 i0 _ 5 40 Tryd.underlying22 hi0 hz0 hz1 hz2 rfl (by omega) _ 1 _ rfl HN3.out ⟨g, 0, none⟩ N _ ((flat tg).flatMap ndCells) rfl HNL.out HCS.out HON.out hpos (by unfold maxLen; omega) (by omega) hx3 _ rfl ?_)
          intro g4 cap4 x4 hown4 hgrow4 _ _
          have HP4 := Lib.hid (HP3.out.app hgrow4 hx1)
          have HO4 : Hid (OwnT x4 w.heap.size (.slice (some ⟨g4, 0, none⟩) (1 + N) cap4) (flat (.plus tg))) := Lib.hid (by
            unfold OwnT
            have e : (flat (.plus tg)).length = 1 + N := by show (flat tg).length + 1 = _; rw [← HN.out]; omega
            rw [e]
            exact hown4)
          have HN4 : Hid (1 + N = (flat (.plus tg)).length) := Lib.hid (by show _ = (flat tg).length + 1; rw [← HN.out]; omega)
          clear hown4 hgrow4
          go_wp2_with fail
          go_roundg (gk - 1)
          case rel => exact ⟨.plus tg, jg + 1, g4, cap4, 1 + N, by omega, rfl, by omega, by omega, HN4, HO4, HP4, HSG, Lib.hid (by have := HG.out; omega)⟩
          all_goals (first | (have := HG.out; omega) | omega)
        · by_cases h63 : c = 63
          · subst h63
            have HPK : Hid (∀ W, PW w pb s jg W → Calls Tryd.prog 128 #[.pointer (some ⟨pb, 0, none⟩)] W (PeekIs 63 true W)) := Lib.hid fun W hw => peek_some W hw.here hsz hg
            have HIX := Sign_c 63 (by decide) 2 (by decide)
            have HND := Lib.hid fun W B hB => node_at 7 W B hB
            have hj2 := getE_lt hg
            rw [at_end] at hj2
            have HSG : Hid (signsS s.data.toList j t = signsS s.data.toList (jg + 1) (.opt tg)) := Lib.hid (by rw [HEQ.out, signsS_opt _ hg])
            unfold PeekIs at HPK
            clear hg HEQ
            go_wp2_with fail
            refine (HPK.out _ HPW.out).mono ?_
            rintro e x1 ⟨rfl, hb1⟩
            have HP1 := Lib.hid (HPW.out.below hb1)
            have HO1 := Lib.hid (HOW.out.below hb1)
            clear hb1
            have c1 := HP1.out.c1
            have f1 := HP1.out.f1
            go_wp2_with fail
            refine (HIX.out _).mono ?_
            rintro e x2 ⟨rfl, rfl⟩
            have hp2 : PW x1 pb s (jg + 1) (x1.setCell ⟨pb, 1, none⟩ (.int .i64 ((jg : Int) + 1))) := by have := HP1.out.here.one (jg + 1); push_cast at this; exact this
            have HP2 := Lib.hid hp2
            have HO2 := Lib.hid (HO1.out.grown hp2.grow hpb)
            clear hp2
            go_wp2_with fail
            refine (HND.out _ x1.heap.size (by simp)).mono ?_
            rintro e x3 ⟨rfl, ho3, hb3⟩
            have HP3 := Lib.hid ((HP1.out.trans HP2.out).below hb3)
            have HO3 := Lib.hid (HO2.out.below hb3)
            have hx1 := HP1.out.grow.size
            have HN3 := Lib.hid (ho3.base hx1)
            have hx3 := HP3.out.grow.size
            have HCS := Lib.hid (HO3.out.cells hpos)
            have HNL : Hid (((flat tg).flatMap ndCells).length = N * 5) := Lib.hid (by rw [flatMap_len, HN.out])
            have HON := Lib.hid (nd_one (flat tg))
            clear ho3 hb3
            go_wp2_with (at_builtin; refine wpList_append_lies _ rfl (.tmp 32) (.tmp 33) _ rfl w.heap.size 69 i0 _ 5 40 Tryd.underlying22 hi0 hz0 hz1 hz2 rfl (by omega) _ 1 _ rfl HN3.out ⟨g, 0, none⟩ N _ ((flat tg).flatMap ndCells) rfl HNL.out HCS.out HON.out hpos (by unfold maxLen; omega) (by omega) hx3 _ rfl ?_)
            intro g4 cap4 x4 hown4 hgrow4 _ _
            have HP4 := Lib.hid (HP3.out.app hgrow4 hx1)
            have HO4 : Hid (OwnT x4 w.heap.size (.slice (some ⟨g4, 0, none⟩) (1 + N) cap4) (flat (.opt tg))) := Lib.hid (by
              unfold OwnT
              have e : (flat (.opt tg)).length = 1 + N := by show (flat tg).length + 1 = _; rw [← HN.out]; omega
              rw [e]
              exact hown4)
            have HN4 : Hid (1 + N = (flat (.opt tg)).length) := Lib.hid (by show _ = (flat tg).length + 1; rw [← HN.out]; omega)
            clear hown4 hgrow4
            go_wp2_with fail
            go_roundg (gk - 1)
            case rel => exact ⟨.opt tg, jg + 1, g4, cap4, 1 + N, by omega, rfl, by omega, by omega, HN4, HO4, HP4, HSG, Lib.hid (by have := HG.out; omega)⟩
            all_goals (first | (have := HG.out; omega) | omega)
          · have n1 : c.toNat ≠ 42 := fun e => h42 (UInt8.toNat_inj.1 e)
            have n2 : c.toNat ≠ 43 := fun e => h43 (UInt8.toNat_inj.1 e)
            have n3 : c.toNat ≠ 63 := fun e => h63 (UInt8.toNat_inj.1 e)
            have HPK : Hid (∀ W, PW w pb s jg W → Calls Tryd.prog 128 #[.pointer (some ⟨pb, 0, none⟩)] W (PeekIs c.toNat true W)) := Lib.hid fun W hw => peek_some W hw.here hsz hg
            have HIX := Sign_c c.toNat c.toNat_lt (-1) (by rw [if_neg n1, if_neg n2, if_neg n3])
            have HSG : Hid (signsS s.data.toList j t = (tg, jg)) := Lib.hid (by rw [HEQ.out, signsS_end tg (fun d hd => by rw [hg] at hd; cases hd; exact ⟨h42, h43, h63⟩)])
            unfold PeekIs at HPK
            clear hg HEQ
            go_wp2_with fail
            refine (HPK.out _ HPW.out).mono ?_
            rintro e x1 ⟨rfl, hb1⟩
            have HP1 := Lib.hid (HPW.out.below hb1)
            have HO1 := Lib.hid (HOW.out.below hb1)
            clear hb1
            go_wp2_with fail
            refine (HIX.out _).mono ?_
            rintro e x2 ⟨rfl, rfl⟩
            go_wp2_with fail
            go_ret
            refine ⟨tg, jg, HSG.out, g, cap, by rw [← HN.out]; rfl, ?_, HP1.out⟩
            rw [← HN.out]
            exact HO1.out
end Go.Proofs.YthcahjnniendnabDoor
