/-
  winnowfanlaw1.SynIs: the walk.
-/
import Derived.Test.YthcahjnniendnacGreatDoorAs
import Derived.Test.YthcahjnniendnacGreatDoorGPrt
import Derived.Test.YthcahjnniendnacGreatDoorGSynJ
import Derived.Test.YthcahjnniendnacGreatDoorLaw
import Derived.Test.YthcahjnniendnacGreatDoorOpen
import Derived.Test.YthcahjnniendnacGreatDoorRdrF
import Derived.Test.YthcahjnniendnacGreatDoorRty
import Derived.Deep.DeepCutAuto
namespace Go.Proofs.YthcahjnniendnacGreatDoor.synIs
open Go.RowKit Wf
open law (own laidOut LawIs)
set_option linter.unusedVariables false

theorem RowIn.rd {w : World} {lo : Nat} {v : Value} {l : List Nd} (h : RowIn w lo v l) : RdN w v l := by
  obtain ⟨g, cap, cur, rfl, h1, h2, h3, h4, h5, h6⟩ := h
  refine ⟨_, l.length, cap, rfl, h2, h3, flatMap_len l, fun _ => ⟨g, 0, rfl, fun j u hu => ?_⟩⟩
  rw [Nat.zero_add, Blk.cell h5]
  exact h6 j u hu
theorem flat_goodR (t : Rx) : ∀ n ∈ flat t, good n := by
  intro n hn
  obtain ⟨i, hi, he⟩ := List.getElem_of_mem hn
  obtain ⟨u, hu⟩ := at_each t i hi
  obtain ⟨m, h1, _, h2⟩ := hu.node
  rw [List.getElem?_eq_getElem hi, he] at h1
  cases h1
  exact h2
theorem ba_of {s : ByteArray} {x : List UInt8} (h : s.data.toList = x) : s = ⟨x.toArray⟩ := by
  rw [← h]
theorem orS_two {s : List UInt8} {k k' : Nat} {n : Nat} (h : orS s 0 = .bad k ∨ ∃ t, orS s 0 = .ok t k ∧ k ≠ n) (h' : orS s 0 = .bad k' ∨ ∃ t, orS s 0 = .ok t k' ∧ k' ≠ n) : k = k' := by
  rcases h with h | ⟨t, h, _⟩ <;> rcases h' with h' | ⟨t', h', _⟩ <;> rw [h] at h' <;> cases h' <;> rfl

/-- What both readers tell of a text: nothing, for it is too long; its nodes; where it stops. -/
theorem both {ev : Value} (s : ByteArray) (w : World) (hs : s.size ≤ maxLen) (hev : SynE ev w) :
    (Hid (∀ W, Below w.heap.size w W → Calls Tryz.prog 12 #[.string s] W (fun e w' => e = .returned (.tuple #[.slice none 0 0, .int .i64 0, .int .i64 3]) ∧ Below w.heap.size w w')) ∧
      Hid (∀ W, Below w.heap.size w W → Calls Tryz.prog 13 #[.string s] W (fun e w' => e = .returned (.tuple #[.slice none 0 0, .int .i64 0, .iface 23 (.int .i64 3)]) ∧ Below w.heap.size w w'))) ∨
    (∃ t, (flat t).length ≤ 60 ∧ Hid (∀ W, Below w.heap.size w W → Calls Tryz.prog 12 #[.string s] W (fun e w' => ∃ g cap, e = .returned (.tuple #[.slice (some ⟨g, 0, none⟩) (flat t).length cap, .int .i64 0, .int .i64 0]) ∧ RdN w' (.slice (some ⟨g, 0, none⟩) (flat t).length cap) (flat t) ∧ Below w.heap.size w w')) ∧
      Hid (∀ W, Below w.heap.size w W → Calls Tryz.prog 13 #[.string s] W (fun e w' => ∃ g cap, e = .returned (.tuple #[.slice (some ⟨g, 0, none⟩) (flat t).length cap, .int .i64 0, .nilIface]) ∧ RdN w' (.slice (some ⟨g, 0, none⟩) (flat t).length cap) (flat t) ∧ Below W.heap.size W w' ∧ Below w.heap.size w w'))) ∨
    (∃ k : Nat, k ≤ 200 ∧ Hid (∀ W, Below w.heap.size w W → Calls Tryz.prog 12 #[.string s] W (fun e w' => e = .returned (.tuple #[.slice none 0 0, .int .i64 (k : Int), .int .i64 5]) ∧ Below w.heap.size w w')) ∧
      Hid (∀ W, Below w.heap.size w W → Calls Tryz.prog 13 #[.string s] W (fun e w' => e = .returned (.tuple #[.slice none 0 0, .int .i64 (k : Int), .iface 23 (.int .i64 5)]) ∧ Below w.heap.size w w'))) := by
  have hs' : s.size ≤ 9223372036854775807 := by unfold maxLen at hs; omega
  by_cases h200 : 200 < s.size
  · refine .inl ⟨Lib.hid fun W hb => (RParse_c s W hs').mono ?_, Lib.hid fun W hb => (Parse_c (ev := ev) s W (hev.below hb)).mono ?_⟩
    · rintro e w' ⟨h1, ⟨_, h2⟩ | ⟨h2, _⟩ | ⟨h2, _⟩ | ⟨h2, _⟩⟩
      · exact ⟨h2, hb.trans (h1.mono hb.size)⟩
      all_goals omega
    · rintro e w' ⟨h1, ⟨_, h2⟩ | ⟨h2, _⟩ | ⟨h2, _⟩ | ⟨h2, _⟩⟩
      · exact ⟨h2, hb.trans (h1.mono hb.size)⟩
      all_goals omega
  · cases hr : orS s.data.toList 0 with
    | ok t j =>
      by_cases hj : j = s.size
      · subst hj
        by_cases h60 : 60 < (flat t).length
        · refine .inl ⟨Lib.hid fun W hb => (RParse_c s W hs').mono ?_, Lib.hid fun W hb => (Parse_c (ev := ev) s W (hev.below hb)).mono ?_⟩
          · rintro e w' ⟨h1, ⟨h2, _⟩ | ⟨_, t', h2, h3, h4⟩ | ⟨_, t', g, cap, h2, h3, _⟩ | ⟨_, k, h2, _⟩⟩
            · omega
            · exact ⟨h4, hb.trans (h1.mono hb.size)⟩
            · rw [hr] at h2; cases h2; omega
            · rcases h2 with h2 | ⟨t', h2, h3⟩
              · rw [hr] at h2; cases h2
              · rw [hr] at h2; cases h2; exact absurd rfl h3
          · rintro e w' ⟨h1, ⟨h2, _⟩ | ⟨_, t', h2, h3, h4⟩ | ⟨_, t', g, cap, h2, h3, _⟩ | ⟨_, k, h2, _⟩⟩
            · omega
            · exact ⟨h4, hb.trans (h1.mono hb.size)⟩
            · rw [hr] at h2; cases h2; omega
            · rcases h2 with h2 | ⟨t', h2, h3⟩
              · rw [hr] at h2; cases h2
              · rw [hr] at h2; cases h2; exact absurd rfl h3
        · refine .inr (.inl ⟨t, by omega, Lib.hid fun W hb => (RParse_c s W hs').mono ?_, Lib.hid fun W hb => (Parse_c (ev := ev) s W (hev.below hb)).mono ?_⟩)
          · rintro e w' ⟨h1, ⟨h2, _⟩ | ⟨_, t', h2, h3, h4⟩ | ⟨_, t', g, cap, h2, h3, h4, h5⟩ | ⟨_, k, h2, _⟩⟩
            · omega
            · rw [hr] at h2; cases h2; omega
            · rw [hr] at h2; cases h2; exact ⟨g, cap, h4, RowIn.rd h5, hb.trans (h1.mono hb.size)⟩
            · rcases h2 with h2 | ⟨t', h2, h3⟩
              · rw [hr] at h2; cases h2
              · rw [hr] at h2; cases h2; exact absurd rfl h3
          · rintro e w' ⟨h1, ⟨h2, _⟩ | ⟨_, t', h2, h3, h4⟩ | ⟨_, t', g, cap, h2, h3, h4, h5⟩ | ⟨_, k, h2, _⟩⟩
            · omega
            · rw [hr] at h2; cases h2; omega
            · rw [hr] at h2; cases h2; exact ⟨g, cap, h4, Rd.of_own h5, h1, hb.trans (h1.mono hb.size)⟩
            · rcases h2 with h2 | ⟨t', h2, h3⟩
              · rw [hr] at h2; cases h2
              · rw [hr] at h2; cases h2; exact absurd rfl h3
      · have hks : j ≤ 200 := by
          have := ((read_ok (s := s.data.toList) _ 0 (Nat.le_refl _) (Nat.zero_le _)).2.2 _ _ hr).2.1
          have hl : s.data.toList.length = s.size := by simp
          omega
        refine .inr (.inr ⟨j, hks, Lib.hid fun W hb => (RParse_c s W hs').mono ?_, Lib.hid fun W hb => (Parse_c (ev := ev) s W (hev.below hb)).mono ?_⟩)
        · rintro e w' ⟨h1, ⟨h2, _⟩ | ⟨_, t', h2, h3, h4⟩ | ⟨_, t', g, cap, h2, h3, h4, h5⟩ | ⟨_, k, h2, _, h3⟩⟩
          · omega
          · rw [hr] at h2; cases h2; exact absurd rfl hj
          · rw [hr] at h2; cases h2; exact absurd rfl hj
          · have e := orS_two (n := s.size) (.inr ⟨t, hr, hj⟩) h2
            subst e
            exact ⟨h3, hb.trans (h1.mono hb.size)⟩
        · rintro e w' ⟨h1, ⟨h2, _⟩ | ⟨_, t', h2, h3, h4⟩ | ⟨_, t', g, cap, h2, h3, h4, h5⟩ | ⟨_, k, h2, h3⟩⟩
          · omega
          · rw [hr] at h2; cases h2; exact absurd rfl hj
          · rw [hr] at h2; cases h2; exact absurd rfl hj
          · have e := orS_two (n := s.size) (.inr ⟨t, hr, hj⟩) h2
            subst e
            exact ⟨h3, hb.trans (h1.mono hb.size)⟩
    | bad k =>
      have hks : k ≤ 200 := by
        have := orS_badle hr
        have hl : s.data.toList.length = s.size := by simp
        omega
      refine .inr (.inr ⟨k, hks, Lib.hid fun W hb => (RParse_c s W hs').mono ?_, Lib.hid fun W hb => (Parse_c (ev := ev) s W (hev.below hb)).mono ?_⟩)
      · rintro e w' ⟨h1, ⟨h2, _⟩ | ⟨_, t', h2, h3, h4⟩ | ⟨_, t', g, cap, h2, h3, h4, h5⟩ | ⟨_, k', h2, _, h3⟩⟩
        · omega
        · rw [hr] at h2; cases h2
        · rw [hr] at h2; cases h2
        · have e := orS_two (n := s.size) (.inl hr) h2
          subst e
          exact ⟨h3, hb.trans (h1.mono hb.size)⟩
      · rintro e w' ⟨h1, ⟨h2, _⟩ | ⟨_, t', h2, h3, h4⟩ | ⟨_, t', g, cap, h2, h3, h4, h5⟩ | ⟨_, k', h2, h3⟩⟩
        · omega
        · rw [hr] at h2; cases h2
        · rw [hr] at h2; cases h2
        · have e := orS_two (n := s.size) (.inl hr) h2
          subst e
          exact ⟨h3, hb.trans (h1.mono hb.size)⟩

/-- What the document says of a pattern: its text, or what is wrong with it; and what is printed. -/
theorem prints {ev : Value} (l : List Nd) (v : Value) (w : World) (hr : RdN w v l) (hok : ∀ n ∈ l, okNd n) :
    (chk l ≠ 0 ∧ Hid (∀ W, RdN W v l → Calls Tryz.prog 10 #[v] W (fun e w' => e = .returned (.tuple #[.string ⟨#[]⟩, .iface 23 (.int .i64 (chk l))]) ∧ Below W.heap.size W w'))) ∨
    (chk l = 0 ∧ ∃ T : ByteArray, Hid (∀ W, RdN W v l → Calls Tryz.prog 9 #[v, .int .i64 0] W (fun e w' => e = .returned (.string T) ∧ Below W.heap.size W w')) ∧
      ((T.size ≤ 200 ∧ Hid (∀ W, RdN W v l → Calls Tryz.prog 10 #[v] W (fun e w' => e = .returned (.tuple #[.string T, .nilIface]) ∧ Below W.heap.size W w'))) ∨
       (200 < T.size ∧ T.size ≤ 200000 ∧ Hid (∀ W, RdN W v l → Calls Tryz.prog 10 #[v] W (fun e w' => e = .returned (.tuple #[.string ⟨#[]⟩, .iface 23 (.int .i64 3)]) ∧ Below W.heap.size W w'))))) := by
  have hokc : ∀ n ∈ l, okC n.cls := fun n hn => (hok n hn).2.2
  by_cases hc : chk l = 0
  · obtain ⟨hlen, t, rfl⟩ := chk_tree hc
    refine .inr ⟨hc, ⟨(textT t).toArray⟩, ?_⟩
    have hsz : (ByteArray.mk (textT t).toArray).size = (textT t).length := by show (textT t).toArray.size = _; simp
    have htl := textT_len t
    have hpr : printR (flat t) t = if (textT t).length ≤ 200 then (textT t, 0) else ([], 3) := by unfold printR; rw [if_neg (by simp [hc])]
    refine ⟨Lib.hid fun W hW => ?_, ?_⟩
    · obtain ⟨A, cap, rfl, _, _, hm⟩ := hW.open_
      obtain ⟨b, off, rfl, _, _⟩ := hm (flat_pos t)
      refine (RText_all (flat t) (flat_goodR t) hokc hlen b off cap t 0 W (At.whole t) hW).mono ?_
      rintro e w' ⟨s, h1, h2, h3⟩
      rw [ba_of h2] at h1
      exact ⟨h1, h3⟩
    · rw [hsz]
      by_cases h200 : (textT t).length ≤ 200
      · refine .inl ⟨h200, Lib.hid fun W hW => (Print_c (flat t) t (fun _ => rfl) hokc v W hW).mono ?_⟩
        rintro e w' ⟨h1, h2⟩
        rw [hpr, if_pos h200] at h1
        exact ⟨h1, h2⟩
      · refine .inr ⟨by omega, by omega, Lib.hid fun W hW => (Print_c (flat t) t (fun _ => rfl) hokc v W hW).mono ?_⟩
        rintro e w' ⟨h1, h2⟩
        rw [hpr, if_neg h200] at h1
        exact ⟨h1, h2⟩
  · refine .inl ⟨hc, Lib.hid fun W hW => (Print_c l .empty (fun h => absurd h hc) hokc v W hW).mono ?_⟩
    rintro e w' ⟨h1, h2⟩
    have hpr : printR l .empty = ([], chk l) := by unfold printR; rw [if_pos hc]
    rw [hpr] at h1
    dsimp only at h1
    rw [errV_ne hc] at h1
    exact ⟨h1, h2⟩

set_option maxRecDepth 100000 in
set_option maxHeartbeats 16000000 in
theorem walk {ev : Value} (l : List Nd) (v : Value) (s : ByteArray) (w : World) (hr : RdN w v l) (hok : ∀ n ∈ l, okNd n) (hs : s.size ≤ maxLen) (hg : ErrT w) (hev : SynE ev w) :
    Calls Tryz.prog 3 #[v, .string s] w (LawIs w) := by
  have hokc : ∀ n ∈ l, okC n.cls := fun n hn => (hok n hn).2.2
  have hboth := both (ev := ev) s w hs hev
  have hpr := prints (ev := ev) l v w hr hok
  have HR : Hid (∀ W, Below w.heap.size w W → RdN W v l) := Lib.hid fun W hW => hr.below hW
  have HF : Hid (∀ W, Below w.heap.size w W → Calls Tryz.prog 8 #[v] W (fun e w' => e = .returned (.int .i64 (chk l)) ∧ Below W.heap.size W w')) := Lib.hid fun W hW => RFault_any l v W (hr.below hW) hokc
  have HS0 : Hid (∀ W, Below w.heap.size w W → Calls Tryz.prog 11 #[.nilIface, .int .i64 0] W (fun e w' => e = .returned (.bool true) ∧ Below w.heap.size w w')) := Lib.hid fun W hb => by
    have h := SErr_any 0 0 W (hg.below hb)
    rw [errV_zero] at h
    refine h.mono ?_
    rintro e w' ⟨b, h1, h2, h3⟩
    rw [h2.2 rfl] at h1
    exact ⟨h1, hb.trans (h3.mono hb.size)⟩
  have HSN : ∀ m : Int, m ≠ 0 → Hid (∀ W, Below w.heap.size w W → Calls Tryz.prog 11 #[.iface 23 (.int .i64 m), .int .i64 m] W (fun e w' => e = .returned (.bool true) ∧ Below w.heap.size w w')) := fun m hm => Lib.hid fun W hb => by
    have h := SErr_any m m W (hg.below hb)
    rw [errV_ne hm] at h
    refine h.mono ?_
    rintro e w' ⟨b, h1, h2, h3⟩
    rw [h2.2 rfl] at h1
    exact ⟨h1, hb.trans (h3.mono hb.size)⟩
  have HS0W : Hid (∀ W, Below w.heap.size w W → Calls Tryz.prog 11 #[.nilIface, .int .i64 0] W (fun e w' => e = .returned (.bool true) ∧ Below W.heap.size W w')) := Lib.hid fun W hb => by
    have h := SErr_any 0 0 W (hg.below hb)
    rw [errV_zero] at h
    refine h.mono ?_
    rintro e w' ⟨b, h1, h2, h3⟩
    rw [h2.2 rfl] at h1
    exact ⟨h1, h3⟩
  have HND : Hid (∀ (x : List Nd) (a b : Value) W, RdN W a x → RdN W b x → Calls Tryz.prog 14 #[a, b] W (fun e w' => e = .returned (.bool true) ∧ Below W.heap.size W w')) := Lib.hid fun x a b W ha hb => by
    refine (Nodes_any x x a b W ha hb).mono ?_
    rintro e w' ⟨r, h1, h2, h3⟩
    rw [h2.2 rfl] at h1
    exact ⟨h1, h3⟩
  have HB0 := Lib.hid (Below.refl w.heap.size w)
  have HSC : chk l ≠ 0 → Hid (∀ W, Below w.heap.size w W → Calls Tryz.prog 11 #[.iface 23 (.int .i64 (chk l)), .int .i64 (chk l)] W (fun e w' => e = .returned (.bool true) ∧ Below w.heap.size w w')) := fun h => HSN _ h
  have HS3 := HSN 3 (by decide)
  have HS5 := HSN 5 (by decide)
  obtain ⟨c, hc⟩ : ∃ c, c = chk l := ⟨_, rfl⟩
  rw [← hc] at hpr HF HSC
  clear hc hr hok hokc hg hev hs HSN
  unfold LawIs
  go_enter Tryz.func3, Tryz.ntmps3
  rcases hpr with ⟨hc, HP⟩ | ⟨rfl, T, HT, ⟨hT, HP⟩ | ⟨hT, hT2, HP⟩⟩
  · have HSC' := HSC hc
    have dc : (c == 0) = false := by simpa using hc
    clear hc HSC
    go_wp2_with fail
    refine (HF.out _ HB0.out).mono ?_
    rintro e w1 ⟨rfl, hb1⟩
    have HB1 := Lib.hid hb1
    clear hb1
    go_wp2_with fail
    refine (HP.out _ (HR.out _ HB1.out)).mono ?_
    rintro e w2 ⟨rfl, hb⟩
    have HB2 := Lib.hid (HB1.out.trans (hb.mono HB1.out.size))
    clear hb
    go_wp2_with fail
    refine (HSC'.out _ HB2.out).mono ?_
    rintro e w3 ⟨rfl, hb⟩
    have HB3 := Lib.hid hb
    clear hb
    rcases hboth with ⟨H1, H2⟩ | ⟨t, h60, H1, H2⟩ | ⟨k, hk, H1, H2⟩
    · go_wp2_with fail
      refine (H1.out _ HB3.out).mono ?_
      rintro e x1 ⟨rfl, hb⟩
      have X1 := Lib.hid hb
      clear hb
      go_wp2_with fail
      refine (H2.out _ X1.out).mono ?_
      rintro e x2 ⟨rfl, hb⟩
      have X2 := Lib.hid hb
      clear hb
      go_wp2_with fail
      refine (HS3.out _ X2.out).mono ?_
      rintro e x3 ⟨rfl, hb⟩
      have X3 := Lib.hid hb
      clear hb
      go_wp2_with fail
      refine (HND.out [] _ _ _ (Rd.nil _ 5) (Rd.nil _ 5)).mono ?_
      rintro e x4 ⟨rfl, hb⟩
      have X4 := Lib.hid (X3.out.trans (hb.mono X3.out.size))
      clear hb
      go_wp2_with fail
      go_ret
      exact ⟨rfl, X4.out⟩
    · go_wp2_with fail
      refine (H1.out _ HB3.out).mono ?_
      rintro e x1 ⟨g, cap, rfl, hrd, hb⟩
      have X1 := Lib.hid hb
      have R1 := Lib.hid hrd
      clear hb hrd
      go_wp2_with fail
      refine (H2.out _ X1.out).mono ?_
      rintro e x2 ⟨g2, cap2, rfl, hrd, hbb, hb⟩
      have X2 := Lib.hid hb
      have R1b := Lib.hid (R1.out.below hbb)
      have R2 := Lib.hid hrd
      clear hb hbb hrd
      have HS0' := Lib.hid fun (r1 : RdN x2 (.slice (some ⟨g, 0, none⟩) (flat t).length cap) (flat t)) => r1
      obtain ⟨N, hN⟩ : ∃ N, N = (flat t).length := ⟨_, rfl⟩
      have HND2 : Hid (∀ W, Below x2.heap.size x2 W → Calls Tryz.prog 14 #[.slice (some ⟨g2, 0, none⟩) N cap2, .slice (some ⟨g, 0, none⟩) N cap] W (fun e w' => e = .returned (.bool true) ∧ Below W.heap.size W w')) := Lib.hid fun W hW => by rw [hN]; exact HND.out (flat t) _ _ W (R2.out.below hW) (R1b.out.below hW)
      rw [← hN]
      clear hN HS0' R1 R1b R2 h60
      go_wp2_with fail
      refine (HS0W.out _ X2.out).mono ?_
      rintro e x3 ⟨rfl, hb⟩
      have X3 := Lib.hid (X2.out.trans (hb.mono X2.out.size))
      have X3b := Lib.hid hb
      clear hb
      go_wp2_with fail
      refine (HND2.out _ X3b.out).mono ?_
      rintro e x4 ⟨rfl, hb⟩
      have X4 := Lib.hid (X3.out.trans (hb.mono X3.out.size))
      clear hb
      go_wp2_with fail
      go_ret
      exact ⟨rfl, X4.out⟩
    · go_wp2_with fail
      refine (H1.out _ HB3.out).mono ?_
      rintro e x1 ⟨rfl, hb⟩
      have X1 := Lib.hid hb
      clear hb
      go_wp2_with fail
      refine (H2.out _ X1.out).mono ?_
      rintro e x2 ⟨rfl, hb⟩
      have X2 := Lib.hid hb
      clear hb
      go_wp2_with fail
      refine (HS5.out _ X2.out).mono ?_
      rintro e x3 ⟨rfl, hb⟩
      have X3 := Lib.hid hb
      clear hb
      go_wp2_with fail
      refine (HND.out [] _ _ _ (Rd.nil _ 5) (Rd.nil _ 5)).mono ?_
      rintro e x4 ⟨rfl, hb⟩
      have X4 := Lib.hid (X3.out.trans (hb.mono X3.out.size))
      clear hb
      go_wp2_with fail
      go_ret
      exact ⟨by simp, X4.out⟩
  · have d : decide ((200 : Int) < (T.size : Int)) = false := by simp; omega
    clear HSC
    go_wp2_with fail
    refine (HF.out _ HB0.out).mono ?_
    rintro e w1 ⟨rfl, hb1⟩
    have HB1 := Lib.hid hb1
    clear hb1
    go_wp2_with fail
    refine (HT.out _ (HR.out _ HB1.out)).mono ?_
    rintro e w2 ⟨rfl, hb⟩
    have HB2 := Lib.hid (HB1.out.trans (hb.mono HB1.out.size))
    clear hb
    go_wp2_with fail
    refine (HP.out _ (HR.out _ HB2.out)).mono ?_
    rintro e w3 ⟨rfl, hb⟩
    have HB3 := Lib.hid (HB2.out.trans (hb.mono HB2.out.size))
    clear hb
    go_wp2_with fail
    refine (HS0.out _ HB3.out).mono ?_
    rintro e w4 ⟨rfl, hb⟩
    have HB4 := Lib.hid hb
    clear hb
    rcases hboth with ⟨H1, H2⟩ | ⟨t, h60, H1, H2⟩ | ⟨k, hk, H1, H2⟩
    · go_wp2_with fail
      refine (H1.out _ HB4.out).mono ?_
      rintro e x1 ⟨rfl, hb⟩
      have X1 := Lib.hid hb
      clear hb
      go_wp2_with fail
      refine (H2.out _ X1.out).mono ?_
      rintro e x2 ⟨rfl, hb⟩
      have X2 := Lib.hid hb
      clear hb
      go_wp2_with fail
      refine (HS3.out _ X2.out).mono ?_
      rintro e x3 ⟨rfl, hb⟩
      have X3 := Lib.hid hb
      clear hb
      go_wp2_with fail
      refine (HND.out [] _ _ _ (Rd.nil _ 5) (Rd.nil _ 5)).mono ?_
      rintro e x4 ⟨rfl, hb⟩
      have X4 := Lib.hid (X3.out.trans (hb.mono X3.out.size))
      clear hb
      go_wp2_with fail
      go_ret
      exact ⟨rfl, X4.out⟩
    · go_wp2_with fail
      refine (H1.out _ HB4.out).mono ?_
      rintro e x1 ⟨g, cap, rfl, hrd, hb⟩
      have X1 := Lib.hid hb
      have R1 := Lib.hid hrd
      clear hb hrd
      go_wp2_with fail
      refine (H2.out _ X1.out).mono ?_
      rintro e x2 ⟨g2, cap2, rfl, hrd, hbb, hb⟩
      have X2 := Lib.hid hb
      have R1b := Lib.hid (R1.out.below hbb)
      have R2 := Lib.hid hrd
      clear hb hbb hrd
      have HS0' := Lib.hid fun (r1 : RdN x2 (.slice (some ⟨g, 0, none⟩) (flat t).length cap) (flat t)) => r1
      obtain ⟨N, hN⟩ : ∃ N, N = (flat t).length := ⟨_, rfl⟩
      have HND2 : Hid (∀ W, Below x2.heap.size x2 W → Calls Tryz.prog 14 #[.slice (some ⟨g2, 0, none⟩) N cap2, .slice (some ⟨g, 0, none⟩) N cap] W (fun e w' => e = .returned (.bool true) ∧ Below W.heap.size W w')) := Lib.hid fun W hW => by rw [hN]; exact HND.out (flat t) _ _ W (R2.out.below hW) (R1b.out.below hW)
      rw [← hN]
      clear hN HS0' R1 R1b R2 h60
      go_wp2_with fail
      refine (HS0W.out _ X2.out).mono ?_
      rintro e x3 ⟨rfl, hb⟩
      have X3 := Lib.hid (X2.out.trans (hb.mono X2.out.size))
      have X3b := Lib.hid hb
      clear hb
      go_wp2_with fail
      refine (HND2.out _ X3b.out).mono ?_
      rintro e x4 ⟨rfl, hb⟩
      have X4 := Lib.hid (X3.out.trans (hb.mono X3.out.size))
      clear hb
      go_wp2_with fail
      go_ret
      exact ⟨rfl, X4.out⟩
    · go_wp2_with fail
      refine (H1.out _ HB4.out).mono ?_
      rintro e x1 ⟨rfl, hb⟩
      have X1 := Lib.hid hb
      clear hb
      go_wp2_with fail
      refine (H2.out _ X1.out).mono ?_
      rintro e x2 ⟨rfl, hb⟩
      have X2 := Lib.hid hb
      clear hb
      go_wp2_with fail
      refine (HS5.out _ X2.out).mono ?_
      rintro e x3 ⟨rfl, hb⟩
      have X3 := Lib.hid hb
      clear hb
      go_wp2_with fail
      refine (HND.out [] _ _ _ (Rd.nil _ 5) (Rd.nil _ 5)).mono ?_
      rintro e x4 ⟨rfl, hb⟩
      have X4 := Lib.hid (X3.out.trans (hb.mono X3.out.size))
      clear hb
      go_wp2_with fail
      go_ret
      exact ⟨by simp, X4.out⟩
  · have d : decide ((200 : Int) < (T.size : Int)) = true := by simp; omega
    clear HSC
    go_wp2_with fail
    refine (HF.out _ HB0.out).mono ?_
    rintro e w1 ⟨rfl, hb1⟩
    have HB1 := Lib.hid hb1
    clear hb1
    go_wp2_with fail
    refine (HT.out _ (HR.out _ HB1.out)).mono ?_
    rintro e w2 ⟨rfl, hb⟩
    have HB2 := Lib.hid (HB1.out.trans (hb.mono HB1.out.size))
    clear hb
    go_wp2_with fail
    refine (HP.out _ (HR.out _ HB2.out)).mono ?_
    rintro e w3 ⟨rfl, hb⟩
    have HB3 := Lib.hid (HB2.out.trans (hb.mono HB2.out.size))
    clear hb
    go_wp2_with fail
    refine (HS3.out _ HB3.out).mono ?_
    rintro e w4 ⟨rfl, hb⟩
    have HB4 := Lib.hid hb
    clear hb
    rcases hboth with ⟨H1, H2⟩ | ⟨t, h60, H1, H2⟩ | ⟨k, hk, H1, H2⟩
    · go_wp2_with fail
      refine (H1.out _ HB4.out).mono ?_
      rintro e x1 ⟨rfl, hb⟩
      have X1 := Lib.hid hb
      clear hb
      go_wp2_with fail
      refine (H2.out _ X1.out).mono ?_
      rintro e x2 ⟨rfl, hb⟩
      have X2 := Lib.hid hb
      clear hb
      go_wp2_with fail
      refine (HS3.out _ X2.out).mono ?_
      rintro e x3 ⟨rfl, hb⟩
      have X3 := Lib.hid hb
      clear hb
      go_wp2_with fail
      refine (HND.out [] _ _ _ (Rd.nil _ 5) (Rd.nil _ 5)).mono ?_
      rintro e x4 ⟨rfl, hb⟩
      have X4 := Lib.hid (X3.out.trans (hb.mono X3.out.size))
      clear hb
      go_wp2_with fail
      go_ret
      exact ⟨rfl, X4.out⟩
    · go_wp2_with fail
      refine (H1.out _ HB4.out).mono ?_
      rintro e x1 ⟨g, cap, rfl, hrd, hb⟩
      have X1 := Lib.hid hb
      have R1 := Lib.hid hrd
      clear hb hrd
      go_wp2_with fail
      refine (H2.out _ X1.out).mono ?_
      rintro e x2 ⟨g2, cap2, rfl, hrd, hbb, hb⟩
      have X2 := Lib.hid hb
      have R1b := Lib.hid (R1.out.below hbb)
      have R2 := Lib.hid hrd
      clear hb hbb hrd
      have HS0' := Lib.hid fun (r1 : RdN x2 (.slice (some ⟨g, 0, none⟩) (flat t).length cap) (flat t)) => r1
      obtain ⟨N, hN⟩ : ∃ N, N = (flat t).length := ⟨_, rfl⟩
      have HND2 : Hid (∀ W, Below x2.heap.size x2 W → Calls Tryz.prog 14 #[.slice (some ⟨g2, 0, none⟩) N cap2, .slice (some ⟨g, 0, none⟩) N cap] W (fun e w' => e = .returned (.bool true) ∧ Below W.heap.size W w')) := Lib.hid fun W hW => by rw [hN]; exact HND.out (flat t) _ _ W (R2.out.below hW) (R1b.out.below hW)
      rw [← hN]
      clear hN HS0' R1 R1b R2 h60
      go_wp2_with fail
      refine (HS0W.out _ X2.out).mono ?_
      rintro e x3 ⟨rfl, hb⟩
      have X3 := Lib.hid (X2.out.trans (hb.mono X2.out.size))
      have X3b := Lib.hid hb
      clear hb
      go_wp2_with fail
      refine (HND2.out _ X3b.out).mono ?_
      rintro e x4 ⟨rfl, hb⟩
      have X4 := Lib.hid (X3.out.trans (hb.mono X3.out.size))
      clear hb
      go_wp2_with fail
      go_ret
      exact ⟨rfl, X4.out⟩
    · go_wp2_with fail
      refine (H1.out _ HB4.out).mono ?_
      rintro e x1 ⟨rfl, hb⟩
      have X1 := Lib.hid hb
      clear hb
      go_wp2_with fail
      refine (H2.out _ X1.out).mono ?_
      rintro e x2 ⟨rfl, hb⟩
      have X2 := Lib.hid hb
      clear hb
      go_wp2_with fail
      refine (HS5.out _ X2.out).mono ?_
      rintro e x3 ⟨rfl, hb⟩
      have X3 := Lib.hid hb
      clear hb
      go_wp2_with fail
      refine (HND.out [] _ _ _ (Rd.nil _ 5) (Rd.nil _ 5)).mono ?_
      rintro e x4 ⟨rfl, hb⟩
      have X4 := Lib.hid (X3.out.trans (hb.mono X3.out.size))
      clear hb
      go_wp2_with fail
      go_ret
      exact ⟨by simp, X4.out⟩
end Go.Proofs.YthcahjnniendnacGreatDoor.synIs
