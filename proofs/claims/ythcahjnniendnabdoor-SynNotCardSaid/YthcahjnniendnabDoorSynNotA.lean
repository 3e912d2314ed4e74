/-
  winnowfanlaw1.SynNot: the walk.
-/
import Derived.Test.YthcahjnniendnabDoorLaw
import Derived.Test.YthcahjnniendnabDoorSynK
namespace Go.Proofs.YthcahjnniendnabDoor.synNot
open Go.RowKit Wf
open law (own laidOut LawIs)
set_option linter.unusedVariables false

/-- A class told by its four numbers. -/
def CTold (f0 f1 f2 f3 : Nat) (w : World) (e : Ending) (w' : World) : Prop := e = .returned (.agg #[.int .u64 (f0 : Int), .int .u64 (f1 : Int), .int .u64 (f2 : Int), .int .u64 (f3 : Int)]) ∧ Below w.heap.size w w'
theorem ctold {c : Cls} {f0 f1 f2 f3 : Nat} (hf : (f0, f1, f2, f3) = c) {w w' : World} {e : Ending} (h : ClsIs c w e w') : CTold f0 f1 f2 f3 w e w' := by
  obtain ⟨d0, d1, d2, d3, h1, h2, h3⟩ := h
  have e := h2.trans hf.symm
  simp only [Prod.mk.injEq] at e
  obtain ⟨rfl, rfl, rfl, rfl⟩ := e
  exact ⟨h1, h3⟩
theorem OwnT.nd {w : World} {base g n cap op c0 c1 c2 c3 : Nat} (h : OwnT w base (.slice (some ⟨g, 0, none⟩) n cap) [⟨(op : Int), c0, c1, c2, c3⟩]) (hn : 0 < n) : w.cell? ⟨g, 0, none⟩ = some (.int .i64 (op : Int)) ∧ w.cell? ⟨g, 1, none⟩ = some (.int .u64 (c0 : Int)) ∧ w.cell? ⟨g, 2, none⟩ = some (.int .u64 (c1 : Int)) ∧ w.cell? ⟨g, 3, none⟩ = some (.int .u64 (c2 : Int)) ∧ w.cell? ⟨g, 4, none⟩ = some (.int .u64 (c3 : Int)) := by
  have hc := h.cells hn
  have k : ∀ (j : Nat) (u : Value), (ndCells ⟨(op : Int), c0, c1, c2, c3⟩)[j]? = some u → w.cell? ⟨g, j, none⟩ = some u := fun j u hu => by
    have := hc j u (by simpa using hu)
    rw [add_mk, Nat.zero_add] at this
    exact this
  exact ⟨k 0 _ rfl, k 1 _ rfl, k 2 _ rfl, k 3 _ rfl, k 4 _ rfl⟩
theorem cls4_self (a b c d : Int) : cls4 a b c d a b c d = true := by simp [cls4]

theorem letter0 {s : ByteArray} (h : 0 < s.size) : s.data.toList[0]? = some s[0] := by
  rw [List.getElem?_eq_getElem (by simpa using h)]
  rfl
/-- Whatever a text reads as. -/
def PSome (w : World) (e : Ending) (w' : World) : Prop :=
  ∃ (A : Option Addr) (n cap : Nat) (k : Int) (ev : Value), e = .returned (.tuple #[.slice A n cap, .int .i64 k, ev]) ∧ Below w.heap.size w w'
theorem Parse_any {ev : Value} (s : ByteArray) (w : World) (hev : SynE ev w) : Calls Tryd.prog 39 #[.string s] w (PSome w) := by
  cases h : readP s with
  | none =>
    refine (Parse_none s w hev h).mono ?_
    rintro e w' ⟨k, n, h1, hb⟩
    exact ⟨_, _, _, _, _, h1, hb⟩
  | some l =>
    refine (Parse_some s l w hev h).mono ?_
    rintro e w' ⟨g, cap, h1, _, hb⟩
    exact ⟨_, _, _, _, _, h1, hb⟩
theorem readP_okC {s : ByteArray} {l : List Nd} (h : readP s = some l) : ∀ n ∈ l, okC n.cls := by
  obtain ⟨_, t, hr, _, rfl⟩ := readP_ok h
  exact ((read_ok (s := s.data.toList) _ 0 (Nat.le_refl _) (Nat.zero_le _)).2.2 _ _ hr).2.2.1
theorem readP_op {s : ByteArray} {n : Nd} (h : readP s = some [n]) : ∃ op : Nat, n.op = (op : Int) := by
  obtain ⟨_, t, _, _, hn⟩ := readP_ok h
  cases t <;> simp [flat] at hn <;> first | (subst hn; first | exact ⟨1, rfl⟩ | exact ⟨2, rfl⟩ | exact ⟨8, rfl⟩ | exact ⟨9, rfl⟩) | (obtain ⟨hn, _⟩ := hn; subst hn; first | exact ⟨3, rfl⟩ | exact ⟨4, rfl⟩ | exact ⟨5, rfl⟩ | exact ⟨6, rfl⟩ | exact ⟨7, rfl⟩)

set_option maxRecDepth 100000 in
set_option maxHeartbeats 16000000 in
theorem walk {ev : Value} (s t : ByteArray) (w : World) (hev : SynE ev w) (hs : s.size ≤ 140737488355328) (ht : t.size ≤ 140737488355328) :
    Calls Tryd.prog 7 #[.string s, .string t] w (LawIs w) := by
  have HEV := Lib.hid hev
  have hof : ofL (ByteArray.mk #[97]).data.toList zc = withB zc 97 := by decide +kernel
  obtain ⟨f0, f1, f2, f3, hf⟩ : ∃ f0 f1 f2 f3 : Nat, (f0, f1, f2, f3) = withB zc 97 := ⟨_, _, _, _, rfl⟩
  have hfok : okC (f0, f1, f2, f3) := by rw [hf]; unfold okC; decide +kernel
  obtain ⟨n0, n1, n2, n3, hn⟩ : ∃ n0 n1 n2 n3 : Nat, (n0, n1, n2, n3) = notC (f0, f1, f2, f3) := ⟨_, _, _, _, rfl⟩
  have HOF : Hid (∀ W, Calls Tryd.prog 27 #[.string ⟨#[97]⟩] W (CTold f0 f1 f2 f3 W)) := Lib.hid fun W => (Of_any ⟨#[97]⟩ W (by decide)).mono fun e w' h => ctold (hf.trans hof.symm) h
  have HNT : Hid (∀ W, Calls Tryd.prog 29 #[.agg #[.int .u64 (f0 : Int), .int .u64 (f1 : Int), .int .u64 (f2 : Int), .int .u64 (f3 : Int)]] W (CTold n0 n1 n2 n3 W)) := Lib.hid fun W => (Not_any f0 f1 f2 f3 W hfok).mono fun e w' h => ctold hn h
  have hfact := readP_fact
  rw [← hf, ← hn] at hfact
  have HFC := Lib.hid (Parse_some (ev := ev) ⟨#[91, 94, 97, 93]⟩ _ w hev hfact)
  unfold PNodes at HFC
  unfold CTold at HOF HNT
  have hc4 := cls4_self (n0 : Int) (n1 : Int) (n2 : Int) (n3 : Int)
  clear hev hof hfact hf hfok hn
  go_enter Tryd.func7, Tryd.ntmps7
  go_wp2_with fail
  refine HFC.out.mono ?_
  rintro e w1 ⟨g1, cap1, rfl, ho1, hb1⟩
  obtain ⟨_, k1, k2, k3, k4⟩ := OwnT.nd (op := 1) ho1 (by simp)
  have HB1 := Lib.hid hb1
  clear ho1 hb1 HFC
  have hg1 : g1 < w1.heap.size := World.block_lt_of_cell? w1 _ k1
  have HS : Hid (∀ w', Below w1.heap.size w1 w' → w'.cell? ⟨g1, 1, none⟩ = some (.int .u64 (n0 : Int)) ∧ w'.cell? ⟨g1, 2, none⟩ = some (.int .u64 (n1 : Int)) ∧ w'.cell? ⟨g1, 3, none⟩ = some (.int .u64 (n2 : Int)) ∧ w'.cell? ⟨g1, 4, none⟩ = some (.int .u64 (n3 : Int)) ∧ Below w1.heap.size w1 w') := Lib.hid (fun w' hb => ⟨(hb.cell (p := ⟨g1, 1, none⟩) hg1).trans k1, (hb.cell (p := ⟨g1, 2, none⟩) hg1).trans k2, (hb.cell (p := ⟨g1, 3, none⟩) hg1).trans k3, (hb.cell (p := ⟨g1, 4, none⟩) hg1).trans k4, hb⟩)
  have B0 : Below w1.heap.size w1 w1.drew := (Below.refl _ _).drew
  go_wp2_with fail
  go_region_held3 (fun w' => w'.cell? ⟨g1, 1, none⟩ = some (.int .u64 (n0 : Int)) ∧ w'.cell? ⟨g1, 2, none⟩ = some (.int .u64 (n1 : Int)) ∧ w'.cell? ⟨g1, 3, none⟩ = some (.int .u64 (n2 : Int)) ∧ w'.cell? ⟨g1, 4, none⟩ = some (.int .u64 (n3 : Int)) ∧ Below w1.heap.size w1 w')
    (exact HS.out _ (by assumption))
    (first
      | (go_at_call 27; refine (HOF.out _).mono ?_; rintro e w2 ⟨rfl, hb2⟩; have hB2 : Below w1.heap.size w1 w2 := (by assumption : Below w1.heap.size w1 _).trans (hb2.mono (by assumption : Below w1.heap.size w1 _).size))
      | (go_at_call 29; refine (HNT.out _).mono ?_; rintro e w3 ⟨rfl, hb3⟩; have hB3 : Below w1.heap.size w1 w3 := (by assumption : Below w1.heap.size w1 _).trans (hb3.mono (by assumption : Below w1.heap.size w1 _).size)))
  all_goals trace_state
  have HB3 := Lib.hid (HB1.out.trans (hB3.mono HB1.out.size))
  clear hB3 hb2 hb3 hB2 B0 HS HNT HOF k1 k2 k3 k4 hc4
  by_cases h0 : s.size = 0
  · have hd0 : decide ((0 : Int) < (s.size : Int)) = false := by rw [h0]; rfl
    have hd1 : decide (0 < s.size) = false := by rw [h0]; rfl
    have HEV3 := Lib.hid (HEV.out.below HB3.out)
    clear h0
    cases hp : readP t with
    | none =>
      have HP := Lib.hid (Parse_none (ev := ev) t w3 HEV3.out hp)
      unfold PNone at HP
      clear hp
      go_wp2_with fail
      refine HP.out.mono ?_
      rintro e w4 ⟨k, n, rfl, hb4⟩
      have HB4 := Lib.hid (HB3.out.trans (hb4.mono HB3.out.size))
      clear hb4
      go_wp2_with fail
      go_ret
      exact ⟨rfl, HB4.out⟩
    | some l =>
      have HP := Lib.hid (Parse_some (ev := ev) t l w3 HEV3.out hp)
      have ht2 := (readP_ok hp).1
      have HPP := Lib.hid hp
      unfold PNodes at HP
      obtain ⟨N, hN⟩ : ∃ N, N = l.length := ⟨_, rfl⟩
      have HN := Lib.hid hN
      rw [← hN] at HP
      clear hp hN
      have u1 : IntKind.i64.wrap ((t.size : Int) + 2) = (t.size : Int) + 2 := by rw [IntKind.wrap_i64]; omega
      go_wp2_with fail
      refine HP.out.mono ?_
      rintro e w4 ⟨g4, cap4, rfl, ho4, hb4⟩
      have HB4 := Lib.hid (HB3.out.trans (hb4.mono HB3.out.size))
      have HEV4 := Lib.hid (HEV.out.below HB4.out)
      have HO4 := Lib.hid ho4
      clear ho4 hb4
      by_cases h2 : t.size + 2 ≤ 200
      · have hd2 : decide ((200 : Int) < (t.size : Int) + 2) = false := by simp; omega
        have HPQ := Lib.hid (Parse_some (ev := ev) _ l w4 HEV4.out (readP_par HPP.out h2))
        unfold PNodes at HPQ
        rw [← HN.out] at HPQ
        have ha1 := fun W => run_string_add_sum (P := Tryd.prog) W ⟨#[40]⟩ t (by show 1 + t.size ≤ _; omega)
        have ha2 := fun W => run_string_add_sum (P := Tryd.prog) W ((⟨#[40]⟩ : ByteArray) ++ t) ⟨#[41]⟩ (by rw [ByteArray.size_append]; show 1 + t.size + 1 ≤ _; omega)
        go_wp2_with fail
        refine HPQ.out.mono ?_
        rintro e w5 ⟨g5, cap5, rfl, ho5, hb5⟩
        have HB5 := Lib.hid (HB4.out.trans (hb5.mono HB4.out.size))
        have hra := Rd.below (Rd.of_own HO4.out) hb5
        have hrb := Rd.of_own ho5
        have HNO := Lib.hid (Nodes_any l l _ _ w5 hra hrb)
        unfold NodesIs at HNO
        clear ho5 hb5 hra hrb ha1 ha2
        go_wp2_with fail
        refine HNO.out.mono ?_
        rintro e w6 ⟨r6, rfl, hr6, hb6⟩
        obtain rfl : r6 = true := by simpa using hr6
        have HB6 := Lib.hid (HB5.out.trans (hb6.mono HB5.out.size))
        clear hr6 hb6
        go_wp2_with fail
        go_ret
        exact ⟨rfl, HB6.out⟩
      · have hd2 : decide ((200 : Int) < (t.size : Int) + 2) = true := by simp; omega
        go_wp2_with fail
        go_ret
        exact ⟨rfl, HB4.out⟩
  · have hd0 : decide ((0 : Int) < (s.size : Int)) = true := by simp; omega
    have hd1 : decide (0 < s.size) = true := by simp; omega
    have hp0 : 0 < s.size := by omega
    by_cases h94 : s[0] = 94
    · have e1 : ((s[0].toNat : Int) != 94) = false := by rw [h94]; rfl
      clear h94
      have HEV3 := Lib.hid (HEV.out.below HB3.out)
      cases hp : readP t with
      | none =>
        have HP := Lib.hid (Parse_none (ev := ev) t w3 HEV3.out hp)
        unfold PNone at HP
        clear hp
        go_wp2_with fail
        refine HP.out.mono ?_
        rintro e w4 ⟨k, n, rfl, hb4⟩
        have HB4 := Lib.hid (HB3.out.trans (hb4.mono HB3.out.size))
        clear hb4
        go_wp2_with fail
        go_ret
        exact ⟨rfl, HB4.out⟩
      | some l =>
        have HP := Lib.hid (Parse_some (ev := ev) t l w3 HEV3.out hp)
        have ht2 := (readP_ok hp).1
        have HPP := Lib.hid hp
        unfold PNodes at HP
        obtain ⟨N, hN⟩ : ∃ N, N = l.length := ⟨_, rfl⟩
        have HN := Lib.hid hN
        rw [← hN] at HP
        clear hp hN
        have u1 : IntKind.i64.wrap ((t.size : Int) + 2) = (t.size : Int) + 2 := by rw [IntKind.wrap_i64]; omega
        go_wp2_with fail
        refine HP.out.mono ?_
        rintro e w4 ⟨g4, cap4, rfl, ho4, hb4⟩
        have HB4 := Lib.hid (HB3.out.trans (hb4.mono HB3.out.size))
        have HEV4 := Lib.hid (HEV.out.below HB4.out)
        have HO4 := Lib.hid ho4
        clear ho4 hb4
        by_cases h2 : t.size + 2 ≤ 200
        · have hd2 : decide ((200 : Int) < (t.size : Int) + 2) = false := by simp; omega
          have HPQ := Lib.hid (Parse_some (ev := ev) _ l w4 HEV4.out (readP_par HPP.out h2))
          unfold PNodes at HPQ
          rw [← HN.out] at HPQ
          have ha1 := fun W => run_string_add_sum (P := Tryd.prog) W ⟨#[40]⟩ t (by show 1 + t.size ≤ _; omega)
          have ha2 := fun W => run_string_add_sum (P := Tryd.prog) W ((⟨#[40]⟩ : ByteArray) ++ t) ⟨#[41]⟩ (by rw [ByteArray.size_append]; show 1 + t.size + 1 ≤ _; omega)
          go_wp2_with fail
          refine HPQ.out.mono ?_
          rintro e w5 ⟨g5, cap5, rfl, ho5, hb5⟩
          have HB5 := Lib.hid (HB4.out.trans (hb5.mono HB4.out.size))
          have hra := Rd.below (Rd.of_own HO4.out) hb5
          have hrb := Rd.of_own ho5
          have HNO := Lib.hid (Nodes_any l l _ _ w5 hra hrb)
          unfold NodesIs at HNO
          clear ho5 hb5 hra hrb ha1 ha2
          go_wp2_with fail
          refine HNO.out.mono ?_
          rintro e w6 ⟨r6, rfl, hr6, hb6⟩
          obtain rfl : r6 = true := by simpa using hr6
          have HB6 := Lib.hid (HB5.out.trans (hb6.mono HB5.out.size))
          clear hr6 hb6
          go_wp2_with fail
          go_ret
          exact ⟨rfl, HB6.out⟩
        · have hd2 : decide ((200 : Int) < (t.size : Int) + 2) = true := by simp; omega
          go_wp2_with fail
          go_ret
          exact ⟨rfl, HB4.out⟩
    · -- THIRD
      have e1 : ((s[0].toNat : Int) != 94) = true := by
        have hne : s[0].toNat ≠ 94 := fun h => h94 (UInt8.toNat_inj.1 h)
        rw [bne_iff_ne]
        omega
      have h94' : s.data.toList[0]? ≠ some 94 := by
        intro h
        apply h94
        have h3 : s.data.toList[0]? = some s[0] := letter0 hp0
        exact Option.some.inj (h3.symm.trans h)
      have HEV3 := Lib.hid (HEV.out.below HB3.out)
      have u2 : IntKind.i64.wrap ((s.size : Int) + 3) = (s.size : Int) + 3 := by rw [IntKind.wrap_i64]; omega
      have hx1 := fun W => run_string_add_sum (P := Tryd.prog) W ⟨#[91]⟩ s (by show 1 + s.size ≤ _; omega)
      have hx2 := fun W => run_string_add_sum (P := Tryd.prog) W ((⟨#[91]⟩ : ByteArray) ++ s) ⟨#[93]⟩ (by rw [ByteArray.size_append]; show 1 + s.size + 1 ≤ _; omega)
      have hy1 := fun W => run_string_add_sum (P := Tryd.prog) W ⟨#[91, 94]⟩ s (by show 2 + s.size ≤ _; omega)
      have hy2 := fun W => run_string_add_sum (P := Tryd.prog) W ((⟨#[91, 94]⟩ : ByteArray) ++ s) ⟨#[93]⟩ (by rw [ByteArray.size_append]; show 2 + s.size + 1 ≤ _; omega)
      have HNOT : Hid (∀ n : Nd, readP ((⟨#[91]⟩ : ByteArray) ++ s ++ ⟨#[93]⟩) = some [n] → n.op = 1 → s.size + 3 ≤ 200 → readP ((⟨#[91, 94]⟩ : ByteArray) ++ s ++ ⟨#[93]⟩) = some [⟨1, notC n.cls⟩]) := Lib.hid (fun n h1 h2 h3 => readP_not h1 h94' hp0 h2 h3)
      obtain ⟨X, hX⟩ : ∃ X, X = (⟨#[91]⟩ : ByteArray) ++ s ++ ⟨#[93]⟩ := ⟨_, rfl⟩
      obtain ⟨Y, hY⟩ : ∃ Y, Y = (⟨#[91, 94]⟩ : ByteArray) ++ s ++ ⟨#[93]⟩ := ⟨_, rfl⟩
      rw [← hX] at hx2 HNOT
      rw [← hY] at hy2 HNOT
      clear h94 h94' h0 hX hY
      have HY : Hid (∀ W, SynE ev W → Calls Tryd.prog 39 #[.string Y] W (PSome W)) := Lib.hid fun W h => Parse_any Y W h
      unfold PSome at HY
      cases hp1 : readP X with
      | none =>
        have HP1 := Lib.hid (Parse_none (ev := ev) X w3 HEV3.out hp1)
        unfold PNone at HP1
        clear hp1 HNOT
        go_wp2_with fail
        refine HP1.out.mono ?_
        rintro e wx ⟨kx, nx, rfl, hbx⟩
        have HBX := Lib.hid (HB3.out.trans (hbx.mono HB3.out.size))
        have HYX := Lib.hid (HY.out wx (HEV.out.below HBX.out))
        clear hbx hx1 hx2 HP1
        go_wp2_with fail
        refine HYX.out.mono ?_
        rintro e wy ⟨Ay, ny, cpy, ky, evy, rfl, hby⟩
        have HBY := Lib.hid (HBX.out.trans (hby.mono HBX.out.size))
        clear hby hy1 hy2 HY HYX HBX HEV3 e1
        have HEV3 := Lib.hid (HEV.out.below HBY.out)
        cases hp : readP t with
        | none =>
          have HP := Lib.hid (Parse_none (ev := ev) t wy HEV3.out hp)
          unfold PNone at HP
          clear hp
          go_wp2_with fail
          refine HP.out.mono ?_
          rintro e w4 ⟨k, n, rfl, hb4⟩
          have HB4 := Lib.hid (HBY.out.trans (hb4.mono HBY.out.size))
          clear hb4
          go_wp2_with fail
          go_ret
          exact ⟨rfl, HB4.out⟩
        | some l =>
          have HP := Lib.hid (Parse_some (ev := ev) t l wy HEV3.out hp)
          have ht2 := (readP_ok hp).1
          have HPP := Lib.hid hp
          unfold PNodes at HP
          obtain ⟨N, hN⟩ : ∃ N, N = l.length := ⟨_, rfl⟩
          have HN := Lib.hid hN
          rw [← hN] at HP
          clear hp hN
          have u1 : IntKind.i64.wrap ((t.size : Int) + 2) = (t.size : Int) + 2 := by rw [IntKind.wrap_i64]; omega
          go_wp2_with fail
          refine HP.out.mono ?_
          rintro e w4 ⟨g4, cap4, rfl, ho4, hb4⟩
          have HB4 := Lib.hid (HBY.out.trans (hb4.mono HBY.out.size))
          have HEV4 := Lib.hid (HEV.out.below HB4.out)
          have HO4 := Lib.hid ho4
          clear ho4 hb4
          by_cases h2 : t.size + 2 ≤ 200
          · have hd2 : decide ((200 : Int) < (t.size : Int) + 2) = false := by simp; omega
            have HPQ := Lib.hid (Parse_some (ev := ev) _ l w4 HEV4.out (readP_par HPP.out h2))
            unfold PNodes at HPQ
            rw [← HN.out] at HPQ
            have ha1 := fun W => run_string_add_sum (P := Tryd.prog) W ⟨#[40]⟩ t (by show 1 + t.size ≤ _; omega)
            have ha2 := fun W => run_string_add_sum (P := Tryd.prog) W ((⟨#[40]⟩ : ByteArray) ++ t) ⟨#[41]⟩ (by rw [ByteArray.size_append]; show 1 + t.size + 1 ≤ _; omega)
            go_wp2_with fail
            refine HPQ.out.mono ?_
            rintro e w5 ⟨g5, cap5, rfl, ho5, hb5⟩
            have HB5 := Lib.hid (HB4.out.trans (hb5.mono HB4.out.size))
            have hra := Rd.below (Rd.of_own HO4.out) hb5
            have hrb := Rd.of_own ho5
            have HNO := Lib.hid (Nodes_any l l _ _ w5 hra hrb)
            unfold NodesIs at HNO
            clear ho5 hb5 hra hrb ha1 ha2
            go_wp2_with fail
            refine HNO.out.mono ?_
            rintro e w6 ⟨r6, rfl, hr6, hb6⟩
            obtain rfl : r6 = true := by simpa using hr6
            have HB6 := Lib.hid (HB5.out.trans (hb6.mono HB5.out.size))
            clear hr6 hb6
            go_wp2_with fail
            go_ret
            exact ⟨rfl, HB6.out⟩
          · have hd2 : decide ((200 : Int) < (t.size : Int) + 2) = true := by simp; omega
            go_wp2_with fail
            go_ret
            exact ⟨rfl, HB4.out⟩
      | some l1 =>
        have HP1 := Lib.hid (Parse_some (ev := ev) X l1 w3 HEV3.out hp1)
        unfold PNodes at HP1
        have hokl : ∀ n ∈ l1, okC n.cls := readP_okC hp1
        by_cases hcond : l1.length = 1
        · obtain ⟨n1, rfl⟩ : ∃ n1, l1 = [n1] := List.length_eq_one_iff.1 hcond
          have hopn := readP_op hp1
          obtain ⟨op1, a0, a1, a2, a3⟩ := n1
          obtain ⟨opn, hopn2⟩ := hopn
          have hopn3 : op1 = (opn : Int) := hopn2
          subst hopn3
          by_cases hop : (opn : Int) = 1
          · by_cases h200 : s.size + 3 ≤ 200
            · have hc1 : okC (a0, a1, a2, a3) := hokl _ (List.mem_singleton.2 rfl)
              obtain rfl : opn = 1 := by have := hop; omega
              obtain ⟨m0, m1, m2, m3, hm⟩ : ∃ m0 m1 m2 m3 : Nat, (m0, m1, m2, m3) = notC (a0, a1, a2, a3) := ⟨_, _, _, _, rfl⟩
              have hpy := HNOT.out _ hp1 hop h200
              dsimp only at hpy
              rw [← hm] at hpy
              have HPY := Lib.hid (fun W h => Parse_some (ev := ev) Y _ W h hpy)
              unfold PNodes at HPY
              have HNT1 : Hid (∀ W, Calls Tryd.prog 29 #[.agg #[.int .u64 (a0 : Int), .int .u64 (a1 : Int), .int .u64 (a2 : Int), .int .u64 (a3 : Int)]] W (CTold m0 m1 m2 m3 W)) := Lib.hid fun W => (Not_any a0 a1 a2 a3 W hc1).mono fun e w' h => ctold hm h
              unfold CTold at HNT1
              have hcm := cls4_self (m0 : Int) (m1 : Int) (m2 : Int) (m3 : Int)
              have d200 : decide ((s.size : Int) + 3 ≤ 200) = true := by simp; omega
              clear hpy hp1 hop hcond hc1 hm hokl HNOT HY
              go_wp2_with fail
              refine HP1.out.mono ?_
              rintro e wx ⟨gx, capx, rfl, hox, hbx⟩
              have HBX := Lib.hid (HB3.out.trans (hbx.mono HB3.out.size))
              have HOX := Lib.hid hox
              clear hbx hox HP1 hx1 hx2
              go_wp2_with fail
              refine (HPY.out wx (HEV.out.below HBX.out)).mono ?_
              rintro e wy ⟨gy, capy, rfl, hoy, hby⟩
              have HBY := Lib.hid (HBX.out.trans (hby.mono HBX.out.size))
              obtain ⟨x0, x1, x2, x3, x4⟩ := OwnT.nd HOX.out (by simp)
              obtain ⟨y0, y1, y2, y3, y4⟩ := OwnT.nd (op := 1) hoy (by simp)
              have hgx : gx < wx.heap.size := World.block_lt_of_cell? wx _ x0
              have hgy : gy < wy.heap.size := World.block_lt_of_cell? wy _ y0
              replace x0 : wy.cell? ⟨gx, 0, none⟩ = some (.int .i64 1) := (hby.cell (p := ⟨gx, 0, none⟩) hgx).trans x0
              replace x1 := (hby.cell (p := ⟨gx, 1, none⟩) hgx).trans x1
              replace x2 := (hby.cell (p := ⟨gx, 2, none⟩) hgx).trans x2
              replace x3 := (hby.cell (p := ⟨gx, 3, none⟩) hgx).trans x3
              replace x4 := (hby.cell (p := ⟨gx, 4, none⟩) hgx).trans x4
              have hgx2 : gx < wy.heap.size := World.block_lt_of_cell? wy _ x0
              have HS : Hid (∀ w', Below wy.heap.size wy w' → (w'.cell? ⟨gx, 1, none⟩ = some (.int .u64 (a0 : Int)) ∧ w'.cell? ⟨gx, 2, none⟩ = some (.int .u64 (a1 : Int)) ∧ w'.cell? ⟨gx, 3, none⟩ = some (.int .u64 (a2 : Int)) ∧ w'.cell? ⟨gx, 4, none⟩ = some (.int .u64 (a3 : Int))) ∧ (w'.cell? ⟨gy, 1, none⟩ = some (.int .u64 (m0 : Int)) ∧ w'.cell? ⟨gy, 2, none⟩ = some (.int .u64 (m1 : Int)) ∧ w'.cell? ⟨gy, 3, none⟩ = some (.int .u64 (m2 : Int)) ∧ w'.cell? ⟨gy, 4, none⟩ = some (.int .u64 (m3 : Int))) ∧ Below wy.heap.size wy w') := Lib.hid (fun w' hb => ⟨⟨(hb.cell (p := ⟨gx, 1, none⟩) hgx2).trans x1, (hb.cell (p := ⟨gx, 2, none⟩) hgx2).trans x2, (hb.cell (p := ⟨gx, 3, none⟩) hgx2).trans x3, (hb.cell (p := ⟨gx, 4, none⟩) hgx2).trans x4⟩, ⟨(hb.cell (p := ⟨gy, 1, none⟩) hgy).trans y1, (hb.cell (p := ⟨gy, 2, none⟩) hgy).trans y2, (hb.cell (p := ⟨gy, 3, none⟩) hgy).trans y3, (hb.cell (p := ⟨gy, 4, none⟩) hgy).trans y4⟩, hb⟩)
              have B0 : Below wy.heap.size wy wy.drew := (Below.refl _ _).drew
              clear hby hoy HPY hy1 hy2
              go_wp2_with fail
              go_region_held3 (fun w' => (w'.cell? ⟨gx, 1, none⟩ = some (.int .u64 (a0 : Int)) ∧ w'.cell? ⟨gx, 2, none⟩ = some (.int .u64 (a1 : Int)) ∧ w'.cell? ⟨gx, 3, none⟩ = some (.int .u64 (a2 : Int)) ∧ w'.cell? ⟨gx, 4, none⟩ = some (.int .u64 (a3 : Int))) ∧ (w'.cell? ⟨gy, 1, none⟩ = some (.int .u64 (m0 : Int)) ∧ w'.cell? ⟨gy, 2, none⟩ = some (.int .u64 (m1 : Int)) ∧ w'.cell? ⟨gy, 3, none⟩ = some (.int .u64 (m2 : Int)) ∧ w'.cell? ⟨gy, 4, none⟩ = some (.int .u64 (m3 : Int))) ∧ Below wy.heap.size wy w')
                (exact HS.out _ (by assumption))
                (first
                  | (go_at_call 29; refine (HNT1.out _).mono ?_; rintro e wz ⟨rfl, hbz⟩; have hBZ : Below wy.heap.size wy wz := (by assumption : Below wy.heap.size wy _).trans (hbz.mono (by assumption : Below wy.heap.size wy _).size)))
              have HBZ := Lib.hid (HBY.out.trans (hBZ.mono HBY.out.size))
              clear hBZ hbz B0 HS HNT1 x0 x1 x2 x3 x4 y0 y1 y2 y3 y4 hcm d200 u2 e1 HEV3
              have HEV3 := Lib.hid (HEV.out.below HBZ.out)
              cases hp : readP t with
              | none =>
                have HP := Lib.hid (Parse_none (ev := ev) t wz HEV3.out hp)
                unfold PNone at HP
                clear hp
                go_wp2_with fail
                refine HP.out.mono ?_
                rintro e w4 ⟨k, n, rfl, hb4⟩
                have HB4 := Lib.hid (HBZ.out.trans (hb4.mono HBZ.out.size))
                clear hb4
                go_wp2_with fail
                go_ret
                exact ⟨rfl, HB4.out⟩
              | some l =>
                have HP := Lib.hid (Parse_some (ev := ev) t l wz HEV3.out hp)
                have ht2 := (readP_ok hp).1
                have HPP := Lib.hid hp
                unfold PNodes at HP
                obtain ⟨N, hN⟩ : ∃ N, N = l.length := ⟨_, rfl⟩
                have HN := Lib.hid hN
                rw [← hN] at HP
                clear hp hN
                have u1 : IntKind.i64.wrap ((t.size : Int) + 2) = (t.size : Int) + 2 := by rw [IntKind.wrap_i64]; omega
                go_wp2_with fail
                refine HP.out.mono ?_
                rintro e w4 ⟨g4, cap4, rfl, ho4, hb4⟩
                have HB4 := Lib.hid (HBZ.out.trans (hb4.mono HBZ.out.size))
                have HEV4 := Lib.hid (HEV.out.below HB4.out)
                have HO4 := Lib.hid ho4
                clear ho4 hb4
                by_cases h2 : t.size + 2 ≤ 200
                · have hd2 : decide ((200 : Int) < (t.size : Int) + 2) = false := by simp; omega
                  have HPQ := Lib.hid (Parse_some (ev := ev) _ l w4 HEV4.out (readP_par HPP.out h2))
                  unfold PNodes at HPQ
                  rw [← HN.out] at HPQ
                  have ha1 := fun W => run_string_add_sum (P := Tryd.prog) W ⟨#[40]⟩ t (by show 1 + t.size ≤ _; omega)
                  have ha2 := fun W => run_string_add_sum (P := Tryd.prog) W ((⟨#[40]⟩ : ByteArray) ++ t) ⟨#[41]⟩ (by rw [ByteArray.size_append]; show 1 + t.size + 1 ≤ _; omega)
                  go_wp2_with fail
                  refine HPQ.out.mono ?_
                  rintro e w5 ⟨g5, cap5, rfl, ho5, hb5⟩
                  have HB5 := Lib.hid (HB4.out.trans (hb5.mono HB4.out.size))
                  have hra := Rd.below (Rd.of_own HO4.out) hb5
                  have hrb := Rd.of_own ho5
                  have HNO := Lib.hid (Nodes_any l l _ _ w5 hra hrb)
                  unfold NodesIs at HNO
                  clear ho5 hb5 hra hrb ha1 ha2
                  go_wp2_with fail
                  refine HNO.out.mono ?_
                  rintro e w6 ⟨r6, rfl, hr6, hb6⟩
                  obtain rfl : r6 = true := by simpa using hr6
                  have HB6 := Lib.hid (HB5.out.trans (hb6.mono HB5.out.size))
                  clear hr6 hb6
                  go_wp2_with fail
                  go_ret
                  exact ⟨rfl, HB6.out⟩
                · have hd2 : decide ((200 : Int) < (t.size : Int) + 2) = true := by simp; omega
                  go_wp2_with fail
                  go_ret
                  exact ⟨rfl, HB4.out⟩
            · have d200 : decide ((s.size : Int) + 3 ≤ 200) = false := by simp; omega
              have dop : ((opn : Int) == 1) = true := by rw [hop]; rfl
              clear h200 hop hp1 hokl hcond HNOT
              go_wp2_with fail
              refine HP1.out.mono ?_
              rintro e wx ⟨gx, capx, rfl, hox, hbx⟩
              have HBX := Lib.hid (HB3.out.trans (hbx.mono HB3.out.size))
              have HOX := Lib.hid hox
              have HYX := Lib.hid (HY.out wx (HEV.out.below HBX.out))
              clear hbx hox HP1 hx1 hx2 HY
              go_wp2_with fail
              refine HYX.out.mono ?_
              rintro e wy ⟨Ay, ny, cpy, ky, evy, rfl, hby⟩
              have HBY := Lib.hid (HBX.out.trans (hby.mono HBX.out.size))
              obtain ⟨x0, x1, x2, x3, x4⟩ := OwnT.nd HOX.out (by simp)
              have hgx : gx < wx.heap.size := World.block_lt_of_cell? wx _ x0
              replace x0 := (hby.cell (p := ⟨gx, 0, none⟩) hgx).trans x0
              clear x1 x2 x3 x4 hgx
              clear hby hy1 hy2 HYX HBX HEV3 e1
              have HEV3 := Lib.hid (HEV.out.below HBY.out)
              cases hp : readP t with
              | none =>
                have HP := Lib.hid (Parse_none (ev := ev) t wy HEV3.out hp)
                unfold PNone at HP
                clear hp
                go_wp2_with fail
                refine HP.out.mono ?_
                rintro e w4 ⟨k, n, rfl, hb4⟩
                have HB4 := Lib.hid (HBY.out.trans (hb4.mono HBY.out.size))
                clear hb4
                go_wp2_with fail
                go_ret
                exact ⟨rfl, HB4.out⟩
              | some l =>
                have HP := Lib.hid (Parse_some (ev := ev) t l wy HEV3.out hp)
                have ht2 := (readP_ok hp).1
                have HPP := Lib.hid hp
                unfold PNodes at HP
                obtain ⟨N, hN⟩ : ∃ N, N = l.length := ⟨_, rfl⟩
                have HN := Lib.hid hN
                rw [← hN] at HP
                clear hp hN
                have u1 : IntKind.i64.wrap ((t.size : Int) + 2) = (t.size : Int) + 2 := by rw [IntKind.wrap_i64]; omega
                go_wp2_with fail
                refine HP.out.mono ?_
                rintro e w4 ⟨g4, cap4, rfl, ho4, hb4⟩
                have HB4 := Lib.hid (HBY.out.trans (hb4.mono HBY.out.size))
                have HEV4 := Lib.hid (HEV.out.below HB4.out)
                have HO4 := Lib.hid ho4
                clear ho4 hb4
                by_cases h2 : t.size + 2 ≤ 200
                · have hd2 : decide ((200 : Int) < (t.size : Int) + 2) = false := by simp; omega
                  have HPQ := Lib.hid (Parse_some (ev := ev) _ l w4 HEV4.out (readP_par HPP.out h2))
                  unfold PNodes at HPQ
                  rw [← HN.out] at HPQ
                  have ha1 := fun W => run_string_add_sum (P := Tryd.prog) W ⟨#[40]⟩ t (by show 1 + t.size ≤ _; omega)
                  have ha2 := fun W => run_string_add_sum (P := Tryd.prog) W ((⟨#[40]⟩ : ByteArray) ++ t) ⟨#[41]⟩ (by rw [ByteArray.size_append]; show 1 + t.size + 1 ≤ _; omega)
                  go_wp2_with fail
                  refine HPQ.out.mono ?_
                  rintro e w5 ⟨g5, cap5, rfl, ho5, hb5⟩
                  have HB5 := Lib.hid (HB4.out.trans (hb5.mono HB4.out.size))
                  have hra := Rd.below (Rd.of_own HO4.out) hb5
                  have hrb := Rd.of_own ho5
                  have HNO := Lib.hid (Nodes_any l l _ _ w5 hra hrb)
                  unfold NodesIs at HNO
                  clear ho5 hb5 hra hrb ha1 ha2
                  go_wp2_with fail
                  refine HNO.out.mono ?_
                  rintro e w6 ⟨r6, rfl, hr6, hb6⟩
                  obtain rfl : r6 = true := by simpa using hr6
                  have HB6 := Lib.hid (HB5.out.trans (hb6.mono HB5.out.size))
                  clear hr6 hb6
                  go_wp2_with fail
                  go_ret
                  exact ⟨rfl, HB6.out⟩
                · have hd2 : decide ((200 : Int) < (t.size : Int) + 2) = true := by simp; omega
                  go_wp2_with fail
                  go_ret
                  exact ⟨rfl, HB4.out⟩
          · have dop : ((opn : Int) == 1) = false := by simpa using hop
            clear hop hp1 hokl hcond HNOT
            go_wp2_with fail
            refine HP1.out.mono ?_
            rintro e wx ⟨gx, capx, rfl, hox, hbx⟩
            have HBX := Lib.hid (HB3.out.trans (hbx.mono HB3.out.size))
            have HOX := Lib.hid hox
            have HYX := Lib.hid (HY.out wx (HEV.out.below HBX.out))
            clear hbx hox HP1 hx1 hx2 HY
            go_wp2_with fail
            refine HYX.out.mono ?_
            rintro e wy ⟨Ay, ny, cpy, ky, evy, rfl, hby⟩
            have HBY := Lib.hid (HBX.out.trans (hby.mono HBX.out.size))
            obtain ⟨x0, x1, x2, x3, x4⟩ := OwnT.nd HOX.out (by simp)
            have hgx : gx < wx.heap.size := World.block_lt_of_cell? wx _ x0
            replace x0 := (hby.cell (p := ⟨gx, 0, none⟩) hgx).trans x0
            clear x1 x2 x3 x4 hgx
            clear hby hy1 hy2 HYX HBX HEV3 e1
            have HEV3 := Lib.hid (HEV.out.below HBY.out)
            cases hp : readP t with
            | none =>
              have HP := Lib.hid (Parse_none (ev := ev) t wy HEV3.out hp)
              unfold PNone at HP
              clear hp
              go_wp2_with fail
              refine HP.out.mono ?_
              rintro e w4 ⟨k, n, rfl, hb4⟩
              have HB4 := Lib.hid (HBY.out.trans (hb4.mono HBY.out.size))
              clear hb4
              go_wp2_with fail
              go_ret
              exact ⟨rfl, HB4.out⟩
            | some l =>
              have HP := Lib.hid (Parse_some (ev := ev) t l wy HEV3.out hp)
              have ht2 := (readP_ok hp).1
              have HPP := Lib.hid hp
              unfold PNodes at HP
              obtain ⟨N, hN⟩ : ∃ N, N = l.length := ⟨_, rfl⟩
              have HN := Lib.hid hN
              rw [← hN] at HP
              clear hp hN
              have u1 : IntKind.i64.wrap ((t.size : Int) + 2) = (t.size : Int) + 2 := by rw [IntKind.wrap_i64]; omega
              go_wp2_with fail
              refine HP.out.mono ?_
              rintro e w4 ⟨g4, cap4, rfl, ho4, hb4⟩
              have HB4 := Lib.hid (HBY.out.trans (hb4.mono HBY.out.size))
              have HEV4 := Lib.hid (HEV.out.below HB4.out)
              have HO4 := Lib.hid ho4
              clear ho4 hb4
              by_cases h2 : t.size + 2 ≤ 200
              · have hd2 : decide ((200 : Int) < (t.size : Int) + 2) = false := by simp; omega
                have HPQ := Lib.hid (Parse_some (ev := ev) _ l w4 HEV4.out (readP_par HPP.out h2))
                unfold PNodes at HPQ
                rw [← HN.out] at HPQ
                have ha1 := fun W => run_string_add_sum (P := Tryd.prog) W ⟨#[40]⟩ t (by show 1 + t.size ≤ _; omega)
                have ha2 := fun W => run_string_add_sum (P := Tryd.prog) W ((⟨#[40]⟩ : ByteArray) ++ t) ⟨#[41]⟩ (by rw [ByteArray.size_append]; show 1 + t.size + 1 ≤ _; omega)
                go_wp2_with fail
                refine HPQ.out.mono ?_
                rintro e w5 ⟨g5, cap5, rfl, ho5, hb5⟩
                have HB5 := Lib.hid (HB4.out.trans (hb5.mono HB4.out.size))
                have hra := Rd.below (Rd.of_own HO4.out) hb5
                have hrb := Rd.of_own ho5
                have HNO := Lib.hid (Nodes_any l l _ _ w5 hra hrb)
                unfold NodesIs at HNO
                clear ho5 hb5 hra hrb ha1 ha2
                go_wp2_with fail
                refine HNO.out.mono ?_
                rintro e w6 ⟨r6, rfl, hr6, hb6⟩
                obtain rfl : r6 = true := by simpa using hr6
                have HB6 := Lib.hid (HB5.out.trans (hb6.mono HB5.out.size))
                clear hr6 hb6
                go_wp2_with fail
                go_ret
                exact ⟨rfl, HB6.out⟩
              · have hd2 : decide ((200 : Int) < (t.size : Int) + 2) = true := by simp; omega
                go_wp2_with fail
                go_ret
                exact ⟨rfl, HB4.out⟩
        · obtain ⟨N1, hN1⟩ : ∃ N1, N1 = l1.length := ⟨_, rfl⟩
          have dop : ((N1 : Int) == 1) = false := by rw [hN1, beq_eq_false_iff_ne]; omega
          have dop2 : ¬ N1 = 1 := by rw [hN1]; exact hcond
          rw [← hN1] at HP1
          clear hN1 hp1 hokl hcond HNOT
          go_wp2_with fail
          refine HP1.out.mono ?_
          rintro e wx ⟨gx, capx, rfl, hox, hbx⟩
          have HBX := Lib.hid (HB3.out.trans (hbx.mono HB3.out.size))
          have HOX := Lib.hid hox
          have HYX := Lib.hid (HY.out wx (HEV.out.below HBX.out))
          clear hbx hox HP1 hx1 hx2 HY
          go_wp2_with fail
          refine HYX.out.mono ?_
          rintro e wy ⟨Ay, ny, cpy, ky, evy, rfl, hby⟩
          have HBY := Lib.hid (HBX.out.trans (hby.mono HBX.out.size))
          clear hby hy1 hy2 HYX HBX HEV3 e1
          have HEV3 := Lib.hid (HEV.out.below HBY.out)
          cases hp : readP t with
          | none =>
            have HP := Lib.hid (Parse_none (ev := ev) t wy HEV3.out hp)
            unfold PNone at HP
            clear hp
            go_wp2_with fail
            refine HP.out.mono ?_
            rintro e w4 ⟨k, n, rfl, hb4⟩
            have HB4 := Lib.hid (HBY.out.trans (hb4.mono HBY.out.size))
            clear hb4
            go_wp2_with fail
            go_ret
            exact ⟨rfl, HB4.out⟩
          | some l =>
            have HP := Lib.hid (Parse_some (ev := ev) t l wy HEV3.out hp)
            have ht2 := (readP_ok hp).1
            have HPP := Lib.hid hp
            unfold PNodes at HP
            obtain ⟨N, hN⟩ : ∃ N, N = l.length := ⟨_, rfl⟩
            have HN := Lib.hid hN
            rw [← hN] at HP
            clear hp hN
            have u1 : IntKind.i64.wrap ((t.size : Int) + 2) = (t.size : Int) + 2 := by rw [IntKind.wrap_i64]; omega
            go_wp2_with fail
            refine HP.out.mono ?_
            rintro e w4 ⟨g4, cap4, rfl, ho4, hb4⟩
            have HB4 := Lib.hid (HBY.out.trans (hb4.mono HBY.out.size))
            have HEV4 := Lib.hid (HEV.out.below HB4.out)
            have HO4 := Lib.hid ho4
            clear ho4 hb4
            by_cases h2 : t.size + 2 ≤ 200
            · have hd2 : decide ((200 : Int) < (t.size : Int) + 2) = false := by simp; omega
              have HPQ := Lib.hid (Parse_some (ev := ev) _ l w4 HEV4.out (readP_par HPP.out h2))
              unfold PNodes at HPQ
              rw [← HN.out] at HPQ
              have ha1 := fun W => run_string_add_sum (P := Tryd.prog) W ⟨#[40]⟩ t (by show 1 + t.size ≤ _; omega)
              have ha2 := fun W => run_string_add_sum (P := Tryd.prog) W ((⟨#[40]⟩ : ByteArray) ++ t) ⟨#[41]⟩ (by rw [ByteArray.size_append]; show 1 + t.size + 1 ≤ _; omega)
              go_wp2_with fail
              refine HPQ.out.mono ?_
              rintro e w5 ⟨g5, cap5, rfl, ho5, hb5⟩
              have HB5 := Lib.hid (HB4.out.trans (hb5.mono HB4.out.size))
              have hra := Rd.below (Rd.of_own HO4.out) hb5
              have hrb := Rd.of_own ho5
              have HNO := Lib.hid (Nodes_any l l _ _ w5 hra hrb)
              unfold NodesIs at HNO
              clear ho5 hb5 hra hrb ha1 ha2
              go_wp2_with fail
              refine HNO.out.mono ?_
              rintro e w6 ⟨r6, rfl, hr6, hb6⟩
              obtain rfl : r6 = true := by simpa using hr6
              have HB6 := Lib.hid (HB5.out.trans (hb6.mono HB5.out.size))
              clear hr6 hb6
              go_wp2_with fail
              go_ret
              exact ⟨rfl, HB6.out⟩
            · have hd2 : decide ((200 : Int) < (t.size : Int) + 2) = true := by simp; omega
              go_wp2_with fail
              go_ret
              exact ⟨rfl, HB4.out⟩
end Go.Proofs.YthcahjnniendnabDoor.synNot
