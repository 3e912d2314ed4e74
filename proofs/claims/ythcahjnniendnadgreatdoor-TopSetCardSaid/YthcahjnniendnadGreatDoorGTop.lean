/-
  One, SetForm, TopSetA.
-/
import Derived.Test.YthcahjnniendnadGreatDoorGAll
import Derived.Test.YthcahjnniendnadGreatDoorGLd
import Derived.Test.YthcahjnniendnadGreatDoorGPb
import Derived.Test.YthcahjnniendnadGreatDoorGPf
import Derived.Test.YthcahjnniendnadGreatDoorGSetF
import Derived.Test.YthcahjnniendnadGreatDoorGSetI
import Derived.Test.YthcahjnniendnadGreatDoorGSynJ
import Derived.Test.YthcahjnniendnadGreatDoorStrs
import Derived.Test.YthcahjnniendnadGreatDoorSwapA
import Derived.BigQuiet
/-
  The walks of package winnowfantop's one, word.
-/
namespace Go.Proofs.YthcahjnniendnadGreatDoor
open Go.RowKit Wf
open law (LawIs)
set_option linter.unusedVariables false

theorem readP_plus : readP ⟨#[97, 43]⟩ = some [⟨6, zc⟩, ⟨1, withB zc 97⟩] := readP_of (s := ⟨#[97, 43]⟩) (t := .plus (.byte (withB zc 97))) (by decide) plus_read (by simp [flat])

set_option maxRecDepth 100000 in
set_option maxHeartbeats 8000000 in
/-- The closed fact holds. -/
theorem One_c {ev : Value} (w : World) (hev : SynE ev w) : Calls Tryz.prog 9 #[] w (LawIs w) := by
  have HP := Lib.hid (Parse_some (ev := ev) ⟨#[97, 43]⟩ _ w hev readP_plus)
  unfold PNodes at HP
  have hsw : swapL ⟨#[98, 97, 97, 98]⟩ ⟨#[99]⟩ (spansO (ByteArray.mk #[98, 97, 97, 98]).data.toList (.plus (.byte (withB zc 97))) 0) = [98, 99, 98] := by
    rw [show (ByteArray.mk #[98, 97, 97, 98]).data.toList = [98, 97, 97, 98] from rfl, plus_spans]
    exact plus_swap
  have hck : chkSw [⟨6, zc⟩, ⟨1, withB zc 97⟩] ⟨#[98, 97, 97, 98]⟩ ⟨#[99]⟩ (spansO (ByteArray.mk #[98, 97, 97, 98]).data.toList (.plus (.byte (withB zc 97))) 0) = 0 := by
    unfold chkSw
    rw [hsw]
    have h1 : chkF [⟨6, zc⟩, ⟨1, withB zc 97⟩] (ByteArray.mk #[98, 97, 97, 98]).size = 0 := by
      unfold chkF
      rw [if_neg (by rw [show chk [⟨6, zc⟩, ⟨1, withB zc 97⟩] = 0 from chk_flat (.plus (.byte (withB zc 97))) (by simp [flat])]; simp), if_neg (by decide)]
    rw [if_neg (by rw [h1]; simp), if_neg (by decide), if_neg (by decide)]
  have HRP : Hid (∀ (v : Value) (W : World), RdN W v [⟨6, zc⟩, ⟨1, withB zc 97⟩] → Calls Tryz.prog 32 #[v, .string ⟨#[98, 97, 97, 98]⟩, .string ⟨#[99]⟩] W (ReplIs [98, 99, 98] W)) := Lib.hid fun v W h =>
    (repl_any [⟨6, zc⟩, ⟨1, withB zc 97⟩] (.plus (.byte (withB zc 97))) rfl (by simp) (by
      intro n hn
      rcases List.mem_cons.1 hn with rfl | hn
      · exact okC_zc
      · rw [List.mem_singleton.1 hn]; exact okC_with okC_zc 97) ⟨#[98, 97, 97, 98]⟩ ⟨#[99]⟩ (by decide) (by decide) v W h).mono (by
      rintro e w' (⟨_, h2⟩ | ⟨h1, _⟩)
      · rw [hsw] at h2; exact h2
      · rw [hck] at h1; cases h1)
  unfold ReplIs at HRP
  clear hev hsw hck
  go_enter Tryz.func9, Tryz.ntmps9
  go_wp2_with fail
  refine HP.out.mono ?_
  rintro e w1 ⟨g1, cap1, rfl, ho1, hb1⟩
  have HR1 := Lib.hid (HRP.out _ w1 (Rd.of_own ho1))
  have HB1 := Lib.hid hb1
  clear ho1 hb1 HP HRP
  go_wp2_with fail
  refine HR1.out.mono ?_
  rintro e w2 ⟨rfl, hb2⟩
  have HB2 := Lib.hid (HB1.out.trans (hb2.mono HB1.out.size))
  clear hb2
  go_wp2_with fail
  go_ret
  exact ⟨rfl, HB2.out⟩
end Go.Proofs.YthcahjnniendnadGreatDoor

/-
  Rows of hits and of items, their form.
-/
namespace Go.Proofs.YthcahjnniendnadGreatDoor.setW
open Go.RowKit Wf
set_option linter.unusedVariables false
theorem hits_form {w : World} {base : Nat} {v : Value} {S : List (Nat × Nat × Nat)} (h : w.ownsRow base 46 3 v S.length (S.flatMap hitCells)) : ∃ A cap, v = .slice A S.length cap := by
  obtain ⟨A, n, cap, rfl, _, _, hl, _⟩ := Rd.of_own h
  rw [hits_len] at hl
  exact ⟨A, cap, by rw [show n = S.length by omega]⟩
theorem items_form {w : World} {base : Nat} {v : Value} {S : List Mb} (h : w.ownsRow base 38 2 v S.length (S.flatMap itCells)) : ∃ A cap, v = .slice A S.length cap := by
  obtain ⟨A, n, cap, rfl, _, _, hl, _⟩ := Rd.of_own h
  rw [it_len] at hl
  exact ⟨A, cap, by rw [show n = S.length by omega]⟩
theorem it_get (l : List Mb) : ∀ (k j : Nat) (h : Mb), l[k]? = some h → j < 2 → (l.flatMap itCells)[k * 2 + j]? = (itCells h)[j]? := by
  induction l with
  | nil => intro k j x h; simp at h
  | cons m r ih =>
    intro k j x h hj
    rcases k with _ | k
    · simp at h
      subst h
      simp only [List.flatMap_cons, Nat.zero_mul, Nat.zero_add]
      rw [List.getElem?_append_left (by simpa [itCells] using hj)]
    · simp only [List.flatMap_cons]
      rw [List.getElem?_append_right (by simp [itCells]; omega)]
      have e : (k + 1) * 2 + j - (itCells m).length = k * 2 + j := by simp [itCells]; omega
      rw [e]
      exact ih k j x (by simpa using h) hj
theorem it_open {w : World} {v : Value} {l : List Mb} (h : Rd w 2 v (l.flatMap itCells)) : ∃ (A : Option Addr) (cap : Nat), v = .slice A l.length cap ∧ l.length ≤ cap ∧ cap ≤ 9223372036854775807 ∧
    (0 < l.length → ∃ b off, A = some ⟨b, off, none⟩ ∧ b < w.heap.size ∧ ∀ (w' : World), (∀ o, w'.cell? ⟨b, o, none⟩ = w.cell? ⟨b, o, none⟩) → ∀ (k : Nat) (x : Mb), l[k]? = some x → w'.cell? ⟨b, off + k * 2, none⟩ = some (.int .i64 (x.id : Int)) ∧ w'.cell? ⟨b, off + k * 2 + 1, none⟩ = some (.string x.text)) := by
  obtain ⟨A, n, cap, rfl, h1, h2, h3, h4⟩ := h
  rw [it_len] at h3
  obtain rfl : n = l.length := by omega
  refine ⟨A, cap, rfl, h1, h2, fun hn => ?_⟩
  obtain ⟨b, off, rfl, hc⟩ := h4 hn
  have hget : ∀ (k : Nat) (x : Mb), l[k]? = some x → ∀ j u, j < 2 → (itCells x)[j]? = some u → w.cell? ⟨b, off + (k * 2 + j), none⟩ = some u := by
    intro k x hk j u hj hu
    exact hc _ _ (by rw [it_get l k j _ hk hj]; exact hu)
  have hlt : b < w.heap.size := by
    have hl : l[0]? = some (l[0]'hn) := List.getElem?_eq_getElem hn
    exact World.block_lt_of_cell? w _ (hget 0 _ hl 0 _ (by omega) rfl)
  refine ⟨b, off, rfl, hlt, fun w' hw k x hk => ?_⟩
  simp only [hw]
  exact ⟨hget k x hk 0 _ (by omega) rfl, hget k x hk 1 _ (by omega) rfl⟩
/-- A set stays where only a block below it is written. -/
theorem SetAt.grownAt {B b : Nat} {m : SS} {ml : List Mr} {A : Value} {W W' : World} (h : SetAt B b m ml A W) {x : Nat} (hx : x < B) (hg : W.grownBy W' (some x)) : SetAt B b m ml A W' :=
  ⟨h.hB, h.ms, blk_grown h.blk hg (fun e => by injection e with e; have := h.hB; omega), h.own.kept hg (.inr fun e => by have := (h.own.lt x e).1; omega), fun q hq => ⟨World.ownsRow.kept (h.mem q hq).1 hg (.inr fun e => by have := ((h.mem q hq).1.lt x e).1; omega), (h.mem q hq).2⟩, h.ok, h.lastb⟩
end Go.Proofs.YthcahjnniendnadGreatDoor.setW

/-
  Walk of the statement TopSet.
-/
namespace Go.Proofs.YthcahjnniendnadGreatDoor.topSet
open Go.RowKit Wf setW
open law (LawIs)
set_option linter.unusedVariables false

set_option maxRecDepth 100000 in
set_option maxHeartbeats 16000000 in
theorem walk {ev : Value} (add : List ByteArray) (va : Value) (out : List Int) (vo : Value) (t : ByteArray) (on : Bool) (w : World) (hra : Rd1 w va (strVals add)) (hro : Rd1 w vo (out.map (Value.int .i64))) (hok : ∀ x ∈ out, (Lit.int .i64 x).wf = true) (ht : t.size ≤ maxLen) (hev : SynE ev w) :
    Calls Tryz.prog 5 #[va, vo, .string t, .bool on] w (LawIs w) := by
  unfold maxLen at ht
  have HEV := Lib.hid hev
  have HNEW := Lib.hid fun W => New_set W
  have HONE := Lib.hid (One_c w hev)
  unfold LawIs at HONE
  obtain ⟨Aa, ca, rfl, hca, hca2, hma⟩ := str_open hra
  obtain ⟨Ao, co, rfl, hco, hco2, hmo⟩ := Rd1.open_ hro
  rw [List.length_map] at hco hmo ⊢
  have HMA := Lib.hid hma
  have HMO := Lib.hid hmo
  clear hra hro hev hma hmo
  unfold NewSet at HNEW
  unfold LawIs
  go_enter Tryz.func5, Tryz.ntmps5
  go_wp2_with fail
  refine HONE.out.mono ?_
  rintro e w1 ⟨rfl, hb1⟩
  have HB1 := Lib.hid hb1
  clear hb1 HONE
  go_wp2_with fail
  refine (HNEW.out w1).mono ?_
  rintro e w2 ⟨rfl, h2, hb2⟩
  have H2 := Lib.hid h2
  have HQ := Lib.hid HB1.out.size
  have HB2 := Lib.hid (HB1.out.trans (hb2.mono HB1.out.size))
  clear h2 hb2 HB1
  generalize w1.heap.size = B at *
  go_wp2_with fail
  go_loopw [11] (fun v11 wr => ∃ k : Nat, k ≤ add.length ∧ k ≤ 30 ∧ v11 = .int .i64 (k : Int) ∧ Hid (∃ ml A, SetAt B B (SS.zero.alters add out k) ml A wr) ∧ Hid (Below w.heap.size w wr)) (fun i _ => 30 - (intOf i).toNat)
  case atStart => exact ⟨0, by omega, by omega, rfl, Lib.hid ⟨_, _, H2.out⟩, HB2⟩
  case round =>
    obtain ⟨k, hk, hk30, rfl, HS, HB⟩ := hrel
    by_cases hka : k < add.length
    · by_cases h30 : k < 30
      · obtain ⟨ml', A', hs'⟩ := HS.out
        obtain ⟨ba, oa, rfl, hba, hca'⟩ := HMA.out (by omega)
        have hget : add[k]? = some (add[k]'hka) := List.getElem?_eq_getElem hka
        generalize add[k]'hka = s at hget
        have m0 := hca' wr (fun o => HB.out.cell (p := ⟨ba, o, none⟩) hba) k s hget
        have hlast := SS.last_alters SS.zero add out k
        have hz : SS.zero.last = 0 := rfl
        have hl2 : (SS.zero.alters add out k).last < 1000000 := by omega
        have HSN := Lib.hid (SS.alters_succ SS.zero (out := out) hget)
        have HAD := Lib.hid (Add_set B B _ ml' A' s wr hs' (HEV.out.below HB.out) hl2)
        unfold SetTo addV at HAD
        have k0 : (0 : Int) ≤ (k : Int) := by omega
        have k1 : (k : Int) < (add.length : Int) := by omega
        have k2 : decide ((k : Int) < (add.length : Int)) = true := decide_eq_true (by omega)
        have k3 : decide ((k : Int) < 30) = true := decide_eq_true (by omega)
        generalize SS.zero.alters add out k = mk at *
        generalize (mk.added s).1 = r1 at HAD
        generalize (mk.added s).2.1 = r2 at HAD
        generalize errV (mk.added s).2.2 = r3 at HAD
        clear hget hca' hlast hz hl2 hs' HS
        by_cases hko : k < out.length
        · obtain ⟨bo, oo, rfl, hbo, hco'⟩ := HMO.out (by omega)
          have hgo : out[k]? = some (out[k]'hko) := List.getElem?_eq_getElem hko
          generalize out[k]'hko = x at hgo
          have HCO := Lib.hid fun W (hb : Below w.heap.size w W) => hco' W (fun o => hb.cell (p := ⟨bo, o, none⟩) hbo) k (.int .i64 x) (by rw [List.getElem?_map, hgo]; rfl)
          rw [hgo] at HSN
          have k4 : decide ((k : Int) < (out.length : Int)) = true := decide_eq_true (by omega)
          have k5 : (k : Int) < (out.length : Int) := by omega
          clear hgo hco' hko
          go_wp2_with fail
          refine HAD.out.mono ?_
          rintro e w3 ⟨rfl, ml3, A3, h3, k3'⟩
          have HRM := Lib.hid (Remove_set B B _ ml3 A3 x w3 h3)
          unfold SetTo at HRM
          generalize errV ((mk.add s).removed x) = er at HRM
          have HB3 := Lib.hid (HB.out.trans (k3'.bel.mono HQ.out))
          have x0 := HCO.out w3 HB3.out
          clear h3 k3' HAD HB
          go_wp2_with fail
          refine HRM.out.mono ?_
          rintro e w4 ⟨rfl, ml4, A4, h4, k4'⟩
          have H4 := Lib.hid h4
          have HB4 := Lib.hid (HB3.out.trans (k4'.bel.mono HQ.out))
          clear h4 k4' HRM HB3
          go_wp2_with fail
          go_roundw
          case rel => exact ⟨k + 1, by omega, by omega, by go_num, Lib.hid ⟨ml4, A4, by rw [HSN.out]; exact H4.out⟩, HB4⟩
          case measure => simp [intOf]; omega
        · have hgo : out[k]? = none := List.getElem?_eq_none (by omega)
          rw [hgo] at HSN
          have k4 : decide ((k : Int) < (out.length : Int)) = false := decide_eq_false (by omega)
          have k5 : decide (k < out.length) = false := decide_eq_false hko
          clear hgo hko
          go_wp2_with fail
          refine HAD.out.mono ?_
          rintro e w3 ⟨rfl, ml3, A3, h3, k3'⟩
          have H3 := Lib.hid h3
          have HB3 := Lib.hid (HB.out.trans (k3'.bel.mono HQ.out))
          clear h3 k3' HAD HB
          go_wp2_with fail
          go_roundw
          case rel => exact ⟨k + 1, by omega, by omega, by go_num, Lib.hid ⟨ml3, A3, by rw [HSN.out]; exact H3.out⟩, HB3⟩
          case measure => simp [intOf]; omega
      · obtain rfl : k = 30 := by omega
        have k2 : decide (((30 : Nat) : Int) < (add.length : Int)) = true := decide_eq_true (by omega)
        have k2' : decide (30 < add.length) = true := decide_eq_true (by omega)
        obtain ⟨ml5, A5, h5⟩ := HS.out
        have H5 := Lib.hid h5
        have HB5 := HB
        clear HS HB H2 HB2
        generalize SS.zero.alters add out 30 = M at h5 H5
        obtain ⟨w5, hw5⟩ : ∃ W, W = wr := ⟨_, rfl⟩
        subst hw5
        go_wp2_with fail
        refine (HNEW.out w5).mono ?_
        rintro e w6 ⟨rfl, h6, hb6⟩
        have H6 := Lib.hid (H5.out.below hb6)
        have HU6 := Lib.hid h6
        have HB6 := Lib.hid (HB5.out.trans (hb6.mono HB5.out.size))
        have HC := Lib.hid HB5.out.size
        have HBC6 : Hid (Below w5.heap.size w5 w6) := Lib.hid hb6
        have HLI := Lib.hid (List_set B B M ml5 A5 w6 (H5.out.below hb6))
        unfold ItemsAre at HLI
        clear h5 h6 hb6
        go_wp2_with fail
        refine HLI.out.mono ?_
        rintro e w7 ⟨vi, rfl, hoi, hb7⟩
        obtain ⟨Ai, ci, rfl⟩ := items_form hoi
        have HQ6 : Hid (w5.heap.size ≤ w6.heap.size) := Lib.hid HBC6.out.size
        have HI7 := Lib.hid hoi
        have HU7 := Lib.hid (HU6.out.below hb7)
        have H7 := Lib.hid (H6.out.below hb7)
        have HBC7 : Hid (Below w5.heap.size w5 w7) := Lib.hid (by
          have h1 := HU6.out.hBw
          exact HBC6.out.trans (hb7.mono h1))
        obtain ⟨L, hL⟩ : ∃ L, L = M.ms := ⟨_, rfl⟩
        have HLM := Lib.hid hL
        have hokM := H5.out.ok
        have HOM := Lib.hid hokM
        rw [← hL] at HI7 ⊢
        have h12 : L.length ≤ 12 := by rw [hL]; exact hokM.len
        clear hoi hb7 hL hokM HLI HU6 H6 HBC6
        go_wp2_with fail
        go_loopw [14] (fun v14 wx => ∃ j : Nat, j ≤ L.length ∧ v14 = .int .i64 (j : Int) ∧ Hid (∃ ml A, SetAt w5.heap.size w5.heap.size (⟨renum (L.take j) 0, j, false, 0⟩ : SS) ml A wx) ∧ Hid (wx.ownsRow w6.heap.size 38 2 (.slice Ai L.length ci) L.length (L.flatMap itCells)) ∧ Hid (Below w5.heap.size w5 wx)) (fun v _ => L.length - (intOf v).toNat)
        case atStart => exact ⟨0, by omega, rfl, Lib.hid ⟨_, _, HU7.out⟩, HI7, HBC7⟩
        case round =>
          clear HI7 HU7 H7 HBC7
          obtain ⟨j, hj, rfl, HU, HI, HBC⟩ := hrel
          by_cases hjl : j < L.length
          · obtain ⟨mlu, Au, hu⟩ := HU.out
            obtain ⟨Aj, cj, hvj, _, _, hmj⟩ := it_open (Rd.of_own HI.out)
            injection hvj with hvj _ hvjc
            subst hvj
            subst hvjc
            obtain ⟨bi, oi, rfl, hbi, hci⟩ := hmj (by omega)
            have hget : L[j]? = some (L[j]'hjl) := List.getElem?_eq_getElem hjl
            generalize L[j]'hjl = q at hget
            obtain ⟨m0, m1⟩ := hci wr (fun _ => rfl) j q hget
            have HAD := Lib.hid (Add_set w5.heap.size w5.heap.size _ mlu Au q.text wr hu (HEV.out.below (HB5.out.trans (HBC.out.mono HB5.out.size))) (show j < 1000000 by omega))
            unfold SetTo addV at HAD
            have hra := renum_add HOM.out (q := q) (k := j) (by rw [← HLM.out]; exact hget)
            rw [← HLM.out] at hra
            rw [hra.1, hra.2] at HAD
            dsimp only at HAD
            rw [errV_zero, show ((j + 1 : Nat) : Int) = (j : Int) + 1 by omega] at HAD
            have HUH := Lib.hid hu
            obtain ⟨id, tx, tr⟩ := q
            dsimp only at m0 m1 HAD
            have j0 : (0 : Int) ≤ (j : Int) := by omega
            have j1 : (j : Int) < (L.length : Int) := by omega
            clear hget hci hmj hra hu HU
            go_wp2_with fail
            refine HAD.out.mono ?_
            rintro e w8 ⟨rfl, ml8, A8, h8, k8⟩
            have H8 := Lib.hid h8
            have HI8 := Lib.hid (own_sk HI.out k8 (by decide) (own_not HI.out HUH.out.blk (by decide)))
            have HBC8 := Lib.hid (HBC.out.trans k8.bel)
            clear h8 k8 HAD HI HBC HUH
            go_wp2_with fail
            go_roundw
            case rel => exact ⟨j + 1, by omega, by go_num, Lib.hid ⟨ml8, A8, H8.out⟩, HI8, HBC8⟩
            case measure => simp [intOf]; omega
          · obtain rfl : j = L.length := by omega
            rw [List.take_length] at HU
            obtain ⟨mlu, Au, hu⟩ := HU.out
            have HFI := Lib.hid (Filter_set w5.heap.size w5.heap.size _ mlu Au on wr hu)
            unfold SetIs at HFI
            have HUH := Lib.hid hu
            clear HU hu
            go_wp2_with fail
            refine HFI.out.mono ?_
            rintro e w8 ⟨rfl, ml8, A8, h8, k8⟩
            obtain ⟨U, hU⟩ : ∃ U : SS, U = { (⟨renum L 0, L.length, false, 0⟩ : SS) with on := on } := ⟨_, rfl⟩
            rw [← hU] at h8
            have HUM : Hid (U.ms = renum L 0) := Lib.hid (by rw [hU])
            have HI8 := Lib.hid (own_sk HI.out k8 (by decide) (own_not HI.out HUH.out.blk (by decide)))
            have HBC8 := Lib.hid (HBC.out.trans k8.bel)
            have HU8 := Lib.hid h8
            have HS8 := Lib.hid (H5.out.below HBC8.out)
            have HW8 := Lib.hid (HB5.out.trans (HBC8.out.mono HB5.out.size))
            have hBC : B < w5.heap.size := H5.out.lt
            clear h8 k8 HFI HI HBC HUH hU
            by_cases hs4 : t.size ≤ 400
            · have HSC := Lib.hid (Scan_g B B M ml5 A5 t w8 HS8.out hs4)
              unfold ScanIs at HSC
              have HT4 := Lib.hid hs4
              clear hs4
              go_wp2_with fail
              refine HSC.out.mono ?_
              rintro e w9 ⟨⟨vx, ml9, A9, rfl, ho9, h9, k9⟩, hg9⟩
              obtain ⟨HX, hHX⟩ : ∃ HX, HX = M.hits t.data.toList := ⟨_, rfl⟩
              rw [← hHX] at ho9
              obtain ⟨Ax, cx, rfl⟩ := hits_form ho9
              have HU9 := Lib.hid (HU8.out.grownAt hBC hg9)
              have HI9 := Lib.hid (HI8.out.kept hg9 (.inr fun e => by have := (HI8.out.lt B e).1; have := HQ6.out; omega))
              have HX9 := Lib.hid ho9
              have HW9 := Lib.hid (HW8.out.trans (k9.bel.mono HQ.out))
              have HHX := Lib.hid hHX
              have HSC2 := Lib.hid (Scan_ok w5.heap.size w5.heap.size U ml8 A8 t w9 HU9.out HT4.out)
              unfold ScanIs at HSC2
              clear ho9 h9 k9 hg9 hHX HSC HU8 HI8 HS8 HW8
              go_wp2_with fail
              refine HSC2.out.mono ?_
              rintro e w10 ⟨vy, ml10, A10, rfl, ho10, h10, k10⟩
              obtain ⟨HY, hHY⟩ : ∃ HY, HY = U.hits t.data.toList := ⟨_, rfl⟩
              rw [← hHY] at ho10
              obtain ⟨Ay, cy, rfl⟩ := hits_form ho10
              have hXY : HX.length = HY.length := by
                rw [HHX.out, hHY]
                unfold SS.hits
                rw [HUM.out, renum_hits_len, HLM.out]
              have hXR : ∀ (i id x y : Nat), HX[i]? = some (id, x, y) → ∃ k q, L[k]? = some q ∧ q.id = id ∧ HY[i]? = some (k + 1, x, y) := fun i id x y h => by
                rw [HHX.out] at h
                unfold SS.hits at h
                rw [← HLM.out] at h
                obtain ⟨k, q, h1, h2, h3⟩ := renum_hits t.data.toList L 0 i id x y h
                refine ⟨k, q, h1, h2, ?_⟩
                rw [hHY]
                unfold SS.hits
                rw [HUM.out, h3, Nat.zero_add]
              have HXR := Lib.hid hXR
              have HXY := Lib.hid hXY
              have HI10 := Lib.hid (Rd.of_own (own_sk HI9.out k10 (by decide) (own_not HI9.out HU9.out.blk (by decide))))
              have HX10 := Lib.hid (Rd.of_own (own_sk HX9.out k10 (by decide) (own_not HX9.out HU9.out.blk (by decide))))
              have HY10 := Lib.hid (Rd.of_own ho10)
              have HW10 := Lib.hid (HW9.out.trans (k10.bel.mono HB5.out.size))
              have hne : ((HX.length : Int) != (HY.length : Int)) = false := by rw [hXY]; simp
              clear ho10 h10 k10 hHY HSC2 HU9 HI9 HX9 HW9 hXY hXR
              go_wp2_with fail
              go_loopw [22] (fun v22 wx => ∃ i : Nat, i ≤ HX.length ∧ v22 = .int .i64 (i : Int) ∧ Hid (Below w10.heap.size w10 wx)) (fun v _ => HX.length - (intOf v).toNat)
              case atStart => exact ⟨0, by omega, rfl, Lib.hid (Below.refl _ _)⟩
              case round =>
                obtain ⟨i, hi, rfl, HBL⟩ := hrel
                by_cases hil : i < HX.length
                · obtain ⟨p, hp⟩ : ∃ p, HX[i]? = some p := ⟨_, List.getElem?_eq_getElem hil⟩
                  obtain ⟨id, x, y⟩ := p
                  obtain ⟨k, q, hq1, hq2, hy⟩ := HXR.out i id x y hp
                  have hkl := (List.getElem?_eq_some_iff.1 hq1).1
                  have hil2 : i < HY.length := by rw [← HXY.out]; exact hil
                  obtain ⟨A1, c1', hv1, _, _, hm1⟩ := hit_open HX10.out
                  injection hv1 with hv1 _ hv1c
                  subst hv1
                  subst hv1c
                  obtain ⟨b1, o1, rfl, hl1, hc1⟩ := hm1 (by omega)
                  obtain ⟨x0, x1, x2⟩ := hc1 wr (fun o => HBL.out.cell (p := ⟨b1, o, none⟩) hl1) i id x y hp
                  obtain ⟨A2, c2', hv2, _, _, hm2⟩ := hit_open HY10.out
                  injection hv2 with hv2 _ hv2c
                  subst hv2
                  subst hv2c
                  obtain ⟨b2, o2, rfl, hl2, hc2⟩ := hm2 (by omega)
                  obtain ⟨y0, y1, y2⟩ := hc2 wr (fun o => HBL.out.cell (p := ⟨b2, o, none⟩) hl2) i (k + 1) x y hy
                  obtain ⟨A3, c3', hv3, _, _, hm3⟩ := it_open HI10.out
                  injection hv3 with hv3 _ hv3c
                  subst hv3
                  subst hv3c
                  obtain ⟨b3, o3, rfl, hl3, hc3⟩ := hm3 (by omega)
                  obtain ⟨z0, z1⟩ := hc3 wr (fun o => HBL.out.cell (p := ⟨b3, o, none⟩) hl3) k q hq1
                  rw [hq2] at z0
                  rw [show ((k + 1 : Nat) : Int) = (k : Int) + 1 by omega] at y0
                  have g0 : (0 : Int) ≤ (i : Int) := by omega
                  have g1 : (i : Int) < (HX.length : Int) := by omega
                  have g2 : (i : Int) < (HY.length : Int) := by omega
                  have g3 : (0 : Int) ≤ (k : Int) := by omega
                  have g4 : (k : Int) < (L.length : Int) := by omega
                  have g5 : decide ((k : Int) < 0) = false := decide_eq_false (by omega)
                  have g6 : decide (L.length ≤ k) = false := decide_eq_false (by omega)
                  have g7 : decide ((L.length : Int) ≤ (k : Int)) = false := decide_eq_false (by omega)
                  have g8 : sp2 (x : Int) (y : Int) (x : Int) (y : Int) = true := by simp [sp2]
                  have g9 : k ≤ 12 := by omega
                  clear hp hq1 hq2 hy hc1 hc2 hc3 hm1 hm2 hm3
                  go_wp2_with fail
                  go_quiet (fail)
                  go_wp2_with fail
                  go_roundw
                  case rel => exact ⟨i + 1, by omega, by go_num, Lib.hid (below_drewN HBL.out nq)⟩
                  case measure => simp [intOf]; omega
                · obtain rfl : i = HX.length := by omega
                  have HE := Lib.hid (HW10.out.trans (HBL.out.mono HW10.out.size))
                  go_wp2_with fail
                  go_ret
                  exact ⟨rfl, HE.out⟩
            · have HSC := Lib.hid (Scan_long B B M ml5 A5 t w8 HS8.out (by omega))
              have HSC2 := Lib.hid (Scan_long w5.heap.size w5.heap.size U ml8 A8 t w8 HU8.out (by omega))
              rw [errV_ne (by decide)] at HSC HSC2
              clear hs4
              go_wp2_with fail
              refine HSC.out.mono ?_
              rintro e w9 ⟨rfl, rfl⟩
              go_wp2_with fail
              refine HSC2.out.mono ?_
              rintro e w9 ⟨rfl, rfl⟩
              go_wp2_with fail
              go_ret
              exact ⟨rfl, HW8.out⟩
    · obtain rfl : k = add.length := by omega
      have k2 : decide ((add.length : Int) < (add.length : Int)) = false := decide_eq_false (by omega)
      obtain ⟨ml5, A5, h5⟩ := HS.out
      have H5 := Lib.hid h5
      have HB5 := HB
      clear HS HB H2 HB2
      generalize SS.zero.alters add out add.length = M at h5 H5
      obtain ⟨w5, hw5⟩ : ∃ W, W = wr := ⟨_, rfl⟩
      subst hw5
      go_wp2_with fail
      refine (HNEW.out w5).mono ?_
      rintro e w6 ⟨rfl, h6, hb6⟩
      have H6 := Lib.hid (H5.out.below hb6)
      have HU6 := Lib.hid h6
      have HB6 := Lib.hid (HB5.out.trans (hb6.mono HB5.out.size))
      have HC := Lib.hid HB5.out.size
      have HBC6 : Hid (Below w5.heap.size w5 w6) := Lib.hid hb6
      have HLI := Lib.hid (List_set B B M ml5 A5 w6 (H5.out.below hb6))
      unfold ItemsAre at HLI
      clear h5 h6 hb6
      go_wp2_with fail
      refine HLI.out.mono ?_
      rintro e w7 ⟨vi, rfl, hoi, hb7⟩
      obtain ⟨Ai, ci, rfl⟩ := items_form hoi
      have HQ6 : Hid (w5.heap.size ≤ w6.heap.size) := Lib.hid HBC6.out.size
      have HI7 := Lib.hid hoi
      have HU7 := Lib.hid (HU6.out.below hb7)
      have H7 := Lib.hid (H6.out.below hb7)
      have HBC7 : Hid (Below w5.heap.size w5 w7) := Lib.hid (by
        have h1 := HU6.out.hBw
        exact HBC6.out.trans (hb7.mono h1))
      obtain ⟨L, hL⟩ : ∃ L, L = M.ms := ⟨_, rfl⟩
      have HLM := Lib.hid hL
      have hokM := H5.out.ok
      have HOM := Lib.hid hokM
      rw [← hL] at HI7 ⊢
      have h12 : L.length ≤ 12 := by rw [hL]; exact hokM.len
      clear hoi hb7 hL hokM HLI HU6 H6 HBC6
      go_wp2_with fail
      go_loopw [14] (fun v14 wx => ∃ j : Nat, j ≤ L.length ∧ v14 = .int .i64 (j : Int) ∧ Hid (∃ ml A, SetAt w5.heap.size w5.heap.size (⟨renum (L.take j) 0, j, false, 0⟩ : SS) ml A wx) ∧ Hid (wx.ownsRow w6.heap.size 38 2 (.slice Ai L.length ci) L.length (L.flatMap itCells)) ∧ Hid (Below w5.heap.size w5 wx)) (fun v _ => L.length - (intOf v).toNat)
      case atStart => exact ⟨0, by omega, rfl, Lib.hid ⟨_, _, HU7.out⟩, HI7, HBC7⟩
      case round =>
        clear HI7 HU7 H7 HBC7
        obtain ⟨j, hj, rfl, HU, HI, HBC⟩ := hrel
        by_cases hjl : j < L.length
        · obtain ⟨mlu, Au, hu⟩ := HU.out
          obtain ⟨Aj, cj, hvj, _, _, hmj⟩ := it_open (Rd.of_own HI.out)
          injection hvj with hvj _ hvjc
          subst hvj
          subst hvjc
          obtain ⟨bi, oi, rfl, hbi, hci⟩ := hmj (by omega)
          have hget : L[j]? = some (L[j]'hjl) := List.getElem?_eq_getElem hjl
          generalize L[j]'hjl = q at hget
          obtain ⟨m0, m1⟩ := hci wr (fun _ => rfl) j q hget
          have HAD := Lib.hid (Add_set w5.heap.size w5.heap.size _ mlu Au q.text wr hu (HEV.out.below (HB5.out.trans (HBC.out.mono HB5.out.size))) (show j < 1000000 by omega))
          unfold SetTo addV at HAD
          have hra := renum_add HOM.out (q := q) (k := j) (by rw [← HLM.out]; exact hget)
          rw [← HLM.out] at hra
          rw [hra.1, hra.2] at HAD
          dsimp only at HAD
          rw [errV_zero, show ((j + 1 : Nat) : Int) = (j : Int) + 1 by omega] at HAD
          have HUH := Lib.hid hu
          obtain ⟨id, tx, tr⟩ := q
          dsimp only at m0 m1 HAD
          have j0 : (0 : Int) ≤ (j : Int) := by omega
          have j1 : (j : Int) < (L.length : Int) := by omega
          clear hget hci hmj hra hu HU
          go_wp2_with fail
          refine HAD.out.mono ?_
          rintro e w8 ⟨rfl, ml8, A8, h8, k8⟩
          have H8 := Lib.hid h8
          have HI8 := Lib.hid (own_sk HI.out k8 (by decide) (own_not HI.out HUH.out.blk (by decide)))
          have HBC8 := Lib.hid (HBC.out.trans k8.bel)
          clear h8 k8 HAD HI HBC HUH
          go_wp2_with fail
          go_roundw
          case rel => exact ⟨j + 1, by omega, by go_num, Lib.hid ⟨ml8, A8, H8.out⟩, HI8, HBC8⟩
          case measure => simp [intOf]; omega
        · obtain rfl : j = L.length := by omega
          rw [List.take_length] at HU
          obtain ⟨mlu, Au, hu⟩ := HU.out
          have HFI := Lib.hid (Filter_set w5.heap.size w5.heap.size _ mlu Au on wr hu)
          unfold SetIs at HFI
          have HUH := Lib.hid hu
          clear HU hu
          go_wp2_with fail
          refine HFI.out.mono ?_
          rintro e w8 ⟨rfl, ml8, A8, h8, k8⟩
          obtain ⟨U, hU⟩ : ∃ U : SS, U = { (⟨renum L 0, L.length, false, 0⟩ : SS) with on := on } := ⟨_, rfl⟩
          rw [← hU] at h8
          have HUM : Hid (U.ms = renum L 0) := Lib.hid (by rw [hU])
          have HI8 := Lib.hid (own_sk HI.out k8 (by decide) (own_not HI.out HUH.out.blk (by decide)))
          have HBC8 := Lib.hid (HBC.out.trans k8.bel)
          have HU8 := Lib.hid h8
          have HS8 := Lib.hid (H5.out.below HBC8.out)
          have HW8 := Lib.hid (HB5.out.trans (HBC8.out.mono HB5.out.size))
          have hBC : B < w5.heap.size := H5.out.lt
          clear h8 k8 HFI HI HBC HUH hU
          by_cases hs4 : t.size ≤ 400
          · have HSC := Lib.hid (Scan_g B B M ml5 A5 t w8 HS8.out hs4)
            unfold ScanIs at HSC
            have HT4 := Lib.hid hs4
            clear hs4
            go_wp2_with fail
            refine HSC.out.mono ?_
            rintro e w9 ⟨⟨vx, ml9, A9, rfl, ho9, h9, k9⟩, hg9⟩
            obtain ⟨HX, hHX⟩ : ∃ HX, HX = M.hits t.data.toList := ⟨_, rfl⟩
            rw [← hHX] at ho9
            obtain ⟨Ax, cx, rfl⟩ := hits_form ho9
            have HU9 := Lib.hid (HU8.out.grownAt hBC hg9)
            have HI9 := Lib.hid (HI8.out.kept hg9 (.inr fun e => by have := (HI8.out.lt B e).1; have := HQ6.out; omega))
            have HX9 := Lib.hid ho9
            have HW9 := Lib.hid (HW8.out.trans (k9.bel.mono HQ.out))
            have HHX := Lib.hid hHX
            have HSC2 := Lib.hid (Scan_ok w5.heap.size w5.heap.size U ml8 A8 t w9 HU9.out HT4.out)
            unfold ScanIs at HSC2
            clear ho9 h9 k9 hg9 hHX HSC HU8 HI8 HS8 HW8
            go_wp2_with fail
            refine HSC2.out.mono ?_
            rintro e w10 ⟨vy, ml10, A10, rfl, ho10, h10, k10⟩
            obtain ⟨HY, hHY⟩ : ∃ HY, HY = U.hits t.data.toList := ⟨_, rfl⟩
            rw [← hHY] at ho10
            obtain ⟨Ay, cy, rfl⟩ := hits_form ho10
            have hXY : HX.length = HY.length := by
              rw [HHX.out, hHY]
              unfold SS.hits
              rw [HUM.out, renum_hits_len, HLM.out]
            have hXR : ∀ (i id x y : Nat), HX[i]? = some (id, x, y) → ∃ k q, L[k]? = some q ∧ q.id = id ∧ HY[i]? = some (k + 1, x, y) := fun i id x y h => by
              rw [HHX.out] at h
              unfold SS.hits at h
              rw [← HLM.out] at h
              obtain ⟨k, q, h1, h2, h3⟩ := renum_hits t.data.toList L 0 i id x y h
              refine ⟨k, q, h1, h2, ?_⟩
              rw [hHY]
              unfold SS.hits
              rw [HUM.out, h3, Nat.zero_add]
            have HXR := Lib.hid hXR
            have HXY := Lib.hid hXY
            have HI10 := Lib.hid (Rd.of_own (own_sk HI9.out k10 (by decide) (own_not HI9.out HU9.out.blk (by decide))))
            have HX10 := Lib.hid (Rd.of_own (own_sk HX9.out k10 (by decide) (own_not HX9.out HU9.out.blk (by decide))))
            have HY10 := Lib.hid (Rd.of_own ho10)
            have HW10 := Lib.hid (HW9.out.trans (k10.bel.mono HB5.out.size))
            have hne : ((HX.length : Int) != (HY.length : Int)) = false := by rw [hXY]; simp
            clear ho10 h10 k10 hHY HSC2 HU9 HI9 HX9 HW9 hXY hXR
            go_wp2_with fail
            go_loopw [22] (fun v22 wx => ∃ i : Nat, i ≤ HX.length ∧ v22 = .int .i64 (i : Int) ∧ Hid (Below w10.heap.size w10 wx)) (fun v _ => HX.length - (intOf v).toNat)
            case atStart => exact ⟨0, by omega, rfl, Lib.hid (Below.refl _ _)⟩
            case round =>
              obtain ⟨i, hi, rfl, HBL⟩ := hrel
              by_cases hil : i < HX.length
              · obtain ⟨p, hp⟩ : ∃ p, HX[i]? = some p := ⟨_, List.getElem?_eq_getElem hil⟩
                obtain ⟨id, x, y⟩ := p
                obtain ⟨k, q, hq1, hq2, hy⟩ := HXR.out i id x y hp
                have hkl := (List.getElem?_eq_some_iff.1 hq1).1
                have hil2 : i < HY.length := by rw [← HXY.out]; exact hil
                obtain ⟨A1, c1', hv1, _, _, hm1⟩ := hit_open HX10.out
                injection hv1 with hv1 _ hv1c
                subst hv1
                subst hv1c
                obtain ⟨b1, o1, rfl, hl1, hc1⟩ := hm1 (by omega)
                obtain ⟨x0, x1, x2⟩ := hc1 wr (fun o => HBL.out.cell (p := ⟨b1, o, none⟩) hl1) i id x y hp
                obtain ⟨A2, c2', hv2, _, _, hm2⟩ := hit_open HY10.out
                injection hv2 with hv2 _ hv2c
                subst hv2
                subst hv2c
                obtain ⟨b2, o2, rfl, hl2, hc2⟩ := hm2 (by omega)
                obtain ⟨y0, y1, y2⟩ := hc2 wr (fun o => HBL.out.cell (p := ⟨b2, o, none⟩) hl2) i (k + 1) x y hy
                obtain ⟨A3, c3', hv3, _, _, hm3⟩ := it_open HI10.out
                injection hv3 with hv3 _ hv3c
                subst hv3
                subst hv3c
                obtain ⟨b3, o3, rfl, hl3, hc3⟩ := hm3 (by omega)
                obtain ⟨z0, z1⟩ := hc3 wr (fun o => HBL.out.cell (p := ⟨b3, o, none⟩) hl3) k q hq1
                rw [hq2] at z0
                rw [show ((k + 1 : Nat) : Int) = (k : Int) + 1 by omega] at y0
                have g0 : (0 : Int) ≤ (i : Int) := by omega
                have g1 : (i : Int) < (HX.length : Int) := by omega
                have g2 : (i : Int) < (HY.length : Int) := by omega
                have g3 : (0 : Int) ≤ (k : Int) := by omega
                have g4 : (k : Int) < (L.length : Int) := by omega
                have g5 : decide ((k : Int) < 0) = false := decide_eq_false (by omega)
                have g6 : decide (L.length ≤ k) = false := decide_eq_false (by omega)
                have g7 : decide ((L.length : Int) ≤ (k : Int)) = false := decide_eq_false (by omega)
                have g8 : sp2 (x : Int) (y : Int) (x : Int) (y : Int) = true := by simp [sp2]
                have g9 : k ≤ 12 := by omega
                clear hp hq1 hq2 hy hc1 hc2 hc3 hm1 hm2 hm3
                go_wp2_with fail
                go_quiet (fail)
                go_wp2_with fail
                go_roundw
                case rel => exact ⟨i + 1, by omega, by go_num, Lib.hid (below_drewN HBL.out nq)⟩
                case measure => simp [intOf]; omega
              · obtain rfl : i = HX.length := by omega
                have HE := Lib.hid (HW10.out.trans (HBL.out.mono HW10.out.size))
                go_wp2_with fail
                go_ret
                exact ⟨rfl, HE.out⟩
          · have HSC := Lib.hid (Scan_long B B M ml5 A5 t w8 HS8.out (by omega))
            have HSC2 := Lib.hid (Scan_long w5.heap.size w5.heap.size U ml8 A8 t w8 HU8.out (by omega))
            rw [errV_ne (by decide)] at HSC HSC2
            clear hs4
            go_wp2_with fail
            refine HSC.out.mono ?_
            rintro e w9 ⟨rfl, rfl⟩
            go_wp2_with fail
            refine HSC2.out.mono ?_
            rintro e w9 ⟨rfl, rfl⟩
            go_wp2_with fail
            go_ret
            exact ⟨rfl, HW8.out⟩
end Go.Proofs.YthcahjnniendnadGreatDoor.topSet
