/-
  Walks of slices.Grow and slices.Concat at rows of ints.
-/
import Derived.Test.YthcahjnniendnabKnotC
import Derived.Test.YthcahjnniendnabTurn
import Derived.Laws.AppendOwnNone
namespace Go.Proofs.Ythcahjnniendnab
open Go.RowKit Wf

theorem natVals_len (l : List Nat) : (natVals l).length = l.length := by simp [natVals]
def GrowII (n : Nat) (w : World) (e : Ending) (w' : World) : Prop :=
  ∃ A cap, e = .returned (.slice A 0 cap) ∧ (n = 0 → A = none ∧ cap = 0) ∧ w'.ownsRow w.heap.size 3 1 (.slice A 0 cap) 0 [] ∧ Below w.heap.size w w'

set_option maxRecDepth 100000 in
set_option maxHeartbeats 4000000 in
theorem GrowI_any (n : Nat) (w : World) (h1 : n ≤ 10000) : Calls Try.prog 52 #[.slice none 0 0, .int .i64 (n : Int)] w (GrowII n w) := by
  by_cases h0 : n = 0
  · subst h0
    go_enter Try.func52, Try.ntmps52
    go_wp2_with fail
    go_ret
    exact ⟨none, 0, rfl, fun _ => ⟨rfl, rfl⟩, World.ownsRow_nil _ _ _ _, Below.refl _ _⟩
  · have h0 : 0 < n := by omega
    obtain ⟨i0, hi0, hz0, hz1, hz2⟩ := info_parts info_int
    have hap := fun W => run_append_make_nil (P := Try.prog) W 34 3 34 3 i0 _ .i64 Try.underlying34 Try.underlying3 hi0 hz0 n h0 (by omega) (by rw [hz2]; omega) (by rw [hz1]; omega)
    have hfin : ∀ W : World, ∃ cap : Nat, cap = grownCap W n 0 3 ∧ n ≤ cap ∧ cap ≤ maxLen := fun W => ⟨_, rfl, grownCap_ge W n 0 _, grownCap_le_maxLen W n 0 _ (by unfold maxLen; omega)⟩
    obtain ⟨cap, hcap, hge, hle⟩ := hfin w
    have hle' : cap ≤ 9223372036854775807 := by unfold maxLen at hle; omega
    have hap' := hap w
    rw [← hcap] at hap'
    have hsz : ∀ z : Array Value, z.size = 1 → (Builtin.zeroCells z n ++ Builtin.zeroCells z (cap - n)).size = cap * 1 := fun z hz => by
      rw [Array.size_append, size_zeroCells, size_zeroCells, hz]; omega
    have HS := Lib.hid hsz
    have hge' : (n : Int) ≤ (cap : Int) := by omega
    have hn0 : (0 : Int) < (n : Int) := by omega
    have HAP := Lib.hid hap'
    clear hfin hcap hap hsz hi0 hz0 hz1 hz2 hap'
    go_enter Try.func52, Try.ntmps52
    go_wp2_with (at_builtin; refine wpList_append_make _ rfl (.tmp 20) (.tmp 21) _ _ rfl _ _ rfl rfl _ _ HAP.out ?_)
    go_ret
    refine ⟨_, cap, rfl, fun h => absurd h (by omega), ?_, ?_⟩
    · exact World.ownsRow_made w.drew _ cap (Nat.le_refl _) hle (HS.out _ rfl)
    · exact ((Below.refl _ _).drew).alloc (Nat.le_refl _) _

/-- A row of numbers as a value: nil, or somewhere in memory. -/
def SrcI (w : World) (v : Value) (xs : List Nat) : Prop := (v = .slice none 0 0 ∧ xs = []) ∨ 0 < xs.length ∧ Rd1 w v (natVals xs)
theorem RowK.src {w0 w : World} {v : Value} {xs : List Nat} (h : RowK w0 w v xs) : SrcI w v xs := by
  by_cases e : xs = []
  · exact .inl ⟨h.1.2 e, e⟩
  · exact .inr ⟨List.length_pos_iff.2 e, Rd.of_own h.2⟩
theorem SrcI.below {w w' : World} {v : Value} {xs : List Nat} (h : SrcI w v xs) (hb : Below w.heap.size w w') : SrcI w' v xs := by
  rcases h with h | ⟨h0, h⟩
  · exact .inl h
  · exact .inr ⟨h0, h.below hb⟩
theorem SrcI.form {w : World} {v : Value} {xs : List Nat} (h : SrcI w v xs) : ∃ A cap, v = .slice A xs.length cap := by
  rcases h with ⟨rfl, rfl⟩ | ⟨_, h⟩
  · exact ⟨none, 0, rfl⟩
  · obtain ⟨A, n, cap, rfl, _, _, hl, _⟩ := h
    have : n = xs.length := by simpa [natVals] using hl.symm
    subst this
    exact ⟨A, cap, rfl⟩

def ConcatII (l : List Nat) (w : World) (e : Ending) (w' : World) : Prop :=
  ∃ A cap, e = .returned (.slice A l.length cap) ∧ RowK w w' (.slice A l.length cap) l ∧ Below w.heap.size w w'

set_option maxRecDepth 100000 in
set_option maxHeartbeats 4000000 in
theorem ConcatI_any (ls : List (List Nat)) (vs : List Value) (b cap0 : Nat) (w : World) (hlen : vs.length = ls.length) (hcap : vs.length ≤ cap0) (hcap2 : cap0 ≤ 9223372036854775807) (hfew : ls.length ≤ 100)
    (hc : ∀ (j : Nat) (u : Value), vs[j]? = some u → w.cell? ⟨b, j, none⟩ = some u) (hbl : b < w.heap.size)
    (hr : ∀ (j : Nat) (u : Value) (l : List Nat), vs[j]? = some u → ls[j]? = some l → SrcI w u l) (h1 : ls.flatten.length ≤ 10000) :
    Calls Try.prog 48 #[.slice (some ⟨b, 0, none⟩) vs.length cap0] w (ConcatII ls.flatten w) := by
  obtain ⟨i0, hi0, hz0, hz1, hz2⟩ := info_parts info_int
  have HC := Lib.hid hc
  have HR := Lib.hid hr
  have HL := Lib.hid hlen
  have hfew' : vs.length ≤ 100 := by omega
  have hle : ∀ k, (ls.take k).flatten.length ≤ ls.flatten.length := flatten_take_le ls
  have HLE := Lib.hid hle
  have hall : (ls.take vs.length).flatten = ls.flatten := by rw [hlen, List.take_length]
  have HALL := Lib.hid hall
  clear hc hr hlen hle hall
  go_enter Try.func48, Try.ntmps48
  go_wp2
  go_loop [3, 11] (fun v3 v11 => ∃ k n : Nat, k ≤ vs.length ∧ v11 = .int .i64 (k : Int) ∧ v3 = .int .i64 (n : Int) ∧ Hid (n = (ls.take k).flatten.length)) (fun _ i => vs.length - (intOf i).toNat)
  case atStart => exact ⟨0, 0, by omega, rfl, rfl, Lib.hid rfl⟩
  case round =>
    obtain ⟨k, n, hk, rfl, rfl, hn⟩ := hrel
    by_cases hlt : k < vs.length
    · obtain ⟨u, hu⟩ := getD_get hlt
      obtain ⟨l, hl⟩ := getD_get (show k < ls.length by rw [← HL.out]; exact hlt)
      have hrn := HR.out k u l hu hl
      obtain ⟨A, cap, rfl⟩ := hrn.form
      have hcell := HC.out k _ hu
      have hnext : (ls.take (k + 1)).flatten.length = n + l.length := by rw [flatten_take_succ hl, List.length_append, hn.out]
      have hb1 := HLE.out (k + 1)
      have hbound : n + l.length ≤ 10000 := by omega
      have HN := Lib.hid hnext
      clear hnext hb1 hu hl hrn
      go_wp2
      go_round
      case rel => exact ⟨k + 1, n + l.length, by omega, by go_num, by go_num, Lib.hid HN.out.symm⟩
      case measure => simp [intOf]; omega
    · obtain rfl : k = vs.length := by omega
      have hnn : n = ls.flatten.length := by rw [hn.out, HALL.out]
      have hn1 : n ≤ 10000 := by omega
      have HNN := Lib.hid hnn
      clear hnn hn
      go_wp2_with fail
      refine (GrowI_any n _ hn1).mono ?_
      rintro e w1 ⟨A, cap, rfl, hnil, hown, hb1⟩
      have hown' : Hid (w1.ownsRow w.heap.size 3 1 (.slice A 0 cap) 0 (natVals ((ls.take 0).flatten))) := Lib.hid hown
      have HNIL := Lib.hid hnil
      clear hown hnil
      go_wp2_with fail
      go_loopw [6, 27] (fun v6 v27 wr => ∃ (k m cap : Nat) (A : Option Addr), k ≤ vs.length ∧ v27 = .int .i64 (k : Int) ∧ v6 = .slice A m cap ∧ Hid (m = (ls.take k).flatten.length) ∧ Hid (ls.flatten = [] → A = none ∧ cap = 0) ∧ Hid (wr.ownsRow w.heap.size 3 1 (.slice A m cap) m (natVals (ls.take k).flatten)) ∧ Below w.heap.size w wr) (fun _ i _ => vs.length - (intOf i).toNat)
      case atStart => exact ⟨0, 0, cap, A, by omega, rfl, rfl, Lib.hid rfl, Lib.hid (fun h => HNIL.out (by rw [HNN.out, h]; rfl)), hown', hb1⟩
      case round =>
        obtain ⟨k, m, cap, A, hk, rfl, rfl, hm0, hnil, hown, hbr⟩ := hrel
        by_cases hlt : k < vs.length
        · obtain ⟨u, hu⟩ := getD_get hlt
          obtain ⟨l, hl⟩ := getD_get (show k < ls.length by rw [← HL.out]; exact hlt)
          have hnext : (ls.take (k + 1)).flatten = (ls.take k).flatten ++ l := flatten_take_succ hl
          have hcell := (hbr.cell (p := ⟨b, k, none⟩) hbl).trans (HC.out k _ hu)
          have hb1 := HLE.out (k + 1)
          have hbound : m + l.length ≤ 10000 := by rw [hnext, List.length_append, ← hm0.out] at hb1; omega
          rcases (HR.out k u l hu hl).below hbr with ⟨rfl, rfl⟩ | ⟨hpos, hrn⟩
          · have HN := Lib.hid hnext
            clear hnext hb1 hu hl
            go_wp2_with (at_builtin; refine wpList_append_own_none rfl (.tmp 31) (.tmp 32) _ rfl w.heap.size 3 i0 1 Try.underlying34 hi0 _ m _ rfl hown.out rfl ?_)
            go_roundw
            case rel => exact ⟨k + 1, m, cap, A, by omega, by go_num, rfl, Lib.hid (by rw [HN.out, List.append_nil]; exact hm0.out), hnil, Lib.hid (by rw [HN.out, List.append_nil]; exact hown.out), hbr⟩
            case measure => simp [intOf]; omega
          · obtain ⟨B, q, capu, rfl, hm, hsrc⟩ := hrn.src (by omega)
            rw [natVals_len] at hm
            obtain rfl : q = l.length := by omega
            obtain ⟨ad, rfl, hadb, hcells⟩ := hsrc hpos
            have hone : ∀ u ∈ natVals l, u.oneCell' = true := fun u hu => by
              obtain ⟨x, _, rfl⟩ := List.mem_map.1 hu
              rfl
            have hnl : (natVals l).length = l.length * 1 := by rw [natVals_len]; omega
            have hne : ls.flatten ≠ [] := fun e => by
              have h2 := HLE.out (k + 1)
              rw [hnext, List.length_append] at h2
              have h3 : ls.flatten.length = 0 := by rw [e]; rfl
              omega
            have HNE := Lib.hid hne
            have HN := Lib.hid hnext
            have HCS := Lib.hid hcells
            have HONE := Lib.hid hone
            have HNL := Lib.hid hnl
            have hbase := hbr.size
            clear hnext hb1 hu hl hrn hcells hone hnl hm hsrc hne
            go_wp2_with (at_builtin; refine wpList_append_lies _ rfl (.tmp 31) (.tmp 32) _ rfl w.heap.size 3 i0 _ 1 8 Try.underlying34 hi0 hz0 hz1 hz2 rfl (by omega) _ _ _ rfl hown.out _ l.length _ (natVals l) rfl HNL.out HCS.out HONE.out hpos (by unfold maxLen; omega) (by omega) hbase _ rfl ?_; intro g2 cap2 w2 hown2 hgrow2 hat2 hlt2)
            go_roundw
            case rel =>
              refine ⟨k + 1, m + l.length, cap2, some ⟨g2, 0, none⟩, by omega, by go_num, rfl, Lib.hid (by rw [HN.out, List.length_append, ← hm0.out]), Lib.hid (fun e => absurd e HNE.out), Lib.hid (by rw [HN.out]; unfold natVals at hown2 ⊢; rw [List.map_append]; exact hown2), ?_⟩
              exact hbr.grown hgrow2 hbase fun q hq => (hown.out.lt q hq).1
            case measure => simp [intOf]; omega
        · obtain rfl : k = vs.length := by omega
          have h1 : m = ls.flatten.length := by rw [hm0.out, HALL.out]
          have h2 := hown.out
          rw [HALL.out, h1] at h2
          have H1 := Lib.hid h1
          have H2 := Lib.hid h2
          clear h1 h2
          go_wp2
          go_ret
          refine ⟨A, cap, by rw [H1.out]; rfl, ⟨⟨fun e => ?_, fun e => ?_⟩, H2.out⟩, hbr⟩
          · injection e with _ e2 _
            exact List.eq_nil_of_length_eq_zero e2
          · obtain ⟨rfl, rfl⟩ := hnil.out e
            rw [e]
            rfl
theorem Concat2I (l1 l2 : List Nat) (v1 v2 : Value) (b : Nat) (w : World) (h1 : SrcI w v1 l1) (h2 : SrcI w v2 l2) (c0 : w.cell? ⟨b, 0, none⟩ = some v1) (c1 : w.cell? ⟨b, 1, none⟩ = some v2) (hb : b < w.heap.size) (hl : l1.length + l2.length ≤ 10000) :
    Calls Try.prog 48 #[.slice (some ⟨b, 0, none⟩) 2 2] w (ConcatII (l1 ++ l2) w) := by
  have h := ConcatI_any [l1, l2] [v1, v2] b 2 w rfl (by simp) (by omega) (by simp) (fun j u hj => by
    match j, hj with
    | 0, hj => simp at hj; subst hj; exact c0
    | 1, hj => simp at hj; subst hj; exact c1) hb (fun j u l hj hl => by
    match j, hj, hl with
    | 0, hj, hl => simp at hj hl; subst hj; subst hl; exact h1
    | 1, hj, hl => simp at hj hl; subst hj; subst hl; exact h2) (by simpa using hl)
  simpa using h
end Go.Proofs.Ythcahjnniendnab
