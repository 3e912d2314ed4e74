/-
  Proved: winnowfanlaw2.WordsAlone returns true for every list of words, every two texts and every number, and changes nothing that was there.
-/
import Derived.Test.YthcahjnniendnabAppRow
import Derived.Test.YthcahjnniendnabLaw
import Derived.Test.YthcahjnniendnabOpenL
import Derived.BigQuiet
namespace Go.Proofs.Ythcahjnniendnab.wordsAlone
open Go.ChangeShapes Go.WideShapes Go.ChangeAt Go.RowKit Wf
open Go.ChangeMaps (open_string shut_string)
open law (own laidOut LawIs)
set_option linter.unusedVariables false

theorem wbeq_yes {x y : ByteArray} (h : x = y) : (x.toList == y.toList) = true := (Lib.bytes_beq_iff x y).2 h
theorem new_three (W : World) (t : TypeId) (x y z : Value) (g : Nat) (hg : g = W.heap.size) : ∀ (j : Nat) (u : Value), [x, y, z][j]? = some u → (W.alloc (.cells #[x, y, z] t)).cell? ((⟨g, 0, none⟩ : Addr).add j) = some u := by
  intro j u hu
  subst hg
  rw [add_mk, Nat.zero_add, (Blk.new W t #[x, y, z]).cell]
  simpa using hu
theorem fact_ok : chkAll [⟨#[97, 98]⟩, ⟨#[98]⟩] ⟨#[97, 98]⟩ = 0 := chkAll_zero.2 ⟨⟨by simp, (fun y hy => by
  rcases List.mem_cons.1 hy with rfl | hy
  · decide
  · rw [List.mem_singleton.1 hy]; decide), by decide⟩, by decide⟩
theorem fact_hits : hitsL (wsOf [⟨#[97, 98]⟩, ⟨#[98]⟩]) (ByteArray.mk #[97, 98]).data.toList = [(0, 0, 2), (1, 1, 2)] := by decide
def FactIs (w : World) (e : Ending) (w' : World) : Prop := ∃ fb fo c, e = .returned (.tuple #[.slice (some ⟨fb, fo, none⟩) 2 c, .nilIface]) ∧ w'.cell? ⟨fb, fo + 1, none⟩ = some (.int .i64 0) ∧ w'.cell? ⟨fb, fo + 4, none⟩ = some (.int .i64 1) ∧ Below w.heap.size w w'
theorem fact_c (w : World) : Calls Try.prog 12 #[.slice (some ⟨w.heap.size, 0, none⟩) 2 2, .string ⟨#[97, 98]⟩] (w.alloc (.cells #[.string ⟨#[97, 98]⟩, .string ⟨#[98]⟩] 9)) (FactIs w) := by
  have hb0 : Below w.heap.size w (w.alloc (.cells #[.string ⟨#[97, 98]⟩, .string ⟨#[98]⟩] 9)) := (Below.refl _ _).alloc (Nat.le_refl _) _
  have hrd : Rd1 (w.alloc (.cells #[.string ⟨#[97, 98]⟩, .string ⟨#[98]⟩] 9)) (.slice (some ⟨w.heap.size, 0, none⟩) 2 2) (strVals [⟨#[97, 98]⟩, ⟨#[98]⟩]) := (Blk.new w 9 #[.string ⟨#[97, 98]⟩, .string ⟨#[98]⟩]).rd1 (Nat.le_refl _) (by omega) rfl (fun j u h => by simpa [strVals] using h)
  refine (All_fine [⟨#[97, 98]⟩, ⟨#[98]⟩] _ ⟨#[97, 98]⟩ _ hrd fact_ok _ rfl 2 (by rw [fact_hits]; rfl)).mono ?_
  rintro e w' ⟨B, c, h1, h2, h3⟩
  rw [fact_hits] at h2
  obtain ⟨A', cap', hv, _, _, hm⟩ := hit_open h2
  injection hv with e1 _ e2
  subst e1
  subst e2
  obtain ⟨fb, fo, rfl, _, hc⟩ := hm (by decide)
  have c0 := (hc w' (fun _ => rfl) 0 0 0 2 rfl).2.1
  have c1 := (hc w' (fun _ => rfl) 1 1 1 2 rfl).2.1
  exact ⟨fb, fo, c, h1, by simpa using c0, by simpa using c1, hb0.trans (h3.mono hb0.size)⟩

set_option maxRecDepth 100000 in
set_option maxHeartbeats 16000000 in
theorem walk (l : List ByteArray) (v : Value) (s t : ByteArray) (k : Int) (w : World) (hr : Rd1 w v (l.map Value.string)) (hls : ∀ y ∈ l, y.size ≤ maxLen) (hs : s.size ≤ maxLen) (ht : t.size ≤ 140737488355328) (hk : -9223372036854775808 ≤ k ∧ k ≤ 9223372036854775807) :
    Calls Try.prog 4 #[v, .string s, .string t, .int .i64 k] w (LawIs w) := by
  unfold maxLen at hs hls
  have hr' : Rd1 w v (strVals l) := hr
  obtain ⟨A, cap, rfl, hcap, hcap2, hmem⟩ := str_open hr'
  obtain ⟨j0, hj0, hjz0, hjz1, hjz2⟩ := info_parts info_hit
  have hlen : l.length ≤ 9223372036854775807 := by omega
  have HR := Lib.hid hr'
  have HLS := Lib.hid hls
  have HF := Lib.hid (fact_c w)
  unfold FactIs at HF
  by_cases h1 : chkAll l s = 0
  · have HALL := Lib.hid fun W v (h : Rd1 W v (strVals l)) => All_fine l v s W h h1 _ rfl _ rfl
    by_cases hl0 : l.length = 0
    · have hl1 : l = [] := List.eq_nil_of_length_eq_zero hl0
      have hS0 : hitsL (wsOf l) s.data.toList = [] := by
        rw [List.eq_nil_iff_forall_not_mem]
        intro q hq
        obtain ⟨u, hu, _⟩ := hits_stand hq
        rw [hl1] at hu
        simp [wsOf] at hu
      have HAL0 : Hid (∀ W, Rd1 W (.slice A 0 cap) (strVals []) → Calls Try.prog 12 #[.slice A 0 cap, .string s] W (fun e w' => ∃ B c, e = .returned (.tuple #[.slice B 0 c, .nilIface]) ∧ Below W.heap.size W w')) := Lib.hid (fun W h => by
        have hal := HALL.out W (.slice A 0 cap) (by rw [hl1]; exact h)
        rw [hS0] at hal
        refine hal.mono ?_
        rintro e w' ⟨B, c, q1, _, q3⟩
        exact ⟨B, c, q1, q3⟩)
      have HR0 : Hid (Rd1 w (.slice A 0 cap) (strVals [])) := Lib.hid (by have := HR.out; rw [hl0] at this; rw [hl1] at this; exact this)
      rw [hl0]
      clear hr hr' hls h1 hmem hS0 hl1 hl0 HALL HR HLS hlen hcap
      go_enter Try.func4, Try.ntmps4
      go_wp2_with fail
      refine HF.out.mono ?_
      rintro e w1 ⟨fb, fo, fc, rfl, f0, f1, hb1⟩
      have f2 : w1.cell? ⟨fb, fo + 3 + 1, none⟩ = some (.int .i64 1) := f1
      have HB1 := Lib.hid hb1
      clear hb1 HF
      go_wp2_with fail
      refine (HAL0.out w1 (Rd.below HR0.out HB1.out)).mono ?_
      rintro e w2 ⟨B2, c2, rfl, hb2⟩
      have HB2 := Lib.hid (HB1.out.trans (hb2.mono HB1.out.size))
      clear hb2
      go_wp2_with fail
      go_ret
      exact ⟨rfl, HB2.out⟩
    · have hpos : 0 < l.length := by omega
      have hz : ((l.length : Int) == 0) = false := by
        have : (l.length : Int) ≠ 0 := by omega
        simpa using this
      obtain ⟨lb, lo, rfl, hlb, hlc⟩ := hmem hpos
      have HLC := Lib.hid fun W (hb : Below w.heap.size w W) => hlc W (fun o => hb.cell (p := ⟨lb, o, none⟩) hlb)
      have HOK := Lib.hid h1
      have HALLT := Lib.hid fun u W v (h2 : chkAll l u = 0) (h : Rd1 W v (strVals l)) => All_fine l v u W h h2 _ rfl _ rfl
      have hfew := hits_few h1
      have HTXT := Lib.hid fun (q : Nat × Nat × Nat) (hq : q ∈ hitsL (wsOf l) s.data.toList) => hit_text (a := q.1) (b := q.2.1) (d := q.2.2) hq
      have HAL1 := Lib.hid fun i (x : ByteArray) (hx : l[i]? = some x) => hits_alone (t := s.data.toList) (wsOf_get hx)
      have HTWO := Lib.hid fun (z : UInt8) (h : ∀ y ∈ wsOf l, z ∉ y) (hne : ∀ y ∈ wsOf l, y ≠ []) (u : ByteArray) => hits_two (ws := wsOf l) h hne s.data.toList u.data.toList
      generalize hS : hitsL (wsOf l) s.data.toList = S at *
      generalize hN : S.length = N at *
      have HNS := Lib.hid hN
      clear hr hr' hls h1 hmem hlc hlb hS hN
      go_enter Try.func4, Try.ntmps4
      go_wp2_with fail
      refine HF.out.mono ?_
      rintro e w1 ⟨fb, fo, fc, rfl, f0, f1, hb1⟩
      have f2 : w1.cell? ⟨fb, fo + 3 + 1, none⟩ = some (.int .i64 1) := f1
      have HB1 := Lib.hid hb1
      clear hb1 HF
      go_wp2_with fail
      refine (HALL.out w1 _ (Rd.below HR.out HB1.out)).mono ?_
      rintro e w2 ⟨B2, c2, rfl, hr2, hb2⟩
      have HB2 := Lib.hid (HB1.out.trans (hb2.mono HB1.out.size))
      have HR2 := Lib.hid hr2
      clear hb2 hr2 f0 f1 f2 HALL
      go_wp2_with fail
      refine (Pick_c k hk l.length hpos hlen w2).mono ?_
      rintro e w3 ⟨i, hi, rfl, hb3⟩
      have HB3 := Lib.hid (HB2.out.trans (hb3.mono HB2.out.size))
      have HR3 := Lib.hid (Rd.below HR2.out hb3)
      obtain ⟨li, hli⟩ := getD_get hi
      have HLI := Lib.hid hli
      clear hb3 HR2 hli
      have i1 : (i : Int) + 1 ≤ (cap : Int) := by omega
      have i2 : IntKind.i64.wrap ((i : Int) + 1) = (i : Int) + 1 := by rw [IntKind.wrap_i64]; omega
      have hrd1 : Rd1 w3 (.slice (some ⟨lb, lo + i, none⟩) 1 (cap - i)) (strVals [li]) := ⟨_, 1, cap - i, rfl, by omega, by omega, rfl, fun _ => ⟨lb, lo + i, rfl, fun j u hu => by
        rcases j with _ | j
        · have e : Value.string li = u := by simpa [strVals] using hu
          rw [← e]
          exact HLC.out w3 HB3.out i li HLI.out
        · simp [strVals] at hu⟩⟩
      have h3 : chkAll [li] s = 0 := chkAll_zero.2 ⟨okW_one (chkAll_zero.1 HOK.out).1 (List.mem_of_getElem? HLI.out), (chkAll_zero.1 HOK.out).2⟩
      have HON := Lib.hid fun W v (h : Rd1 W v (strVals [li])) => All_fine [li] v s W h h3 _ rfl _ rfl
      have hw1 : wsOf [li] = [li.data.toList] := rfl
      rw [hw1] at HON
      have hpk := HAL1.out i li HLI.out
      generalize hX : hitsL [li.data.toList] s.data.toList = X at *
      generalize hN1 : X.length = N1 at *
      have HNX := Lib.hid hN1
      have HPK := Lib.hid hpk
      have HRD1 := Lib.hid hrd1
      clear hrd1 h3 hw1 hpk hX hN1 HAL1 HLI
      go_wp2_with fail
      refine (HON.out w3 _ HRD1.out).mono ?_
      rintro e w4 ⟨B4, c4, rfl, hr4, hb4⟩
      have HB4 := Lib.hid (HB3.out.trans (hb4.mono HB3.out.size))
      have hr3 := Rd.below HR3.out hb4
      have HR4 := Lib.hid hr3
      rw [← HNX.out] at hr4
      rw [← HNS.out] at hr3
      obtain ⟨A', cap', hv, _, _, hmf⟩ := hit_open hr3
      rw [HNS.out] at hv hmf
      injection hv with e1 _ e2
      subst e1
      subst e2
      obtain ⟨A', cap', hv, _, _, hmg⟩ := hit_open hr4
      rw [HNX.out] at hv hmg
      injection hv with e1 _ e2
      subst e1
      subst e2
      have HMF := Lib.hid hmf
      have HMG := Lib.hid hmg
      clear hr3 hr4 hb4 hmf hmg HON HRD1 HR3
      go_wp2_with fail
      go_loopw [16, 17] (fun v16 v17 wr => ∃ (j n : Nat), j ≤ N ∧ v17 = .int .i64 (j : Int) ∧ v16 = .int .i64 (n : Int) ∧ n ≤ j ∧ Hid (n = ((S.take j).filter fun q => decide (q.1 = i)).length) ∧ Hid (Below w4.heap.size w4 wr)) (fun _ j _ => N - (intOf j).toNat)
      case atStart => exact ⟨0, 0, by omega, rfl, rfl, by omega, Lib.hid rfl, Lib.hid (Below.refl _ _)⟩
      case round =>
        obtain ⟨j, n, hj, rfl, rfl, hnj, HNJ, HB⟩ := hrel
        have hsz := HB.out.size
        by_cases hlt : j < N
        · obtain ⟨bs, os, rfl, hbs, hcs⟩ := HMF.out (by omega)
          have hltS : j < S.length := by rw [HNS.out]; exact hlt
          have hi' : S[j]? = some (S[j]'hltS) := List.getElem?_eq_getElem hltS
          generalize S[j]'hltS = q at hi'
          obtain ⟨a, b, d⟩ := q
          obtain ⟨g0, g1, g2⟩ := hcs wr (fun o => HB.out.cell (p := ⟨bs, o, none⟩) hbs) j a b d hi'
          obtain ⟨xa, hxa, hbd, hds, hex⟩ := HTXT.out _ (List.mem_of_getElem? hi')
          dsimp only at hxa hbd hds hex
          have hal : a < l.length := (List.getElem?_eq_some_iff.1 hxa).1
          have HSJ := Lib.hid hi'
          have hba : Below w4.heap.size w4 (wr.alloc (.cells #[.int .i64 (a : Int), .int .i64 (b : Int), .int .i64 (d : Int)] 48)) := HB.out.alloc hsz _
          have ca : (wr.alloc (.cells #[.int .i64 (a : Int), .int .i64 (b : Int), .int .i64 (d : Int)] 48)).cell? ⟨lb, lo + a, none⟩ = some (.string xa) := HLC.out _ (HB4.out.trans (hba.mono HB4.out.size)) a xa hxa
          have HBA := Lib.hid hba
          have hT : Hid (S.take (j + 1) = S.take j ++ [(a, b, d)]) := Lib.hid (take_snoc hi')
          have hj1 : (j : Int) < (N : Int) := by omega
          have q1 : decide ((a : Int) < 0) = false := by simp
          have q2 : decide (l.length ≤ a) = false := by simpa using hal
          have q3 : decide ((b : Int) < 0) = false := by simp
          have q4 : decide (s.size < d) = false := by simpa using hds
          have q5 : decide (d < b) = false := by simpa using hbd
          have q6 : ((s.extract b d).toList == xa.toList) = true := wbeq_yes hex
          have k1 : (b : Int) ≤ (d : Int) := by omega
          have k2 : (d : Int) ≤ (s.size : Int) := by omega
          have k3 : (a : Int) < (l.length : Int) := by omega
          clear hcs hi' hltS hxa hex hba
          go_wp2_with fail
          go_quiet (fail)
          have hbq : Below (wr.alloc (.cells #[.int .i64 (a : Int), .int .i64 (b : Int), .int .i64 (d : Int)] 48)).heap.size (wr.alloc (.cells #[.int .i64 (a : Int), .int .i64 (b : Int), .int .i64 (d : Int)] 48)) ((wr.alloc (.cells #[.int .i64 (a : Int), .int .i64 (b : Int), .int .i64 (d : Int)] 48)).drewN nq) := below_drewN (Below.refl _ _) _
          have hbk := (Blk.new wr 48 #[.int .i64 (a : Int), .int .i64 (b : Int), .int .i64 (d : Int)]).kept hbq
          have HB2 := Lib.hid (HBA.out.trans (hbq.mono (by simp; omega)))
          clear hbq ca q1 q2 q3 q4 q5 q6 k1 k2 g0 g1 g2
          generalize (wr.alloc (.cells #[.int .i64 (a : Int), .int .i64 (b : Int), .int .i64 (d : Int)] 48)).drewN nq = W2 at *
          have r0 : W2.cell? ⟨wr.heap.size, 0, none⟩ = some (.int .i64 (a : Int)) := hbk.cell 0
          have r1 : W2.cell? ⟨wr.heap.size, 1, none⟩ = some (.int .i64 (b : Int)) := hbk.cell 1
          have r2 : W2.cell? ⟨wr.heap.size, 2, none⟩ = some (.int .i64 (d : Int)) := hbk.cell 2
          clear hbk HBA
          by_cases hai : a = i
          · have e1 : ((a : Int) == (i : Int)) = true := by rw [hai]; simp
            have hsj : S[j]? = some (i, b, d) := by rw [HSJ.out, hai]
            obtain ⟨z, hzx⟩ := pick_step HPK.out hsj
            rw [← HNJ.out] at hzx
            have hnN : n < N1 := by rw [← HNX.out]; exact (List.getElem?_eq_some_iff.1 hzx).1
            obtain ⟨bg, og, rfl, hbg, hcg⟩ := HMG.out (by omega)
            obtain ⟨_, t1, t2⟩ := hcg W2 (fun o => HB2.out.cell (p := ⟨bg, o, none⟩) hbg) n z b d hzx
            have e2 : decide (N1 ≤ n) = false := by simpa using hnN
            have e3 : (n : Int) < (N1 : Int) := by omega
            have hsp := sp2_self (b : Int) (d : Int)
            have HN2 : Hid (n + 1 = ((S.take (j + 1)).filter fun q => decide (q.1 = i)).length) := Lib.hid (by rw [hT.out, List.filter_append, List.length_append, ← HNJ.out]; simp [hai])
            clear hcg hzx hsj hai
            go_wp2_with fail
            go_quiet (fail)
            go_wp2_with fail
            go_roundw
            case rel => exact ⟨j + 1, n + 1, by omega, by go_num, by go_num, by omega, HN2, Lib.hid (below_drewN HB2.out _)⟩
            case measure => simp [intOf]; omega
          · have e1 : ((a : Int) == (i : Int)) = false := by
              have : (a : Int) ≠ (i : Int) := by omega
              simpa using this
            have HN2 : Hid (n = ((S.take (j + 1)).filter fun q => decide (q.1 = i)).length) := Lib.hid (by rw [hT.out, List.filter_append, List.length_append, ← HNJ.out]; simp [hai])
            clear hai
            go_wp2_with fail
            go_roundw
            case rel => exact ⟨j + 1, n, by omega, by go_num, rfl, by omega, HN2, HB2⟩
            case measure => simp [intOf]; omega
        · obtain rfl : j = N := by omega
          have hall : S.take j = S := by rw [← HNS.out]; exact List.take_length
          have hnn : n = N1 := by
            have h1 := HNJ.out
            have h2 := congrArg List.length HPK.out
            rw [List.length_map, List.length_map] at h2
            rw [hall] at h1
            rw [h1, h2, HNX.out]
          subst hnn
          clear hall HNJ HPK HMG
          go_wp2_with fail
          go_loop [19, 20] (fun v19 v20 => ∃ q : Nat, q ≤ l.length ∧ v19 = .int .i64 (q : Int) ∧ Hid (∀ y ∈ l.take q, (0 : UInt8) ∉ y.data.toList)) (fun v _ => l.length - (intOf v).toNat)
          case atStart => exact ⟨0, by omega, rfl, Lib.hid (fun y hy => by simp at hy)⟩
          case round =>
            obtain ⟨q, hq, rfl, HQ⟩ := hrel
            by_cases hql : q < l.length
            · obtain ⟨y, hy⟩ := getD_get hql
              have cy := HLC.out wr (HB4.out.trans (HB.out.mono HB4.out.size)) q y hy
              have hy20 := ((chkAll_zero.1 HOK.out).1.2.1 y (List.mem_of_getElem? hy)).2
              have HY := Lib.hid hy
              have hq1 : (q : Int) < (l.length : Int) := by omega
              clear hy
              go_wp2_with fail
              go_loop [20] (fun v20 => ∃ p : Nat, p ≤ y.size ∧ v20 = .int .i64 (p : Int) ∧ Hid (∀ u, u < p → y.data.toList[u]? ≠ some 0)) (fun v => y.size - (intOf v).toNat)
              case atStart => exact ⟨0, by omega, rfl, Lib.hid (fun u hu => by omega)⟩
              case round =>
                obtain ⟨p, hp, rfl, HP⟩ := hrel
                by_cases hpy : p < y.size
                · have hp1 : (p : Int) < (y.size : Int) := by omega
                  have HL := Lib.hid (letter hpy)
                  by_cases hz0 : y[p] = 0
                  · have e1 : ((y[p].toNat : Int) == 0) = true := by rw [hz0]; rfl
                    go_wp2_with fail
                    go_ret
                    exact ⟨rfl, HB4.out.trans (HB.out.mono HB4.out.size)⟩
                  · have e1 : ((y[p].toNat : Int) == 0) = false := by
                      have h1 : y[p].toNat ≠ 0 := fun h => hz0 (UInt8.toNat_inj.1 (by rw [h]; rfl))
                      have h2 : (y[p].toNat : Int) ≠ 0 := by omega
                      simpa using h1
                    have HP2 : Hid (∀ u, u < p + 1 → y.data.toList[u]? ≠ some 0) := Lib.hid (fun u hu he => by
                      rcases Nat.lt_or_ge u p with h | h
                      · exact HP.out u h he
                      · obtain rfl : u = p := by omega
                        rw [HL.out] at he
                        exact hz0 (Option.some.inj he))
                    clear hz0 HP
                    go_wp2_with fail
                    go_round
                    case rel => exact ⟨p + 1, by omega, by go_num, HP2⟩
                    case measure => simp [intOf]; omega
                · obtain rfl : p = y.size := by omega
                  have HQ2 : Hid (∀ x ∈ l.take (q + 1), (0 : UInt8) ∉ x.data.toList) := Lib.hid (fun x hx hz => by
                    rw [take_snoc HY.out] at hx
                    rcases List.mem_append.1 hx with h | h
                    · exact HQ.out x h hz
                    · obtain rfl : x = y := by simpa using h
                      obtain ⟨u, hu⟩ := List.mem_iff_getElem?.1 hz
                      have hul : u < x.size := by
                        have := (List.getElem?_eq_some_iff.1 hu).1
                        simpa using this
                      exact HP.out u hul hu)
                  go_wp2_with fail
                  go_round
                  case rel => exact ⟨q + 1, by omega, by go_num, HQ2⟩
                  case measure => simp [intOf]; omega
            · obtain rfl : q = l.length := by omega
              have hnoz : ∀ y ∈ wsOf l, (0 : UInt8) ∉ y := fun y hy hz => by
                unfold wsOf at hy
                obtain ⟨x, hx, rfl⟩ := List.mem_map.1 hy
                exact HQ.out x (by rw [List.take_length]; exact hx) hz
              have hnem : ∀ y ∈ wsOf l, y ≠ [] := fun y hy => ((words_facts (chkAll_zero.1 HOK.out).1 (ws := wsOf l) rfl).2 y hy).1
              have htwo := HTWO.out 0 hnoz hnem t
              have hsl : s.data.toList.length = s.size := by simp
              rw [hsl] at htwo
              have hst : (s ++ (⟨#[0]⟩ : ByteArray) ++ t).data.toList = s.data.toList ++ 0 :: t.data.toList := by simp [ByteArray.data_append]
              have hss : (s ++ (⟨#[0]⟩ : ByteArray) ++ t).size = s.size + 1 + t.size := by simp [ByteArray.size_append]; rfl
              have hs400 := (chkAll_zero.1 HOK.out).2
              have ha1 := fun W => run_string_add_sum (P := Try.prog) W s ⟨#[0]⟩ (by show s.size + 1 ≤ _; omega)
              have ha2 := fun W => run_string_add_sum (P := Try.prog) W (s ++ (⟨#[0]⟩ : ByteArray)) t (by rw [ByteArray.size_append]; show s.size + 1 + t.size ≤ _; omega)
              rw [← hst] at htwo
              have HRW := Lib.hid (Rd.below HR.out (HB4.out.trans (HB.out.mono HB4.out.size)))
              have HBW := Lib.hid (HB4.out.trans (HB.out.mono HB4.out.size))
              have hRx := Rd.below HR4.out HB.out
              have HRX := Lib.hid hRx
              have HST := Lib.hid hst
              have HSS := Lib.hid hss
              have HTWO2 := Lib.hid htwo
              clear hnoz hnem htwo hsl hst hss hs400 HQ hq hRx HTWO HTXT HMF
              by_cases ht0 : chkAll l t = 0
              · have HLT := Lib.hid fun W v h => HALLT.out t W v ht0 h
                by_cases hz0 : chkAll l (s ++ (⟨#[0]⟩ : ByteArray) ++ t) = 0
                · have HZT := Lib.hid fun W v h => HALLT.out (s ++ (⟨#[0]⟩ : ByteArray) ++ t) W v hz0 h
                  have hM8 := hits_few ht0
                  have htw := HTWO2.out
                  have ht400 := (chkAll_zero.1 ht0).2
                  have hs400 := (chkAll_zero.1 HOK.out).2
                  have HTX2 := Lib.hid fun (q : Nat × Nat × Nat) (hq : q ∈ hitsL (wsOf l) t.data.toList) => hit_text (a := q.1) (b := q.2.1) (d := q.2.2) hq
                  generalize hY : hitsL (wsOf l) t.data.toList = Y at *
                  generalize hZ : hitsL (wsOf l) (s ++ (⟨#[0]⟩ : ByteArray) ++ t).data.toList = Z at *
                  generalize hM : Y.length = M at *
                  generalize hK : Z.length = K at *
                  have HM := Lib.hid hM
                  have HZ := Lib.hid htw
                  clear hY hZ hM hK htw ht0 hz0 HALLT HTWO2 HST HSS
                  go_wp2_with fail
                  refine (HLT.out wr _ HRW.out).mono ?_
                  rintro e w5 ⟨B5, c5, rfl, hr5, hb5⟩
                  have HB5 := Lib.hid (HBW.out.trans (hb5.mono HBW.out.size))
                  have HRW5 := Lib.hid (Rd.below HRW.out hb5)
                  have HRX5 := Lib.hid (Rd.below HRX.out hb5)
                  have HR5 := Lib.hid hr5
                  clear hb5 hr5 HLT
                  go_wp2_with fail
                  refine (HZT.out w5 _ HRW5.out).mono ?_
                  rintro e w6 ⟨B6, c6, rfl, hr6, hb6⟩
                  have HB6 := Lib.hid (HB5.out.trans (hb6.mono HB5.out.size))
                  have hrx6 := Rd.below HRX5.out hb6
                  have hr56 := Rd.below HR5.out hb6
                  have HR6 := Lib.hid hr6
                  rw [← HM.out] at hr56
                  obtain ⟨A', cap', hv, _, _, hmf⟩ := hit_open hr56
                  rw [HM.out] at hv hmf
                  injection hv with e1 _ e2
                  subst e1
                  subst e2
                  have HMF := Lib.hid hmf
                  obtain ⟨Ax, nx, cx, hv, _, _, _, hxx⟩ := hrx6
                  injection hv with e1 e2 e3
                  subst e1
                  subst e2
                  subst e3
                  have HXX := Lib.hid hxx
                  have HNL : Hid ((S.flatMap hitCells).length = j * 3) := Lib.hid (by rw [hits_len, HNS.out])
                  have HONE : Hid (∀ u ∈ S.flatMap hitCells, u.oneCell' = true) := Lib.hid (fun u hu => by
                    obtain ⟨q, _, hq⟩ := List.mem_flatMap.1 hu
                    exact hit_one q u hq)
                  clear hr6 hb6 hr56 hmf hxx HZT HRW5 HRX5 HR5
                  go_wp2_with (at_builtin; refine wpList_append_row _ rfl (.tmp 219) (.tmp 220) _ rfl 48 j0 _ 3 24 Try.underlying42 hj0 hjz0 hjz1 hjz2 rfl (by omega) rfl _ j _ (S.flatMap hitCells) rfl HNL.out HXX.out HONE.out (by unfold maxLen; omega) (by omega) ?_)
                  intro A7 c7 w7 hown7 hb7
                  have HO7 := Lib.hid hown7
                  have HB7 := Lib.hid hb7
                  have hs7 := hb7.size
                  clear hown7 hb7 HXX HNL HONE
                  go_wp2_with fail
                  go_loopw [25, 26] (fun v25 v26 wx => ∃ r : Nat, r ≤ M ∧ v26 = .int .i64 (r : Int) ∧ Hid (wx.ownsRow w6.heap.size 48 3 v25 (j + r) ((S ++ (Y.take r).map fun h => (h.1, h.2.1 + (s.size + 1), h.2.2 + (s.size + 1))).flatMap hitCells)) ∧ Hid (Below w6.heap.size w6 wx)) (fun _ i _ => M - (intOf i).toNat)
                  case atStart => exact ⟨0, by omega, rfl, Lib.hid (by simpa using HO7.out), HB7⟩
                  case round =>
                    obtain ⟨r, hr, rfl, HOR, HBR⟩ := hrel
                    have hszr := HBR.out.size
                    by_cases hrM : r < M
                    · obtain ⟨bs, os, rfl, hbs, hcs⟩ := HMF.out (by omega)
                      have hltY : r < Y.length := by rw [HM.out]; exact hrM
                      have hi' : Y[r]? = some (Y[r]'hltY) := List.getElem?_eq_getElem hltY
                      generalize Y[r]'hltY = q at hi'
                      obtain ⟨a, b, d⟩ := q
                      obtain ⟨g0, g1, g2⟩ := hcs wr (fun o => HBR.out.cell (p := ⟨bs, o, none⟩) hbs) r a b d hi'
                      obtain ⟨_, _, hbd, hdt, _⟩ := HTX2.out _ (List.mem_of_getElem? hi')
                      dsimp only at hbd hdt
                      obtain ⟨b2, hb2⟩ : ∃ b2 : Nat, b2 = b + (s.size + 1) := ⟨_, rfl⟩
                      obtain ⟨d2, hd2⟩ : ∃ d2 : Nat, d2 = d + (s.size + 1) := ⟨_, rfl⟩
                      have hT : Hid ((S ++ (Y.take (r + 1)).map fun h => (h.1, h.2.1 + (s.size + 1), h.2.2 + (s.size + 1))).flatMap hitCells = (S ++ (Y.take r).map fun h => (h.1, h.2.1 + (s.size + 1), h.2.2 + (s.size + 1))).flatMap hitCells ++ hitCells (a, b2, d2)) := Lib.hid (by rw [take_snoc hi', hb2, hd2]; simp)
                      have u1 : IntKind.i64.wrap ((b : Int) + (s.size : Int)) = (b : Int) + (s.size : Int) := by rw [IntKind.wrap_i64]; omega
                      have u2 : IntKind.i64.wrap ((b : Int) + (s.size : Int) + 1) = (b2 : Int) := by rw [IntKind.wrap_i64]; omega
                      have u3 : IntKind.i64.wrap ((d : Int) + (s.size : Int)) = (d : Int) + (s.size : Int) := by rw [IntKind.wrap_i64]; omega
                      have u4 : IntKind.i64.wrap ((d : Int) + (s.size : Int) + 1) = (d2 : Int) := by rw [IntKind.wrap_i64]; omega
                      have hr1 : (r : Int) < (M : Int) := by omega
                      clear hcs hi' hltY
                      generalize (S ++ (Y.take r).map fun h => (h.1, h.2.1 + (s.size + 1), h.2.2 + (s.size + 1))).flatMap hitCells = xs at *
                      have hcl : Hid (hitCells (a, b2, d2) = [.int .i64 (a : Int), .int .i64 ((b : Int) + ((s.size : Int) + 1)), .int .i64 ((d : Int) + ((s.size : Int) + 1))]) := Lib.hid (by rw [hb2, hd2]; rfl)
                      clear u2 u4 hb2 hd2
                      go_wp2_with (at_builtin; refine wpList_append_lies _ rfl (.tmp 250) (.tmp 252) _ rfl w6.heap.size 48 j0 _ 3 24 Try.underlying42 hj0 hjz0 hjz1 hjz2 rfl (by omega) _ (j + r) xs rfl ((HOR.out.alloc _).alloc _) ⟨wr.heap.size + 1, 0, none⟩ 1 1 [.int .i64 (a : Int), .int .i64 ((b : Int) + ((s.size : Int) + 1)), .int .i64 ((d : Int) + ((s.size : Int) + 1))] rfl rfl (new_three _ _ _ _ _ _ (by simp)) (by intro u hu; simp at hu; rcases hu with rfl | rfl | rfl <;> rfl) (by omega) (by unfold maxLen; omega) (by omega) (by simp; omega) (wr.heap.size + 2) (by simp) ?_)
                      intro g' cap' w' hown' hg' _ _
                      have hbw := (HBR.out.alloc hszr (.cells #[.int .i64 (a : Int), .int .i64 ((b : Int) + ((s.size : Int) + 1)), .int .i64 ((d : Int) + ((s.size : Int) + 1))] 48)).alloc (by simp; omega) (.cells #[.int .i64 (a : Int), .int .i64 ((b : Int) + ((s.size : Int) + 1)), .int .i64 ((d : Int) + ((s.size : Int) + 1))] 48)
                      have HBN := Lib.hid (below_row hbw (Nat.le_refl _) (by simp; omega) ((HOR.out.alloc _).alloc _) hg')
                      have HON := Lib.hid (show w'.ownsRow w6.heap.size 48 3 (.slice (some ⟨g', 0, none⟩) (j + r + 1) cap') (j + (r + 1)) ((S ++ (Y.take (r + 1)).map fun h => (h.1, h.2.1 + (s.size + 1), h.2.2 + (s.size + 1))).flatMap hitCells) by rw [hT.out, hcl.out]; exact hown')
                      clear hown' hg' hbw
                      go_wp2_with fail
                      go_roundw
                      case rel => exact ⟨r + 1, by omega, by go_num, HON, HBN⟩
                      case measure => simp [intOf]; omega
                    · obtain rfl : r = M := by omega
                      have hall : Y.take r = Y := by rw [← HM.out]; exact List.take_length
                      have hown := HOR.out
                      rw [hall, ← HZ.out] at hown
                      have hR1 := Rd.of_own hown
                      have HR1 := Lib.hid hR1
                      have HR2 := Lib.hid (Rd.below HR6.out HBR.out)
                      have HBZ := Lib.hid (HB6.out.trans (HBR.out.mono HB6.out.size))
                      clear hall hown hR1
                      go_wp2_with fail
                      refine (Hits_any Z Z _ _ wr HR2.out HR1.out).mono ?_
                      rintro e w8 ⟨r8, rfl, hr8, hb8⟩
                      obtain rfl : r8 = true := hr8.2 rfl
                      have HB8 := Lib.hid (HBZ.out.trans (hb8.mono HBZ.out.size))
                      clear hb8 hr8
                      go_wp2_with fail
                      go_ret
                      exact ⟨rfl, HB8.out⟩
                · have HZE := Lib.hid fun W v (h : Rd1 W v (strVals l)) => All_err l v (s ++ (⟨#[0]⟩ : ByteArray) ++ t) W h hlen HLS.out hz0
                  generalize chkAll l (s ++ (⟨#[0]⟩ : ByteArray) ++ t) = n2 at *
                  clear ht0 hz0 HALLT HTWO2 HST HSS
                  go_wp2_with fail
                  refine (HLT.out wr _ HRW.out).mono ?_
                  rintro e w5 ⟨B5, c5, rfl, _, hb5⟩
                  have HB5 := Lib.hid (HBW.out.trans (hb5.mono HBW.out.size))
                  have HRW5 := Lib.hid (Rd.below HRW.out hb5)
                  clear hb5 HLT
                  go_wp2_with fail
                  refine (HZE.out w5 _ HRW5.out).mono ?_
                  rintro e w6 ⟨rfl, hb6⟩
                  have HB6 := Lib.hid (HB5.out.trans (hb6.mono HB5.out.size))
                  clear hb6
                  go_wp2_with fail
                  go_ret
                  exact ⟨rfl, HB6.out⟩
              · have hz0 : chkAll l (s ++ (⟨#[0]⟩ : ByteArray) ++ t) ≠ 0 := fun h => ht0 (by
                  have h1 := chkAll_zero.1 h
                  rw [HSS.out] at h1
                  exact chkAll_zero.2 ⟨h1.1, by omega⟩)
                have HLE := Lib.hid fun W v (h : Rd1 W v (strVals l)) => All_err l v t W h hlen HLS.out ht0
                have HZE := Lib.hid fun W v (h : Rd1 W v (strVals l)) => All_err l v (s ++ (⟨#[0]⟩ : ByteArray) ++ t) W h hlen HLS.out hz0
                generalize chkAll l (s ++ (⟨#[0]⟩ : ByteArray) ++ t) = n2 at *
                generalize chkAll l t = n1 at *
                clear ht0 hz0 HALLT HTWO2 HST HSS
                go_wp2_with fail
                refine (HLE.out wr _ HRW.out).mono ?_
                rintro e w5 ⟨rfl, hb5⟩
                have HB5 := Lib.hid (HBW.out.trans (hb5.mono HBW.out.size))
                have HRW5 := Lib.hid (Rd.below HRW.out hb5)
                clear hb5
                go_wp2_with fail
                refine (HZE.out w5 _ HRW5.out).mono ?_
                rintro e w6 ⟨rfl, hb6⟩
                have HB6 := Lib.hid (HB5.out.trans (hb6.mono HB5.out.size))
                clear hb6
                go_wp2_with fail
                go_ret
                exact ⟨rfl, HB6.out⟩
  · have HERR := Lib.hid fun W v (h : Rd1 W v (strVals l)) => All_err l v s W h hlen HLS.out h1
    generalize chkAll l s = n1 at *
    clear hr hr' hls h1 hmem
    go_enter Try.func4, Try.ntmps4
    go_wp2_with fail
    refine HF.out.mono ?_
    rintro e w1 ⟨fb, fo, fc, rfl, f0, f1, hb1⟩
    have f2 : w1.cell? ⟨fb, fo + 3 + 1, none⟩ = some (.int .i64 1) := f1
    have HB1 := Lib.hid hb1
    clear hb1 HF
    go_wp2_with fail
    refine (HERR.out w1 _ (Rd.below HR.out HB1.out)).mono ?_
    rintro e w2 ⟨rfl, hb2⟩
    have HB2 := Lib.hid (HB1.out.trans (hb2.mono HB1.out.size))
    clear hb2
    go_wp2_with fail
    go_ret
    exact ⟨rfl, HB2.out⟩
/-! ### THE ROW's STEP -/
set_option maxRecDepth 100000 in
theorem lifted (os : Os) (started : os.Started) (H : Type) (enc : TypeId × Value → H) :
    ReturnsInHanded {} Try.checked os 4 .any (Rows.wordsAloneSpec.pre6 enc Try.prog Try.f4 Rows.wordsAloneRow.domain false) (Rows.wordsAloneSpec.post enc Try.prog Try.f4 false true false false) := by
  refine returnsInHanded_of_change_sized (C := Try.checked) own started (by kernel_rfl) Try.func4
    (ChangeSpec.witness6 (enc := enc) (C := Try.checked) false ⟨#[], #[.slice none 0 0, .string ByteArray.empty, .string ByteArray.empty, .int .i64 0], []⟩ 8 (by kernel_rfl) (by kernel_rfl) (by kernel_rfl) (by kernel_rfl)) ?_
  intro W base args ds gs before hval0 hW hcnd hsz0 _
  have hval : ∀ (j : Nat) t v, Try.f4.params[j]? = some t → args[j]? = some v → Value.okWide Try.prog W .any base t v := hval0
  have hW' := hW
  obtain ⟨p, q, hA0, hV, rfl, hfz, hnd⟩ := hW
  have hA : DataW.TrodAll enc Try.prog W 0 (fun _ => true) true Try.f4.params.toList args.toList ds p := hA0
  have hsz : (DataW.weightsEach Try.prog (Try.f4.params.toList ++ Rows.wordsAloneSpec.plain.varTypes Try.prog) (ds ++ gs)).all (· ≤ reachBytes) = true := hsz0
  rw [Try.params4] at hA hval hsz
  obtain ⟨v0, vs0, d0, ds0, p0, q0, hargs, rfl, rfl, h0, r0⟩ := trodAll_cons hA
  obtain ⟨v1, vs1, d1, ds1, p1, q1, rfl, rfl, rfl, h1, r1⟩ := trodAll_cons r0
  obtain ⟨v2, vs2, d2, ds2, p2, q2, rfl, rfl, rfl, h2, r2⟩ := trodAll_cons r1
  obtain ⟨v3, vs3, d3, ds3, p3, q3, rfl, rfl, rfl, h3, r3⟩ := trodAll_cons r2
  obtain ⟨rfl, rfl, rfl⟩ := trodAll_nil r3
  obtain rfl : args = #[v0, v1, v2, v3] := by cases args; simp_all
  obtain ⟨rfl, rfl⟩ := trodVars_none hV
  obtain ⟨a0, len0, cap0, rfl⟩ := okWide_slice Try.underlying41 (hval 0 41 v0 rfl rfl)
  have k0 := h0
  have lt0 : ∀ x ∈ p0, x.block < W.heap.size := by obtain ⟨m, hm⟩ := k0; exact DataW.trod_lt m _ _ _ hm
  obtain ⟨z0, w0, ok0, dk0⟩ : ∃ l : List ByteArray, Rd1 W (.slice a0 len0 cap0) (l.map Value.string) ∧ (∀ s ∈ l, s.size ≤ maxLen) ∧ ∀ s ∈ l, ∃ elems sp, d0 = .slice elems sp ∧ DataW.lit (.string s.data.toList) ∈ elems := by obtain ⟨fuel, hf⟩ := h0; exact open_strs1 Try.underlying41 Try.underlying9 (by kernel_rfl) (by simpa [Value.cells] using hf)
  have k1 := h1
  have lt1 : ∀ x ∈ p1, x.block < W.heap.size := by obtain ⟨m, hm⟩ := k1; exact DataW.trod_lt m _ _ _ hm
  obtain ⟨s1, rfl, rfl, rfl, ws1⟩ := open_string Try.underlying9 (hval 1 9 v1 rfl rfl) h1
  have k2 := h2
  have lt2 : ∀ x ∈ p2, x.block < W.heap.size := by obtain ⟨m, hm⟩ := k2; exact DataW.trod_lt m _ _ _ hm
  obtain ⟨s2, rfl, rfl, rfl, ws2⟩ := open_string Try.underlying9 (hval 2 9 v2 rfl rfl) h2
  have k3 := h3
  have lt3 : ∀ x ∈ p3, x.block < W.heap.size := by obtain ⟨m, hm⟩ := k3; exact DataW.trod_lt m _ _ _ hm
  obtain ⟨x3, rfl, rfl, rfl, wx3⟩ := open_int Try.underlying3 (hval 3 3 v3 rfl rfl) h3
  have rs0 : ∀ s ∈ z0, s.size ≤ 140737488355328 := fun s hs => by obtain ⟨el, sp, rfl, hm⟩ := dk0 s hs; have := sized_strs hsz (j := 0) (t := 41) rfl rfl Try.underlying41 hm; have hb := reachBytes_lt; simp at this; omega
  have rs1 : s1.size ≤ 140737488355328 := by have := sized_string hsz (j := 1) (t := 9) (bytes := s1.data.toList) rfl rfl; have hb := reachBytes_lt; simp at this; omega
  have rs2 : s2.size ≤ 140737488355328 := by have := sized_string hsz (j := 2) (t := 9) (bytes := s2.data.toList) rfl rfl; have hb := reachBytes_lt; simp at this; omega
  clear hA0 hval0 hsz0 hsz
  refine (walk z0 _ s1 s2 x3 W w0 ok0 (by simpa using ws1) rs2 (by have h := wx3; simp [Lit.wf, IntKind.min, IntKind.max, IntKind.signed, IntKind.bits] at h; omega)).mono fun e W' ⟨he, bel⟩ => ?_
  subst he
  exact ⟨_, rfl, _, _, _, [], _, [], hW', trodAll_mk1 (shut_bool Try.underlying4 _), (trodAll_cons_mk (Below.trod laidOut (by kernel_rfl) (of_decide_eq_true (by kernel_rfl)) k0 bel lt0) (trodAll_cons_mk (shut_string Try.underlying9 ws1) (trodAll_cons_mk (shut_string Try.underlying9 ws2) (trodAll_cons_mk (shut_int Try.underlying3 wx3) trodAll_mk0)))), rfl, bel.frame _, fun h => by cases h⟩

theorem over : Rows.wordsAloneRow.holds Try.pinned (OpenSpec.ofChange Rows.wordsAloneSpec) :=
  OpenClaim.holds_of_wide 4 Try.f4 rfl rfl rfl rfl rfl rfl rfl ⟨rfl, rfl, rfl, rfl, rfl⟩ rfl rfl rfl rfl rfl (by kernel_rfl) Try.func4 (by kernel_rfl)
    (of_decide_eq_true (by kernel_rfl)) (by unfold Func.isWrapper; first | (rw [if_pos (by decide +kernel)]; kernel_rfl) | (rw [if_neg (by decide +kernel)]; exact ⟨rfl, rfl⟩))
    (fun os started H enc _ => lifted os started H enc)

/-- THE STATEMENT -/
theorem proved : Rows.WordsAloneSaid := over


end Go.Proofs.Ythcahjnniendnab.wordsAlone
