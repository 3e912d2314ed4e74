/-
  Walk of the statement SetAlone.
-/
import Derived.Test.YthcahjnniendnacGreatDoorSetFilterA
import Derived.BigQuiet
namespace Go.Proofs.YthcahjnniendnacGreatDoor.setW
open Go.RowKit Wf
set_option linter.unusedVariables false
theorem it_get (l : List Mb) : ∀ (k j : Nat) (h : Mb), l[k]? = some h → j < 2 → (l.flatMap itCells)[k * 2 + j]? = (itCells h)[j]? := by
  induction l with
  | nil => intro k j x h; simp at h
  | cons m r ih =>
    intro k j x h hj
    rcases k with _ | k
    · simp at h
      subst h
      simp only [List.flatMap_cons, Nat.zero_mul, Nat.zero_add]
      rw [List.getElem?_append_left (by simpa [itCells] using hj)]
    · simp only [List.flatMap_cons]
      rw [List.getElem?_append_right (by simp [itCells]; omega)]
      have e : (k + 1) * 2 + j - (itCells m).length = k * 2 + j := by simp [itCells]; omega
      rw [e]
      exact ih k j x (by simpa using h) hj
theorem it_open {w : World} {v : Value} {l : List Mb} (h : Rd w 2 v (l.flatMap itCells)) : ∃ (A : Option Addr) (cap : Nat), v = .slice A l.length cap ∧ l.length ≤ cap ∧ cap ≤ 9223372036854775807 ∧
    (0 < l.length → ∃ b off, A = some ⟨b, off, none⟩ ∧ b < w.heap.size ∧ ∀ (w' : World), (∀ o, w'.cell? ⟨b, o, none⟩ = w.cell? ⟨b, o, none⟩) → ∀ (k : Nat) (x : Mb), l[k]? = some x → w'.cell? ⟨b, off + k * 2, none⟩ = some (.int .i64 (x.id : Int)) ∧ w'.cell? ⟨b, off + k * 2 + 1, none⟩ = some (.string x.text)) := by
  obtain ⟨A, n, cap, rfl, h1, h2, h3, h4⟩ := h
  rw [it_len] at h3
  obtain rfl : n = l.length := by omega
  refine ⟨A, cap, rfl, h1, h2, fun hn => ?_⟩
  obtain ⟨b, off, rfl, hc⟩ := h4 hn
  have hget : ∀ (k : Nat) (x : Mb), l[k]? = some x → ∀ j u, j < 2 → (itCells x)[j]? = some u → w.cell? ⟨b, off + (k * 2 + j), none⟩ = some u := by
    intro k x hk j u hj hu
    exact hc _ _ (by rw [it_get l k j _ hk hj]; exact hu)
  have hlt : b < w.heap.size := by
    have hl : l[0]? = some (l[0]'hn) := List.getElem?_eq_getElem hn
    exact World.block_lt_of_cell? w _ (hget 0 _ hl 0 _ (by omega) rfl)
  refine ⟨b, off, rfl, hlt, fun w' hw k x hk => ?_⟩
  simp only [hw]
  exact ⟨hget k x hk 0 _ (by omega) rfl, hget k x hk 1 _ (by omega) rfl⟩
/-- The hits of the first so many. -/
noncomputable def hitsUp (s : List UInt8) (l : List Mb) (k : Nat) : List (Nat × Nat × Nat) := (l.take k).flatMap (hitsOf s)
theorem hitsUp_succ {s : List UInt8} {l : List Mb} {k : Nat} {q : Mb} (h : l[k]? = some q) : hitsUp s l (k + 1) = hitsUp s l k ++ hitsOf s q := by
  unfold hitsUp
  rw [take_snoc h, List.flatMap_append]
  simp
theorem hitsUp_at {s : List UInt8} {l : List Mb} {k j x y : Nat} {q : Mb} (h : l[k]? = some q) (hj : (spansO s q.t 0)[j]? = some (x, y)) : (l.flatMap (hitsOf s))[(hitsUp s l k).length + j]? = some (q.id, x, y) := by
  have hl : l = l.take k ++ q :: l.drop (k + 1) := by
    have hlt := (List.getElem?_eq_some_iff.1 h).1
    have := List.getElem?_eq_getElem hlt
    rw [h] at this
    injection this with this
    rw [this, ← List.drop_eq_getElem_cons hlt, List.take_append_drop]
  have e : l.flatMap (hitsOf s) = (l.take k).flatMap (hitsOf s) ++ (hitsOf s q ++ (l.drop (k + 1)).flatMap (hitsOf s)) := by
    conv => lhs; rw [hl]
    rw [List.flatMap_append, List.flatMap_cons]
  rw [e]
  unfold hitsUp
  rw [List.getElem?_append_right (by omega), Nat.add_sub_cancel_left]
  have hjl := (List.getElem?_eq_some_iff.1 hj).1
  rw [List.getElem?_append_left (by unfold hitsOf; rw [List.length_map]; exact hjl)]
  unfold hitsOf
  rw [List.getElem?_map, hj]
  rfl
end Go.Proofs.YthcahjnniendnacGreatDoor.setW
namespace Go.Proofs.YthcahjnniendnacGreatDoor.setAlone
open Go.RowKit Wf setW
open law (LawIs)
set_option linter.unusedVariables false

set_option maxRecDepth 100000 in
set_option maxHeartbeats 16000000 in
theorem walk {ev : Value} (l : List Stp) (v : Value) (t : ByteArray) (w : World) (hr : setW.RdT w v l) (hok : ∀ x ∈ l, okStp x) (ht : t.size ≤ maxLen) (hev : SynE ev w) :
    Calls Tryz.prog 5 #[v, .string t] w (LawIs w) := by
  unfold maxLen at ht
  have HR := Lib.hid hr
  have HOK := Lib.hid hok
  have HEV := Lib.hid hev
  have HNEW := Lib.hid fun W => New_set W
  obtain ⟨A0, cap0, rfl, _, _, _⟩ := stp_open hr
  clear hr hok hev
  unfold NewSet at HNEW
  unfold LawIs
  go_enter Tryz.func5, Tryz.ntmps5
  go_wp2_with fail
  refine (HNEW.out w).mono ?_
  rintro e w1 ⟨rfl, h1, hb1⟩
  have HADD : Hid (Calls Tryz.prog 17 #[.pointer (some ⟨w.heap.size, 0, none⟩), .string ⟨#[97, 43]⟩] w1 (fun e w' => e = .returned (.tuple #[.int .i64 1, .int .i64 0, .nilIface]) ∧ ∃ ml A, SetAt w.heap.size w.heap.size (oneM bAp tAp false 0) ml A w' ∧ SK w.heap.size w.heap.size w1 w')) := Lib.hid (by
    have := Add_set w.heap.size w.heap.size SS.zero [] (.slice none 0 0) bAp w1 h1 (HEV.out.below hb1) (by decide)
    unfold SetTo addV at this
    rw [(zero_add parse_ap).2, (zero_add parse_ap).1] at this
    exact this)
  have HB1 := Lib.hid hb1
  clear h1 hb1
  go_wp2_with fail
  refine HADD.out.mono ?_
  rintro e w2 ⟨rfl, ml2, A2, h2, k2⟩
  have HSC : Hid (Calls Tryz.prog 18 #[.pointer (some ⟨w.heap.size, 0, none⟩), .string ⟨#[98, 97, 97]⟩] w2 (fun e w' => ∃ b off cap, e = .returned (.tuple #[.slice (some ⟨b, off, none⟩) 1 cap, .nilIface]) ∧ 1 ≤ cap ∧ cap ≤ 9223372036854775807 ∧ w'.cell? ⟨b, off, none⟩ = some (.int .i64 1) ∧ w'.cell? ⟨b, off + 1, none⟩ = some (.int .i64 1) ∧ w'.cell? ⟨b, off + 2, none⟩ = some (.int .i64 3) ∧ SK w.heap.size w.heap.size w2 w')) := Lib.hid (by
    refine (Scan_ok w.heap.size w.heap.size _ ml2 A2 ⟨#[98, 97, 97]⟩ w2 h2 (by decide)).mono ?_
    rintro e w' ⟨v, ml, A, rfl, ho, hs, hk⟩
    rw [show (⟨#[98, 97, 97]⟩ : ByteArray).data.toList = [98, 97, 97] from rfl, ap_hits] at ho
    obtain ⟨Av, cv, rfl, q1, q2, q3⟩ := hit_open (l := [(1, 1, 3)]) (Rd.of_own ho)
    obtain ⟨b, off, rfl, _, q4⟩ := q3 (by decide)
    obtain ⟨p1, p2, p3⟩ := q4 w' (fun _ => rfl) 0 1 1 3 rfl
    simp only [Nat.zero_mul, Nat.add_zero] at p1 p2 p3
    exact ⟨b, off, cv, rfl, q1, q2, p1, p2, p3, hk⟩)
  have HB2 := Lib.hid (HB1.out.trans k2.bel)
  clear h2 k2 HADD HB1
  go_wp2_with fail
  refine HSC.out.mono ?_
  rintro e w3 ⟨b3, o3, c3, rfl, q1, q2, p1, p2, p3, k3⟩
  have HB3 := Lib.hid (HB2.out.trans k3.bel)
  clear k3 HSC HB2
  go_wp2_with fail
  refine (HNEW.out w3).mono ?_
  rintro e w7 ⟨rfl, h7, hb7⟩
  have HB7 := Lib.hid (HB3.out.trans (hb7.mono HB3.out.size))
  have HPL := Lib.hid (play_c w3.heap.size w3.heap.size SS.zero [] (.slice none 0 0) l _ w w7 h7 HEV.out HR.out HOK.out (by decide) HB7.out HB3.out.size)
  unfold PlayTo at HPL
  have HQ6 := Lib.hid HB3.out.size
  have hl30 : (SS.zero.play (l.take 30)).last ≤ 30 := by
    have h1 := (SS.last_play (l.take 30) SS.zero).2
    rw [List.length_take] at h1
    have : SS.zero.last = 0 := rfl
    omega
  clear h7 hb7 HB3 p1 p2 p3 q1 q2
  generalize w3.heap.size = B at *
  go_wp2_with fail
  refine HPL.out.mono ?_
  rintro e w8 ⟨rfl, ml8, A8, h8, k8⟩
  generalize SS.zero.play (l.take 30) = M at h8 hl30
  have HB8 := Lib.hid (HB7.out.trans (k8.bel.mono HQ6.out))
  clear k8 HPL HB7
  by_cases hs4 : t.size ≤ 400
  · have HSC := Lib.hid (Scan_ok B B M ml8 A8 t w8 h8 hs4)
    unfold ScanIs at HSC
    have HS4 := Lib.hid hs4
    clear h8 hs4
    go_wp2_with fail
    refine HSC.out.mono ?_
    rintro e w9 ⟨vx, ml9, A9, rfl, ho9, h9, k9⟩
    obtain ⟨HL, hHL⟩ : ∃ HL, HL = M.hits t.data.toList := ⟨_, rfl⟩
    rw [← hHL] at ho9
    obtain ⟨Ax, cx, rfl⟩ := hits_form ho9
    have hms : (M.scan t.data.toList).ms = M.ms := scan_ms _ _
    have hla : (M.scan t.data.toList).last = M.last := M.last_scan _
    have HLI := Lib.hid (List_set B B _ ml9 A9 w9 h9)
    unfold ItemsAre at HLI
    rw [hms] at HLI
    obtain ⟨M', hM'⟩ : ∃ M', M' = M.scan t.data.toList := ⟨_, rfl⟩
    rw [← hM'] at h9 hms hla
    have HHL := Lib.hid hHL
    have HX9 := Lib.hid (Rd.of_own ho9)
    have HS9 := Lib.hid h9
    have HB9 := Lib.hid (HB8.out.trans (k9.bel.mono HQ6.out))
    have HMS := Lib.hid hms
    have HLA := Lib.hid hla
    clear ho9 h9 k9 hHL HSC HB8 hms hla hM'
    go_wp2_with fail
    refine HLI.out.mono ?_
    rintro e w10 ⟨vi, rfl, hoi, hb10⟩
    obtain ⟨Ai, ci, rfl⟩ := items_form hoi
    have HX10 := Lib.hid (Rd.below HX9.out hb10)
    have HI10 := Lib.hid (Rd.of_own hoi)
    have HS10 := Lib.hid (HS9.out.below hb10)
    have HB10 := Lib.hid (HB9.out.trans (hb10.mono HB9.out.size))
    have HEV10 := Lib.hid (HEV.out.below HB10.out)
    obtain ⟨L, hL⟩ : ∃ L, L = M.ms := ⟨_, rfl⟩
    have HLM := Lib.hid hL
    rw [← hL] at HI10
    rw [← hL]
    have h12 : L.length ≤ 12 := by rw [hL, ← HMS.out]; exact HS10.out.ok.len
    have HHL2 : Hid (HL = L.flatMap (hitsOf t.data.toList)) := Lib.hid (by rw [HHL.out, hL]; rfl)
    have HHB : Hid (HL.length ≤ 5000) := Lib.hid (by
      rw [HHL2.out]
      have : ∀ l : List Mb, (l.flatMap (hitsOf t.data.toList)).length ≤ 401 * l.length := by
        intro l
        induction l with
        | nil => simp
        | cons a r ih =>
          have h1 := spans_few t a.t HS4.out
          rw [List.flatMap_cons, List.length_append, List.length_cons]
          have h2 : (hitsOf t.data.toList a).length = (spansO t.data.toList a.t 0).length := by unfold hitsOf; rw [List.length_map]
          omega
      have h2 := this L
      omega)
    clear hoi hb10 HLI HX9 HS9 HB9 hL
    go_wp2_with fail
    go_loopw [15, 16] (fun v15 v16 wr => ∃ (i K : Nat), i ≤ L.length ∧ v16 = .int .i64 (i : Int) ∧ v15 = .int .i64 (K : Int) ∧ Hid (K = (hitsUp t.data.toList L i).length) ∧ Hid (Below w10.heap.size w10 wr)) (fun _ v _ => L.length - (intOf v).toNat)
    case atStart => exact ⟨0, 0, by omega, rfl, rfl, Lib.hid (by simp [hitsUp]), Lib.hid (Below.refl _ _)⟩
    case round =>
      obtain ⟨i, K, hi, rfl, rfl, HK, HB⟩ := hrel
      by_cases hil : i < L.length
      · obtain ⟨Aj, cj, hvj, _, _, hmj⟩ := it_open HI10.out
        injection hvj with hvj _ hvjc
        subst hvj
        subst hvjc
        obtain ⟨bi, oi, rfl, hbi, hci⟩ := hmj (by omega)
        have hget : L[i]? = some (L[i]'hil) := List.getElem?_eq_getElem hil
        generalize L[i]'hil = q at hget
        have hcw := hci wr (fun o => HB.out.cell (p := ⟨bi, o, none⟩) hbi)
        obtain ⟨m0, m1⟩ := hcw i q hget
        have hqm : q ∈ M'.ms := by rw [HMS.out, ← HLM.out]; exact List.mem_of_getElem? hget
        have hpos := (HS10.out.ok.pos q hqm).1
        have hrd := HS10.out.ok.read q hqm
        obtain ⟨_, _, h60, hokt, hpe⟩ := parseE_some hrd
        have HPAW := Lib.hid fun W (hb : Below w10.heap.size w10 W) => Parse_e q.text W (HEV10.out.below hb)
        unfold ReadsTo at HPAW
        have HCI := Lib.hid fun W (hb : Below w10.heap.size w10 W) => hci W (fun o => hb.cell (p := ⟨bi, o, none⟩) hbi) i q hget
        have HPE := Lib.hid hpe
        have HALL := Lib.hid fun v W (h : RdN W v (flat q.t)) => all_ok (flat q.t) q.t rfl h60 hokt t HS4.out v W h
        unfold AllIs at HALL
        have HUS := Lib.hid (hitsUp_succ (s := t.data.toList) hget)
        have HUA := Lib.hid fun (j x y : Nat) (h : (spansO t.data.toList q.t 0)[j]? = some (x, y)) => hitsUp_at (s := t.data.toList) hget h
        have hSPl := spans_few t q.t HS4.out
        have HUP := Lib.hid fun (i' : Nat) (p : Mb) (h1 : i = i' + 1) (h2 : L[i']? = some p) => (by
          have hp := List.pairwise_iff_getElem.1 (show L.Pairwise fun x y => x.id < y.id by rw [HLM.out, ← HMS.out]; exact HS10.out.ok.up) i' i (by omega) hil (by omega)
          have e1 := (List.getElem?_eq_some_iff.1 h2)
          have e2 := (List.getElem?_eq_some_iff.1 hget)
          obtain ⟨e1a, e1b⟩ := e1
          obtain ⟨e2a, e2b⟩ := e2
          rw [e1b, e2b] at hp
          exact hp : p.id < q.id)
        have HCW := Lib.hid hcw
        have HGI := Lib.hid hget
        have HKL : Hid (∀ j x y, (spansO t.data.toList q.t 0)[j]? = some (x, y) → HL[K + j]? = some (q.id, x, y)) := Lib.hid fun j x y h => by rw [HHL2.out, HK.out]; exact HUA.out j x y h
        have HKS : Hid (K + (spansO t.data.toList q.t 0).length = (hitsUp t.data.toList L (i + 1)).length) := Lib.hid (by rw [HUS.out, List.length_append, HK.out]; unfold hitsOf; rw [List.length_map])
        obtain ⟨id, tx, tr⟩ := q
        dsimp only at m0 m1 hpos HPAW HCI HPE HALL hSPl HUP HKL HKS h60
        have d1 : decide ((id : Int) < 1) = false := by simp; omega
        generalize hF : flat tr = F at *
        generalize spansO t.data.toList tr 0 = SP at *
        clear hget hci hcw hqm hrd hokt hpe HUS HUA hmj
        by_cases hi0 : i = 0
        · have d0 : decide ((0 : Int) < (i : Int)) = false := by simp; omega
          have d0' : decide (0 < i) = false := by simp; omega
          have i0 : (0 : Int) ≤ (i : Int) := by omega
          have i1 : (i : Int) < (L.length : Int) := by omega
          clear hi0
          go_wp2_with fail
          go_quiet (fail)
          have HB2 := Lib.hid (below_drewN HB.out nq)
          have HPA := Lib.hid (HPAW.out _ HB2.out)
          have m1 := (HCI.out _ HB2.out).2
          generalize wr.drewN nq = W1 at *
          clear HPAW
          go_wp2_with fail
          refine HPA.out.mono ?_
          rintro e w12 ⟨hb12, hw12⟩
          obtain ⟨t', g, cp, hq, rfl, ho⟩ := hw12.resolve_right (by rintro ⟨c, k, hq, _, _⟩; rw [HPE.out] at hq; cases hq)
          have htt : t' = tr := by rw [HPE.out] at hq; cases hq; rfl
          rw [htt] at ho ⊢
          rw [hF] at ho ⊢
          have HB3 := Lib.hid (HB2.out.trans (hb12.mono HB2.out.size))
          have HAC := Lib.hid (HALL.out _ w12 (Rd.of_own ho))
          obtain ⟨N, hN⟩ : ∃ N, N = F.length := ⟨_, rfl⟩
          rw [← hN] at HAC ⊢
          clear hN hq ho hb12 HPA HALL hw12
          go_wp2_with fail
          refine HAC.out.mono ?_
          rintro e w13 ⟨A2, cp2, rfl, ho2, hb13⟩
          have HB4 := Lib.hid (HB3.out.trans (hb13.mono HB3.out.size))
          have HSR := Lib.hid (Rd.of_own ho2)
          have HXR := Lib.hid (Rd.below HX10.out HB4.out)
          clear ho2 hb13 HAC HB3 HB2 m1
          go_wp2_with fail
          go_loopw [15, 21] (fun v15 v21 wx => ∃ j : Nat, j ≤ SP.length ∧ v21 = .int .i64 (j : Int) ∧ v15 = .int .i64 ((K : Int) + (j : Int)) ∧ Hid (Below w13.heap.size w13 wx)) (fun _ v _ => SP.length - (intOf v).toNat)
          case atStart => exact ⟨0, by omega, rfl, by simp, Lib.hid (Below.refl _ _)⟩
          case round =>
            obtain ⟨j, hj, rfl, rfl, HBX⟩ := hrel
            by_cases hjl : j < SP.length
            · obtain ⟨A3, c3', hv3, _, _, hsm⟩ := span_open HSR.out
              injection hv3 with hv3 _ hv3c
              subst hv3
              subst hv3c
              obtain ⟨bs, os, rfl, hbs, hcs⟩ := hsm (by omega)
              have hgj : SP[j]? = some (SP[j]'hjl) := List.getElem?_eq_getElem hjl
              generalize SP[j]'hjl = p at hgj
              obtain ⟨x, y⟩ := p
              obtain ⟨x0, x1⟩ := hcs wr (fun o => HBX.out.cell (p := ⟨bs, o, none⟩) hbs) j x y hgj
              have hgh := HKL.out j x y hgj
              have hhl := (List.getElem?_eq_some_iff.1 hgh).1
              obtain ⟨Ah, ch, hvh, _, _, hhm⟩ := hit_open HXR.out
              injection hvh with hvh _ hvhc
              subst hvh
              subst hvhc
              obtain ⟨bh, oh, rfl, hbh, hch⟩ := hhm (by omega)
              obtain ⟨z0, z1, z2⟩ := hch wr (fun o => HBX.out.cell (p := ⟨bh, o, none⟩) hbh) (K + j) id x y hgh
              obtain ⟨y0, y1⟩ := HCI.out wr (HB4.out.trans (HBX.out.mono HB4.out.size))
              have g1 : decide ((HL.length : Int) ≤ (K : Int) + (j : Int)) = false := decide_eq_false (by omega)
              have g2 : decide (HL.length ≤ K + j) = false := decide_eq_false (by omega)
              have g3 : (0 : Int) ≤ (K : Int) + (j : Int) := by omega
              have g4 : (K : Int) + (j : Int) < (HL.length : Int) := by omega
              have g5 : ((K : Int) + (j : Int)).toNat = K + j := by omega
              have g6 : (0 : Int) ≤ (j : Int) := by omega
              have g7 : (j : Int) < (SP.length : Int) := by omega
              have g8 : sp2 (x : Int) (y : Int) (x : Int) (y : Int) = true := by simp [sp2]
              have g9 : K + j ≤ 5000 := by have := HHB.out; omega
              clear hgj hgh hhl hhm hch hcs hsm
              go_wp2_with fail
              go_quiet (fail)
              trace "INNER"
              go_wp2_with fail
              go_roundw
              case rel => exact ⟨j + 1, by omega, by go_num, by go_num, Lib.hid (below_drewN HBX.out nq)⟩
              case measure => simp [intOf]; omega
            · obtain rfl : j = SP.length := by omega
              have HBF := Lib.hid (HB4.out.trans (HBX.out.mono HB4.out.size))
              go_wp2_with fail
              go_roundw
              case rel => exact ⟨_, K + SP.length, by omega, by go_num, by go_num, HKS, HBF⟩
              case measure => simp [intOf]; omega
        · obtain ⟨i', rfl⟩ : ∃ i', i = i' + 1 := ⟨i - 1, by omega⟩
          have hgp : L[i']? = some (L[i']'(by omega)) := List.getElem?_eq_getElem (by omega)
          generalize L[i']'(by omega) = p at hgp
          obtain ⟨n0, n1⟩ := HCW.out i' p hgp
          have hlt := HUP.out i' p rfl hgp
          obtain ⟨pid, ptx, ptr⟩ := p
          dsimp only at n0 n1 hlt
          have d2 : decide (id ≤ pid) = false := by simp; omega
          have i0 : (0 : Int) ≤ (i' : Int) := by omega
          have i1 : (i' : Int) < (L.length : Int) := by omega
          have i2 : (i' : Int) + 1 < (L.length : Int) := by omega
          clear hi0 hgp hlt
          go_wp2_with fail
          go_quiet (fail)
          have HB2 := Lib.hid (below_drewN HB.out nq)
          have HPA := Lib.hid (HPAW.out _ HB2.out)
          have m1 := (HCI.out _ HB2.out).2
          generalize wr.drewN nq = W1 at *
          clear HPAW
          go_wp2_with fail
          refine HPA.out.mono ?_
          rintro e w12 ⟨hb12, hw12⟩
          obtain ⟨t', g, cp, hq, rfl, ho⟩ := hw12.resolve_right (by rintro ⟨c, k, hq, _, _⟩; rw [HPE.out] at hq; cases hq)
          have htt : t' = tr := by rw [HPE.out] at hq; cases hq; rfl
          rw [htt] at ho ⊢
          rw [hF] at ho ⊢
          have HB3 := Lib.hid (HB2.out.trans (hb12.mono HB2.out.size))
          have HAC := Lib.hid (HALL.out _ w12 (Rd.of_own ho))
          obtain ⟨N, hN⟩ : ∃ N, N = F.length := ⟨_, rfl⟩
          rw [← hN] at HAC ⊢
          clear hN hq ho hb12 HPA HALL hw12
          go_wp2_with fail
          refine HAC.out.mono ?_
          rintro e w13 ⟨A2, cp2, rfl, ho2, hb13⟩
          have HB4 := Lib.hid (HB3.out.trans (hb13.mono HB3.out.size))
          have HSR := Lib.hid (Rd.of_own ho2)
          have HXR := Lib.hid (Rd.below HX10.out HB4.out)
          clear ho2 hb13 HAC HB3 HB2 m1
          go_wp2_with fail
          go_loopw [15, 21] (fun v15 v21 wx => ∃ j : Nat, j ≤ SP.length ∧ v21 = .int .i64 (j : Int) ∧ v15 = .int .i64 ((K : Int) + (j : Int)) ∧ Hid (Below w13.heap.size w13 wx)) (fun _ v _ => SP.length - (intOf v).toNat)
          case atStart => exact ⟨0, by omega, rfl, by simp, Lib.hid (Below.refl _ _)⟩
          case round =>
            obtain ⟨j, hj, rfl, rfl, HBX⟩ := hrel
            by_cases hjl : j < SP.length
            · obtain ⟨A3, c3', hv3, _, _, hsm⟩ := span_open HSR.out
              injection hv3 with hv3 _ hv3c
              subst hv3
              subst hv3c
              obtain ⟨bs, os, rfl, hbs, hcs⟩ := hsm (by omega)
              have hgj : SP[j]? = some (SP[j]'hjl) := List.getElem?_eq_getElem hjl
              generalize SP[j]'hjl = p at hgj
              obtain ⟨x, y⟩ := p
              obtain ⟨x0, x1⟩ := hcs wr (fun o => HBX.out.cell (p := ⟨bs, o, none⟩) hbs) j x y hgj
              have hgh := HKL.out j x y hgj
              have hhl := (List.getElem?_eq_some_iff.1 hgh).1
              obtain ⟨Ah, ch, hvh, _, _, hhm⟩ := hit_open HXR.out
              injection hvh with hvh _ hvhc
              subst hvh
              subst hvhc
              obtain ⟨bh, oh, rfl, hbh, hch⟩ := hhm (by omega)
              obtain ⟨z0, z1, z2⟩ := hch wr (fun o => HBX.out.cell (p := ⟨bh, o, none⟩) hbh) (K + j) id x y hgh
              obtain ⟨y0, y1⟩ := HCI.out wr (HB4.out.trans (HBX.out.mono HB4.out.size))
              have g1 : decide ((HL.length : Int) ≤ (K : Int) + (j : Int)) = false := decide_eq_false (by omega)
              have g2 : decide (HL.length ≤ K + j) = false := decide_eq_false (by omega)
              have g3 : (0 : Int) ≤ (K : Int) + (j : Int) := by omega
              have g4 : (K : Int) + (j : Int) < (HL.length : Int) := by omega
              have g5 : ((K : Int) + (j : Int)).toNat = K + j := by omega
              have g6 : (0 : Int) ≤ (j : Int) := by omega
              have g7 : (j : Int) < (SP.length : Int) := by omega
              have g8 : sp2 (x : Int) (y : Int) (x : Int) (y : Int) = true := by simp [sp2]
              have g9 : K + j ≤ 5000 := by have := HHB.out; omega
              clear hgj hgh hhl hhm hch hcs hsm
              go_wp2_with fail
              go_quiet (fail)
              trace "INNER"
              go_wp2_with fail
              go_roundw
              case rel => exact ⟨j + 1, by omega, by go_num, by go_num, Lib.hid (below_drewN HBX.out nq)⟩
              case measure => simp [intOf]; omega
            · obtain rfl : j = SP.length := by omega
              have HBF := Lib.hid (HB4.out.trans (HBX.out.mono HB4.out.size))
              go_wp2_with fail
              go_roundw
              case rel => exact ⟨_, K + SP.length, by omega, by go_num, by go_num, HKS, HBF⟩
              case measure => simp [intOf]; omega
      · obtain rfl : i = L.length := by omega
        have HKE : Hid (K = HL.length) := Lib.hid (by rw [HK.out, HHL2.out]; unfold hitsUp; rw [List.take_length])
        have HHE := Lib.hid (HEV10.out.below HB.out)
        have hml : M'.last < 1000000 := by rw [HLA.out]; omega
        have HAD := Lib.hid (Add_set B B M' ml9 A9 bA wr (HS10.out.below HB.out) HHE.out hml)
        unfold SetTo at HAD
        have hb : (bA : ByteArray) = ⟨#[97]⟩ := rfl
        rw [hb] at HAD
        have HBE := Lib.hid (HB10.out.trans (HB.out.mono HB10.out.size))
        have hk := HKE.out
        have dk : ((K : Int) == (HL.length : Int)) = true := by rw [hk]; simp
        have HPO := Lib.hid HS10.out.ok.pos
        by_cases hfull : L.length < 12
        · have hadd : M'.added ⟨#[97]⟩ = (M'.last + 1, 0, 0) := by
            unfold SS.added
            have := parse_a
            unfold bA at this
            rw [this, if_neg (by simp), if_pos (by rw [HMS.out, ← HLM.out]; exact hfull)]
          rw [hadd] at HAD
          unfold addV at HAD
          rw [errV_zero] at HAD
          obtain ⟨la, hlaE⟩ : ∃ la, la = M'.last + 1 := ⟨_, rfl⟩
          have HLAE := Lib.hid hlaE
          dsimp only at HAD
          rw [← hlaE] at HAD
          by_cases h0 : L.length = 0
          · have dl : decide ((0 : Int) < (L.length : Int)) = false := decide_eq_false (by omega)
            have dl' : decide (0 < L.length) = false := decide_eq_false (by omega)
            have dn : decide ((0 : Int) < (la : Int)) = true := decide_eq_true (by omega)
            have dn' : decide (0 < la) = true := decide_eq_true (by omega)
            clear hlaE hadd hfull hb hk h0
            go_wp2_with fail
            refine HAD.out.mono ?_
            rintro e w20 ⟨rfl, ml20, A20, h20, k20⟩
            have HF := Lib.hid (HBE.out.trans (k20.bel.mono HQ6.out))
            clear h20 k20
            go_wp2_with fail
            go_ret
            exact ⟨rfl, HF.out⟩
          · obtain ⟨n, hn⟩ : ∃ n, L.length = n + 1 := ⟨L.length - 1, by omega⟩
            obtain ⟨Aj, cj, hvj, _, _, hmj⟩ := it_open HI10.out
            injection hvj with hvj _ hvjc
            subst hvj
            subst hvjc
            obtain ⟨bi, oi, rfl, hbi, hci⟩ := hmj (by omega)
            have hget : L[n]? = some (L[n]'(by omega)) := List.getElem?_eq_getElem (by omega)
            generalize L[n]'(by omega) = q at hget
            obtain ⟨m0, m1⟩ := hci wr (fun o => HB.out.cell (p := ⟨bi, o, none⟩) hbi) n q hget
            have hq := HPO.out q (by rw [HMS.out, ← HLM.out]; exact List.mem_of_getElem? hget)
            have dn : decide (q.id < la) = true := by simp; omega
            have hlz : la ≤ 1000000 := by omega
            obtain ⟨id, tx, tr⟩ := q
            dsimp only at m0 m1 dn
            have j0 : (0 : Int) ≤ (n : Int) := by omega
            have j1 : (n : Int) < (n : Int) + 1 := by omega
            have j2 : decide ((0 : Int) < (L.length : Int)) = true := by simp; omega
            have hnL : (L.length : Int) = (n : Int) + 1 := by omega
            clear hlaE hadd hfull hb hk h0 hget hq hci hmj
            go_wp2_with fail
            refine HAD.out.mono ?_
            rintro e w20 ⟨rfl, ml20, A20, h20, k20⟩
            have HF := Lib.hid (HBE.out.trans (k20.bel.mono HQ6.out))
            clear h20 k20
            go_wp2_with fail
            go_ret
            exact ⟨rfl, HF.out⟩
        · have hadd : M'.added ⟨#[97]⟩ = (0, 0, 3) := by
            unfold SS.added
            have := parse_a
            unfold bA at this
            rw [this, if_neg (by simp), if_neg (by rw [HMS.out, ← HLM.out]; exact hfull)]
          rw [hadd] at HAD
          unfold addV at HAD
          rw [errV_ne (by decide)] at HAD
          dsimp only at HAD
          obtain ⟨n, hn⟩ : ∃ n, L.length = n + 1 := ⟨L.length - 1, by omega⟩
          obtain ⟨Aj, cj, hvj, _, _, hmj⟩ := it_open HI10.out
          injection hvj with hvj _ hvjc
          subst hvj
          subst hvjc
          obtain ⟨bi, oi, rfl, hbi, hci⟩ := hmj (by omega)
          have hget : L[n]? = some (L[n]'(by omega)) := List.getElem?_eq_getElem (by omega)
          generalize L[n]'(by omega) = q at hget
          obtain ⟨m0, m1⟩ := hci wr (fun o => HB.out.cell (p := ⟨bi, o, none⟩) hbi) n q hget
          obtain ⟨id, tx, tr⟩ := q
          dsimp only at m0 m1
          have j0 : (0 : Int) ≤ (n : Int) := by omega
          have j1 : (n : Int) < (n : Int) + 1 := by omega
          have j2 : decide ((0 : Int) < (L.length : Int)) = true := decide_eq_true (by omega)
          have hnL : (L.length : Int) = (n : Int) + 1 := by omega
          clear hadd hfull hb hk hget hci hmj
          go_wp2_with fail
          refine HAD.out.mono ?_
          rintro e w20 ⟨rfl, ml20, A20, h20, k20⟩
          have HF := Lib.hid (HBE.out.trans (k20.bel.mono HQ6.out))
          clear h20 k20
          go_wp2_with fail
          go_ret
          exact ⟨rfl, HF.out⟩
  · have HSC0 := Lib.hid (Scan_long B B M ml8 A8 t w8 h8 (by omega))
    rw [errV_ne (by decide)] at HSC0
    have hd : decide ((400 : Int) < (t.size : Int)) = true := by simp; omega
    clear h8 hs4
    go_wp2_with fail
    refine HSC0.out.mono ?_
    rintro e w10 ⟨rfl, rfl⟩
    go_wp2_with fail
    go_ret
    exact ⟨rfl, HB8.out⟩
end Go.Proofs.YthcahjnniendnacGreatDoor.setAlone
