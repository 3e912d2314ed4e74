/-
  The walks of the document's WholeOf and NeededOf.
-/
import Derived.Test.YthcahjnniendnabDoorRefC
import Derived.Test.YthcahjnniendnabDoorLit
namespace Go.Proofs.YthcahjnniendnabDoor
open Go.RowKit Wf

def RWholeIs (n : List UInt8 × Bool) (w : World) (e : Ending) (w' : World) : Prop :=
  ∃ s : ByteArray, e = .returned (.tuple #[.string s, .bool n.2]) ∧ (n.2 = true → s.data.toList = n.1) ∧ (n.2 = false → s = ⟨#[]⟩) ∧ s.size ≤ 60 ∧ Below w.heap.size w w'
def RNeedIs (n : List UInt8 × Bool) (w : World) (e : Ending) (w' : World) : Prop :=
  ∃ s : ByteArray, e = .returned (.string s) ∧ s.data.toList = n.1 ∧ s.size ≤ 60 ∧ Below w.heap.size w w'
theorem bs_size {s : ByteArray} {l : List UInt8} (h : s.data.toList = l) : s.size = l.length := by rw [← h, Array.length_toList]; rfl
theorem cntR_cntC (c : Cls) : cntR c 256 = cntC c := (cnt_has c).symm

set_option maxRecDepth 100000 in
set_option maxHeartbeats 8000000 in
theorem RWhole_all (l : List Nd) (hg : ∀ n ∈ l, good n) (hok : ∀ n ∈ l, okC n.cls) (hlen : l.length ≤ 60) (b off cap : Nat) : ∀ (u : Rx) (i : Nat) (w : World), At l i u → RdN w (.slice (some ⟨b, off, none⟩) l.length cap) l →
    Calls Tryd.prog 11 #[.slice (some ⟨b, off, none⟩) l.length cap, .int .i64 (i : Int)] w (RWholeIs (litL u) w) := by
  have HM : Hid (∀ (w : World), RdN w (.slice (some ⟨b, off, none⟩) l.length cap) l → ∀ k n, l[k]? = some n →
      w.cell? ⟨b, off + k * 5, none⟩ = some (.int .i64 n.op) ∧ w.cell? ⟨b, off + k * 5 + 1, none⟩ = some (.int .u64 (n.cls.1 : Int)) ∧ w.cell? ⟨b, off + k * 5 + 2, none⟩ = some (.int .u64 (n.cls.2.1 : Int)) ∧
      w.cell? ⟨b, off + k * 5 + 3, none⟩ = some (.int .u64 (n.cls.2.2.1 : Int)) ∧ w.cell? ⟨b, off + k * 5 + 4, none⟩ = some (.int .u64 (n.cls.2.2.2 : Int))) := Lib.hid (fun w hr k n hk => by
    obtain ⟨A', cap', hv, hcap, hcap2, hmem⟩ := hr.open_
    injection hv with e1 _ e2
    obtain ⟨b', off', hA, _, hc⟩ := hmem (by have := (List.getElem?_eq_some_iff.1 hk).1; omega)
    rw [hA] at e1
    cases e1
    exact hc w (fun _ => rfl) k n hk)
  have HEND := Lib.hid (fun (i : Nat) (hi : i ≤ l.length) (w : World) (hr : RdN w (.slice (some ⟨b, off, none⟩) l.length cap) l) => REnd_all l hg hlen (some ⟨b, off, none⟩) cap l.length i w (by omega) hi hr)
  have HOK := Lib.hid hok
  clear hg hok
  intro u
  induction u with
  | bgn =>
    intro i w hat hr
    obtain ⟨q0, q1, q2, q3, q4⟩ := HM.out w hr i _ hat.bgn
    have hlt := hat.lt
    have hpos := flat_pos (.bgn)
    have hi1 : (i : Int) < (l.length : Int) := by omega
    dsimp only [zc] at q0 q1 q2 q3 q4
    clear hat hr
    go_enter Tryd.func11, Tryd.ntmps11
    go_wp2
    go_ret2
    exact ⟨⟨#[]⟩, rfl, (fun h => by cases h), fun _ => rfl, by simp [ByteArray.size], Below.refl _ _⟩
  | fin =>
    intro i w hat hr
    obtain ⟨q0, q1, q2, q3, q4⟩ := HM.out w hr i _ hat.fin
    have hlt := hat.lt
    have hpos := flat_pos (.fin)
    have hi1 : (i : Int) < (l.length : Int) := by omega
    dsimp only [zc] at q0 q1 q2 q3 q4
    clear hat hr
    go_enter Tryd.func11, Tryd.ntmps11
    go_wp2
    go_ret2
    exact ⟨⟨#[]⟩, rfl, (fun h => by cases h), fun _ => rfl, by simp [ByteArray.size], Below.refl _ _⟩
  | star a iha =>
    intro i w hat hr
    obtain ⟨q0, q1, q2, q3, q4⟩ := HM.out w hr i _ hat.star.1
    have hlt := hat.lt
    have hpos := flat_pos (.star a)
    have hi1 : (i : Int) < (l.length : Int) := by omega
    dsimp only [zc] at q0 q1 q2 q3 q4
    clear hat hr iha
    go_enter Tryd.func11, Tryd.ntmps11
    go_wp2
    go_ret2
    exact ⟨⟨#[]⟩, rfl, (fun h => by cases h), fun _ => rfl, by simp [ByteArray.size], Below.refl _ _⟩
  | opt a iha =>
    intro i w hat hr
    obtain ⟨q0, q1, q2, q3, q4⟩ := HM.out w hr i _ hat.opt.1
    have hlt := hat.lt
    have hpos := flat_pos (.opt a)
    have hi1 : (i : Int) < (l.length : Int) := by omega
    dsimp only [zc] at q0 q1 q2 q3 q4
    clear hat hr iha
    go_enter Tryd.func11, Tryd.ntmps11
    go_wp2
    go_ret2
    exact ⟨⟨#[]⟩, rfl, (fun h => by cases h), fun _ => rfl, by simp [ByteArray.size], Below.refl _ _⟩
  | plus a iha =>
    intro i w hat hr
    obtain ⟨q0, q1, q2, q3, q4⟩ := HM.out w hr i _ hat.plus.1
    have hlt := hat.lt
    have hpos := flat_pos (.plus a)
    have hi1 : (i : Int) < (l.length : Int) := by omega
    dsimp only [zc] at q0 q1 q2 q3 q4
    clear hat hr iha
    go_enter Tryd.func11, Tryd.ntmps11
    go_wp2
    go_ret2
    exact ⟨⟨#[]⟩, rfl, (fun h => by cases h), fun _ => rfl, by simp [ByteArray.size], Below.refl _ _⟩
  | alt a c iha ihc =>
    intro i w hat hr
    obtain ⟨q0, q1, q2, q3, q4⟩ := HM.out w hr i _ hat.alt.1
    have hlt := hat.lt
    have hpos := flat_pos (.alt a c)
    have hi1 : (i : Int) < (l.length : Int) := by omega
    dsimp only [zc] at q0 q1 q2 q3 q4
    clear hat hr iha ihc
    go_enter Tryd.func11, Tryd.ntmps11
    go_wp2
    go_ret2
    exact ⟨⟨#[]⟩, rfl, (fun h => by cases h), fun _ => rfl, by simp [ByteArray.size], Below.refl _ _⟩
  | empty =>
    intro i w hat hr
    obtain ⟨q0, q1, q2, q3, q4⟩ := HM.out w hr i _ hat.empty
    have hlt := hat.lt
    have hpos := flat_pos (.empty)
    have hi1 : (i : Int) < (l.length : Int) := by omega
    dsimp only [zc] at q0 q1 q2 q3 q4
    clear hat hr
    go_enter Tryd.func11, Tryd.ntmps11
    go_wp2
    go_ret2
    exact ⟨⟨#[]⟩, rfl, fun _ => rfl, (fun h => by cases h), by simp [ByteArray.size], Below.refl _ _⟩
  | byte c =>
    intro i w hat hr
    obtain ⟨c0, c1, c2, c3⟩ := c
    obtain ⟨q0, q1, q2, q3, q4⟩ := HM.out w hr i _ hat.byte
    have hlt := hat.lt
    have hpos := flat_pos (.byte (c0, c1, c2, c3))
    have hi1 : (i : Int) < (l.length : Int) := by omega
    dsimp only at q0 q1 q2 q3 q4
    have hc := HOK.out _ (List.mem_of_getElem? hat.byte)
    have hlit : litL (.byte (c0, c1, c2, c3)) = if cntC (c0, c1, c2, c3) = 1 then ([UInt8.ofNat (least (c0, c1, c2, c3) 0)], true) else ([], false) := rfl
    have HCN := Lib.hid (fun W => RCount_any c0 c1 c2 c3 W hc)
    have HIN := Lib.hid (fun (x : Nat) (hx : x < 256) (W : World) => RIn_any c0 c1 c2 c3 x W hc hx)
    unfold RCountIs at HCN
    rw [cntR_cntC] at HCN
    have HR := Lib.hid hr
    have hle := cntC_le (c0, c1, c2, c3)
    by_cases h1 : cntC (c0, c1, c2, c3) = 1
    · rw [hlit, if_pos h1]
      obtain ⟨hl256, hleast⟩ := cnt_one_least h1
      rw [h1] at HCN
      have HLE := Lib.hid hleast
      have HAT := Lib.hid hat.byte
      clear hat hr hc hlit h1 hleast hle
      generalize least (c0, c1, c2, c3) 0 = m at *
      go_enter Tryd.func11, Tryd.ntmps11
      go_wp2_with fail
      refine (HCN.out _).mono ?_
      rintro e w1 ⟨rfl, hb1⟩
      have HB1 := Lib.hid hb1
      clear hb1
      go_wp2_with fail
      go_loopw [6] (fun vl wr => ∃ k : Nat, k ≤ m ∧ vl = .int .i64 (k : Int) ∧ Hid (Below w.heap.size w wr)) (fun v _ => m - (intOf v).toNat)
      case atStart => exact ⟨0, by omega, rfl, HB1⟩
      case round =>
        obtain ⟨k, hk, rfl, HB⟩ := hrel
        obtain ⟨p0, p1, p2, p3, p4⟩ := HM.out wr (HR.out.below HB.out) i _ HAT.out
        dsimp only at p0 p1 p2 p3 p4
        have hsz := HB.out.size
        have hk256 : k < 256 := by omega
        have HI := Lib.hid (HIN.out k hk256 wr)
        unfold RInIs at HI
        by_cases hkm : k = m
        · subst hkm
          rw [(HLE.out k hk256).2 rfl] at HI
          have HCV := Lib.hid (fun W => conv_byte k hk256 W)
          go_wp2_with fail
          refine HI.out.mono ?_
          rintro e w2 ⟨rfl, hb2⟩
          have HB2 := Lib.hid (HB.out.trans (hb2.mono hsz))
          have hcv2 := HCV.out w2
          clear hb2
          go_wp2_with fail
          go_ret2
          exact ⟨⟨#[UInt8.ofNat k]⟩, rfl, fun _ => rfl, (fun h => by cases h), by simp [ByteArray.size], HB2.out.alloc HB2.out.size _⟩
        · have hno : has (c0, c1, c2, c3) k = false := by
            cases h : has (c0, c1, c2, c3) k with
            | false => rfl
            | true => exact absurd ((HLE.out k hk256).1 h) hkm
          rw [hno] at HI
          clear hno
          go_wp2_with fail
          refine HI.out.mono ?_
          rintro e w2 ⟨rfl, hb2⟩
          have HB2 := Lib.hid (HB.out.trans (hb2.mono hsz))
          clear hb2
          go_wp2_with fail
          go_roundw
          case rel => exact ⟨k + 1, by omega, by go_num, HB2⟩
          case measure => simp [intOf]; omega
    · rw [hlit, if_neg h1]
      have HH1 := Lib.hid h1
      clear hat hr hc hlit h1 HIN
      generalize cntC (c0, c1, c2, c3) = cn at *
      have hd : ((cn : Int) != 1) = true := by have := HH1.out; simp; omega
      go_enter Tryd.func11, Tryd.ntmps11
      go_wp2_with fail
      refine (HCN.out _).mono ?_
      rintro e w1 ⟨rfl, hb1⟩
      go_wp2_with fail
      go_ret2
      exact ⟨⟨#[]⟩, rfl, (fun h => by cases h), fun _ => rfl, by simp [ByteArray.size], hb1⟩
  | cat a c iha ihc =>
    intro i w hat hr
    obtain ⟨q0, q1, q2, q3, q4⟩ := HM.out w hr i _ hat.cat.1
    have hlt := hat.lt
    have hpos := flat_pos (.cat a c)
    have hi1 : (i : Int) < (l.length : Int) := by omega
    dsimp only [zc] at q0 q1 q2 q3 q4
    obtain ⟨_, hata, hatc⟩ := hat.cat
    have HA := Lib.hid (fun W h => iha (i + 1) W hata h)
    have HC := Lib.hid (fun W h => ihc (i + 1 + (flat a).length) W hatc h)
    have HR := Lib.hid hr
    have HE := Lib.hid (fun W h => HEND.out (i + 1) (by omega) W h)
    rw [eo_at hata] at HE
    have hlit : litL (.cat a c) = catL (litL a) (litL c) := rfl
    rw [hlit]
    have hlen2 : (litL a).2 = true → (litL c).2 = true → (litL a).1.length + (litL c).1.length ≤ 60 := fun _ _ => by
      have := litL_len a
      have := litL_len c
      have := hata.lt
      have := hatc.lt
      omega
    have HL2 := Lib.hid hlen2
    generalize i + 1 + (flat a).length = e2 at *
    clear hat hr iha ihc hata hatc hlit hlen2
    generalize litL a = na at *
    generalize litL c = nc at *
    obtain ⟨ta, xa⟩ := na
    obtain ⟨tc, xc⟩ := nc
    dsimp only at HL2
    go_enter Tryd.func11, Tryd.ntmps11
    go_wp2_with fail
    refine (HA.out _ HR.out).mono ?_
    rintro e w1 ⟨sa, rfl, hy1, hn1, hs1, hb1⟩
    have HB1 := Lib.hid hb1
    have HY1 := Lib.hid hy1
    clear hb1 hy1 hn1
    dsimp only at HY1 ⊢
    go_wp2_with fail
    refine (HE.out _ (HR.out.below HB1.out)).mono ?_
    rintro e w1' ⟨rfl, rfl⟩
    go_wp2_with fail
    refine (HC.out _ (HR.out.below HB1.out)).mono ?_
    rintro e w2 ⟨sc, rfl, hy2, hn2, hs2, hb2⟩
    have HB2 := Lib.hid (HB1.out.trans (hb2.mono HB1.out.size))
    have HY2 := Lib.hid hy2
    clear hb2 hy2 hn2
    dsimp only at HY2 ⊢
    cases xa with
    | true =>
      cases xc with
      | true =>
        have h1 := HY1.out rfl
        have h2 := HY2.out rfl
        have h3 := HL2.out rfl rfl
        have H1 := Lib.hid h1
        have H2 := Lib.hid h2
        have h4 : sa.size + sc.size ≤ 60 := by rw [bs_size h1, bs_size h2]; exact h3
        clear h1 h2
        go_wp2_with fail
        go_ret2
        refine ⟨sa ++ sc, rfl, fun _ => ?_, (fun h => by simp [catL] at h), by simp; omega, HB2.out⟩
        simp [catL, H1.out, H2.out]
      | false =>
        go_wp2_with fail
        go_ret2
        exact ⟨⟨#[]⟩, by simp [catL]; split <;> rfl, (fun h => by simp [catL] at h; split at h <;> cases h), fun _ => rfl, by simp [ByteArray.size], HB2.out⟩
    | false =>
      go_wp2_with fail
      go_ret2
      exact ⟨⟨#[]⟩, by simp [catL]; split <;> rfl, (fun h => by simp [catL] at h; split at h <;> cases h), fun _ => rfl, by simp [ByteArray.size], HB2.out⟩

set_option maxRecDepth 100000 in
set_option maxHeartbeats 8000000 in
theorem RNeed_all (l : List Nd) (hg : ∀ n ∈ l, good n) (hok : ∀ n ∈ l, okC n.cls) (hlen : l.length ≤ 60) (b off cap : Nat) : ∀ (u : Rx) (i : Nat) (w : World), At l i u → RdN w (.slice (some ⟨b, off, none⟩) l.length cap) l →
    Calls Tryd.prog 12 #[.slice (some ⟨b, off, none⟩) l.length cap, .int .i64 (i : Int)] w (RNeedIs (litL u) w) := by
  have HM : Hid (∀ (w : World), RdN w (.slice (some ⟨b, off, none⟩) l.length cap) l → ∀ k n, l[k]? = some n →
      w.cell? ⟨b, off + k * 5, none⟩ = some (.int .i64 n.op) ∧ w.cell? ⟨b, off + k * 5 + 1, none⟩ = some (.int .u64 (n.cls.1 : Int)) ∧ w.cell? ⟨b, off + k * 5 + 2, none⟩ = some (.int .u64 (n.cls.2.1 : Int)) ∧
      w.cell? ⟨b, off + k * 5 + 3, none⟩ = some (.int .u64 (n.cls.2.2.1 : Int)) ∧ w.cell? ⟨b, off + k * 5 + 4, none⟩ = some (.int .u64 (n.cls.2.2.2 : Int))) := Lib.hid (fun w hr k n hk => by
    obtain ⟨A', cap', hv, hcap, hcap2, hmem⟩ := hr.open_
    injection hv with e1 _ e2
    obtain ⟨b', off', hA, _, hc⟩ := hmem (by have := (List.getElem?_eq_some_iff.1 hk).1; omega)
    rw [hA] at e1
    cases e1
    exact hc w (fun _ => rfl) k n hk)
  have HEND := Lib.hid (fun (i : Nat) (hi : i ≤ l.length) (w : World) (hr : RdN w (.slice (some ⟨b, off, none⟩) l.length cap) l) => REnd_all l hg hlen (some ⟨b, off, none⟩) cap l.length i w (by omega) hi hr)
  have HOK := Lib.hid hok
  have HWH := Lib.hid (fun (u : Rx) (i : Nat) (w : World) (hat : At l i u) (hr : RdN w (.slice (some ⟨b, off, none⟩) l.length cap) l) => RWhole_all l hg hok hlen b off cap u i w hat hr)
  clear hg hok
  intro u
  induction u with
  | bgn =>
    intro i w hat hr
    have hlt := hat.lt
    have hpos := flat_pos (.bgn)
    have hi1 : (i : Int) < (l.length : Int) := by omega
    have HAT := Lib.hid hat.bgn
    have HW := Lib.hid (HWH.out (.bgn) i w hat hr)
    have HR := Lib.hid hr
    unfold RWholeIs at HW
    by_cases hwh : (litL (.bgn)).2 = true
    · rw [hwh] at HW
      clear hat hr 
      generalize litL (.bgn) = n at *
      clear hwh
      go_enter Tryd.func12, Tryd.ntmps12
      go_wp2_with fail
      refine HW.out.mono ?_
      rintro e w1 ⟨s, rfl, hy, hn, hs, hb⟩
      have hy1 := hy (by simp)
      clear hy hn
      go_wp2_with fail
      go_ret
      exact ⟨s, rfl, hy1, hs, hb⟩
    · have hwf : (litL (.bgn)).2 = false := by simpa using hwh
      rw [hwf] at HW
      clear hwh
      have HL : Hid ((litL (.bgn)).1 = []) := Lib.hid rfl
      clear hat hr hwf 
      generalize litL (.bgn) = n at *
      go_enter Tryd.func12, Tryd.ntmps12
      go_wp2_with fail
      refine HW.out.mono ?_
      rintro e w1 ⟨s, rfl, hy, hn, hs, hb⟩
      have HB := Lib.hid hb
      obtain ⟨q0, _⟩ := HM.out w1 (HR.out.below HB.out) i _ HAT.out
      dsimp only at q0
      clear hy hn hb
      go_wp2_with fail
      go_ret
      exact ⟨⟨#[]⟩, rfl, by rw [HL.out], by simp [ByteArray.size], HB.out⟩
  | fin =>
    intro i w hat hr
    have hlt := hat.lt
    have hpos := flat_pos (.fin)
    have hi1 : (i : Int) < (l.length : Int) := by omega
    have HAT := Lib.hid hat.fin
    have HW := Lib.hid (HWH.out (.fin) i w hat hr)
    have HR := Lib.hid hr
    unfold RWholeIs at HW
    by_cases hwh : (litL (.fin)).2 = true
    · rw [hwh] at HW
      clear hat hr 
      generalize litL (.fin) = n at *
      clear hwh
      go_enter Tryd.func12, Tryd.ntmps12
      go_wp2_with fail
      refine HW.out.mono ?_
      rintro e w1 ⟨s, rfl, hy, hn, hs, hb⟩
      have hy1 := hy (by simp)
      clear hy hn
      go_wp2_with fail
      go_ret
      exact ⟨s, rfl, hy1, hs, hb⟩
    · have hwf : (litL (.fin)).2 = false := by simpa using hwh
      rw [hwf] at HW
      clear hwh
      have HL : Hid ((litL (.fin)).1 = []) := Lib.hid rfl
      clear hat hr hwf 
      generalize litL (.fin) = n at *
      go_enter Tryd.func12, Tryd.ntmps12
      go_wp2_with fail
      refine HW.out.mono ?_
      rintro e w1 ⟨s, rfl, hy, hn, hs, hb⟩
      have HB := Lib.hid hb
      obtain ⟨q0, _⟩ := HM.out w1 (HR.out.below HB.out) i _ HAT.out
      dsimp only at q0
      clear hy hn hb
      go_wp2_with fail
      go_ret
      exact ⟨⟨#[]⟩, rfl, by rw [HL.out], by simp [ByteArray.size], HB.out⟩
  | star a iha =>
    intro i w hat hr
    have hlt := hat.lt
    have hpos := flat_pos (.star a)
    have hi1 : (i : Int) < (l.length : Int) := by omega
    have HAT := Lib.hid hat.star.1
    have HW := Lib.hid (HWH.out (.star a) i w hat hr)
    have HR := Lib.hid hr
    unfold RWholeIs at HW
    by_cases hwh : (litL (.star a)).2 = true
    · rw [hwh] at HW
      clear hat hr iha
      generalize litL (.star a) = n at *
      clear hwh
      go_enter Tryd.func12, Tryd.ntmps12
      go_wp2_with fail
      refine HW.out.mono ?_
      rintro e w1 ⟨s, rfl, hy, hn, hs, hb⟩
      have hy1 := hy (by simp)
      clear hy hn
      go_wp2_with fail
      go_ret
      exact ⟨s, rfl, hy1, hs, hb⟩
    · have hwf : (litL (.star a)).2 = false := by simpa using hwh
      rw [hwf] at HW
      clear hwh
      have HL : Hid ((litL (.star a)).1 = []) := Lib.hid rfl
      clear hat hr hwf iha
      generalize litL (.star a) = n at *
      go_enter Tryd.func12, Tryd.ntmps12
      go_wp2_with fail
      refine HW.out.mono ?_
      rintro e w1 ⟨s, rfl, hy, hn, hs, hb⟩
      have HB := Lib.hid hb
      obtain ⟨q0, _⟩ := HM.out w1 (HR.out.below HB.out) i _ HAT.out
      dsimp only at q0
      clear hy hn hb
      go_wp2_with fail
      go_ret
      exact ⟨⟨#[]⟩, rfl, by rw [HL.out], by simp [ByteArray.size], HB.out⟩
  | opt a iha =>
    intro i w hat hr
    have hlt := hat.lt
    have hpos := flat_pos (.opt a)
    have hi1 : (i : Int) < (l.length : Int) := by omega
    have HAT := Lib.hid hat.opt.1
    have HW := Lib.hid (HWH.out (.opt a) i w hat hr)
    have HR := Lib.hid hr
    unfold RWholeIs at HW
    by_cases hwh : (litL (.opt a)).2 = true
    · rw [hwh] at HW
      clear hat hr iha
      generalize litL (.opt a) = n at *
      clear hwh
      go_enter Tryd.func12, Tryd.ntmps12
      go_wp2_with fail
      refine HW.out.mono ?_
      rintro e w1 ⟨s, rfl, hy, hn, hs, hb⟩
      have hy1 := hy (by simp)
      clear hy hn
      go_wp2_with fail
      go_ret
      exact ⟨s, rfl, hy1, hs, hb⟩
    · have hwf : (litL (.opt a)).2 = false := by simpa using hwh
      rw [hwf] at HW
      clear hwh
      have HL : Hid ((litL (.opt a)).1 = []) := Lib.hid rfl
      clear hat hr hwf iha
      generalize litL (.opt a) = n at *
      go_enter Tryd.func12, Tryd.ntmps12
      go_wp2_with fail
      refine HW.out.mono ?_
      rintro e w1 ⟨s, rfl, hy, hn, hs, hb⟩
      have HB := Lib.hid hb
      obtain ⟨q0, _⟩ := HM.out w1 (HR.out.below HB.out) i _ HAT.out
      dsimp only at q0
      clear hy hn hb
      go_wp2_with fail
      go_ret
      exact ⟨⟨#[]⟩, rfl, by rw [HL.out], by simp [ByteArray.size], HB.out⟩
  | alt a c iha ihc =>
    intro i w hat hr
    have hlt := hat.lt
    have hpos := flat_pos (.alt a c)
    have hi1 : (i : Int) < (l.length : Int) := by omega
    have HAT := Lib.hid hat.alt.1
    have HW := Lib.hid (HWH.out (.alt a c) i w hat hr)
    have HR := Lib.hid hr
    unfold RWholeIs at HW
    by_cases hwh : (litL (.alt a c)).2 = true
    · rw [hwh] at HW
      clear hat hr iha ihc
      generalize litL (.alt a c) = n at *
      clear hwh
      go_enter Tryd.func12, Tryd.ntmps12
      go_wp2_with fail
      refine HW.out.mono ?_
      rintro e w1 ⟨s, rfl, hy, hn, hs, hb⟩
      have hy1 := hy (by simp)
      clear hy hn
      go_wp2_with fail
      go_ret
      exact ⟨s, rfl, hy1, hs, hb⟩
    · have hwf : (litL (.alt a c)).2 = false := by simpa using hwh
      rw [hwf] at HW
      clear hwh
      have HL : Hid ((litL (.alt a c)).1 = []) := Lib.hid rfl
      clear hat hr hwf iha ihc
      generalize litL (.alt a c) = n at *
      go_enter Tryd.func12, Tryd.ntmps12
      go_wp2_with fail
      refine HW.out.mono ?_
      rintro e w1 ⟨s, rfl, hy, hn, hs, hb⟩
      have HB := Lib.hid hb
      obtain ⟨q0, _⟩ := HM.out w1 (HR.out.below HB.out) i _ HAT.out
      dsimp only at q0
      clear hy hn hb
      go_wp2_with fail
      go_ret
      exact ⟨⟨#[]⟩, rfl, by rw [HL.out], by simp [ByteArray.size], HB.out⟩
  | empty =>
    intro i w hat hr
    have hlt := hat.lt
    have hpos := flat_pos (.empty)
    have hi1 : (i : Int) < (l.length : Int) := by omega
    have HAT := Lib.hid hat.empty
    have HW := Lib.hid (HWH.out (.empty) i w hat hr)
    have HR := Lib.hid hr
    unfold RWholeIs at HW
    by_cases hwh : (litL (.empty)).2 = true
    · rw [hwh] at HW
      clear hat hr 
      generalize litL (.empty) = n at *
      clear hwh
      go_enter Tryd.func12, Tryd.ntmps12
      go_wp2_with fail
      refine HW.out.mono ?_
      rintro e w1 ⟨s, rfl, hy, hn, hs, hb⟩
      have hy1 := hy (by simp)
      clear hy hn
      go_wp2_with fail
      go_ret
      exact ⟨s, rfl, hy1, hs, hb⟩
    · have hwf : (litL (.empty)).2 = false := by simpa using hwh
      rw [hwf] at HW
      clear hwh
      exact absurd hwf (by simp [litL])
  | byte c =>
    intro i w hat hr
    have hlt := hat.lt
    have hpos := flat_pos (.byte c)
    have hi1 : (i : Int) < (l.length : Int) := by omega
    have HAT := Lib.hid hat.byte
    have HW := Lib.hid (HWH.out (.byte c) i w hat hr)
    have HR := Lib.hid hr
    unfold RWholeIs at HW
    by_cases hwh : (litL (.byte c)).2 = true
    · rw [hwh] at HW
      clear hat hr 
      generalize litL (.byte c) = n at *
      clear hwh
      go_enter Tryd.func12, Tryd.ntmps12
      go_wp2_with fail
      refine HW.out.mono ?_
      rintro e w1 ⟨s, rfl, hy, hn, hs, hb⟩
      have hy1 := hy (by simp)
      clear hy hn
      go_wp2_with fail
      go_ret
      exact ⟨s, rfl, hy1, hs, hb⟩
    · have hwf : (litL (.byte c)).2 = false := by simpa using hwh
      rw [hwf] at HW
      clear hwh
      have HL : Hid ((litL (.byte c)).1 = []) := Lib.hid (by
        simp only [litL] at hwf ⊢
        by_cases h : cntC c = 1
        · rw [if_pos h] at hwf; simp at hwf
        · rw [if_neg h])
      clear hat hr hwf 
      generalize litL (.byte c) = n at *
      go_enter Tryd.func12, Tryd.ntmps12
      go_wp2_with fail
      refine HW.out.mono ?_
      rintro e w1 ⟨s, rfl, hy, hn, hs, hb⟩
      have HB := Lib.hid hb
      obtain ⟨q0, _⟩ := HM.out w1 (HR.out.below HB.out) i _ HAT.out
      dsimp only at q0
      clear hy hn hb
      go_wp2_with fail
      go_ret
      exact ⟨⟨#[]⟩, rfl, by rw [HL.out], by simp [ByteArray.size], HB.out⟩
  | plus a iha =>
    intro i w hat hr
    have hlt := hat.lt
    have hpos := flat_pos (.plus a)
    have hi1 : (i : Int) < (l.length : Int) := by omega
    have HAT := Lib.hid hat.plus.1
    have HW := Lib.hid (HWH.out (.plus a) i w hat hr)
    have HR := Lib.hid hr
    unfold RWholeIs at HW
    by_cases hwh : (litL (.plus a)).2 = true
    · rw [hwh] at HW
      clear hat hr iha
      generalize litL (.plus a) = n at *
      clear hwh
      go_enter Tryd.func12, Tryd.ntmps12
      go_wp2_with fail
      refine HW.out.mono ?_
      rintro e w1 ⟨s, rfl, hy, hn, hs, hb⟩
      have hy1 := hy (by simp)
      clear hy hn
      go_wp2_with fail
      go_ret
      exact ⟨s, rfl, hy1, hs, hb⟩
    · have hwf : (litL (.plus a)).2 = false := by simpa using hwh
      rw [hwf] at HW
      clear hwh
      have HL : Hid ((litL (.plus a)).1 = (litL a).1) := Lib.hid rfl
      have HA := Lib.hid (fun W h => iha (i + 1) W hat.plus.2 h)
      clear hat hr hwf iha
      generalize litL (.plus a) = n at *
      generalize litL a = na at *
      go_enter Tryd.func12, Tryd.ntmps12
      go_wp2_with fail
      refine HW.out.mono ?_
      rintro e w1 ⟨s, rfl, hy, hn, hs, hb⟩
      have HB := Lib.hid hb
      obtain ⟨q0, _⟩ := HM.out w1 (HR.out.below HB.out) i _ HAT.out
      dsimp only at q0
      clear hy hn hb
      go_wp2_with fail
      refine (HA.out _ (HR.out.below HB.out)).mono ?_
      rintro e w2 ⟨s2, rfl, hs2, hsz, hb2⟩
      go_wp2_with fail
      go_ret
      exact ⟨s2, rfl, by rw [HL.out, hs2], hsz, HB.out.trans (hb2.mono HB.out.size)⟩
  | cat a c iha ihc =>
    intro i w hat hr
    have hlt := hat.lt
    have hpos := flat_pos (.cat a c)
    have hi1 : (i : Int) < (l.length : Int) := by omega
    have HAT := Lib.hid hat.cat.1
    have HW := Lib.hid (HWH.out (.cat a c) i w hat hr)
    have HR := Lib.hid hr
    unfold RWholeIs at HW
    by_cases hwh : (litL (.cat a c)).2 = true
    · rw [hwh] at HW
      clear hat hr iha ihc
      generalize litL (.cat a c) = n at *
      clear hwh
      go_enter Tryd.func12, Tryd.ntmps12
      go_wp2_with fail
      refine HW.out.mono ?_
      rintro e w1 ⟨s, rfl, hy, hn, hs, hb⟩
      have hy1 := hy (by simp)
      clear hy hn
      go_wp2_with fail
      go_ret
      exact ⟨s, rfl, hy1, hs, hb⟩
    · have hwf : (litL (.cat a c)).2 = false := by simpa using hwh
      rw [hwf] at HW
      clear hwh
      obtain ⟨_, hata, hatc⟩ := hat.cat
      have HL : Hid ((litL (.cat a c)).1 = if (litL c).1.length > (litL a).1.length then (litL c).1 else (litL a).1) := Lib.hid (by
        simp only [litL, catL] at hwf ⊢
        split at hwf
        · cases hwf
        · rename_i hne
          rw [if_neg hne]
          split <;> rfl)
      have HA := Lib.hid (fun W h => iha (i + 1) W hata h)
      have HC := Lib.hid (fun W h => ihc (i + 1 + (flat a).length) W hatc h)
      have hal := hata.lt
      have hpa := flat_pos a
      have HE := Lib.hid (fun W h => HEND.out (i + 1) (by omega) W h)
      rw [eo_at hata] at HE
      generalize i + 1 + (flat a).length = e2 at *
      clear hat hr hwf iha ihc hata hatc
      generalize litL (.cat a c) = n at *
      generalize litL a = na at *
      generalize litL c = nc at *
      go_enter Tryd.func12, Tryd.ntmps12
      go_wp2_with fail
      refine HW.out.mono ?_
      rintro e w1 ⟨s, rfl, hy, hn, hs, hb⟩
      have HB := Lib.hid hb
      obtain ⟨q0, _⟩ := HM.out w1 (HR.out.below HB.out) i _ HAT.out
      dsimp only at q0
      clear hy hn hb
      go_wp2_with fail
      refine (HA.out _ (HR.out.below HB.out)).mono ?_
      rintro e w2 ⟨sa, rfl, hsa, hsza, hb2⟩
      have HB2 := Lib.hid (HB.out.trans (hb2.mono HB.out.size))
      have HSA := Lib.hid hsa
      clear hb2
      go_wp2_with fail
      refine (HE.out _ (HR.out.below HB2.out)).mono ?_
      rintro e w2' ⟨rfl, rfl⟩
      go_wp2_with fail
      refine (HC.out _ (HR.out.below HB2.out)).mono ?_
      rintro e w3 ⟨sc, rfl, hsc, hszc, hb3⟩
      have HB3 := Lib.hid (HB2.out.trans (hb3.mono HB2.out.size))
      have HSC := Lib.hid hsc
      have HZA := Lib.hid (bs_size hsa)
      have HZC := Lib.hid (bs_size hsc)
      clear hb3 hsa hsc
      by_cases hlt2 : sa.size < sc.size
      · have hd : decide ((sa.size : Int) < (sc.size : Int)) = true := by simpa using hlt2
        go_wp2_with fail
        go_ret
        exact ⟨sc, rfl, by rw [HL.out, if_pos (by rw [← HZA.out, ← HZC.out]; exact hlt2), HSC.out], hszc, HB3.out⟩
      · have hd : decide ((sa.size : Int) < (sc.size : Int)) = false := by simpa using hlt2
        go_wp2_with fail
        go_ret
        exact ⟨sa, rfl, by rw [HL.out, if_neg (by rw [← HZA.out, ← HZC.out]; exact hlt2), HSA.out], hsza, HB3.out⟩

end Go.Proofs.YthcahjnniendnabDoor
