/-
  RefA, RefB.
-/
import Derived.Test.YthcahjnniendnacGreatDoorClsA
import Derived.Test.YthcahjnniendnacGreatDoorGPl
import Derived.Test.YthcahjnniendnacGreatDoorGRex
/-
  Walks of the document's answers: In, Count, Parts.
-/
namespace Go.Proofs.YthcahjnniendnacGreatDoor
open Go.RowKit Wf

theorem half_bit (n i : Nat) : (n / 2 ^ i % 2 == 1) = n.testBit i := by
  rw [Nat.testBit_eq_decide_div_mod_eq]
  by_cases h : n / 2 ^ i % 2 = 1 <;> simp [h]

def RInIs (c : Cls) (b : Nat) (w : World) (e : Ending) (w' : World) : Prop := e = .returned (.bool (has c b)) ∧ Below w.heap.size w w'
set_option maxRecDepth 100000 in
set_option maxHeartbeats 2000000 in
theorem RIn_any (c0 c1 c2 c3 b : Nat) (w : World) (hok : okC (c0, c1, c2, c3)) (hb : b < 256) :
    Calls Tryz.prog 53 #[.agg #[.int .u64 (c0 : Int), .int .u64 (c1 : Int), .int .u64 (c2 : Int), .int .u64 (c3 : Int)], .int .i64 (b : Int)] w (RInIs (c0, c1, c2, c3) b w) := by
  have hw := word_lt hok (b / 64)
  have hbl := Blk.new w 39 #[.int .u64 (c0 : Int), .int .u64 (c1 : Int), .int .u64 (c2 : Int), .int .u64 (c3 : Int)]
  have hq : b / 64 < 4 := by omega
  have hcell : (w.alloc (.cells #[.int .u64 (c0 : Int), .int .u64 (c1 : Int), .int .u64 (c2 : Int), .int .u64 (c3 : Int)] 39)).cell? ⟨w.heap.size, b / 64, none⟩ = some (.int .u64 (word (c0, c1, c2, c3) (b / 64) : Int)) := by
    rw [hbl.cell]
    unfold word
    obtain h | h | h | h : b / 64 = 0 ∨ b / 64 = 1 ∨ b / 64 = 2 ∨ b / 64 = 3 := by omega
    all_goals (rw [h]; simp)
  have hH : Hid (∀ n, n = word (c0, c1, c2, c3) (b / 64) / 2 ^ (b % 64) → (n % 2 == 1) = has (c0, c1, c2, c3) b) := Lib.hid (by rintro n rfl; rw [half_bit]; rfl)
  generalize word (c0, c1, c2, c3) (b / 64) = W at *
  have hW2 : W < 18446744073709551616 := hw
  clear hbl hok hw
  go_enter Tryz.func53, Tryz.ntmps53
  go_wp2
  go_loopw [5, 6] (fun v5 v6 wr => ∃ k x : Nat, k ≤ b % 64 ∧ v6 = .int .i64 (k : Int) ∧ v5 = .int .u64 (x : Int) ∧ x < 18446744073709551616 ∧ Hid (x = W / 2 ^ k) ∧ Hid (Below w.heap.size w wr)) (fun _ i _ => b % 64 - (intOf i).toNat)
  case atStart => exact ⟨0, W, by omega, rfl, rfl, hW2, Lib.hid (by simp), Lib.hid ((Below.refl _ _).alloc (Nat.le_refl _) _)⟩
  case round =>
    obtain ⟨k, x, hk, rfl, rfl, hx, HX, HB⟩ := hrel
    have hb64 : b % 64 < 64 := by omega
    by_cases hlt : k < b % 64
    · have d1 : decide (k < b % 64) = true := by simpa using hlt
      have d2 : decide ((k : Int) < (b : Int) % 64) = true := by simp; omega
      have i2 : (k : Int) < (b : Int) % 64 := by omega
      go_wp2
      go_roundw
      case rel => exact ⟨k + 1, x / 2, by omega, by go_num, by go_num, by omega, Lib.hid (by rw [HX.out, Nat.div_div_eq_div_mul, Nat.pow_succ]), HB⟩
      case measure => simp [intOf]; omega
    · obtain rfl : k = b % 64 := by omega
      have d1 : decide (b % 64 < b % 64) = false := by simp
      have d2 : decide (((b % 64 : Nat) : Int) < (b : Int) % 64) = false := by simp
      have hres := hH.out x HX.out
      have HRES : Hid (((x : Int) % 2 == 1) = has (c0, c1, c2, c3) b) := Lib.hid (by
        rw [← hres, Bool.eq_iff_iff]; simp; omega)
      clear hres
      go_wp2
      go_ret
      refine ⟨?_, HB.out⟩
      rw [← HRES.out]
      rfl

/-- How many bytes below a number a class has. -/
def cntR (c : Cls) (k : Nat) : Nat := (List.range k).countP fun x => has c x
theorem cntR_succ (c : Cls) (k : Nat) : cntR c (k + 1) = cntR c k + if has c k then 1 else 0 := by
  unfold cntR
  rw [List.range_succ, List.countP_append]
  simp [List.countP_cons]
theorem cntR_le (c : Cls) (k : Nat) : cntR c k ≤ k := by
  have := List.countP_le_length (p := fun x => has c x) (l := List.range k)
  simpa [cntR] using this
theorem cntR_pos (c : Cls) (h : okC c) : 0 < cntR c 256 ↔ c ≠ zc := by
  unfold cntR
  rw [List.countP_pos_iff]
  constructor
  · rintro ⟨x, _, hx⟩ rfl
    rw [has_zc] at hx
    cases hx
  · intro hne
    refine Classical.byContradiction fun hno => hne ?_
    refine cls_ext h okC_zc fun x hx => ?_
    rw [has_zc]
    cases hh : has c x with
    | false => rfl
    | true => exact absurd ⟨x, by simp; exact hx, hh⟩ hno

def RCountIs (c : Cls) (w : World) (e : Ending) (w' : World) : Prop := e = .returned (.int .i64 (cntR c 256 : Int)) ∧ Below w.heap.size w w'
set_option maxRecDepth 100000 in
set_option maxHeartbeats 2000000 in
theorem RCount_any (c0 c1 c2 c3 : Nat) (w : World) (hok : okC (c0, c1, c2, c3)) :
    Calls Tryz.prog 30 #[.agg #[.int .u64 (c0 : Int), .int .u64 (c1 : Int), .int .u64 (c2 : Int), .int .u64 (c3 : Int)]] w (RCountIs (c0, c1, c2, c3) w) := by
  have HBL := Lib.hid (Blk.new w 39 #[.int .u64 (c0 : Int), .int .u64 (c1 : Int), .int .u64 (c2 : Int), .int .u64 (c3 : Int)])
  have HIN := Lib.hid (fun (b : Nat) (hb : b < 256) (W : World) => RIn_any c0 c1 c2 c3 b W hok hb)
  clear hok
  generalize hc : (c0, c1, c2, c3) = c at *
  have HC := Lib.hid hc
  clear hc
  go_enter Tryz.func30, Tryz.ntmps30
  go_wp2
  go_loopw [3, 4] (fun v3 v4 wr => ∃ k m : Nat, k ≤ 256 ∧ m ≤ k ∧ v4 = .int .i64 (k : Int) ∧ v3 = .int .i64 (m : Int) ∧ Hid (m = cntR c k) ∧ Hid (Below (w.heap.size + 1) (w.alloc (.cells #[.int .u64 (c0 : Int), .int .u64 (c1 : Int), .int .u64 (c2 : Int), .int .u64 (c3 : Int)] 39)) wr)) (fun _ i _ => 256 - (intOf i).toNat)
  case atStart => exact ⟨0, 0, by omega, by omega, rfl, rfl, Lib.hid (by simp [cntR]), Lib.hid (Below.refl _ _)⟩
  case round =>
    obtain ⟨k, m, hk, hm, rfl, rfl, HM, HB⟩ := hrel
    by_cases hlt : k < 256
    · have hbl := HBL.out.below HB.out (Nat.lt_succ_self _)
      have q0 := hbl.cell 0
      have q1 := hbl.cell 1
      have q2 := hbl.cell 2
      have q3 := hbl.cell 3
      simp only [List.getElem?_toArray, List.getElem?_cons_succ, List.getElem?_cons_zero] at q0 q1 q2 q3
      have hk1 : (k : Int) < 256 := by omega
      have hsz : w.heap.size + 1 ≤ wr.heap.size := by have := HB.out.size; simpa using this
      clear hbl
      go_wp2_with fail
      refine (HIN.out k hlt _).mono ?_
      rintro e w1 ⟨he, hb1⟩
      have HB1 := Lib.hid (HB.out.trans (hb1.mono hsz))
      clear hb1
      cases hh : has c k with
      | true =>
        rw [hh] at he
        subst he
        have HH := Lib.hid hh
        clear hh
        go_wp2_with fail
        go_roundw
        case rel => exact ⟨k + 1, m + 1, by omega, by omega, by go_num, by go_num, Lib.hid (by rw [cntR_succ, HH.out, HM.out]; rfl), HB1⟩
        case measure => simp [intOf]; omega
      | false =>
        rw [hh] at he
        subst he
        have HH := Lib.hid hh
        clear hh
        go_wp2_with fail
        go_roundw
        case rel => exact ⟨k + 1, m, by omega, by omega, by go_num, rfl, Lib.hid (by rw [cntR_succ, HH.out, HM.out]; rfl), HB1⟩
        case measure => simp [intOf]; omega
    · obtain rfl : k = 256 := by omega
      go_wp2_with fail
      go_ret
      refine ⟨?_, ?_⟩
      · rw [← HM.out]; rfl
      · exact ((Below.refl w.heap.size w).alloc (Nat.le_refl _) _).trans (HB.out.mono (Nat.le_succ _))

theorem RParts_any (op : Int) (w : World) : Calls Tryz.prog 54 #[.int .i64 op] w (fun e w' => e = .returned (.int .i64 (parts op : Int)) ∧ w = w') := by
  by_cases h2 : op = 3 ∨ op = 4
  · have hp : parts op = 2 := by simp [parts, h2]
    rw [hp]
    rcases h2 with rfl | rfl
    · go_enter Tryz.func54, Tryz.ntmps54
      go_wp2
      go_ret
      exact ⟨rfl, rfl⟩
    · go_enter Tryz.func54, Tryz.ntmps54
      go_wp2
      go_ret
      exact ⟨rfl, rfl⟩
  · by_cases h1 : op = 5 ∨ op = 6 ∨ op = 7
    · have hp : parts op = 1 := by unfold parts; rw [if_neg h2, if_pos h1]
      rw [hp]
      rcases h1 with rfl | rfl | rfl
      all_goals (
        go_enter Tryz.func54, Tryz.ntmps54
        go_wp2
        go_ret
        exact ⟨rfl, rfl⟩)
    · have hp : parts op = 0 := by unfold parts; rw [if_neg h2, if_neg h1]
      rw [hp]
      have n3 : (op == 3) = false := by simp; omega
      have n4 : (op == 4) = false := by simp; omega
      have n5 : (op == 5) = false := by simp; omega
      have n6 : (op == 6) = false := by simp; omega
      have n7 : (op == 7) = false := by simp; omega
      clear h1 h2 hp
      go_enter Tryz.func54, Tryz.ntmps54
      go_wp2
      go_ret
      exact ⟨rfl, rfl⟩

end Go.Proofs.YthcahjnniendnacGreatDoor

/-
  Walks of the document's answers: EndOf, Fault, EmptyOf. And rex.End.
-/
namespace Go.Proofs.YthcahjnniendnacGreatDoor
open Go.RowKit Wf

def REndIs (r : Int) (w : World) (e : Ending) (w' : World) : Prop := e = .returned (.int .i64 r) ∧ w = w'

set_option maxRecDepth 100000 in
set_option maxHeartbeats 4000000 in
theorem REnd_all (l : List Nd) (hg : ∀ n ∈ l, good n) (hlen : l.length ≤ 60) (A : Option Addr) (cap : Nat) : ∀ (m i : Nat) (w : World), l.length ≤ i + m → i ≤ l.length → RdN w (.slice A l.length cap) l →
    Calls Tryz.prog 31 #[.slice A l.length cap, .int .i64 (i : Int)] w (REndIs (eo l i) w) := by
  have HGD := Lib.hid hg
  clear hg
  intro m
  induction m with
  | zero =>
    intro i w hm hi hr
    obtain rfl : i = l.length := by omega
    have d1 : decide (l.length ≤ l.length) = true := by simp
    have HE : Hid (eo l l.length = -1) := Lib.hid (eo_none (fun ⟨u, hu⟩ => by have := hu.lt; have := flat_pos u; omega))
    rw [HE.out]
    clear hr
    go_enter Tryz.func31, Tryz.ntmps31
    go_wp2
    go_ret
    exact ⟨rfl, rfl⟩
  | succ m ih =>
    intro i w hm hi hr
    by_cases hlt : i < l.length
    · obtain ⟨A', cap', hv, hcap, hcap2, hmem⟩ := hr.open_
      obtain ⟨b, off, hA, hbl, hcell⟩ := hmem (by omega)
      injection hv with e1 _ e2
      subst e2
      rw [hA] at e1
      subst e1
      have hn : l[i]? = some (l[i]'hlt) := List.getElem?_eq_getElem hlt
      generalize l[i]'hlt = n at hn
      obtain ⟨q0, _, _, _, _⟩ := hcell w (fun _ => rfl) i n hn
      have HES := Lib.hid (eo_step hn (HGD.out n (List.mem_of_getElem? hn)))
      have hpl := parts_le n.op
      have HIH := Lib.hid ih
      have HR := Lib.hid hr
      have d1 : decide (l.length ≤ i) = false := by simp; omega
      have d2 : decide ((l.length : Int) ≤ (i : Int)) = false := by simp; omega
      have i1 : (i : Int) < (l.length : Int) := by omega
      obtain ⟨op, c⟩ := n
      dsimp only at q0 HES hpl
      obtain ⟨pn, hpn⟩ : ∃ X, X = parts op := ⟨_, rfl⟩
      have HPN := Lib.hid hpn
      rw [← hpn] at hpl
      obtain ⟨tg, htg⟩ : ∃ X, X = eo l i := ⟨_, rfl⟩
      have HTG : Hid (tg = eoN l pn ((i + 1 : Nat) : Int)) := Lib.hid (by rw [htg, hpn]; exact HES.out)
      rw [← htg]
      clear ih hr hmem hcell hn hpn htg HES
      go_enter Tryz.func31, Tryz.ntmps31
      go_wp2_with fail
      refine (RParts_any op _).mono ?_
      rintro e w1 ⟨he, rfl⟩
      rw [← HPN.out] at he
      subst he
      go_wp2_with fail
      go_loopw [1, 5] (fun v1 v5 wr => ∃ (c : Int) (k : Nat), k ≤ 2 ∧ v1 = .int .i64 c ∧ v5 = .int .i64 (k : Int) ∧ c ≤ l.length ∧ (c = -1 ∨ (i : Int) < c) ∧ Hid (tg = eoN l k c) ∧ wr = w) (fun _ v _ => (intOf v).toNat)
      case atStart => exact ⟨((i : Nat) : Int) + 1, pn, hpl, rfl, rfl, by omega, by omega, HTG, rfl⟩
      case round =>
        obtain ⟨c, k, hk, rfl, rfl, hc1, hc2, HT, rfl⟩ := hrel
        cases k with
        | zero =>
          have HT0 : Hid (tg = c) := HT
          go_wp2_with fail
          go_ret
          exact ⟨by rw [HT0.out]; rfl, rfl⟩
        | succ k =>
          by_cases hneg : c < 0
          · have hn : decide (0 ≤ c) = false := by simp; omega
            have HT0 : Hid (tg = c) := Lib.hid (by rw [HT.out]; exact eoN_neg _ _ _ hneg)
            clear hneg
            go_wp2_with fail
            go_ret
            exact ⟨by rw [HT0.out]; rfl, rfl⟩
          · have hn : decide (0 ≤ c) = true := by simp; omega
            obtain ⟨cn, rfl⟩ : ∃ n : Nat, c = (n : Int) := ⟨c.toNat, by omega⟩
            have HT1 : Hid (tg = eoN l k (eo l cn)) := Lib.hid (by rw [HT.out]; simp only [eoN]; rw [if_neg (by omega)]; simp)
            have hle := eo_le l cn
            have hge := eo_ge l cn
            have HCALL := Lib.hid (HIH.out cn wr (by omega) (by omega) HR.out)
            obtain ⟨nx, hnx⟩ : ∃ X, X = eo l cn := ⟨_, rfl⟩
            rw [← hnx] at hle hge HCALL HT1
            clear hnx hneg
            go_wp2_with fail
            refine HCALL.out.mono ?_
            rintro e w2 ⟨rfl, rfl⟩
            go_wp2_with fail
            go_roundw
            case rel => exact ⟨nx, k, by omega, rfl, by go_num, hle, by omega, HT1, by first | rfl | trivial⟩
            case measure => simp [intOf]
    · obtain rfl : i = l.length := by omega
      have d1 : decide (l.length ≤ l.length) = true := by simp
      have HE : Hid (eo l l.length = -1) := Lib.hid (eo_none (fun ⟨u, hu⟩ => by have := hu.lt; have := flat_pos u; omega))
      rw [HE.out]
      clear hr ih
      go_enter Tryz.func31, Tryz.ntmps31
      go_wp2
      go_ret
      exact ⟨rfl, rfl⟩

theorem chkN_at {l : List Nd} {i : Nat} {n : Nd} (h : l[i]? = some n) : chkN (l.drop i) = if n.op < 1 ∨ 9 < n.op then 1 else if n.op ≠ 1 ∧ n.cls ≠ zc then 2 else chkN (l.drop (i + 1)) := by
  rw [drop_at h]; rfl

def RFaultIs (l : List Nd) (w : World) (e : Ending) (w' : World) : Prop := e = .returned (.int .i64 (chk l)) ∧ Below w.heap.size w w'
set_option maxRecDepth 100000 in
set_option maxHeartbeats 4000000 in
theorem RFault_any (l : List Nd) (v : Value) (w : World) (hr : RdN w v l) (hok : ∀ n ∈ l, okC n.cls) : Calls Tryz.prog 8 #[v] w (RFaultIs l w) := by
  obtain ⟨A, cap, rfl, hcap, hcap2, hmem⟩ := hr.open_
  have HCF := Lib.hid (chkF_chk l)
  have HDEF : Hid (chkF l = if 60 < l.length then 3 else if chkN l ≠ 0 then chkN l else if l.length = 0 ∨ eo l 0 ≠ (l.length : Int) then 2 else 0) := Lib.hid rfl
  unfold RFaultIs
  rw [← HCF.out]
  by_cases h60 : 60 < l.length
  · have d1 : decide (60 < l.length) = true := by simpa using h60
    have d2 : decide ((60 : Int) < (l.length : Int)) = true := by simp; omega
    have HR : Hid (chkF l = 3) := Lib.hid (by rw [HDEF.out, if_pos h60])
    rw [HR.out]
    clear hr hmem hok h60
    go_enter Tryz.func8, Tryz.ntmps8
    go_wp2
    go_ret
    exact ⟨rfl, Below.refl _ _⟩
  have hl : l.length ≤ 60 := by omega
  have d1 : decide (60 < l.length) = false := by simpa using h60
  have d2 : decide ((60 : Int) < (l.length : Int)) = false := by simp; omega
  have HDEF2 : Hid (chkF l = if chkN l ≠ 0 then chkN l else if l.length = 0 ∨ eo l 0 ≠ (l.length : Int) then 2 else 0) := Lib.hid (by rw [HDEF.out, if_neg h60])
  have HR := Lib.hid hr
  have HM := Lib.hid hmem
  have HOK := Lib.hid hok
  have HEND := Lib.hid (fun (hg : ∀ n ∈ l, good n) (W : World) (h : RdN W (.slice A l.length cap) l) => REnd_all l hg hl A cap l.length 0 W (by omega) (by omega) h)
  obtain ⟨tg, htg⟩ : ∃ X, X = chkF l := ⟨_, rfl⟩
  rw [← htg] at HDEF2 ⊢
  clear hr hmem hok h60 HDEF HCF htg
  go_enter Tryz.func8, Tryz.ntmps8
  go_wp2_with fail
  go_loopw [3] (fun v3 wr => ∃ i : Nat, i ≤ l.length ∧ v3 = .int .i64 (i : Int) ∧ Hid (chkN l = chkN (l.drop i)) ∧ Hid (Below w.heap.size w wr)) (fun v _ => l.length - (intOf v).toNat)
  case atStart => exact ⟨0, by omega, rfl, Lib.hid (by simp), Lib.hid (Below.refl _ _)⟩
  case round =>
    obtain ⟨i, hi, rfl, HC, HB⟩ := hrel
    by_cases hlt : i < l.length
    · obtain ⟨b, off, rfl, hbl, hcell⟩ := HM.out (by omega)
      have hn : l[i]? = some (l[i]'hlt) := List.getElem?_eq_getElem hlt
      generalize l[i]'hlt = n at hn
      obtain ⟨q0, q1, q2, q3, q4⟩ := hcell wr (fun o => HB.out.cell (p := ⟨b, o, none⟩) hbl) i n hn
      have hstep := chkN_at hn
      have hcl := HOK.out n (List.mem_of_getElem? hn)
      have i1 : (i : Int) < (l.length : Int) := by omega
      obtain ⟨op, ⟨c0, c1, c2, c3⟩⟩ := n
      dsimp only at q0 q1 q2 q3 q4 hstep hcl
      clear hcell hn
      by_cases hlo : op < 1
      · have e1 : decide (op < 1) = true := by simpa using hlo
        have HR1 : Hid (tg = 1) := Lib.hid (by have hst : chkN (l.drop i) = 1 := by rw [hstep, if_pos (.inl hlo)]
                                               rw [HDEF2.out, HC.out, hst]; rfl)
        clear hstep hcl hlo
        go_wp2_with fail
        go_ret
        exact ⟨by rw [HR1.out]; rfl, HB.out⟩
      have e1 : decide (op < 1) = false := by simpa using hlo
      by_cases hhi : 9 < op
      · have e2 : decide (9 < op) = true := by simpa using hhi
        have HR1 : Hid (tg = 1) := Lib.hid (by have hst : chkN (l.drop i) = 1 := by rw [hstep, if_pos (.inr hhi)]
                                               rw [HDEF2.out, HC.out, hst]; rfl)
        clear hstep hcl hlo hhi
        go_wp2_with fail
        go_ret
        exact ⟨by rw [HR1.out]; rfl, HB.out⟩
      have e2 : decide (9 < op) = false := by simpa using hhi
      rw [if_neg (by omega)] at hstep
      by_cases hop : op = 1
      · subst hop
        rw [if_neg (by simp)] at hstep
        have HC1 : Hid (chkN l = chkN (l.drop (i + 1))) := Lib.hid (by rw [HC.out, hstep])
        clear hstep hcl hlo hhi
        go_wp2_with fail
        go_roundw
        case rel => exact ⟨i + 1, by omega, by go_num, HC1, HB⟩
        case measure => simp [intOf]; omega
      · have e3 : (op != 1) = true := by simpa using hop
        have HCNT := Lib.hid (RCount_any c0 c1 c2 c3 wr hcl)
        have HPOS := Lib.hid (cntR_pos (c0, c1, c2, c3) hcl)
        have hcn := cntR_le (c0, c1, c2, c3) 256
        unfold RCountIs at HCNT
        obtain ⟨cn, hcne⟩ : ∃ X, X = cntR (c0, c1, c2, c3) 256 := ⟨_, rfl⟩
        rw [← hcne] at HCNT HPOS hcn
        clear hcne
        by_cases hz : cn = 0
        · have e4 : decide (0 < cn) = false := by simp [hz]
          have e5 : decide ((0 : Int) < (cn : Int)) = false := by simp [hz]
          have hzc : (c0, c1, c2, c3) = zc := Classical.byContradiction fun h => by have := HPOS.out.2 h; omega
          rw [if_neg (by simp [hzc])] at hstep
          have HC1 : Hid (chkN l = chkN (l.drop (i + 1))) := Lib.hid (by rw [HC.out, hstep])
          clear hstep hcl hlo hhi hz hzc hop
          go_wp2_with fail
          refine HCNT.out.mono ?_
          rintro e w1 ⟨rfl, hb1⟩
          have HB1 := Lib.hid (HB.out.trans (hb1.mono HB.out.size))
          clear hb1
          go_wp2_with fail
          go_roundw
          case rel => exact ⟨i + 1, by omega, by go_num, HC1, HB1⟩
          case measure => simp [intOf]; omega
        · have e4 : decide (0 < cn) = true := by simp; omega
          have e5 : decide ((0 : Int) < (cn : Int)) = true := by simp; omega
          have hzc : (c0, c1, c2, c3) ≠ zc := HPOS.out.1 (by omega)
          rw [if_pos ⟨hop, hzc⟩] at hstep
          have HR1 : Hid (tg = 2) := Lib.hid (by rw [HDEF2.out, HC.out, hstep]; rfl)
          clear hstep hcl hlo hhi hz hzc hop
          go_wp2_with fail
          refine HCNT.out.mono ?_
          rintro e w1 ⟨rfl, hb1⟩
          have HB1 := Lib.hid (HB.out.trans (hb1.mono HB.out.size))
          clear hb1
          go_wp2_with fail
          go_ret
          exact ⟨by rw [HR1.out]; rfl, HB1.out⟩
    · obtain rfl : i = l.length := by omega
      have HN0 : Hid (chkN l = 0) := Lib.hid (by rw [HC.out]; simp [chkN])
      have HDEF3 : Hid (tg = if l.length = 0 ∨ eo l 0 ≠ (l.length : Int) then 2 else 0) := Lib.hid (by rw [HDEF2.out, if_neg (by simpa using HN0.out)])
      have HCALL := Lib.hid (HEND.out (chkN_good HN0.out) wr (HR.out.below HB.out))
      clear HC HDEF2
      by_cases h0 : l.length = 0
      · have e1 : ((l.length : Int) == 0) = true := by simpa using h0
        have HR1 : Hid (tg = 2) := Lib.hid (by rw [HDEF3.out, if_pos (.inl h0)])
        have z0 : l = [] := List.length_eq_zero_iff.1 h0
        go_wp2_with fail
        go_ret
        exact ⟨by rw [HR1.out]; rfl, HB.out⟩
      · have e1 : ((l.length : Int) == 0) = false := by simpa using h0
        obtain ⟨ev, hev⟩ : ∃ X, X = eo l 0 := ⟨_, rfl⟩
        rw [← hev] at HCALL HDEF3
        clear hev
        by_cases he : ev = (l.length : Int)
        · have e2 : (ev != (l.length : Int)) = false := by simp [he]
          have HR1 : Hid (tg = 0) := Lib.hid (by rw [HDEF3.out, if_neg (by simp [he]; intro h; simp [h] at h0)])
          clear he h0
          go_wp2_with fail
          refine HCALL.out.mono ?_
          rintro e w1 ⟨rfl, rfl⟩
          go_wp2_with fail
          go_ret
          exact ⟨by rw [HR1.out]; rfl, HB.out⟩
        · have e2 : (ev != (l.length : Int)) = true := by simpa using he
          have HR1 : Hid (tg = 2) := Lib.hid (by rw [HDEF3.out, if_pos (.inr he)])
          clear he h0
          go_wp2_with fail
          refine HCALL.out.mono ?_
          rintro e w1 ⟨rfl, rfl⟩
          go_wp2_with fail
          go_ret
          exact ⟨by rw [HR1.out]; rfl, HB.out⟩

end Go.Proofs.YthcahjnniendnacGreatDoor
