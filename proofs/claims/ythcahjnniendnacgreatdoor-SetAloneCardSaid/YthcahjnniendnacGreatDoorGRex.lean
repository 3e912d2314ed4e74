/-
  RexA, RexB, RexC.
-/
import Derived.Test.YthcahjnniendnacGreatDoorLaws
import Derived.Test.YthcahjnniendnacGreatDoorMem
import Derived.Test.YthcahjnniendnacGreatDoorRows
import Derived.WalkKit
import Derived.WalkLawsBesides
import Derived.WalkSpells
import Derived.Outline
import Derived.Deep.LoopGhost
import Derived.Deep.QuietTactic
import Derived.BigQuiet
/-
  Walks of package rex: Parts, Check.
-/
namespace Go.Proofs.YthcahjnniendnacGreatDoor
open Go.RowKit Wf

/-- An error as a value: none, or a number. -/
def errV (n : Int) : Value := if n = 0 then .nilIface else .iface 23 (.int .i64 n)
theorem errV_zero : errV 0 = .nilIface := rfl
theorem errV_ne {n : Int} (h : n ≠ 0) : errV n = .iface 23 (.int .i64 n) := by simp [errV, h]

theorem ret_val {a b : Value} (h : a = b) : Ending.returned a = .returned b := by rw [h]

def PartsIs (n : Int) (w : World) (e : Ending) (w' : World) : Prop := e = .returned (.int .i64 (parts n)) ∧ w = w'
theorem Parts_any (n : Int) (w : World) : Calls Tryz.prog 57 #[.int .i64 n] w (PartsIs n w) := by
  have key : ∀ m : Int, m = (parts n : Int) → PartsIs n w (.returned (.int .i64 m)) w := fun m h => ⟨by rw [h], rfl⟩
  have k2 : (n = 3 ∨ n = 4) → (2 : Int) = parts n := fun h => by simp [parts, h]
  have k1 : ¬ (n = 3 ∨ n = 4) → (n = 5 ∨ n = 6 ∨ n = 7) → (1 : Int) = parts n := fun h h' => by unfold parts; rw [if_neg h, if_pos h']; rfl
  have k0 : ¬ (n = 3 ∨ n = 4) → ¬ (n = 5 ∨ n = 6 ∨ n = 7) → (0 : Int) = parts n := fun h h' => by unfold parts; rw [if_neg h, if_neg h']; rfl
  have H2 := Lib.hid k2
  have H1 := Lib.hid k1
  have H0 := Lib.hid k0
  have HK := Lib.hid key
  clear k2 k1 k0 key
  go_enter Tryz.func57, Tryz.ntmps57
  go_wp2
  all_goals go_ret
  all_goals refine HK.out _ ?_
  all_goals simp only [beq_iff_eq, beq_eq_false_iff_ne] at *
  all_goals first | exact H2.out (by omega) | exact H1.out (by omega) (by omega) | exact H0.out (by omega) (by omega)

def CheckIs (l : List Nd) (w : World) (e : Ending) (w' : World) : Prop := e = .returned (errV (chk l)) ∧ Below w.heap.size w w'

theorem getD_get {α : Type} {l : List α} {k : Nat} (h : k < l.length) : ∃ x, l[k]? = some x := ⟨_, List.getElem?_eq_getElem h⟩

set_option maxRecDepth 100000 in
set_option maxHeartbeats 4000000 in
theorem Check_any (l : List Nd) (v : Value) (w : World) (hr : RdN w v l) : Calls Tryz.prog 34 #[v] w (CheckIs l w) := by
  obtain ⟨A, cap, rfl, hcap, hcap2, hmem⟩ := hr.open_
  have key : ∀ (m : Value) (w' : World), m = errV (chk l) → Below w.heap.size w w' → CheckIs l w (.returned m) w' := fun m w' h hb => ⟨by rw [h], hb⟩
  have HK := Lib.hid key
  have HM := Lib.hid hmem
  clear key hmem hr
  by_cases h60 : 60 < l.length
  · have hc : chk l = 3 := by unfold chk; rw [if_pos h60]
    have HC := Lib.hid hc
    clear hc
    go_enter Tryz.func34, Tryz.ntmps34
    go_wp2
    go_ret
    exact HK.out _ _ (by rw [HC.out]; rfl) (Below.refl _ _)
  · have hc : chk l = chkLoop l 1 true := by unfold chk; rw [if_neg h60]
    have HC := Lib.hid hc
    clear hc
    go_enter Tryz.func34, Tryz.ntmps34
    go_wp2
    go_loopw [3, 4, 13] (fun v3 v4 v13 wr => ∃ (k : Nat) (need : Int) (whole : Bool), k ≤ l.length ∧ v13 = .int .i64 k ∧ v3 = .int .i64 need ∧ v4 = .bool whole ∧ need ≤ 1 + k ∧ 1 - k ≤ need ∧
        Hid (chkLoop (l.drop k) need whole = chkLoop l 1 true) ∧ Below w.heap.size w wr) (fun _ _ i _ => l.length - (intOf i).toNat)
    case atStart => exact ⟨0, 1, true, by omega, rfl, rfl, rfl, by omega, by omega, rfl, Below.refl _ _⟩
    case round =>
      obtain ⟨k, need, whole, hk, rfl, rfl, rfl, hn1, hn2, HL, hb⟩ := hrel
      by_cases hlt : k < l.length
      · obtain ⟨b, off, rfl, hbl, hcells⟩ := HM.out (by omega)
        obtain ⟨n, hn⟩ := getD_get hlt
        obtain ⟨g0, g1, g2, g3, g4⟩ := hcells wr (fun o => hb.cell (p := ⟨b, o, none⟩) hbl) k n hn
        have hdrop : l.drop k = n :: l.drop (k + 1) := by
          rw [List.drop_eq_getElem_cons hlt]; congr 1
          have := List.getElem?_eq_getElem hlt
          rw [hn] at this
          exact (Option.some.inj this).symm
        have hd : chkLoop l 1 true = chkLoop (n :: l.drop (k + 1)) need whole := by rw [← HL.out, hdrop]
        have HD := Lib.hid hd
        clear hd HL
        clear hdrop hn hcells
        have hsz := hb.size
        obtain ⟨op, c0, c1, c2, c3⟩ := n
        dsimp only at g0 g1 g2 g3 g4
        have hp := parts_le op
        have hp' : (parts op : Int) ≤ 2 := by omega
        have hp0 : (0 : Int) ≤ (parts op : Int) := by omega
        have hz : (cls4 c0 c1 c2 c3 0 0 0 0 = true) ∨ (cls4 c0 c1 c2 c3 0 0 0 0 = false) := by cases cls4 c0 c1 c2 c3 0 0 0 0 <;> simp
        have hzc : cls4 c0 c1 c2 c3 0 0 0 0 = true ↔ (c0, c1, c2, c3) = zc := cls4_iff c0 c1 c2 c3 0 0 0 0
        have HZ := Lib.hid hzc
        have fin1 : (op < 1 ∨ 9 < op) → chkLoop l 1 true = 1 := fun h => by rw [HD.out]; unfold chkLoop; rw [if_pos h]
        have fin2 : 1 ≤ op → op ≤ 9 → op ≠ 1 → cls4 c0 c1 c2 c3 0 0 0 0 = false → chkLoop l 1 true = 2 := fun h1 h2 h3 h4 => by
          rw [HD.out]; unfold chkLoop; rw [if_neg (by simp; omega), if_pos ⟨h3, fun h => by rw [HZ.out.2 h] at h4; cases h4⟩]
        have goes : 1 ≤ op → op ≤ 9 → (op = 1 ∨ cls4 c0 c1 c2 c3 0 0 0 0 = true) → chkLoop (l.drop (k + 1)) (need + ((parts op : Int) - 1)) (whole && decide (0 < need)) = chkLoop l 1 true := fun h1 h2 h3 => by
          rw [HD.out, chkLoop, if_neg (by simp; omega), if_neg]
          rintro ⟨h4, h5⟩
          rcases h3 with h3 | h3
          · exact h4 h3
          · exact h5 (HZ.out.1 h3)
        have F1 := Lib.hid fin1
        have F2 := Lib.hid fin2
        have GO := Lib.hid goes
        clear hzc hp fin1 fin2 goes HZ
        rcases hz with hz | hz <;> by_cases hop : op = 1
        all_goals (try subst hop)
        all_goals cases whole
        all_goals go_wp2_with (go_at_call 57; refine (Parts_any _ _).mono ?_; rintro e w' ⟨rfl, rfl⟩)
        all_goals first
          | (go_ret; exact HK.out _ _ (by rw [HC.out]; first | (rw [F1.out (by omega)]; rfl) | (rw [F2.out (by omega) (by omega) (by omega) hz]; rfl)) (hb.alloc hsz _))
          | (go_roundw
             case rel => exact ⟨k + 1, _, _, by omega, by go_num, rfl, rfl, by omega, by omega, by first | exact Lib.hid (GO.out (by omega) (by omega) (.inr hz)) | exact Lib.hid (GO.out (by omega) (by omega) (.inl (by first | trivial | rfl))), hb.alloc hsz _⟩
             case measure => simp [intOf]; omega)
      · have hkk : k = l.length := by omega
        have hd : chkLoop l 1 true = (if whole = true ∧ need = 0 then 0 else 2) := by
          rw [← HL.out, hkk, List.drop_length]; rfl
        have HD := Lib.hid hd
        clear hd HL hkk
        by_cases hn : need = 0
        all_goals cases whole
        all_goals (try subst hn)
        all_goals go_wp2
        all_goals first
          | (go_ret; exact HK.out _ _ (by rw [HC.out, HD.out]; first | (simp [errV]; done) | (rw [if_neg (by simp; omega)]; rfl)) hb)

end Go.Proofs.YthcahjnniendnacGreatDoor

/-
  Walks of package rex: Ends.
-/
namespace Go.Proofs.YthcahjnniendnacGreatDoor
open Go.RowKit Wf

theorem info_int : (Tryz.prog.info? 3).map (fun i => (i.zero, i.size, i.bytes)) = some (some (.int .i64 0), 1, 8) := by kernel_rfl
theorem info_bool : (Tryz.prog.info? 4).map (fun i => (i.zero, i.size, i.bytes)) = some (some (.bool false), 1, 1) := by kernel_rfl

theorem mk_ints (n : Nat) (h : n ≤ 100000) (w : World) : (Instr.makeSlice 181 (.int .i64 (n : Int)) (.int .i64 (n : Int))).run Tryz.prog w = .ok (.slice (some ⟨w.heap.size, 0, none⟩) n n) (w.alloc (.cells (repA n (.int .i64 0)) 3)) := by
  obtain ⟨i0, hi0, hz0, hz1, hz2⟩ := info_parts info_int
  exact run_mk _ _ i0 _ Tryz.underlying181 hi0 hz0 hz1 rfl n (by rw [hz2]; omega) (by omega) w
theorem mk_bools (n : Nat) (h : n ≤ 100000) (w : World) : (Instr.makeSlice 249 (.int .i64 (n : Int)) (.int .i64 (n : Int))).run Tryz.prog w = .ok (.slice (some ⟨w.heap.size, 0, none⟩) n n) (w.alloc (.cells (repA n (.bool false)) 4)) := by
  obtain ⟨i0, hi0, hz0, hz1, hz2⟩ := info_parts info_bool
  exact run_mk _ _ i0 _ Tryz.underlying249 hi0 hz0 hz1 rfl n (by rw [hz2]; omega) (by omega) w

/-- A row of numbers as cells. -/
def natVals (xs : List Nat) : List Value := xs.map fun (n : Nat) => Value.int .i64 (n : Int)

def EndsIs (l : List Nd) (w : World) (e : Ending) (w' : World) : Prop :=
  ∃ (g : Nat) (xs : List Nat), e = .returned (.slice (some ⟨g, 0, none⟩) l.length l.length) ∧ IsEnds l xs ∧ w.heap.size ≤ g ∧ g < w'.heap.size ∧ (∀ (j x : Nat), xs[j]? = some x → w'.cell? ⟨g, j, none⟩ = some (.int .i64 (x : Int))) ∧ Below w.heap.size w w'

/-- What the round's row holds: behind place m all parts' ends. -/
def EndsTo (l : List Nd) (m : Nat) (cs : Array Value) : Prop := cs.size = l.length ∧ (∀ j, j < cs.size → ∃ x : Int, cs[j]? = some (.int .i64 x)) ∧ ∀ j u, m ≤ j → At l j u → cs[j]? = some (.int .i64 ((j + (flat u).length : Nat) : Int))

theorem EndsTo.start (l : List Nd) : EndsTo l l.length (repA l.length (.int .i64 0)) := by
  refine ⟨repA_size _ _, fun j hj => ⟨0, repA_get _ _ _ (by rw [repA_size] at hj; exact hj)⟩, fun j u hj h => ?_⟩
  have := h.lt
  have := flat_pos u
  omega

theorem EndsTo.step {l : List Nd} {i : Nat} {cs : Array Value} {u : Rx} (h : EndsTo l (i + 1) cs) (hu : At l i u) : EndsTo l i (cs.setIfInBounds i (.int .i64 ((i + (flat u).length : Nat) : Int))) := by
  obtain ⟨h1, h2, h3⟩ := h
  have hlt := hu.lt
  have hp := flat_pos u
  refine ⟨by simpa using h1, fun j hj => ?_, fun j v hj hv => ?_⟩
  · rw [Array.getElem?_setIfInBounds]
    split
    · exact ⟨_, by rw [if_pos (by simp at hj; omega)]⟩
    · exact h2 j (by simpa using hj)
  · rw [Array.getElem?_setIfInBounds]
    split
    · rename_i e
      subst e
      rw [hv.inj hu]
      rw [if_pos (by omega)]
    · exact h3 j v (by omega) hv

theorem EndsTo.done {t : Rx} {cs : Array Value} (h : EndsTo (flat t) 0 cs) : ∃ xs : List Nat, IsEnds (flat t) xs ∧ ∀ (j x : Nat), xs[j]? = some x → cs[j]? = some (.int .i64 (x : Int)) := by
  obtain ⟨h1, h2, h3⟩ := h
  have key : ∀ j, j < (flat t).length → ∃ n : Nat, cs[j]? = some (.int .i64 (n : Int)) ∧ ∀ u, At (flat t) j u → n = j + (flat u).length := by
    intro j hj
    obtain ⟨u, hu⟩ := at_each t j hj
    exact ⟨_, h3 j u (by omega) hu, fun v hv => by rw [hv.inj hu]⟩
  have build : ∀ m, m ≤ (flat t).length → ∃ xs : List Nat, xs.length = m ∧ ∀ j, j < m → ∃ n, xs[j]? = some n ∧ cs[j]? = some (.int .i64 (n : Int)) ∧ ∀ u, At (flat t) j u → n = j + (flat u).length := by
    intro m
    induction m with
    | zero => intro _; exact ⟨[], rfl, fun j hj => by omega⟩
    | succ m ih =>
      intro hm
      obtain ⟨xs, hl, hx⟩ := ih (by omega)
      obtain ⟨n, hn⟩ := key m (by omega)
      refine ⟨xs ++ [n], by simp [hl], fun j hj => ?_⟩
      by_cases hjm : j < m
      · obtain ⟨k, hk⟩ := hx j hjm
        exact ⟨k, by rw [List.getElem?_append_left (by omega)]; exact hk.1, hk.2⟩
      · obtain rfl : j = m := by omega
        exact ⟨n, by simp [hl], hn⟩
  obtain ⟨xs, hl, hx⟩ := build _ (Nat.le_refl _)
  refine ⟨xs, ⟨hl, fun i u hu => ?_⟩, fun j x hxj => ?_⟩
  · have := hu.lt
    have := flat_pos u
    obtain ⟨n, hn, _, h⟩ := hx i (by omega)
    rw [hn, h u hu]
  · obtain ⟨n', hn', hc, _⟩ := hx j (by
      have := (List.getElem?_eq_some_iff.1 hxj).1
      omega)
    rw [hn'] at hxj
    cases hxj
    exact hc

set_option maxRecDepth 100000 in
set_option maxHeartbeats 4000000 in
theorem Ends_any (l : List Nd) (t : Rx) (hl : l = flat t) (v : Value) (w : World) (ht : l.length ≤ 60) (hr : RdN w v l) : Calls Tryz.prog 98 #[v] w (EndsIs l w) := by
  obtain ⟨A, cap, rfl, hcap, hcap2, hmem⟩ := hr.open_
  have hall : ∀ i, i < l.length → ∃ u, At l i u := fun i hi => by subst hl; exact at_each t i hi
  have hdone : ∀ cs, EndsTo l 0 cs → ∃ xs : List Nat, IsEnds l xs ∧ ∀ (j x : Nat), xs[j]? = some x → cs[j]? = some (.int .i64 (x : Int)) := fun cs h => by subst hl; exact h.done
  have hpos : 0 < l.length := by rw [hl]; exact flat_pos t
  obtain ⟨b, off, rfl, hbl, hcells⟩ := hmem hpos
  have HD := Lib.hid hdone
  have HA := Lib.hid hall
  have HC := Lib.hid hcells
  clear hdone hall hcells hr hmem hl
  have hmk := fun W => mk_ints l.length (by omega) W
  have hstart := Lib.hid (EndsTo.start l)
  go_enter Tryz.func98, Tryz.ntmps98
  go_wp2
  clear hmk
  go_loopw [4] (fun v4 wr => ∃ (m : Nat) (cs : Array Value), m ≤ l.length ∧ v4 = .int .i64 ((m : Int) - 1) ∧ Hid (EndsTo l m cs) ∧ Blk wr w.heap.size 3 cs ∧ Below w.heap.size w wr) (fun i _ => (intOf i + 1).toNat)
  case atStart => exact ⟨l.length, _, by omega, rfl, hstart, Blk.new _ _ _, (Below.refl _ _).alloc (Nat.le_refl _) _⟩
  case round =>
    obtain ⟨m, cs, hm, hv4, HE, hblk, hb⟩ := hrel
    rcases m with _ | i
    · obtain rfl : u4 = .int .i64 (-1) := hv4
      go_wp2
      go_ret
      obtain ⟨xs, hx1, hx3⟩ := HD.out cs HE.out
      exact ⟨_, xs, rfl, hx1, Nat.le_refl _, hblk.lt, fun j x hx => by rw [hblk.cell]; exact hx3 j x hx, hb⟩
    · obtain rfl : u4 = .int .i64 (i : Int) := by rw [hv4]; congr 1; omega
      clear hv4
      obtain ⟨u, hu⟩ := HA.out i (by omega)
      obtain ⟨⟨op, cl⟩, hn, hpn, _⟩ := hu.node
      have hilt : i < l.length := by omega
      obtain ⟨g0, _, _, _, _⟩ := HC.out wr (fun o => hb.cell (p := ⟨b, o, none⟩) hbl) i _ hn
      dsimp only at hpn g0
      have hp2 := parts_le op
      have hkid : ∀ j, j < parts op → ∃ v, (kids u)[j]? = some v := fun j hj => ⟨_, List.getElem?_eq_getElem (by omega)⟩
      have hnext : ∀ j, j < parts op → ∃ e' : Nat, i + pre u j < l.length ∧ e' ≤ l.length ∧ e' = i + pre u (j + 1) ∧ cs[i + pre u j]? = some (.int .i64 (e' : Int)) := fun j hj => by
        obtain ⟨v, hv⟩ := hkid j hj
        have hat := hu.kid j v hv
        have h1 := hat.lt
        have h2 := flat_pos v
        have h3 := pre_succ u j v hv
        refine ⟨i + pre u j + (flat v).length, by omega, by omega, by omega, ?_⟩
        rw [HE.out.2.2 (i + pre u j) v (by unfold pre; omega) hat]
      have hend : pre u (parts op) = (flat u).length := by rw [hpn]; exact pre_all u
      have hlast := hu.lt
      have hstep := EndsTo.step HE.out hu
      obtain ⟨x0, hx0⟩ := HE.out.2.1 i (by rw [HE.out.1]; exact hilt)
      have gst : wr.cell? ⟨w.heap.size, i, none⟩ = some (.int .i64 x0) := by rw [hblk.cell]; exact hx0
      have gfr : wr.frozen? ⟨w.heap.size, i, none⟩ = false := hblk.frozen i
      have HB := Lib.hid hblk
      have HN := Lib.hid hnext
      have HEND := Lib.hid hend
      have HS := Lib.hid hstep
      have hlast' := Lib.hid hlast
      have h10 : pre u 0 = 1 := pre_zero u
      have H10 := Lib.hid h10
      clear hkid hnext hend hpn hn hu hstep hblk hlast h10 HC HA HE hx0
      have hmul : Hid (i + 1 = i + pre u 0) := by rw [H10.out]; exact Lib.hid rfl
      go_wp2_with (go_at_call 57; refine (Parts_any _ _).mono ?_; rintro e w' ⟨rfl, rfl⟩)
      go_loop [5, 24] (fun v5 v24 => ∃ j e : Nat, j ≤ parts op ∧ v24 = .int .i64 (j : Int) ∧ v5 = .int .i64 (e : Int) ∧ Hid (e = i + pre u j)) (fun _ i => parts op - (intOf i).toNat)
      case atStart => exact ⟨0, i + 1, by omega, rfl, by go_num, hmul⟩
      case round =>
        obtain ⟨j, e, hj, rfl, rfl, he⟩ := hrel
        by_cases hlt : j < parts op
        · obtain ⟨e', h1, h2, h3, h4⟩ := HN.out j hlt
          rw [← he.out] at h1 h4
          have gl : wr.cell? ⟨w.heap.size, e, none⟩ = some (.int .i64 (e' : Int)) := by rw [HB.out.cell]; exact h4
          have H3 := Lib.hid h3
          clear h3 h4
          go_wp2
          go_round
          case rel => exact ⟨j + 1, e', by omega, by go_num, rfl, H3⟩
          case measure => simp [intOf]; omega
        · obtain rfl : j = parts op := by omega
          have he2 : Hid (e = i + (flat u).length) := by have := he.out; rw [HEND.out] at this; exact this
          go_wp2
          go_roundw
          case rel => 
            refine ⟨i, cs.setIfInBounds i (.int .i64 (e : Int)), by omega, rfl, ?_, HB.out.set_ _ _, hb.setCell (Nat.le_refl _) _⟩
            have := HS.out
            rw [← he2.out] at this
            exact this
          case measure => simp [intOf]

end Go.Proofs.YthcahjnniendnacGreatDoor

/-
  Walks of package winnowfansame: Nodes, Ints; of package rex: Empty.
-/
namespace Go.Proofs.YthcahjnniendnacGreatDoor
open Go.RowKit Wf

def NodesIs (a b : List Nd) (w : World) (e : Ending) (w' : World) : Prop := ∃ r : Bool, e = .returned (.bool r) ∧ (r = true ↔ a = b) ∧ Below w.heap.size w w'

theorem below_drewN {B : Nat} {a w : World} (h : Below B a w) (n : Nat) : Below B a (w.drewN n) := ⟨h.os, h.tape, h.output, h.size, h.block⟩

theorem take_snoc {α : Type} {l : List α} {k : Nat} {x : α} (h : l[k]? = some x) : l.take (k + 1) = l.take k ++ [x] := by
  rw [List.take_add_one, h]; rfl

theorem nd_eq (n m : Nd) : n = m ↔ n.op = m.op ∧ n.cls = m.cls := by
  cases n; cases m; simp

theorem list_eq_of {α : Type} {a b : List α} {k : Nat} (h : a.take k = b.take k) (hk : k = a.length) (hl : a.length = b.length) : a = b := by
  rw [List.take_of_length_le (by omega), List.take_of_length_le (by omega)] at h
  exact h

theorem list_ne_of {α : Type} {a b : List α} {k : Nat} {x y : α} (hx : a[k]? = some x) (hy : b[k]? = some y) (h : x ≠ y) : a ≠ b := by
  rintro rfl
  rw [hx] at hy
  exact h (Option.some.inj hy)

set_option maxRecDepth 100000 in
set_option maxHeartbeats 4000000 in
theorem Nodes_any (a b : List Nd) (va vb : Value) (w : World) (ha : RdN w va a) (hb : RdN w vb b) : Calls Tryz.prog 14 #[va, vb] w (NodesIs a b w) := by
  obtain ⟨A, ca, rfl, hca, hca2, hma⟩ := ha.open_
  obtain ⟨B, cb, rfl, hcb, hcb2, hmb⟩ := hb.open_
  have MA := Lib.hid hma
  have MB := Lib.hid hmb
  clear hma hmb ha hb
  by_cases hl : a.length = b.length
  · have hne : ((a.length : Int) != (b.length : Int)) = false := by rw [hl]; simp
    have HL := Lib.hid hl
    have hlen1 : a.length ≤ b.length := by omega
    have hlen2 : b.length ≤ a.length := by omega
    clear hl
    go_enter Tryz.func14, Tryz.ntmps14
    go_wp2
    go_loopw [5] (fun v5 wr => ∃ k : Nat, k ≤ a.length ∧ v5 = .int .i64 k ∧ Hid (a.take k = b.take k) ∧ Below w.heap.size w wr) (fun i _ => a.length - (intOf i).toNat)
    case atStart => exact ⟨0, by omega, rfl, Lib.hid rfl, Below.refl _ _⟩
    case round =>
      obtain ⟨k, hk, rfl, HT, hbl⟩ := hrel
      by_cases hlt : k < a.length
      · obtain ⟨b1, off1, rfl, hb1, hc1⟩ := MA.out (by omega)
        obtain ⟨b2, off2, rfl, hb2, hc2⟩ := MB.out (by omega)
        obtain ⟨n, hn⟩ := getD_get hlt
        obtain ⟨m, hm⟩ := getD_get (show k < b.length by omega)
        obtain ⟨g0, g1, g2, g3, g4⟩ := hc1 wr (fun o => hbl.cell (p := ⟨b1, o, none⟩) hb1) k n hn
        obtain ⟨q0, q1, q2, q3, q4⟩ := hc2 wr (fun o => hbl.cell (p := ⟨b2, o, none⟩) hb2) k m hm
        have heq := nd_eq n m
        have hdec := nd5_iff n.op m.op n.cls.1 n.cls.2.1 n.cls.2.2.1 n.cls.2.2.2 m.cls.1 m.cls.2.1 m.cls.2.2.1 m.cls.2.2.2
        have hyes : n = m → Hid (a.take (k + 1) = b.take (k + 1)) := fun h => Lib.hid (by rw [take_snoc hn, take_snoc hm, HT.out, h])
        have hno : n ≠ m → a ≠ b := fun h => list_ne_of hn hm h
        have HY := Lib.hid hyes
        have HNO := Lib.hid hno
        have HE := Lib.hid heq
        clear hyes hno heq hn hm hc1 hc2
        obtain ⟨op, c0, c1, c2, c3⟩ := n
        obtain ⟨op', d0, d1, d2, d3⟩ := m
        dsimp only at g0 g1 g2 g3 g4 q0 q1 q2 q3 q4 hdec
        have HDEC := Lib.hid hdec
        clear hdec
        have hk0 : (0 : Int) ≤ (k : Int) := by omega
        have hk1 : (k : Int) < (a.length : Int) := by omega
        have hk2 : (k : Int) < (b.length : Int) := by omega
        cases hcase : nd5 op c0 c1 c2 c3 op' d0 d1 d2 d3
        · go_wp2
          go_quiet (fail)
          go_wp2
          go_ret
          refine ⟨_, rfl, ⟨(fun h => by cases h), fun h => absurd h (HNO.out ?_)⟩, below_drewN hbl _⟩
          intro h
          have := HDEC.out.2 (HE.out.1 h)
          rw [hcase] at this
          cases this
        · go_wp2
          go_quiet (fail)
          go_wp2
          go_roundw
          case rel => exact ⟨k + 1, by omega, by go_num, HY.out (HE.out.2 (HDEC.out.1 hcase)), below_drewN hbl _⟩
          case measure => simp [intOf]; omega
      · obtain rfl : k = a.length := by omega
        go_wp2
        go_ret
        exact ⟨_, rfl, ⟨fun _ => list_eq_of HT.out rfl HL.out, fun _ => rfl⟩, hbl⟩
  · have hne : ((a.length : Int) != (b.length : Int)) = true := by simp; omega
    have HL := Lib.hid hl
    clear hl
    go_enter Tryz.func14, Tryz.ntmps14
    go_wp2
    go_ret
    exact ⟨_, rfl, ⟨(fun h => by cases h), fun h => absurd (congrArg List.length h) HL.out⟩, Below.refl _ _⟩

/-- What the round's row holds: behind place m whether each part may be nothing. -/
def MayTo (l : List Nd) (m : Nat) (cs : Array Value) : Prop := cs.size = l.length ∧ (∀ j, j < cs.size → ∃ x : Bool, cs[j]? = some (.bool x)) ∧ (∀ j, j < m → j < cs.size → cs[j]? = some (.bool false)) ∧ ∀ j u, m ≤ j → At l j u → cs[j]? = some (.bool (may u))

theorem MayTo.start (l : List Nd) : MayTo l l.length (repA l.length (.bool false)) := by
  refine ⟨repA_size _ _, fun j hj => ⟨false, repA_get _ _ _ (by rw [repA_size] at hj; exact hj)⟩, fun j hj _ => repA_get _ _ _ hj, fun j u hj h => ?_⟩
  have := h.lt
  have := flat_pos u
  omega

theorem MayTo.step {l : List Nd} {i : Nat} {cs : Array Value} {u : Rx} (h : MayTo l (i + 1) cs) (hu : At l i u) : MayTo l i (cs.setIfInBounds i (.bool (may u))) := by
  obtain ⟨h1, h2, h0, h3⟩ := h
  have hlt := hu.lt
  have hp := flat_pos u
  refine ⟨by simpa using h1, fun j hj => ?_, fun j hj hj' => ?_, fun j v hj hv => ?_⟩
  · rw [Array.getElem?_setIfInBounds]
    split
    · exact ⟨_, by rw [if_pos (by simp at hj; omega)]⟩
    · exact h2 j (by simpa using hj)
  · rw [Array.getElem?_setIfInBounds]
    split
    · omega
    · exact h0 j (by omega) (by simpa using hj')
  · rw [Array.getElem?_setIfInBounds]
    split
    · rename_i e
      subst e
      rw [hv.inj hu]
      rw [if_pos (by omega)]
    · exact h3 j v (by omega) hv

theorem MayTo.skip {l : List Nd} {i : Nat} {cs : Array Value} {u : Rx} (h : MayTo l (i + 1) cs) (hu : At l i u) (hm : may u = false) : MayTo l i cs := by
  obtain ⟨h1, h2, h0, h3⟩ := h
  have hlt := hu.lt
  have hp := flat_pos u
  refine ⟨h1, h2, fun j hj hj' => h0 j (by omega) hj', fun j v hj hv => ?_⟩
  by_cases e : j = i
  · subst e
    rw [hv.inj hu, hm]
    exact h0 j (by omega) (by omega)
  · exact h3 j v (by omega) hv

def EmptyIs (t : Rx) (w : World) (e : Ending) (w' : World) : Prop := e = .returned (.tuple #[.bool (may t), .nilIface]) ∧ Below w.heap.size w w'

end Go.Proofs.YthcahjnniendnacGreatDoor
