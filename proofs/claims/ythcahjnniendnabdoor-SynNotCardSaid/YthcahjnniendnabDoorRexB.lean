/-
  Walks of package rex: Ends.
-/
import Derived.Test.YthcahjnniendnabDoorRexA
namespace Go.Proofs.YthcahjnniendnabDoor
open Go.RowKit Wf

theorem info_int : (Tryd.prog.info? 3).map (fun i => (i.zero, i.size, i.bytes)) = some (some (.int .i64 0), 1, 8) := by kernel_rfl
theorem info_bool : (Tryd.prog.info? 4).map (fun i => (i.zero, i.size, i.bytes)) = some (some (.bool false), 1, 1) := by kernel_rfl

theorem mk_ints (n : Nat) (h : n ≤ 100000) (w : World) : (Instr.makeSlice 41 (.int .i64 (n : Int)) (.int .i64 (n : Int))).run Tryd.prog w = .ok (.slice (some ⟨w.heap.size, 0, none⟩) n n) (w.alloc (.cells (repA n (.int .i64 0)) 3)) := by
  obtain ⟨i0, hi0, hz0, hz1, hz2⟩ := info_parts info_int
  exact run_mk _ _ i0 _ Tryd.underlying41 hi0 hz0 hz1 rfl n (by rw [hz2]; omega) (by omega) w
theorem mk_bools (n : Nat) (h : n ≤ 100000) (w : World) : (Instr.makeSlice 103 (.int .i64 (n : Int)) (.int .i64 (n : Int))).run Tryd.prog w = .ok (.slice (some ⟨w.heap.size, 0, none⟩) n n) (w.alloc (.cells (repA n (.bool false)) 4)) := by
  obtain ⟨i0, hi0, hz0, hz1, hz2⟩ := info_parts info_bool
  exact run_mk _ _ i0 _ Tryd.underlying103 hi0 hz0 hz1 rfl n (by rw [hz2]; omega) (by omega) w

/-- A row of numbers as cells. -/
def natVals (xs : List Nat) : List Value := xs.map fun (n : Nat) => Value.int .i64 (n : Int)

def EndsIs (l : List Nd) (w : World) (e : Ending) (w' : World) : Prop :=
  ∃ (g : Nat) (xs : List Nat), e = .returned (.slice (some ⟨g, 0, none⟩) l.length l.length) ∧ IsEnds l xs ∧ w.heap.size ≤ g ∧ g < w'.heap.size ∧ (∀ (j x : Nat), xs[j]? = some x → w'.cell? ⟨g, j, none⟩ = some (.int .i64 (x : Int))) ∧ Below w.heap.size w w'

/-- What the round's row holds: behind place m all parts' ends. -/
def EndsTo (l : List Nd) (m : Nat) (cs : Array Value) : Prop := cs.size = l.length ∧ (∀ j, j < cs.size → ∃ x : Int, cs[j]? = some (.int .i64 x)) ∧ ∀ j u, m ≤ j → At l j u → cs[j]? = some (.int .i64 ((j + (flat u).length : Nat) : Int))

theorem EndsTo.start (l : List Nd) : EndsTo l l.length (repA l.length (.int .i64 0)) := by
  refine ⟨repA_size _ _, fun j hj => ⟨0, repA_get _ _ _ (by rw [repA_size] at hj; exact hj)⟩, fun j u hj h => ?_⟩
  have := h.lt
  have := flat_pos u
  omega

theorem EndsTo.step {l : List Nd} {i : Nat} {cs : Array Value} {u : Rx} (h : EndsTo l (i + 1) cs) (hu : At l i u) : EndsTo l i (cs.setIfInBounds i (.int .i64 ((i + (flat u).length : Nat) : Int))) := by
  obtain ⟨h1, h2, h3⟩ := h
  have hlt := hu.lt
  have hp := flat_pos u
  refine ⟨by simpa using h1, fun j hj => ?_, fun j v hj hv => ?_⟩
  · rw [Array.getElem?_setIfInBounds]
    split
    · exact ⟨_, by rw [if_pos (by simp at hj; omega)]⟩
    · exact h2 j (by simpa using hj)
  · rw [Array.getElem?_setIfInBounds]
    split
    · rename_i e
      subst e
      rw [hv.inj hu]
      rw [if_pos (by omega)]
    · exact h3 j v (by omega) hv

theorem EndsTo.done {t : Rx} {cs : Array Value} (h : EndsTo (flat t) 0 cs) : ∃ xs : List Nat, IsEnds (flat t) xs ∧ ∀ (j x : Nat), xs[j]? = some x → cs[j]? = some (.int .i64 (x : Int)) := by
  obtain ⟨h1, h2, h3⟩ := h
  have key : ∀ j, j < (flat t).length → ∃ n : Nat, cs[j]? = some (.int .i64 (n : Int)) ∧ ∀ u, At (flat t) j u → n = j + (flat u).length := by
    intro j hj
    obtain ⟨u, hu⟩ := at_each t j hj
    exact ⟨_, h3 j u (by omega) hu, fun v hv => by rw [hv.inj hu]⟩
  have build : ∀ m, m ≤ (flat t).length → ∃ xs : List Nat, xs.length = m ∧ ∀ j, j < m → ∃ n, xs[j]? = some n ∧ cs[j]? = some (.int .i64 (n : Int)) ∧ ∀ u, At (flat t) j u → n = j + (flat u).length := by
    intro m
    induction m with
    | zero => intro _; exact ⟨[], rfl, fun j hj => by omega⟩
    | succ m ih =>
      intro hm
      obtain ⟨xs, hl, hx⟩ := ih (by omega)
      obtain ⟨n, hn⟩ := key m (by omega)
      refine ⟨xs ++ [n], by simp [hl], fun j hj => ?_⟩
      by_cases hjm : j < m
      · obtain ⟨k, hk⟩ := hx j hjm
        exact ⟨k, by rw [List.getElem?_append_left (by omega)]; exact hk.1, hk.2⟩
      · obtain rfl : j = m := by omega
        exact ⟨n, by simp [hl], hn⟩
  obtain ⟨xs, hl, hx⟩ := build _ (Nat.le_refl _)
  refine ⟨xs, ⟨hl, fun i u hu => ?_⟩, fun j x hxj => ?_⟩
  · have := hu.lt
    have := flat_pos u
    obtain ⟨n, hn, _, h⟩ := hx i (by omega)
    rw [hn, h u hu]
  · obtain ⟨n', hn', hc, _⟩ := hx j (by
      have := (List.getElem?_eq_some_iff.1 hxj).1
      omega)
    rw [hn'] at hxj
    cases hxj
    exact hc

set_option maxRecDepth 100000 in
set_option maxHeartbeats 4000000 in
theorem Ends_any (l : List Nd) (t : Rx) (hl : l = flat t) (v : Value) (w : World) (ht : l.length ≤ 60) (hr : RdN w v l) : Calls Tryd.prog 58 #[v] w (EndsIs l w) := by
  obtain ⟨A, cap, rfl, hcap, hcap2, hmem⟩ := hr.open_
  have hall : ∀ i, i < l.length → ∃ u, At l i u := fun i hi => by subst hl; exact at_each t i hi
  have hdone : ∀ cs, EndsTo l 0 cs → ∃ xs : List Nat, IsEnds l xs ∧ ∀ (j x : Nat), xs[j]? = some x → cs[j]? = some (.int .i64 (x : Int)) := fun cs h => by subst hl; exact h.done
  have hpos : 0 < l.length := by rw [hl]; exact flat_pos t
  obtain ⟨b, off, rfl, hbl, hcells⟩ := hmem hpos
  have HD := Lib.hid hdone
  have HA := Lib.hid hall
  have HC := Lib.hid hcells
  clear hdone hall hcells hr hmem hl
  have hmk := fun W => mk_ints l.length (by omega) W
  have hstart := Lib.hid (EndsTo.start l)
  go_enter Tryd.func58, Tryd.ntmps58
  go_wp2
  clear hmk
  go_loopw [4] (fun v4 wr => ∃ (m : Nat) (cs : Array Value), m ≤ l.length ∧ v4 = .int .i64 ((m : Int) - 1) ∧ Hid (EndsTo l m cs) ∧ Blk wr w.heap.size 3 cs ∧ Below w.heap.size w wr) (fun i _ => (intOf i + 1).toNat)
  case atStart => exact ⟨l.length, _, by omega, rfl, hstart, Blk.new _ _ _, (Below.refl _ _).alloc (Nat.le_refl _) _⟩
  case round =>
    obtain ⟨m, cs, hm, hv4, HE, hblk, hb⟩ := hrel
    rcases m with _ | i
    · obtain rfl : u4 = .int .i64 (-1) := hv4
      go_wp2
      go_ret
      obtain ⟨xs, hx1, hx3⟩ := HD.out cs HE.out
      exact ⟨_, xs, rfl, hx1, Nat.le_refl _, hblk.lt, fun j x hx => by rw [hblk.cell]; exact hx3 j x hx, hb⟩
    · obtain rfl : u4 = .int .i64 (i : Int) := by rw [hv4]; congr 1; omega
      clear hv4
      obtain ⟨u, hu⟩ := HA.out i (by omega)
      obtain ⟨⟨op, cl⟩, hn, hpn, _⟩ := hu.node
      have hilt : i < l.length := by omega
      obtain ⟨g0, _, _, _, _⟩ := HC.out wr (fun o => hb.cell (p := ⟨b, o, none⟩) hbl) i _ hn
      dsimp only at hpn g0
      have hp2 := parts_le op
      have hkid : ∀ j, j < parts op → ∃ v, (kids u)[j]? = some v := fun j hj => ⟨_, List.getElem?_eq_getElem (by omega)⟩
      have hnext : ∀ j, j < parts op → ∃ e' : Nat, i + pre u j < l.length ∧ e' ≤ l.length ∧ e' = i + pre u (j + 1) ∧ cs[i + pre u j]? = some (.int .i64 (e' : Int)) := fun j hj => by
        obtain ⟨v, hv⟩ := hkid j hj
        have hat := hu.kid j v hv
        have h1 := hat.lt
        have h2 := flat_pos v
        have h3 := pre_succ u j v hv
        refine ⟨i + pre u j + (flat v).length, by omega, by omega, by omega, ?_⟩
        rw [HE.out.2.2 (i + pre u j) v (by unfold pre; omega) hat]
      have hend : pre u (parts op) = (flat u).length := by rw [hpn]; exact pre_all u
      have hlast := hu.lt
      have hstep := EndsTo.step HE.out hu
      obtain ⟨x0, hx0⟩ := HE.out.2.1 i (by rw [HE.out.1]; exact hilt)
      have gst : wr.cell? ⟨w.heap.size, i, none⟩ = some (.int .i64 x0) := by rw [hblk.cell]; exact hx0
      have gfr : wr.frozen? ⟨w.heap.size, i, none⟩ = false := hblk.frozen i
      have HB := Lib.hid hblk
      have HN := Lib.hid hnext
      have HEND := Lib.hid hend
      have HS := Lib.hid hstep
      have hlast' := Lib.hid hlast
      have h10 : pre u 0 = 1 := pre_zero u
      have H10 := Lib.hid h10
      clear hkid hnext hend hpn hn hu hstep hblk hlast h10 HC HA HE hx0
      have hmul : Hid (i + 1 = i + pre u 0) := by rw [H10.out]; exact Lib.hid rfl
      go_wp2_with (go_at_call 85; refine (Parts_any _ _).mono ?_; rintro e w' ⟨rfl, rfl⟩)
      go_loop [5, 24] (fun v5 v24 => ∃ j e : Nat, j ≤ parts op ∧ v24 = .int .i64 (j : Int) ∧ v5 = .int .i64 (e : Int) ∧ Hid (e = i + pre u j)) (fun _ i => parts op - (intOf i).toNat)
      case atStart => exact ⟨0, i + 1, by omega, rfl, by go_num, hmul⟩
      case round =>
        obtain ⟨j, e, hj, rfl, rfl, he⟩ := hrel
        by_cases hlt : j < parts op
        · obtain ⟨e', h1, h2, h3, h4⟩ := HN.out j hlt
          rw [← he.out] at h1 h4
          have gl : wr.cell? ⟨w.heap.size, e, none⟩ = some (.int .i64 (e' : Int)) := by rw [HB.out.cell]; exact h4
          have H3 := Lib.hid h3
          clear h3 h4
          go_wp2
          go_round
          case rel => exact ⟨j + 1, e', by omega, by go_num, rfl, H3⟩
          case measure => simp [intOf]; omega
        · obtain rfl : j = parts op := by omega
          have he2 : Hid (e = i + (flat u).length) := by have := he.out; rw [HEND.out] at this; exact this
          go_wp2
          go_roundw
          case rel => 
            refine ⟨i, cs.setIfInBounds i (.int .i64 (e : Int)), by omega, rfl, ?_, HB.out.set_ _ _, hb.setCell (Nat.le_refl _) _⟩
            have := HS.out
            rw [← he2.out] at this
            exact this
          case measure => simp [intOf]

end Go.Proofs.YthcahjnniendnabDoor
