/-
  Grow, Turn.
-/
import Derived.Test.YthcahjnniendnabGreatDoorGRex
import Derived.Laws.Append
import Derived.Deep.AppendLies
import Derived.Deep.RegionHeld3
import Derived.Deep.DeepCutAuto
/-
  Walks of slices.Grow and slices.Concat at rows of nodes.
-/
namespace Go.Proofs.YthcahjnniendnabGreatDoor
open Go.RowKit Wf

theorem info_node : (Tryz.prog.info? 43).map (fun i => (i.zero, i.size, i.bytes)) = some (some (.agg #[.int .i64 0, .int .u64 0, .int .u64 0, .int .u64 0, .int .u64 0]), 5, 40) := by kernel_rfl

theorem run_append_make_nil {P : Program} (w : World) (t ti ty e : TypeId) (i : TypeInfo) (z : Value) (k : IntKind) (ht : P.underlying t = some (.slice e)) (hti : P.underlying ti = some (.int k)) (hi : P.info? e = some i) (hz : i.zero = some z)
    (n : Nat) (h0 : 0 < n) (h63 : n ≤ 1000000) (h48 : n * i.bytes ≤ 281474976710656) (hne : n * i.size ≠ 0) :
    (Builtin.append_ #[t, ti] ty #[.slice none 0 0, .int .i64 (n : Int)]).run P w =
      .ok (.slice (some ⟨w.heap.size, 0, none⟩) n (grownCap w n 0 e)) (w.drew.alloc (.cells (Builtin.zeroCells z.cells n ++ Builtin.zeroCells z.cells (grownCap w n 0 e - n)) e)) := by
  have hn : n ≠ 0 := by omega
  have h63' : ¬ (9223372036854775807 < (n : Int)) := by omega
  have h48' : ¬ (281474976710656 < Builtin.nextslicecap n 0 * i.bytes) := by rw [nextslicecap_zero h0]; omega
  have hw : IntKind.i64.wrap (n : Int) = n := by rw [IntKind.wrap_i64]; omega
  have h1 : ¬ ((n : Int) < 0) := by omega
  have h2 : ¬ (281474976710656 < (n : Int) * (i.bytes : Int)) := by
    have : (n : Int) * (i.bytes : Int) = ((n * i.bytes : Nat) : Int) := by rw [Int.natCast_mul]
    omega
  simp [Builtin.append_, run_underlying ht, run_underlying hti, sizeOf, typeInfo, zeroValue, hi, hz, asInt, asIntOf, hw, h1, h2, hn, h63', h48', hne, Question.forced, run_firstCells_none, newRow, grownCap]

theorem wpList_append_make {P : Program} (w : World) {ops : Array Oper} {rest : List Oper} {o : Oper} {a : Act} {Q : Exit → Act → World → Prop} (hgd : o.guard = none) (s x : Operand) (t ti : TypeId)
    (ho : o.op = .call { callee := .builtin .append, args := #[s, x], argTypes := #[t, ti] }) (v u : Value) (hs : a.eval s = v) (hx : a.eval x = u) (r : Value) (w' : World)
    (hrun : (Builtin.append_ #[t, ti] o.type #[v, u]).run P w = .ok r w') (h : wpList P ops Q rest (a.put o.dst r) w') : wpList P ops Q (o :: rest) a w :=
  wpList_plain hgd fun _ hK => by
    unfold Oper.wp execOp
    simp only [ho, resolve, invoke, builtin, Sem.run_bind, Sem.run_pure, Result.andThen_ok, List.map_toArray, List.map_cons, List.map_nil, hs, hx, hrun]
    exact hK _ _ h

def GrowIs (n : Nat) (w : World) (e : Ending) (w' : World) : Prop :=
  ∃ g cap, e = .returned (.slice (some ⟨g, 0, none⟩) 0 cap) ∧ w'.ownsRow w.heap.size 43 5 (.slice (some ⟨g, 0, none⟩) 0 cap) 0 [] ∧ Below w.heap.size w w'

set_option maxRecDepth 100000 in
set_option maxHeartbeats 4000000 in
theorem Grow_any (n : Nat) (w : World) (h0 : 0 < n) (h1 : n ≤ 10000) : Calls Tryz.prog 59 #[.slice none 0 0, .int .i64 (n : Int)] w (GrowIs n w) := by
  obtain ⟨i0, hi0, hz0, hz1, hz2⟩ := info_parts info_node
  have hap := fun W => run_append_make_nil (P := Tryz.prog) W 22 3 22 43 i0 _ .i64 Tryz.underlying22 Tryz.underlying3 hi0 hz0 n h0 (by omega) (by rw [hz2]; omega) (by rw [hz1]; omega)
  have hfin : ∀ W : World, ∃ cap : Nat, cap = grownCap W n 0 43 ∧ n ≤ cap ∧ cap ≤ maxLen := fun W => ⟨_, rfl, grownCap_ge W n 0 _, grownCap_le_maxLen W n 0 _ (by unfold maxLen; omega)⟩
  obtain ⟨cap, hcap, hge, hle⟩ := hfin w
  have hle' : cap ≤ 9223372036854775807 := by unfold maxLen at hle; omega
  have hap' := hap w
  rw [← hcap] at hap'
  have hsz : ∀ z : Array Value, z.size = 5 → (Builtin.zeroCells z n ++ Builtin.zeroCells z (cap - n)).size = cap * 5 := fun z hz => by
    rw [Array.size_append, size_zeroCells, size_zeroCells, hz]; omega
  have HS := Lib.hid hsz
  have hge' : (n : Int) ≤ (cap : Int) := by omega
  have hn0 : (0 : Int) < (n : Int) := by omega
  have HAP := Lib.hid hap'
  clear hfin hcap hap hsz hi0 hz0 hz1 hz2 hap'
  go_enter Tryz.func59, Tryz.ntmps59
  go_wp2_with (at_builtin; refine wpList_append_make _ rfl (.tmp 20) (.tmp 21) _ _ rfl _ _ rfl rfl _ _ HAP.out ?_)
  go_ret
  refine ⟨_, cap, rfl, ?_, ?_⟩
  · exact World.ownsRow_made w.drew _ cap (Nat.le_refl _) hle (HS.out _ rfl)
  · exact ((Below.refl _ _).drew).alloc (Nat.le_refl _) _

end Go.Proofs.YthcahjnniendnabGreatDoor

/-
  Walks of slices.Concat at rows of nodes; of package rex: turner.turn, Turn.
-/
namespace Go.Proofs.YthcahjnniendnabGreatDoor
open Go.RowKit Wf

theorem flatten_take_succ {α : Type} {ls : List (List α)} {k : Nat} {x : List α} (h : ls[k]? = some x) : (ls.take (k + 1)).flatten = (ls.take k).flatten ++ x := by
  rw [take_snoc h]; simp
theorem flatten_take_le {α : Type} (ls : List (List α)) (k : Nat) : (ls.take k).flatten.length ≤ ls.flatten.length := by
  have h : (ls.take k ++ ls.drop k).flatten.length = ls.flatten.length := by rw [List.take_append_drop]
  simp only [List.flatten_append, List.length_append] at h
  omega

/-- A row of nodes in new memory, with its room. -/
def OwnN (w : World) (base : Nat) (v : Value) (l : List Nd) : Prop := w.ownsRow base 43 5 v l.length (l.flatMap ndCells)
theorem OwnN.rd {w : World} {base : Nat} {v : Value} {l : List Nd} (h : OwnN w base v l) : RdN w v l := Rd.of_own h

def ConcatIs (l : List Nd) (w : World) (e : Ending) (w' : World) : Prop :=
  ∃ g cap, e = .returned (.slice (some ⟨g, 0, none⟩) l.length cap) ∧ OwnN w' w.heap.size (.slice (some ⟨g, 0, none⟩) l.length cap) l ∧ Below w.heap.size w w'

set_option maxRecDepth 100000 in
set_option maxHeartbeats 4000000 in
theorem Concat_any (ls : List (List Nd)) (vs : List Value) (b cap0 : Nat) (w : World) (hlen : vs.length = ls.length) (hcap : vs.length ≤ cap0) (hcap2 : cap0 ≤ 9223372036854775807) (hfew : ls.length ≤ 100)
    (hc : ∀ (j : Nat) (u : Value), vs[j]? = some u → w.cell? ⟨b, j, none⟩ = some u) (hbl : b < w.heap.size)
    (hr : ∀ (j : Nat) (u : Value) (l : List Nd), vs[j]? = some u → ls[j]? = some l → RdN w u l ∧ 0 < l.length) (h0 : 0 < ls.flatten.length) (h1 : ls.flatten.length ≤ 10000) :
    Calls Tryz.prog 34 #[.slice (some ⟨b, 0, none⟩) vs.length cap0] w (ConcatIs ls.flatten w) := by
  obtain ⟨i0, hi0, hz0, hz1, hz2⟩ := info_parts info_node
  have HC := Lib.hid hc
  have HR := Lib.hid hr
  have HL := Lib.hid hlen
  have hfew' : vs.length ≤ 100 := by omega
  have hle : ∀ k, (ls.take k).flatten.length ≤ ls.flatten.length := flatten_take_le ls
  have HLE := Lib.hid hle
  have hall : (ls.take vs.length).flatten = ls.flatten := by rw [hlen, List.take_length]
  have HALL := Lib.hid hall
  clear hc hr hlen hle hall
  go_enter Tryz.func34, Tryz.ntmps34
  go_wp2
  go_loop [3, 11] (fun v3 v11 => ∃ k n : Nat, k ≤ vs.length ∧ v11 = .int .i64 (k : Int) ∧ v3 = .int .i64 (n : Int) ∧ Hid (n = (ls.take k).flatten.length)) (fun _ i => vs.length - (intOf i).toNat)
  case atStart => exact ⟨0, 0, by omega, rfl, rfl, Lib.hid rfl⟩
  case round =>
    obtain ⟨k, n, hk, rfl, rfl, hn⟩ := hrel
    by_cases hlt : k < vs.length
    · obtain ⟨u, hu⟩ := getD_get hlt
      obtain ⟨l, hl⟩ := getD_get (show k < ls.length by rw [← HL.out]; exact hlt)
      obtain ⟨hrn, hpos⟩ := HR.out k u l hu hl
      obtain ⟨A, cap, rfl, _, _, _⟩ := hrn.open_
      have hcell := HC.out k _ hu
      have hnext : (ls.take (k + 1)).flatten.length = n + l.length := by rw [flatten_take_succ hl, List.length_append, hn.out]
      have hb1 := HLE.out (k + 1)
      have hbound : n + l.length ≤ 10000 := by omega
      have HN := Lib.hid hnext
      clear hnext hb1 hu hl hrn
      go_wp2
      go_round
      case rel => exact ⟨k + 1, n + l.length, by omega, by go_num, by go_num, Lib.hid HN.out.symm⟩
      case measure => simp [intOf]; omega
    · obtain rfl : k = vs.length := by omega
      have hnn : n = ls.flatten.length := by rw [hn.out, HALL.out]
      have hn0 : 0 < n := by omega
      have hn1 : n ≤ 10000 := by omega
      have HNN := Lib.hid hnn
      clear hnn hn
      go_wp2_with fail
      refine (Grow_any n _ hn0 hn1).mono ?_
      rintro e w1 ⟨g, cap, rfl, hown, hb1⟩
      have hown' : Hid (w1.ownsRow w.heap.size 43 5 (.slice (some ⟨g, 0, none⟩) 0 cap) 0 ((ls.take 0).flatten.flatMap ndCells)) := Lib.hid hown
      clear hown
      go_wp2_with fail
      go_loopw [6, 27] (fun v6 v27 wr => ∃ (k g m cap : Nat), k ≤ vs.length ∧ v27 = .int .i64 (k : Int) ∧ v6 = .slice (some ⟨g, 0, none⟩) m cap ∧ Hid (m = (ls.take k).flatten.length) ∧ Hid (wr.ownsRow w.heap.size 43 5 v6 m ((ls.take k).flatten.flatMap ndCells)) ∧ Below w.heap.size w wr) (fun _ i _ => vs.length - (intOf i).toNat)
      case atStart => exact ⟨0, g, 0, cap, by omega, rfl, rfl, Lib.hid rfl, hown', hb1⟩
      case round =>
        obtain ⟨k, g, m, cap, hk, rfl, rfl, hm0, hown, hbr⟩ := hrel
        by_cases hlt : k < vs.length
        · obtain ⟨u, hu⟩ := getD_get hlt
          obtain ⟨l, hl⟩ := getD_get (show k < ls.length by rw [← HL.out]; exact hlt)
          obtain ⟨hrn, hpos⟩ := HR.out k u l hu hl
          obtain ⟨A, q, capu, rfl, hm, hsrc⟩ := (hrn.below hbr).src (by omega)
          rw [flatMap_len] at hm
          obtain rfl : q = l.length := by omega
          obtain ⟨ad, rfl, hadb, hcells⟩ := hsrc hpos
          have hcell := (hbr.cell (p := ⟨b, k, none⟩) hbl).trans (HC.out k _ hu)
          have hnext : (ls.take (k + 1)).flatten = (ls.take k).flatten ++ l := flatten_take_succ hl
          have hb1 := HLE.out (k + 1)
          have hbound : m + l.length ≤ 10000 := by rw [hnext, List.length_append, ← hm0.out] at hb1; omega
          have hone := ndCells_one l
          have hnl : (l.flatMap ndCells).length = l.length * 5 := flatMap_len l
          have HN := Lib.hid hnext
          have HCS := Lib.hid hcells
          have HONE := Lib.hid hone
          have HNL := Lib.hid hnl
          have hbase := hbr.size
          clear hnext hb1 hu hl hrn hcells hone hnl hm hsrc
          go_wp2_with (at_builtin; refine wpList_append_lies _ rfl (.tmp 31) (.tmp 32) _ rfl w.heap.size 43 i0 _ 5 40 Tryz.underlying22 hi0 hz0 hz1 hz2 rfl (by omega) _ _ _ rfl hown.out _ l.length _ (l.flatMap ndCells) rfl HNL.out HCS.out HONE.out hpos (by unfold maxLen; omega) (by omega) hbase _ rfl ?_; intro g2 cap2 w2 hown2 hgrow2 hat2 hlt2)
          go_roundw
          case rel =>
            refine ⟨k + 1, g2, m + l.length, cap2, by omega, by go_num, rfl, Lib.hid (by rw [HN.out, List.length_append, ← hm0.out]), Lib.hid (by rw [HN.out, List.flatMap_append]; exact hown2), ?_⟩
            exact hbr.grown hgrow2 hbase fun q hq => (hown.out.lt q hq).1
          case measure => simp [intOf]; omega
        · obtain rfl : k = vs.length := by omega
          have h1 : m = ls.flatten.length := by rw [hm0.out, HALL.out]
          have h2 := hown.out
          rw [HALL.out, h1] at h2
          have H1 := Lib.hid h1
          have H2 := Lib.hid h2
          clear h1 h2
          go_wp2
          go_ret
          exact ⟨g, cap, by rw [H1.out]; rfl, H2.out, hbr⟩

theorem Concat3 (l1 l2 l3 : List Nd) (v1 v2 v3 : Value) (b : Nat) (w : World) (h1 : RdN w v1 l1) (h2 : RdN w v2 l2) (h3 : RdN w v3 l3) (p1 : 0 < l1.length) (p2 : 0 < l2.length) (p3 : 0 < l3.length)
    (c1 : w.cell? ⟨b, 0, none⟩ = some v1) (c2 : w.cell? ⟨b, 1, none⟩ = some v2) (c3 : w.cell? ⟨b, 2, none⟩ = some v3) (hb : b < w.heap.size) (hle : l1.length + l2.length + l3.length ≤ 10000) :
    Calls Tryz.prog 34 #[.slice (some ⟨b, 0, none⟩) 3 3] w (ConcatIs (l1 ++ (l2 ++ l3)) w) := by
  have h := Concat_any [l1, l2, l3] [v1, v2, v3] b 3 w rfl (by simp) (by omega) (by simp) (by
      intro j u hj
      match j, hj with
      | 0, hj => simp at hj; subst hj; exact c1
      | 1, hj => simp at hj; subst hj; exact c2
      | 2, hj => simp at hj; subst hj; exact c3
      | j + 3, hj => simp at hj) hb (by
      intro j u l hj hl
      match j, hj, hl with
      | 0, hj, hl => simp at hj hl; subst hj hl; exact ⟨h1, p1⟩
      | 1, hj, hl => simp at hj hl; subst hj hl; exact ⟨h2, p2⟩
      | 2, hj, hl => simp at hj hl; subst hj hl; exact ⟨h3, p3⟩
      | j + 3, hj, hl => simp at hj) (by simp; omega) (by simp; omega)
  have e : [l1, l2, l3].flatten = l1 ++ (l2 ++ l3) := by simp
  rw [e] at h
  exact h

def TurnerIs (u : Rx) (w : World) (e : Ending) (w' : World) : Prop :=
  ∃ g cap, e = .returned (.slice (some ⟨g, 0, none⟩) (flat (turnT u)).length cap) ∧ RdN w' (.slice (some ⟨g, 0, none⟩) (flat (turnT u)).length cap) (flat (turnT u)) ∧ Below w.heap.size w w'

/-- The world as a turner wants it: its row of nodes, its row of ends. -/
structure TEnv (l : List Nd) (b off cap g : Nat) (w : World) : Prop where
  hr : RdN w (.slice (some ⟨b, off, none⟩) l.length cap) l
  hb : b < w.heap.size
  hg : g < w.heap.size
  hx : ∀ i u, At l i u → w.cell? ⟨g, i, none⟩ = some (.int .i64 ((i + (flat u).length : Nat) : Int))

theorem TEnv.below {l : List Nd} {b off cap g : Nat} {w w' : World} (h : TEnv l b off cap g w) (hb : Below w.heap.size w w') : TEnv l b off cap g w' :=
  ⟨h.hr.below hb, Nat.lt_of_lt_of_le h.hb hb.size, Nat.lt_of_lt_of_le h.hg hb.size, fun i u hu => by rw [hb.cell (p := ⟨g, i, none⟩) h.hg]; exact h.hx i u hu⟩

theorem TEnv.node {l : List Nd} {b off cap g : Nat} {w : World} (h : TEnv l b off cap g w) {i : Nat} {n : Nd} (hn : l[i]? = some n) :
    w.cell? ⟨b, off + i * 5, none⟩ = some (.int .i64 n.op) ∧ w.cell? ⟨b, off + i * 5 + 1, none⟩ = some (.int .u64 (n.cls.1 : Int)) ∧ w.cell? ⟨b, off + i * 5 + 2, none⟩ = some (.int .u64 (n.cls.2.1 : Int)) ∧
      w.cell? ⟨b, off + i * 5 + 3, none⟩ = some (.int .u64 (n.cls.2.2.1 : Int)) ∧ w.cell? ⟨b, off + i * 5 + 4, none⟩ = some (.int .u64 (n.cls.2.2.2 : Int)) := by
  obtain ⟨A, cap', hv, _, _, hm⟩ := h.hr.open_
  have hlt : i < l.length := by
    rcases Nat.lt_or_ge i l.length with h | h
    · exact h
    · rw [List.getElem?_eq_none h] at hn; cases hn
  obtain ⟨b', off', hA, _, hc⟩ := hm (by omega)
  cases hv
  cases hA
  exact hc w (fun _ => rfl) i n hn

theorem rd_lit (w : World) (B : Nat) (hB : w.heap.size = B) (op : Int) (c0 c1 c2 c3 : Nat) : RdN (w.alloc (.cells #[.int .i64 op, .int .u64 (c0 : Int), .int .u64 (c1 : Int), .int .u64 (c2 : Int), .int .u64 (c3 : Int)] 43)) (.slice (some ⟨B, 0, none⟩) 1 1) [⟨op, c0, c1, c2, c3⟩] := by
  subst hB
  refine ⟨_, 1, 1, rfl, by omega, by omega, rfl, fun _ => ⟨_, 0, rfl, fun j u hu => ?_⟩⟩
  rw [Nat.zero_add, World.cell?_alloc_new, ← hu]
  simp [ndCells]

theorem own_lit (w : World) (B : Nat) (hB : w.heap.size = B) (base : Nat) (hb : base ≤ w.heap.size) (op : Int) (c0 c1 c2 c3 : Nat) : (w.alloc (.cells #[.int .i64 op, .int .u64 (c0 : Int), .int .u64 (c1 : Int), .int .u64 (c2 : Int), .int .u64 (c3 : Int)] 43)).ownsRow base 43 5 (.slice (some ⟨B, 0, none⟩) 1 1) 1 (ndCells ⟨op, c0, c1, c2, c3⟩) := by
  subst hB
  exact World.ownsRow_lit w _ 1 hb (by unfold maxLen; omega) rfl

theorem own_below {w w' : World} {base size n : Nat} {e : TypeId} {v : Value} {xs : List Value} (h : w.ownsRow base e size v n xs) (hb : Below w.heap.size w w') : w'.ownsRow base e size v n xs := by
  obtain ⟨h1, h2⟩ := h
  refine ⟨h1, ?_⟩
  rcases h2 with h2 | ⟨g, cap, cur, hv, h3, h4, h5⟩
  · exact .inl h2
  · refine .inr ⟨g, cap, cur, hv, h3, ?_, h5⟩
    rw [hb.block g (Array.getElem?_eq_some_iff.1 h4).1]
    exact h4

set_option maxRecDepth 100000 in
set_option maxHeartbeats 4000000 in
theorem turn_any (l : List Nd) (hl60 : l.length ≤ 60) (b off cap g : Nat) (hcap : l.length ≤ cap) (hcap2 : cap ≤ 9223372036854775807) (k : Nat) : ∀ (u : Rx) (i : Nat) (w : World), (flat u).length ≤ k → At l i u → TEnv l b off cap g w →
    Calls Tryz.prog 19 #[.agg #[.slice (some ⟨b, off, none⟩) l.length cap, .slice (some ⟨g, 0, none⟩) l.length l.length], .int .i64 (i : Int)] w (TurnerIs u w) := by
  induction k with
  | zero => intro u i w h; have := flat_pos u; omega
  | succ k ih =>
    intro u i w hk hu henv
    obtain ⟨i0, hi0, hz0, hz1, hz2⟩ := info_parts info_node
    have hbb := henv.hb
    have hgg := henv.hg
    have hilt : i < l.length := by have := hu.lt; have := flat_pos u; omega
    have hnode := fun n => henv.node (i := i) (n := n)
    have IH := Lib.hid ih
    have HENV := Lib.hid henv
    clear ih henv
    cases u with
    | byte c =>
      obtain ⟨c0, c1, c2, c3⟩ := c
      obtain ⟨q0, q1, q2, q3, q4⟩ := hnode _ hu.byte
      dsimp only at q0 q1 q2 q3 q4
      clear hnode hu
      go_enter Tryz.func19, Tryz.ntmps19
      go_wp2_with (go_at_call 33; refine (Parts_any _ _).mono ?_; rintro e w' ⟨rfl, rfl⟩)
      go_ret
      exact ⟨_, 1, rfl, rd_lit _ _ (by simp) 1 c0 c1 c2 c3, (((Below.refl _ _).alloc (Nat.le_refl _) _).alloc (by simp <;> omega) _).alloc (by simp <;> omega) _⟩
    | empty =>
      obtain ⟨q0, q1, q2, q3, q4⟩ := hnode _ hu.empty
      dsimp only [zc] at q0 q1 q2 q3 q4
      clear hnode hu
      go_enter Tryz.func19, Tryz.ntmps19
      go_wp2_with (go_at_call 33; refine (Parts_any _ _).mono ?_; rintro e w' ⟨rfl, rfl⟩)
      go_ret
      exact ⟨_, 1, rfl, rd_lit _ _ (by simp) 2 0 0 0 0, (((Below.refl _ _).alloc (Nat.le_refl _) _).alloc (by simp <;> omega) _).alloc (by simp <;> omega) _⟩
    | bgn =>
      obtain ⟨q0, q1, q2, q3, q4⟩ := hnode _ hu.bgn
      dsimp only [zc] at q0 q1 q2 q3 q4
      clear hnode hu
      go_enter Tryz.func19, Tryz.ntmps19
      go_wp2_with (go_at_call 33; refine (Parts_any _ _).mono ?_; rintro e w' ⟨rfl, rfl⟩)
      go_ret
      exact ⟨_, 1, rfl, rd_lit _ _ (by simp) 9 0 0 0 0, (((Below.refl _ _).alloc (Nat.le_refl _) _).alloc (by simp <;> omega) _).alloc (by simp <;> omega) _⟩
    | fin =>
      obtain ⟨q0, q1, q2, q3, q4⟩ := hnode _ hu.fin
      dsimp only [zc] at q0 q1 q2 q3 q4
      clear hnode hu
      go_enter Tryz.func19, Tryz.ntmps19
      go_wp2_with (go_at_call 33; refine (Parts_any _ _).mono ?_; rintro e w' ⟨rfl, rfl⟩)
      go_ret
      exact ⟨_, 1, rfl, rd_lit _ _ (by simp) 8 0 0 0 0, (((Below.refl _ _).alloc (Nat.le_refl _) _).alloc (by simp <;> omega) _).alloc (by simp <;> omega) _⟩
    | star a =>
      obtain ⟨hn, ha⟩ := hu.star
      obtain ⟨q0, q1, q2, q3, q4⟩ := hnode _ hn
      dsimp only [zc] at q0 q1 q2 q3 q4
      have hlt := ha.lt
      have hka : (flat a).length ≤ k := by simp [flat] at hk; omega
      have hpa := flat_pos (turnT a)
      have hla := turn_len a
      have hcall := fun W h => IH.out a (i + 1) W hka ha h
      have HCALL := Lib.hid hcall
      have HLA := Lib.hid hla
      clear hnode hu hn ha hcall hla
      have hb3 : ∀ (o1 o2 o3 : Obj), Below w.heap.size w (((w.alloc o1).alloc o2).alloc o3) := fun o1 o2 o3 => (((Below.refl _ _).alloc (Nat.le_refl _) _).alloc (by simp <;> omega) _).alloc (by simp <;> omega) _
      have HB3 := Lib.hid hb3
      clear hb3
      go_enter Tryz.func19, Tryz.ntmps19
      go_wp2_with (go_at_call 33; refine (Parts_any _ _).mono ?_; rintro e w' ⟨rfl, rfl⟩)
      refine (HCALL.out _ (HENV.out.below (HB3.out _ _ _))).mono ?_
      rintro e w1 ⟨g1, cap1, rfl, hrd1, hb1⟩
      obtain ⟨A, q, capq, hv, hq, hsrc⟩ := hrd1.src (by omega)
      simp only [Value.slice.injEq] at hv
      obtain ⟨rfl, rfl, rfl⟩ := hv
      obtain ⟨ad, had, _, hcells⟩ := hsrc hpa
      have hown := own_below (own_lit ((w.alloc (.cells #[.slice (some ⟨b, off, none⟩) l.length cap, .slice (some ⟨g, 0, none⟩) l.length l.length] 66)).alloc (.cells #[.int .i64 5, .int .u64 0, .int .u64 0, .int .u64 0, .int .u64 0] 43)) (w.heap.size + 1 + 1) (by simp) w.heap.size (by simp <;> omega) 5 0 0 0 0) hb1
      have hb := (HB3.out _ _ _).trans (hb1.mono (by simp <;> omega))
      have hbase := hb.size
      have HCS := Lib.hid hcells
      have HAD := Lib.hid had
      have HONE := Lib.hid (ndCells_one (flat (turnT a)))
      have HNL := Lib.hid (flatMap_len (flat (turnT a)))
      have HOWN := Lib.hid hown
      have HHB := Lib.hid hb
      have HRD := Lib.hid hrd1
      have hsmall : (flat (turnT a)).length ≤ 60 := by rw [HLA.out]; omega
      clear hcells hown had hb hrd1 hq hsrc
      go_wp2_with (at_builtin; refine wpList_append_lies _ rfl (.tmp 32) (.tmp 36) _ rfl w.heap.size 43 i0 _ 5 40 Tryz.underlying22 hi0 hz0 hz1 hz2 rfl (by omega) _ 1 _ rfl HOWN.out _ (flat (turnT a)).length _ ((flat (turnT a)).flatMap ndCells) rfl HNL.out (by rw [Option.some.inj HAD.out]; exact HCS.out) HONE.out hpa (by unfold maxLen; omega) (by omega) hbase _ rfl ?_; intro g2 cap2 w2 hown2 hgrow2 hat2 hlt2)
      have hlen : (flat (turnT (.star a))).length = 1 + (flat (turnT a)).length := by simp [turnT, flat]; omega
      go_ret
      refine ⟨g2, cap2, by rw [hlen]; rfl, ?_, HHB.out.grown hgrow2 hbase fun q hq => (HOWN.out.lt q hq).1⟩
      rw [hlen]
      exact Rd.of_own hown2
    | plus a =>
      obtain ⟨hn, ha⟩ := hu.plus
      obtain ⟨q0, q1, q2, q3, q4⟩ := hnode _ hn
      dsimp only [zc] at q0 q1 q2 q3 q4
      have hlt := ha.lt
      have hka : (flat a).length ≤ k := by simp [flat] at hk; omega
      have hpa := flat_pos (turnT a)
      have hla := turn_len a
      have hcall := fun W h => IH.out a (i + 1) W hka ha h
      have HCALL := Lib.hid hcall
      have HLA := Lib.hid hla
      clear hnode hu hn ha hcall hla
      have hb3 : ∀ (o1 o2 o3 : Obj), Below w.heap.size w (((w.alloc o1).alloc o2).alloc o3) := fun o1 o2 o3 => (((Below.refl _ _).alloc (Nat.le_refl _) _).alloc (by simp <;> omega) _).alloc (by simp <;> omega) _
      have HB3 := Lib.hid hb3
      clear hb3
      go_enter Tryz.func19, Tryz.ntmps19
      go_wp2_with (go_at_call 33; refine (Parts_any _ _).mono ?_; rintro e w' ⟨rfl, rfl⟩)
      refine (HCALL.out _ (HENV.out.below (HB3.out _ _ _))).mono ?_
      rintro e w1 ⟨g1, cap1, rfl, hrd1, hb1⟩
      obtain ⟨A, q, capq, hv, hq, hsrc⟩ := hrd1.src (by omega)
      simp only [Value.slice.injEq] at hv
      obtain ⟨rfl, rfl, rfl⟩ := hv
      obtain ⟨ad, had, _, hcells⟩ := hsrc hpa
      have hown := own_below (own_lit ((w.alloc (.cells #[.slice (some ⟨b, off, none⟩) l.length cap, .slice (some ⟨g, 0, none⟩) l.length l.length] 66)).alloc (.cells #[.int .i64 6, .int .u64 0, .int .u64 0, .int .u64 0, .int .u64 0] 43)) (w.heap.size + 1 + 1) (by simp) w.heap.size (by simp <;> omega) 6 0 0 0 0) hb1
      have hb := (HB3.out _ _ _).trans (hb1.mono (by simp <;> omega))
      have hbase := hb.size
      have HCS := Lib.hid hcells
      have HAD := Lib.hid had
      have HONE := Lib.hid (ndCells_one (flat (turnT a)))
      have HNL := Lib.hid (flatMap_len (flat (turnT a)))
      have HOWN := Lib.hid hown
      have HHB := Lib.hid hb
      have HRD := Lib.hid hrd1
      have hsmall : (flat (turnT a)).length ≤ 60 := by rw [HLA.out]; omega
      clear hcells hown had hb hrd1 hq hsrc
      go_wp2_with (at_builtin; refine wpList_append_lies _ rfl (.tmp 32) (.tmp 36) _ rfl w.heap.size 43 i0 _ 5 40 Tryz.underlying22 hi0 hz0 hz1 hz2 rfl (by omega) _ 1 _ rfl HOWN.out _ (flat (turnT a)).length _ ((flat (turnT a)).flatMap ndCells) rfl HNL.out (by rw [Option.some.inj HAD.out]; exact HCS.out) HONE.out hpa (by unfold maxLen; omega) (by omega) hbase _ rfl ?_; intro g2 cap2 w2 hown2 hgrow2 hat2 hlt2)
      have hlen : (flat (turnT (.plus a))).length = 1 + (flat (turnT a)).length := by simp [turnT, flat]; omega
      go_ret
      refine ⟨g2, cap2, by rw [hlen]; rfl, ?_, HHB.out.grown hgrow2 hbase fun q hq => (HOWN.out.lt q hq).1⟩
      rw [hlen]
      exact Rd.of_own hown2
    | opt a =>
      obtain ⟨hn, ha⟩ := hu.opt
      obtain ⟨q0, q1, q2, q3, q4⟩ := hnode _ hn
      dsimp only [zc] at q0 q1 q2 q3 q4
      have hlt := ha.lt
      have hka : (flat a).length ≤ k := by simp [flat] at hk; omega
      have hpa := flat_pos (turnT a)
      have hla := turn_len a
      have hcall := fun W h => IH.out a (i + 1) W hka ha h
      have HCALL := Lib.hid hcall
      have HLA := Lib.hid hla
      clear hnode hu hn ha hcall hla
      have hb3 : ∀ (o1 o2 o3 : Obj), Below w.heap.size w (((w.alloc o1).alloc o2).alloc o3) := fun o1 o2 o3 => (((Below.refl _ _).alloc (Nat.le_refl _) _).alloc (by simp <;> omega) _).alloc (by simp <;> omega) _
      have HB3 := Lib.hid hb3
      clear hb3
      go_enter Tryz.func19, Tryz.ntmps19
      go_wp2_with (go_at_call 33; refine (Parts_any _ _).mono ?_; rintro e w' ⟨rfl, rfl⟩)
      refine (HCALL.out _ (HENV.out.below (HB3.out _ _ _))).mono ?_
      rintro e w1 ⟨g1, cap1, rfl, hrd1, hb1⟩
      obtain ⟨A, q, capq, hv, hq, hsrc⟩ := hrd1.src (by omega)
      simp only [Value.slice.injEq] at hv
      obtain ⟨rfl, rfl, rfl⟩ := hv
      obtain ⟨ad, had, _, hcells⟩ := hsrc hpa
      have hown := own_below (own_lit ((w.alloc (.cells #[.slice (some ⟨b, off, none⟩) l.length cap, .slice (some ⟨g, 0, none⟩) l.length l.length] 66)).alloc (.cells #[.int .i64 7, .int .u64 0, .int .u64 0, .int .u64 0, .int .u64 0] 43)) (w.heap.size + 1 + 1) (by simp) w.heap.size (by simp <;> omega) 7 0 0 0 0) hb1
      have hb := (HB3.out _ _ _).trans (hb1.mono (by simp <;> omega))
      have hbase := hb.size
      have HCS := Lib.hid hcells
      have HAD := Lib.hid had
      have HONE := Lib.hid (ndCells_one (flat (turnT a)))
      have HNL := Lib.hid (flatMap_len (flat (turnT a)))
      have HOWN := Lib.hid hown
      have HHB := Lib.hid hb
      have HRD := Lib.hid hrd1
      have hsmall : (flat (turnT a)).length ≤ 60 := by rw [HLA.out]; omega
      clear hcells hown had hb hrd1 hq hsrc
      go_wp2_with (at_builtin; refine wpList_append_lies _ rfl (.tmp 32) (.tmp 36) _ rfl w.heap.size 43 i0 _ 5 40 Tryz.underlying22 hi0 hz0 hz1 hz2 rfl (by omega) _ 1 _ rfl HOWN.out _ (flat (turnT a)).length _ ((flat (turnT a)).flatMap ndCells) rfl HNL.out (by rw [Option.some.inj HAD.out]; exact HCS.out) HONE.out hpa (by unfold maxLen; omega) (by omega) hbase _ rfl ?_; intro g2 cap2 w2 hown2 hgrow2 hat2 hlt2)
      have hlen : (flat (turnT (.opt a))).length = 1 + (flat (turnT a)).length := by simp [turnT, flat]; omega
      go_ret
      refine ⟨g2, cap2, by rw [hlen]; rfl, ?_, HHB.out.grown hgrow2 hbase fun q hq => (HOWN.out.lt q hq).1⟩
      rw [hlen]
      exact Rd.of_own hown2
    | cat a c =>
      obtain ⟨hn, ha, hc⟩ := hu.cat
      obtain ⟨q0, q1, q2, q3, q4⟩ := hnode _ hn
      dsimp only [zc] at q0 q1 q2 q3 q4
      have hlta := ha.lt
      have hltc := hc.lt
      have hpa0 := flat_pos a
      have hpc0 := flat_pos c
      have hsa0 : (flat a).length ≤ 60 := by omega
      have hsc0 : (flat c).length ≤ 60 := by omega
      have hka : (flat a).length ≤ k := by simp [flat] at hk; omega
      have hkc : (flat c).length ≤ k := by simp [flat] at hk; omega
      have hx1 := HENV.out.hx (i + 1) a ha
      have hcalla := fun W h => IH.out a (i + 1) W hka ha h
      have hcallc := fun W h => IH.out c (i + 1 + (flat a).length) W hkc hc h
      have HCA := Lib.hid hcalla
      have HCC := Lib.hid hcallc
      have HX1 := Lib.hid hx1
      clear hnode hu hn ha hc hcalla hcallc IH hx1
      have hb3 : ∀ (o1 o2 o3 : Obj), Below w.heap.size w (((w.alloc o1).alloc o2).alloc o3) := fun o1 o2 o3 => (((Below.refl _ _).alloc (Nat.le_refl _) _).alloc (by simp <;> omega) _).alloc (by simp <;> omega) _
      have HB3 := Lib.hid hb3
      clear hb3
      go_enter Tryz.func19, Tryz.ntmps19
      go_wp2_with (go_at_call 33; refine (Parts_any _ _).mono ?_; rintro e w' ⟨rfl, rfl⟩)
      obtain ⟨W, hW⟩ : ∃ W : World, W = (((w.alloc (.cells #[.slice (some ⟨b, off, none⟩) l.length cap, .slice (some ⟨g, 0, none⟩) l.length l.length] 66)).alloc (.cells #[.int .i64 3, .int .u64 0, .int .u64 0, .int .u64 0, .int .u64 0] 43)).alloc (.cells #[.int .i64 3, .int .u64 0, .int .u64 0, .int .u64 0, .int .u64 0] 43)) := ⟨_, rfl⟩
      have hWs : W.heap.size = w.heap.size + 3 := by rw [hW]; simp
      have hWb : Below w.heap.size w W := by rw [hW]; exact HB3.out _ _ _
      have hW0 : W.cell? ⟨w.heap.size, 0, none⟩ = some (.slice (some ⟨b, off, none⟩) l.length cap) := by rw [hW]; simp [World.cell?_alloc_some]
      have hW1 : W.cell? ⟨w.heap.size, 1, none⟩ = some (.slice (some ⟨g, 0, none⟩) l.length l.length) := by rw [hW]; simp [World.cell?_alloc_some]
      have hWn : ∀ w', Below W.heap.size W w' → w'.cell? ⟨w.heap.size + 1, 0, none⟩ = some (.int .i64 3) := fun w' h => by
        rw [h.cell (p := ⟨w.heap.size + 1, 0, none⟩) (by simp; omega), hW]; simp [World.cell?_alloc_some]
      have hWh : RdN W (.slice (some ⟨w.heap.size + 1 + 1, 0, none⟩) 1 1) [⟨3, zc⟩] := by rw [hW]; exact rd_lit _ _ (by simp) 3 0 0 0 0
      rw [← hW]
      have hi0' : (0 : Int) ≤ (i : Int) + 1 := by omega
      have hi1' : (i : Int) + 1 < (l.length : Int) := by omega
      generalize he : i + 1 + (flat a).length = e2 at *
      have hWe : W.cell? ⟨g, i + 1, none⟩ = some (.int .i64 (e2 : Int)) := by rw [hWb.cell (p := ⟨g, i + 1, none⟩) hgg]; exact HX1.out
      have hS : ∀ w', Below W.heap.size W w' → (w'.cell? ⟨w.heap.size, 0, none⟩ = some (.slice (some ⟨b, off, none⟩) l.length cap) ∧ w'.cell? ⟨w.heap.size, 1, none⟩ = some (.slice (some ⟨g, 0, none⟩) l.length l.length) ∧ w'.cell? ⟨g, i + 1, none⟩ = some (.int .i64 (e2 : Int)) ∧ Below W.heap.size W w') := fun w' h =>
        ⟨by rw [h.cell (p := ⟨w.heap.size, 0, none⟩) (by simp; omega)]; exact hW0, by rw [h.cell (p := ⟨w.heap.size, 1, none⟩) (by simp; omega)]; exact hW1, by rw [h.cell (p := ⟨g, i + 1, none⟩) (by simp; omega)]; exact hWe, h⟩
      have HS := Lib.hid hS
      have HW := Lib.hid hW
      have HWB := Lib.hid hWb
      have HWH := Lib.hid hWh
      have HWN := Lib.hid hWn
      have HE := Lib.hid he
      have hWs' : W.heap.size ≤ w.heap.size + 3 := by omega
      have hWs'' : w.heap.size + 3 ≤ W.heap.size := by omega
      clear hW hS hWb hWh hWn he hWs hW0 hW1 hWe
      have B0 : Below W.heap.size W W.drew := (Below.refl _ _).drew
      have hwr : IntKind.i64.wrap ((i : Int) + 1) = (i : Int) + 1 := IntWalk.i64_in _ (by omega)
      have htn : ((i : Int) + 1).toNat = i + 1 := by omega
      go_region_held3 (fun w' => w'.cell? ⟨w.heap.size, 0, none⟩ = some (.slice (some ⟨b, off, none⟩) l.length cap) ∧ w'.cell? ⟨w.heap.size, 1, none⟩ = some (.slice (some ⟨g, 0, none⟩) l.length l.length) ∧ w'.cell? ⟨g, i + 1, none⟩ = some (.int .i64 (e2 : Int)) ∧ Below W.heap.size W w')
        (exact HS.out _ (by assumption))
        (first
          | (go_at_call_of 19 (Value.int .i64 (e2 : Int)); refine (HCC.out _ ?_).mono ?_; exact HENV.out.below (HWB.out.trans ((by assumption : Below W.heap.size W _).mono (by omega))); rintro e w2 ⟨g2, cap2, rfl, hrd2, hb2⟩; have hB2 : Below W.heap.size W w2 := (by assumption : Below W.heap.size W _).trans (hb2.mono (by have := (by assumption : Below W.heap.size W _).size; omega)))
          | (go_at_call 19; refine (HCA.out _ ?_).mono ?_; exact HENV.out.below (HWB.out.trans ((by assumption : Below W.heap.size W _).mono (by omega))); rintro e w1 ⟨g1, cap1, rfl, hrd1, hb1⟩; have hB1 : Below W.heap.size W w1 := (by assumption : Below W.heap.size W _).trans (hb1.mono (by have := (by assumption : Below W.heap.size W _).size; omega))))
      have hla := turn_len a
      have hlc := turn_len c
      have hsma : (flat (turnT a)).length ≤ 60 := by rw [hla]; omega
      have hsmc : (flat (turnT c)).length ≤ 60 := by rw [hlc]; omega
      have hpa := flat_pos (turnT a)
      have hpc := flat_pos (turnT c)
      have hn2 := HWN.out _ hB2
      have R1 := Lib.hid (hrd1.below hb2)
      have R2 := Lib.hid hrd2
      have R3 := Lib.hid (HWH.out.below hB2)
      have hbb2 := HWB.out.trans (hB2.mono (by omega))
      have HBB := Lib.hid hbb2
      have hsz2 := hB2.size
      clear hwr htn hla hlc hrd1 hrd2 hB1 hb1 hb2 B0 hbb2 hB2
      go_wp2_with fail
      refine (Concat3 [⟨3, zc⟩] (flat (turnT c)) (flat (turnT a)) (.slice (some ⟨w.heap.size + 1 + 1, 0, none⟩) 1 1) (.slice (some ⟨g2, 0, none⟩) (flat (turnT c)).length cap2) (.slice (some ⟨g1, 0, none⟩) (flat (turnT a)).length cap1) _ _ ?_ ?_ ?_ (by simp) (by omega) (by omega) ?_ ?_ ?_ ?_ (by simp; omega)).mono ?_
      · exact R3.out.below ((Below.refl _ _).alloc (Nat.le_refl _) _)
      · exact R2.out.below ((Below.refl _ _).alloc (Nat.le_refl _) _)
      · exact R1.out.below ((Below.refl _ _).alloc (Nat.le_refl _) _)
      · simp
      · simp
      · simp
      · simp
      rintro e w3 ⟨g3, cap3, rfl, hown3, hb3⟩
      have hfl : [⟨3, zc⟩] ++ (flat (turnT c) ++ flat (turnT a)) = flat (turnT (.cat a c)) := by simp [turnT, flat]
      rw [hfl] at hown3 ⊢
      go_wp2_with fail
      go_ret
      exact ⟨g3, cap3, rfl, hown3.rd, HBB.out.trans (((Below.refl _ _).alloc (Nat.le_refl _) _).trans (hb3.mono (by simp)) |>.mono (by omega))⟩
    | alt a c =>
      obtain ⟨hn, ha, hc⟩ := hu.alt
      obtain ⟨q0, q1, q2, q3, q4⟩ := hnode _ hn
      dsimp only [zc] at q0 q1 q2 q3 q4
      have hlta := ha.lt
      have hltc := hc.lt
      have hpa0 := flat_pos a
      have hpc0 := flat_pos c
      have hsa0 : (flat a).length ≤ 60 := by omega
      have hsc0 : (flat c).length ≤ 60 := by omega
      have hka : (flat a).length ≤ k := by simp [flat] at hk; omega
      have hkc : (flat c).length ≤ k := by simp [flat] at hk; omega
      have hx1 := HENV.out.hx (i + 1) a ha
      have hcalla := fun W h => IH.out a (i + 1) W hka ha h
      have hcallc := fun W h => IH.out c (i + 1 + (flat a).length) W hkc hc h
      have HCA := Lib.hid hcalla
      have HCC := Lib.hid hcallc
      have HX1 := Lib.hid hx1
      clear hnode hu hn ha hc hcalla hcallc IH hx1
      have hb3 : ∀ (o1 o2 o3 : Obj), Below w.heap.size w (((w.alloc o1).alloc o2).alloc o3) := fun o1 o2 o3 => (((Below.refl _ _).alloc (Nat.le_refl _) _).alloc (by simp <;> omega) _).alloc (by simp <;> omega) _
      have HB3 := Lib.hid hb3
      clear hb3
      go_enter Tryz.func19, Tryz.ntmps19
      go_wp2_with (go_at_call 33; refine (Parts_any _ _).mono ?_; rintro e w' ⟨rfl, rfl⟩)
      obtain ⟨W, hW⟩ : ∃ W : World, W = (((w.alloc (.cells #[.slice (some ⟨b, off, none⟩) l.length cap, .slice (some ⟨g, 0, none⟩) l.length l.length] 66)).alloc (.cells #[.int .i64 4, .int .u64 0, .int .u64 0, .int .u64 0, .int .u64 0] 43)).alloc (.cells #[.int .i64 4, .int .u64 0, .int .u64 0, .int .u64 0, .int .u64 0] 43)) := ⟨_, rfl⟩
      have hWs : W.heap.size = w.heap.size + 3 := by rw [hW]; simp
      have hWb : Below w.heap.size w W := by rw [hW]; exact HB3.out _ _ _
      have hW0 : W.cell? ⟨w.heap.size, 0, none⟩ = some (.slice (some ⟨b, off, none⟩) l.length cap) := by rw [hW]; simp [World.cell?_alloc_some]
      have hW1 : W.cell? ⟨w.heap.size, 1, none⟩ = some (.slice (some ⟨g, 0, none⟩) l.length l.length) := by rw [hW]; simp [World.cell?_alloc_some]
      have hWn : ∀ w', Below W.heap.size W w' → w'.cell? ⟨w.heap.size + 1, 0, none⟩ = some (.int .i64 4) := fun w' h => by
        rw [h.cell (p := ⟨w.heap.size + 1, 0, none⟩) (by simp; omega), hW]; simp [World.cell?_alloc_some]
      have hWh : RdN W (.slice (some ⟨w.heap.size + 1 + 1, 0, none⟩) 1 1) [⟨4, zc⟩] := by rw [hW]; exact rd_lit _ _ (by simp) 4 0 0 0 0
      rw [← hW]
      have hi0' : (0 : Int) ≤ (i : Int) + 1 := by omega
      have hi1' : (i : Int) + 1 < (l.length : Int) := by omega
      generalize he : i + 1 + (flat a).length = e2 at *
      have hWe : W.cell? ⟨g, i + 1, none⟩ = some (.int .i64 (e2 : Int)) := by rw [hWb.cell (p := ⟨g, i + 1, none⟩) hgg]; exact HX1.out
      have hS : ∀ w', Below W.heap.size W w' → (w'.cell? ⟨w.heap.size, 0, none⟩ = some (.slice (some ⟨b, off, none⟩) l.length cap) ∧ w'.cell? ⟨w.heap.size, 1, none⟩ = some (.slice (some ⟨g, 0, none⟩) l.length l.length) ∧ w'.cell? ⟨g, i + 1, none⟩ = some (.int .i64 (e2 : Int)) ∧ Below W.heap.size W w') := fun w' h =>
        ⟨by rw [h.cell (p := ⟨w.heap.size, 0, none⟩) (by simp; omega)]; exact hW0, by rw [h.cell (p := ⟨w.heap.size, 1, none⟩) (by simp; omega)]; exact hW1, by rw [h.cell (p := ⟨g, i + 1, none⟩) (by simp; omega)]; exact hWe, h⟩
      have HS := Lib.hid hS
      have HW := Lib.hid hW
      have HWB := Lib.hid hWb
      have HWH := Lib.hid hWh
      have HWN := Lib.hid hWn
      have HE := Lib.hid he
      have hWs' : W.heap.size ≤ w.heap.size + 3 := by omega
      have hWs'' : w.heap.size + 3 ≤ W.heap.size := by omega
      clear hW hS hWb hWh hWn he hWs hW0 hW1 hWe
      have B0 : Below W.heap.size W W.drew := (Below.refl _ _).drew
      have hwr : IntKind.i64.wrap ((i : Int) + 1) = (i : Int) + 1 := IntWalk.i64_in _ (by omega)
      have htn : ((i : Int) + 1).toNat = i + 1 := by omega
      go_region_held3 (fun w' => w'.cell? ⟨w.heap.size, 0, none⟩ = some (.slice (some ⟨b, off, none⟩) l.length cap) ∧ w'.cell? ⟨w.heap.size, 1, none⟩ = some (.slice (some ⟨g, 0, none⟩) l.length l.length) ∧ w'.cell? ⟨g, i + 1, none⟩ = some (.int .i64 (e2 : Int)) ∧ Below W.heap.size W w')
        (exact HS.out _ (by assumption))
        (first
          | (go_at_call_of 19 (Value.int .i64 (e2 : Int)); refine (HCC.out _ ?_).mono ?_; exact HENV.out.below (HWB.out.trans ((by assumption : Below W.heap.size W _).mono (by omega))); rintro e w2 ⟨g2, cap2, rfl, hrd2, hb2⟩; have hB2 : Below W.heap.size W w2 := (by assumption : Below W.heap.size W _).trans (hb2.mono (by have := (by assumption : Below W.heap.size W _).size; omega)))
          | (go_at_call 19; refine (HCA.out _ ?_).mono ?_; exact HENV.out.below (HWB.out.trans ((by assumption : Below W.heap.size W _).mono (by omega))); rintro e w1 ⟨g1, cap1, rfl, hrd1, hb1⟩; have hB1 : Below W.heap.size W w1 := (by assumption : Below W.heap.size W _).trans (hb1.mono (by have := (by assumption : Below W.heap.size W _).size; omega))))
      have hla := turn_len a
      have hlc := turn_len c
      have hsma : (flat (turnT a)).length ≤ 60 := by rw [hla]; omega
      have hsmc : (flat (turnT c)).length ≤ 60 := by rw [hlc]; omega
      have hpa := flat_pos (turnT a)
      have hpc := flat_pos (turnT c)
      have hn2 := HWN.out _ hB2
      have R1 := Lib.hid (hrd1.below hb2)
      have R2 := Lib.hid hrd2
      have R3 := Lib.hid (HWH.out.below hB2)
      have hbb2 := HWB.out.trans (hB2.mono (by omega))
      have HBB := Lib.hid hbb2
      have hsz2 := hB2.size
      clear hwr htn hla hlc hrd1 hrd2 hB1 hb1 hb2 B0 hbb2 hB2
      go_wp2_with fail
      refine (Concat3 [⟨4, zc⟩] (flat (turnT a)) (flat (turnT c)) (.slice (some ⟨w.heap.size + 1 + 1, 0, none⟩) 1 1) (.slice (some ⟨g1, 0, none⟩) (flat (turnT a)).length cap1) (.slice (some ⟨g2, 0, none⟩) (flat (turnT c)).length cap2) _ _ ?_ ?_ ?_ (by simp) (by omega) (by omega) ?_ ?_ ?_ ?_ (by simp; omega)).mono ?_
      · exact R3.out.below ((Below.refl _ _).alloc (Nat.le_refl _) _)
      · exact R1.out.below ((Below.refl _ _).alloc (Nat.le_refl _) _)
      · exact R2.out.below ((Below.refl _ _).alloc (Nat.le_refl _) _)
      · simp
      · simp
      · simp
      · simp
      rintro e w3 ⟨g3, cap3, rfl, hown3, hb3⟩
      have hfl : [⟨4, zc⟩] ++ (flat (turnT a) ++ flat (turnT c)) = flat (turnT (.alt a c)) := by simp [turnT, flat]
      rw [hfl] at hown3 ⊢
      go_wp2_with fail
      go_ret
      exact ⟨g3, cap3, rfl, hown3.rd, HBB.out.trans (((Below.refl _ _).alloc (Nat.le_refl _) _).trans (hb3.mono (by simp)) |>.mono (by omega))⟩

def TurnIs (t : Rx) (w : World) (e : Ending) (w' : World) : Prop :=
  ∃ g cap, e = .returned (.tuple #[.slice (some ⟨g, 0, none⟩) (flat (turnT t)).length cap, .nilIface]) ∧ RdN w' (.slice (some ⟨g, 0, none⟩) (flat (turnT t)).length cap) (flat (turnT t)) ∧ Below w.heap.size w w'

def TurnNo (l : List Nd) (w : World) (e : Ending) (w' : World) : Prop := e = .returned (.tuple #[.slice none 0 0, errV (chk l)]) ∧ Below w.heap.size w w'

set_option maxRecDepth 100000 in
set_option maxHeartbeats 4000000 in
theorem Turn_no (l : List Nd) (v : Value) (w : World) (hr : RdN w v l) (hc : chk l ≠ 0) : Calls Tryz.prog 8 #[v] w (TurnNo l w) := by
  obtain ⟨A, cap, rfl, hcap, hcap2, hmem⟩ := hr.open_
  have HR := Lib.hid hr
  have HE := Lib.hid (errV_ne hc)
  clear hmem hr hc
  go_enter Tryz.func8, Tryz.ntmps8
  go_wp2_with fail
  refine (Check_any l _ _ HR.out).mono ?_
  rintro e w1 ⟨rfl, hb1⟩
  rw [HE.out]
  go_wp2_with fail
  go_ret2
  exact ⟨by rw [HE.out]; rfl, hb1⟩

set_option maxRecDepth 100000 in
set_option maxHeartbeats 4000000 in
theorem Turn_ok (l : List Nd) (t : Rx) (hl : l = flat t) (v : Value) (w : World) (ht : l.length ≤ 60) (hr : RdN w v l) : Calls Tryz.prog 8 #[v] w (TurnIs t w) := by
  obtain ⟨A, cap, rfl, hcap, hcap2, hmem⟩ := hr.open_
  have hpos : 0 < l.length := by rw [hl]; exact flat_pos t
  have hchk : chk l = 0 := by rw [hl]; exact chk_flat t (by rw [← hl]; exact ht)
  obtain ⟨b, off, rfl, hbl, _⟩ := hmem hpos
  have hends : ∀ W, RdN W (.slice (some ⟨b, off, none⟩) l.length cap) l → Calls Tryz.prog 18 #[.slice (some ⟨b, off, none⟩) l.length cap] W (EndsIs l W) := fun W h => Ends_any l t hl _ W ht h
  have hwhole : At l 0 t := by rw [hl]; exact At.whole t
  have hturn := fun g W => turn_any l ht b off cap g hcap hcap2 (flat t).length t 0 W (Nat.le_refl _) hwhole
  have HR := Lib.hid hr
  have HC := Lib.hid hchk
  have HE := Lib.hid hends
  have HT := Lib.hid hturn
  clear hr hchk hends hturn hwhole hl hmem
  go_enter Tryz.func8, Tryz.ntmps8
  go_wp2_with fail
  refine (Check_any l _ _ HR.out).mono ?_
  rintro e w1 ⟨rfl, hb1⟩
  rw [HC.out, errV_zero]
  go_wp2_with fail
  refine (HE.out _ (HR.out.below hb1)).mono ?_
  rintro e w2 ⟨g, xs, rfl, hx, hg1, hg2, hxc, hb2⟩
  have hb12 := hb1.trans (hb2.mono hb1.size)
  have henv : TEnv l b off cap g w2 := ⟨HR.out.below hb12, Nat.lt_of_lt_of_le hbl hb12.size, hg2, fun i u hu => hxc _ _ (hx.2 i u hu)⟩
  have HENV := Lib.hid henv
  have HB := Lib.hid hb12
  clear henv hb12 hx hxc hb1 hb2
  go_wp2_with fail
  refine (HT.out g _ HENV.out).mono ?_
  rintro e w3 ⟨g3, cap3, rfl, hrd3, hb3⟩
  go_wp2_with fail
  go_ret2
  exact ⟨g3, cap3, rfl, hrd3, HB.out.trans (hb3.mono HB.out.size)⟩

end Go.Proofs.YthcahjnniendnabGreatDoor
