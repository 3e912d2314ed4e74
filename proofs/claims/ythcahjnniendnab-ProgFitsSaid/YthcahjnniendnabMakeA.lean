/-
  Walks of prog's maker: emit, next.
-/
import Derived.Test.YthcahjnniendnabSimC
import Derived.Test.YthcahjnniendnabPt
import Derived.Deep.AppendLies
import Derived.Deep.RegionLaw
namespace Go.Proofs.Ythcahjnniendnab
open Go.RowKit Wf

theorem info_step : (Try.prog.info? 59).map (fun i => (i.zero, i.size, i.bytes)) = some (some (.agg #[.int .i64 0, .int .u64 0, .int .u64 0, .int .u64 0, .int .u64 0, .int .i64 0, .int .i64 0]), 7, 56) := by kernel_rfl

/-- All blocks but the maker's own and blocks of steps are as they were. -/
structure Fm (M : Nat) (w w' : World) : Prop where
  size : w.heap.size ≤ w'.heap.size
  kept : ∀ k cs t fr, w.heap[k]? = some (.cells cs t fr) → t ≠ 59 → k ≠ M → w'.heap[k]? = w.heap[k]?
theorem Fm.refl (M : Nat) (w : World) : Fm M w w := ⟨Nat.le_refl _, fun _ _ _ _ _ _ _ => rfl⟩
theorem Fm.trans {M : Nat} {a b c : World} (h : Fm M a b) (k : Fm M b c) : Fm M a c :=
  ⟨Nat.le_trans h.size k.size, fun i cs t fr hi ht hM => by
    have := h.kept i cs t fr hi ht hM
    rw [k.kept i cs t fr (this.trans hi) ht hM, this]⟩
theorem Fm.below {M : Nat} {w w' : World} (h : Below w.heap.size w w') : Fm M w w' := ⟨h.size, fun k cs t fr hk _ _ => h.block k (Array.getElem?_eq_some_iff.1 hk).1⟩
theorem Fm.setM (M : Nat) (w : World) (j : Nat) (v : Value) : Fm M w (w.setCell ⟨M, j, none⟩ v) :=
  ⟨by simp, fun k cs t fr _ _ hM => Below.heap_setCell _ _ _ k (fun e => hM (by rw [e]))⟩
theorem Fm.grown {M base n : Nat} {w w' : World} {v : Value} {xs : List Value} (ho : w.ownsRow base 59 7 v n xs) (hg : w.grownBy w' v.ownBlock) : Fm M w w' :=
  ⟨hg.size, fun k cs t fr hk ht _ => hg.block k (Array.getElem?_eq_some_iff.1 hk).1 (fun e => by
    rcases ho.2 with ⟨rfl, _⟩ | ⟨g, cap, cur, rfl, _, hh, _⟩
    · simp [Value.ownBlock] at e
    · obtain rfl : k = g := by simpa [Value.ownBlock] using e
      rw [hk] at hh; cases hh; exact ht rfl)⟩
theorem Blk.fm {M : Nat} {w w' : World} {k : Nat} {t : TypeId} {cs : Array Value} (h : Blk w k t cs) (hf : Fm M w w') (ht : t ≠ 59) (hM : k ≠ M) : Blk w' k t cs := (hf.kept k cs t _ h ht hM).trans h

/-- A maker: it stands at node i, and has made the steps S. -/
structure MEnv (w0 : World) (b off ln cap M : Nat) (i : Nat) (S : List St) (v : Value) (w : World) : Prop where
  mb : Blk w M 56 #[.slice (some ⟨b, off, none⟩) ln cap, .int .i64 (i : Int), v]
  own : w.ownsRow (M + 1) 59 7 v S.length (S.flatMap stCells)
  bel : Below w0.heap.size w0 w
  base : w0.heap.size ≤ M
section
variable {w0 : World} {b off ln cap M i : Nat} {S : List St} {v : Value} {w w' : World}
theorem MEnv.below (h : MEnv w0 b off ln cap M i S v w) (hb : Below w.heap.size w w') : MEnv w0 b off ln cap M i S v w' :=
  ⟨h.mb.kept hb, h.own.kept (row := none) ⟨hb.os, hb.tape, hb.output, hb.size, fun q hq _ => hb.block q hq⟩ (by cases v.ownBlock <;> simp), h.bel.trans (hb.mono h.bel.size), h.base⟩
theorem MEnv.alloc (h : MEnv w0 b off ln cap M i S v w) (o : Obj) : MEnv w0 b off ln cap M i S v (w.alloc o) := h.below ((Below.refl _ _).alloc (Nat.le_refl _) _)
theorem MEnv.cast {i' : Nat} {S' : List St} (h : MEnv w0 b off ln cap M i S v w) (hi : i = i') (hS : S = S') : MEnv w0 b off ln cap M i' S' v w := by subst hi; subst hS; exact h
theorem MEnv.drew (h : MEnv w0 b off ln cap M i S v w) : MEnv w0 b off ln cap M i S v w.drew := h.below (Below.refl _ _).drew
theorem MEnv.at_ (h : MEnv w0 b off ln cap M i S v w) (i' : Nat) (x : Int) (hx : x = (i' : Int)) : MEnv w0 b off ln cap M i' S v (w.setCell ⟨M, 1, none⟩ (.int .i64 x)) := by
  subst hx
  refine ⟨?_, ?_, h.bel.setCell h.base _, h.base⟩
  · have := h.mb.set_ 1 (.int .i64 (i' : Int))
    simpa using this
  · exact ownsRow_setCell_below h.own (Nat.lt_succ_self _) _
theorem MEnv.take (h : MEnv w0 b off ln cap M i S v w) {s : St} {v' : Value} (hown' : w'.ownsRow (M + 1) 59 7 v' (S.length + 1) (S.flatMap stCells ++ stCells s)) (hg : w.grownBy w' v.ownBlock) :
    w'.cell? ⟨M, 2, none⟩ = some v ∧ w'.frozen? ⟨M, 2, none⟩ = false ∧ MEnv w0 b off ln cap M i (S ++ [s]) v' (w'.setCell ⟨M, 2, none⟩ v') := by
  have hlt := fun q hq => h.own.lt q hq
  have hmk : Blk w' M 56 #[.slice (some ⟨b, off, none⟩) ln cap, .int .i64 (i : Int), v] := (hg.block M h.mb.lt (fun e => by have := (hlt M e.symm).1; omega)).trans h.mb
  refine ⟨hmk.cell 2, hmk.frozen 2, ?_, ?_, ?_, h.base⟩
  · have := hmk.set_ 2 v'
    simpa using this
  · have := ownsRow_setCell_below hown' (a := ⟨M, 2, none⟩) (Nat.lt_succ_self _) v'
    simpa using this
  · have hb : Below w0.heap.size w0 w' := ⟨hg.os.trans h.bel.os, hg.tape.trans h.bel.tape, hg.output.trans h.bel.output, Nat.le_trans h.bel.size hg.size, fun k hk =>
      (hg.block k (Nat.lt_of_lt_of_le hk h.bel.size) (fun e => by have := (hlt k e.symm).1; have := h.base; omega)).trans (h.bel.block k hk)⟩
    exact hb.setCell h.base _
end

theorem set_mid (S C : List St) (x y : St) : (S ++ [x] ++ C).set S.length y = S ++ [y] ++ C := by
  rw [List.append_assoc, List.set_append_right _ _ (Nat.le_refl _)]
  simp
theorem flat_setX : ∀ (S : List St) (k : Nat) (op : Int) (c : Cls) (x y x' : Int), S[k]? = some ⟨op, c, x, y⟩ → (S.flatMap stCells).set (k * 7 + 5) (.int .i64 x') = (S.set k ⟨op, c, x', y⟩).flatMap stCells := by
  intro S
  induction S with
  | nil => intro k op c x y x' h; simp at h
  | cons a r ih =>
    intro k op c x y x' h
    rcases k with _ | k
    · simp at h
      subst h
      simp [stCells]
    · simp only [List.flatMap_cons, List.set_cons_succ]
      rw [← ih k op c x y x' (by simpa using h)]
      rw [List.set_append_right _ _ (by simp [stCells]; omega)]
      congr 1
      have e : (k + 1) * 7 + 5 - (stCells a).length = k * 7 + 5 := by simp [stCells]; omega
      rw [e]
theorem flat_setY : ∀ (S : List St) (k : Nat) (op : Int) (c : Cls) (x y y' : Int), S[k]? = some ⟨op, c, x, y⟩ → (S.flatMap stCells).set (k * 7 + 6) (.int .i64 y') = (S.set k ⟨op, c, x, y'⟩).flatMap stCells := by
  intro S
  induction S with
  | nil => intro k op c x y y' h; simp at h
  | cons a r ih =>
    intro k op c x y y' h
    rcases k with _ | k
    · simp at h
      subst h
      simp [stCells]
    · simp only [List.flatMap_cons, List.set_cons_succ]
      rw [← ih k op c x y y' (by simpa using h)]
      rw [List.set_append_right _ _ (by simp [stCells]; omega)]
      congr 1
      have e : (k + 1) * 7 + 6 - (stCells a).length = k * 7 + 6 := by simp [stCells]; omega
      rw [e]

theorem own_set {w : World} {base size n g cap : Nat} {e : TypeId} {xs : List Value} (h : w.ownsRow base e size (.slice (some ⟨g, 0, none⟩) n cap) n xs) (j : Nat) (u : Value) :
    (w.setCell ⟨g, j, none⟩ u).ownsRow base e size (.slice (some ⟨g, 0, none⟩) n cap) n (xs.set j u) := by
  refine ⟨by rw [List.length_set]; exact h.1, ?_⟩
  rcases h.2 with ⟨h0, _⟩ | ⟨g', cap', cur, hv, h1, h2, h3, h4, h5, h6⟩
  · cases h0
  · injection hv with e1 e2 e3
    injection e1 with e1
    injection e1 with e1
    subst e1
    subst e3
    refine .inr ⟨g, cap, cur.setIfInBounds j u, rfl, h1, (show Blk w g e cur from h2).set_ j u, h3, h4, by rw [Array.size_setIfInBounds]; exact h5, ?_⟩
    rw [Array.toList_setIfInBounds, ← h6, List.take_set]

section
variable {w0 : World} {b off ln cap M i : Nat} {S : List St} {v : Value} {w w' : World}
theorem MEnv.form (h : MEnv w0 b off ln cap M i S v w) (hS : 0 < S.length) : ∃ g c, v = .slice (some ⟨g, 0, none⟩) S.length c := by
  rcases h.own.2 with ⟨_, h0⟩ | ⟨g, c, cur, hv, _⟩
  · omega
  · exact ⟨g, c, hv⟩
theorem MEnv.step {g c : Nat} (h : MEnv w0 b off ln cap M i S (.slice (some ⟨g, 0, none⟩) S.length c) w) : M < g ∧ g < w.heap.size ∧ S.length ≤ c ∧ c ≤ 9223372036854775807 ∧ (∀ j, w.frozen? ⟨g, j, none⟩ = false) ∧
    ∀ k s, S[k]? = some s → w.cell? ⟨g, k * 7 + 5, none⟩ = some (.int .i64 s.x) ∧ w.cell? ⟨g, k * 7 + 6, none⟩ = some (.int .i64 s.y) := by
  rcases h.own.2 with ⟨h0, _⟩ | ⟨g', c', cur, hv, h1, h2, h3, h4, h5, h6⟩
  · cases h0
  · injection hv with e1 e2 e3
    injection e1 with e1
    injection e1 with e1
    subst e1
    subst e3
    have hb : Blk w g 59 cur := h2
    refine ⟨h1, hb.lt, h3, by unfold maxLen at h4; omega, fun j => hb.frozen j, fun k s hk => ?_⟩
    have hkl := (List.getElem?_eq_some_iff.1 hk).1
    have key : ∀ j, j < 7 → cur[k * 7 + j]? = (stCells s)[j]? := fun j hj => by
      rw [← stFlat_get S k j s hk hj, ← h6, List.getElem?_take, if_pos (by omega), Array.getElem?_toList]
    rw [hb.cell, hb.cell, key 5 (by omega), key 6 (by omega)]
    exact ⟨rfl, rfl⟩
theorem MEnv.setCell_ {g c : Nat} {S' : List St} (h : MEnv w0 b off ln cap M i S (.slice (some ⟨g, 0, none⟩) S.length c) w) (j : Nat) (u : Value) (hl : S'.length = S.length) (he : (S.flatMap stCells).set j u = S'.flatMap stCells) :
    MEnv w0 b off ln cap M i S' (.slice (some ⟨g, 0, none⟩) S.length c) (w.setCell ⟨g, j, none⟩ u) := by
  have hg := h.step.1
  refine ⟨h.mb.far (by simp; omega) u, ?_, h.bel.setCell (by show w0.heap.size ≤ g; have := h.base; omega) u, h.base⟩
  rw [← he, hl]
  exact own_set h.own j u
theorem MEnv.setY {g c k : Nat} {op x y : Int} {cl : Cls} (h : MEnv w0 b off ln cap M i S (.slice (some ⟨g, 0, none⟩) S.length c) w) (hk : S[k]? = some ⟨op, cl, x, y⟩) (y' : Int) :
    MEnv w0 b off ln cap M i (S.set k ⟨op, cl, x, y'⟩) (.slice (some ⟨g, 0, none⟩) S.length c) (w.setCell ⟨g, k * 7 + 6, none⟩ (.int .i64 y')) :=
  h.setCell_ _ _ (by simp) (flat_setY S k op cl x y y' hk)
theorem MEnv.setXY {g c k : Nat} {op x y : Int} {cl : Cls} (h : MEnv w0 b off ln cap M i S (.slice (some ⟨g, 0, none⟩) S.length c) w) (hk : S[k]? = some ⟨op, cl, x, y⟩) (x' y' : Int) :
    MEnv w0 b off ln cap M i (S.set k ⟨op, cl, x', y'⟩) (.slice (some ⟨g, 0, none⟩) S.length c) ((w.setCell ⟨g, k * 7 + 5, none⟩ (.int .i64 x')).setCell ⟨g, k * 7 + 6, none⟩ (.int .i64 y')) := by
  have h1 := h.setCell_ (S' := S.set k ⟨op, cl, x', y⟩) _ _ (by simp) (flat_setX S k op cl x y x' hk)
  rw [show S.length = (S.set k ⟨op, cl, x', y⟩).length by simp] at h1 ⊢
  have hkl := (List.getElem?_eq_some_iff.1 hk).1
  have h2 := h1.setY (k := k) (op := op) (cl := cl) (x := x') (y := y) (by simp [hkl]) y'
  rw [List.set_set] at h2
  exact h2
theorem Fm.row {M g : Nat} {w : World} (hb : ∃ cur, Blk w g 59 cur) (j : Nat) (u : Value) : Fm M w (w.setCell ⟨g, j, none⟩ u) :=
  ⟨by simp, fun k cs t fr hk ht _ => Below.heap_setCell _ _ _ k (fun e => by
    obtain ⟨cur, hc⟩ := hb
    have e2 : k = g := e
    subst e2
    rw [show w.heap[k]? = _ from hc] at hk
    cases hk
    exact ht rfl)⟩
theorem MEnv.row {g c : Nat} (h : MEnv w0 b off ln cap M i S (.slice (some ⟨g, 0, none⟩) S.length c) w) : ∃ cur, Blk w g 59 cur := by
  rcases h.own.2 with ⟨h0, _⟩ | ⟨g', c', cur, hv, h1, h2, h3, h4, h5, h6⟩
  · cases h0
  · injection hv with e1 e2 e3
    injection e1 with e1
    injection e1 with e1
    subst e1
    exact ⟨cur, h2⟩
end

def EmitIs (w0 : World) (b off ln cap M i : Nat) (S : List St) (s : St) (w : World) (e : Ending) (w' : World) : Prop :=
  e = .returned (.int .i64 (S.length : Int)) ∧ ∃ v', MEnv w0 b off ln cap M i (S ++ [s]) v' w' ∧ Fm M w w'

theorem next_any (w0 : World) (b off ln cap M i : Nat) (S : List St) (v : Value) (w : World) (h : MEnv w0 b off ln cap M i S v w) :
    Calls Try.prog 29 #[.pointer (some ⟨M, 0, none⟩)] w (fun e w' => e = .returned (.int .i64 (S.length : Int)) ∧ w = w') := by
  have c2 := h.mb.cell 2
  obtain ⟨VA, vn, vcap, rfl, _, _, hvl, _⟩ := Rd.of_own h.own
  obtain rfl : vn = S.length := by rw [stFlat_len] at hvl; omega
  simp only [List.getElem?_toArray, List.getElem?_cons_succ, List.getElem?_cons_zero] at c2
  clear h hvl
  go_enter Try.func29, Try.ntmps29
  go_wp2
  go_ret
  exact ⟨rfl, rfl⟩

theorem step_news (W : World) (g : Nat) (hg : W.heap.size = g) (op x y : Int) (k0 k1 k2 k3 : Nat) : ∀ (j : Nat) (u : Value), (stCells ⟨op, (k0, k1, k2, k3), x, y⟩)[j]? = some u →
    (W.alloc (.cells #[.int .i64 op, .int .u64 (k0 : Int), .int .u64 (k1 : Int), .int .u64 (k2 : Int), .int .u64 (k3 : Int), .int .i64 x, .int .i64 y] 59)).cell? ((⟨g, 0, none⟩ : Addr).add j) = some u := by
  intro j u hu
  subst hg
  rw [add_mk, Nat.zero_add, (Blk.new W _ _).cell]
  simpa [stCells] using hu
theorem stCells_one (s : St) : ∀ u ∈ stCells s, u.oneCell' = true := by
  intro u hu
  simp only [stCells, List.mem_cons, List.not_mem_nil, or_false] at hu
  rcases hu with rfl | rfl | rfl | rfl | rfl | rfl | rfl <;> rfl

set_option maxRecDepth 100000 in
set_option maxHeartbeats 8000000 in
theorem emit_any (w0 : World) (b off ln cap M i : Nat) (S : List St) (v : Value) (op x y : Int) (k0 k1 k2 k3 : Nat) (w : World) (hS : S.length ≤ 1000) (h : MEnv w0 b off ln cap M i S v w) :
    Calls Try.prog 17 #[.pointer (some ⟨M, 0, none⟩), .agg #[.int .i64 op, .int .u64 (k0 : Int), .int .u64 (k1 : Int), .int .u64 (k2 : Int), .int .u64 (k3 : Int), .int .i64 x, .int .i64 y]] w (EmitIs w0 b off ln cap M i S ⟨op, (k0, k1, k2, k3), x, y⟩ w) := by
  obtain ⟨i0, hi0, hz0, hz1, hz2⟩ := info_parts info_step
  have H := Lib.hid (h.alloc (.cells #[.int .i64 op, .int .u64 (k0 : Int), .int .u64 (k1 : Int), .int .u64 (k2 : Int), .int .u64 (k3 : Int), .int .i64 x, .int .i64 y] 59))
  have HSB := Lib.hid (Blk.new w 59 #[.int .i64 op, .int .u64 (k0 : Int), .int .u64 (k1 : Int), .int .u64 (k2 : Int), .int .u64 (k3 : Int), .int .i64 x, .int .i64 y])
  have hM := h.mb.lt
  clear h
  go_enter Try.func17, Try.ntmps17
  go_wp2_with fail
  have c2a : (w.alloc (.cells #[.int .i64 op, .int .u64 (k0 : Int), .int .u64 (k1 : Int), .int .u64 (k2 : Int), .int .u64 (k3 : Int), .int .i64 x, .int .i64 y] 59)).cell? ⟨M, 2, none⟩ = some v := H.out.mb.cell 2
  have c2b := fun o => (H.out.drew.alloc o).mb.cell 2
  simp only [List.getElem?_toArray, List.getElem?_cons_succ, List.getElem?_cons_zero] at c2b
  go_region_law (refine step_append_lies _ rfl (.tmp 9) (.tmp 11) 23 rfl (M + 1) 59 i0 _ 7 56 Try.underlying23 hi0 hz0 hz1 hz2 rfl (by decide) v S.length (S.flatMap stCells) ?a1 (H.out.drew.alloc _).own ⟨w.heap.size + 1, 0, none⟩ 1 1 (stCells ⟨op, (k0, k1, k2, k3), x, y⟩) ?a2 rfl (step_news _ _ ?a3 _ _ _ _ _ _ _) (stCells_one _) ?a4 ?a5 ?a6 ?a7 _ rfl ?_; (case a1 => simp [Act.eval, Act.put]); (case a2 => simp [Act.eval, Act.put]); (case a3 => simp); (case a4 => omega); (case a5 => unfold maxLen; omega); (case a6 => omega); (case a7 => simp; omega); intro g cp w1 hown hg hat hlt; obtain ⟨e2, f2, henv⟩ := (H.out.alloc (.cells #[.int .i64 op, .int .u64 (k0 : Int), .int .u64 (k1 : Int), .int .u64 (k2 : Int), .int .u64 (k3 : Int), .int .i64 x, .int .i64 y] 59)).drew.take hown hg; have hfm := ((Fm.below (M := M) ((((Below.refl _ w).alloc (Nat.le_refl _) _).alloc (by simp) _).drew)).trans (Fm.grown (H.out.alloc (.cells #[.int .i64 op, .int .u64 (k0 : Int), .int .u64 (k1 : Int), .int .u64 (k2 : Int), .int .u64 (k3 : Int), .int .i64 x, .int .i64 y] 59)).drew.own hg)).trans (Fm.setM M w1 2 (.slice (some ⟨g, 0, none⟩) (S.length + 1) cp)); have m2 := henv.mb.cell 2; simp only [List.getElem?_toArray, List.getElem?_cons_succ, List.getElem?_cons_zero] at m2; have HENV := Lib.hid henv; have HFM := Lib.hid hfm; clear henv hfm hown hg hat hlt)
  all_goals (
    go_wp2
    go_ret
    exact ⟨by simp, _, HENV.out, HFM.out⟩)

end Go.Proofs.Ythcahjnniendnab
