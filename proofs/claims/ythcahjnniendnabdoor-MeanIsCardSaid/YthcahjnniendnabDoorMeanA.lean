/-
  The fitter in memory; walks of its none, here, and of places' add.
-/
import Derived.Test.YthcahjnniendnabDoorTurn
import Derived.Test.YthcahjnniendnabDoorClsA
import Derived.Test.YthcahjnniendnabDoorPm
import Derived.Test.YthcahjnniendnabDoorSpot
namespace Go.Proofs.YthcahjnniendnabDoor
open Go.RowKit Wf

/-- A block of n + 1 marks: of which places P holds. -/
def Pl (w : World) (g n : Nat) (P : Nat → Prop) : Prop := ∃ cs : Array Value, Blk w g 4 cs ∧ cs.size = n + 1 ∧ ∀ k, k ≤ n → ∃ b : Bool, cs[k]? = some (.bool b) ∧ (b = true ↔ P k)

theorem Pl.lt {w : World} {g n : Nat} {P : Nat → Prop} (h : Pl w g n P) : g < w.heap.size := by
  obtain ⟨cs, hb, _⟩ := h
  exact hb.lt
theorem Pl.kept {w w' : World} {g n : Nat} {P : Nat → Prop} {row : Option Nat} (h : Pl w g n P) (hg : w.grownBy w' row) (hne : some g ≠ row) : Pl w' g n P := by
  obtain ⟨cs, hb, h2⟩ := h
  exact ⟨cs, (hg.block g hb.lt hne).trans hb, h2⟩
theorem Pl.below {w w' : World} {g n : Nat} {P : Nat → Prop} (h : Pl w g n P) (hb : Below w.heap.size w w') : Pl w' g n P := by
  obtain ⟨cs, hk, h2⟩ := h
  exact ⟨cs, hk.kept hb, h2⟩
theorem Pl.iff {w : World} {g n : Nat} {P Q : Nat → Prop} (h : Pl w g n P) (hpq : ∀ k, k ≤ n → (P k ↔ Q k)) : Pl w g n Q := by
  obtain ⟨cs, hb, hs, hc⟩ := h
  refine ⟨cs, hb, hs, fun k hk => ?_⟩
  obtain ⟨b, h1, h2⟩ := hc k hk
  exact ⟨b, h1, h2.trans (hpq k hk)⟩
theorem Pl.cell {w : World} {g n : Nat} {P : Nat → Prop} (h : Pl w g n P) (k : Nat) (hk : k ≤ n) : ∃ b : Bool, w.cell? ⟨g, k, none⟩ = some (.bool b) ∧ (b = true ↔ P k) := by
  obtain ⟨cs, hb, _, hc⟩ := h
  obtain ⟨b, h1, h2⟩ := hc k hk
  exact ⟨b, by rw [hb.cell]; exact h1, h2⟩
theorem Pl.frozen {w : World} {g n : Nat} {P : Nat → Prop} (h : Pl w g n P) (k : Nat) : w.frozen? ⟨g, k, none⟩ = false := by
  obtain ⟨cs, hb, _⟩ := h
  exact hb.frozen k
theorem Pl.set_ {w : World} {g n : Nat} {P : Nat → Prop} (h : Pl w g n P) (k : Nat) (b : Bool) : Pl (w.setCell ⟨g, k, none⟩ (.bool b)) g n (fun j => if j = k then b = true else P j) := by
  obtain ⟨cs, hb, hs, hc⟩ := h
  refine ⟨_, hb.set_ k (.bool b), by simpa using hs, fun j hj => ?_⟩
  rw [Array.getElem?_setIfInBounds]
  by_cases e : k = j
  · subst e
    rw [if_pos rfl, if_pos (by omega)]
    exact ⟨b, rfl, by simp⟩
  · rw [if_neg e]
    obtain ⟨b', h1, h2⟩ := hc j hj
    exact ⟨b', h1, by show _ ↔ (if j = k then b = true else P j); rw [if_neg (fun h => e h.symm)]; exact h2⟩

theorem grown_set (w : World) (g k : Nat) (v : Value) : w.grownBy (w.setCell ⟨g, k, none⟩ v) (some g) :=
  ⟨rfl, rfl, rfl, by simp, fun i _ hi => Below.heap_setCell w ⟨g, k, none⟩ v i (fun e => hi (by rw [e]))⟩
theorem grown_of_below {w w' : World} (h : Below w.heap.size w w') (row : Option Nat) : w.grownBy w' row := ⟨h.os, h.tape, h.output, h.size, fun i hi _ => h.block i hi⟩
theorem grown_drewN {a w : World} {row : Option Nat} (h : a.grownBy w row) (n : Nat) : a.grownBy (w.drewN n) row := ⟨h.os, h.tape, h.output, h.size, h.block⟩

section
variable (l : List Nd) (s : ByteArray) (b off cap ge F M : Nat)

/-- The world as a fitter wants it. O: the blocks that are nobody's but ours. -/
structure FEnv (O : Nat → Prop) (w : World) : Prop where
  tenv : TEnv l b off cap ge w
  hf : Blk w F 109 #[.slice (some ⟨b, off, none⟩) l.length cap, .slice (some ⟨ge, 0, none⟩) l.length l.length, .string s, .map (some M)]
  hm : ∃ es clock, w.heap[M]? = some (.map es clock) ∧ ∀ e ∈ es.toList, ∃ (i k : Nat) (u : Rx) (g : Nat), e.key = spotV i k ∧ k ≤ s.size ∧ At l i u ∧ e.val = .slice (some ⟨g, 0, none⟩) (s.size + 1) (s.size + 1) ∧ ¬ O g ∧ Pl w g s.size (Fits s.data.toList u k)
  hO : ∀ x, O x → x ≠ F ∧ x ≠ b ∧ x ≠ ge ∧ x ≠ M ∧ x < w.heap.size
end

section
variable {l : List Nd} {s : ByteArray} {b off cap ge F M : Nat} {O : Nat → Prop} {w w' : World}

theorem FEnv.ltM (h : FEnv l s b off cap ge F M O w) : M < w.heap.size := by
  obtain ⟨es, clock, hm, _⟩ := h.hm
  exact (Array.getElem?_eq_some_iff.1 hm).1
theorem FEnv.ltF (h : FEnv l s b off cap ge F M O w) : F < w.heap.size := h.hf.lt
theorem FEnv.neFM (h : FEnv l s b off cap ge F M O w) : F ≠ M := by
  rintro rfl
  obtain ⟨es, clock, hm, _⟩ := h.hm
  have := h.hf
  unfold Blk at this
  rw [hm] at this
  cases this

theorem TEnv.grown {l : List Nd} {b off cap g p : Nat} {w w' : World} (h : TEnv l b off cap g w) (hg : w.grownBy w' (some p)) (hb : p ≠ b) (hge : p ≠ g) : TEnv l b off cap g w' := by
  have hbb : w'.heap[b]? = w.heap[b]? := hg.block b h.hb (fun e => hb (Option.some.inj e).symm)
  have hgg : w'.heap[g]? = w.heap[g]? := hg.block g h.hg (fun e => hge (Option.some.inj e).symm)
  refine ⟨?_, Nat.lt_of_lt_of_le h.hb hg.size, Nat.lt_of_lt_of_le h.hg hg.size, fun i u hu => ?_⟩
  · obtain ⟨A, n, cap', hv, h1, h2, h3, h4⟩ := h.hr
    refine ⟨A, n, cap', hv, h1, h2, h3, fun hn => ?_⟩
    obtain ⟨b', off', hA, hc⟩ := h4 hn
    refine ⟨b', off', hA, fun j u hu => ?_⟩
    have e : b' = b := by
      rw [hA] at hv
      cases hv
      rfl
    subst e
    rw [World.cell?_of_block (w := w) (a := ⟨b', off' + j, none⟩) hbb]
    exact hc j u hu
  · rw [World.cell?_of_block (w := w) (a := ⟨g, i, none⟩) hgg]
    exact h.hx i u hu

theorem FEnv.less {O' : Nat → Prop} (h : FEnv l s b off cap ge F M O w) (hO : ∀ x, O' x → O x) : FEnv l s b off cap ge F M O' w := by
  obtain ⟨h1, h2, ⟨es, clock, h3, h4⟩, h5⟩ := h
  refine ⟨h1, h2, ⟨es, clock, h3, fun e he => ?_⟩, fun x hx => h5 x (hO x hx)⟩
  obtain ⟨i, k, u, g, q1, q2, q3, q4, q5, q6⟩ := h4 e he
  exact ⟨i, k, u, g, q1, q2, q3, q4, fun hg => q5 (hO g hg), q6⟩

theorem FEnv.grow (h : FEnv l s b off cap ge F M O w) (hb : Below w.heap.size w w') : FEnv l s b off cap ge F M O w' := by
  have hM := h.ltM
  obtain ⟨h1, h2, ⟨es, clock, h3, h4⟩, h5⟩ := h
  refine ⟨h1.below hb, h2.kept hb, ⟨es, clock, (hb.block M hM).trans h3, fun e he => ?_⟩, fun x hx => ?_⟩
  · obtain ⟨i, k, u, g, q1, q2, q3, q4, q5, q6⟩ := h4 e he
    exact ⟨i, k, u, g, q1, q2, q3, q4, q5, q6.below hb⟩
  · obtain ⟨a1, a2, a3, a4, a5⟩ := h5 x hx
    exact ⟨a1, a2, a3, a4, Nat.lt_of_lt_of_le a5 hb.size⟩

theorem FEnv.put {p : Nat} (h : FEnv l s b off cap ge F M O w) (hp : O p) (hg : w.grownBy w' (some p)) : FEnv l s b off cap ge F M O w' := by
  have hM := h.ltM
  have hF := h.ltF
  obtain ⟨h1, h2, ⟨es, clock, h3, h4⟩, h5⟩ := h
  obtain ⟨a1, a2, a3, a4, a5⟩ := h5 p hp
  refine ⟨h1.grown hg a2 a3, (hg.block F hF (fun e => a1 (Option.some.inj e).symm)).trans h2, ⟨es, clock, (hg.block M hM (fun e => a4 (Option.some.inj e).symm)).trans h3, fun e he => ?_⟩, fun x hx => ?_⟩
  · obtain ⟨i, k, u, g, q1, q2, q3, q4, q5, q6⟩ := h4 e he
    exact ⟨i, k, u, g, q1, q2, q3, q4, q5, q6.kept hg (fun e => q5 (by rw [Option.some.inj e]; exact hp))⟩
  · obtain ⟨a1, a2, a3, a4, a5⟩ := h5 x hx
    exact ⟨a1, a2, a3, a4, Nat.lt_of_lt_of_le a5 hg.size⟩

/-- A new block is ours. -/
theorem FEnv.own {p : Nat} (h : FEnv l s b off cap ge F M O w) (hb : Below w.heap.size w w') (hp : w.heap.size ≤ p) (hp' : p < w'.heap.size) : FEnv l s b off cap ge F M (fun x => O x ∨ x = p) w' := by
  have hM := h.ltM
  have hF := h.ltF
  have hbb := h.tenv.hb
  have hgg := h.tenv.hg
  have h0 := h
  obtain ⟨h1, h2, ⟨es, clock, h3, h4⟩, h5⟩ := h
  refine ⟨h1.below hb, h2.kept hb, ⟨es, clock, (hb.block M hM).trans h3, fun e he => ?_⟩, fun x hx => ?_⟩
  · obtain ⟨i, k, u, g, q1, q2, q3, q4, q5, q6⟩ := h4 e he
    refine ⟨i, k, u, g, q1, q2, q3, q4, fun hg => ?_, q6.below hb⟩
    rcases hg with hg | hg
    · exact q5 hg
    · have := q6.lt; omega
  · rcases hx with hx | rfl
    · obtain ⟨a1, a2, a3, a4, a5⟩ := h5 x hx
      exact ⟨a1, a2, a3, a4, Nat.lt_of_lt_of_le a5 hb.size⟩
    · exact ⟨by omega, by omega, by omega, by omega, hp'⟩
end

/-- The call hands back a new row of marks; nothing that was there has turned. -/
def NewPl (n : Nat) (P : Nat → Prop) (w : World) (e : Ending) (w' : World) : Prop :=
  e = .returned (.slice (some ⟨w.heap.size, 0, none⟩) (n + 1) (n + 1)) ∧ Pl w' w.heap.size n P ∧ Below w.heap.size w w' ∧ w.heap.size < w'.heap.size

theorem mk_places (n : Nat) (h : n ≤ 100000) (w : World) : (Instr.makeSlice 110 (.int .i64 (n : Int)) (.int .i64 (n : Int))).run Tryd.prog w = .ok (.slice (some ⟨w.heap.size, 0, none⟩) n n) (w.alloc (.cells (repA n (.bool false)) 4)) := by
  obtain ⟨i0, hi0, hz0, hz1, hz2⟩ := info_parts info_bool
  exact run_mk _ _ i0 _ Tryd.underlying110 hi0 hz0 hz1 rfl n (by rw [hz2]; omega) (by omega) w

theorem pl_none (w : World) (n : Nat) : Pl (w.alloc (.cells (repA (n + 1) (.bool false)) 4)) w.heap.size n (fun _ => False) :=
  ⟨_, Blk.new _ _ _, repA_size _ _, fun k hk => ⟨false, repA_get _ _ _ (by omega), by simp⟩⟩

set_option maxRecDepth 100000 in
set_option maxHeartbeats 4000000 in
theorem none_any (F : Nat) (s : ByteArray) (hs : s.size ≤ 400) (w : World) (hf : w.cell? ⟨F, 2, none⟩ = some (.string s)) :
    Calls Tryd.prog 109 #[.pointer (some ⟨F, 0, none⟩)] w (NewPl s.size (fun _ => False) w) := by
  have hmk := fun W => mk_places (s.size + 1) (by omega) W
  have e1 : ((s.size + 1 : Nat) : Int) = (s.size : Int) + 1 := by omega
  rw [e1] at hmk
  clear e1
  go_enter Tryd.func109, Tryd.ntmps109
  go_wp2
  go_ret
  exact ⟨rfl, pl_none _ _, (Below.refl _ _).alloc (Nat.le_refl _) _, by simp⟩

set_option maxRecDepth 100000 in
set_option maxHeartbeats 4000000 in
theorem here_any (F k : Nat) (b : Bool) (s : ByteArray) (hs : s.size ≤ 400) (hk : k ≤ s.size) (w : World) (hf : w.cell? ⟨F, 2, none⟩ = some (.string s)) :
    Calls Tryd.prog 110 #[.pointer (some ⟨F, 0, none⟩), .int .i64 (k : Int), .bool b] w (NewPl s.size (fun j => j = k ∧ b = true) w) := by
  go_enter Tryd.func110, Tryd.ntmps110
  go_wp2_with fail
  refine (none_any F s hs _ hf).mono ?_
  rintro e w1 ⟨rfl, hp, hb, hlt⟩
  obtain ⟨x, hx, _⟩ := hp.cell k hk
  have hfz := hp.frozen k
  have hk1 : (k : Int) < (s.size : Int) + 1 := by omega
  have HP := Lib.hid hp
  have HB := Lib.hid hb
  clear hp hb
  go_wp2
  go_ret
  refine ⟨rfl, (HP.out.set_ k b).iff fun j _ => ?_, HB.out.setCell (Nat.le_refl _) _, by simpa using hlt⟩
  by_cases e : j = k
  · simp [e]
  · simp [e]

/-- The call leaves the row g as the other says, and nothing else turned. -/
def PutPl (g n : Nat) (P : Nat → Prop) (w : World) (e : Ending) (w' : World) : Prop :=
  e = .returned (.tuple #[]) ∧ Pl w' g n P ∧ w.grownBy w' (some g)

set_option maxRecDepth 100000 in
set_option maxHeartbeats 4000000 in
theorem add_any (g h n : Nat) (P Q : Nat → Prop) (hgh : g ≠ h) (hn : n ≤ 400) (w : World) (hp : Pl w g n P) (hq : Pl w h n Q) :
    Calls Tryd.prog 112 #[.slice (some ⟨g, 0, none⟩) (n + 1) (n + 1), .slice (some ⟨h, 0, none⟩) (n + 1) (n + 1)] w (PutPl g n (fun k => P k ∨ Q k) w) := by
  have HP := Lib.hid hp
  have HQ := Lib.hid hq
  clear hp hq
  go_enter Tryd.func112, Tryd.ntmps112
  go_wp2
  go_loopw [8] (fun v8 wr => ∃ k : Nat, k ≤ n + 1 ∧ v8 = .int .i64 (k : Int) ∧ Hid (Pl wr g n (fun j => P j ∨ (j < k ∧ Q j))) ∧ Hid (Pl wr h n Q) ∧ Hid (w.grownBy wr (some g))) (fun i _ => n + 1 - (intOf i).toNat)
  case atStart => exact ⟨0, by omega, rfl, Lib.hid (HP.out.iff fun j _ => by simp), HQ, Lib.hid (World.grownBy.refl _ _)⟩
  case round =>
    obtain ⟨k, hk, rfl, hP, hQ, hG⟩ := hrel
    by_cases hlt : k < n + 1
    · obtain ⟨x, hx, hx'⟩ := hP.out.cell k (by omega)
      obtain ⟨y, hy, hy'⟩ := hQ.out.cell k (by omega)
      have hfz := hP.out.frozen k
      have hk1 : (k : Int) < (n : Int) + 1 := by omega
      have HX := Lib.hid hx'
      have HY := Lib.hid hy'
      clear hx' hy'
      cases x <;> cases y
      all_goals
        go_wp2
        go_roundw
        case rel =>
          refine ⟨k + 1, by omega, by go_num, Lib.hid ((hP.out.set_ k _).iff fun j hj => ?_), Lib.hid (hQ.out.kept (grown_set _ _ _ _) (fun e => hgh (Option.some.inj e).symm)), Lib.hid (hG.out.trans (grown_set _ _ _ _))⟩
          have h1 := HX.out
          have h2 := HY.out
          by_cases e : j = k
          · subst e
            simp at h1 h2 ⊢
            first | exact .inl h1 | (refine .inr ?_; exact h2) | exact ⟨h1, h2⟩
          · have e2 : j < k + 1 ↔ j < k := by omega
            simp only [if_neg e, e2]
        case measure => simp [intOf]; omega
    · obtain rfl : k = n + 1 := by omega
      go_wp2
      go_end0
      exact ⟨rfl, hP.out.iff fun j hj => by have : j < n + 1 := by omega
                                            simp [this], hG.out⟩

end Go.Proofs.YthcahjnniendnabDoor
