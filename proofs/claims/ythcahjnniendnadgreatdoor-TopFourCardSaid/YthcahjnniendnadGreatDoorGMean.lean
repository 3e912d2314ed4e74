/-
  MeanA, MeanB, MeanC, MeanD, MeanE, MeanF.
-/
import Derived.Test.YthcahjnniendnadGreatDoorClsA
import Derived.Test.YthcahjnniendnadGreatDoorGPl
import Derived.Test.YthcahjnniendnadGreatDoorGSort
import Derived.Test.YthcahjnniendnadGreatDoorGWd
import Derived.Test.YthcahjnniendnadGreatDoorInts
import Derived.Test.YthcahjnniendnadGreatDoorQueue
import Derived.Deep.RegionHeld3
import Derived.Carry
import Derived.BigQuiet
/-
  The fitter in memory; walks of its none, here, and of places' add.
-/
namespace Go.Proofs.YthcahjnniendnadGreatDoor
open Go.RowKit Wf

/-- A block of n + 1 marks: of which places P holds. -/
def Pl (w : World) (g n : Nat) (P : Nat → Prop) : Prop := ∃ cs : Array Value, Blk w g 4 cs ∧ cs.size = n + 1 ∧ ∀ k, k ≤ n → ∃ b : Bool, cs[k]? = some (.bool b) ∧ (b = true ↔ P k)

theorem Pl.lt {w : World} {g n : Nat} {P : Nat → Prop} (h : Pl w g n P) : g < w.heap.size := by
  obtain ⟨cs, hb, _⟩ := h
  exact hb.lt
theorem Pl.kept {w w' : World} {g n : Nat} {P : Nat → Prop} {row : Option Nat} (h : Pl w g n P) (hg : w.grownBy w' row) (hne : some g ≠ row) : Pl w' g n P := by
  obtain ⟨cs, hb, h2⟩ := h
  exact ⟨cs, (hg.block g hb.lt hne).trans hb, h2⟩
theorem Pl.below {w w' : World} {g n : Nat} {P : Nat → Prop} (h : Pl w g n P) (hb : Below w.heap.size w w') : Pl w' g n P := by
  obtain ⟨cs, hk, h2⟩ := h
  exact ⟨cs, hk.kept hb, h2⟩
theorem Pl.iff {w : World} {g n : Nat} {P Q : Nat → Prop} (h : Pl w g n P) (hpq : ∀ k, k ≤ n → (P k ↔ Q k)) : Pl w g n Q := by
  obtain ⟨cs, hb, hs, hc⟩ := h
  refine ⟨cs, hb, hs, fun k hk => ?_⟩
  obtain ⟨b, h1, h2⟩ := hc k hk
  exact ⟨b, h1, h2.trans (hpq k hk)⟩
theorem Pl.cell {w : World} {g n : Nat} {P : Nat → Prop} (h : Pl w g n P) (k : Nat) (hk : k ≤ n) : ∃ b : Bool, w.cell? ⟨g, k, none⟩ = some (.bool b) ∧ (b = true ↔ P k) := by
  obtain ⟨cs, hb, _, hc⟩ := h
  obtain ⟨b, h1, h2⟩ := hc k hk
  exact ⟨b, by rw [hb.cell]; exact h1, h2⟩
theorem Pl.frozen {w : World} {g n : Nat} {P : Nat → Prop} (h : Pl w g n P) (k : Nat) : w.frozen? ⟨g, k, none⟩ = false := by
  obtain ⟨cs, hb, _⟩ := h
  exact hb.frozen k
theorem Pl.set_ {w : World} {g n : Nat} {P : Nat → Prop} (h : Pl w g n P) (k : Nat) (b : Bool) : Pl (w.setCell ⟨g, k, none⟩ (.bool b)) g n (fun j => if j = k then b = true else P j) := by
  obtain ⟨cs, hb, hs, hc⟩ := h
  refine ⟨_, hb.set_ k (.bool b), by simpa using hs, fun j hj => ?_⟩
  rw [Array.getElem?_setIfInBounds]
  by_cases e : k = j
  · subst e
    rw [if_pos rfl, if_pos (by omega)]
    exact ⟨b, rfl, by simp⟩
  · rw [if_neg e]
    obtain ⟨b', h1, h2⟩ := hc j hj
    exact ⟨b', h1, by show _ ↔ (if j = k then b = true else P j); rw [if_neg (fun h => e h.symm)]; exact h2⟩

theorem grown_set (w : World) (g k : Nat) (v : Value) : w.grownBy (w.setCell ⟨g, k, none⟩ v) (some g) :=
  ⟨rfl, rfl, rfl, by simp, fun i _ hi => Below.heap_setCell w ⟨g, k, none⟩ v i (fun e => hi (by rw [e]))⟩
theorem grown_of_below {w w' : World} (h : Below w.heap.size w w') (row : Option Nat) : w.grownBy w' row := ⟨h.os, h.tape, h.output, h.size, fun i hi _ => h.block i hi⟩
theorem grown_drewN {a w : World} {row : Option Nat} (h : a.grownBy w row) (n : Nat) : a.grownBy (w.drewN n) row := ⟨h.os, h.tape, h.output, h.size, h.block⟩

section
variable (l : List Nd) (s : ByteArray) (b off cap ge F M : Nat)

/-- The world as a fitter wants it. O: the blocks that are nobody's but ours. -/
structure FEnv (O : Nat → Prop) (w : World) : Prop where
  tenv : TEnv l b off cap ge w
  hf : Blk w F 186 #[.slice (some ⟨b, off, none⟩) l.length cap, .slice (some ⟨ge, 0, none⟩) l.length l.length, .string s, .map (some M)]
  hm : ∃ es clock, w.heap[M]? = some (.map es clock) ∧ ∀ e ∈ es.toList, ∃ (i k : Nat) (u : Rx) (g : Nat), e.key = spotV i k ∧ k ≤ s.size ∧ At l i u ∧ e.val = .slice (some ⟨g, 0, none⟩) (s.size + 1) (s.size + 1) ∧ ¬ O g ∧ Pl w g s.size (Fits s.data.toList u k)
  hO : ∀ x, O x → x ≠ F ∧ x ≠ b ∧ x ≠ ge ∧ x ≠ M ∧ x < w.heap.size
end

section
variable {l : List Nd} {s : ByteArray} {b off cap ge F M : Nat} {O : Nat → Prop} {w w' : World}

theorem FEnv.ltM (h : FEnv l s b off cap ge F M O w) : M < w.heap.size := by
  obtain ⟨es, clock, hm, _⟩ := h.hm
  exact (Array.getElem?_eq_some_iff.1 hm).1
theorem FEnv.ltF (h : FEnv l s b off cap ge F M O w) : F < w.heap.size := h.hf.lt
theorem FEnv.neFM (h : FEnv l s b off cap ge F M O w) : F ≠ M := by
  rintro rfl
  obtain ⟨es, clock, hm, _⟩ := h.hm
  have := h.hf
  unfold Blk at this
  rw [hm] at this
  cases this

theorem TEnv.grown {l : List Nd} {b off cap g p : Nat} {w w' : World} (h : TEnv l b off cap g w) (hg : w.grownBy w' (some p)) (hb : p ≠ b) (hge : p ≠ g) : TEnv l b off cap g w' := by
  have hbb : w'.heap[b]? = w.heap[b]? := hg.block b h.hb (fun e => hb (Option.some.inj e).symm)
  have hgg : w'.heap[g]? = w.heap[g]? := hg.block g h.hg (fun e => hge (Option.some.inj e).symm)
  refine ⟨?_, Nat.lt_of_lt_of_le h.hb hg.size, Nat.lt_of_lt_of_le h.hg hg.size, fun i u hu => ?_⟩
  · obtain ⟨A, n, cap', hv, h1, h2, h3, h4⟩ := h.hr
    refine ⟨A, n, cap', hv, h1, h2, h3, fun hn => ?_⟩
    obtain ⟨b', off', hA, hc⟩ := h4 hn
    refine ⟨b', off', hA, fun j u hu => ?_⟩
    have e : b' = b := by
      rw [hA] at hv
      cases hv
      rfl
    subst e
    rw [World.cell?_of_block (w := w) (a := ⟨b', off' + j, none⟩) hbb]
    exact hc j u hu
  · rw [World.cell?_of_block (w := w) (a := ⟨g, i, none⟩) hgg]
    exact h.hx i u hu

theorem FEnv.less {O' : Nat → Prop} (h : FEnv l s b off cap ge F M O w) (hO : ∀ x, O' x → O x) : FEnv l s b off cap ge F M O' w := by
  obtain ⟨h1, h2, ⟨es, clock, h3, h4⟩, h5⟩ := h
  refine ⟨h1, h2, ⟨es, clock, h3, fun e he => ?_⟩, fun x hx => h5 x (hO x hx)⟩
  obtain ⟨i, k, u, g, q1, q2, q3, q4, q5, q6⟩ := h4 e he
  exact ⟨i, k, u, g, q1, q2, q3, q4, fun hg => q5 (hO g hg), q6⟩

theorem FEnv.grow (h : FEnv l s b off cap ge F M O w) (hb : Below w.heap.size w w') : FEnv l s b off cap ge F M O w' := by
  have hM := h.ltM
  obtain ⟨h1, h2, ⟨es, clock, h3, h4⟩, h5⟩ := h
  refine ⟨h1.below hb, h2.kept hb, ⟨es, clock, (hb.block M hM).trans h3, fun e he => ?_⟩, fun x hx => ?_⟩
  · obtain ⟨i, k, u, g, q1, q2, q3, q4, q5, q6⟩ := h4 e he
    exact ⟨i, k, u, g, q1, q2, q3, q4, q5, q6.below hb⟩
  · obtain ⟨a1, a2, a3, a4, a5⟩ := h5 x hx
    exact ⟨a1, a2, a3, a4, Nat.lt_of_lt_of_le a5 hb.size⟩

theorem FEnv.put {p : Nat} (h : FEnv l s b off cap ge F M O w) (hp : O p) (hg : w.grownBy w' (some p)) : FEnv l s b off cap ge F M O w' := by
  have hM := h.ltM
  have hF := h.ltF
  obtain ⟨h1, h2, ⟨es, clock, h3, h4⟩, h5⟩ := h
  obtain ⟨a1, a2, a3, a4, a5⟩ := h5 p hp
  refine ⟨h1.grown hg a2 a3, (hg.block F hF (fun e => a1 (Option.some.inj e).symm)).trans h2, ⟨es, clock, (hg.block M hM (fun e => a4 (Option.some.inj e).symm)).trans h3, fun e he => ?_⟩, fun x hx => ?_⟩
  · obtain ⟨i, k, u, g, q1, q2, q3, q4, q5, q6⟩ := h4 e he
    exact ⟨i, k, u, g, q1, q2, q3, q4, q5, q6.kept hg (fun e => q5 (by rw [Option.some.inj e]; exact hp))⟩
  · obtain ⟨a1, a2, a3, a4, a5⟩ := h5 x hx
    exact ⟨a1, a2, a3, a4, Nat.lt_of_lt_of_le a5 hg.size⟩

/-- A new block is ours. -/
theorem FEnv.own {p : Nat} (h : FEnv l s b off cap ge F M O w) (hb : Below w.heap.size w w') (hp : w.heap.size ≤ p) (hp' : p < w'.heap.size) : FEnv l s b off cap ge F M (fun x => O x ∨ x = p) w' := by
  have hM := h.ltM
  have hF := h.ltF
  have hbb := h.tenv.hb
  have hgg := h.tenv.hg
  have h0 := h
  obtain ⟨h1, h2, ⟨es, clock, h3, h4⟩, h5⟩ := h
  refine ⟨h1.below hb, h2.kept hb, ⟨es, clock, (hb.block M hM).trans h3, fun e he => ?_⟩, fun x hx => ?_⟩
  · obtain ⟨i, k, u, g, q1, q2, q3, q4, q5, q6⟩ := h4 e he
    refine ⟨i, k, u, g, q1, q2, q3, q4, fun hg => ?_, q6.below hb⟩
    rcases hg with hg | hg
    · exact q5 hg
    · have := q6.lt; omega
  · rcases hx with hx | rfl
    · obtain ⟨a1, a2, a3, a4, a5⟩ := h5 x hx
      exact ⟨a1, a2, a3, a4, Nat.lt_of_lt_of_le a5 hb.size⟩
    · exact ⟨by omega, by omega, by omega, by omega, hp'⟩
end

/-- The call hands back a new row of marks; nothing that was there has turned. -/
def NewPl (n : Nat) (P : Nat → Prop) (w : World) (e : Ending) (w' : World) : Prop :=
  e = .returned (.slice (some ⟨w.heap.size, 0, none⟩) (n + 1) (n + 1)) ∧ Pl w' w.heap.size n P ∧ Below w.heap.size w w' ∧ w.heap.size < w'.heap.size

theorem mk_places (n : Nat) (h : n ≤ 100000) (w : World) : (Instr.makeSlice 188 (.int .i64 (n : Int)) (.int .i64 (n : Int))).run Tryz.prog w = .ok (.slice (some ⟨w.heap.size, 0, none⟩) n n) (w.alloc (.cells (repA n (.bool false)) 4)) := by
  obtain ⟨i0, hi0, hz0, hz1, hz2⟩ := info_parts info_bool
  exact run_mk _ _ i0 _ Tryz.underlying188 hi0 hz0 hz1 rfl n (by rw [hz2]; omega) (by omega) w

theorem pl_none (w : World) (n : Nat) : Pl (w.alloc (.cells (repA (n + 1) (.bool false)) 4)) w.heap.size n (fun _ => False) :=
  ⟨_, Blk.new _ _ _, repA_size _ _, fun k hk => ⟨false, repA_get _ _ _ (by omega), by simp⟩⟩

set_option maxRecDepth 100000 in
set_option maxHeartbeats 4000000 in
theorem none_any (F : Nat) (s : ByteArray) (hs : s.size ≤ 400) (w : World) (hf : w.cell? ⟨F, 2, none⟩ = some (.string s)) :
    Calls Tryz.prog 163 #[.pointer (some ⟨F, 0, none⟩)] w (NewPl s.size (fun _ => False) w) := by
  have hmk := fun W => mk_places (s.size + 1) (by omega) W
  have e1 : ((s.size + 1 : Nat) : Int) = (s.size : Int) + 1 := by omega
  rw [e1] at hmk
  clear e1
  go_enter Tryz.func163, Tryz.ntmps163
  go_wp2
  go_ret
  exact ⟨rfl, pl_none _ _, (Below.refl _ _).alloc (Nat.le_refl _) _, by simp⟩

set_option maxRecDepth 100000 in
set_option maxHeartbeats 4000000 in
theorem here_any (F k : Nat) (b : Bool) (s : ByteArray) (hs : s.size ≤ 400) (hk : k ≤ s.size) (w : World) (hf : w.cell? ⟨F, 2, none⟩ = some (.string s)) :
    Calls Tryz.prog 164 #[.pointer (some ⟨F, 0, none⟩), .int .i64 (k : Int), .bool b] w (NewPl s.size (fun j => j = k ∧ b = true) w) := by
  go_enter Tryz.func164, Tryz.ntmps164
  go_wp2_with fail
  refine (none_any F s hs _ hf).mono ?_
  rintro e w1 ⟨rfl, hp, hb, hlt⟩
  obtain ⟨x, hx, _⟩ := hp.cell k hk
  have hfz := hp.frozen k
  have hk1 : (k : Int) < (s.size : Int) + 1 := by omega
  have HP := Lib.hid hp
  have HB := Lib.hid hb
  clear hp hb
  go_wp2
  go_ret
  refine ⟨rfl, (HP.out.set_ k b).iff fun j _ => ?_, HB.out.setCell (Nat.le_refl _) _, by simpa using hlt⟩
  by_cases e : j = k
  · simp [e]
  · simp [e]

/-- The call leaves the row g as the other says, and nothing else turned. -/
def PutPl (g n : Nat) (P : Nat → Prop) (w : World) (e : Ending) (w' : World) : Prop :=
  e = .returned (.tuple #[]) ∧ Pl w' g n P ∧ w.grownBy w' (some g)

set_option maxRecDepth 100000 in
set_option maxHeartbeats 4000000 in
theorem add_any (g h n : Nat) (P Q : Nat → Prop) (hgh : g ≠ h) (hn : n ≤ 400) (w : World) (hp : Pl w g n P) (hq : Pl w h n Q) :
    Calls Tryz.prog 166 #[.slice (some ⟨g, 0, none⟩) (n + 1) (n + 1), .slice (some ⟨h, 0, none⟩) (n + 1) (n + 1)] w (PutPl g n (fun k => P k ∨ Q k) w) := by
  have HP := Lib.hid hp
  have HQ := Lib.hid hq
  clear hp hq
  go_enter Tryz.func166, Tryz.ntmps166
  go_wp2
  go_loopw [8] (fun v8 wr => ∃ k : Nat, k ≤ n + 1 ∧ v8 = .int .i64 (k : Int) ∧ Hid (Pl wr g n (fun j => P j ∨ (j < k ∧ Q j))) ∧ Hid (Pl wr h n Q) ∧ Hid (w.grownBy wr (some g))) (fun i _ => n + 1 - (intOf i).toNat)
  case atStart => exact ⟨0, by omega, rfl, Lib.hid (HP.out.iff fun j _ => by simp), HQ, Lib.hid (World.grownBy.refl _ _)⟩
  case round =>
    obtain ⟨k, hk, rfl, hP, hQ, hG⟩ := hrel
    by_cases hlt : k < n + 1
    · obtain ⟨x, hx, hx'⟩ := hP.out.cell k (by omega)
      obtain ⟨y, hy, hy'⟩ := hQ.out.cell k (by omega)
      have hfz := hP.out.frozen k
      have hk1 : (k : Int) < (n : Int) + 1 := by omega
      have HX := Lib.hid hx'
      have HY := Lib.hid hy'
      clear hx' hy'
      cases x <;> cases y
      all_goals
        go_wp2
        go_roundw
        case rel =>
          refine ⟨k + 1, by omega, by go_num, Lib.hid ((hP.out.set_ k _).iff fun j hj => ?_), Lib.hid (hQ.out.kept (grown_set _ _ _ _) (fun e => hgh (Option.some.inj e).symm)), Lib.hid (hG.out.trans (grown_set _ _ _ _))⟩
          have h1 := HX.out
          have h2 := HY.out
          by_cases e : j = k
          · subst e
            simp at h1 h2 ⊢
            first | exact .inl h1 | (refine .inr ?_; exact h2) | exact ⟨h1, h2⟩
          · have e2 : j < k + 1 ↔ j < k := by omega
            simp only [if_neg e, e2]
        case measure => simp [intOf]; omega
    · obtain rfl : k = n + 1 := by omega
      go_wp2
      go_end0
      exact ⟨rfl, hP.out.iff fun j hj => by have : j < n + 1 := by omega
                                            simp [this], hG.out⟩

end Go.Proofs.YthcahjnniendnadGreatDoor

/-
  Walks of the fitter's then and often, by what its from does at a part.
-/
namespace Go.Proofs.YthcahjnniendnadGreatDoor
open Go.RowKit Wf

theorem grown_new {w w1 w2 : World} {M p : Nat} (h : w.grownBy w1 (some M)) (h2 : w1.grownBy w2 (some p)) (hp : w.heap.size ≤ p) : w.grownBy w2 (some M) :=
  ⟨h2.os.trans h.os, h2.tape.trans h.tape, h2.output.trans h.output, Nat.le_trans h.size h2.size, fun i hi hne =>
    (h2.block i (Nat.lt_of_lt_of_le hi h.size) (fun e => by have := Option.some.inj e; omega)).trans (h.block i hi hne)⟩
theorem grown_below {w w1 w2 : World} {M : Nat} (h : w.grownBy w1 (some M)) (h2 : Below w1.heap.size w1 w2) : w.grownBy w2 (some M) :=
  ⟨h2.os.trans h.os, h2.tape.trans h.tape, h2.output.trans h.output, Nat.le_trans h.size h2.size, fun i hi hne => (h2.block i (Nat.lt_of_lt_of_le hi h.size)).trans (h.block i hi hne)⟩

section
variable (l : List Nd) (s : ByteArray) (b off cap ge F M : Nat)

/-- What 'from' leaves: a row of marks that is not ours, the fitter as it wants to be, nothing turned but its map. -/
def FromIs (O P : Nat → Prop) (w : World) (e : Ending) (w' : World) : Prop :=
  ∃ g, e = .returned (.slice (some ⟨g, 0, none⟩) (s.size + 1) (s.size + 1)) ∧ ¬ O g ∧ Pl w' g s.size P ∧ FEnv l s b off cap ge F M O w' ∧ w.grownBy w' (some M)

/-- What 'fit', 'then' and 'often' leave: likewise, and the row is new. -/
def FitIs (O P : Nat → Prop) (w : World) (e : Ending) (w' : World) : Prop :=
  ∃ g, e = .returned (.slice (some ⟨g, 0, none⟩) (s.size + 1) (s.size + 1)) ∧ w.heap.size ≤ g ∧ Pl w' g s.size P ∧ FEnv l s b off cap ge F M O w' ∧ w.grownBy w' (some M)

/-- 'from' does what it ought at a part. -/
def FromC (u : Rx) : Prop := ∀ (O : Nat → Prop) (i k : Nat) (w : World), At l i u → k ≤ s.size → FEnv l s b off cap ge F M O w →
  Calls Tryz.prog 88 #[.pointer (some ⟨F, 0, none⟩), .int .i64 (i : Int), .int .i64 (k : Int)] w (FromIs l s b off cap ge F M O (Fits s.data.toList u k) w)
end

section
variable {l : List Nd} {s : ByteArray} {b off cap ge F M : Nat} {O : Nat → Prop} {w w' : World}

theorem FEnv.neM (h : FEnv l s b off cap ge F M O w) {g n : Nat} {P : Nat → Prop} (hp : Pl w g n P) : g ≠ M := by
  rintro rfl
  obtain ⟨es, clock, hm, _⟩ := h.hm
  obtain ⟨cs, hb, _⟩ := hp
  unfold Blk at hb
  rw [hm] at hb
  cases hb

theorem FEnv.text (h : FEnv l s b off cap ge F M O w) : w.cell? ⟨F, 2, none⟩ = some (.string s) := h.hf.cell 2

set_option maxRecDepth 100000 in
set_option maxHeartbeats 4000000 in
theorem then_any (u : Rx) (hfrom : FromC l s b off cap ge F M u) (hs : s.size ≤ 400) (i gp : Nat) (P : Nat → Prop) (hu : At l i u) (hp : Pl w gp s.size P) (henv : FEnv l s b off cap ge F M O w) :
    Calls Tryz.prog 165 #[.pointer (some ⟨F, 0, none⟩), .slice (some ⟨gp, 0, none⟩) (s.size + 1) (s.size + 1), .int .i64 (i : Int)] w
      (FitIs l s b off cap ge F M O (fun j => ∃ q, q ≤ s.size ∧ P q ∧ Fits s.data.toList u q j) w) := by
  have HF := Lib.hid hfrom
  have HU := Lib.hid hu
  have HP := Lib.hid hp
  have HE := Lib.hid henv
  clear hfrom hu hp henv
  go_enter Tryz.func165, Tryz.ntmps165
  go_wp2_with fail
  refine (none_any F s hs _ HE.out.text).mono ?_
  rintro e w1 ⟨rfl, hp1, hb1, hlt1⟩
  have henv1 := HE.out.own hb1 (Nat.le_refl _) hlt1
  have hg1 := grown_of_below hb1 (some M)
  have HPP := Lib.hid (HP.out.below hb1)
  have HP1 := Lib.hid (hp1.iff (Q := fun j => ∃ q, q < 0 ∧ P q ∧ Fits s.data.toList u q j) fun j _ => by simp)
  have HE1 := Lib.hid henv1
  have HG1 := Lib.hid hg1
  clear henv1 hg1 hp1 hb1
  go_wp2_with fail
  go_loopw [14] (fun v14 wr => ∃ k : Nat, k ≤ s.size + 1 ∧ v14 = .int .i64 (k : Int) ∧ Hid (Pl wr w.heap.size s.size (fun j => ∃ q, q < k ∧ P q ∧ Fits s.data.toList u q j)) ∧ Hid (Pl wr gp s.size P) ∧
      Hid (FEnv l s b off cap ge F M (fun x => O x ∨ x = w.heap.size) wr) ∧ Hid (w.grownBy wr (some M))) (fun i _ => s.size + 1 - (intOf i).toNat)
  case atStart => exact ⟨0, by omega, rfl, HP1, HPP, HE1, HG1⟩
  case round =>
    obtain ⟨k, hk, rfl, hP, hQ, hE, hG⟩ := hrel
    by_cases hlt : k < s.size + 1
    · obtain ⟨x, hx, hx'⟩ := hQ.out.cell k (by omega)
      have hk1 : (k : Int) < (s.size : Int) + 1 := by omega
      have HX := Lib.hid hx'
      clear hx'
      cases x
      · go_wp2
        go_roundw
        case rel =>
          refine ⟨k + 1, by omega, by go_num, Lib.hid (hP.out.iff fun j hj => ?_), hQ, hE, hG⟩
          have hno : ¬ P k := fun h => by have := HX.out.2 h; cases this
          constructor
          · rintro ⟨q, h1, h2, h3⟩; exact ⟨q, by omega, h2, h3⟩
          · rintro ⟨q, h1, h2, h3⟩
            have : q ≠ k := fun e => hno (e ▸ h2)
            exact ⟨q, by omega, h2, h3⟩
        case measure => simp [intOf]; omega
      · go_wp2_with fail
        refine (HF.out _ i k _ HU.out (by omega) hE.out).mono ?_
        rintro e w2 ⟨g, rfl, hO2, hp2, henv2, hg2⟩
        have hne : w.heap.size ≠ g := fun h => hO2 (.inr h.symm)
        have hneM : (some w.heap.size : Option Nat) ≠ some M := fun h => by have := HE.out.ltM; have := Option.some.inj h; omega
        have HPa := Lib.hid (hP.out.kept hg2 hneM)
        have HQa := Lib.hid (hQ.out.kept hg2 (fun h => hE.out.neM hQ.out (Option.some.inj h)))
        have HGa := Lib.hid (hG.out.trans hg2)
        have HP2 := Lib.hid hp2
        have HE2 := Lib.hid henv2
        have hneq : w.heap.size ≠ gp := fun h => by have := HP.out.lt; omega
        clear hp2 henv2 hg2 hO2
        go_wp2_with fail
        refine (add_any _ _ s.size _ _ hne hs _ HPa.out HP2.out).mono ?_
        rintro e w3 ⟨rfl, hp3, hg3⟩
        have HP3 := Lib.hid hp3
        have HG3 := Lib.hid hg3
        clear hp3 hg3
        go_wp2_with fail
        go_roundw
        case rel =>
          refine ⟨k + 1, by omega, by go_num, Lib.hid (HP3.out.iff fun j hj => ?_), Lib.hid (HQa.out.kept HG3.out (fun h => hneq (Option.some.inj h).symm)), Lib.hid (HE2.out.put (.inr rfl) HG3.out), Lib.hid (grown_new HGa.out HG3.out (Nat.le_refl _))⟩
          have hyes : P k := HX.out.1 (by simp)
          constructor
          · rintro (⟨q, h1, h2, h3⟩ | h)
            · exact ⟨q, by omega, h2, h3⟩
            · exact ⟨k, by omega, hyes, h⟩
          · rintro ⟨q, h1, h2, h3⟩
            by_cases e : q = k
            · subst e; exact .inr h3
            · exact .inl ⟨q, by omega, h2, h3⟩
        case measure => simp [intOf]; omega
    · obtain rfl : k = s.size + 1 := by omega
      go_wp2
      go_ret
      refine ⟨_, rfl, Nat.le_refl _, hP.out.iff fun j hj => ?_, hE.out.less (fun x h => .inl h), hG.out⟩
      constructor
      · rintro ⟨q, h1, h2, h3⟩; exact ⟨q, by omega, h2, h3⟩
      · rintro ⟨q, h1, h2, h3⟩; exact ⟨q, by omega, h2, h3⟩

theorem Pl.ne_blk {w : World} {g n q : Nat} {P : Nat → Prop} {cur : Array Value} {t : TypeId} (h : Pl w g n P) (hc : w.heap[q]? = some (.cells cur t (0, 0))) (ht : t ≠ 4) : g ≠ q := by
  rintro rfl
  obtain ⟨cs, hb, _⟩ := h
  unfold Blk at hb
  rw [hb] at hc
  cases hc
  exact ht rfl

theorem FEnv.putT {q : Nat} {cur : Array Value} {t : TypeId} (h : FEnv l s b off cap ge F M O w) (hc : w.heap[q]? = some (.cells cur t (0, 0))) (ht : t ≠ 4) (hF' : q ≠ F) (hb' : q ≠ b) (hge' : q ≠ ge) (hg : w.grownBy w' (some q)) : FEnv l s b off cap ge F M O w' := by
  have hM := h.ltM
  have hF := h.ltF
  obtain ⟨h1, h2, ⟨es, clock, h3, h4⟩, h5⟩ := h
  have hqM : q ≠ M := by
    rintro rfl
    rw [h3] at hc
    cases hc
  refine ⟨h1.grown hg hb' hge', (hg.block F hF (fun e => hF' (Option.some.inj e).symm)).trans h2, ⟨es, clock, (hg.block M hM (fun e => hqM (Option.some.inj e).symm)).trans h3, fun e he => ?_⟩, fun x hx => ?_⟩
  · obtain ⟨i, k, u, g, q1, q2, q3, q4, q5, q6⟩ := h4 e he
    exact ⟨i, k, u, g, q1, q2, q3, q4, q5, q6.kept hg (fun e => q6.ne_blk hc ht (Option.some.inj e))⟩
  · obtain ⟨a1, a2, a3, a4, a5⟩ := h5 x hx
    exact ⟨a1, a2, a3, a4, Nat.lt_of_lt_of_le a5 hg.size⟩

theorem natVals_snoc (xs : List Nat) (k : Nat) : natVals (xs ++ [k]) = natVals xs ++ [.int .i64 (k : Int)] := by simp [natVals]
theorem natVals_len (xs : List Nat) : (natVals xs).length = xs.length := by simp [natVals]

set_option maxRecDepth 100000 in
set_option maxHeartbeats 8000000 in
theorem often_any (u : Rx) (hfrom : FromC l s b off cap ge F M u) (hs : s.size ≤ 400) (i at_ : Nat) (hat : at_ ≤ s.size) (hu : At l i u) (henv : FEnv l s b off cap ge F M O w) :
    Calls Tryz.prog 167 #[.pointer (some ⟨F, 0, none⟩), .int .i64 (i : Int), .int .i64 (at_ : Int)] w
      (FitIs l s b off cap ge F M O (fun j => Star (Fits s.data.toList u) at_ j) w) := by
  obtain ⟨i0, hi0, hz0, hz1, hz2⟩ := info_parts info_int
  have HF := Lib.hid hfrom
  have HU := Lib.hid hu
  have HE := Lib.hid henv
  have hbd : ∀ x y, Fits s.data.toList u x y → x ≤ s.size → y ≤ s.size := fun x y h hx => Nat.le_trans (fits_bound _ u x y h (by simpa using hx)).2 (by simp)
  have HBD := Lib.hid hbd
  clear hfrom hu henv hbd
  go_enter Tryz.func167, Tryz.ntmps167
  go_wp2_with fail
  refine (here_any F at_ true s hs hat _ HE.out.text).mono ?_
  rintro e w1 ⟨rfl, hp1, hb1, hlt1⟩
  have HE1 := Lib.hid (HE.out.own hb1 (Nat.le_refl _) hlt1)
  have HG1 := Lib.hid (grown_of_below hb1 (some M))
  have HP1 := Lib.hid (hp1.iff (Q := fun j => (fun j => j == at_) j = true) fun j _ => by simp)
  have hsz1 := hb1.size
  clear hp1 hb1
  go_wp2_with fail
  go_loopg [8] (2 * (s.size + 2) + 1) (fun gk v8 wr => ∃ (g o c : Nat) (D : Nat → Bool) (qs : List Nat), v8 = .slice (some ⟨g, o, none⟩) qs.length c ∧ Hid (Qu wr w1.heap.size 3 g o c (natVals qs)) ∧ Hid (Pl wr w.heap.size s.size (fun j => D j = true)) ∧
      Hid (InvO s.size (Fits s.data.toList u) at_ D qs) ∧ Hid (FEnv l s b off cap ge F M (fun x => O x ∨ x = w.heap.size) wr) ∧ Hid (w.grownBy wr (some M)) ∧ Hid (2 * cnt D s.size + qs.length ≤ gk) ∧ w1.heap.size ≤ wr.heap.size ∧ gk ≤ 2 * (s.size + 2) + 1)
  case atStart =>
    have hal : Below w1.heap.size w1 (w1.alloc (.cells #[.int .i64 (at_ : Int)] 3)) := (Below.refl _ _).alloc (Nat.le_refl _) _
    exact ⟨w1.heap.size, 0, 1, fun j => j == at_, [at_], rfl, Lib.hid (Qu.one w1 _ _ _ rfl (Nat.le_refl _) _), Lib.hid (HP1.out.below hal), Lib.hid (InvO.first hat), Lib.hid (HE1.out.grow hal), Lib.hid (grown_below HG1.out hal), Lib.hid (by have := cnt_le (fun j => j == at_) s.size; simp; omega), by simp, by omega⟩
  case round =>
    obtain ⟨g, o, c, D, qs, rfl, hQ, hP, hI, hE, hG, hM, hsz, hgk⟩ := hrel
    cases qs with
    | nil =>
      go_wp2
      go_ret
      exact ⟨_, rfl, Nat.le_refl _, hP.out.iff fun j hj => hI.out.done HBD.out hat j, hE.out.less (fun x h => .inl h), hG.out⟩
    | cons h rest =>
      have hII := Lib.hid hI.out.open_
      have hhn : h ≤ s.size := (hI.out.sound h (hI.out.wait h (by simp))).1
      have hc0 : wr.cell? ⟨g, o, none⟩ = some (.int .i64 (h : Int)) := by have := hQ.out.cell 0 (.int .i64 (h : Int)) rfl; simpa using this
      have hlen : (h :: rest).length = rest.length + 1 := rfl
      rw [hlen] at hM ⊢
      have hpos : (0 : Int) < (rest.length : Int) + 1 := by omega
      clear hI hlen
      go_wp2_with fail
      refine (HF.out _ i h _ HU.out hhn hE.out).mono ?_
      rintro e w2 ⟨g2, rfl, hO2, hp2, henv2, hg2⟩
      have hneM : g ≠ M := fun hh => by have := HE.out.ltM; have := hQ.out.hbase; omega
      have hneM1 : w.heap.size ≠ M := fun hh => by have := HE.out.ltM; omega
      have HQ2 := Lib.hid (hQ.out.kept hg2 (fun hh => hneM (Option.some.inj hh)))
      have HPO := Lib.hid (hP.out.kept hg2 (fun hh => hneM1 (Option.some.inj hh)))
      have HP2 := Lib.hid hp2
      have HE2 := Lib.hid henv2
      have HG2 := Lib.hid (hG.out.trans hg2)
      have hne2 : g2 ≠ w.heap.size := fun hh => hO2 (.inr hh)
      have hszw : wr.heap.size ≤ w2.heap.size := hg2.size
      clear hp2 henv2 hg2 hO2 hc0
      go_wp2_with fail
      go_loopw [8, 28] (fun v8 v28 wx => ∃ (k g o c : Nat) (D : Nat → Bool) (rest : List Nat), k ≤ s.size + 1 ∧ v28 = .int .i64 (k : Int) ∧ v8 = .slice (some ⟨g, o, none⟩) (rest.length + 1) c ∧ Hid (Qu wx w1.heap.size 3 g o c (natVals (h :: rest))) ∧
          Hid (Pl wx w.heap.size s.size (fun j => D j = true)) ∧ Hid (Pl wx g2 s.size (Fits s.data.toList u h)) ∧ Hid (InvI s.size (Fits s.data.toList u) at_ D h rest k) ∧ Hid (FEnv l s b off cap ge F M (fun x => O x ∨ x = w.heap.size) wx) ∧ Hid (w.grownBy wx (some M)) ∧
          Hid (2 * cnt D s.size + (rest.length + 1) ≤ gk) ∧ w1.heap.size ≤ wx.heap.size ∧ rest.length + cnt D s.size ≤ gk) (fun _ i _ => s.size + 1 - (intOf i).toNat)
      case atStart => exact ⟨0, g, o, c, D, rest, by omega, rfl, rfl, HQ2, HPO, HP2, hII, HE2, HG2, hM, by omega, by have := hM.out; omega⟩
      case round =>
        obtain ⟨k, g, o, c, D, rest, hk, rfl, rfl, hQ, hP, hR, hI, hE, hG, hM, hsz, hsmall⟩ := hrel
        by_cases hlt : k < s.size + 1
        · obtain ⟨x, hx, hx'⟩ := hR.out.cell k (by omega)
          obtain ⟨y, hy, hy'⟩ := hP.out.cell k (by omega)
          have hfz := hP.out.frozen k
          have hk1 : (k : Int) < (s.size : Int) + 1 := by omega
          have hyD : y = D k := by rw [Bool.eq_iff_iff]; exact hy'
          have HX := Lib.hid hx'
          have HY := Lib.hid hyD
          clear hx' hy' hyD
          cases x
          · go_wp2
            go_roundw
            case rel => exact ⟨k + 1, g, o, c, D, rest, by omega, by go_num, rfl, hQ, hP, hR, Lib.hid (hI.out.skip fun hr => by have := HX.out.2 hr; cases this), hE, hG, hM, hsz, hsmall⟩
            case measure => simp [intOf]; omega
          · cases y
            · have hneQ : g ≠ w.heap.size := fun hh => by have := hQ.out.hbase; omega
              have HQa := Lib.hid ((hQ.out.kept (grown_set wr w.heap.size k (.bool true)) (fun hh => hneQ (Option.some.inj hh))).kept (World.grownBy_alloc _ (.cells #[.int .i64 (k : Int)] 3) none) (by simp))
              have hcell : ((wr.setCell ⟨w.heap.size, k, none⟩ (.bool true)).alloc (.cells #[.int .i64 (k : Int)] 3)).cell? ⟨wr.heap.size, 0, none⟩ = some (.int .i64 (k : Int)) := by
                have := World.cell?_alloc_new (wr.setCell ⟨w.heap.size, k, none⟩ (.bool true)) #[.int .i64 (k : Int)] 3 0
                simpa using this
              have HCELL := Lib.hid hcell
              have HLEN := Lib.hid (show (natVals (h :: rest)).length = rest.length + 1 by simp [natVals])
              have hszx : w1.heap.size ≤ ((wr.setCell ⟨w.heap.size, k, none⟩ (.bool true)).alloc (.cells #[.int .i64 (k : Int)] 3)).heap.size := by simp; omega
              have HSZX := Lib.hid hszx
              clear hcell hszx
              go_wp2_with (at_builtin; refine wpList_app_q rfl (.tmp 44) (.tmp 46) _ rfl i0 _ 8 Tryz.underlying26 hi0 hz0 hz1 hz2 rfl (rest.length + 1) HLEN.out rfl HQa.out HSZX.out (.int .i64 (k : Int)) rfl wr.heap.size 1 rfl HCELL.out (by unfold maxLen; omega) (by omega) ?_; intro g' o' c' w' hQ' hg' hat')
              go_roundw
              case rel =>
                have hRk : Fits s.data.toList u h k := HX.out.1 (by simp)
                have hDk : D k = false := HY.out.symm
                obtain ⟨cur, hcur, _⟩ := HQa.out.hcur
                have hP' := hP.out.set_ k true
                have hal : ∀ W : World, Below W.heap.size W (W.alloc (.cells #[.int .i64 (k : Int)] 3)) := fun W => (Below.refl _ _).alloc (Nat.le_refl _) _
                have hP'' := (hP'.below (hal _)).kept hg' (fun hh => hneQ (Option.some.inj hh).symm)
                obtain ⟨cur0, hcur0, _⟩ := hQ.out.hcur
                have hneR : g2 ≠ g := fun hh => hR.out.ne_blk hcur0 (by decide) hh
                have hR' := ((hR.out.kept (grown_set wr w.heap.size k (.bool true)) (fun hh => hne2 (Option.some.inj hh))).below (hal _)).kept hg' (fun hh => hneR (Option.some.inj hh))
                have hEF := HE.out.ltF
                have hEb := HE.out.tenv.hb
                have hEg := HE.out.tenv.hg
                have hgb := hQ.out.hbase
                have hE' := ((hE.out.put (.inr rfl) (grown_set wr w.heap.size k (.bool true))).grow (hal _)).putT hcur (by decide) (by omega) (by omega) (by omega) hg'
                have hG' := grown_new (grown_below (grown_new hG.out (grown_set wr w.heap.size k (.bool true)) (Nat.le_refl _)) (hal _)) hg' (by omega)
                have hcm := cnt_mark D k hDk s.size (by omega)
                have hs2 := hg'.size
                have hMM := hM.out
                refine ⟨k + 1, g', o', c', Wf.mark D k, rest ++ [k], by omega, by go_num, by simp, Lib.hid (by rw [← List.cons_append, natVals_snoc]; exact hQ'), Lib.hid (hP''.iff fun j hj => ?_), Lib.hid hR', Lib.hid (hI.out.add hRk (by omega)), Lib.hid hE', Lib.hid hG', Lib.hid (by simp; omega), by simp at hs2; omega, by simp; omega⟩
                by_cases e : j = k
                · subst e; simp [Wf.mark]
                · simp [Wf.mark, e]
              case measure => simp [intOf]; omega
            · go_wp2
              go_roundw
              case rel => exact ⟨k + 1, g, o, c, D, rest, by omega, by go_num, rfl, hQ, hP, hR, Lib.hid (hI.out.skip fun _ => HY.out.symm), hE, hG, hM, hsz, hsmall⟩
              case measure => simp [intOf]; omega
        · obtain rfl : k = s.size + 1 := by omega
          have hT := Lib.hid (hQ.out.tail (by simp [natVals]))
          have htl : (natVals (h :: rest)).tail = natVals rest := rfl
          rw [htl] at hT
          have hIc := Lib.hid hI.out.close
          have hle := hQ.out.hle
          have hle2 : rest.length + 1 ≤ c := by simpa [natVals] using hle
          clear htl hle hI hQ
          have hMM := hM.out
          by_cases hc1 : c = 1
          · subst hc1
            have hr0 : rest.length = 0 := by omega
            have hr : rest = [] := List.eq_nil_of_length_eq_zero hr0
            subst hr
            clear hr0
            go_wp2
            go_roundg (gk - 1)
            case measure => simp at hMM; omega
            case rel => exact ⟨g, o, 0, D, [], rfl, hT, hP, hIc, hE, hG, Lib.hid (by simp at hMM ⊢; omega), hsz, by omega⟩
          · have hc2 : 2 ≤ c := by omega
            rw [if_neg hc1] at hT
            clear hc1
            go_wp2
            go_roundg (gk - 1)
            case measure => omega
            case rel => exact ⟨g, o + 1, c - 1, D, rest, rfl, hT, hP, hIc, hE, hG, Lib.hid (by omega), hsz, by omega⟩
end

end Go.Proofs.YthcahjnniendnadGreatDoor

/-
  Walks of the fitter's fit, part by part.
-/
namespace Go.Proofs.YthcahjnniendnadGreatDoor
open Go.RowKit Wf

section
variable {l : List Nd} {s : ByteArray} {b off cap ge F M : Nat} {O : Nat → Prop} {w w' : World}

/-- 'fit' does what it ought at a part. -/
def FitC (l : List Nd) (s : ByteArray) (b off cap ge F M : Nat) (u : Rx) : Prop := ∀ (O : Nat → Prop) (i k : Nat) (w : World), At l i u → k ≤ s.size → FEnv l s b off cap ge F M O w →
  Calls Tryz.prog 127 #[.pointer (some ⟨F, 0, none⟩), .int .i64 (i : Int), .int .i64 (k : Int)] w (FitIs l s b off cap ge F M O (Fits s.data.toList u k) w)

theorem FEnv.cellr (h : FEnv l s b off cap ge F M O w) : w.cell? ⟨F, 0, none⟩ = some (.slice (some ⟨b, off, none⟩) l.length cap) := h.hf.cell 0
theorem FEnv.celle (h : FEnv l s b off cap ge F M O w) : w.cell? ⟨F, 1, none⟩ = some (.slice (some ⟨ge, 0, none⟩) l.length l.length) := h.hf.cell 1
theorem FEnv.cellm (h : FEnv l s b off cap ge F M O w) : w.cell? ⟨F, 3, none⟩ = some (.map (some M)) := h.hf.cell 3

theorem fit_new {P : Nat → Prop} {w w1 w' : World} {e : Ending} (hb : Below w.heap.size w w1) (h : FEnv l s b off cap ge F M O w) (hn : NewPl s.size P w1 e w') : FitIs l s b off cap ge F M O P w e w' := by
  obtain ⟨rfl, hp, hb1, hlt⟩ := hn
  have hb2 := hb.trans (hb1.mono hb.size)
  exact ⟨_, rfl, hb.size, hp, h.grow hb2, grown_of_below hb2 _⟩

theorem fit_newB {P : Nat → Prop} {w w1 w' : World} {g : Nat} (hb : Below w.heap.size w w1) (h : FEnv l s b off cap ge F M O w) (hp : Pl w' w1.heap.size s.size P) (hb1 : Below w1.heap.size w1 w') (hg : w1.heap.size = g) :
    FitIs l s b off cap ge F M O P w (.returned (.slice (some ⟨g, 0, none⟩) (s.size + 1) (s.size + 1))) w' := by
  subst hg
  have hb2 := hb.trans (hb1.mono hb.size)
  exact ⟨_, rfl, hb.size, hp, h.grow hb2, grown_of_below hb2 _⟩

/-- What 'here' and 'none' leave inside the fitter: a new row, ours. -/
def OwnIs (l : List Nd) (s : ByteArray) (b off cap ge F M : Nat) (O P : Nat → Prop) (w : World) (e : Ending) (w' : World) : Prop :=
  ∃ g, e = .returned (.slice (some ⟨g, 0, none⟩) (s.size + 1) (s.size + 1)) ∧ w.heap.size ≤ g ∧ Pl w' g s.size P ∧ FEnv l s b off cap ge F M (fun x => O x ∨ x = g) w' ∧ w.grownBy w' (some M)

theorem OwnIs.of {P : Nat → Prop} {w w1 w' : World} {e : Ending} (hb : Below w.heap.size w w1) (h : FEnv l s b off cap ge F M O w) (hn : NewPl s.size P w1 e w') : OwnIs l s b off cap ge F M O P w e w' := by
  obtain ⟨rfl, hp, hb1, hlt⟩ := hn
  have hb2 := hb.trans (hb1.mono hb.size)
  exact ⟨_, rfl, hb.size, hp, (h.grow hb).own hb1 (Nat.le_refl _) hlt, grown_of_below hb2 _⟩

theorem here_own (k : Nat) (v : Bool) (hs : s.size ≤ 400) (hk : k ≤ s.size) (w1 : World) (hb : Below w.heap.size w w1) (h : FEnv l s b off cap ge F M O w) :
    Calls Tryz.prog 164 #[.pointer (some ⟨F, 0, none⟩), .int .i64 (k : Int), .bool v] w1 (OwnIs l s b off cap ge F M O (fun j => j = k ∧ v = true) w) :=
  (here_any F k v s hs hk _ (h.grow hb).text).mono fun _ _ hn => OwnIs.of hb h hn
theorem none_own (hs : s.size ≤ 400) (w1 : World) (hb : Below w.heap.size w w1) (h : FEnv l s b off cap ge F M O w) :
    Calls Tryz.prog 163 #[.pointer (some ⟨F, 0, none⟩)] w1 (OwnIs l s b off cap ge F M O (fun _ => False) w) :=
  (none_any F s hs _ (h.grow hb).text).mono fun _ _ hn => OwnIs.of hb h hn

set_option maxRecDepth 100000 in
set_option maxHeartbeats 4000000 in
theorem fit_empty (hs : s.size ≤ 400) (hl : l.length ≤ cap) (hcap : cap ≤ 9223372036854775807) : FitC l s b off cap ge F M .empty := by
  intro O i k w hu hk henv
  have hlt := hu.lt
  obtain ⟨q0, q1, q2, q3, q4⟩ := henv.tenv.node hu.empty
  dsimp only [zc] at q0 q1 q2 q3 q4
  have f0 := henv.cellr
  have f2 := henv.text
  have hil : (i : Int) < (l.length : Int) := by simp [flat] at hlt; omega
  have hFlt := henv.ltF
  have HE := Lib.hid henv
  have hlen60 : i < l.length := by omega
  clear henv hu hlt
  go_enter Tryz.func127, Tryz.ntmps127
  go_wp2_with fail
  refine (here_any F k true s hs hk _ (by simp [World.cell?_alloc_some, f2])).mono ?_
  rintro e w1 h1
  obtain ⟨rfl, hp, hb1, hlt1⟩ := h1
  go_wp2_with fail
  go_ret
  exact fit_newB ((Below.refl _ _).alloc (Nat.le_refl _) _) HE.out (hp.iff fun j hj => by simp [Fits]) hb1 (by simp)

set_option maxRecDepth 100000 in
set_option maxHeartbeats 8000000 in
theorem fit_bgn (hs : s.size ≤ 400) (hl : l.length ≤ cap) (hcap : cap ≤ 9223372036854775807) : FitC l s b off cap ge F M (.bgn) := by
  intro O i k w hu hk henv
  have hlt := hu.lt
  obtain ⟨q0, q1, q2, q3, q4⟩ := henv.tenv.node hu.bgn
  dsimp only [zc] at q0 q1 q2 q3 q4
  have f0 := henv.cellr
  have f2 := henv.text
  have hpos := flat_pos (.bgn)
  have hil : (i : Int) < (l.length : Int) := by omega
  have hFlt := henv.ltF
  have HE := Lib.hid henv
  have hlen60 : i < l.length := by omega
  clear henv hu hlt hpos
  by_cases h0 : k = 0
  · subst h0
    go_enter Tryz.func127, Tryz.ntmps127
    go_wp2_with fail
    refine (here_any F 0 true s hs hk _ (by simp [World.cell?_alloc_some, f2])).mono ?_
    rintro e w1 ⟨rfl, hp, hb1, hlt1⟩
    go_wp2_with fail
    go_ret
    exact fit_newB ((Below.refl _ _).alloc (Nat.le_refl _) _) HE.out (hp.iff fun j hj => by simp [Fits]) hb1 (by simp)
  · have hk0 : ((k : Int) == 0) = false := by simp; omega
    go_enter Tryz.func127, Tryz.ntmps127
    go_wp2_with fail
    refine (here_any F k false s hs hk _ (by simp [World.cell?_alloc_some, f2])).mono ?_
    rintro e w1 ⟨rfl, hp, hb1, hlt1⟩
    go_wp2_with fail
    go_ret
    exact fit_newB ((Below.refl _ _).alloc (Nat.le_refl _) _) HE.out (hp.iff fun j hj => by simp [Fits, h0]) hb1 (by simp)

set_option maxRecDepth 100000 in
set_option maxHeartbeats 8000000 in
theorem fit_fin (hs : s.size ≤ 400) (hl : l.length ≤ cap) (hcap : cap ≤ 9223372036854775807) : FitC l s b off cap ge F M (.fin) := by
  intro O i k w hu hk henv
  have hlt := hu.lt
  obtain ⟨q0, q1, q2, q3, q4⟩ := henv.tenv.node hu.fin
  dsimp only [zc] at q0 q1 q2 q3 q4
  have f0 := henv.cellr
  have f2 := henv.text
  have hpos := flat_pos (.fin)
  have hil : (i : Int) < (l.length : Int) := by omega
  have hFlt := henv.ltF
  have HE := Lib.hid henv
  have hlen60 : i < l.length := by omega
  clear henv hu hlt hpos
  have hsz : s.data.toList.length = s.size := by simp
  have HSZ := Lib.hid hsz
  clear hsz
  by_cases h0 : k = s.size
  · subst h0
    go_enter Tryz.func127, Tryz.ntmps127
    go_wp2_with fail
    refine (here_any F s.size true s hs hk _ (by simp [World.cell?_alloc_some, f2])).mono ?_
    rintro e w1 ⟨rfl, hp, hb1, hlt1⟩
    go_wp2_with fail
    go_ret
    exact fit_newB ((Below.refl _ _).alloc (Nat.le_refl _) _) HE.out (hp.iff fun j hj => by simp [Fits, HSZ.out]) hb1 (by simp)
  · have hk0 : ((k : Int) == (s.size : Int)) = false := by simp; omega
    go_enter Tryz.func127, Tryz.ntmps127
    go_wp2_with fail
    refine (here_any F k false s hs hk _ (by simp [World.cell?_alloc_some, f2])).mono ?_
    rintro e w1 ⟨rfl, hp, hb1, hlt1⟩
    go_wp2_with fail
    go_ret
    exact fit_newB ((Below.refl _ _).alloc (Nat.le_refl _) _) HE.out (hp.iff fun j hj => by simp only [Fits, HSZ.out]; simp [h0]) hb1 (by simp)

set_option maxRecDepth 100000 in
set_option maxHeartbeats 8000000 in
theorem fit_star (a : Rx) (ha : FromC l s b off cap ge F M a) (hs : s.size ≤ 400) (hl : l.length ≤ cap) (hcap : cap ≤ 9223372036854775807) : FitC l s b off cap ge F M (.star a) := by
  intro O i k w hu hk henv
  have hlt := hu.lt
  obtain ⟨q0, q1, q2, q3, q4⟩ := henv.tenv.node hu.star.1
  dsimp only [zc] at q0 q1 q2 q3 q4
  have f0 := henv.cellr
  have f2 := henv.text
  have hpos := flat_pos (.star a)
  have hil : (i : Int) < (l.length : Int) := by omega
  have hFlt := henv.ltF
  have HE := Lib.hid henv
  have hlen60 : i < l.length := by omega
  have hua := hu.star.2
  have HA := Lib.hid ha
  have HU := Lib.hid hua
  have hb1 : ∀ o : Obj, Below w.heap.size w (w.alloc o) := fun o => (Below.refl _ _).alloc (Nat.le_refl _) _
  have HB := Lib.hid hb1
  clear henv hu hlt hpos ha hua hb1
  go_enter Tryz.func127, Tryz.ntmps127
  go_wp2_with fail
  refine (often_any a HA.out hs (i + 1) k hk HU.out (HE.out.grow (HB.out _))).mono ?_
  rintro e w1 ⟨g, rfl, hge, hp, he, hg⟩
  go_wp2_with fail
  go_ret
  exact ⟨g, rfl, Nat.le_trans (HB.out _).size hge, hp, he, (grown_of_below (HB.out _) _).trans hg⟩

set_option maxRecDepth 100000 in
set_option maxHeartbeats 8000000 in
theorem fit_opt (a : Rx) (ha : FromC l s b off cap ge F M a) (hs : s.size ≤ 400) (hl : l.length ≤ cap) (hcap : cap ≤ 9223372036854775807) : FitC l s b off cap ge F M (.opt a) := by
  intro O i k w hu hk henv
  have hlt := hu.lt
  obtain ⟨q0, q1, q2, q3, q4⟩ := henv.tenv.node hu.opt.1
  dsimp only [zc] at q0 q1 q2 q3 q4
  have f0 := henv.cellr
  have f2 := henv.text
  have hpos := flat_pos (.opt a)
  have hil : (i : Int) < (l.length : Int) := by omega
  have hFlt := henv.ltF
  have HE := Lib.hid henv
  have hlen60 : i < l.length := by omega
  have hb1 : ∀ o : Obj, Below w.heap.size w (w.alloc o) := fun o => (Below.refl _ _).alloc (Nat.le_refl _) _
  have HB := Lib.hid hb1
  have hua := hu.opt.2
  have HA := Lib.hid ha
  have HU := Lib.hid hua
  clear henv hu hlt hpos ha hua hb1
  go_enter Tryz.func127, Tryz.ntmps127
  go_wp2_with fail
  refine (here_own k true hs hk _ (HB.out _) HE.out).mono ?_
  rintro e w1 ⟨g1, rfl, hge1, hp1, he1, hg1⟩
  have HE1 := Lib.hid he1
  have HP1 := Lib.hid hp1
  have HG1 := Lib.hid hg1
  clear hp1 he1 hg1
  go_wp2_with fail
  refine (HA.out _ (i + 1) k _ HU.out hk HE1.out).mono ?_
  rintro e w2 ⟨g2, rfl, hO2, hp2, he2, hg2⟩
  have hne : g1 ≠ g2 := fun h => hO2 (.inr h.symm)
  have hneM : g1 ≠ M := fun h => by have := HE.out.ltM; omega
  have HPa := Lib.hid (HP1.out.kept hg2 (fun h => hneM (Option.some.inj h)))
  have HP2 := Lib.hid hp2
  have HE2 := Lib.hid he2
  have HG2 := Lib.hid (HG1.out.trans hg2)
  clear hp2 he2 hg2 hO2
  go_wp2_with fail
  refine (add_any _ _ s.size _ _ hne hs _ HPa.out HP2.out).mono ?_
  rintro e w3 ⟨rfl, hp3, hg3⟩
  have HP3 := Lib.hid hp3
  have HE3 := Lib.hid ((HE2.out.put (.inr rfl) hg3).less (O' := O) (fun x h => .inl h))
  have HG3 := Lib.hid (grown_new HG2.out hg3 hge1)
  clear hp3 hg3
  go_wp2_with fail
  go_ret
  exact ⟨g1, rfl, hge1, HP3.out.iff fun j hj => by simp [Fits], HE3.out, HG3.out⟩


set_option maxRecDepth 100000 in
set_option maxHeartbeats 8000000 in
theorem fit_alt (a c : Rx) (ha : FromC l s b off cap ge F M a) (hc : FromC l s b off cap ge F M c) (hs : s.size ≤ 400) (hl : l.length ≤ cap) (hcap : cap ≤ 9223372036854775807) : FitC l s b off cap ge F M (.alt a c) := by
  intro O i k w hu hk henv
  have hlt := hu.lt
  obtain ⟨q0, q1, q2, q3, q4⟩ := henv.tenv.node hu.alt.1
  dsimp only [zc] at q0 q1 q2 q3 q4
  have f0 := henv.cellr
  have f2 := henv.text
  have hpos := flat_pos (.alt a c)
  have hil : (i : Int) < (l.length : Int) := by omega
  have hFlt := henv.ltF
  have HE := Lib.hid henv
  have hlen60 : i < l.length := by omega
  have hb1 : ∀ o : Obj, Below w.heap.size w (w.alloc o) := fun o => (Below.refl _ _).alloc (Nat.le_refl _) _
  have HB := Lib.hid hb1
  obtain ⟨_, hua, huc⟩ := hu.alt
  have hi1 : (i : Int) + 1 < (l.length : Int) := by have := hua.lt; have := flat_pos a; omega
  have HA := Lib.hid ha
  have HU := Lib.hid hua
  have HC := Lib.hid hc
  have HUC := Lib.hid huc
  clear henv hu hlt hpos ha hua hb1 hc huc
  go_enter Tryz.func127, Tryz.ntmps127
  go_wp2_with fail
  refine (none_own hs _ (HB.out _) HE.out).mono ?_
  rintro e w1 ⟨g1, rfl, hge1, hp1, he1, hg1⟩
  have HE1 := Lib.hid he1
  have HP1 := Lib.hid hp1
  have HG1 := Lib.hid hg1
  clear hp1 he1 hg1
  have hneM : g1 ≠ M := fun h => by have := HE.out.ltM; omega
  go_wp2_with fail
  refine (HA.out _ (i + 1) k _ HU.out hk HE1.out).mono ?_
  rintro e w2 ⟨g2, rfl, hO2, hp2, he2, hg2⟩
  have hne : g1 ≠ g2 := fun h => hO2 (.inr h.symm)
  have HPa := Lib.hid (HP1.out.kept hg2 (fun h => hneM (Option.some.inj h)))
  have HP2 := Lib.hid hp2
  have HE2 := Lib.hid he2
  have HG2 := Lib.hid (HG1.out.trans hg2)
  clear hp2 he2 hg2 hO2
  go_wp2_with fail
  refine (add_any _ _ s.size _ _ hne hs _ HPa.out HP2.out).mono ?_
  rintro e w3 ⟨rfl, hp3, hg3⟩
  have HP3 := Lib.hid hp3
  have HE3 := Lib.hid (HE2.out.put (.inr rfl) hg3)
  have HG3 := Lib.hid (grown_new HG2.out hg3 hge1)
  have f1 := HE3.out.celle
  have hx1 := HE3.out.tenv.hx (i + 1) a HU.out
  clear hp3 hg3
  go_wp2_with fail
  refine (HC.out _ (i + 1 + (flat a).length) k _ HUC.out hk HE3.out).mono ?_
  rintro e w4 ⟨g4, rfl, hO4, hp4, he4, hg4⟩
  have hne4 : g1 ≠ g4 := fun h => hO4 (.inr h.symm)
  have HPb := Lib.hid (HP3.out.kept hg4 (fun h => hneM (Option.some.inj h)))
  have HP4 := Lib.hid hp4
  have HE4 := Lib.hid he4
  have HG4 := Lib.hid (HG3.out.trans hg4)
  clear hp4 he4 hg4 hO4
  go_wp2_with fail
  refine (add_any _ _ s.size _ _ hne4 hs _ HPb.out HP4.out).mono ?_
  rintro e w5 ⟨rfl, hp5, hg5⟩
  have HP5 := Lib.hid hp5
  have HE5 := Lib.hid ((HE4.out.put (.inr rfl) hg5).less (O' := O) (fun x h => .inl h))
  have HG5 := Lib.hid (grown_new HG4.out hg5 hge1)
  clear hp5 hg5
  go_wp2_with fail
  go_ret
  exact ⟨g1, rfl, hge1, HP5.out.iff fun j hj => by simp [Fits], HE5.out, HG5.out⟩


end

end Go.Proofs.YthcahjnniendnadGreatDoor

/-
  Walks of the fitter's fit: byte, plus, cat.
-/
namespace Go.Proofs.YthcahjnniendnadGreatDoor
open Go.RowKit Wf

section
variable {l : List Nd} {s : ByteArray} {b off cap ge F M : Nat} {O : Nat → Prop} {w w' : World}

set_option maxRecDepth 100000 in
set_option maxHeartbeats 8000000 in
theorem fit_plus (a : Rx) (ha : FromC l s b off cap ge F M a) (hs : s.size ≤ 400) (hl : l.length ≤ cap) (hcap : cap ≤ 9223372036854775807) : FitC l s b off cap ge F M (.plus a) := by
  intro O i k w hu hk henv
  have hlt := hu.lt
  obtain ⟨q0, q1, q2, q3, q4⟩ := henv.tenv.node hu.plus.1
  dsimp only [zc] at q0 q1 q2 q3 q4
  have f0 := henv.cellr
  have f2 := henv.text
  have hpos := flat_pos (.plus a)
  have hil : (i : Int) < (l.length : Int) := by omega
  have hFlt := henv.ltF
  have HE := Lib.hid henv
  have hlen60 : i < l.length := by omega
  have hb1 : ∀ o : Obj, Below w.heap.size w (w.alloc o) := fun o => (Below.refl _ _).alloc (Nat.le_refl _) _
  have HB := Lib.hid hb1
  have hua := hu.plus.2
  have HA := Lib.hid ha
  have HU := Lib.hid hua
  clear henv hu hlt hpos ha hua hb1
  go_enter Tryz.func127, Tryz.ntmps127
  go_wp2_with fail
  refine (none_own hs _ (HB.out _) HE.out).mono ?_
  rintro e w1 ⟨g1, rfl, hge1, hp1, he1, hg1⟩
  have HE1 := Lib.hid he1
  have HP1 := Lib.hid hp1
  have HG1 := Lib.hid hg1
  have hneM : g1 ≠ M := fun h => by have := HE.out.ltM; omega
  clear hp1 he1 hg1
  go_wp2_with fail
  refine (HA.out _ (i + 1) k _ HU.out hk HE1.out).mono ?_
  rintro e w2 ⟨g2, rfl, hO2, hp2, he2, hg2⟩
  have hne : g1 ≠ g2 := fun h => hO2 (.inr h.symm)
  have hneM2 : g2 ≠ M := fun h => he2.neM hp2 h
  have HPa := Lib.hid ((HP1.out.kept hg2 (fun h => hneM (Option.some.inj h))).iff (Q := fun j => ∃ q, q < 0 ∧ Fits s.data.toList a k q ∧ Star (Fits s.data.toList a) q j) fun j _ => by simp)
  have HP2 := Lib.hid hp2
  have HE2 := Lib.hid he2
  have HG2 := Lib.hid (HG1.out.trans hg2)
  clear hp2 he2 hg2 hO2
  go_wp2_with fail
  go_loopw [128] (fun v128 wr => ∃ q : Nat, q ≤ s.size + 1 ∧ v128 = .int .i64 (q : Int) ∧ Hid (Pl wr g1 s.size (fun j => ∃ p, p < q ∧ Fits s.data.toList a k p ∧ Star (Fits s.data.toList a) p j)) ∧ Hid (Pl wr g2 s.size (Fits s.data.toList a k)) ∧
      Hid (FEnv l s b off cap ge F M (fun x => O x ∨ x = g1) wr) ∧ Hid (w.grownBy wr (some M))) (fun i _ => s.size + 1 - (intOf i).toNat)
  case atStart => exact ⟨0, by omega, rfl, HPa, HP2, HE2, HG2⟩
  case round =>
    obtain ⟨q, hq, rfl, hP, hQ, hE, hG⟩ := hrel
    by_cases hlt : q < s.size + 1
    · obtain ⟨x, hx, hx'⟩ := hQ.out.cell q (by omega)
      have hk1 : (q : Int) < (s.size : Int) + 1 := by omega
      have HX := Lib.hid hx'
      clear hx'
      cases x
      · go_wp2
        go_roundw
        case rel =>
          refine ⟨q + 1, by omega, by go_num, Lib.hid (hP.out.iff fun j hj => ?_), hQ, hE, hG⟩
          have hno : ¬ Fits s.data.toList a k q := fun h => by have := HX.out.2 h; cases this
          constructor
          · rintro ⟨p, h1, h2, h3⟩; exact ⟨p, by omega, h2, h3⟩
          · rintro ⟨p, h1, h2, h3⟩
            have : p ≠ q := fun e => hno (e ▸ h2)
            exact ⟨p, by omega, h2, h3⟩
        case measure => simp [intOf]; omega
      · go_wp2_with fail
        refine (often_any a HA.out hs (i + 1) q (by omega) HU.out hE.out).mono ?_
        rintro e w3 ⟨g3, rfl, hge3, hp3, henv3, hg3⟩
        have hlt1 := hP.out.lt
        have hne13 : g1 ≠ g3 := fun h => by omega
        have hne12 : g2 ≠ g1 := fun h => hne h.symm
        have HPb := Lib.hid (hP.out.kept hg3 (fun h => hneM (Option.some.inj h)))
        have HQb := Lib.hid (hQ.out.kept hg3 (fun h => hneM2 (Option.some.inj h)))
        have HGb := Lib.hid (hG.out.trans hg3)
        have HP3 := Lib.hid hp3
        have HE3 := Lib.hid henv3
        clear hp3 henv3 hg3
        go_wp2_with fail
        refine (add_any _ _ s.size _ _ hne13 hs _ HPb.out HP3.out).mono ?_
        rintro e w4 ⟨rfl, hp4, hg4⟩
        have HP4 := Lib.hid hp4
        have HG4 := Lib.hid hg4
        clear hp4 hg4
        go_wp2_with fail
        go_roundw
        case rel =>
          refine ⟨q + 1, by omega, by go_num, Lib.hid (HP4.out.iff fun j hj => ?_), Lib.hid (HQb.out.kept HG4.out (fun h => hne12 (Option.some.inj h))), Lib.hid (HE3.out.put (.inr rfl) HG4.out), Lib.hid (grown_new HGb.out HG4.out hge1)⟩
          have hyes : Fits s.data.toList a k q := HX.out.1 (by simp)
          constructor
          · rintro (⟨p, h1, h2, h3⟩ | h)
            · exact ⟨p, by omega, h2, h3⟩
            · exact ⟨q, by omega, hyes, h⟩
          · rintro ⟨p, h1, h2, h3⟩
            by_cases e : p = q
            · subst e; exact .inr h3
            · exact .inl ⟨p, by omega, h2, h3⟩
        case measure => simp [intOf]; omega
    · obtain rfl : q = s.size + 1 := by omega
      go_wp2
      go_ret
      refine ⟨g1, rfl, hge1, hP.out.iff fun j hj => ?_, hE.out.less (fun x h => .inl h), hG.out⟩
      simp only [Fits]
      constructor
      · rintro ⟨p, h1, h2, h3⟩; exact ⟨p, h2, h3⟩
      · rintro ⟨p, h2, h3⟩
        have := (fits_bound _ a k p h2 (by simpa using hk)).2
        exact ⟨p, by simp at this; omega, h2, h3⟩

set_option maxRecDepth 100000 in
set_option maxHeartbeats 8000000 in
theorem fit_cat (a c : Rx) (ha : FromC l s b off cap ge F M a) (hc : FromC l s b off cap ge F M c) (hs : s.size ≤ 400) (hl : l.length ≤ cap) (hcap : cap ≤ 9223372036854775807) : FitC l s b off cap ge F M (.cat a c) := by
  intro O i k w hu hk henv
  have hlt := hu.lt
  obtain ⟨q0, q1, q2, q3, q4⟩ := henv.tenv.node hu.cat.1
  dsimp only [zc] at q0 q1 q2 q3 q4
  have f0 := henv.cellr
  have f2 := henv.text
  have hpos := flat_pos (.cat a c)
  have hil : (i : Int) < (l.length : Int) := by omega
  have hFlt := henv.ltF
  have HE := Lib.hid henv
  have hlen60 : i < l.length := by omega
  have hb1 : ∀ o : Obj, Below w.heap.size w (w.alloc o) := fun o => (Below.refl _ _).alloc (Nat.le_refl _) _
  have HB := Lib.hid hb1
  obtain ⟨_, hua, huc⟩ := hu.cat
  have hi1 : (i : Int) + 1 < (l.length : Int) := by have := hua.lt; have := flat_pos a; omega
  have hi0 : (0 : Int) ≤ (i : Int) + 1 := by omega
  have HA := Lib.hid ha
  have HU := Lib.hid hua
  have HC := Lib.hid hc
  have HUC := Lib.hid huc
  clear henv hu hlt hpos ha hua hb1 hc huc
  go_enter Tryz.func127, Tryz.ntmps127
  go_wp2_with fail
  have HSZ := Lib.hid (HB.out (.cells #[.int .i64 3, .int .u64 0, .int .u64 0, .int .u64 0, .int .u64 0] 191))
  obtain ⟨W, hW⟩ : ∃ W, W = w.alloc (.cells #[.int .i64 3, .int .u64 0, .int .u64 0, .int .u64 0, .int .u64 0] 191) := ⟨_, rfl⟩
  rw [← hW] at HSZ ⊢
  have H0 := Lib.hid (show FEnv l s b off cap ge F M O W.drew ∧ w.grownBy W.drew (some M) from ⟨HE.out.grow HSZ.out.drew, grown_of_below HSZ.out.drew _⟩)
  have hx1 := HE.out.tenv.hx (i + 1) a HU.out
  clear hW
  have hS : ∀ w', Hid (FEnv l s b off cap ge F M O w' ∧ w.grownBy w' (some M)) → (w'.cell? ⟨F, 1, none⟩ = some (.slice (some ⟨ge, 0, none⟩) l.length l.length) ∧ w'.cell? ⟨ge, i + 1, none⟩ = some (.int .i64 ((i + 1 + (flat a).length : Nat) : Int)) ∧ Hid (FEnv l s b off cap ge F M O w' ∧ w.grownBy w' (some M))) :=
    fun w' h => ⟨h.out.1.celle, h.out.1.tenv.hx (i + 1) a HU.out, h⟩
  have HS := Lib.hid hS
  generalize he : i + 1 + (flat a).length = e2 at *
  clear hS hx1
  have hwr : IntKind.i64.wrap ((i : Int) + 1) = (i : Int) + 1 := IntWalk.i64_in _ (by omega)
  have htn : ((i : Int) + 1).toNat = i + 1 := by omega
  have hcall1 : ∀ w', Hid (FEnv l s b off cap ge F M O w' ∧ w.grownBy w' (some M)) → Calls Tryz.prog 88 #[.pointer (some ⟨F, 0, none⟩), .int .i64 ((i + 1 : Nat) : Int), .int .i64 (k : Int)] w' (fun e w2 => ∃ g, e = .returned (.slice (some ⟨g, 0, none⟩) (s.size + 1) (s.size + 1)) ∧ Hid (Pl w2 g s.size (Fits s.data.toList a k)) ∧ Hid (FEnv l s b off cap ge F M O w2 ∧ w.grownBy w2 (some M))) :=
    fun w' h => (HA.out O (i + 1) k w' HU.out hk h.out.1).mono fun e w2 ⟨g, h1, h2, h3, h4, h5⟩ => ⟨g, h1, Lib.hid h3, Lib.hid ⟨h4, h.out.2.trans h5⟩⟩
  have hcall2 : ∀ g1 w', Hid (Pl w' g1 s.size (Fits s.data.toList a k)) → Hid (FEnv l s b off cap ge F M O w' ∧ w.grownBy w' (some M)) → Calls Tryz.prog 165 #[.pointer (some ⟨F, 0, none⟩), .slice (some ⟨g1, 0, none⟩) (s.size + 1) (s.size + 1), .int .i64 (e2 : Int)] w' (fun e w2 => ∃ g, e = .returned (.slice (some ⟨g, 0, none⟩) (s.size + 1) (s.size + 1)) ∧ w.heap.size ≤ g ∧ Hid (Pl w2 g s.size (Fits s.data.toList (.cat a c) k)) ∧ Hid (FEnv l s b off cap ge F M O w2 ∧ w.grownBy w2 (some M))) :=
    fun g1 w' hp h => (then_any c HC.out hs e2 g1 _ HUC.out hp.out h.out.1).mono fun e w2 ⟨g, h1, h2, h3, h4, h5⟩ => ⟨g, h1, Nat.le_trans h.out.2.size h2, Lib.hid (h3.iff fun j hj => by
      simp only [Fits]
      constructor
      · rintro ⟨p, h1, h2, h3⟩; exact ⟨p, h2, h3⟩
      · rintro ⟨p, h2, h3⟩
        have := (fits_bound _ a k p h2 (by simpa using hk)).2
        exact ⟨p, by simpa using this, h2, h3⟩), Lib.hid ⟨h4, h.out.2.trans h5⟩⟩
  have HC1 := Lib.hid hcall1
  have HC2 := Lib.hid hcall2
  clear hcall1 hcall2 he
  go_region_held3 (fun w' => w'.cell? ⟨F, 1, none⟩ = some (.slice (some ⟨ge, 0, none⟩) l.length l.length) ∧ w'.cell? ⟨ge, i + 1, none⟩ = some (.int .i64 (e2 : Int)) ∧ Hid (FEnv l s b off cap ge F M O w' ∧ w.grownBy w' (some M)))
    (exact HS.out _ (by assumption))
    (first
      | (go_at_call 88; refine (HC1.out _ (by assumption)).mono ?_; rintro e w2 ⟨g1, rfl, hp1, h1⟩)
      | (go_at_call 165; refine (HC2.out _ _ (by assumption) (by assumption)).mono ?_; rintro e w3 ⟨g3, rfl, hge3, hp3, h3⟩))
  go_wp2_with fail
  go_ret
  exact ⟨g3, rfl, hge3, hp3.out, h3.out.1, h3.out.2⟩

set_option maxRecDepth 100000 in
set_option maxHeartbeats 8000000 in
theorem fit_byte (c : Cls) (hok : okC c) (hs : s.size ≤ 400) (hl : l.length ≤ cap) (hcap : cap ≤ 9223372036854775807) : FitC l s b off cap ge F M (.byte c) := by
  intro O i k w hu hk henv
  obtain ⟨c0, c1, c2, c3⟩ := c
  have hlt := hu.lt
  obtain ⟨q0, q1, q2, q3, q4⟩ := henv.tenv.node hu.byte
  dsimp only at q0 q1 q2 q3 q4
  have f0 := henv.cellr
  have f2 := henv.text
  have hpos := flat_pos (.byte (c0, c1, c2, c3))
  have hil : (i : Int) < (l.length : Int) := by omega
  have hFlt := henv.ltF
  have HE := Lib.hid henv
  have hlen60 : i < l.length := by omega
  have hb1 : ∀ o : Obj, Below w.heap.size w (w.alloc o) := fun o => (Below.refl _ _).alloc (Nat.le_refl _) _
  have HB := Lib.hid hb1
  have HOK := Lib.hid hok
  clear henv hu hlt hpos hb1 hok
  go_enter Tryz.func127, Tryz.ntmps127
  go_wp2_with fail
  have HSZ := Lib.hid (HB.out (.cells #[.int .i64 1, .int .u64 c0, .int .u64 c1, .int .u64 c2, .int .u64 c3] 191))
  have HBK := Lib.hid (Blk.new w 191 #[.int .i64 1, .int .u64 c0, .int .u64 c1, .int .u64 c2, .int .u64 c3])
  have hw0 : (w.alloc (.cells #[.int .i64 1, .int .u64 c0, .int .u64 c1, .int .u64 c2, .int .u64 c3] 191)).heap.size = w.heap.size + 1 := by simp
  obtain ⟨W, hW⟩ : ∃ W, W = w.alloc (.cells #[.int .i64 1, .int .u64 c0, .int .u64 c1, .int .u64 c2, .int .u64 c3] 191) := ⟨_, rfl⟩
  rw [← hW] at HSZ HBK hw0 ⊢
  clear hW
  refine (none_any F s hs _ ((HE.out.grow HSZ.out).text)).mono ?_
  rintro e w1 hn
  have hown := OwnIs.of HSZ.out HE.out hn
  obtain ⟨rfl, hp, hbw, hlt⟩ := hn
  obtain ⟨g1, hee, hge1, hp1, he1, hg1⟩ := hown
  have hg1W : g1 = W.heap.size := by
    have h1 := Ending.returned.inj hee
    simp at h1
    exact h1.symm
  rw [hw0] at hg1W
  subst hg1W
  clear hee hp
  have HE1 := Lib.hid he1
  have HP1 := Lib.hid hp1
  have HG1 := Lib.hid hg1
  have hblk := HBK.out.kept hbw
  have HBL := Lib.hid hblk
  have hSZ : w.heap.size ≤ w.heap.size + 1 := by omega
  clear hp1 he1 hg1 hbw hblk
  by_cases hlt : k < s.size
  · have hk1 : (k : Int) < (s.size : Int) := by omega
    have hk0 : (0 : Int) ≤ (k : Int) := by omega
    have hS : ∀ w', Below w1.heap.size w1 w' → (w'.cell? ⟨F, 2, none⟩ = some (.string s) ∧ w'.cell? ⟨w.heap.size, 1, none⟩ = some (.int .u64 (c0 : Int)) ∧ w'.cell? ⟨w.heap.size, 2, none⟩ = some (.int .u64 (c1 : Int)) ∧ w'.cell? ⟨w.heap.size, 3, none⟩ = some (.int .u64 (c2 : Int)) ∧ w'.cell? ⟨w.heap.size, 4, none⟩ = some (.int .u64 (c3 : Int)) ∧ Below w1.heap.size w1 w') :=
      fun w' h => by
        have hb2 := HBL.out.kept h
        exact ⟨(HE1.out.grow h).text, hb2.cell 1, hb2.cell 2, hb2.cell 3, hb2.cell 4, h⟩
    have HS := Lib.hid hS
    have B0 : Below w1.heap.size w1 w1.drew := (Below.refl _ _).drew
    have hbyte' : s[k].toNat < 256 := s[k].toNat_lt
    clear hS
    go_wp2_with fail
    go_region_held3 (fun w' => w'.cell? ⟨F, 2, none⟩ = some (.string s) ∧ w'.cell? ⟨w.heap.size, 1, none⟩ = some (.int .u64 (c0 : Int)) ∧ w'.cell? ⟨w.heap.size, 2, none⟩ = some (.int .u64 (c1 : Int)) ∧ w'.cell? ⟨w.heap.size, 3, none⟩ = some (.int .u64 (c2 : Int)) ∧ w'.cell? ⟨w.heap.size, 4, none⟩ = some (.int .u64 (c3 : Int)) ∧ Below w1.heap.size w1 w')
      (exact HS.out _ (by assumption))
      (first
        | (go_at_call 98; refine (Has_any c0 c1 c2 c3 s[k].toNat _ HOK.out hbyte').mono ?_; rintro e w2 ⟨rfl, hb2⟩; have hB2 : Below w1.heap.size w1 w2 := (by assumption : Below w1.heap.size w1 _).trans (hb2.mono (by assumption : Below w1.heap.size w1 _).size)))
    have hp2 := HP1.out.below hB2
    have he2 := HE1.out.grow hB2
    have hg2 := HG1.out.trans (grown_of_below hB2 (some M))
    obtain ⟨x, hx, _⟩ := hp2.cell (k + 1) (by omega)
    have hfz := hp2.frozen (k + 1)
    have hwr : IntKind.i64.wrap ((k : Int) + 1) = (k : Int) + 1 := IntWalk.i64_in _ (by omega)
    have htn : ((k : Int) + 1).toNat = k + 1 := by omega
    have hki : (k : Int) + 1 < (s.size : Int) + 1 := by omega
    have hki0 : (0 : Int) ≤ (k : Int) + 1 := by omega
    have hgk : s.data.toList[k]? = some s[k] := by
      have : s.data.toList[k]? = s.data[k]? := by simp
      rw [this]
      exact Array.getElem?_eq_getElem _
    have HP2 := Lib.hid hp2
    have HE2 := Lib.hid he2
    have HG2 := Lib.hid hg2
    have HGK := Lib.hid hgk
    have HSZ2 := Lib.hid hSZ
    obtain ⟨y, hy⟩ : ∃ y, y = has (c0, c1, c2, c3) s[k].toNat := ⟨_, rfl⟩
    rw [← hy]
    have HY := Lib.hid hy
    clear hp2 he2 hg2 hgk hB2 hb2 hy
    cases y
    · go_wp2
      go_ret
      refine ⟨_, rfl, hSZ, HP2.out.iff fun j hj => ?_, HE2.out.less (fun x h => .inl h), HG2.out⟩
      simp only [Fits, HGK.out]
      constructor
      · intro h; cases h
      · rintro ⟨_, bb, h1, h2⟩
        cases h1
        rw [← HY.out] at h2
        cases h2
    · go_wp2
      go_ret
      refine ⟨_, rfl, hSZ, (HP2.out.set_ (k + 1) true).iff fun j hj => ?_, (HE2.out.put (.inr rfl) (grown_set _ _ _ _)).less (fun x h => .inl h), grown_new HG2.out (grown_set _ _ _ _) hSZ⟩
      simp only [Fits, HGK.out]
      by_cases e : j = k + 1
      · subst e
        simp [← HY.out]
      · simp [e]
  · have hd : decide ((k : Int) < (s.size : Int)) = false := by simp; omega
    have f2' := HE1.out.text
    go_wp2_with fail
    go_quiet (fail)
    go_wp2
    go_ret
    refine ⟨_, rfl, hSZ, (HP1.out.below (below_drewN (Below.refl _ _) _)).iff fun j hj => ?_, (HE1.out.grow (below_drewN (Below.refl _ _) _)).less (fun x h => .inl h), grown_drewN HG1.out _⟩
    have hno : s.data.toList[k]? = none := by
      rw [List.getElem?_eq_none_iff]
      have : s.data.toList.length = s.size := by simp
      omega
    simp [Fits, hno]
end

end Go.Proofs.YthcahjnniendnadGreatDoor

/-
  Walks of the fitter's from; by joint induction, from at every part.
-/
namespace Go.Proofs.YthcahjnniendnadGreatDoor
open Go.RowKit Wf

theorem grown_setMap (w : World) (M : Nat) (es : Array MapEntry) (c : Nat) : w.grownBy (setMap w M es c) (some M) :=
  ⟨rfl, rfl, rfl, by simp [setMap], fun i _ hi => by
    simp only [setMap]
    rw [Array.getElem?_setIfInBounds, if_neg (fun e => hi (by rw [e]))]⟩

theorem cell_map {w : World} {M : Nat} {es : Array MapEntry} {c : Nat} (h : w.heap[M]? = some (.map es c)) (j : Nat) : w.cell? ⟨M, j, none⟩ = none := by
  simp [World.cell?, h]

section
variable {l : List Nd} {s : ByteArray} {b off cap ge F M : Nat} {O : Nat → Prop} {w w' : World}

theorem FEnv.mapped (h : FEnv l s b off cap ge F M O w) {i k g : Nat} {u : Rx} (hu : At l i u) (hk : k ≤ s.size) (hO : ¬ O g) (hp : Pl w g s.size (Fits s.data.toList u k))
    {es es' : Array MapEntry} {c c' : Nat} (hm : w.heap[M]? = some (.map es c)) (hes : ∀ e ∈ es'.toList, e ∈ es.toList ∨ (e.key = spotV i k ∧ e.val = .slice (some ⟨g, 0, none⟩) (s.size + 1) (s.size + 1))) :
    FEnv l s b off cap ge F M O (setMap w M es' c') := by
  have hlt := h.ltM
  have hFM := h.neFM
  have hgr := grown_setMap w M es' c'
  have hbM : M ≠ b := by
    rintro rfl
    obtain ⟨n, h1, _⟩ := hu.node
    have h2 := (h.tenv.node h1).1
    rw [cell_map hm] at h2
    cases h2
  have hgM : M ≠ ge := by
    rintro rfl
    have h2 := h.tenv.hx i u hu
    rw [cell_map hm] at h2
    cases h2
  have hneg := h.neM hp
  obtain ⟨h1, h2, ⟨es0, c0, h3, h4⟩, h5⟩ := h
  rw [hm] at h3
  cases h3
  refine ⟨h1.grown hgr hbM hgM, (hgr.block F h2.lt (fun e => hFM (Option.some.inj e))).trans h2, ⟨es', c', by simp [setMap, Array.getElem?_setIfInBounds, hlt], fun e he => ?_⟩, fun x hx => ?_⟩
  · rcases hes e he with he | ⟨e1, e2⟩
    · obtain ⟨i, k, u, g, q1, q2, q3, q4, q5, q6⟩ := h4 e he
      refine ⟨i, k, u, g, q1, q2, q3, q4, q5, q6.kept hgr (fun e => ?_)⟩
      have e := Option.some.inj e
      subst e
      obtain ⟨cs, hb, _⟩ := q6
      unfold Blk at hb
      rw [hm] at hb
      cases hb
    · exact ⟨i, k, u, g, e1, hk, hu, e2, hO, hp.kept hgr (fun e => hneg (Option.some.inj e))⟩
  · obtain ⟨a1, a2, a3, a4, a5⟩ := h5 x hx
    exact ⟨a1, a2, a3, a4, Nat.lt_of_lt_of_le a5 hgr.size⟩

theorem spotV_inj {a b c d : Nat} (h : spotV (a : Int) (b : Int) = spotV (c : Int) (d : Int)) : a = c ∧ b = d := by
  unfold spotV at h
  simp at h
  omega

theorem FEnv.spots (h : FEnv l s b off cap ge F M O w) {es : Array MapEntry} {c : Nat} (hm : w.heap[M]? = some (.map es c)) : Spots es.toList := by
  obtain ⟨_, _, ⟨es0, c0, h3, h4⟩, _⟩ := h
  rw [hm] at h3
  cases h3
  intro e he
  obtain ⟨i, k, u, g, q1, _⟩ := h4 e he
  exact ⟨i, k, q1⟩

theorem FEnv.known (h : FEnv l s b off cap ge F M O w) {es : Array MapEntry} {c : Nat} (hm : w.heap[M]? = some (.map es c)) {i k : Nat} {u : Rx} (hu : At l i u) {e : MapEntry} (he : e ∈ es.toList) (hk : e.key = spotV i k) :
    ∃ g, e.val = .slice (some ⟨g, 0, none⟩) (s.size + 1) (s.size + 1) ∧ ¬ O g ∧ Pl w g s.size (Fits s.data.toList u k) := by
  obtain ⟨_, _, ⟨es0, c0, h3, h4⟩, _⟩ := h
  rw [hm] at h3
  cases h3
  obtain ⟨i', k', u', g, q1, q2, q3, q4, q5, q6⟩ := h4 e he
  rw [hk] at q1
  obtain ⟨rfl, rfl⟩ := spotV_inj q1
  obtain rfl := q3.inj hu
  exact ⟨g, q4, q5, q6⟩

set_option maxRecDepth 100000 in
set_option maxHeartbeats 8000000 in
theorem from_of_fit (u : Rx) (hfit : FitC l s b off cap ge F M u) : FromC l s b off cap ge F M u := by
  intro O i k w hu hk henv
  have hB : ∀ o : Obj, Below w.heap.size w (w.alloc o) := fun o => (Below.refl _ _).alloc (Nat.le_refl _) _
  have HB := Lib.hid (hB (.cells #[.int .i64 (i : Int), .int .i64 (k : Int)] 237))
  have HE := Lib.hid (henv.grow HB.out)
  have HK := Lib.hid (Blk.new w 237 #[.int .i64 (i : Int), .int .i64 (k : Int)])
  have f3 := henv.cellm
  have hFlt := henv.ltF
  have hMlt := henv.ltM
  obtain ⟨W, hW⟩ : ∃ W, W = w.alloc (.cells #[.int .i64 (i : Int), .int .i64 (k : Int)] 237) := ⟨_, rfl⟩
  rw [← hW] at HB HE HK
  have HFIT := Lib.hid hfit
  have HU := Lib.hid hu
  have HW := Lib.hid hW
  clear hfit hu henv hB
  obtain ⟨es, c, hm, _⟩ := HE.out.hm
  have hlook := lookup_spot i k M es c W.drew hm (HE.out.spots hm)
  have f3' := HE.out.cellm
  have k0 := HK.out.cell 0
  have k1 := HK.out.cell 1
  go_enter Tryz.func88, Tryz.ntmps88
  go_wp2_with fail
  rw [← hW]
  clear hW
  rcases hlook with ⟨e, he, hke, hrun⟩ | ⟨hne, hrun⟩
  · obtain ⟨g, hg1, hg2, hg3⟩ := HE.out.known hm HU.out he hke
    rw [hg1] at hrun
    unfold spotV at hrun
    have HG2 := Lib.hid hg2
    have HG3 := Lib.hid hg3
    clear he hke hg1 hg2 hg3
    have hS : ∀ w', Hid (w' = W.drew) → (w'.cell? ⟨F, 3, none⟩ = some (.map (some M)) ∧ w'.cell? ⟨w.heap.size, 0, none⟩ = some (.int .i64 (i : Int)) ∧ w'.cell? ⟨w.heap.size, 1, none⟩ = some (.int .i64 (k : Int)) ∧ (Instr.lookup 184 (.map (some M)) (.agg #[.int .i64 (i : Int), .int .i64 (k : Int)]) true).run Tryz.prog w' = .ok (.tuple #[.slice (some ⟨g, 0, none⟩) (s.size + 1) (s.size + 1), .bool true]) w' ∧ Hid (w' = W.drew)) := fun w' h => by
      have e := h.out
      subst e
      exact ⟨f3', k0, k1, hrun, h⟩
    have HS := Lib.hid hS
    have HQ : Hid (W.drew = W.drew) := Lib.hid rfl
    clear hS hrun
    go_region_held3 (fun w' => w'.cell? ⟨F, 3, none⟩ = some (.map (some M)) ∧ w'.cell? ⟨w.heap.size, 0, none⟩ = some (.int .i64 (i : Int)) ∧ w'.cell? ⟨w.heap.size, 1, none⟩ = some (.int .i64 (k : Int)) ∧ (Instr.lookup 184 (.map (some M)) (.agg #[.int .i64 (i : Int), .int .i64 (k : Int)]) true).run Tryz.prog w' = .ok (.tuple #[.slice (some ⟨g, 0, none⟩) (s.size + 1) (s.size + 1), .bool true]) w' ∧ Hid (w' = W.drew))
      (exact HS.out _ (by assumption))
      (fail)
    go_wp2_with fail
    go_ret
    have hbl := HB.out.drew
    exact ⟨g, rfl, HG2.out, HG3.out.below (Below.refl _ _).drew, HE.out.grow (Below.refl _ _).drew, grown_of_below hbl _⟩
  · unfold spotV at hrun
    have hS : ∀ w', Hid (w' = W.drew) → (w'.cell? ⟨F, 3, none⟩ = some (.map (some M)) ∧ w'.cell? ⟨w.heap.size, 0, none⟩ = some (.int .i64 (i : Int)) ∧ w'.cell? ⟨w.heap.size, 1, none⟩ = some (.int .i64 (k : Int)) ∧ (Instr.lookup 184 (.map (some M)) (.agg #[.int .i64 (i : Int), .int .i64 (k : Int)]) true).run Tryz.prog w' = .ok (.tuple #[.slice none 0 0, .bool false]) w' ∧ Hid (w' = W.drew)) := fun w' h => by
      have e := h.out
      subst e
      exact ⟨f3', k0, k1, hrun, h⟩
    have HS := Lib.hid hS
    have HQ : Hid (W.drew = W.drew) := Lib.hid rfl
    clear hS hrun
    go_region_held3 (fun w' => w'.cell? ⟨F, 3, none⟩ = some (.map (some M)) ∧ w'.cell? ⟨w.heap.size, 0, none⟩ = some (.int .i64 (i : Int)) ∧ w'.cell? ⟨w.heap.size, 1, none⟩ = some (.int .i64 (k : Int)) ∧ (Instr.lookup 184 (.map (some M)) (.agg #[.int .i64 (i : Int), .int .i64 (k : Int)]) true).run Tryz.prog w' = .ok (.tuple #[.slice none 0 0, .bool false]) w' ∧ Hid (w' = W.drew))
      (exact HS.out _ (by assumption))
      (fail)
    go_wp2_with fail
    refine (HFIT.out O i k _ HU.out hk (HE.out.grow (Below.refl _ _).drew)).mono ?_
    rintro e w2 ⟨g2, rfl, hge2, hp2, he2, hg2⟩
    have hne : w.heap.size ≠ M := by omega
    have hblk := hg2.block w.heap.size (by have := HK.out.lt; exact this) (fun e => hne (Option.some.inj e))
    have hk2 : Blk w2 w.heap.size 237 #[.int .i64 (i : Int), .int .i64 (k : Int)] := hblk.trans HK.out
    have k0' := hk2.cell 0
    have k1' := hk2.cell 1
    have f3'' := he2.cellm
    have hO2 : ¬ O g2 := fun h => by
      have h1 := (HE.out.hO g2 h).2.2.2.2
      have h2 : W.heap.size ≤ g2 := hge2
      omega
    have he3 := he2.grow (Below.refl _ _).drew
    have hp3 := hp2.below (Below.refl _ _).drew
    obtain ⟨es2, c2, hm2, _⟩ := he3.hm
    obtain ⟨es3, c3, hrun3, hes3⟩ := update_spot i k (.slice (some ⟨g2, 0, none⟩) (s.size + 1) (s.size + 1)) M es2 c2 _ hm2 (he3.spots hm2)
    have hE4 := he3.mapped (c' := c3) HU.out hk hO2 hp3 hm2 hes3
    have hP4 := hp3.kept (grown_setMap w2.drew M es3 c3) (fun e => he3.neM hp3 (Option.some.inj e))
    have hG4 : w.grownBy (setMap w2.drew M es3 c3) (some M) := ((grown_of_below HB.out.drew _).trans (hg2.trans (grown_of_below (Below.refl _ _).drew _))).trans (grown_setMap _ _ _ _)
    have hk3 : Blk (setMap w2.drew M es3 c3) w.heap.size 237 #[.int .i64 (i : Int), .int .i64 (k : Int)] := ((grown_setMap w2.drew M es3 c3).block w.heap.size hk2.lt (fun e => hne (Option.some.inj e))).trans hk2
    have hS : ∀ w', (w' = w2.drew ∨ w' = setMap w2.drew M es3 c3) → (w'.cell? ⟨F, 3, none⟩ = some (.map (some M)) ∧ w'.cell? ⟨w.heap.size, 0, none⟩ = some (.int .i64 (i : Int)) ∧ w'.cell? ⟨w.heap.size, 1, none⟩ = some (.int .i64 (k : Int))) := fun w' h => by
      rcases h with rfl | rfl
      · exact ⟨f3'', k0', k1'⟩
      · exact ⟨hE4.cellm, hk3.cell 0, hk3.cell 1⟩
    have HS := Lib.hid hS
    have HE4 := Lib.hid hE4
    have HP4 := Lib.hid hP4
    have HG4 := Lib.hid hG4
    have HO2 := Lib.hid hO2
    unfold spotV at hrun3
    clear hS hE4 hP4 hG4 hk3 hes3 he3 hp3 hp2 he2 hg2 hO2 hm2 hk2 hblk
    go_wp2_with fail
    go_region_held3 (fun w' => w'.cell? ⟨F, 3, none⟩ = some (.map (some M)) ∧ w'.cell? ⟨w.heap.size, 0, none⟩ = some (.int .i64 (i : Int)) ∧ w'.cell? ⟨w.heap.size, 1, none⟩ = some (.int .i64 (k : Int)))
      (exact HS.out _ (by first | exact .inl rfl | exact .inr rfl))
      (fail)
    go_wp2_with fail
    go_ret
    exact ⟨g2, rfl, HO2.out, HP4.out, HE4.out, HG4.out⟩

theorem from_all (hs : s.size ≤ 400) (hl : l.length ≤ cap) (hcap : cap ≤ 9223372036854775807) (hok : ∀ n ∈ l, okC n.cls) :
    ∀ (u : Rx) (i : Nat), At l i u → FromC l s b off cap ge F M u := by
  intro u
  induction u with
  | byte c =>
    intro i hu
    have := hok ⟨1, c⟩ (List.mem_of_getElem? hu.byte)
    exact from_of_fit _ (fit_byte c this hs hl hcap)
  | empty => intro i hu; exact from_of_fit _ (fit_empty hs hl hcap)
  | bgn => intro i hu; exact from_of_fit _ (fit_bgn hs hl hcap)
  | fin => intro i hu; exact from_of_fit _ (fit_fin hs hl hcap)
  | cat a c iha ihc => intro i hu; exact from_of_fit _ (fit_cat a c (iha _ hu.cat.2.1) (ihc _ hu.cat.2.2) hs hl hcap)
  | alt a c iha ihc => intro i hu; exact from_of_fit _ (fit_alt a c (iha _ hu.alt.2.1) (ihc _ hu.alt.2.2) hs hl hcap)
  | star a ih => intro i hu; exact from_of_fit _ (fit_star a (ih _ hu.star.2) hs hl hcap)
  | plus a ih => intro i hu; exact from_of_fit _ (fit_plus a (ih _ hu.plus.2) hs hl hcap)
  | opt a ih => intro i hu; exact from_of_fit _ (fit_opt a (ih _ hu.opt.2) hs hl hcap)
end

end Go.Proofs.YthcahjnniendnadGreatDoor

/-
  Walks of mean.Ends and mean.Yes.
-/
namespace Go.Proofs.YthcahjnniendnadGreatDoor
open Go.RowKit Wf

/-- Where the pattern t, begun at a place, may end. -/
noncomputable def endsL (s : List UInt8) (t : Rx) (at_ : Nat) : List Nat := upTo_ (Fits s t at_) (s.length + 1)

theorem FEnv.first {l : List Nd} {s : ByteArray} {b off cap g : Nat} {w : World} (h : TEnv l b off cap g w) :
    FEnv l s b off cap g (w.heap.size + 1) w.heap.size (fun _ => False) ((w.alloc (.map #[] 0)).alloc (.cells #[.slice (some ⟨b, off, none⟩) l.length cap, .slice (some ⟨g, 0, none⟩) l.length l.length, .string s, .map (some w.heap.size)] 186)) := by
  have hb1 : Below w.heap.size w (w.alloc (.map #[] 0)) := (Below.refl _ _).alloc (Nat.le_refl _) _
  have hb2 : Below (w.alloc (.map #[] 0)).heap.size (w.alloc (.map #[] 0)) ((w.alloc (.map #[] 0)).alloc (.cells #[.slice (some ⟨b, off, none⟩) l.length cap, .slice (some ⟨g, 0, none⟩) l.length l.length, .string s, .map (some w.heap.size)] 186)) := (Below.refl _ _).alloc (Nat.le_refl _) _
  have hsz : (w.alloc (.map #[] 0)).heap.size = w.heap.size + 1 := by simp
  have hnew := Blk.new (w.alloc (.map #[] 0)) 186 #[.slice (some ⟨b, off, none⟩) l.length cap, .slice (some ⟨g, 0, none⟩) l.length l.length, .string s, .map (some w.heap.size)]
  rw [hsz] at hnew
  refine ⟨(h.below hb1).below hb2, hnew, ⟨#[], 0, ?_, by simp⟩, fun x hx => hx.elim⟩
  rw [hb2.block w.heap.size (by rw [hsz]; omega)]
  exact heap_alloc_new w _

theorem below_grown {B : Nat} {a w w' : World} {e : TypeId} {size n : Nat} {v : Value} {xs : List Value} (h : Below B a w) (hB : B ≤ w.heap.size) (ho : w.ownsRow B e size v n xs) (hg : w.grownBy w' v.ownBlock) : Below B a w' :=
  ⟨hg.os.trans h.os, hg.tape.trans h.tape, hg.output.trans h.output, Nat.le_trans h.size hg.size, fun i hi =>
    (hg.block i (by omega) (fun e => by have := (ho.lt i e.symm).1; omega)).trans (h.block i hi)⟩

def MEndsIs (t : Rx) (s : ByteArray) (at_ : Nat) (w : World) (e : Ending) (w' : World) : Prop :=
  ∃ v, e = .returned (.tuple #[v, .nilIface]) ∧ Rd1 w' v (natVals (endsL s.data.toList t at_)) ∧ Below w.heap.size w w'

set_option maxRecDepth 100000 in
set_option maxHeartbeats 8000000 in
theorem MEnds_ok (l : List Nd) (t : Rx) (hl : l = flat t) (hok : ∀ n ∈ l, okC n.cls) (v : Value) (s : ByteArray) (at_ : Nat) (w : World) (ht : l.length ≤ 60) (hr : RdN w v l) (hs : s.size ≤ 400) (hat : at_ ≤ s.size) :
    Calls Tryz.prog 38 #[v, .string s, .int .i64 (at_ : Int)] w (MEndsIs t s at_ w) := by
  obtain ⟨i0, hi0, hz0, hz1, hz2⟩ := info_parts info_int
  obtain ⟨A, cap, rfl, hcap, hcap2, hmem⟩ := hr.open_
  have hpos : 0 < l.length := by rw [hl]; exact flat_pos t
  have hchk : chk l = 0 := by rw [hl]; exact chk_flat t (by rw [← hl]; exact ht)
  obtain ⟨b, off, rfl, hbl, _⟩ := hmem hpos
  have hends : ∀ W, RdN W (.slice (some ⟨b, off, none⟩) l.length cap) l → Calls Tryz.prog 87 #[.slice (some ⟨b, off, none⟩) l.length cap] W (EndsIs l W) := fun W h => Ends_any l t hl _ W ht h
  have hwhole : At l 0 t := by rw [hl]; exact At.whole t
  have HR := Lib.hid hr
  have HC := Lib.hid hchk
  have HE := Lib.hid hends
  have HWH := Lib.hid hwhole
  have HOK := Lib.hid hok
  clear hr hchk hends hwhole hl hmem hok
  have hmm := @run_makeMap Tryz.prog
  have hs' : (s.size : Int) ≤ 400 := by omega
  have hat' : (at_ : Int) ≤ (s.size : Int) := by omega
  go_enter Tryz.func38, Tryz.ntmps38
  go_wp2_with fail
  refine (Check_any l _ _ HR.out).mono ?_
  rintro e w1 ⟨rfl, hb1⟩
  rw [HC.out, errV_zero]
  go_wp2_with fail
  refine (HE.out _ (HR.out.below hb1)).mono ?_
  rintro e w2 ⟨g, xs, rfl, hx, hg1, hg2, hxc, hb2⟩
  have hb12 := hb1.trans (hb2.mono hb1.size)
  have henv : TEnv l b off cap g w2 := ⟨HR.out.below hb12, Nat.lt_of_lt_of_le hbl hb12.size, hg2, fun i u hu => hxc _ _ (hx.2 i u hu)⟩
  have HENV := Lib.hid henv
  have HB := Lib.hid hb12
  clear henv hb12 hx hxc hb1 hb2
  have HF := Lib.hid (FEnv.first (s := s) HENV.out)
  have HBW : Hid (∀ o o', Below w2.heap.size w2 ((w2.alloc o).alloc o')) := Lib.hid fun o o' => ((Below.refl _ _).alloc (Nat.le_refl _) _).alloc (by simp) _
  go_wp2_with fail
  refine ((from_all (F := w2.heap.size + 1) (M := w2.heap.size) hs hcap hcap2 HOK.out t 0 HWH.out) _ 0 at_ _ HWH.out hat HF.out).mono ?_
  rintro e w3 ⟨g3, rfl, _, hp3, he3, hg3⟩
  have HP3 := Lib.hid hp3
  have hsz1 := HB.out.size
  have hb3 : Below w.heap.size w w3 := by
    have h1 := HB.out.trans ((HBW.out (.map #[] 0) (.cells #[.slice (some ⟨b, off, none⟩) l.length cap, .slice (some ⟨g, 0, none⟩) l.length l.length, .string s, .map (some w2.heap.size)] 186)).mono hsz1)
    exact ⟨hg3.os.trans h1.os, hg3.tape.trans h1.tape, hg3.output.trans h1.output, Nat.le_trans h1.size hg3.size, fun i hi => (hg3.block i (by simp; omega) (fun e => by have := Option.some.inj e; omega)).trans (h1.block i hi)⟩
  have HB3 := Lib.hid hb3
  have HSL := Lib.hid (show s.data.toList.length = s.size by simp)
  clear hp3 he3 hg3 hb3
  go_wp2_with fail
  go_loopw [10, 42] (fun v10 v42 wr => ∃ k : Nat, k ≤ s.size + 1 ∧ v42 = .int .i64 (k : Int) ∧ Hid (wr.ownsRow w3.heap.size 3 1 v10 (upTo_ (Fits s.data.toList t at_) k).length (natVals (upTo_ (Fits s.data.toList t at_) k))) ∧ Hid (Pl wr g3 s.size (Fits s.data.toList t at_)) ∧ Hid (Below w3.heap.size w3 wr)) (fun _ i _ => s.size + 1 - (intOf i).toNat)
  case atStart => exact ⟨0, by omega, rfl, Lib.hid (World.ownsRow_nil _ _ _ _), HP3, Lib.hid (Below.refl _ _)⟩
  case round =>
    obtain ⟨k, hk, rfl, hO, hP, hBB⟩ := hrel
    by_cases hlt : k < s.size + 1
    · obtain ⟨x, hx, hx'⟩ := hP.out.cell k (by omega)
      have hk1 : (k : Int) < (s.size : Int) + 1 := by omega
      have HX := Lib.hid hx'
      clear hx'
      cases x
      · go_wp2
        go_roundw
        case rel =>
          have hno : ¬ Fits s.data.toList t at_ k := fun h => by have := HX.out.2 h; cases this
          exact ⟨k + 1, by omega, by go_num, by rw [upTo_no hno]; exact hO, hP, hBB⟩
        case measure => simp [intOf]; omega
      · have HLEN := Lib.hid (upTo_len (Fits s.data.toList t at_) k)
        have hyes : Fits s.data.toList t at_ k := HX.out.1 (by simp)
        have HY := Lib.hid hyes
        have HOA := Lib.hid (hO.out.alloc (.cells #[.int .i64 (k : Int)] 3))
        have HSZ := Lib.hid hBB.out.size
        clear hyes
        generalize hxs : upTo_ (Fits s.data.toList t at_) k = xs at *
        go_wp2_with (at_builtin; refine wpList_append_own _ rfl (.tmp 48) (.tmp 50) _ rfl w3.heap.size 3 i0 _ 1 8 Tryz.underlying26 hi0 hz0 hz1 hz2 rfl (by omega) _ xs.length (natVals xs) rfl HOA.out ⟨wr.heap.size, 0, none⟩ 1 1 [.int .i64 (k : Int)] rfl rfl ?_ ?_ (by have := HLEN.out; unfold maxLen; omega) (by have := HLEN.out; omega) (by have := HSZ.out; simp; omega) ?_)
        · rfl
        · intro v' w' hown' hg' _
          have hB1 : Below w3.heap.size w3 (wr.alloc (.cells #[.int .i64 (k : Int)] 3)) := hBB.out.alloc HSZ.out _
          have hB' := Lib.hid (below_grown hB1 (by have := HSZ.out; simp; omega) HOA.out hg')
          have hP' := Lib.hid ((hP.out.below ((Below.refl _ _).alloc (Nat.le_refl _) _)).kept hg' (fun e => by
            have h1 := (HOA.out.lt g3 e.symm).1
            have h2 := HP3.out.lt
            omega))
          have hO' : Hid (w'.ownsRow w3.heap.size 3 1 v' (xs ++ [k]).length (natVals (xs ++ [k]))) := Lib.hid (by rw [natVals_snoc]; simpa using hown')
          clear hg' hown' hB1
          go_wp2
          go_roundw
          case rel => exact ⟨k + 1, by omega, by go_num, by rw [upTo_yes HY.out, hxs]; exact hO', hP', hB'⟩
          case measure => simp [intOf]; omega
    · obtain rfl : k = s.size + 1 := by omega
      go_wp2
      go_ret2
      refine ⟨_, rfl, ?_, HB3.out.trans (hBB.out.mono HB3.out.size)⟩
      unfold endsL Rd1
      rw [HSL.out]
      exact Rd.of_own hO.out

/-- What is wrong, if a pattern is asked in a text from a place on. -/
def mErr (l : List Nd) (s : ByteArray) (at_ : Int) : Int := if chk l ≠ 0 then chk l else if s.size > 400 then 3 else if at_ < 0 ∨ at_ > s.size then 1 else 0

def MEndsNo (n : Int) (w : World) (e : Ending) (w' : World) : Prop := e = .returned (.tuple #[.slice none 0 0, errV n]) ∧ Below w.heap.size w w'

set_option maxRecDepth 100000 in
set_option maxHeartbeats 8000000 in
theorem MEnds_no (l : List Nd) (v : Value) (s : ByteArray) (at_ : Int) (w : World) (hr : RdN w v l) (hne : mErr l s at_ ≠ 0) :
    Calls Tryz.prog 38 #[v, .string s, .int .i64 at_] w (MEndsNo (mErr l s at_) w) := by
  obtain ⟨A, cap, rfl, hcap, hcap2, _⟩ := hr.open_
  have HR := Lib.hid hr
  have hdef : mErr l s at_ = if chk l ≠ 0 then chk l else if s.size > 400 then 3 else if at_ < 0 ∨ at_ > s.size then 1 else 0 := rfl
  rw [hdef] at hne ⊢
  clear hr hdef
  by_cases hc : chk l = 0
  · rw [if_neg (by simpa using hc)] at hne ⊢
    have HC := Lib.hid hc
    clear hc
    by_cases hs : s.size > 400
    · rw [if_pos hs] at hne ⊢
      have hs' : (400 : Int) < (s.size : Int) := by omega
      clear hne
      go_enter Tryz.func38, Tryz.ntmps38
      go_wp2_with fail
      refine (Check_any l _ _ HR.out).mono ?_
      rintro e w1 ⟨rfl, hb1⟩
      rw [HC.out, errV_zero]
      go_wp2_with fail
      go_ret2
      exact ⟨by rw [errV_ne (by decide)]; rfl, hb1⟩
    · rw [if_neg hs] at hne ⊢
      by_cases ha : at_ < 0 ∨ at_ > s.size
      · rw [if_pos ha] at hne ⊢
        have hs' : (s.size : Int) ≤ 400 := by omega
        clear hne
        by_cases h1 : at_ < 0
        · clear ha
          have hd : decide (at_ < 0) = true := by simp [h1]
          go_enter Tryz.func38, Tryz.ntmps38
          go_wp2_with fail
          refine (Check_any l _ _ HR.out).mono ?_
          rintro e w1 ⟨rfl, hb1⟩
          rw [HC.out, errV_zero]
          go_wp2_with fail
          go_ret2
          exact ⟨by rw [errV_ne (by decide)]; rfl, hb1⟩
        · have h2 : at_ > s.size := by rcases ha with h | h; exact absurd h h1; exact h
          clear ha
          go_enter Tryz.func38, Tryz.ntmps38
          go_wp2_with fail
          refine (Check_any l _ _ HR.out).mono ?_
          rintro e w1 ⟨rfl, hb1⟩
          rw [HC.out, errV_zero]
          go_wp2_with fail
          go_ret2
          exact ⟨by rw [errV_ne (by decide)]; rfl, hb1⟩
      · rw [if_neg ha] at hne
        exact absurd rfl hne
  · rw [if_pos hc]
    have HC := Lib.hid (errV_ne hc)
    clear hne hc
    go_enter Tryz.func38, Tryz.ntmps38
    go_wp2_with fail
    refine (Check_any l _ _ HR.out).mono ?_
    rintro e w1 ⟨rfl, hb1⟩
    rw [HC.out]
    go_wp2_with fail
    go_ret2
    exact ⟨by rw [HC.out]; rfl, hb1⟩

theorem upTo_last {P : Nat → Prop} {m n x : Nat} (hl : (upTo_ P (m + 1)).length = n + 1) (hx : (upTo_ P (m + 1))[n]? = some x) : x = m ↔ P m := by
  by_cases h : P m
  · rw [upTo_yes h] at hl hx
    have hn : (upTo_ P m).length = n := by simpa using hl
    rw [List.getElem?_append_right (by omega), hn] at hx
    simp at hx
    subst hx
    simp [h]
  · have := (upTo_mem.1 (List.mem_of_getElem? hx)).2
    constructor
    · rintro rfl; exact this
    · intro h2; exact absurd h2 h

def MYesIs (t : Rx) (s : ByteArray) (w : World) (e : Ending) (w' : World) : Prop := ∃ y : Bool, e = .returned (.tuple #[.bool y, .nilIface]) ∧ (y = true ↔ Fits s.data.toList t 0 s.size) ∧ Below w.heap.size w w'

set_option maxRecDepth 100000 in
set_option maxHeartbeats 8000000 in
theorem MYes_ok (l : List Nd) (t : Rx) (hl : l = flat t) (hok : ∀ n ∈ l, okC n.cls) (v : Value) (s : ByteArray) (w : World) (ht : l.length ≤ 60) (hr : RdN w v l) (hs : s.size ≤ 400) :
    Calls Tryz.prog 16 #[v, .string s] w (MYesIs t s w) := by
  have hcall := MEnds_ok l t hl hok v s 0 w ht hr hs (by omega)
  obtain ⟨A, cap, rfl, hcap, hcap2, _⟩ := hr.open_
  have HC := Lib.hid hcall
  clear hcall hr hl hok
  have HSL := Lib.hid (show s.data.toList.length = s.size by simp)
  go_enter Tryz.func16, Tryz.ntmps16
  go_wp2_with fail
  refine HC.out.mono ?_
  rintro e w1 ⟨v1, rfl, hv1, hb1⟩
  rw [natVals_ints] at hv1
  obtain ⟨A1, cap1, rfl, hc1, hc2, hm1⟩ := RdI.open_ hv1
  have HB := Lib.hid hb1
  have hdef : endsL s.data.toList t 0 = upTo_ (Fits s.data.toList t 0) (s.size + 1) := by unfold endsL; rw [HSL.out]
  have hlast := fun n x => @upTo_last (Fits s.data.toList t 0) s.size n x
  have hmem := @upTo_mem (Fits s.data.toList t 0) (s.size + 1) s.size
  have hget := fun k => @toInts_get (endsL s.data.toList t 0) k
  have hlen := toInts_len (endsL s.data.toList t 0)
  rw [← hdef] at hlast hmem
  clear hdef hv1 hb1
  generalize endsL s.data.toList t 0 = ks at *
  generalize toInts ks = zs at *
  have HLAST := Lib.hid hlast
  have HMEM := Lib.hid hmem
  have HGET := Lib.hid hget
  have HLEN := Lib.hid hlen
  have HM1 := Lib.hid hm1
  clear hlast hmem hget hlen hm1
  rcases Nat.eq_zero_or_pos zs.length with h0 | h0
  · have hks : ks = [] := List.eq_nil_of_length_eq_zero (by rw [← HLEN.out]; exact h0)
    rw [h0]
    have HKS := Lib.hid hks
    clear h0 hks hc1
    go_wp2
    go_ret2
    refine ⟨false, rfl, ⟨(fun h => by cases h), fun h => ?_⟩, HB.out⟩
    have := HMEM.out.2 ⟨by omega, h⟩
    rw [HKS.out] at this
    cases this
  · obtain ⟨n, hn⟩ : ∃ n, zs.length = n + 1 := ⟨zs.length - 1, by omega⟩
    obtain ⟨b1, off1, rfl, hb1, hcells⟩ := HM1.out h0
    obtain ⟨z, hz⟩ := getD_get (show n < zs.length by omega)
    have hcell := hcells w1 (fun _ => rfl) n z hz
    have hzx := HGET.out n
    rw [hz] at hzx
    obtain ⟨x, hx⟩ : ∃ x, ks[n]? = some x := getD_get (show n < ks.length by rw [← HLEN.out]; omega)
    rw [hx] at hzx
    have hzx' : z = (x : Int) := by simpa using hzx
    subst hzx'
    have hyes : x = s.size ↔ Fits s.data.toList t 0 s.size := HLAST.out n x (by rw [← HLEN.out]; exact hn) hx
    have HY := Lib.hid hyes
    rw [hn] at hc1
    rw [hn]
    have hbd : (n : Int) + 1 ≤ 9223372036854775807 := by omega
    have hd : ((x : Int) == (s.size : Int)) = decide (x = s.size) := by rw [Bool.eq_iff_iff]; simp; omega
    clear hyes hzx hx hz hcells h0 hn
    go_wp2
    go_ret2
    refine ⟨decide (x = s.size), rfl, by rw [decide_eq_true_iff]; exact HY.out, HB.out⟩

def MYesNo (n : Int) (w : World) (e : Ending) (w' : World) : Prop := e = .returned (.tuple #[.bool false, errV n]) ∧ Below w.heap.size w w'

set_option maxRecDepth 100000 in
set_option maxHeartbeats 8000000 in
theorem MYes_no (l : List Nd) (v : Value) (s : ByteArray) (w : World) (hr : RdN w v l) (hne : mErr l s 0 ≠ 0) :
    Calls Tryz.prog 16 #[v, .string s] w (MYesNo (mErr l s 0) w) := by
  have hcall := MEnds_no l v s 0 w hr hne
  have hev := errV_ne hne
  have HC := Lib.hid hcall
  have HEV := Lib.hid hev
  obtain ⟨A, cap, rfl, hcap, hcap2, _⟩ := hr.open_
  clear hcall hr hne hev
  go_enter Tryz.func16, Tryz.ntmps16
  go_wp2_with fail
  refine HC.out.mono ?_
  rintro e w1 ⟨rfl, hb1⟩
  rw [HEV.out]
  go_wp2
  go_ret2
  exact ⟨by rw [HEV.out]; rfl, hb1⟩

end Go.Proofs.YthcahjnniendnadGreatDoor
