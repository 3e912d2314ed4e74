/-
  Walks of the fitter's fit, part by part.
-/
import Derived.Test.YthcahjnniendnabDoorMeanB
namespace Go.Proofs.YthcahjnniendnabDoor
open Go.RowKit Wf

section
variable {l : List Nd} {s : ByteArray} {b off cap ge F M : Nat} {O : Nat → Prop} {w w' : World}

/-- 'fit' does what it ought at a part. -/
def FitC (l : List Nd) (s : ByteArray) (b off cap ge F M : Nat) (u : Rx) : Prop := ∀ (O : Nat → Prop) (i k : Nat) (w : World), At l i u → k ≤ s.size → FEnv l s b off cap ge F M O w →
  Calls Tryd.prog 91 #[.pointer (some ⟨F, 0, none⟩), .int .i64 (i : Int), .int .i64 (k : Int)] w (FitIs l s b off cap ge F M O (Fits s.data.toList u k) w)

theorem FEnv.cellr (h : FEnv l s b off cap ge F M O w) : w.cell? ⟨F, 0, none⟩ = some (.slice (some ⟨b, off, none⟩) l.length cap) := h.hf.cell 0
theorem FEnv.celle (h : FEnv l s b off cap ge F M O w) : w.cell? ⟨F, 1, none⟩ = some (.slice (some ⟨ge, 0, none⟩) l.length l.length) := h.hf.cell 1
theorem FEnv.cellm (h : FEnv l s b off cap ge F M O w) : w.cell? ⟨F, 3, none⟩ = some (.map (some M)) := h.hf.cell 3

theorem fit_new {P : Nat → Prop} {w w1 w' : World} {e : Ending} (hb : Below w.heap.size w w1) (h : FEnv l s b off cap ge F M O w) (hn : NewPl s.size P w1 e w') : FitIs l s b off cap ge F M O P w e w' := by
  obtain ⟨rfl, hp, hb1, hlt⟩ := hn
  have hb2 := hb.trans (hb1.mono hb.size)
  exact ⟨_, rfl, hb.size, hp, h.grow hb2, grown_of_below hb2 _⟩

theorem fit_newB {P : Nat → Prop} {w w1 w' : World} {g : Nat} (hb : Below w.heap.size w w1) (h : FEnv l s b off cap ge F M O w) (hp : Pl w' w1.heap.size s.size P) (hb1 : Below w1.heap.size w1 w') (hg : w1.heap.size = g) :
    FitIs l s b off cap ge F M O P w (.returned (.slice (some ⟨g, 0, none⟩) (s.size + 1) (s.size + 1))) w' := by
  subst hg
  have hb2 := hb.trans (hb1.mono hb.size)
  exact ⟨_, rfl, hb.size, hp, h.grow hb2, grown_of_below hb2 _⟩

/-- What 'here' and 'none' leave inside the fitter: a new row, ours. -/
def OwnIs (l : List Nd) (s : ByteArray) (b off cap ge F M : Nat) (O P : Nat → Prop) (w : World) (e : Ending) (w' : World) : Prop :=
  ∃ g, e = .returned (.slice (some ⟨g, 0, none⟩) (s.size + 1) (s.size + 1)) ∧ w.heap.size ≤ g ∧ Pl w' g s.size P ∧ FEnv l s b off cap ge F M (fun x => O x ∨ x = g) w' ∧ w.grownBy w' (some M)

theorem OwnIs.of {P : Nat → Prop} {w w1 w' : World} {e : Ending} (hb : Below w.heap.size w w1) (h : FEnv l s b off cap ge F M O w) (hn : NewPl s.size P w1 e w') : OwnIs l s b off cap ge F M O P w e w' := by
  obtain ⟨rfl, hp, hb1, hlt⟩ := hn
  have hb2 := hb.trans (hb1.mono hb.size)
  exact ⟨_, rfl, hb.size, hp, (h.grow hb).own hb1 (Nat.le_refl _) hlt, grown_of_below hb2 _⟩

theorem here_own (k : Nat) (v : Bool) (hs : s.size ≤ 400) (hk : k ≤ s.size) (w1 : World) (hb : Below w.heap.size w w1) (h : FEnv l s b off cap ge F M O w) :
    Calls Tryd.prog 110 #[.pointer (some ⟨F, 0, none⟩), .int .i64 (k : Int), .bool v] w1 (OwnIs l s b off cap ge F M O (fun j => j = k ∧ v = true) w) :=
  (here_any F k v s hs hk _ (h.grow hb).text).mono fun _ _ hn => OwnIs.of hb h hn
theorem none_own (hs : s.size ≤ 400) (w1 : World) (hb : Below w.heap.size w w1) (h : FEnv l s b off cap ge F M O w) :
    Calls Tryd.prog 109 #[.pointer (some ⟨F, 0, none⟩)] w1 (OwnIs l s b off cap ge F M O (fun _ => False) w) :=
  (none_any F s hs _ (h.grow hb).text).mono fun _ _ hn => OwnIs.of hb h hn

set_option maxRecDepth 100000 in
set_option maxHeartbeats 4000000 in
theorem fit_empty (hs : s.size ≤ 400) (hl : l.length ≤ cap) (hcap : cap ≤ 9223372036854775807) : FitC l s b off cap ge F M .empty := by
  intro O i k w hu hk henv
  have hlt := hu.lt
  obtain ⟨q0, q1, q2, q3, q4⟩ := henv.tenv.node hu.empty
  dsimp only [zc] at q0 q1 q2 q3 q4
  have f0 := henv.cellr
  have f2 := henv.text
  have hil : (i : Int) < (l.length : Int) := by simp [flat] at hlt; omega
  have hFlt := henv.ltF
  have HE := Lib.hid henv
  have hlen60 : i < l.length := by omega
  clear henv hu hlt
  go_enter Tryd.func91, Tryd.ntmps91
  go_wp2_with fail
  refine (here_any F k true s hs hk _ (by simp [World.cell?_alloc_some, f2])).mono ?_
  rintro e w1 h1
  obtain ⟨rfl, hp, hb1, hlt1⟩ := h1
  go_wp2_with fail
  go_ret
  exact fit_newB ((Below.refl _ _).alloc (Nat.le_refl _) _) HE.out (hp.iff fun j hj => by simp [Fits]) hb1 (by simp)

set_option maxRecDepth 100000 in
set_option maxHeartbeats 8000000 in
theorem fit_bgn (hs : s.size ≤ 400) (hl : l.length ≤ cap) (hcap : cap ≤ 9223372036854775807) : FitC l s b off cap ge F M (.bgn) := by
  intro O i k w hu hk henv
  have hlt := hu.lt
  obtain ⟨q0, q1, q2, q3, q4⟩ := henv.tenv.node hu.bgn
  dsimp only [zc] at q0 q1 q2 q3 q4
  have f0 := henv.cellr
  have f2 := henv.text
  have hpos := flat_pos (.bgn)
  have hil : (i : Int) < (l.length : Int) := by omega
  have hFlt := henv.ltF
  have HE := Lib.hid henv
  have hlen60 : i < l.length := by omega
  clear henv hu hlt hpos
  by_cases h0 : k = 0
  · subst h0
    go_enter Tryd.func91, Tryd.ntmps91
    go_wp2_with fail
    refine (here_any F 0 true s hs hk _ (by simp [World.cell?_alloc_some, f2])).mono ?_
    rintro e w1 ⟨rfl, hp, hb1, hlt1⟩
    go_wp2_with fail
    go_ret
    exact fit_newB ((Below.refl _ _).alloc (Nat.le_refl _) _) HE.out (hp.iff fun j hj => by simp [Fits]) hb1 (by simp)
  · have hk0 : ((k : Int) == 0) = false := by simp; omega
    go_enter Tryd.func91, Tryd.ntmps91
    go_wp2_with fail
    refine (here_any F k false s hs hk _ (by simp [World.cell?_alloc_some, f2])).mono ?_
    rintro e w1 ⟨rfl, hp, hb1, hlt1⟩
    go_wp2_with fail
    go_ret
    exact fit_newB ((Below.refl _ _).alloc (Nat.le_refl _) _) HE.out (hp.iff fun j hj => by simp [Fits, h0]) hb1 (by simp)

set_option maxRecDepth 100000 in
set_option maxHeartbeats 8000000 in
theorem fit_fin (hs : s.size ≤ 400) (hl : l.length ≤ cap) (hcap : cap ≤ 9223372036854775807) : FitC l s b off cap ge F M (.fin) := by
  intro O i k w hu hk henv
  have hlt := hu.lt
  obtain ⟨q0, q1, q2, q3, q4⟩ := henv.tenv.node hu.fin
  dsimp only [zc] at q0 q1 q2 q3 q4
  have f0 := henv.cellr
  have f2 := henv.text
  have hpos := flat_pos (.fin)
  have hil : (i : Int) < (l.length : Int) := by omega
  have hFlt := henv.ltF
  have HE := Lib.hid henv
  have hlen60 : i < l.length := by omega
  clear henv hu hlt hpos
  have hsz : s.data.toList.length = s.size := by simp
  have HSZ := Lib.hid hsz
  clear hsz
  by_cases h0 : k = s.size
  · subst h0
    go_enter Tryd.func91, Tryd.ntmps91
    go_wp2_with fail
    refine (here_any F s.size true s hs hk _ (by simp [World.cell?_alloc_some, f2])).mono ?_
    rintro e w1 ⟨rfl, hp, hb1, hlt1⟩
    go_wp2_with fail
    go_ret
    exact fit_newB ((Below.refl _ _).alloc (Nat.le_refl _) _) HE.out (hp.iff fun j hj => by simp [Fits, HSZ.out]) hb1 (by simp)
  · have hk0 : ((k : Int) == (s.size : Int)) = false := by simp; omega
    go_enter Tryd.func91, Tryd.ntmps91
    go_wp2_with fail
    refine (here_any F k false s hs hk _ (by simp [World.cell?_alloc_some, f2])).mono ?_
    rintro e w1 ⟨rfl, hp, hb1, hlt1⟩
    go_wp2_with fail
    go_ret
    exact fit_newB ((Below.refl _ _).alloc (Nat.le_refl _) _) HE.out (hp.iff fun j hj => by simp only [Fits, HSZ.out]; simp [h0]) hb1 (by simp)

set_option maxRecDepth 100000 in
set_option maxHeartbeats 8000000 in
theorem fit_star (a : Rx) (ha : FromC l s b off cap ge F M a) (hs : s.size ≤ 400) (hl : l.length ≤ cap) (hcap : cap ≤ 9223372036854775807) : FitC l s b off cap ge F M (.star a) := by
  intro O i k w hu hk henv
  have hlt := hu.lt
  obtain ⟨q0, q1, q2, q3, q4⟩ := henv.tenv.node hu.star.1
  dsimp only [zc] at q0 q1 q2 q3 q4
  have f0 := henv.cellr
  have f2 := henv.text
  have hpos := flat_pos (.star a)
  have hil : (i : Int) < (l.length : Int) := by omega
  have hFlt := henv.ltF
  have HE := Lib.hid henv
  have hlen60 : i < l.length := by omega
  have hua := hu.star.2
  have HA := Lib.hid ha
  have HU := Lib.hid hua
  have hb1 : ∀ o : Obj, Below w.heap.size w (w.alloc o) := fun o => (Below.refl _ _).alloc (Nat.le_refl _) _
  have HB := Lib.hid hb1
  clear henv hu hlt hpos ha hua hb1
  go_enter Tryd.func91, Tryd.ntmps91
  go_wp2_with fail
  refine (often_any a HA.out hs (i + 1) k hk HU.out (HE.out.grow (HB.out _))).mono ?_
  rintro e w1 ⟨g, rfl, hge, hp, he, hg⟩
  go_wp2_with fail
  go_ret
  exact ⟨g, rfl, Nat.le_trans (HB.out _).size hge, hp, he, (grown_of_below (HB.out _) _).trans hg⟩

set_option maxRecDepth 100000 in
set_option maxHeartbeats 8000000 in
theorem fit_opt (a : Rx) (ha : FromC l s b off cap ge F M a) (hs : s.size ≤ 400) (hl : l.length ≤ cap) (hcap : cap ≤ 9223372036854775807) : FitC l s b off cap ge F M (.opt a) := by
  intro O i k w hu hk henv
  have hlt := hu.lt
  obtain ⟨q0, q1, q2, q3, q4⟩ := henv.tenv.node hu.opt.1
  dsimp only [zc] at q0 q1 q2 q3 q4
  have f0 := henv.cellr
  have f2 := henv.text
  have hpos := flat_pos (.opt a)
  have hil : (i : Int) < (l.length : Int) := by omega
  have hFlt := henv.ltF
  have HE := Lib.hid henv
  have hlen60 : i < l.length := by omega
  have hb1 : ∀ o : Obj, Below w.heap.size w (w.alloc o) := fun o => (Below.refl _ _).alloc (Nat.le_refl _) _
  have HB := Lib.hid hb1
  have hua := hu.opt.2
  have HA := Lib.hid ha
  have HU := Lib.hid hua
  clear henv hu hlt hpos ha hua hb1
  go_enter Tryd.func91, Tryd.ntmps91
  go_wp2_with fail
  refine (here_own k true hs hk _ (HB.out _) HE.out).mono ?_
  rintro e w1 ⟨g1, rfl, hge1, hp1, he1, hg1⟩
  have HE1 := Lib.hid he1
  have HP1 := Lib.hid hp1
  have HG1 := Lib.hid hg1
  clear hp1 he1 hg1
  go_wp2_with fail
  refine (HA.out _ (i + 1) k _ HU.out hk HE1.out).mono ?_
  rintro e w2 ⟨g2, rfl, hO2, hp2, he2, hg2⟩
  have hne : g1 ≠ g2 := fun h => hO2 (.inr h.symm)
  have hneM : g1 ≠ M := fun h => by have := HE.out.ltM; omega
  have HPa := Lib.hid (HP1.out.kept hg2 (fun h => hneM (Option.some.inj h)))
  have HP2 := Lib.hid hp2
  have HE2 := Lib.hid he2
  have HG2 := Lib.hid (HG1.out.trans hg2)
  clear hp2 he2 hg2 hO2
  go_wp2_with fail
  refine (add_any _ _ s.size _ _ hne hs _ HPa.out HP2.out).mono ?_
  rintro e w3 ⟨rfl, hp3, hg3⟩
  have HP3 := Lib.hid hp3
  have HE3 := Lib.hid ((HE2.out.put (.inr rfl) hg3).less (O' := O) (fun x h => .inl h))
  have HG3 := Lib.hid (grown_new HG2.out hg3 hge1)
  clear hp3 hg3
  go_wp2_with fail
  go_ret
  exact ⟨g1, rfl, hge1, HP3.out.iff fun j hj => by simp [Fits], HE3.out, HG3.out⟩


set_option maxRecDepth 100000 in
set_option maxHeartbeats 8000000 in
theorem fit_alt (a c : Rx) (ha : FromC l s b off cap ge F M a) (hc : FromC l s b off cap ge F M c) (hs : s.size ≤ 400) (hl : l.length ≤ cap) (hcap : cap ≤ 9223372036854775807) : FitC l s b off cap ge F M (.alt a c) := by
  intro O i k w hu hk henv
  have hlt := hu.lt
  obtain ⟨q0, q1, q2, q3, q4⟩ := henv.tenv.node hu.alt.1
  dsimp only [zc] at q0 q1 q2 q3 q4
  have f0 := henv.cellr
  have f2 := henv.text
  have hpos := flat_pos (.alt a c)
  have hil : (i : Int) < (l.length : Int) := by omega
  have hFlt := henv.ltF
  have HE := Lib.hid henv
  have hlen60 : i < l.length := by omega
  have hb1 : ∀ o : Obj, Below w.heap.size w (w.alloc o) := fun o => (Below.refl _ _).alloc (Nat.le_refl _) _
  have HB := Lib.hid hb1
  obtain ⟨_, hua, huc⟩ := hu.alt
  have hi1 : (i : Int) + 1 < (l.length : Int) := by have := hua.lt; have := flat_pos a; omega
  have HA := Lib.hid ha
  have HU := Lib.hid hua
  have HC := Lib.hid hc
  have HUC := Lib.hid huc
  clear henv hu hlt hpos ha hua hb1 hc huc
  go_enter Tryd.func91, Tryd.ntmps91
  go_wp2_with fail
  refine (none_own hs _ (HB.out _) HE.out).mono ?_
  rintro e w1 ⟨g1, rfl, hge1, hp1, he1, hg1⟩
  have HE1 := Lib.hid he1
  have HP1 := Lib.hid hp1
  have HG1 := Lib.hid hg1
  clear hp1 he1 hg1
  have hneM : g1 ≠ M := fun h => by have := HE.out.ltM; omega
  go_wp2_with fail
  refine (HA.out _ (i + 1) k _ HU.out hk HE1.out).mono ?_
  rintro e w2 ⟨g2, rfl, hO2, hp2, he2, hg2⟩
  have hne : g1 ≠ g2 := fun h => hO2 (.inr h.symm)
  have HPa := Lib.hid (HP1.out.kept hg2 (fun h => hneM (Option.some.inj h)))
  have HP2 := Lib.hid hp2
  have HE2 := Lib.hid he2
  have HG2 := Lib.hid (HG1.out.trans hg2)
  clear hp2 he2 hg2 hO2
  go_wp2_with fail
  refine (add_any _ _ s.size _ _ hne hs _ HPa.out HP2.out).mono ?_
  rintro e w3 ⟨rfl, hp3, hg3⟩
  have HP3 := Lib.hid hp3
  have HE3 := Lib.hid (HE2.out.put (.inr rfl) hg3)
  have HG3 := Lib.hid (grown_new HG2.out hg3 hge1)
  have f1 := HE3.out.celle
  have hx1 := HE3.out.tenv.hx (i + 1) a HU.out
  clear hp3 hg3
  go_wp2_with fail
  refine (HC.out _ (i + 1 + (flat a).length) k _ HUC.out hk HE3.out).mono ?_
  rintro e w4 ⟨g4, rfl, hO4, hp4, he4, hg4⟩
  have hne4 : g1 ≠ g4 := fun h => hO4 (.inr h.symm)
  have HPb := Lib.hid (HP3.out.kept hg4 (fun h => hneM (Option.some.inj h)))
  have HP4 := Lib.hid hp4
  have HE4 := Lib.hid he4
  have HG4 := Lib.hid (HG3.out.trans hg4)
  clear hp4 he4 hg4 hO4
  go_wp2_with fail
  refine (add_any _ _ s.size _ _ hne4 hs _ HPb.out HP4.out).mono ?_
  rintro e w5 ⟨rfl, hp5, hg5⟩
  have HP5 := Lib.hid hp5
  have HE5 := Lib.hid ((HE4.out.put (.inr rfl) hg5).less (O' := O) (fun x h => .inl h))
  have HG5 := Lib.hid (grown_new HG4.out hg5 hge1)
  clear hp5 hg5
  go_wp2_with fail
  go_ret
  exact ⟨g1, rfl, hge1, HP5.out.iff fun j hj => by simp [Fits], HE5.out, HG5.out⟩


end

end Go.Proofs.YthcahjnniendnabDoor
