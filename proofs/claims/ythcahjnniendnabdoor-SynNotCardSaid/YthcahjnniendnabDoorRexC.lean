/-
  Walks of package winnowfansame: Nodes, Ints; of package rex: Empty.
-/
import Derived.Test.YthcahjnniendnabDoorRexB
import Derived.Deep.QuietTactic
import Derived.BigQuiet
namespace Go.Proofs.YthcahjnniendnabDoor
open Go.RowKit Wf

def NodesIs (a b : List Nd) (w : World) (e : Ending) (w' : World) : Prop := ∃ r : Bool, e = .returned (.bool r) ∧ (r = true ↔ a = b) ∧ Below w.heap.size w w'

theorem below_drewN {B : Nat} {a w : World} (h : Below B a w) (n : Nat) : Below B a (w.drewN n) := ⟨h.os, h.tape, h.output, h.size, h.block⟩

theorem take_snoc {α : Type} {l : List α} {k : Nat} {x : α} (h : l[k]? = some x) : l.take (k + 1) = l.take k ++ [x] := by
  rw [List.take_add_one, h]; rfl

theorem nd_eq (n m : Nd) : n = m ↔ n.op = m.op ∧ n.cls = m.cls := by
  cases n; cases m; simp

theorem list_eq_of {α : Type} {a b : List α} {k : Nat} (h : a.take k = b.take k) (hk : k = a.length) (hl : a.length = b.length) : a = b := by
  rw [List.take_of_length_le (by omega), List.take_of_length_le (by omega)] at h
  exact h

theorem list_ne_of {α : Type} {a b : List α} {k : Nat} {x y : α} (hx : a[k]? = some x) (hy : b[k]? = some y) (h : x ≠ y) : a ≠ b := by
  rintro rfl
  rw [hx] at hy
  exact h (Option.some.inj hy)

set_option maxRecDepth 100000 in
set_option maxHeartbeats 4000000 in
theorem Nodes_any (a b : List Nd) (va vb : Value) (w : World) (ha : RdN w va a) (hb : RdN w vb b) : Calls Tryd.prog 40 #[va, vb] w (NodesIs a b w) := by
  obtain ⟨A, ca, rfl, hca, hca2, hma⟩ := ha.open_
  obtain ⟨B, cb, rfl, hcb, hcb2, hmb⟩ := hb.open_
  have MA := Lib.hid hma
  have MB := Lib.hid hmb
  clear hma hmb ha hb
  by_cases hl : a.length = b.length
  · have hne : ((a.length : Int) != (b.length : Int)) = false := by rw [hl]; simp
    have HL := Lib.hid hl
    have hlen1 : a.length ≤ b.length := by omega
    have hlen2 : b.length ≤ a.length := by omega
    clear hl
    go_enter Tryd.func40, Tryd.ntmps40
    go_wp2
    go_loopw [5] (fun v5 wr => ∃ k : Nat, k ≤ a.length ∧ v5 = .int .i64 k ∧ Hid (a.take k = b.take k) ∧ Below w.heap.size w wr) (fun i _ => a.length - (intOf i).toNat)
    case atStart => exact ⟨0, by omega, rfl, Lib.hid rfl, Below.refl _ _⟩
    case round =>
      obtain ⟨k, hk, rfl, HT, hbl⟩ := hrel
      by_cases hlt : k < a.length
      · obtain ⟨b1, off1, rfl, hb1, hc1⟩ := MA.out (by omega)
        obtain ⟨b2, off2, rfl, hb2, hc2⟩ := MB.out (by omega)
        obtain ⟨n, hn⟩ := getD_get hlt
        obtain ⟨m, hm⟩ := getD_get (show k < b.length by omega)
        obtain ⟨g0, g1, g2, g3, g4⟩ := hc1 wr (fun o => hbl.cell (p := ⟨b1, o, none⟩) hb1) k n hn
        obtain ⟨q0, q1, q2, q3, q4⟩ := hc2 wr (fun o => hbl.cell (p := ⟨b2, o, none⟩) hb2) k m hm
        have heq := nd_eq n m
        have hdec := nd5_iff n.op m.op n.cls.1 n.cls.2.1 n.cls.2.2.1 n.cls.2.2.2 m.cls.1 m.cls.2.1 m.cls.2.2.1 m.cls.2.2.2
        have hyes : n = m → Hid (a.take (k + 1) = b.take (k + 1)) := fun h => Lib.hid (by rw [take_snoc hn, take_snoc hm, HT.out, h])
        have hno : n ≠ m → a ≠ b := fun h => list_ne_of hn hm h
        have HY := Lib.hid hyes
        have HNO := Lib.hid hno
        have HE := Lib.hid heq
        clear hyes hno heq hn hm hc1 hc2
        obtain ⟨op, c0, c1, c2, c3⟩ := n
        obtain ⟨op', d0, d1, d2, d3⟩ := m
        dsimp only at g0 g1 g2 g3 g4 q0 q1 q2 q3 q4 hdec
        have HDEC := Lib.hid hdec
        clear hdec
        have hk0 : (0 : Int) ≤ (k : Int) := by omega
        have hk1 : (k : Int) < (a.length : Int) := by omega
        have hk2 : (k : Int) < (b.length : Int) := by omega
        cases hcase : nd5 op c0 c1 c2 c3 op' d0 d1 d2 d3
        · go_wp2
          go_quiet (fail)
          go_wp2
          go_ret
          refine ⟨_, rfl, ⟨(fun h => by cases h), fun h => absurd h (HNO.out ?_)⟩, below_drewN hbl _⟩
          intro h
          have := HDEC.out.2 (HE.out.1 h)
          rw [hcase] at this
          cases this
        · go_wp2
          go_quiet (fail)
          go_wp2
          go_roundw
          case rel => exact ⟨k + 1, by omega, by go_num, HY.out (HE.out.2 (HDEC.out.1 hcase)), below_drewN hbl _⟩
          case measure => simp [intOf]; omega
      · obtain rfl : k = a.length := by omega
        go_wp2
        go_ret
        exact ⟨_, rfl, ⟨fun _ => list_eq_of HT.out rfl HL.out, fun _ => rfl⟩, hbl⟩
  · have hne : ((a.length : Int) != (b.length : Int)) = true := by simp; omega
    have HL := Lib.hid hl
    clear hl
    go_enter Tryd.func40, Tryd.ntmps40
    go_wp2
    go_ret
    exact ⟨_, rfl, ⟨(fun h => by cases h), fun h => absurd (congrArg List.length h) HL.out⟩, Below.refl _ _⟩

/-- What the round's row holds: behind place m whether each part may be nothing. -/
def MayTo (l : List Nd) (m : Nat) (cs : Array Value) : Prop := cs.size = l.length ∧ (∀ j, j < cs.size → ∃ x : Bool, cs[j]? = some (.bool x)) ∧ (∀ j, j < m → j < cs.size → cs[j]? = some (.bool false)) ∧ ∀ j u, m ≤ j → At l j u → cs[j]? = some (.bool (may u))

theorem MayTo.start (l : List Nd) : MayTo l l.length (repA l.length (.bool false)) := by
  refine ⟨repA_size _ _, fun j hj => ⟨false, repA_get _ _ _ (by rw [repA_size] at hj; exact hj)⟩, fun j hj _ => repA_get _ _ _ hj, fun j u hj h => ?_⟩
  have := h.lt
  have := flat_pos u
  omega

theorem MayTo.step {l : List Nd} {i : Nat} {cs : Array Value} {u : Rx} (h : MayTo l (i + 1) cs) (hu : At l i u) : MayTo l i (cs.setIfInBounds i (.bool (may u))) := by
  obtain ⟨h1, h2, h0, h3⟩ := h
  have hlt := hu.lt
  have hp := flat_pos u
  refine ⟨by simpa using h1, fun j hj => ?_, fun j hj hj' => ?_, fun j v hj hv => ?_⟩
  · rw [Array.getElem?_setIfInBounds]
    split
    · exact ⟨_, by rw [if_pos (by simp at hj; omega)]⟩
    · exact h2 j (by simpa using hj)
  · rw [Array.getElem?_setIfInBounds]
    split
    · omega
    · exact h0 j (by omega) (by simpa using hj')
  · rw [Array.getElem?_setIfInBounds]
    split
    · rename_i e
      subst e
      rw [hv.inj hu]
      rw [if_pos (by omega)]
    · exact h3 j v (by omega) hv

theorem MayTo.skip {l : List Nd} {i : Nat} {cs : Array Value} {u : Rx} (h : MayTo l (i + 1) cs) (hu : At l i u) (hm : may u = false) : MayTo l i cs := by
  obtain ⟨h1, h2, h0, h3⟩ := h
  have hlt := hu.lt
  have hp := flat_pos u
  refine ⟨h1, h2, fun j hj hj' => h0 j (by omega) hj', fun j v hj hv => ?_⟩
  by_cases e : j = i
  · subst e
    rw [hv.inj hu, hm]
    exact h0 j (by omega) (by omega)
  · exact h3 j v (by omega) hv

def EmptyIs (t : Rx) (w : World) (e : Ending) (w' : World) : Prop := e = .returned (.tuple #[.bool (may t), .nilIface]) ∧ Below w.heap.size w w'

end Go.Proofs.YthcahjnniendnabDoor
