/-
  Texts of this claim, one behind the other (5): MakeB, StepC, SimD, SimE, SimF, Pf, FeedA, FeedB, FeedNo, OpenT, RefD, Laid, LastOr.
-/
import Derived.Test.YthcahjnniendnabDoorM4FeedIs
import Derived.RangeFuncNested
import Derived.RangeFuncBound
import Derived.RangeFuncCalls
import Derived.RangeFuncLeaves
import Derived.Shelf.Abstract
import Derived.Shelf.RegionOpen
import Derived.WalkKit
import Derived.OwnWalkIn
import Derived.TacticsInMore
import Derived.LoopNIn
import Derived.LoopIn
import Derived.Deep.AppendLies
import Derived.RangeFuncBox
import Derived.Maps.AppendAt
import Derived.Deep.Strs
import Derived.SizedLaws
import Derived.Test.YthcahjnniendnabDoorRows
import Derived.ChangeSame
import Derived.ChangeVars
import Derived.JoinedOf
import Derived.LaidLaws
import Derived.LaidHandle
import Derived.Stop.Joined
/-
  The walk of prog's maker.make.
-/
namespace Go.Proofs.YthcahjnniendnabDoor
open Go.RowKit Wf

def MakeIs (w0 : World) (b off ln cap M i : Nat) (S : List St) (u : Rx) (w : World) (e : Ending) (w' : World) : Prop :=
  e = .returned (.tuple #[]) ∧ ∃ v', MEnv w0 b off ln cap M (i + (flat u).length) (S ++ code u S.length) v' w' ∧ Fm M w w'

theorem alt_list {S S2 S3 S4 S5 S6 : List St} {a b : Rx} (h2 : S2 = S ++ [(⟨2, (0, 0, 0, 0), (S.length : Int) + 1, 0⟩ : St)]) (h3 : S3 = S2 ++ code a S2.length) (h4 : S4 = S3 ++ [(⟨2, (0, 0, 0, 0), 0, 0⟩ : St)])
    (h5 : S5 = S4.set S.length ⟨2, (0, 0, 0, 0), (S.length : Int) + 1, (S4.length : Int)⟩) (h6 : S6 = S5 ++ code b S5.length) (l3 : S3.length = S.length + 1 + sz a) (l4 : S4.length = S3.length + 1) (l6 : S6.length = S.length + 2 + sz a + sz b) :
    S6.set S3.length ⟨2, (0, 0, 0, 0), (S6.length : Int), (S6.length : Int)⟩ = S ++ code (.alt a b) S.length := by
  have e4 : S4 = S ++ [(⟨2, (0, 0, 0, 0), (S.length : Int) + 1, 0⟩ : St)] ++ (code a (S.length + 1) ++ [(⟨2, (0, 0, 0, 0), 0, 0⟩ : St)]) := by
    rw [h4, h3, h2]; simp
  have l5 : S5.length = S4.length := by rw [h5]; simp
  have e5 : S5 = (S ++ [(⟨2, (0, 0, 0, 0), (S.length : Int) + 1, (S4.length : Int)⟩ : St)] ++ code a (S.length + 1)) ++ [(⟨2, (0, 0, 0, 0), 0, 0⟩ : St)] := by
    rw [h5]
    generalize (S4.length : Int) = k
    rw [e4, set_mid]; simp
  have lm : S3.length = (S ++ [(⟨2, (0, 0, 0, 0), (S.length : Int) + 1, (S4.length : Int)⟩ : St)] ++ code a (S.length + 1)).length := by simp [code_len]; omega
  have k6 : S6 = (S ++ [(⟨2, (0, 0, 0, 0), (S.length : Int) + 1, (S4.length : Int)⟩ : St)] ++ code a (S.length + 1)) ++ [(⟨2, (0, 0, 0, 0), 0, 0⟩ : St)] ++ code b (S.length + 1 + sz a + 1) := by
    rw [← e5, h6, l5, show S4.length = S.length + 1 + sz a + 1 by omega]
  have kk : (S6.length : Int) = ((S.length + 1 + sz a + 1 + sz b : Nat) : Int) := by omega
  rw [kk, lm]
  rw [k6, set_mid, show (S4.length : Int) = ((S.length + 1 + sz a + 1 : Nat) : Int) by omega]
  simp [code, zc]

set_option maxRecDepth 100000 in
set_option maxHeartbeats 8000000 in
theorem make_all (w0 : World) (l : List Nd) (b off cap M : Nat) (hl60 : l.length ≤ 60) (hcap : l.length ≤ cap) (hcap2 : cap ≤ 9223372036854775807)
    (hcell : ∀ (w' : World), Below w0.heap.size w0 w' → ∀ k n, l[k]? = some n →
      w'.cell? ⟨b, off + k * 5, none⟩ = some (.int .i64 n.op) ∧ w'.cell? ⟨b, off + k * 5 + 1, none⟩ = some (.int .u64 (n.cls.1 : Int)) ∧ w'.cell? ⟨b, off + k * 5 + 2, none⟩ = some (.int .u64 (n.cls.2.1 : Int)) ∧
      w'.cell? ⟨b, off + k * 5 + 3, none⟩ = some (.int .u64 (n.cls.2.2.1 : Int)) ∧ w'.cell? ⟨b, off + k * 5 + 4, none⟩ = some (.int .u64 (n.cls.2.2.2 : Int))) :
    ∀ (u : Rx) (i : Nat) (S : List St) (v : Value) (w : World), At l i u → S.length + sz u ≤ 1000 → MEnv w0 b off l.length cap M i S v w →
      Calls Tryd.prog 77 #[.pointer (some ⟨M, 0, none⟩)] w (MakeIs w0 b off l.length cap M i S u w) := by
  have HCELL := Lib.hid hcell
  clear hcell
  intro u
  induction u with
  | byte c =>
    intro i S v w hat hS h
    obtain ⟨k0, k1, k2, k3⟩ := c
    have hlt := hat.lt
    have hpos := flat_pos (.byte (k0, k1, k2, k3))
    have hil : (i : Int) < (l.length : Int) := by omega
    have hi0 : (0 : Int) ≤ (i : Int) := by omega
    have c0 := fun o => (h.alloc o).mb.cell 0
    have c1 := fun o => (h.alloc o).mb.cell 1
    have d0 := h.mb.cell 0
    have d1 := h.mb.cell 1
    simp only [List.getElem?_toArray, List.getElem?_cons_succ, List.getElem?_cons_zero] at c0 c1 d0 d1
    have qq := fun o => HCELL.out _ (h.alloc o).bel i _ hat.byte
    have HN : Hid (Blk (((w.setCell ⟨M, 1, none⟩ (.int .i64 ((i : Int) + 1))).alloc (.cells #[.int .i64 1, .int .u64 (k0 : Int), .int .u64 (k1 : Int), .int .u64 (k2 : Int), .int .u64 (k3 : Int)] 69)).drew) w.heap.size 69 #[.int .i64 1, .int .u64 (k0 : Int), .int .u64 (k1 : Int), .int .u64 (k2 : Int), .int .u64 (k3 : Int)]) := Lib.hid (blk_at _ _ (by simp) _ _)
    have H := Lib.hid (((h.at_ (i + 1) ((i : Int) + 1) (by simp)).alloc (.cells #[.int .i64 1, .int .u64 (k0 : Int), .int .u64 (k1 : Int), .int .u64 (k2 : Int), .int .u64 (k3 : Int)] 69)).drew)
    have HF := Lib.hid ((Fm.setM M w 1 (.int .i64 ((i : Int) + 1))).trans (Fm.below (M := M) (((Below.refl _ _).alloc (Nat.le_refl _) (.cells #[.int .i64 1, .int .u64 (k0 : Int), .int .u64 (k1 : Int), .int .u64 (k2 : Int), .int .u64 (k3 : Int)] 69)).drew)))
    obtain ⟨q0, q1, q2, q3, q4⟩ := HCELL.out _ h.bel i _ hat.byte
    have r0 := fun o => (qq o).1
    have r1 := fun o => (qq o).2.1
    have r2 := fun o => (qq o).2.2.1
    have r3 := fun o => (qq o).2.2.2.1
    have r4 := fun o => (qq o).2.2.2.2
    dsimp only [zc] at q0 q1 q2 q3 q4 r0 r1 r2 r3 r4
    have z1 := fun o => (h.alloc o).mb.frozen 1
    have hMw := h.mb.lt
    clear h qq hat
    go_enter Tryd.func77, Tryd.ntmps77
    go_wp2_with fail
    go_region
    go_wp2_with fail
    refine (next_any _ _ _ _ _ _ _ _ _ _ H.out).mono ?_
    rintro e w1 ⟨rfl, rfl⟩
    have n0 := HN.out.cell 0
    simp only [List.getElem?_toArray, List.getElem?_cons_succ, List.getElem?_cons_zero] at n0
    have n1 := HN.out.cell 1
    have n2 := HN.out.cell 2
    have n3 := HN.out.cell 3
    have n4 := HN.out.cell 4
    simp only [List.getElem?_toArray, List.getElem?_cons_succ, List.getElem?_cons_zero] at n1 n2 n3 n4
    go_wp2_with fail
    refine (emit_any _ _ _ _ _ _ _ S _ 1 ((S.length : Int) + 1) 0 k0 k1 k2 k3 _ (by simp [sz] at hS; omega) H.out).mono ?_
    rintro e w2 ⟨rfl, v2, henv, hfm⟩
    have HE2 := Lib.hid henv
    have HF2 := Lib.hid (HF.out.trans hfm)
    clear henv hfm
    go_wp2_with fail
    go_end0
    exact ⟨rfl, _, HE2.out.cast (by simp [flat] <;> omega) (by simp [code]), HF2.out⟩
  | empty =>
    intro i S v w hat hS h
    have hlt := hat.lt
    have hpos := flat_pos .empty
    have hil : (i : Int) < (l.length : Int) := by omega
    have hi0 : (0 : Int) ≤ (i : Int) := by omega
    have c0 := fun o => (h.alloc o).mb.cell 0
    have c1 := fun o => (h.alloc o).mb.cell 1
    have d0 := h.mb.cell 0
    have d1 := h.mb.cell 1
    simp only [List.getElem?_toArray, List.getElem?_cons_succ, List.getElem?_cons_zero] at c0 c1 d0 d1
    have qq := fun o => HCELL.out _ (h.alloc o).bel i _ hat.empty
    have HN : Hid (Blk (((w.setCell ⟨M, 1, none⟩ (.int .i64 ((i : Int) + 1))).alloc (.cells #[.int .i64 2, .int .u64 ((0 : Nat) : Int), .int .u64 ((0 : Nat) : Int), .int .u64 ((0 : Nat) : Int), .int .u64 ((0 : Nat) : Int)] 69)).drew) w.heap.size 69 #[.int .i64 2, .int .u64 ((0 : Nat) : Int), .int .u64 ((0 : Nat) : Int), .int .u64 ((0 : Nat) : Int), .int .u64 ((0 : Nat) : Int)]) := Lib.hid (blk_at _ _ (by simp) _ _)
    have H := Lib.hid (((h.at_ (i + 1) ((i : Int) + 1) (by simp)).alloc (.cells #[.int .i64 2, .int .u64 ((0 : Nat) : Int), .int .u64 ((0 : Nat) : Int), .int .u64 ((0 : Nat) : Int), .int .u64 ((0 : Nat) : Int)] 69)).drew)
    have HF := Lib.hid ((Fm.setM M w 1 (.int .i64 ((i : Int) + 1))).trans (Fm.below (M := M) (((Below.refl _ _).alloc (Nat.le_refl _) (.cells #[.int .i64 2, .int .u64 ((0 : Nat) : Int), .int .u64 ((0 : Nat) : Int), .int .u64 ((0 : Nat) : Int), .int .u64 ((0 : Nat) : Int)] 69)).drew)))
    obtain ⟨q0, q1, q2, q3, q4⟩ := HCELL.out _ h.bel i _ hat.empty
    have r0 := fun o => (qq o).1
    have r1 := fun o => (qq o).2.1
    have r2 := fun o => (qq o).2.2.1
    have r3 := fun o => (qq o).2.2.2.1
    have r4 := fun o => (qq o).2.2.2.2
    dsimp only [zc] at q0 q1 q2 q3 q4 r0 r1 r2 r3 r4
    have z1 := fun o => (h.alloc o).mb.frozen 1
    have hMw := h.mb.lt
    clear h qq hat
    go_enter Tryd.func77, Tryd.ntmps77
    go_wp2_with fail
    go_region
    go_wp2_with fail
    refine (next_any _ _ _ _ _ _ _ _ _ _ H.out).mono ?_
    rintro e w1 ⟨rfl, rfl⟩
    have n0 := HN.out.cell 0
    simp only [List.getElem?_toArray, List.getElem?_cons_succ, List.getElem?_cons_zero] at n0
    go_wp2_with fail
    go_end0
    exact ⟨rfl, _, H.out.cast (by simp [flat] <;> omega) (by simp [code]), HF.out⟩
  | bgn =>
    intro i S v w hat hS h
    have hlt := hat.lt
    have hpos := flat_pos .bgn
    have hil : (i : Int) < (l.length : Int) := by omega
    have hi0 : (0 : Int) ≤ (i : Int) := by omega
    have c0 := fun o => (h.alloc o).mb.cell 0
    have c1 := fun o => (h.alloc o).mb.cell 1
    have d0 := h.mb.cell 0
    have d1 := h.mb.cell 1
    simp only [List.getElem?_toArray, List.getElem?_cons_succ, List.getElem?_cons_zero] at c0 c1 d0 d1
    have qq := fun o => HCELL.out _ (h.alloc o).bel i _ hat.bgn
    have HN : Hid (Blk (((w.setCell ⟨M, 1, none⟩ (.int .i64 ((i : Int) + 1))).alloc (.cells #[.int .i64 8, .int .u64 ((0 : Nat) : Int), .int .u64 ((0 : Nat) : Int), .int .u64 ((0 : Nat) : Int), .int .u64 ((0 : Nat) : Int)] 69)).drew) w.heap.size 69 #[.int .i64 8, .int .u64 ((0 : Nat) : Int), .int .u64 ((0 : Nat) : Int), .int .u64 ((0 : Nat) : Int), .int .u64 ((0 : Nat) : Int)]) := Lib.hid (blk_at _ _ (by simp) _ _)
    have H := Lib.hid (((h.at_ (i + 1) ((i : Int) + 1) (by simp)).alloc (.cells #[.int .i64 8, .int .u64 ((0 : Nat) : Int), .int .u64 ((0 : Nat) : Int), .int .u64 ((0 : Nat) : Int), .int .u64 ((0 : Nat) : Int)] 69)).drew)
    have HF := Lib.hid ((Fm.setM M w 1 (.int .i64 ((i : Int) + 1))).trans (Fm.below (M := M) (((Below.refl _ _).alloc (Nat.le_refl _) (.cells #[.int .i64 8, .int .u64 ((0 : Nat) : Int), .int .u64 ((0 : Nat) : Int), .int .u64 ((0 : Nat) : Int), .int .u64 ((0 : Nat) : Int)] 69)).drew)))
    obtain ⟨q0, q1, q2, q3, q4⟩ := HCELL.out _ h.bel i _ hat.bgn
    have r0 := fun o => (qq o).1
    have r1 := fun o => (qq o).2.1
    have r2 := fun o => (qq o).2.2.1
    have r3 := fun o => (qq o).2.2.2.1
    have r4 := fun o => (qq o).2.2.2.2
    dsimp only [zc] at q0 q1 q2 q3 q4 r0 r1 r2 r3 r4
    have z1 := fun o => (h.alloc o).mb.frozen 1
    have hMw := h.mb.lt
    clear h qq hat
    go_enter Tryd.func77, Tryd.ntmps77
    go_wp2_with fail
    go_region
    go_wp2_with fail
    refine (next_any _ _ _ _ _ _ _ _ _ _ H.out).mono ?_
    rintro e w1 ⟨rfl, rfl⟩
    have n0 := HN.out.cell 0
    simp only [List.getElem?_toArray, List.getElem?_cons_succ, List.getElem?_cons_zero] at n0
    go_wp2_with fail
    refine (emit_any _ _ _ _ _ _ _ S _ 3 ((S.length : Int) + 1) 0 0 0 0 0 _ (by simp [sz] at hS; omega) H.out).mono ?_
    rintro e w2 ⟨rfl, v2, henv, hfm⟩
    have HE2 := Lib.hid henv
    have HF2 := Lib.hid (HF.out.trans hfm)
    clear henv hfm
    go_wp2_with fail
    go_end0
    exact ⟨rfl, _, HE2.out.cast (by simp [flat] <;> omega) (by simp [code, zc]), HF2.out⟩
  | fin =>
    intro i S v w hat hS h
    have hlt := hat.lt
    have hpos := flat_pos .fin
    have hil : (i : Int) < (l.length : Int) := by omega
    have hi0 : (0 : Int) ≤ (i : Int) := by omega
    have c0 := fun o => (h.alloc o).mb.cell 0
    have c1 := fun o => (h.alloc o).mb.cell 1
    have d0 := h.mb.cell 0
    have d1 := h.mb.cell 1
    simp only [List.getElem?_toArray, List.getElem?_cons_succ, List.getElem?_cons_zero] at c0 c1 d0 d1
    have qq := fun o => HCELL.out _ (h.alloc o).bel i _ hat.fin
    have HN : Hid (Blk (((w.setCell ⟨M, 1, none⟩ (.int .i64 ((i : Int) + 1))).alloc (.cells #[.int .i64 9, .int .u64 ((0 : Nat) : Int), .int .u64 ((0 : Nat) : Int), .int .u64 ((0 : Nat) : Int), .int .u64 ((0 : Nat) : Int)] 69)).drew) w.heap.size 69 #[.int .i64 9, .int .u64 ((0 : Nat) : Int), .int .u64 ((0 : Nat) : Int), .int .u64 ((0 : Nat) : Int), .int .u64 ((0 : Nat) : Int)]) := Lib.hid (blk_at _ _ (by simp) _ _)
    have H := Lib.hid (((h.at_ (i + 1) ((i : Int) + 1) (by simp)).alloc (.cells #[.int .i64 9, .int .u64 ((0 : Nat) : Int), .int .u64 ((0 : Nat) : Int), .int .u64 ((0 : Nat) : Int), .int .u64 ((0 : Nat) : Int)] 69)).drew)
    have HF := Lib.hid ((Fm.setM M w 1 (.int .i64 ((i : Int) + 1))).trans (Fm.below (M := M) (((Below.refl _ _).alloc (Nat.le_refl _) (.cells #[.int .i64 9, .int .u64 ((0 : Nat) : Int), .int .u64 ((0 : Nat) : Int), .int .u64 ((0 : Nat) : Int), .int .u64 ((0 : Nat) : Int)] 69)).drew)))
    obtain ⟨q0, q1, q2, q3, q4⟩ := HCELL.out _ h.bel i _ hat.fin
    have r0 := fun o => (qq o).1
    have r1 := fun o => (qq o).2.1
    have r2 := fun o => (qq o).2.2.1
    have r3 := fun o => (qq o).2.2.2.1
    have r4 := fun o => (qq o).2.2.2.2
    dsimp only [zc] at q0 q1 q2 q3 q4 r0 r1 r2 r3 r4
    have z1 := fun o => (h.alloc o).mb.frozen 1
    have hMw := h.mb.lt
    clear h qq hat
    go_enter Tryd.func77, Tryd.ntmps77
    go_wp2_with fail
    go_region
    go_wp2_with fail
    refine (next_any _ _ _ _ _ _ _ _ _ _ H.out).mono ?_
    rintro e w1 ⟨rfl, rfl⟩
    have n0 := HN.out.cell 0
    simp only [List.getElem?_toArray, List.getElem?_cons_succ, List.getElem?_cons_zero] at n0
    go_wp2_with fail
    refine (emit_any _ _ _ _ _ _ _ S _ 4 ((S.length : Int) + 1) 0 0 0 0 0 _ (by simp [sz] at hS; omega) H.out).mono ?_
    rintro e w2 ⟨rfl, v2, henv, hfm⟩
    have HE2 := Lib.hid henv
    have HF2 := Lib.hid (HF.out.trans hfm)
    clear henv hfm
    go_wp2_with fail
    go_end0
    exact ⟨rfl, _, HE2.out.cast (by simp [flat] <;> omega) (by simp [code, zc]), HF2.out⟩
  | cat a b iha ihb =>
    intro i S v w hat hS h
    have hlt := hat.lt
    have HIA := Lib.hid iha
    have HIB := Lib.hid ihb
    have HAT := Lib.hid hat
    simp only [sz] at hS
    clear iha ihb
    have hpos := flat_pos (.cat a b)
    have hil : (i : Int) < (l.length : Int) := by omega
    have hi0 : (0 : Int) ≤ (i : Int) := by omega
    have c0 := fun o => (h.alloc o).mb.cell 0
    have c1 := fun o => (h.alloc o).mb.cell 1
    have d0 := h.mb.cell 0
    have d1 := h.mb.cell 1
    simp only [List.getElem?_toArray, List.getElem?_cons_succ, List.getElem?_cons_zero] at c0 c1 d0 d1
    have qq := fun o => HCELL.out _ (h.alloc o).bel i _ hat.cat.1
    have HN : Hid (Blk (((w.setCell ⟨M, 1, none⟩ (.int .i64 ((i : Int) + 1))).alloc (.cells #[.int .i64 3, .int .u64 ((0 : Nat) : Int), .int .u64 ((0 : Nat) : Int), .int .u64 ((0 : Nat) : Int), .int .u64 ((0 : Nat) : Int)] 69)).drew) w.heap.size 69 #[.int .i64 3, .int .u64 ((0 : Nat) : Int), .int .u64 ((0 : Nat) : Int), .int .u64 ((0 : Nat) : Int), .int .u64 ((0 : Nat) : Int)]) := Lib.hid (blk_at _ _ (by simp) _ _)
    have H := Lib.hid (((h.at_ (i + 1) ((i : Int) + 1) (by simp)).alloc (.cells #[.int .i64 3, .int .u64 ((0 : Nat) : Int), .int .u64 ((0 : Nat) : Int), .int .u64 ((0 : Nat) : Int), .int .u64 ((0 : Nat) : Int)] 69)).drew)
    have HF := Lib.hid ((Fm.setM M w 1 (.int .i64 ((i : Int) + 1))).trans (Fm.below (M := M) (((Below.refl _ _).alloc (Nat.le_refl _) (.cells #[.int .i64 3, .int .u64 ((0 : Nat) : Int), .int .u64 ((0 : Nat) : Int), .int .u64 ((0 : Nat) : Int), .int .u64 ((0 : Nat) : Int)] 69)).drew)))
    obtain ⟨q0, q1, q2, q3, q4⟩ := HCELL.out _ h.bel i _ hat.cat.1
    have r0 := fun o => (qq o).1
    have r1 := fun o => (qq o).2.1
    have r2 := fun o => (qq o).2.2.1
    have r3 := fun o => (qq o).2.2.2.1
    have r4 := fun o => (qq o).2.2.2.2
    dsimp only [zc] at q0 q1 q2 q3 q4 r0 r1 r2 r3 r4
    have z1 := fun o => (h.alloc o).mb.frozen 1
    have hMw := h.mb.lt
    clear h qq hat
    go_enter Tryd.func77, Tryd.ntmps77
    go_wp2_with fail
    go_region
    go_wp2_with fail
    refine (next_any _ _ _ _ _ _ _ _ _ _ H.out).mono ?_
    rintro e w1 ⟨rfl, rfl⟩
    have n0 := HN.out.cell 0
    simp only [List.getElem?_toArray, List.getElem?_cons_succ, List.getElem?_cons_zero] at n0
    go_wp2_with fail
    refine (HIA.out (i + 1) S v _ HAT.out.cat.2.1 (by omega) H.out).mono ?_
    rintro e w2 ⟨rfl, v2, henv, hfm⟩
    have HE2 := Lib.hid henv
    have HF2 := Lib.hid (HF.out.trans hfm)
    clear henv hfm
    go_wp2_with fail
    refine (HIB.out (i + 1 + (flat a).length) (S ++ code a S.length) v2 _ HAT.out.cat.2.2 (by rw [List.length_append, code_len]; omega) HE2.out).mono ?_
    rintro e w3 ⟨rfl, v3, henv, hfm⟩
    have HE3 := Lib.hid henv
    have HF3 := Lib.hid (HF2.out.trans hfm)
    clear henv hfm
    go_wp2_with fail
    go_end0
    exact ⟨rfl, _, HE3.out.cast (by simp [flat] <;> omega) (by simp [code, code_len]), HF3.out⟩
  | plus a iha =>
    intro i S v w hat hS h
    have hlt := hat.lt
    have HIA := Lib.hid iha
    have HAT := Lib.hid hat
    simp only [sz] at hS
    clear iha
    have hpos := flat_pos (.plus a)
    have hil : (i : Int) < (l.length : Int) := by omega
    have hi0 : (0 : Int) ≤ (i : Int) := by omega
    have c0 := fun o => (h.alloc o).mb.cell 0
    have c1 := fun o => (h.alloc o).mb.cell 1
    have d0 := h.mb.cell 0
    have d1 := h.mb.cell 1
    simp only [List.getElem?_toArray, List.getElem?_cons_succ, List.getElem?_cons_zero] at c0 c1 d0 d1
    have qq := fun o => HCELL.out _ (h.alloc o).bel i _ hat.plus.1
    have HN : Hid (Blk (((w.setCell ⟨M, 1, none⟩ (.int .i64 ((i : Int) + 1))).alloc (.cells #[.int .i64 6, .int .u64 ((0 : Nat) : Int), .int .u64 ((0 : Nat) : Int), .int .u64 ((0 : Nat) : Int), .int .u64 ((0 : Nat) : Int)] 69)).drew) w.heap.size 69 #[.int .i64 6, .int .u64 ((0 : Nat) : Int), .int .u64 ((0 : Nat) : Int), .int .u64 ((0 : Nat) : Int), .int .u64 ((0 : Nat) : Int)]) := Lib.hid (blk_at _ _ (by simp) _ _)
    have H := Lib.hid (((h.at_ (i + 1) ((i : Int) + 1) (by simp)).alloc (.cells #[.int .i64 6, .int .u64 ((0 : Nat) : Int), .int .u64 ((0 : Nat) : Int), .int .u64 ((0 : Nat) : Int), .int .u64 ((0 : Nat) : Int)] 69)).drew)
    have HF := Lib.hid ((Fm.setM M w 1 (.int .i64 ((i : Int) + 1))).trans (Fm.below (M := M) (((Below.refl _ _).alloc (Nat.le_refl _) (.cells #[.int .i64 6, .int .u64 ((0 : Nat) : Int), .int .u64 ((0 : Nat) : Int), .int .u64 ((0 : Nat) : Int), .int .u64 ((0 : Nat) : Int)] 69)).drew)))
    obtain ⟨q0, q1, q2, q3, q4⟩ := HCELL.out _ h.bel i _ hat.plus.1
    have r0 := fun o => (qq o).1
    have r1 := fun o => (qq o).2.1
    have r2 := fun o => (qq o).2.2.1
    have r3 := fun o => (qq o).2.2.2.1
    have r4 := fun o => (qq o).2.2.2.2
    dsimp only [zc] at q0 q1 q2 q3 q4 r0 r1 r2 r3 r4
    have z1 := fun o => (h.alloc o).mb.frozen 1
    have hMw := h.mb.lt
    clear h qq hat
    go_enter Tryd.func77, Tryd.ntmps77
    go_wp2_with fail
    go_region
    go_wp2_with fail
    refine (next_any _ _ _ _ _ _ _ _ _ _ H.out).mono ?_
    rintro e w1 ⟨rfl, rfl⟩
    have n0 := HN.out.cell 0
    simp only [List.getElem?_toArray, List.getElem?_cons_succ, List.getElem?_cons_zero] at n0
    have HG1 := Lib.hid (Fm.refl M ((w.setCell ⟨M, 1, none⟩ (.int .i64 ((i : Int) + 1))).alloc (.cells #[.int .i64 6, .int .u64 ((0 : Nat) : Int), .int .u64 ((0 : Nat) : Int), .int .u64 ((0 : Nat) : Int), .int .u64 ((0 : Nat) : Int)] 69)).drew)
    go_wp2_with fail
    refine (HIA.out (i + 1) S v _ HAT.out.plus.2 (by omega) H.out).mono ?_
    rintro e w2 ⟨rfl, v2, henv, hfm⟩
    obtain ⟨S2, hS2⟩ : ∃ X, X = S ++ code a S.length := ⟨_, rfl⟩
    have HS2 := Lib.hid hS2
    have HL2 : Hid (S2.length = S.length + sz a) := Lib.hid (by rw [hS2]; simp [code_len]; try omega)
    rw [← hS2] at henv
    clear hS2
    have hB2 : S2.length ≤ 1000 := by have := HL2.out; first | omega | (have := HL2.out; omega) | (have := HL2.out; have := HL3.out; omega) | (have := HL2.out; have := HL3.out; have := HL4.out; omega)
    have HE2 := Lib.hid henv
    have HG2 := Lib.hid (HG1.out.trans hfm)
    clear henv hfm
    go_wp2_with fail
    refine (next_any _ _ _ _ _ _ _ _ _ _ HE2.out).mono ?_
    rintro e w3 ⟨rfl, rfl⟩
    go_wp2_with fail
    refine (emit_any _ _ _ _ _ _ _ S2 _ 2 (S.length : Int) ((S2.length : Int) + 1) 0 0 0 0 _ (by have := HL2.out; omega) HE2.out).mono ?_
    rintro e w4 ⟨rfl, v4, henv, hfm⟩
    obtain ⟨S4, hS4⟩ : ∃ X, X = S2 ++ [⟨2, (0, 0, 0, 0), (S.length : Int), (S2.length : Int) + 1⟩] := ⟨_, rfl⟩
    have HS4 := Lib.hid hS4
    have HL4 : Hid (S4.length = S2.length + 1) := Lib.hid (by rw [hS4]; simp [code_len]; try omega)
    rw [← hS4] at henv
    clear hS4
    have hB4 : S4.length ≤ 1000 := by have := HL4.out; first | omega | (have := HL2.out; omega) | (have := HL2.out; have := HL3.out; omega) | (have := HL2.out; have := HL3.out; have := HL4.out; omega)
    have HE4 := Lib.hid henv
    have HG4 := Lib.hid (HG2.out.trans hfm)
    clear henv hfm
    go_wp2_with fail
    go_end0
    exact ⟨rfl, _, HE4.out.cast (by simp [flat] <;> omega) (by rw [HS4.out, HL2.out, HS2.out]; simp [code, code_len, zc]), (HF.out.trans HG4.out)⟩
  | opt a iha =>
    intro i S v w hat hS h
    have hlt := hat.lt
    have HIA := Lib.hid iha
    have HAT := Lib.hid hat
    simp only [sz] at hS
    clear iha
    have hpos := flat_pos (.opt a)
    have hil : (i : Int) < (l.length : Int) := by omega
    have hi0 : (0 : Int) ≤ (i : Int) := by omega
    have c0 := fun o => (h.alloc o).mb.cell 0
    have c1 := fun o => (h.alloc o).mb.cell 1
    have d0 := h.mb.cell 0
    have d1 := h.mb.cell 1
    simp only [List.getElem?_toArray, List.getElem?_cons_succ, List.getElem?_cons_zero] at c0 c1 d0 d1
    have qq := fun o => HCELL.out _ (h.alloc o).bel i _ hat.opt.1
    have HN : Hid (Blk (((w.setCell ⟨M, 1, none⟩ (.int .i64 ((i : Int) + 1))).alloc (.cells #[.int .i64 7, .int .u64 ((0 : Nat) : Int), .int .u64 ((0 : Nat) : Int), .int .u64 ((0 : Nat) : Int), .int .u64 ((0 : Nat) : Int)] 69)).drew) w.heap.size 69 #[.int .i64 7, .int .u64 ((0 : Nat) : Int), .int .u64 ((0 : Nat) : Int), .int .u64 ((0 : Nat) : Int), .int .u64 ((0 : Nat) : Int)]) := Lib.hid (blk_at _ _ (by simp) _ _)
    have H := Lib.hid (((h.at_ (i + 1) ((i : Int) + 1) (by simp)).alloc (.cells #[.int .i64 7, .int .u64 ((0 : Nat) : Int), .int .u64 ((0 : Nat) : Int), .int .u64 ((0 : Nat) : Int), .int .u64 ((0 : Nat) : Int)] 69)).drew)
    have HF := Lib.hid ((Fm.setM M w 1 (.int .i64 ((i : Int) + 1))).trans (Fm.below (M := M) (((Below.refl _ _).alloc (Nat.le_refl _) (.cells #[.int .i64 7, .int .u64 ((0 : Nat) : Int), .int .u64 ((0 : Nat) : Int), .int .u64 ((0 : Nat) : Int), .int .u64 ((0 : Nat) : Int)] 69)).drew)))
    obtain ⟨q0, q1, q2, q3, q4⟩ := HCELL.out _ h.bel i _ hat.opt.1
    have r0 := fun o => (qq o).1
    have r1 := fun o => (qq o).2.1
    have r2 := fun o => (qq o).2.2.1
    have r3 := fun o => (qq o).2.2.2.1
    have r4 := fun o => (qq o).2.2.2.2
    dsimp only [zc] at q0 q1 q2 q3 q4 r0 r1 r2 r3 r4
    have z1 := fun o => (h.alloc o).mb.frozen 1
    have hMw := h.mb.lt
    clear h qq hat
    go_enter Tryd.func77, Tryd.ntmps77
    go_wp2_with fail
    go_region
    go_wp2_with fail
    refine (next_any _ _ _ _ _ _ _ _ _ _ H.out).mono ?_
    rintro e w1 ⟨rfl, rfl⟩
    have n0 := HN.out.cell 0
    simp only [List.getElem?_toArray, List.getElem?_cons_succ, List.getElem?_cons_zero] at n0
    have HG1 := Lib.hid (Fm.refl M ((w.setCell ⟨M, 1, none⟩ (.int .i64 ((i : Int) + 1))).alloc (.cells #[.int .i64 7, .int .u64 ((0 : Nat) : Int), .int .u64 ((0 : Nat) : Int), .int .u64 ((0 : Nat) : Int), .int .u64 ((0 : Nat) : Int)] 69)).drew)
    go_wp2_with fail
    refine (emit_any _ _ _ _ _ _ _ S _ 2 ((S.length : Int) + 1) 0 0 0 0 0 _ (by omega) H.out).mono ?_
    rintro e w2 ⟨rfl, v2, henv, hfm⟩
    obtain ⟨S2, hS2⟩ : ∃ X, X = S ++ [⟨2, (0, 0, 0, 0), (S.length : Int) + 1, 0⟩] := ⟨_, rfl⟩
    have HS2 := Lib.hid hS2
    have HL2 : Hid (S2.length = S.length + 1) := Lib.hid (by rw [hS2]; simp [code_len]; try omega)
    rw [← hS2] at henv
    clear hS2
    have hB2 : S2.length ≤ 1000 := by have := HL2.out; first | omega | (have := HL2.out; omega) | (have := HL2.out; have := HL3.out; omega) | (have := HL2.out; have := HL3.out; have := HL4.out; omega)
    have HE2 := Lib.hid henv
    have HG2 := Lib.hid (HG1.out.trans hfm)
    clear henv hfm
    go_wp2_with fail
    refine (HIA.out (i + 1) S2 _ _ HAT.out.opt.2 (by have := HL2.out; omega) HE2.out).mono ?_
    rintro e w3 ⟨rfl, v3, henv, hfm⟩
    obtain ⟨S3, hS3⟩ : ∃ X, X = S2 ++ code a S2.length := ⟨_, rfl⟩
    have HS3 := Lib.hid hS3
    have HL3 : Hid (S3.length = S.length + 1 + sz a) := Lib.hid (by rw [hS3]; simp [code_len, HL2.out]; try omega)
    rw [← hS3] at henv
    clear hS3
    have hB3 : S3.length ≤ 1000 := by have := HL3.out; first | omega | (have := HL2.out; omega) | (have := HL2.out; have := HL3.out; omega) | (have := HL2.out; have := HL3.out; have := HL4.out; omega)
    have HE3 := Lib.hid henv
    have HG3 := Lib.hid (HG2.out.trans hfm)
    clear henv hfm
    have n0' := (Blk.fm HN.out HG3.out (by decide) (by omega)).cell 0
    simp only [List.getElem?_toArray, List.getElem?_cons_succ, List.getElem?_cons_zero] at n0'
    obtain ⟨g, c, rfl⟩ := HE3.out.form (by have := HL3.out; omega)
    obtain ⟨a1, a2, a3, a4, a5, a6⟩ := HE3.out.step
    have hk : S3[S.length]? = some ⟨2, (0, 0, 0, 0), (S.length : Int) + 1, 0⟩ := by rw [HS3.out, HS2.out]; simp
    obtain ⟨b5, b6⟩ := a6 _ _ hk
    have z6 := a5 (S.length * 7 + 6)
    have z5 := a5 (S.length * 7 + 5)
    have m2 := HE3.out.mb.cell 2
    simp only [List.getElem?_toArray, List.getElem?_cons_succ, List.getElem?_cons_zero] at m2
    have i1 : ((S.length : Nat) : Int) < (S3.length : Int) := by have := HL3.out; omega
    have i0 : (0 : Int) ≤ ((S.length : Nat) : Int) := by omega
    have HK := Lib.hid hk
    clear a5 a6 hk
    go_wp2_with fail
    have m2a : w3.drew.cell? ⟨M, 2, none⟩ = some (.slice (some ⟨g, 0, none⟩) S3.length c) := m2
    have m2b : ∀ u, (w3.drew.setCell ⟨g, S.length * 7 + 6, none⟩ u).cell? ⟨M, 2, none⟩ = some (.slice (some ⟨g, 0, none⟩) S3.length c) := fun u => (World.cell?_setCell_other _ _ _ _ (by simp <;> omega)).trans m2
    have HNX := Lib.hid (next_any _ _ _ _ _ _ _ S3 (.slice (some ⟨g, 0, none⟩) S3.length c) _ HE3.out.drew)
    go_region_held3 (fun w' => w'.cell? ⟨M, 2, none⟩ = some (.slice (some ⟨g, 0, none⟩) S3.length c)) (first | exact m2a | exact m2b _) (first | (go_at_call 99; refine HNX.out.mono ?_; rintro e w' ⟨rfl, rfl⟩))
    clear m2a m2b
    all_goals (
      go_wp2_with fail
      go_end0
      exact ⟨rfl, _, (by first | exact (HE3.out.drew.setY HK.out (S3.length : Int)).cast rfl rfl | exact ((HE3.out.setY HK.out (S3.length : Int)).drew).cast rfl rfl : MEnv _ _ _ _ _ _ _ (S3.set S.length ⟨2, (0, 0, 0, 0), (S.length : Int) + 1, (S3.length : Int)⟩) _ _).cast (by simp [flat] <;> omega) (by rw [HL3.out, HS3.out, HS2.out, set_mid]; simp [code, zc]), HF.out.trans ((HG3.out.trans (Fm.below (Below.refl _ _).drew)).trans (Fm.row HE3.out.drew.row _ _))⟩)
  | star a iha =>
    intro i S v w hat hS h
    have hlt := hat.lt
    have HIA := Lib.hid iha
    have HAT := Lib.hid hat
    simp only [sz] at hS
    clear iha
    have hpos := flat_pos (.star a)
    have hil : (i : Int) < (l.length : Int) := by omega
    have hi0 : (0 : Int) ≤ (i : Int) := by omega
    have c0 := fun o => (h.alloc o).mb.cell 0
    have c1 := fun o => (h.alloc o).mb.cell 1
    have d0 := h.mb.cell 0
    have d1 := h.mb.cell 1
    simp only [List.getElem?_toArray, List.getElem?_cons_succ, List.getElem?_cons_zero] at c0 c1 d0 d1
    have qq := fun o => HCELL.out _ (h.alloc o).bel i _ hat.star.1
    have HN : Hid (Blk (((w.setCell ⟨M, 1, none⟩ (.int .i64 ((i : Int) + 1))).alloc (.cells #[.int .i64 5, .int .u64 ((0 : Nat) : Int), .int .u64 ((0 : Nat) : Int), .int .u64 ((0 : Nat) : Int), .int .u64 ((0 : Nat) : Int)] 69)).drew) w.heap.size 69 #[.int .i64 5, .int .u64 ((0 : Nat) : Int), .int .u64 ((0 : Nat) : Int), .int .u64 ((0 : Nat) : Int), .int .u64 ((0 : Nat) : Int)]) := Lib.hid (blk_at _ _ (by simp) _ _)
    have H := Lib.hid (((h.at_ (i + 1) ((i : Int) + 1) (by simp)).alloc (.cells #[.int .i64 5, .int .u64 ((0 : Nat) : Int), .int .u64 ((0 : Nat) : Int), .int .u64 ((0 : Nat) : Int), .int .u64 ((0 : Nat) : Int)] 69)).drew)
    have HF := Lib.hid ((Fm.setM M w 1 (.int .i64 ((i : Int) + 1))).trans (Fm.below (M := M) (((Below.refl _ _).alloc (Nat.le_refl _) (.cells #[.int .i64 5, .int .u64 ((0 : Nat) : Int), .int .u64 ((0 : Nat) : Int), .int .u64 ((0 : Nat) : Int), .int .u64 ((0 : Nat) : Int)] 69)).drew)))
    obtain ⟨q0, q1, q2, q3, q4⟩ := HCELL.out _ h.bel i _ hat.star.1
    have r0 := fun o => (qq o).1
    have r1 := fun o => (qq o).2.1
    have r2 := fun o => (qq o).2.2.1
    have r3 := fun o => (qq o).2.2.2.1
    have r4 := fun o => (qq o).2.2.2.2
    dsimp only [zc] at q0 q1 q2 q3 q4 r0 r1 r2 r3 r4
    have z1 := fun o => (h.alloc o).mb.frozen 1
    have hMw := h.mb.lt
    clear h qq hat
    go_enter Tryd.func77, Tryd.ntmps77
    go_wp2_with fail
    go_region
    go_wp2_with fail
    refine (next_any _ _ _ _ _ _ _ _ _ _ H.out).mono ?_
    rintro e w1 ⟨rfl, rfl⟩
    have n0 := HN.out.cell 0
    simp only [List.getElem?_toArray, List.getElem?_cons_succ, List.getElem?_cons_zero] at n0
    have HG1 := Lib.hid (Fm.refl M ((w.setCell ⟨M, 1, none⟩ (.int .i64 ((i : Int) + 1))).alloc (.cells #[.int .i64 5, .int .u64 ((0 : Nat) : Int), .int .u64 ((0 : Nat) : Int), .int .u64 ((0 : Nat) : Int), .int .u64 ((0 : Nat) : Int)] 69)).drew)
    go_wp2_with fail
    refine (emit_any _ _ _ _ _ _ _ S _ 2 ((S.length : Int) + 1) 0 0 0 0 0 _ (by omega) H.out).mono ?_
    rintro e w2 ⟨rfl, v2, henv, hfm⟩
    obtain ⟨S2, hS2⟩ : ∃ X, X = S ++ [⟨2, (0, 0, 0, 0), (S.length : Int) + 1, 0⟩] := ⟨_, rfl⟩
    have HS2 := Lib.hid hS2
    have HL2 : Hid (S2.length = S.length + 1) := Lib.hid (by rw [hS2]; simp [code_len]; try omega)
    rw [← hS2] at henv
    clear hS2
    have hB2 : S2.length ≤ 1000 := by have := HL2.out; first | omega | (have := HL2.out; omega) | (have := HL2.out; have := HL3.out; omega) | (have := HL2.out; have := HL3.out; have := HL4.out; omega)
    have HE2 := Lib.hid henv
    have HG2 := Lib.hid (HG1.out.trans hfm)
    clear henv hfm
    go_wp2_with fail
    refine (HIA.out (i + 1) S2 _ _ HAT.out.star.2 (by have := HL2.out; omega) HE2.out).mono ?_
    rintro e w3 ⟨rfl, v3, henv, hfm⟩
    obtain ⟨S3, hS3⟩ : ∃ X, X = S2 ++ code a S2.length := ⟨_, rfl⟩
    have HS3 := Lib.hid hS3
    have HL3 : Hid (S3.length = S.length + 1 + sz a) := Lib.hid (by rw [hS3]; simp [code_len, HL2.out]; try omega)
    rw [← hS3] at henv
    clear hS3
    have hB3 : S3.length ≤ 1000 := by have := HL3.out; first | omega | (have := HL2.out; omega) | (have := HL2.out; have := HL3.out; omega) | (have := HL2.out; have := HL3.out; have := HL4.out; omega)
    have HE3 := Lib.hid henv
    have HG3 := Lib.hid (HG2.out.trans hfm)
    clear henv hfm
    have n0' := (Blk.fm HN.out HG3.out (by decide) (by omega)).cell 0
    simp only [List.getElem?_toArray, List.getElem?_cons_succ, List.getElem?_cons_zero] at n0'
    go_wp2_with fail
    refine (next_any _ _ _ _ _ _ _ _ _ _ HE3.out).mono ?_
    rintro e w3' ⟨rfl, rfl⟩
    go_wp2_with fail
    refine (emit_any _ _ _ _ _ _ _ S3 _ 2 ((S.length : Int) + 1) ((S3.length : Int) + 1) 0 0 0 0 _ (by have := HL3.out; omega) HE3.out).mono ?_
    rintro e w4 ⟨rfl, v4, henv, hfm⟩
    obtain ⟨S4, hS4⟩ : ∃ X, X = S3 ++ [⟨2, (0, 0, 0, 0), (S.length : Int) + 1, (S3.length : Int) + 1⟩] := ⟨_, rfl⟩
    have HS4 := Lib.hid hS4
    have HL4 : Hid (S4.length = S3.length + 1) := Lib.hid (by rw [hS4]; simp [code_len]; try omega)
    rw [← hS4] at henv
    clear hS4
    have hB4 : S4.length ≤ 1000 := by have := HL4.out; first | omega | (have := HL2.out; omega) | (have := HL2.out; have := HL3.out; omega) | (have := HL2.out; have := HL3.out; have := HL4.out; omega)
    have HE4 := Lib.hid henv
    have HG4 := Lib.hid (HG3.out.trans hfm)
    clear henv hfm
    obtain ⟨g, c, rfl⟩ := HE4.out.form (by have := HL4.out; have := HL3.out; omega)
    obtain ⟨a1, a2, a3, a4, a5, a6⟩ := HE4.out.step
    have hk : S4[S.length]? = some ⟨2, (0, 0, 0, 0), (S.length : Int) + 1, 0⟩ := by rw [HS4.out, HS3.out, HS2.out]; simp
    obtain ⟨b5, b6⟩ := a6 _ _ hk
    have z6 := a5 (S.length * 7 + 6)
    have z5 := a5 (S.length * 7 + 5)
    have m2 := HE4.out.mb.cell 2
    simp only [List.getElem?_toArray, List.getElem?_cons_succ, List.getElem?_cons_zero] at m2
    have i1 : ((S.length : Nat) : Int) < (S4.length : Int) := by have := HL4.out; have := HL3.out; omega
    have i0 : (0 : Int) ≤ ((S.length : Nat) : Int) := by omega
    have HK := Lib.hid hk
    clear a5 a6 hk
    go_wp2_with fail
    have m2a : w4.drew.cell? ⟨M, 2, none⟩ = some (.slice (some ⟨g, 0, none⟩) S4.length c) := m2
    have m2b : ∀ u, (w4.drew.setCell ⟨g, S.length * 7 + 6, none⟩ u).cell? ⟨M, 2, none⟩ = some (.slice (some ⟨g, 0, none⟩) S4.length c) := fun u => (World.cell?_setCell_other _ _ _ _ (by simp <;> omega)).trans m2
    have HNX := Lib.hid (next_any _ _ _ _ _ _ _ S4 (.slice (some ⟨g, 0, none⟩) S4.length c) _ HE4.out.drew)
    go_region_held3 (fun w' => w'.cell? ⟨M, 2, none⟩ = some (.slice (some ⟨g, 0, none⟩) S4.length c)) (first | exact m2a | exact m2b _) (first | (go_at_call 99; refine HNX.out.mono ?_; rintro e w' ⟨rfl, rfl⟩))
    clear m2a m2b
    all_goals (
      go_wp2_with fail
      go_end0
      exact ⟨rfl, _, (by first | exact (HE4.out.drew.setY HK.out (S4.length : Int)).cast rfl rfl | exact ((HE4.out.setY HK.out (S4.length : Int)).drew).cast rfl rfl : MEnv _ _ _ _ _ _ _ (S4.set S.length ⟨2, (0, 0, 0, 0), (S.length : Int) + 1, (S4.length : Int)⟩) _ _).cast (by simp [flat] <;> omega) (by rw [HL4.out, HL3.out, HS4.out, HL3.out, HS3.out, HS2.out, List.append_assoc (S ++ [_]), set_mid]; simp [code, zc]), HF.out.trans ((HG4.out.trans (Fm.below (Below.refl _ _).drew)).trans (Fm.row HE4.out.drew.row _ _))⟩)
  | alt a b iha ihb =>
    intro i S v w hat hS h
    have hlt := hat.lt
    have HIA := Lib.hid iha
    have HIB := Lib.hid ihb
    have HAT := Lib.hid hat
    simp only [sz] at hS
    clear iha ihb
    have hpos := flat_pos (.alt a b)
    have hil : (i : Int) < (l.length : Int) := by omega
    have hi0 : (0 : Int) ≤ (i : Int) := by omega
    have c0 := fun o => (h.alloc o).mb.cell 0
    have c1 := fun o => (h.alloc o).mb.cell 1
    have d0 := h.mb.cell 0
    have d1 := h.mb.cell 1
    simp only [List.getElem?_toArray, List.getElem?_cons_succ, List.getElem?_cons_zero] at c0 c1 d0 d1
    have qq := fun o => HCELL.out _ (h.alloc o).bel i _ hat.alt.1
    have HN : Hid (Blk (((w.setCell ⟨M, 1, none⟩ (.int .i64 ((i : Int) + 1))).alloc (.cells #[.int .i64 4, .int .u64 ((0 : Nat) : Int), .int .u64 ((0 : Nat) : Int), .int .u64 ((0 : Nat) : Int), .int .u64 ((0 : Nat) : Int)] 69)).drew) w.heap.size 69 #[.int .i64 4, .int .u64 ((0 : Nat) : Int), .int .u64 ((0 : Nat) : Int), .int .u64 ((0 : Nat) : Int), .int .u64 ((0 : Nat) : Int)]) := Lib.hid (blk_at _ _ (by simp) _ _)
    have H := Lib.hid (((h.at_ (i + 1) ((i : Int) + 1) (by simp)).alloc (.cells #[.int .i64 4, .int .u64 ((0 : Nat) : Int), .int .u64 ((0 : Nat) : Int), .int .u64 ((0 : Nat) : Int), .int .u64 ((0 : Nat) : Int)] 69)).drew)
    have HF := Lib.hid ((Fm.setM M w 1 (.int .i64 ((i : Int) + 1))).trans (Fm.below (M := M) (((Below.refl _ _).alloc (Nat.le_refl _) (.cells #[.int .i64 4, .int .u64 ((0 : Nat) : Int), .int .u64 ((0 : Nat) : Int), .int .u64 ((0 : Nat) : Int), .int .u64 ((0 : Nat) : Int)] 69)).drew)))
    obtain ⟨q0, q1, q2, q3, q4⟩ := HCELL.out _ h.bel i _ hat.alt.1
    have r0 := fun o => (qq o).1
    have r1 := fun o => (qq o).2.1
    have r2 := fun o => (qq o).2.2.1
    have r3 := fun o => (qq o).2.2.2.1
    have r4 := fun o => (qq o).2.2.2.2
    dsimp only [zc] at q0 q1 q2 q3 q4 r0 r1 r2 r3 r4
    have z1 := fun o => (h.alloc o).mb.frozen 1
    have hMw := h.mb.lt
    clear h qq hat
    go_enter Tryd.func77, Tryd.ntmps77
    go_wp2_with fail
    go_region
    go_wp2_with fail
    refine (next_any _ _ _ _ _ _ _ _ _ _ H.out).mono ?_
    rintro e w1 ⟨rfl, rfl⟩
    have n0 := HN.out.cell 0
    simp only [List.getElem?_toArray, List.getElem?_cons_succ, List.getElem?_cons_zero] at n0
    have HG1 := Lib.hid (Fm.refl M ((w.setCell ⟨M, 1, none⟩ (.int .i64 ((i : Int) + 1))).alloc (.cells #[.int .i64 4, .int .u64 ((0 : Nat) : Int), .int .u64 ((0 : Nat) : Int), .int .u64 ((0 : Nat) : Int), .int .u64 ((0 : Nat) : Int)] 69)).drew)
    go_wp2_with fail
    refine (emit_any _ _ _ _ _ _ _ S _ 2 ((S.length : Int) + 1) 0 0 0 0 0 _ (by omega) H.out).mono ?_
    rintro e w2 ⟨rfl, v2, henv, hfm⟩
    obtain ⟨S2, hS2⟩ : ∃ X, X = S ++ [⟨2, (0, 0, 0, 0), (S.length : Int) + 1, 0⟩] := ⟨_, rfl⟩
    have HS2 := Lib.hid hS2
    have HL2 : Hid (S2.length = S.length + 1) := Lib.hid (by rw [hS2]; simp [code_len]; try omega)
    rw [← hS2] at henv
    clear hS2
    have hB2 : S2.length ≤ 1000 := by have := HL2.out; first | omega | (have := HL2.out; omega) | (have := HL2.out; have := HL3.out; omega) | (have := HL2.out; have := HL3.out; have := HL4.out; omega)
    have HE2 := Lib.hid henv
    have HG2 := Lib.hid (HG1.out.trans hfm)
    clear henv hfm
    go_wp2_with fail
    refine (HIA.out (i + 1) S2 _ _ HAT.out.alt.2.1 (by have := HL2.out; omega) HE2.out).mono ?_
    rintro e w3 ⟨rfl, v3, henv, hfm⟩
    obtain ⟨S3, hS3⟩ : ∃ X, X = S2 ++ code a S2.length := ⟨_, rfl⟩
    have HS3 := Lib.hid hS3
    have HL3 : Hid (S3.length = S.length + 1 + sz a) := Lib.hid (by rw [hS3]; simp [code_len, HL2.out]; try omega)
    rw [← hS3] at henv
    clear hS3
    have hB3 : S3.length ≤ 1000 := by have := HL3.out; first | omega | (have := HL2.out; omega) | (have := HL2.out; have := HL3.out; omega) | (have := HL2.out; have := HL3.out; have := HL4.out; omega)
    have HE3 := Lib.hid henv
    have HG3 := Lib.hid (HG2.out.trans hfm)
    clear henv hfm
    go_wp2_with fail
    refine (emit_any _ _ _ _ _ _ _ S3 _ 2 0 0 0 0 0 0 _ (by have := HL3.out; omega) HE3.out).mono ?_
    rintro e w4 ⟨rfl, v4, henv, hfm⟩
    obtain ⟨S4, hS4⟩ : ∃ X, X = S3 ++ [⟨2, (0, 0, 0, 0), 0, 0⟩] := ⟨_, rfl⟩
    have HS4 := Lib.hid hS4
    have HL4 : Hid (S4.length = S3.length + 1) := Lib.hid (by rw [hS4]; simp [code_len]; try omega)
    rw [← hS4] at henv
    clear hS4
    have hB4 : S4.length ≤ 1000 := by have := HL4.out; first | omega | (have := HL2.out; omega) | (have := HL2.out; have := HL3.out; omega) | (have := HL2.out; have := HL3.out; have := HL4.out; omega)
    have HE4 := Lib.hid henv
    have HG4 := Lib.hid (HG3.out.trans hfm)
    clear henv hfm
    obtain ⟨g, c, rfl⟩ := HE4.out.form (by have := HL4.out; have := HL3.out; omega)
    obtain ⟨a1, a2, a3, a4, a5, a6⟩ := HE4.out.step
    have hk : S4[S.length]? = some ⟨2, (0, 0, 0, 0), (S.length : Int) + 1, 0⟩ := by rw [HS4.out, HS3.out, HS2.out]; simp
    obtain ⟨b5, b6⟩ := a6 _ _ hk
    have z6 := a5 (S.length * 7 + 6)
    have z5 := a5 (S.length * 7 + 5)
    have m2 := HE4.out.mb.cell 2
    simp only [List.getElem?_toArray, List.getElem?_cons_succ, List.getElem?_cons_zero] at m2
    have i1 : ((S.length : Nat) : Int) < (S4.length : Int) := by have := HL4.out; have := HL3.out; omega
    have i0 : (0 : Int) ≤ ((S.length : Nat) : Int) := by omega
    have HK := Lib.hid hk
    clear a5 a6 hk
    go_wp2_with fail
    have m2a : w4.drew.cell? ⟨M, 2, none⟩ = some (.slice (some ⟨g, 0, none⟩) S4.length c) := m2
    have m2b : ∀ u, (w4.drew.setCell ⟨g, S.length * 7 + 6, none⟩ u).cell? ⟨M, 2, none⟩ = some (.slice (some ⟨g, 0, none⟩) S4.length c) := fun u => (World.cell?_setCell_other _ _ _ _ (by simp <;> omega)).trans m2
    have HNX := Lib.hid (next_any _ _ _ _ _ _ _ S4 (.slice (some ⟨g, 0, none⟩) S4.length c) _ HE4.out.drew)
    go_region_held3 (fun w' => w'.cell? ⟨M, 2, none⟩ = some (.slice (some ⟨g, 0, none⟩) S4.length c)) (first | exact m2a | exact m2b _) (first | (go_at_call 99; refine HNX.out.mono ?_; rintro e w' ⟨rfl, rfl⟩))
    clear m2a m2b
    all_goals (
      obtain ⟨S5, hS5⟩ : ∃ X, X = S4.set S.length ⟨2, (0, 0, 0, 0), (S.length : Int) + 1, (S4.length : Int)⟩ := ⟨_, rfl⟩
      have HS5 := Lib.hid hS5
      have HL5 : Hid (S5.length = S4.length) := Lib.hid (by rw [hS5]; simp)
      have he5 := HE4.out.drew.setY HK.out (S4.length : Int)
      rw [← hS5] at he5
      have HE5 := Lib.hid he5
      have HG5 := Lib.hid ((HG4.out.trans (Fm.below (Below.refl _ _).drew)).trans (Fm.row (M := M) HE4.out.drew.row (S.length * 7 + 6) (.int .i64 (S4.length : Int))))
      clear hS5 he5 b5 b6 z5 z6 m2 a1 a2 a3 a4 i0 i1
      go_wp2_with fail
      refine (HIB.out (i + 1 + (flat a).length) S5 _ _ HAT.out.alt.2.2 (by have := HL5.out; have := HL4.out; have := HL3.out; omega) HE5.out).mono ?_
      rintro e w6 ⟨rfl, v6, henv, hfm⟩
      obtain ⟨S6, hS6⟩ : ∃ X, X = S5 ++ code b S5.length := ⟨_, rfl⟩
      have HS6 := Lib.hid hS6
      have HL6 : Hid (S6.length = S.length + 2 + sz a + sz b) := Lib.hid (by have := HL5.out; have := HL4.out; have := HL3.out; rw [hS6]; simp [code_len]; omega)
      rw [← hS6] at henv
      clear hS6
      have hB6 : S6.length ≤ 1000 := by have := HL6.out; omega
      have HE6 := Lib.hid henv
      have HG6 := Lib.hid (HG5.out.trans hfm)
      clear henv hfm
      obtain ⟨g', c', rfl⟩ := HE6.out.form (by have := HL6.out; omega)
      obtain ⟨a1, a2, a3, a4, a5, a6⟩ := HE6.out.step
      have hk : S6[S3.length]? = some ⟨2, (0, 0, 0, 0), 0, 0⟩ := by
        have h3 := HL3.out
        rw [HS6.out, List.getElem?_append_left (by have := HL5.out; have := HL4.out; omega), HS5.out, List.getElem?_set_ne (by omega), HS4.out]
        simp
      obtain ⟨b5, b6⟩ := a6 _ _ hk
      have z6 := a5 (S3.length * 7 + 6)
      have z5 := a5 (S3.length * 7 + 5)
      have b6' : ∀ u, (w6.drew.setCell ⟨g', S3.length * 7 + 5, none⟩ u).cell? ⟨g', S3.length * 7 + 6, none⟩ = some (.int .i64 0) := fun u => (World.cell?_setCell_other _ _ _ _ (by simp)).trans b6
      have b5' : ∀ u, (w6.drew.setCell ⟨g', S3.length * 7 + 6, none⟩ u).cell? ⟨g', S3.length * 7 + 5, none⟩ = some (.int .i64 0) := fun u => (World.cell?_setCell_other _ _ _ _ (by simp)).trans b5
      have m2 := HE6.out.mb.cell 2
      simp only [List.getElem?_toArray, List.getElem?_cons_succ, List.getElem?_cons_zero] at m2
      have i1 : ((S3.length : Nat) : Int) < (S6.length : Int) := by have := HL6.out; have := HL3.out; omega
      have i0 : (0 : Int) ≤ ((S3.length : Nat) : Int) := by omega
      have HK6 := Lib.hid hk
      clear a5 a6 hk
      go_wp2_with fail
      have m2a : w6.drew.cell? ⟨M, 2, none⟩ = some (.slice (some ⟨g', 0, none⟩) S6.length c') := m2
      have m2b : ∀ u, (w6.drew.setCell ⟨g', S3.length * 7 + 5, none⟩ u).cell? ⟨M, 2, none⟩ = some (.slice (some ⟨g', 0, none⟩) S6.length c') := fun u => (World.cell?_setCell_other _ _ _ _ (by simp <;> omega)).trans m2
      have m2c : ∀ u u', ((w6.drew.setCell ⟨g', S3.length * 7 + 5, none⟩ u).setCell ⟨g', S3.length * 7 + 6, none⟩ u').cell? ⟨M, 2, none⟩ = some (.slice (some ⟨g', 0, none⟩) S6.length c') := fun u u' => (World.cell?_setCell_other _ _ _ _ (by simp <;> omega)).trans (m2b u)
      have HNX6 := Lib.hid (next_any _ _ _ _ _ _ _ S6 (.slice (some ⟨g', 0, none⟩) S6.length c') _ HE6.out.drew)
      go_region_held3 (fun w' => w'.cell? ⟨M, 2, none⟩ = some (.slice (some ⟨g', 0, none⟩) S6.length c')) (first | exact m2a | exact m2b _ | exact m2c _ _) (first | (go_at_call 99; refine HNX6.out.mono ?_; rintro e w' ⟨rfl, rfl⟩))
      all_goals (
        go_wp2_with fail
        go_end0
        exact ⟨rfl, _, (by first | exact (HE6.out.drew.setXY HK6.out (S6.length : Int) (S6.length : Int)).cast rfl rfl | exact ((HE6.out.setXY HK6.out (S6.length : Int) (S6.length : Int)).drew).cast rfl rfl : MEnv _ _ _ _ _ _ _ (S6.set S3.length ⟨2, (0, 0, 0, 0), (S6.length : Int), (S6.length : Int)⟩) _ _).cast (by simp [flat] <;> omega) (alt_list HS2.out HS3.out HS4.out HS5.out HS6.out HL3.out HL4.out HL6.out), HF.out.trans ((HG6.out.trans (Fm.below (Below.refl _ _).drew)).trans ((Fm.row HE6.out.drew.row _ _).trans (Fm.row (by obtain ⟨cur, hc⟩ := HE6.out.drew.row; exact ⟨_, hc.set_ _ _⟩) _ _)))⟩))

end Go.Proofs.YthcahjnniendnabDoor

/-
  The walk of prog.Of.
-/
namespace Go.Proofs.YthcahjnniendnabDoor
open Go.RowKit Wf

def OfIs (t : Rx) (w : World) (e : Ending) (w' : World) : Prop :=
  ∃ g cap, e = .returned (.tuple #[.slice (some ⟨g, 0, none⟩) (progL t).length cap, .nilIface]) ∧ RdS w' (.slice (some ⟨g, 0, none⟩) (progL t).length cap) (progL t) ∧ (w.heap.size ≤ g ∧ Below w.heap.size w w')
def OfNo (l : List Nd) (w : World) (e : Ending) (w' : World) : Prop := e = .returned (.tuple #[.slice none 0 0, errV (chk l)]) ∧ Below w.heap.size w w'

set_option maxRecDepth 100000 in
set_option maxHeartbeats 4000000 in
theorem Of_no (l : List Nd) (v : Value) (w : World) (hr : RdN w v l) (hc : chk l ≠ 0) : Calls Tryd.prog 45 #[v] w (OfNo l w) := by
  obtain ⟨A, cap, rfl, hcap, hcap2, hmem⟩ := hr.open_
  have HR := Lib.hid hr
  have HE := Lib.hid (errV_ne hc)
  clear hmem hr hc
  go_enter Tryd.func45, Tryd.ntmps45
  go_wp2_with fail
  refine (Check_any l _ _ HR.out).mono ?_
  rintro e w1 ⟨rfl, hb1⟩
  rw [HE.out]
  go_wp2_with fail
  go_ret2
  exact ⟨by rw [HE.out]; rfl, hb1⟩

set_option maxRecDepth 100000 in
set_option maxHeartbeats 4000000 in
theorem Of_ok (l : List Nd) (t : Rx) (hl : l = flat t) (v : Value) (w : World) (ht : l.length ≤ 60) (hr : RdN w v l) : Calls Tryd.prog 45 #[v] w (OfIs t w) := by
  obtain ⟨A, cap, rfl, hcap, hcap2, hmem⟩ := hr.open_
  have hpos : 0 < l.length := by rw [hl]; exact flat_pos t
  have hchk : chk l = 0 := by rw [hl]; exact chk_flat t (by rw [← hl]; exact ht)
  obtain ⟨b, off, rfl, hbl, hcells⟩ := hmem hpos
  have hwhole : At l 0 t := by rw [hl]; exact At.whole t
  have hsz := sz_le t
  rw [← hl] at hsz
  have HMK := Lib.hid (fun (w1 : World) (h1 : Below w.heap.size w w1) (M : Nat) (v : Value) (W : World) (h : MEnv w1 b off l.length cap M 0 [] v W) => make_all w1 l b off cap M ht hcap hcap2 (fun w' hb k n hk => hcells w' (fun o => (h1.trans (hb.mono h1.size)).cell (p := ⟨b, o, none⟩) hbl) k n hk) t 0 [] v W hwhole (by simp; omega) h)
  have HR := Lib.hid hr
  have HC := Lib.hid hchk
  have HPL := Lib.hid (progL_len t)
  have HS2 : Hid (∀ (g c : Nat), RdS w (.slice (some ⟨g, 0, none⟩) (progL t).length c) (progL t) → True) := Lib.hid (fun _ _ _ => trivial)
  clear hr hchk hcells hwhole hl hmem
  go_enter Tryd.func45, Tryd.ntmps45
  go_wp2_with fail
  refine (Check_any l _ _ HR.out).mono ?_
  rintro e w1 ⟨rfl, hb1⟩
  rw [HC.out, errV_zero]
  have henv : MEnv w1 b off l.length cap w1.heap.size 0 [] (.slice none 0 0) (w1.alloc (.cells #[.slice (some ⟨b, off, none⟩) l.length cap, .int .i64 0, .slice none 0 0] 135)) :=
    ⟨Blk.new w1 _ _, World.ownsRow_nil _ _ _ _, (Below.refl _ _).alloc (Nat.le_refl _) _, Nat.le_refl _⟩
  have HENV := Lib.hid henv
  have HB := Lib.hid hb1
  clear henv hb1
  go_wp2_with fail
  refine (HMK.out w1 HB.out _ _ _ HENV.out).mono ?_
  rintro e w2 ⟨rfl, v2, henv2, _⟩
  obtain ⟨S2, hS2⟩ : ∃ X, X = [] ++ code t ([] : List St).length := ⟨_, rfl⟩
  have HSC : Hid (S2 = code t 0) := Lib.hid (by rw [hS2]; rfl)
  rw [← hS2] at henv2
  clear hS2
  have hB2 : S2.length ≤ 1000 := by rw [HSC.out, code_len]; omega
  have HENV2 := Lib.hid henv2
  clear henv2
  go_wp2_with fail
  refine (emit_any _ _ _ _ _ _ _ S2 v2 5 0 0 0 0 0 0 _ hB2 HENV2.out).mono ?_
  rintro e w3 ⟨rfl, v3, henv3, _⟩
  obtain ⟨P, hP⟩ : ∃ X, X = S2 ++ [(⟨5, (0, 0, 0, 0), 0, 0⟩ : St)] := ⟨_, rfl⟩
  have HP : Hid (P = progL t) := Lib.hid (by rw [hP, HSC.out]; rfl)
  rw [← hP] at henv3
  clear hP
  obtain ⟨g, c, rfl⟩ := henv3.form (by rw [HP.out, HPL.out]; omega)
  have m2 := henv3.mb.cell 2
  simp only [List.getElem?_toArray, List.getElem?_cons_succ, List.getElem?_cons_zero] at m2
  have HENV3 := Lib.hid henv3
  clear henv3
  go_wp2_with fail
  go_ret2
  refine ⟨g, c, ?_, ?_, Nat.le_trans HB.out.size (Nat.le_of_lt HENV3.out.step.1), HB.out.trans (HENV3.out.bel.mono HB.out.size)⟩
  · rw [← HP.out]; rfl
  · rw [← HP.out]; exact Rd.of_own HENV3.out.own

end Go.Proofs.YthcahjnniendnabDoor

/-
  The walk of sim's Front.Go.
-/
namespace Go.Proofs.YthcahjnniendnabDoor
open Go.RowKit Wf

theorem own_below {w w' : World} {base size n : Nat} {e : TypeId} {v : Value} {xs : List Value} (h : w.ownsRow base e size v n xs) (hb : Below w.heap.size w w') : w'.ownsRow base e size v n xs :=
  h.kept (row := none) ⟨hb.os, hb.tape, hb.output, hb.size, fun q hq _ => hb.block q hq⟩ (by cases v.ownBlock <;> simp)
theorem below_own {B base n size : Nat} {a w w' : World} {e : TypeId} {v : Value} {xs : List Value} (h : Below B a w) (hB : B ≤ base) (hBw : B ≤ w.heap.size) (ho : w.ownsRow base e size v n xs) (hg : w.grownBy w' v.ownBlock) : Below B a w' :=
  ⟨hg.os.trans h.os, hg.tape.trans h.tape, hg.output.trans h.output, Nat.le_trans h.size hg.size, fun i hi =>
    (hg.block i (by omega) (fun e => by have := (ho.lt i e.symm).1; omega)).trans (h.block i hi)⟩

def GoIs (p : List St) (b : Nat) (L : List Nat) (w : World) (e : Ending) (w' : World) : Prop :=
  ∃ (A : Option Addr) (cap : Nat), e = .returned (.slice A (goL p b L).length cap) ∧ w'.ownsRow (w.heap.size + 1) 3 1 (.slice A (goL p b L).length cap) (goL p b L).length (natVals (goL p b L)) ∧ Below w.heap.size w w'

theorem natVals_snoc' (L : List Nat) (i : Nat) : natVals (L ++ [i]) = natVals L ++ [.int .i64 (i : Int)] := by simp [natVals]

set_option maxRecDepth 100000 in
set_option maxHeartbeats 8000000 in
theorem Go_any (p : List St) (hok : ∀ s ∈ p, okC s.cls) (hx : ∀ s ∈ p, 0 ≤ s.x) (pv : Value) (A : Option Addr) (cap : Nat) (L : List Nat) (d : Bool) (hL : ∀ i ∈ L, i < p.length) (hL2 : L.length ≤ 200) (b : Nat) (hb : b < 256) (w : World) (hr : RdS w pv p)
    (hf : Rd1 w (.slice A L.length cap) (natVals L)) :
    Calls Tryd.prog 56 #[.agg #[.slice A L.length cap, .bool d], pv, .int .u8 (b : Int)] w (GoIs p b L w) := by
  obtain ⟨i0, hi0, hz0, hz1, hz2⟩ := info_parts info_int
  obtain ⟨P, pcap, rfl, hpc, hpc2, hpm⟩ := hr.open_
  obtain ⟨A', cap', hv, hcf, hcf2, hmf⟩ := Rd1.open_ hf
  have hnl : (natVals L).length = L.length := by simp [natVals]
  rw [hnl] at hv hcf hmf
  injection hv with e1 _ e2
  subst e1
  subst e2
  have HPM := Lib.hid hpm
  have HMF := Lib.hid hmf
  have HOK := Lib.hid hok
  have HX := Lib.hid hx
  have HL := Lib.hid hL
  clear hpm hmf hr hf hok hL hx hnl
  go_enter Tryd.func56, Tryd.ntmps56
  go_wp2
  go_loopw [7, 13] (fun v7 v13 wr => ∃ k : Nat, k ≤ L.length ∧ v13 = .int .i64 (k : Int) ∧ Hid (wr.ownsRow (w.heap.size + 1) 3 1 v7 (goL p b (L.take k)).length (natVals (goL p b (L.take k)))) ∧ Hid (Below w.heap.size w wr) ∧ Hid (w.heap.size + 1 ≤ wr.heap.size)) (fun _ i _ => L.length - (intOf i).toNat)
  case atStart => exact ⟨0, by omega, rfl, Lib.hid (World.ownsRow_nil _ _ _ _), Lib.hid ((Below.refl _ _).alloc (Nat.le_refl _) _), Lib.hid (by simp)⟩
  case round =>
    obtain ⟨k, hk, rfl, HO, HB, HSZ⟩ := hrel
    by_cases hlt : k < L.length
    · obtain ⟨bf, of, rfl, hbf, hcf'⟩ := HMF.out (by omega)
      have hi : L[k]? = some (L[k]'hlt) := List.getElem?_eq_getElem hlt
      generalize L[k]'hlt = i at hi
      have hin := HL.out i (List.mem_of_getElem? hi)
      have g0 := hcf' wr (fun o => HB.out.cell (p := ⟨bf, o, none⟩) hbf) k (.int .i64 (i : Int)) (by simp [natVals, hi])
      obtain ⟨pb, po, rfl, hpb, hpcell⟩ := HPM.out (by omega)
      have hs : p[i]? = some (p[i]'hin) := List.getElem?_eq_getElem hin
      generalize p[i]'hin = s at hs
      obtain ⟨_, q1, q2, q3, q4, q5, _⟩ := hpcell wr (fun o => HB.out.cell (p := ⟨pb, o, none⟩) hpb) i s hs
      have hq5 : Hid (∀ w', Below wr.heap.size wr w' → w'.cell? ⟨pb, po + i * 7 + 5, none⟩ = some (.int .i64 s.x)) := Lib.hid fun w' h => (hpcell w' (fun o => (HB.out.trans (h.mono HB.out.size)).cell (p := ⟨pb, o, none⟩) hpb) i s hs).2.2.2.2.2.1
      have hsx := HX.out s (List.mem_of_getElem? hs)
      have hsc := HOK.out s (List.mem_of_getElem? hs)
      have HSN : Hid (goL p b (L.take (k + 1)) = goL p b (L.take k) ++ (if has s.cls b then [s.x.toNat] else [])) := Lib.hid (by rw [take_snoc hi, goL_snoc p b _ i s hs])
      have HLN := Lib.hid (Nat.le_trans (goL_len p b (L.take k)) (by simp; omega : (L.take k).length ≤ 200))
      obtain ⟨op, ⟨c0, c1, c2, c3⟩, x, y⟩ := s
      dsimp only at q1 q2 q3 q4 q5 hq5 hsx hsc
      obtain ⟨xn, rfl⟩ : ∃ n : Nat, x = (n : Int) := ⟨x.toNat, by omega⟩
      have HH := Lib.hid fun W => Has_any c0 c1 c2 c3 b W hsc hb
      have hk1 : (k : Int) < (L.length : Int) := by omega
      have hi1 : (i : Int) < (p.length : Int) := by omega
      clear hs hi hcf' hpcell hsc
      cases hh : has (c0, c1, c2, c3) b with
      | true =>
        have HHH := Lib.hid hh
        clear hh
        have hgl := goL_len p b (L.take k)
        have hgl2 : (goL p b (L.take k)).length ≤ 200 := HLN.out
        generalize hgo : goL p b (L.take k) = go at *
        clear hgo hgl
        go_wp2_with (first
          | (go_at_call 36; refine (HH.out _).mono ?_; rw [show HasIs (c0, c1, c2, c3) b wr = fun e w' => e = .returned (.bool true) ∧ Below wr.heap.size wr w' from by unfold HasIs; rw [HHH.out]]; rintro e w2 ⟨rfl, hb2⟩; have q5' := hq5.out w2 hb2; have HB2 := Lib.hid hb2; have HO2 := Lib.hid (own_below HO.out hb2); clear hb2)
          | (at_builtin; refine wpList_append_own _ rfl (.tmp 24) (.tmp 30) _ rfl (w.heap.size + 1) 3 i0 _ 1 8 Tryd.underlying41 hi0 hz0 hz1 hz2 rfl (by omega) _ go.length (natVals go) rfl (HO2.out.alloc _) ⟨w2.heap.size, 0, none⟩ 1 1 [.int .i64 (xn : Int)] rfl rfl (new_one _ _ _ _ rfl) (by intro u hu; simp at hu; subst hu; rfl) (by unfold maxLen; omega) (by omega) (by have := HSZ.out; have := HB2.out.size; simp; omega) ?_))
        intro v' w' hown' hg' _
        have hbw : Below w.heap.size w (w2.alloc (.cells #[.int .i64 (xn : Int)] 3)) := (HB.out.trans (HB2.out.mono HB.out.size)).alloc (Nat.le_trans HB.out.size HB2.out.size) _
        have HBN := Lib.hid (below_own hbw (Nat.le_succ _) (by have := HB.out.size; have := HB2.out.size; simp; omega) (HO2.out.alloc _) hg')
        have hsx2 : goL p b (L.take (k + 1)) = go ++ [xn] := by rw [HSN.out]; simp [HHH.out]
        have HON : Hid (w'.ownsRow (w.heap.size + 1) 3 1 v' (goL p b (L.take (k + 1))).length (natVals (goL p b (L.take (k + 1))))) := Lib.hid (by rw [hsx2, natVals_snoc']; simpa using hown')
        have HSZN : Hid (w.heap.size + 1 ≤ w'.heap.size) := Lib.hid (by have := HSZ.out; have := HB2.out.size; have := hg'.size; simp at this; omega)
        clear hown' hg' hbw hsx2
        go_wp2
        go_roundw
        case rel => exact ⟨k + 1, by omega, by go_num, HON, HBN, HSZN⟩
        case measure => simp [intOf]; omega
      | false =>
        have HHH := Lib.hid hh
        clear hh
        go_wp2_with (go_at_call 36; refine (HH.out _).mono ?_; rw [show HasIs (c0, c1, c2, c3) b wr = fun e w' => e = .returned (.bool false) ∧ Below wr.heap.size wr w' from by unfold HasIs; rw [HHH.out]]; rintro e w2 ⟨rfl, hb2⟩; have HB2 := Lib.hid hb2; clear hb2)
        have HE : Hid (goL p b (L.take (k + 1)) = goL p b (L.take k)) := Lib.hid (by rw [HSN.out]; simp [HHH.out])
        go_roundw
        case rel =>
          refine ⟨k + 1, by omega, by go_num, ?_, Lib.hid (HB.out.trans (HB2.out.mono HB.out.size)), Lib.hid (Nat.le_trans HSZ.out HB2.out.size)⟩
          rw [HE.out]
          exact Lib.hid (own_below HO.out HB2.out)
        case measure => simp [intOf]; omega
    · obtain rfl : k = L.length := by omega
      have HO2 : Hid (wr.ownsRow (w.heap.size + 1) 3 1 u7 (goL p b L).length (natVals (goL p b L))) := Lib.hid (by have := HO.out; rw [List.take_length] at this; exact this)
      have hrd := HO2.out
      obtain ⟨VA, vn, vcap, rfl, _, _, hvl, _⟩ := Rd.of_own hrd
      obtain rfl : vn = (goL p b L).length := by simp [natVals] at hvl; omega
      have HRD := Lib.hid hrd
      clear hrd hvl HO HO2
      generalize hgl : goL p b L = gl at *
      go_wp2
      go_ret
      refine ⟨VA, vcap, ?_, ?_, HB.out⟩
      · rw [hgl]; rfl
      · rw [hgl]; exact HRD.out

end Go.Proofs.YthcahjnniendnabDoor

/-
  The iterator in sim.ends: what it gives to whatever loop body.
-/
namespace Go.Proofs.YthcahjnniendnabDoor
open Go.RowKit Go.Shelf Wf
attribute [local go_sem] Oper.semAt_some

/-- The row that the variable at block B holds. -/
def ownOf (B : Nat) (w : World) : Option Nat := match w.cell? ⟨B, 0, none⟩ with
  | some v => v.ownBlock
  | none => none

/-- What a round keeps: all cells but the variable at block B and its row. -/
structure Kp (B : Nat) (w w' : World) : Prop where
  os : w'.os = w.os
  tape : w'.tape = w.tape
  output : w'.output = w.output
  size : w.heap.size ≤ w'.heap.size
  kept : ∀ k cs t fr, w.heap[k]? = some (.cells cs t fr) → k ≠ B → ownOf B w ≠ some k → w'.heap[k]? = some (.cells cs t fr)
  own : ∀ g, ownOf B w' = some g → ownOf B w = some g ∨ (w.heap.size ≤ g ∧ g < w'.heap.size)
theorem Kp.refl (B : Nat) (w : World) : Kp B w w := ⟨rfl, rfl, rfl, Nat.le_refl _, fun _ _ _ _ h _ _ => h, fun _ h => .inl h⟩
theorem Kp.trans {B : Nat} {a b c : World} (h : Kp B a b) (k : Kp B b c) : Kp B a c := by
  refine ⟨k.os.trans h.os, k.tape.trans h.tape, k.output.trans h.output, Nat.le_trans h.size k.size, fun j cs t fr hj hB ho => ?_, fun g hg => ?_⟩
  · have hb := h.kept j cs t fr hj hB ho
    refine k.kept j cs t fr hb hB (fun e => ?_)
    rcases h.own j e with e' | ⟨e', _⟩
    · exact ho e'
    · have := (Array.getElem?_eq_some_iff.1 hj).1; omega
  · rcases k.own g hg with e | ⟨e1, e2⟩
    · rcases h.own g e with e' | ⟨e1', e2'⟩
      · exact .inl e'
      · exact .inr ⟨e1', by have := k.size; omega⟩
    · exact .inr ⟨by have := h.size; omega, e2⟩
theorem ownOf_eq {B : Nat} {w w' : World} (h : w'.heap[B]? = w.heap[B]?) : ownOf B w' = ownOf B w := by
  unfold ownOf
  rw [World.cell?_of_block (a := ⟨B, 0, none⟩) h]
theorem Kp.below {B : Nat} {w w' : World} (hB : B < w.heap.size) (h : Below w.heap.size w w') : Kp B w w' :=
  ⟨h.os, h.tape, h.output, h.size, fun k cs t fr hk _ _ => (h.block k (Array.getElem?_eq_some_iff.1 hk).1).trans hk, fun g hg => .inl (by rw [← ownOf_eq (h.block B hB)]; exact hg)⟩
theorem Kp.putObj {B : Nat} {w : World} (hB : B < w.heap.size) (W : World) (l : Nat) (o o' : Obj) (hl : w.heap.size ≤ l) (h : W.heap[l]? = some o) (hc : o.isCells = false) (_ : o.isWalk = false) : Kp B W (W.putObj l o') :=
  ⟨rfl, rfl, rfl, by simp, fun k cs t fr hk _ _ => by
    have : k ≠ l := fun e => by subst e; rw [hk] at h; cases h; simp [Obj.isCells] at hc
    rw [World.putObj_heap_other this]; exact hk, fun g hg => .inl (by rw [← ownOf_eq (World.putObj_heap_other (w := W) (o := o') (by omega : B ≠ l))]; exact hg)⟩
theorem Kp.blk {B : Nat} {w w' : World} {k : Nat} {t : TypeId} {cs : Array Value} (h : Kp B w w') (hb : Blk w k t cs) (hB : k ≠ B) (ho : ownOf B w ≠ some k) : Blk w' k t cs := h.kept k _ _ _ hb hB ho

theorem Kp.cell {B : Nat} {w w' : World} (h : Kp B w w') (ho : ownOf B w = none) {k o : Nat} {u : Value} (hc : w.cell? ⟨k, o, none⟩ = some u) (hk : k ≠ B) : w'.cell? ⟨k, o, none⟩ = some u := by
  unfold World.cell? at hc ⊢
  dsimp only at hc ⊢
  cases hh : w.heap[k]? with
  | none => rw [hh] at hc; simp at hc
  | some ob =>
    rw [hh] at hc
    cases ob with
    | cells cs t fr =>
      rw [h.kept k cs t fr hh hk (by rw [ho]; simp)]
      exact hc
    | _ => simp at hc

theorem RdS.kp {B : Nat} {w w' : World} {l : List St} {b off cap : Nat} (h : RdS w (.slice (some ⟨b, off, none⟩) l.length cap) l) (hk : Kp B w w') (ho : ownOf B w = none) (hb : b ≠ B) : RdS w' (.slice (some ⟨b, off, none⟩) l.length cap) l := by
  obtain ⟨A, n, c, hv, h1, h2, h3, h4⟩ := h
  refine ⟨A, n, c, hv, h1, h2, h3, fun hn => ?_⟩
  obtain ⟨b', off', rfl, hc⟩ := h4 hn
  injection hv with e1 e2 e3
  injection e1 with e1
  injection e1 with e1 e4
  subst e1
  subst e4
  exact ⟨_, _, rfl, fun j u hu => hk.cell ho (hc j u hu) hb⟩

theorem own_kp {B base size n : Nat} {w w' : World} {e : TypeId} {v : Value} {xs : List Value} (h : w.ownsRow base e size v n xs) (hk : Kp B w w') (hB : B < base) (ho : ∀ g, ownOf B w = some g → g < base) : w'.ownsRow base e size v n xs := by
  refine ⟨h.1, ?_⟩
  rcases h.2 with hn | ⟨g, cap, cur, hv, h1, h2, rest⟩
  · exact .inl hn
  · refine .inr ⟨g, cap, cur, hv, h1, hk.kept g _ _ _ h2 (by omega) (fun e => ?_), rest⟩
    have := ho g e
    omega
theorem abides_below {σ : Type} {B : Nat} {J : σ → World → Prop} (hJ : AbidesFrom B J) {s : σ} {w w' : World} (h : J s w) (hb : Below w.heap.size w w') : J s w' :=
  hJ s w w' none h ⟨hb.os, hb.tape, hb.output, hb.size, fun q hq _ => hb.block q hq⟩ (fun r e => by cases e)
theorem kp_new {B : Nat} {w w' : World} (h : Kp B w w') (ho : ownOf B w = none) : ∀ g, ownOf B w' = some g → g < w'.heap.size := by
  intro g hg
  rcases h.own g hg with e | e
  · rw [ho] at e; cases e
  · exact e.2
theorem front_lt {p : List St} (hp : okP p) {f l : Bool} {fs L : List Nat} {d : Bool} (h : Front p f l fs L d) : L.length ≤ 200 ∧ ∀ j ∈ L, j < p.length := by
  have hl : ∀ j ∈ L, j < p.length := fun j hj => by
    obtain ⟨_, s, hs, _⟩ := (h.takes j).1 hj
    exact (List.getElem?_eq_some_iff.1 hs).1
  refine ⟨?_, hl⟩
  have := List.Nodup.length_le_of_subset h.nodup (l₂ := List.range p.length) (fun j hj => by simpa using hl j hj)
  have h2 := hp.2.1
  simp at this
  omega
theorem op_x0 {p : List St} (hp : okP p) (s : St) (h : s ∈ p) : 0 ≤ s.x := by
  have h1 := oneP_zero (hp.2.2 s h)
  by_cases h5 : s.op = 5
  · rw [h1.2.2.2.2.2 h5]; exact Int.le_refl _
  · exact (h1.2.1 h5).1
theorem int_beq (i n : Nat) : ((i : Int) == (n : Int)) = (i == n) := by
  by_cases h : i = n
  · subst h; simp
  · have h1 : (i == n) = false := by simpa using h
    have h2 : ((i : Int) == (n : Int)) = false := by simp; omega
    rw [h1, h2]

end Go.Proofs.YthcahjnniendnabDoor

/-
  Walks of sim's ends, Ends, Longest.
-/
namespace Go.Proofs.YthcahjnniendnabDoor
open Go.RowKit Go.Shelf Wf
attribute [local go_sem] Oper.semAt_some

theorem wpListIn_append_lies {F : Fence} {n : Nat} {P : Program} (w : World) {ops : Array Oper} {rest : List Oper} {o : Oper} {a : Act} {Q : Exit → Act → World → Prop}
    (hg : o.guard = none) (s x : Operand) (t : TypeId) (hop : o.op = Op.call { callee := Callee.builtin Builtin.append, args := #[s, x], argTypes := #[t, t] })
    (base : Nat) (e : TypeId) (i : TypeInfo) (z : Value) (size bytes : Nat) (h1 : P.underlying t = some (.slice e)) (h2 : P.info? e = some i) (h3 : i.zero = some z) (h4 : i.size = size) (h5 : i.bytes = bytes) (h6 : z.cells.size = size) (h7 : 0 < size)
    (v : Value) (k : Nat) (xs : List Value) (hs : a.eval s = v) (hown : w.ownsRow base e size v k xs) (ad : Addr) (m c : Nat) (news : List Value) (hx : a.eval x = .slice (some ad) m c) (hn : news.length = m * size)
    (hc : ∀ j u, news[j]? = some u → w.cell? (ad.add j) = some u) (h1c : ∀ u ∈ news, u.oneCell' = true) (hm : 0 < m) (b1 : k + m ≤ maxLen) (b2 : (k + m) * bytes ≤ 140737488355328) (b3 : base ≤ w.heap.size)
    (hK : ∀ g cap w', w'.ownsRow base e size (.slice (some ⟨g, 0, none⟩) (k + m) cap) (k + m) (xs ++ news) → w.grownBy w' v.ownBlock → (v.ownBlock = some g ∨ g = w.heap.size) → g < w'.heap.size → wpListIn F n P ops Q rest (a.put o.dst (.slice (some ⟨g, 0, none⟩) (k + m) cap)) w') :
    wpListIn F n P ops Q (o :: rest) a w := by
  refine wpListIn_plain hg fun K hK' => ?_
  obtain ⟨g, cap, w', hrun, r1, r2, r3, r4⟩ := run_append_lies (P := P) w t o.type base e i z size bytes h1 h2 h3 h4 h5 h6 h7 v k xs hown ad m c news hn hc h1c hm b1 b2 b3 _ rfl
  unfold Oper.wpIn
  refine ⟨?_, ?_⟩
  · simp [Oper.about, hop, resolve, Target.leads, Sem.run_pure]
  · rw [Oper.semAt_plain F _ _ (by rw [hop]; intro c hc'; cases hc')]
    simp [execOp, hop, resolve, invoke, builtin, hs, hx, hrun, Result.andThen]
    exact hK' _ _ (hK g cap w' r1 r2 r3 r4)

theorem ownOf_box {W : World} {B : Nat} {t : TypeId} {v : Value} (h : Boxed W B t v) : ownOf B W = v.ownBlock := by
  unfold ownOf
  rw [h.cell]
theorem Kp.set_ {W : World} {B : Nat} {t : TypeId} {u v : Value} (hb : Boxed W B t u) (h : v.ownBlock = none) : Kp B W (W.setCell ⟨B, 0, none⟩ v) :=
  ⟨rfl, rfl, rfl, by simp, fun k cs t fr hk hB _ => by rw [Below.heap_setCell _ _ _ k (fun e => hB (by rw [e]))]; exact hk, fun g hg => by
    rw [ownOf_box (hb.set v), h] at hg; cases hg⟩
theorem Kp.append {W w1 : World} {B : Nat} {t e : TypeId} {v : Value} {k m size base g cap : Nat} {xs ys : List Value} {tmp : Obj} (hv : Boxed W B t v) (hte : t ≠ e) (hrow : W.ownsRow base e size v k xs)
    (hgrow : (W.alloc tmp).grownBy w1 v.ownBlock) (hown' : w1.ownsRow base e size (.slice (some ⟨g, 0, none⟩) m cap) m ys) (hat : v.ownBlock = some g ∨ g = (W.alloc tmp).heap.size) (hlt : g < w1.heap.size) : Kp B W (w1.setCell ⟨B, 0, none⟩ (.slice (some ⟨g, 0, none⟩) m cap)) := by
  have hv1 : Boxed w1 B t v := (hv.alloc tmp).kept hgrow (hv.not_row hte hrow)
  refine ⟨by show w1.os = _; rw [hgrow.os]; rfl, by show w1.tape = _; rw [hgrow.tape]; rfl, by show w1.output = _; rw [hgrow.output]; rfl, by have := hgrow.size; simp at this ⊢; omega, fun j cs t' fr hj hB ho => ?_, fun g' hg' => ?_⟩
  · rw [Below.heap_setCell _ _ _ j (fun e => hB (by rw [e]))]
    rw [ownOf_box hv] at ho
    have hjl := (Array.getElem?_eq_some_iff.1 hj).1
    rw [hgrow.block j (by simp; omega) (fun e => ho e.symm), Below.heap_alloc W _ j hjl]
    exact hj
  · rw [ownOf_box (hv1.set _)] at hg'
    obtain rfl : g = g' := by simpa [Value.ownBlock] using hg'
    rw [ownOf_box hv]
    rcases hat with h | h
    · exact .inl h
    · refine .inr ⟨?_, ?_⟩
      · rw [h]; simp
      · simpa using hlt

def EndsRun (xs : List Nat) (w : World) (e : Ending) (w' : World) : Prop := ∃ (A : Option Addr) (cap : Nat), e = .returned (.tuple #[.slice A xs.length cap, .nilIface]) ∧ Rd1 w' (.slice A xs.length cap) (natVals xs) ∧ Below w.heap.size w w'

theorem runL_len (p : List St) (s : List UInt8) (f : Nat) : (runL p s f).length ≤ s.length + 1 := upTo_len _ _

/-- The last of some places; -1 if there is none. -/
def lastL (xs : List Nat) : Int := match xs.getLast? with
  | some x => (x : Int)
  | none => -1
theorem lastL_snoc (xs : List Nat) (x : Nat) : lastL (xs ++ [x]) = (x : Int) := by simp [lastL]

def LongRun (xs : List Nat) (w : World) (e : Ending) (w' : World) : Prop := e = .returned (.tuple #[.int .i64 (lastL xs), .nilIface]) ∧ Below w.heap.size w w'

def EndsRunNo (n : Int) (w : World) (e : Ending) (w' : World) : Prop := e = .returned (.tuple #[.slice none 0 0, errV n]) ∧ Below w.heap.size w w'
def LongRunNo (n : Int) (w : World) (e : Ending) (w' : World) : Prop := e = .returned (.tuple #[.int .i64 0, errV n]) ∧ Below w.heap.size w w'

end Go.Proofs.YthcahjnniendnabDoor

/-
  Plain facts about a text that is fed piece by piece. No program in sight.
-/
namespace Wf
open Go.Proofs.YthcahjnniendnabDoor (goL)

theorem run_pre {p : List St} {s t : List UInt8} {f i j : Nat} (hi : i ≤ s.length) : RunAt p (s ++ t) f i j ↔ RunAt p s f i j := by
  constructor
  · intro h
    induction h with
    | start => exact .start
    | @step i j k x b st h1 h2 h3 h4 h5 h6 h7 ih =>
      have e1 : (i == (s ++ t).length) = (i == s.length) := by
        have a1 : (i == s.length) = false := by simp; omega
        have a2 : (i == (s ++ t).length) = false := by simp; omega
        rw [a1, a2]
      rw [e1] at h2
      exact .step (ih (by omega)) h2 h3 h4 (by rwa [List.getElem?_append_left (by omega)] at h5) h6 h7
  · intro h
    induction h with
    | start => exact .start
    | @step i j k x b st h1 h2 h3 h4 h5 h6 h7 ih =>
      have e1 : (i == (s ++ t).length) = (i == s.length) := by
        have a1 : (i == s.length) = false := by simp; omega
        have a2 : (i == (s ++ t).length) = false := by simp; omega
        rw [a1, a2]
      rw [← e1] at h2
      exact .step (ih (by omega)) h2 h3 h4 (by rwa [List.getElem?_append_left (by omega)]) h6 h7

/-- Fed a text, a feed is at some steps. -/
def Fed (p : List St) (s : List UInt8) (fs : List Nat) : Prop := AtL p s 0 s.length fs
theorem Fed.first (p : List St) : Fed p [] [0] := AtL.start p [] 0
theorem Fed.byte {p : List St} (hp : okP p) {s : List UInt8} {fs L : List Nat} {d : Bool} {b : UInt8} (h : Fed p s fs) (hf : Front p (s.length == 0) false fs L d) : Fed p (s ++ [b]) (goL p b.toNat L) := by
  have h1 : AtL p (s ++ [b]) 0 s.length fs := fun j => (h j).trans (run_pre (Nat.le_refl _)).symm
  have e1 : (s.length == (s ++ [b]).length) = false := by simp
  have := AtL.next hp (Nat.zero_le _) h1 (by rw [e1]; exact hf) (b := b) (by simp)
  show AtL p (s ++ [b]) 0 (s ++ [b]).length _
  rw [List.length_append]
  exact this
theorem Fed.yes {p : List St} {s : List UInt8} {fs L : List Nat} {d : Bool} (h : Fed p s fs) (hf : Front p (s.length == 0) true fs L d) : d = true ↔ EndsAt p s 0 s.length := by
  have hf2 : Front p (s.length == 0) (s.length == s.length) fs L d := by rw [show (s.length == s.length) = true by simp]; exact hf
  exact AtL.done h hf2
theorem Fed.dead {p : List St} {s : List UInt8} (h : Fed p s []) {t : List UInt8} {fs : List Nat} (h' : Fed p (s ++ t) fs) : fs = [] ∧ ¬ EndsAt p (s ++ t) 0 (s ++ t).length := by
  have h1 : AtL p (s ++ t) 0 s.length [] := fun j => (h j).trans (run_pre (Nat.le_refl _)).symm
  have hn := AtL.none (Nat.zero_le _) h1 (s ++ t).length (by simp)
  refine ⟨?_, ?_⟩
  · cases fs with
    | nil => rfl
    | cons a r => exact absurd ((h' a).1 (by simp)) (hn a)
  · rintro ⟨j, k, hj, _⟩
    exact hn j hj
theorem Fed.lt {p : List St} (hp : okP p) {s : List UInt8} {fs : List Nat} (h : Fed p s fs) : ∀ i ∈ fs, i < p.length := fun i hi => ((h i).1 hi).lt hp

end Wf

/-
  Walks of package feed.
-/
namespace Go.Proofs.YthcahjnniendnabDoor
open Go.RowKit Wf

theorem Rd.grown {w w' : World} {size n cap : Nat} {A : Option Addr} {xs : List Value} {row : Option Nat} (h : Rd w size (.slice A n cap) xs) (hg : w.grownBy w' row) (hA : ∀ a, A = some a → row ≠ some a.block) : Rd w' size (.slice A n cap) xs := by
  obtain ⟨A', n', cap', hv, h1, h2, h3, h4⟩ := h
  injection hv with e1 e2 e3
  subst e1
  subst e2
  subst e3
  refine ⟨A, n, cap, rfl, h1, h2, h3, fun hn => ?_⟩
  obtain ⟨b, off, rfl, hc⟩ := h4 hn
  refine ⟨b, off, rfl, fun j u hu => ?_⟩
  have h5 := hc j u hu
  have hlt := World.block_lt_of_cell? w _ h5
  rw [World.cell?_of_block (hg.block b hlt (fun e => hA _ rfl e.symm))]
  exact h5

/-- A feed at block F: the program p; fed the text s, it is at the steps fs. Fs: blocks of feeds: its rows are none of them. -/
structure FdE (Fs : List Nat) (p : List St) (s : List UInt8) (fs : List Nat) (F b off cp : Nat) (A : Option Addr) (ca : Nat) (w : World) : Prop where
  bx : Blk w F 98 #[.slice (some ⟨b, off, none⟩) p.length cp, .slice A fs.length ca, .int .i64 (s.length : Int)]
  rp : RdS w (.slice (some ⟨b, off, none⟩) p.length cp) p
  ra : Rd1 w (.slice A fs.length ca) (natVals fs)
  hb : b ∉ Fs
  ha : ∀ a, A = some a → a.block ∉ Fs
  fed : Fed p s fs
  hF : F ∈ Fs
section
variable {Fs : List Nat} {p : List St} {s : List UInt8} {fs : List Nat} {F b off cp : Nat} {A : Option Addr} {ca : Nat} {w w' : World}
theorem FdE.below (h : FdE Fs p s fs F b off cp A ca w) (hb : Below w.heap.size w w') : FdE Fs p s fs F b off cp A ca w' :=
  ⟨h.bx.kept hb, h.rp.below hb, Rd.below h.ra hb, h.hb, h.ha, h.fed, h.hF⟩
theorem FdE.drew (h : FdE Fs p s fs F b off cp A ca w) : FdE Fs p s fs F b off cp A ca w.drew := h.below (Below.refl _ _).drew
theorem FdE.grown {G : Nat} (h : FdE Fs p s fs F b off cp A ca w) (hg : w.grownBy w' (some G)) (hG : G ∈ Fs) (hne : F ≠ G) : FdE Fs p s fs F b off cp A ca w' :=
  ⟨(hg.block F h.bx.lt (fun e => hne (by cases e; rfl))).trans h.bx, Rd.grown h.rp hg (fun a ha e => by cases ha; cases e; exact h.hb hG), Rd.grown h.ra hg (fun a ha e => by cases e; exact h.ha a ha hG), h.hb, h.ha, h.fed, h.hF⟩

end
theorem fd_set (w : World) (F j : Nat) (v : Value) : w.grownBy (w.setCell ⟨F, j, none⟩ v) (some F) :=
  ⟨rfl, rfl, rfl, by simp, fun q hq hne => Below.heap_setCell _ _ _ q (fun e => hne (by rw [e]))⟩
theorem fd_below {w w' : World} (h : Below w.heap.size w w') (row : Option Nat) : w.grownBy w' row := ⟨h.os, h.tape, h.output, h.size, fun q hq _ => h.block q hq⟩
theorem fd_trans {a b c : World} {row : Option Nat} (h : a.grownBy b row) (k : b.grownBy c row) : a.grownBy c row :=
  ⟨k.os.trans h.os, k.tape.trans h.tape, k.output.trans h.output, Nat.le_trans h.size k.size, fun q hq hne => (k.block q (Nat.lt_of_lt_of_le hq h.size) hne).trans (h.block q hq hne)⟩
theorem below_grown2 {B F : Nat} {a b c : World} (h : Below B a b) (hB : B ≤ F) (hBb : B ≤ b.heap.size) (k : b.grownBy c (some F)) : Below B a c :=
  ⟨k.os.trans h.os, k.tape.trans h.tape, k.output.trans h.output, Nat.le_trans h.size k.size, fun q hq => (k.block q (by omega) (fun e => by cases e; omega)).trans (h.block q hq)⟩

def FNewIs (t : Rx) (w : World) (e : Ending) (w' : World) : Prop :=
  ∃ F b off cp A ca, e = .returned (.tuple #[.pointer (some ⟨F, 0, none⟩), .nilIface]) ∧ w.heap.size ≤ F ∧ (∀ Fs : List Nat, (∀ f ∈ Fs, f < w.heap.size ∨ w'.heap.size ≤ f ∨ f = F) → F ∈ Fs → FdE Fs (progL t) [] [0] F b off cp A ca w') ∧ Below w.heap.size w w'
def FNewNo (l : List Nd) (w : World) (e : Ending) (w' : World) : Prop := e = .returned (.tuple #[.pointer none, errV (chk l)]) ∧ Below w.heap.size w w'

set_option maxRecDepth 100000 in
set_option maxHeartbeats 1000000 in
theorem FNew_no (l : List Nd) (v : Value) (w : World) (hr : RdN w v l) (hc : chk l ≠ 0) : Calls Tryd.prog 16 #[v] w (FNewNo l w) := by
  obtain ⟨A, cap, rfl, hcap, hcap2, hmem⟩ := hr.open_
  have HC := Lib.hid (Of_no l _ w hr hc)
  have HE := Lib.hid (errV_ne hc)
  clear hmem hr hc
  go_enter Tryd.func16, Tryd.ntmps16
  go_wp2_with fail
  refine HC.out.mono ?_
  rintro e w1 ⟨rfl, hb1⟩
  rw [HE.out]
  go_wp2_with fail
  go_ret2
  exact ⟨by rw [HE.out]; rfl, hb1⟩

set_option maxRecDepth 100000 in
set_option maxHeartbeats 1000000 in
theorem FNew_ok (l : List Nd) (t : Rx) (hl : l = flat t) (v : Value) (w : World) (ht : l.length ≤ 60) (hr : RdN w v l) : Calls Tryd.prog 16 #[v] w (FNewIs t w) := by
  obtain ⟨A, cap, rfl, hcap, hcap2, hmem⟩ := hr.open_
  have HC := Lib.hid (Of_ok l t hl _ w ht hr)
  clear hmem hr hl
  go_enter Tryd.func16, Tryd.ntmps16
  go_wp2_with fail
  refine HC.out.mono ?_
  rintro e w1 ⟨g, c, rfl, hrd, hg, hb1⟩
  have HRD := Lib.hid hrd
  have hsz := hb1.size
  have HB := Lib.hid hb1
  have hglt : g < w1.heap.size := by
    obtain ⟨A', cap', hv, _, _, hm⟩ := hrd.open_
    obtain ⟨b', off', hA, hlt, _⟩ := hm (by rw [progL_len]; omega)
    cases hv
    cases hA
    exact hlt
  clear hrd hb1
  generalize hp : progL t = P at *
  go_wp2_with fail
  go_ret2
  refine ⟨w1.heap.size + 1, g, 0, c, some ⟨w1.heap.size, 0, none⟩, 1, rfl, by omega, fun Fs hFs hF => ?_, (HB.out.alloc hsz _).alloc (by simp; omega) _⟩
  have hno : ∀ q, w.heap.size ≤ q → q < w1.heap.size + 1 → q ∉ Fs := fun q h1 h2 hq => by
    rcases hFs q hq with h | h | h
    · omega
    · simp at h; omega
    · omega
  rw [hp]
  refine ⟨blk_at _ _ (by simp) _ _, ?_, ?_, hno g hg (by omega), fun a ha => by cases ha; exact hno _ hsz (by show w1.heap.size < _; omega), Fed.first P, hF⟩
  · exact HRD.out.below (((Below.refl _ _).alloc (Nat.le_refl _) _).alloc (by simp) _)
  · exact ((Blk.new w1 3 #[.int .i64 0]).alloc _).rd1 (Nat.le_refl _) (by omega) rfl (fun j u h => by simpa [natVals] using h)

set_option maxRecDepth 100000 in
set_option maxHeartbeats 1000000 in
theorem FDead_any (Fs : List Nat) (p : List St) (s : List UInt8) (fs : List Nat) (F b off cp : Nat) (A : Option Addr) (ca : Nat) (w : World) (h : FdE Fs p s fs F b off cp A ca w) :
    Calls Tryd.prog 21 #[.pointer (some ⟨F, 0, none⟩)] w (fun e w' => ∃ r : Bool, e = .returned (.bool r) ∧ (r = true ↔ fs = []) ∧ w = w') := by
  have c1 := h.bx.cell 1
  simp only [List.getElem?_toArray, List.getElem?_cons_succ, List.getElem?_cons_zero] at c1
  clear h
  go_enter Tryd.func21, Tryd.ntmps21
  go_wp2
  go_ret
  refine ⟨_, rfl, ?_, rfl⟩
  cases fs <;> simp <;> omega

set_option maxRecDepth 100000 in
set_option maxHeartbeats 1000000 in
theorem FLen_any (Fs : List Nat) (p : List St) (s : List UInt8) (fs : List Nat) (F b off cp : Nat) (A : Option Addr) (ca : Nat) (w : World) (h : FdE Fs p s fs F b off cp A ca w) :
    Calls Tryd.prog 19 #[.pointer (some ⟨F, 0, none⟩)] w (fun e w' => e = .returned (.int .i64 (s.length : Int)) ∧ w = w') := by
  have c2 := h.bx.cell 2
  simp only [List.getElem?_toArray, List.getElem?_cons_succ, List.getElem?_cons_zero] at c2
  clear h
  go_enter Tryd.func19, Tryd.ntmps19
  go_wp2
  go_ret
  exact ⟨rfl, rfl⟩

def YesIs (p : List St) (s : List UInt8) (w : World) (e : Ending) (w' : World) : Prop := ∃ r : Bool, e = .returned (.bool r) ∧ (r = true ↔ EndsAt p s 0 s.length) ∧ Below w.heap.size w w'

set_option maxRecDepth 100000 in
set_option maxHeartbeats 1000000 in
theorem FYes_any (Fs : List Nat) (p : List St) (hp : okP p) (s : List UInt8) (fs : List Nat) (F b off cp : Nat) (A : Option Addr) (ca : Nat) (w : World) (h : FdE Fs p s fs F b off cp A ca w) :
    Calls Tryd.prog 20 #[.pointer (some ⟨F, 0, none⟩)] w (YesIs p s w) := by
  have c0 := h.bx.cell 0
  have c1 := h.bx.cell 1
  have c2 := h.bx.cell 2
  simp only [List.getElem?_toArray, List.getElem?_cons_succ, List.getElem?_cons_zero] at c0 c1 c2
  have hS : ∀ w', Below w.heap.size w w' → (w'.cell? ⟨F, 0, none⟩ = some (.slice (some ⟨b, off, none⟩) p.length cp) ∧ w'.cell? ⟨F, 1, none⟩ = some (.slice A fs.length ca) ∧ w'.cell? ⟨F, 2, none⟩ = some (.int .i64 (s.length : Int)) ∧ Below w.heap.size w w') := fun w' hb => by
    have hk := h.bx.kept hb
    exact ⟨hk.cell 0, hk.cell 1, hk.cell 2, hb⟩
  have HS := Lib.hid hS
  have HSP : Hid (∀ w', Below w.heap.size w w' → Calls Tryd.prog 55 #[.slice (some ⟨b, off, none⟩) p.length cp, .slice A fs.length ca, .bool ((s.length : Int) == 0), .bool true] w' (SpreadIs p ((s.length : Int) == 0) true fs w')) := Lib.hid (fun w' hb => by
    have hk := h.below hb
    exact Spread_any p hp _ _ fs (h.fed.lt hp) _ true w' hk.rp hk.ra)
  have H := Lib.hid h
  have B0 : Below w.heap.size w w.drew := (Below.refl _ _).drew
  have hfld : ∀ (A1 : Option Addr) (n c : Nat) (d : Bool) (W' : World), (Instr.field 100 (.agg #[.slice A1 n c, .bool d]) 1).run Tryd.prog W' = .ok (.bool d) W' := fun _ _ _ _ _ => by kernel_rfl
  clear h hS
  go_enter Tryd.func20, Tryd.ntmps20
  go_wp2_with fail
  go_region_held3 (fun w' => w'.cell? ⟨F, 0, none⟩ = some (.slice (some ⟨b, off, none⟩) p.length cp) ∧ w'.cell? ⟨F, 1, none⟩ = some (.slice A fs.length ca) ∧ w'.cell? ⟨F, 2, none⟩ = some (.int .i64 (s.length : Int)) ∧ Below w.heap.size w w')
    (exact HS.out _ (by assumption))
    (first
      | (go_at_call 55; refine (HSP.out _ (by assumption)).mono ?_; rintro e w2 ⟨A2, cap2, L, d, rfl, hfr, _, hb2⟩; have hB2 : Below w.heap.size w w2 := (by assumption : Below w.heap.size w _).trans (hb2.mono (by assumption : Below w.heap.size w _).size)))
  go_wp2_with fail
  go_ret
  refine ⟨d, rfl, ?_, hB2⟩
  rw [show ((s.length : Int) == 0) = (s.length == 0) from int_beq s.length 0] at hfr
  exact H.out.fed.yes hfr

end Go.Proofs.YthcahjnniendnabDoor

/-
  The walk of a feed's Put.
-/
namespace Go.Proofs.YthcahjnniendnabDoor
open Go.RowKit Wf

theorem FdE.put {Fs : List Nat} {p : List St} {s s' : List UInt8} {fs fs' : List Nat} {F b off cp : Nat} {A A' : Option Addr} {ca ca' : Nat} {w : World} (h : FdE Fs p s fs F b off cp A ca w) (hra : Rd1 w (.slice A' fs'.length ca') (natVals fs'))
    (hA : ∀ a, A' = some a → a.block ∉ Fs) (hfed : Fed p s' fs') (n : Int) (hn : n = (s'.length : Int)) :
    FdE Fs p s' fs' F b off cp A' ca' ((w.setCell ⟨F, 1, none⟩ (.slice A' fs'.length ca')).setCell ⟨F, 2, none⟩ (.int .i64 n)) := by
  subst hn
  have hg := fd_trans (fd_set w F 1 (.slice A' fs'.length ca')) (fd_set _ F 2 (.int .i64 (s'.length : Int)))
  refine ⟨?_, Rd.grown h.rp hg (fun a ha e => by cases ha; cases e; exact h.hb h.hF), Rd.grown hra hg (fun a ha e => by cases e; exact hA a ha h.hF), h.hb, hA, hfed, h.hF⟩
  have := (h.bx.set_ 1 (.slice A' fs'.length ca')).set_ 2 (.int .i64 (s'.length : Int))
  simpa using this

def PutIs (Fs : List Nat) (p : List St) (s : List UInt8) (F b off cp : Nat) (w : World) (e : Ending) (w' : World) : Prop :=
  e = .returned .nilIface ∧ (∃ fs A ca, FdE Fs p s fs F b off cp A ca w') ∧ w.grownBy w' (some F)

set_option maxRecDepth 100000 in
set_option maxHeartbeats 40000000 in
theorem FPut_any (Fs : List Nat) (p : List St) (hp : okP p) (hok : ∀ s ∈ p, okC s.cls) (s : List UInt8) (t : ByteArray) (fs : List Nat) (F b off cp : Nat) (A : Option Addr) (ca : Nat) (w : World) (h : FdE Fs p s fs F b off cp A ca w) (hFs : ∀ f ∈ Fs, f < w.heap.size) (hl : s.length + t.size ≤ 400) :
    Calls Tryd.prog 17 #[.pointer (some ⟨F, 0, none⟩), .string t] w (PutIs Fs p (s ++ t.data.toList) F b off cp w) := by
  have hcl : ∃ fs A ca, FdE Fs p (s ++ t.data.toList.take 0) fs F b off cp A ca w := ⟨fs, A, ca, by simpa using h⟩
  have c2 := h.bx.cell 2
  simp only [List.getElem?_toArray, List.getElem?_cons_succ, List.getElem?_cons_zero] at c2
  have d1 : decide ((400 : Int) - (s.length : Int) < (t.size : Int)) = false := by simp; omega
  have hs4 : s.length ≤ 400 := by omega
  have ht4 : t.size ≤ 400 := by omega
  have HFS := Lib.hid hFs
  have HCL := Lib.hid hcl
  have HP := Lib.hid hp
  have HOK := Lib.hid hok
  have htl : t.data.toList.length = t.size := by simp
  have HTL := Lib.hid htl
  have hFw := h.bx.lt
  clear h hFs hcl hp hok htl
  go_enter Tryd.func17, Tryd.ntmps17
  go_wp2_with fail
  go_loopw [17] (fun v17 wr => ∃ k : Nat, k ≤ t.size ∧ v17 = .int .i64 (k : Int) ∧ Hid (∃ fs A ca, FdE Fs p (s ++ t.data.toList.take k) fs F b off cp A ca wr) ∧ Hid (w.grownBy wr (some F))) (fun i _ => t.size - (intOf i).toNat)
  case atStart => exact ⟨0, by omega, rfl, HCL, Lib.hid (fd_below (Below.refl _ _) _)⟩
  case round =>
    clear c2 HCL
    obtain ⟨k, hk, rfl, HE, HG⟩ := hrel
    by_cases hlt : k < t.size
    · obtain ⟨fs1, A1, ca1, he1⟩ := HE.out
      obtain ⟨s1, hs1⟩ : ∃ X, X = s ++ t.data.toList.take k := ⟨_, rfl⟩
      have HS1 := Lib.hid hs1
      have HL1 : Hid (s1.length = s.length + k) := Lib.hid (by rw [hs1]; have := HTL.out; simp; omega)
      rw [← hs1] at he1
      have HE1 := Lib.hid he1
      have hb1 : s1.length ≤ 400 := by have := HL1.out; omega
      have hFr : F < wr.heap.size := he1.bx.lt
      have hi1 : (k : Int) < (t.size : Int) := by omega
      have hi0 : (0 : Int) ≤ (k : Int) := by omega
      have hbyte : t[k].toNat < 256 := t[k].toNat_lt
      have c1 : wr.cell? ⟨F, 1, none⟩ = some (.slice A1 fs1.length ca1) := he1.bx.cell 1
      have hR : ∀ w', (Below wr.heap.size wr w' ∨ ∃ w0 u, w' = World.setCell w0 ⟨F, 1, none⟩ u ∧ Below wr.heap.size wr w0) →
          RdS w' (.slice (some ⟨b, off, none⟩) p.length cp) p ∧ Rd1 w' (.slice A1 fs1.length ca1) (natVals fs1) ∧ w'.cell? ⟨F, 0, none⟩ = some (.slice (some ⟨b, off, none⟩) p.length cp) ∧ w'.cell? ⟨F, 2, none⟩ = some (.int .i64 (s1.length : Int)) := by
        rintro w' (hb | ⟨w0, u, rfl, hb⟩)
        · have hk := he1.below hb
          exact ⟨hk.rp, hk.ra, hk.bx.cell 0, hk.bx.cell 2⟩
        · have hk := he1.below hb
          refine ⟨Rd.grown hk.rp (fd_set w0 F 1 u) (fun a ha e => by cases ha; cases e; exact hk.hb hk.hF), Rd.grown hk.ra (fd_set w0 F 1 u) (fun a ha e => by cases e; exact hk.ha a ha hk.hF), ?_, ?_⟩
          · exact (World.cell?_setCell_other _ _ _ _ (by simp)).trans (hk.bx.cell 0)
          · exact (World.cell?_setCell_other _ _ _ _ (by simp)).trans (hk.bx.cell 2)
      have HR := Lib.hid hR
      have HS : Hid (∀ w', Hid (Below wr.heap.size wr w' ∨ ∃ w0 u, w' = World.setCell w0 ⟨F, 1, none⟩ u ∧ Below wr.heap.size wr w0) →
          (w'.cell? ⟨F, 0, none⟩ = some (.slice (some ⟨b, off, none⟩) p.length cp) ∧ w'.cell? ⟨F, 2, none⟩ = some (.int .i64 (s1.length : Int)) ∧ Hid (Below wr.heap.size wr w' ∨ ∃ w0 u, w' = World.setCell w0 ⟨F, 1, none⟩ u ∧ Below wr.heap.size wr w0))) := Lib.hid (fun w' hh => ⟨(hR w' hh.out).2.2.1, (hR w' hh.out).2.2.2, hh⟩)
      have HSP : Hid (∀ w', Hid (Below wr.heap.size wr w' ∨ ∃ w0 u, w' = World.setCell w0 ⟨F, 1, none⟩ u ∧ Below wr.heap.size wr w0) → Calls Tryd.prog 55 #[.slice (some ⟨b, off, none⟩) p.length cp, .slice A1 fs1.length ca1, .bool ((s1.length : Int) == 0), .bool false] w' (SpreadIs p ((s1.length : Int) == 0) false fs1 w')) := Lib.hid (fun w' hh =>
        Spread_any p HP.out _ _ fs1 (he1.fed.lt HP.out) _ false w' (hR w' hh.out).1 (hR w' hh.out).2.1)
      have HA0 : Hid (Below wr.heap.size wr wr.drew ∨ ∃ w0 u, wr.drew = World.setCell w0 ⟨F, 1, none⟩ u ∧ Below wr.heap.size wr w0) := Lib.hid (.inl (Below.refl _ _).drew)
      have hgk : t.data.toList[k]? = some t[k] := by
        have : t.data.toList[k]? = t.data[k]? := by simp
        rw [this]
        exact Array.getElem?_eq_getElem _
      have HGK := Lib.hid hgk
      obtain ⟨_, _, q0, q2⟩ := HR.out _ HA0.out
      have p0 : wr.cell? ⟨F, 0, none⟩ = some (.slice (some ⟨b, off, none⟩) p.length cp) := he1.bx.cell 0
      have p2 : wr.cell? ⟨F, 2, none⟩ = some (.int .i64 (s1.length : Int)) := he1.bx.cell 2
      clear he1 hR hs1 hgk HE
      -- HAND
      go_wp2_with fail
      refine wp_region_held_drew (S := (fun w' => w'.cell? ⟨F, 0, none⟩ = some (.slice (some ⟨b, off, none⟩) p.length cp) ∧ w'.cell? ⟨F, 2, none⟩ = some (.int .i64 (s1.length : Int)) ∧ Hid (Below wr.heap.size wr w' ∨ ∃ w0 u, w' = World.setCell w0 ⟨F, 1, none⟩ u ∧ Below wr.heap.size wr w0))) (by kernel_rfl) (HS.out _ HA0) (fun hHeld => ?_)
      refine wpAnyH_take (i := 0) (v := ?vv0) rfl (by kernel_rfl) (by kernel_rfl) (by kernel_rfl) (fun _ _ _ h => h) (Or.inl ⟨by rfl, ?hy0⟩) (by assumption) ?rest0
      case hy0 => ((intro w hSw; (try dsimp only at hSw); go_simp) <;> with_reducible rfl)
      try simp only [Act.put, List.setIfInBounds_toArray, List.set_cons_zero, List.set_cons_succ, List.getElem_toArray, List.getElem_cons_succ, List.getElem_cons_zero]
      refine wpAnyH_take (i := 1) (v := ?vv1) rfl (by kernel_rfl) (by kernel_rfl) (by kernel_rfl) (fun _ _ _ h => h) (Or.inl ⟨by rfl, ?hy1⟩) (by assumption) ?rest1
      case hy1 => ((intro w hSw; (try dsimp only at hSw); go_simp) <;> with_reducible rfl)
      try simp only [Act.put, List.setIfInBounds_toArray, List.set_cons_zero, List.set_cons_succ, List.getElem_toArray, List.getElem_cons_succ, List.getElem_cons_zero]
      refine wpAnyH_take (i := 2) (v := ?vv2) rfl (by kernel_rfl) (by kernel_rfl) (by kernel_rfl) (fun _ _ _ h => h) (Or.inl ⟨by rfl, ?hy2⟩) (by assumption) ?rest2
      case hy2 => ((intro w hSw; (try dsimp only at hSw); go_simp) <;> with_reducible rfl)
      try simp only [Act.put, List.setIfInBounds_toArray, List.set_cons_zero, List.set_cons_succ, List.getElem_toArray, List.getElem_cons_succ, List.getElem_cons_zero]
      refine wpAnyH_take (i := 3) (v := ?vv3) rfl (by kernel_rfl) (by kernel_rfl) (by kernel_rfl) (fun _ _ _ h => h) (Or.inl ⟨by rfl, ?hy3⟩) (by assumption) ?rest3
      case hy3 => ((intro w hSw; (try dsimp only at hSw); go_simp) <;> with_reducible rfl)
      try simp only [Act.put, List.setIfInBounds_toArray, List.set_cons_zero, List.set_cons_succ, List.getElem_toArray, List.getElem_cons_succ, List.getElem_cons_zero]
      refine wpAnyH_take (i := 4) (v := ?vv4) rfl (by kernel_rfl) (by kernel_rfl) (by kernel_rfl) (fun _ _ _ h => h) (Or.inl ⟨by rfl, ?hy4⟩) (by assumption) ?rest4
      case hy4 => ((intro w hSw; (try dsimp only at hSw); go_simp) <;> with_reducible rfl)
      try simp only [Act.put, List.setIfInBounds_toArray, List.set_cons_zero, List.set_cons_succ, List.getElem_toArray, List.getElem_cons_succ, List.getElem_cons_zero]
      refine wpAnyH_take (i := 5) (v := ?vv5) rfl (by kernel_rfl) (by kernel_rfl) (by kernel_rfl) (fun _ _ _ h => h) (Or.inl ⟨by rfl, ?hy5⟩) (by assumption) ?rest5
      case hy5 => ((intro w hSw; (try dsimp only at hSw); go_simp) <;> with_reducible rfl)
      try simp only [Act.put, List.setIfInBounds_toArray, List.set_cons_zero, List.set_cons_succ, List.getElem_toArray, List.getElem_cons_succ, List.getElem_cons_zero]
      refine wpAnyH_take (i := 6) (v := ?vv6) rfl (by kernel_rfl) (by kernel_rfl) (by kernel_rfl) (fun _ _ _ h => h) (Or.inl ⟨by rfl, ?hy6⟩) (by assumption) ?rest6
      case hy6 => ((intro w hSw; (try dsimp only at hSw); go_simp) <;> with_reducible rfl)
      try simp only [Act.put, List.setIfInBounds_toArray, List.set_cons_zero, List.set_cons_succ, List.getElem_toArray, List.getElem_cons_succ, List.getElem_cons_zero]
      refine wpAnyH_take (i := 7) (v := ?vv7) rfl (by kernel_rfl) (by kernel_rfl) (by kernel_rfl) (fun _ _ _ h => h) (Or.inl ⟨by rfl, ?hy7⟩) (by assumption) ?rest7
      case hy7 => ((intro w hSw; (try dsimp only at hSw); go_simp) <;> with_reducible rfl)
      try simp only [Act.put, List.setIfInBounds_toArray, List.set_cons_zero, List.set_cons_succ, List.getElem_toArray, List.getElem_cons_succ, List.getElem_cons_zero]
      refine wpAnyH_take (i := 9) (v := ?vv9) rfl (by kernel_rfl) (by kernel_rfl) (by kernel_rfl) (fun _ _ _ h => h) (Or.inl ⟨by rfl, ?hy9⟩) (by assumption) ?rest9
      case hy9 => ((intro w hSw; (try dsimp only at hSw); go_simp) <;> with_reducible rfl)
      try simp only [Act.put, List.setIfInBounds_toArray, List.set_cons_zero, List.set_cons_succ, List.getElem_toArray, List.getElem_cons_succ, List.getElem_cons_zero]
      refine wpAnyH_take (i := 10) (v := ?vv10) rfl (by kernel_rfl) (by kernel_rfl) (by kernel_rfl) (fun _ _ _ h => h) (Or.inl ⟨by rfl, ?hy10⟩) (by assumption) ?rest10
      case hy10 => ((intro w hSw; (try dsimp only at hSw); go_simp) <;> with_reducible rfl)
      try simp only [Act.put, List.setIfInBounds_toArray, List.set_cons_zero, List.set_cons_succ, List.getElem_toArray, List.getElem_cons_succ, List.getElem_cons_zero]
      refine wpAnyH_take (i := 11) (v := ?vv11) rfl (by kernel_rfl) (by kernel_rfl) (by kernel_rfl) (fun _ _ _ h => h) (Or.inl ⟨by rfl, ?hy11⟩) (by assumption) ?rest11
      case hy11 => ((intro w hSw; (try dsimp only at hSw); go_simp) <;> with_reducible rfl)
      try simp only [Act.put, List.setIfInBounds_toArray, List.set_cons_zero, List.set_cons_succ, List.getElem_toArray, List.getElem_cons_succ, List.getElem_cons_zero]
      refine wpAnyH_take (i := 12) (v := ?vv12) rfl (by kernel_rfl) (by kernel_rfl) (by kernel_rfl) (fun _ _ _ h => h) (Or.inl ⟨by rfl, ?hy12⟩) (by assumption) ?rest12
      case hy12 => ((intro w hSw; (try dsimp only at hSw); go_simp) <;> with_reducible rfl)
      try simp only [Act.put, List.setIfInBounds_toArray, List.set_cons_zero, List.set_cons_succ, List.getElem_toArray, List.getElem_cons_succ, List.getElem_cons_zero]
      refine wpAnyH_take (i := 13) (v := ?vv13) rfl (by kernel_rfl) (by kernel_rfl) (by kernel_rfl) (fun _ _ _ h => h) (Or.inl ⟨by rfl, ?hy13⟩) (by assumption) ?rest13
      case hy13 => ((intro w hSw; (try dsimp only at hSw); go_simp) <;> with_reducible rfl)
      try simp only [Act.put, List.setIfInBounds_toArray, List.set_cons_zero, List.set_cons_succ, List.getElem_toArray, List.getElem_cons_succ, List.getElem_cons_zero]
      refine wpAnyH_take (i := 15) (v := ?vv15) rfl (by kernel_rfl) (by kernel_rfl) (by kernel_rfl) (fun _ _ _ h => h) (Or.inl ⟨by rfl, ?hy15⟩) (by assumption) ?rest15
      case hy15 => ((intro w hSw; (try dsimp only at hSw); go_simp) <;> with_reducible rfl)
      try simp only [Act.put, List.setIfInBounds_toArray, List.set_cons_zero, List.set_cons_succ, List.getElem_toArray, List.getElem_cons_succ, List.getElem_cons_zero]
      refine wpAnyH_take (i := 16) (v := ?vv16) rfl (by kernel_rfl) (by kernel_rfl) (by kernel_rfl) (fun _ _ _ h => h) (Or.inl ⟨by rfl, ?hy16⟩) (by assumption) ?rest16
      case hy16 => ((intro w hSw; (try dsimp only at hSw); go_simp) <;> with_reducible rfl)
      try simp only [Act.put, List.setIfInBounds_toArray, List.set_cons_zero, List.set_cons_succ, List.getElem_toArray, List.getElem_cons_succ, List.getElem_cons_zero]
      refine wpAnyH_take (i := 17) (v := ?vv17) rfl (by kernel_rfl) (by kernel_rfl) (by kernel_rfl) (fun _ _ _ h => h) (Or.inl ⟨by rfl, ?hy17⟩) (by assumption) ?rest17
      case hy17 => ((intro w hSw; (try dsimp only at hSw); go_simp) <;> with_reducible rfl)
      try simp only [Act.put, List.setIfInBounds_toArray, List.set_cons_zero, List.set_cons_succ, List.getElem_toArray, List.getElem_cons_succ, List.getElem_cons_zero]
      refine wpAnyH_take (i := 18) (v := ?vv18) rfl (by kernel_rfl) (by kernel_rfl) (by kernel_rfl) (fun _ _ _ h => h) (Or.inl ⟨by rfl, ?hy18⟩) (by assumption) ?rest18
      case hy18 => ((intro w hSw; (try dsimp only at hSw); go_simp) <;> with_reducible rfl)
      try simp only [Act.put, List.setIfInBounds_toArray, List.set_cons_zero, List.set_cons_succ, List.getElem_toArray, List.getElem_cons_succ, List.getElem_cons_zero]
      refine wpAnyH_take (i := 19) (v := ?vv19) rfl (by kernel_rfl) (by kernel_rfl) (by kernel_rfl) (fun _ _ _ h => h) (Or.inl ⟨by rfl, ?hy19⟩) (by assumption) ?rest19
      case hy19 => ((intro w hSw; (try dsimp only at hSw); go_simp) <;> with_reducible rfl)
      try simp only [Act.put, List.setIfInBounds_toArray, List.set_cons_zero, List.set_cons_succ, List.getElem_toArray, List.getElem_cons_succ, List.getElem_cons_zero]
      refine wpAnyH_take (i := 20) (v := ?vv20) rfl (by kernel_rfl) (by kernel_rfl) (by kernel_rfl) (fun _ _ _ h => h) (Or.inl ⟨by rfl, ?hy20⟩) (by assumption) ?rest20
      case hy20 => ((intro w hSw; (try dsimp only at hSw); go_simp) <;> with_reducible rfl)
      try simp only [Act.put, List.setIfInBounds_toArray, List.set_cons_zero, List.set_cons_succ, List.getElem_toArray, List.getElem_cons_succ, List.getElem_cons_zero]
      refine wpAnyH_take (i := 21) (v := ?vv21) rfl (by kernel_rfl) (by kernel_rfl) (by kernel_rfl) (fun _ _ _ h => h) (Or.inl ⟨by rfl, ?hy21⟩) (by assumption) ?rest21
      case hy21 => ((intro w hSw; (try dsimp only at hSw); go_simp) <;> with_reducible rfl)
      try simp only [Act.put, List.setIfInBounds_toArray, List.set_cons_zero, List.set_cons_succ, List.getElem_toArray, List.getElem_cons_succ, List.getElem_cons_zero]
      have HS0 := Lib.hid hHeld
      refine wpAnyH_ready (rs := [8]) (by kernel_rfl) (by simp) ?_
      refine AllReadyH.cons rfl (fun K hK => ?_) AllReadyH.nil
      go_simp
      refine hK.out _ _ HS0.out (fun hHeld => ?_)
      clear hK K
      try simp only [Act.put, List.setIfInBounds_toArray, List.set_cons_zero, List.set_cons_succ, List.getElem_toArray, List.getElem_cons_succ, List.getElem_cons_zero]
      refine wpAnyH_ready (rs := [14]) (by kernel_rfl) (by simp) ?_
      refine AllReadyH.cons rfl (fun K hK => ?_) AllReadyH.nil
      go_simp
      go_at_call 55
      refine (HSP.out wr.drew HA0).mono ?_
      rintro e w2 ⟨A2, cap2, L, d, rfl, hfr, hown2, hb2⟩
      have HB2 : Hid (Below wr.heap.size wr w2) := Lib.hid ((Below.refl _ wr).drew.trans hb2)
      have HA2 : Hid (Below wr.heap.size wr w2 ∨ ∃ w0 u, w2 = World.setCell w0 ⟨F, 1, none⟩ u ∧ Below wr.heap.size wr w0) := Lib.hid (.inl HB2.out)
      have HFR := Lib.hid hfr
      have HO2 := Lib.hid hown2
      clear hfr hown2 hb2
      go_wp2_with fail
      refine hK.out _ _ (HS.out _ HA2) (fun hHeld => ?_)
      clear hK K
      try simp only [Act.put, List.setIfInBounds_toArray, List.set_cons_zero, List.set_cons_succ, List.getElem_toArray, List.getElem_cons_succ, List.getElem_cons_zero]
      refine wpAnyH_ready (rs := [22]) (by kernel_rfl) (by simp) ?_
      refine AllReadyH.cons rfl (fun K hK => ?_) AllReadyH.nil
      go_simp
      go_at_call 56
      refine (Go_any p HOK.out (fun st hst => op_x0 HP.out st hst) _ A2 cap2 L d (front_lt HP.out HFR.out).2 (front_lt HP.out HFR.out).1 t[k].toNat hbyte w2 (HR.out _ HA2.out).1 (Rd.of_own HO2.out)).mono ?_
      rintro e w3 ⟨A3, cap3, rfl, hown3, hb3⟩
      have HB3 : Hid (Below wr.heap.size wr w3) := Lib.hid (HB2.out.trans (hb3.mono HB2.out.size))
      have HA3 : Hid (Below wr.heap.size wr w3 ∨ ∃ w0 u, w3 = World.setCell w0 ⟨F, 1, none⟩ u ∧ Below wr.heap.size wr w0) := Lib.hid (.inl HB3.out)
      have hk3 := HE1.out.below HB3.out
      have k1 : w3.cell? ⟨F, 1, none⟩ = some (.slice A1 fs1.length ca1) := hk3.bx.cell 1
      have z1 := hk3.bx.frozen 1
      have HO3 := Lib.hid hown3
      clear hown3 hb3 hk3
      go_wp2_with fail
      refine hK.out _ _ (HS.out _ HA3) (fun hHeld => ?_)
      clear hK K
      try simp only [Act.put, List.setIfInBounds_toArray, List.set_cons_zero, List.set_cons_succ, List.getElem_toArray, List.getElem_cons_succ, List.getElem_cons_zero]
      refine wpAnyH_take (i := 23) (v := ?vv23) rfl (by kernel_rfl) (by kernel_rfl) (by kernel_rfl) (fun _ _ _ h => h) (Or.inl ⟨by rfl, ?hy23⟩) (by assumption) ?rest23
      case hy23 => ((intro w hSw; (try dsimp only at hSw); go_simp) <;> with_reducible rfl)
      try simp only [Act.put, List.setIfInBounds_toArray, List.set_cons_zero, List.set_cons_succ, List.getElem_toArray, List.getElem_cons_succ, List.getElem_cons_zero]
      refine wpAnyH_take (i := 24) (v := ?vv24) rfl (by kernel_rfl) (by kernel_rfl) (by kernel_rfl) (fun _ _ _ h => h) (Or.inl ⟨by rfl, ?hy24⟩) (by assumption) ?rest24
      case hy24 => ((intro w hSw; (try dsimp only at hSw); go_simp) <;> with_reducible rfl)
      try simp only [Act.put, List.setIfInBounds_toArray, List.set_cons_zero, List.set_cons_succ, List.getElem_toArray, List.getElem_cons_succ, List.getElem_cons_zero]
      refine wpAnyH_ready (rs := [25]) (by kernel_rfl) (by simp) ?_
      refine AllReadyH.cons rfl (fun K hK => ?_) AllReadyH.nil
      go_simp
      refine hK.out _ _ (HS.out _ (Lib.hid (.inr ⟨_, _, rfl, HB3.out⟩))) (fun hHeld => ?_)
      clear hK K
      refine wpAnyH_done (by kernel_rfl) ?_ _
      all_goals (
        have hk3 := HE1.out.below HB3.out
        have e2 : w3.cell? ⟨F, 2, none⟩ = some (.int .i64 (s1.length : Int)) := hk3.bx.cell 2
        have f2 := hk3.bx.frozen 2
        have hnx := HE1.out.fed.byte HP.out (b := t[k]) (by have := HFR.out; rw [show ((s1.length : Int) == 0) = (s1.length == 0) from int_beq s1.length 0] at this; exact this)
        have hsx : s1 ++ [t[k]] = s ++ t.data.toList.take (k + 1) := by rw [HS1.out, take_snoc HGK.out, List.append_assoc]
        rw [hsx] at hnx
        have hno : ∀ a, A3 = some a → a.block ∉ Fs := fun a ha hq => by
          have h1 := HFS.out _ hq
          have h2 := (HO3.out.lt a.block (by rw [ha]; rfl)).1
          have h3 := HB2.out.size
          have h4 := HG.out.size
          omega
        have henv := hk3.put (Rd.of_own HO3.out) hno hnx ((s1.length : Int) + 1) (by rw [← hsx]; simp)
        have HENV := Lib.hid henv
        have HGR := Lib.hid (fd_trans HG.out (fd_trans (fd_below HB3.out (some F)) (fd_trans (fd_set w3 F 1 (.slice A3 (goL p t[k].toNat L).length cap3)) (fd_set _ F 2 (.int .i64 ((s1.length : Int) + 1))))))
        clear henv hno hnx hsx hk3
        go_wp2_with fail
        go_round
        case rel => exact ⟨k + 1, by omega, by go_num, Lib.hid ⟨_, _, _, HENV.out⟩, HGR⟩
        case measure => simp [intOf]; omega)
    · obtain rfl : k = t.size := by omega
      have hfin : t.data.toList.take t.size = t.data.toList := by rw [← HTL.out, List.take_length]
      have HFIN := Lib.hid hfin
      clear hfin
      go_wp2_with fail
      go_ret
      refine ⟨rfl, ?_, HG.out⟩
      have := HE.out
      rw [HFIN.out] at this
      exact this

end Go.Proofs.YthcahjnniendnabDoor

/-
  Package feed: a piece that is too long is not taken.
-/
namespace Go.Proofs.YthcahjnniendnabDoor
open Go.RowKit Wf

set_option maxRecDepth 100000 in
set_option maxHeartbeats 4000000 in
theorem FPut_no (Fs : List Nat) (p : List St) (s : List UInt8) (t : ByteArray) (fs : List Nat) (F b off cp : Nat) (A : Option Addr) (ca : Nat) (w : World) (h : FdE Fs p s fs F b off cp A ca w) (hs : s.length ≤ 400) (hl : 400 < s.length + t.size) :
    Calls Tryd.prog 17 #[.pointer (some ⟨F, 0, none⟩), .string t] w (fun e w' => e = .returned (errV 3) ∧ Below w.heap.size w w') := by
  have c2 := h.bx.cell 2
  simp only [List.getElem?_toArray, List.getElem?_cons_succ, List.getElem?_cons_zero] at c2
  have d1 : decide ((400 : Int) - (s.length : Int) < (t.size : Int)) = true := by simp; omega
  have d2 : (400 : Int) - (s.length : Int) < (t.size : Int) := by omega
  generalize s.length = n at *
  clear h
  go_enter Tryd.func17, Tryd.ntmps17
  go_wp2_with fail
  go_ret
  exact ⟨rfl, Below.refl _ _⟩

end Go.Proofs.YthcahjnniendnabDoor

/-
  A parameter's data as a list of strings, each within the form's own reach.
-/
namespace Go.Proofs.YthcahjnniendnabDoor
open Go.RowKit Wf
open Go.ChangeShapes Go.WideShapes

section
variable {H : Type} {enc : TypeId × Value → H} {w : World} {base : Nat} {spare : Nat → Bool} {held : Bool}

theorem open_strs1 {P : Program} {t e : TypeId} (ht : P.underlying t = some (.slice e)) (he : P.underlying e = some .string) (hc : P.cellsOf e = 1) {fuel : Nat} {A : Option Addr} {n cap : Nat} {x : DataW H × List MemPlace}
    (h : DataW.trod enc P w base spare held fuel t [.slice A n cap] = some x) :
    ∃ l : List ByteArray, Rd1 w (.slice A n cap) (l.map Value.string) ∧ (∀ s ∈ l, s.size ≤ maxLen) ∧ ∀ s ∈ l, ∃ elems sp, x.1 = .slice elems sp ∧ DataW.lit (.string s.data.toList) ∈ elems := by
  rcases Go.Deep.open_strs ht he hc h with ⟨hcs, _⟩ | ⟨a, len, cap', m, Sx, hcs, hb, hl, hm, hmm, rfl, hx⟩
  · simp at hcs
    obtain ⟨rfl, rfl, rfl⟩ := hcs
    exact ⟨[], Rd.nil w 1, by simp, by simp⟩
  · simp at hcs
    obtain ⟨rfl, rfl, rfl⟩ := hcs
    have hle : n ≤ m := by rw [hmm]; split <;> omega
    refine ⟨(List.range n).map Sx, ⟨_, n, cap, rfl, hl, by unfold maxLen at hm; omega, by simp, fun hn => ?_⟩, fun s hs => ?_, fun s hs => ?_⟩
    · obtain ⟨b, off, spot⟩ := a
      have hc0 := (hx 0 (by omega)).1
      have hspot : spot = none := by simpa [Addr.add] using World.cell?_spot hc0
      subst hspot
      refine ⟨b, off, rfl, fun j u hu => ?_⟩
      have hj : j < n := by have := (List.getElem?_eq_some_iff.1 hu).1; simpa using this
      rw [← add_mk, (hx j (by omega)).1]
      simp [hj] at hu
      rw [← hu]
    · obtain ⟨i, hi, rfl⟩ := List.mem_map.1 hs
      exact (hx i (by have := List.mem_range.1 hi; omega)).2
    · obtain ⟨i, hi, rfl⟩ := List.mem_map.1 hs
      exact ⟨_, _, rfl, List.mem_map.2 ⟨i, hi, rfl⟩⟩

theorem weightsAll_in {P : Program} {e : TypeId} {l : List (DataW H)} {d : DataW H} (hd : d ∈ l) (n : Nat) (hn : n ∈ d.weights P e) : n ∈ DataW.weightsAll P e l := by
  induction l with
  | nil => cases hd
  | cons a r ih =>
    simp only [DataW.weightsAll, List.mem_append]
    rcases List.mem_cons.1 hd with rfl | h
    · exact .inl hn
    · exact .inr (ih h)
/-- The form's own reach, of a string inside a slice. -/
theorem sized_strs {P : Program} {ts : List TypeId} {ds : List (DataW H)} (h : (DataW.weightsEach P ts ds).all (· ≤ reachBytes) = true) {j : Nat} {t e : TypeId} {elems sp : List (DataW H)}
    (ht : ts[j]? = some t) (hd : ds[j]? = some (.slice elems sp)) (hu : P.underlying t = some (.slice e)) {bytes : List UInt8} (hx : DataW.lit (.string bytes) ∈ elems) : bytes.length ≤ reachBytes := by
  refine of_decide_eq_true (List.all_eq_true.1 h _ (DataW.weights_mem_each ht hd _ ?_))
  simp only [DataW.weights, hu, List.mem_cons, List.mem_append]
  exact .inr (.inl (weightsAll_in hx _ (by simp [DataW.weights])))
end

end Go.Proofs.YthcahjnniendnabDoor

/-
  The walk of the document's TurnOf.
-/
namespace Go.Proofs.YthcahjnniendnabDoor
open Go.RowKit Wf

def RTurnIs (u : Rx) (w : World) (e : Ending) (w' : World) : Prop :=
  ∃ g cap, e = .returned (.slice (some ⟨g, 0, none⟩) (flat (turnT u)).length cap) ∧ w'.ownsRow w.heap.size 69 5 (.slice (some ⟨g, 0, none⟩) (flat (turnT u)).length cap) (flat (turnT u)).length ((flat (turnT u)).flatMap ndCells) ∧ Below w.heap.size w w'

theorem own_src {w : World} {base g cap : Nat} {l : List Nd} (h : w.ownsRow base 69 5 (.slice (some ⟨g, 0, none⟩) l.length cap) l.length (l.flatMap ndCells)) (hl : 0 < l.length) :
    ∀ (j : Nat) (u : Value), (l.flatMap ndCells)[j]? = some u → w.cell? ((⟨g, 0, none⟩ : Addr).add j) = some u := by
  intro j u hu
  rcases h.2 with ⟨h0, _⟩ | ⟨g', cap', cur, hv, h1, h2, h3, h4, h5, h6⟩
  · cases h0
  · injection hv with e1 e2 e3
    injection e1 with e1
    injection e1 with e1
    subst e1
    rw [add_mk, Nat.zero_add, (show Blk w g _ cur from h2).cell, ← Array.getElem?_toList]
    rw [← h6, List.getElem?_take] at hu
    split at hu
    · exact hu
    · cases hu
theorem own_of_below {B base base' size n : Nat} {w w' : World} {e : TypeId} {v : Value} {xs : List Value} (h : w.ownsRow base e size v n xs) (hb : base' ≤ base) : w.ownsRow base' e size v n xs := by
  refine ⟨h.1, ?_⟩
  rcases h.2 with hn | ⟨g, cap, cur, hv, h1, rest⟩
  · exact .inl hn
  · exact .inr ⟨g, cap, cur, hv, Nat.le_trans hb h1, rest⟩

theorem src_grown {w w' : World} {row : Option Nat} {g : Nat} (hg : w.grownBy w' row) (hlt : g < w.heap.size) (hne : row ≠ some g) (j : Nat) : w'.cell? ((⟨g, 0, none⟩ : Addr).add j) = w.cell? ((⟨g, 0, none⟩ : Addr).add j) := by
  rw [add_mk]
  exact World.cell?_of_block (hg.block g hlt (fun e => hne e.symm))

end Go.Proofs.YthcahjnniendnabDoor

/-
  What the condition on package errors' one variable gives a walk; a world that meets it. (After the guide's worked example of a tied card.)
-/
namespace Go.Proofs.YthcahjnniendnabDoor.law
open Go.ChangeShapes Go.WideShapes Go.RowKit

theorem et : Tryd.prog.globalNamed "errors.errorType" = some 0 := by kernel_rfl
theorem rt : (Tryd.prog.cutTypes.find? (·.1 == "internal/reflectlite.rtype")).map (·.2) = some 200 := by kernel_rfl
theorem oneRow : ((List.range 291).filter fun t => Tryd.prog.rowNamed t [101, 114, 114, 111, 114]) = [29] := by kernel_rfl
theorem size : Tryd.prog.types.size = 291 := by kernel_rfl

/-- The variables that the rows list. -/
noncomputable def laidL : List (String × DataW Unit) := [("errors.errorType", Rows.laid_errors_errorType)]

/-- What the condition gives a walk: the variable's one cell. -/
theorem handle_of_laid {W : World} (h : laidMetH Tryd.prog laidL W) : ErrT W := by
  have h' : laidMet Tryd.prog [] W ∧ handlesMet Tryd.prog laidL W := h
  obtain ⟨name, u, ty, e1, e2, e3, e4, e5⟩ := h'.2 _ (List.mem_singleton.2 rfl)
  have en : name = [101, 114, 114, 111, 114] := (Option.some.inj e1).symm
  subst en
  obtain rfl := Option.some.inj (rt.symm.trans e2)
  have hm : ty ∈ (List.range 291).filter fun t => Tryd.prog.rowNamed t [101, 114, 114, 111, 114] := List.mem_filter.2 ⟨List.mem_range.2 (by rw [← size]; exact e3), e4⟩
  rw [oneRow] at hm
  obtain rfl := List.mem_singleton.1 hm
  have hh : typeHandle Tryd.prog 29 = .pointer (some ⟨7, 29, none⟩) := by kernel_rfl
  rw [hh] at e5
  have hc := World.var?_cell et e5 0
  unfold ErrT
  simpa using hc

/-- A world that meets the condition: the settled one, the variable's cell laid. -/
noncomputable def laidWorld (os : Os) : World :=
  let w0 := World.holding Tryd.prog os ⟨#[], #[], []⟩
  { w0 with heap := w0.heap.modify 0 fun
      | .cells _ t frozen => .cells #[.iface 200 (.agg #[.pointer (some ⟨7, 29, none⟩)])] t frozen
      | o => o }
theorem laidWorld_met (os : Os) (args : Array Value) : laidMetH Tryd.prog laidL ((laidWorld os).forCall (fun _ _ => 0) ⟨#[], args, []⟩).memory :=
  laidMetH_of_parts (laidMet_nil _ _) (by kernel_rfl)

end Go.Proofs.YthcahjnniendnabDoor.law

/-
  Of the list of a pattern's ends from the head: its last one.
-/
namespace Go.Proofs.YthcahjnniendnabDoor
open Go.RowKit Wf

/-- Of the list of ends from the head: it is empty, or its last one is the text's length just if the whole is fitted. -/
theorem last_or (s : List UInt8) (t : Rx) (N : Nat) (hN : s.length = N) : endsL s t 0 = [] ∧ ¬ Fits s t 0 N ∨ ∃ n x, (endsL s t 0).length = n + 1 ∧ (endsL s t 0)[n]? = some x ∧ (x = N ↔ Fits s t 0 N) ∧ n ≤ N := by
  have hdef : endsL s t 0 = upTo_ (Fits s t 0) (N + 1) := by unfold endsL; rw [hN]
  have hlen := upTo_len (Fits s t 0) (N + 1)
  rw [← hdef] at hlen
  rcases Nat.eq_zero_or_pos (endsL s t 0).length with h0 | h0
  · have hks := List.eq_nil_of_length_eq_zero h0
    refine .inl ⟨hks, fun h => ?_⟩
    have : N ∈ endsL s t 0 := by rw [hdef]; exact upTo_mem.2 ⟨by omega, h⟩
    rw [hks] at this
    cases this
  · obtain ⟨n, hn⟩ : ∃ n, (endsL s t 0).length = n + 1 := ⟨(endsL s t 0).length - 1, by omega⟩
    obtain ⟨x, hx⟩ : ∃ x, (endsL s t 0)[n]? = some x := ⟨_, List.getElem?_eq_getElem (by omega)⟩
    refine .inr ⟨n, x, hn, hx, ?_, by omega⟩
    rw [hdef] at hn hx
    exact upTo_last hn hx

end Go.Proofs.YthcahjnniendnabDoor
