/-
  The walk of prog's maker.make.
-/
import Derived.Test.YthcahjnniendnabMakeA
namespace Go.Proofs.Ythcahjnniendnab
open Go.RowKit Wf

def MakeIs (w0 : World) (b off ln cap M i : Nat) (S : List St) (u : Rx) (w : World) (e : Ending) (w' : World) : Prop :=
  e = .returned (.tuple #[]) ∧ ∃ v', MEnv w0 b off ln cap M (i + (flat u).length) (S ++ code u S.length) v' w' ∧ Fm M w w'

theorem alt_list {S S2 S3 S4 S5 S6 : List St} {a b : Rx} (h2 : S2 = S ++ [(⟨2, (0, 0, 0, 0), (S.length : Int) + 1, 0⟩ : St)]) (h3 : S3 = S2 ++ code a S2.length) (h4 : S4 = S3 ++ [(⟨2, (0, 0, 0, 0), 0, 0⟩ : St)])
    (h5 : S5 = S4.set S.length ⟨2, (0, 0, 0, 0), (S.length : Int) + 1, (S4.length : Int)⟩) (h6 : S6 = S5 ++ code b S5.length) (l3 : S3.length = S.length + 1 + sz a) (l4 : S4.length = S3.length + 1) (l6 : S6.length = S.length + 2 + sz a + sz b) :
    S6.set S3.length ⟨2, (0, 0, 0, 0), (S6.length : Int), (S6.length : Int)⟩ = S ++ code (.alt a b) S.length := by
  have e4 : S4 = S ++ [(⟨2, (0, 0, 0, 0), (S.length : Int) + 1, 0⟩ : St)] ++ (code a (S.length + 1) ++ [(⟨2, (0, 0, 0, 0), 0, 0⟩ : St)]) := by
    rw [h4, h3, h2]; simp
  have l5 : S5.length = S4.length := by rw [h5]; simp
  have e5 : S5 = (S ++ [(⟨2, (0, 0, 0, 0), (S.length : Int) + 1, (S4.length : Int)⟩ : St)] ++ code a (S.length + 1)) ++ [(⟨2, (0, 0, 0, 0), 0, 0⟩ : St)] := by
    rw [h5]
    generalize (S4.length : Int) = k
    rw [e4, set_mid]; simp
  have lm : S3.length = (S ++ [(⟨2, (0, 0, 0, 0), (S.length : Int) + 1, (S4.length : Int)⟩ : St)] ++ code a (S.length + 1)).length := by simp [code_len]; omega
  have k6 : S6 = (S ++ [(⟨2, (0, 0, 0, 0), (S.length : Int) + 1, (S4.length : Int)⟩ : St)] ++ code a (S.length + 1)) ++ [(⟨2, (0, 0, 0, 0), 0, 0⟩ : St)] ++ code b (S.length + 1 + sz a + 1) := by
    rw [← e5, h6, l5, show S4.length = S.length + 1 + sz a + 1 by omega]
  have kk : (S6.length : Int) = ((S.length + 1 + sz a + 1 + sz b : Nat) : Int) := by omega
  rw [kk, lm]
  rw [k6, set_mid, show (S4.length : Int) = ((S.length + 1 + sz a + 1 : Nat) : Int) by omega]
  simp [code, zc]

set_option maxRecDepth 100000 in
set_option maxHeartbeats 8000000 in
theorem make_all (w0 : World) (l : List Nd) (b off cap M : Nat) (hl60 : l.length ≤ 60) (hcap : l.length ≤ cap) (hcap2 : cap ≤ 9223372036854775807)
    (hcell : ∀ (w' : World), Below w0.heap.size w0 w' → ∀ k n, l[k]? = some n →
      w'.cell? ⟨b, off + k * 5, none⟩ = some (.int .i64 n.op) ∧ w'.cell? ⟨b, off + k * 5 + 1, none⟩ = some (.int .u64 (n.cls.1 : Int)) ∧ w'.cell? ⟨b, off + k * 5 + 2, none⟩ = some (.int .u64 (n.cls.2.1 : Int)) ∧
      w'.cell? ⟨b, off + k * 5 + 3, none⟩ = some (.int .u64 (n.cls.2.2.1 : Int)) ∧ w'.cell? ⟨b, off + k * 5 + 4, none⟩ = some (.int .u64 (n.cls.2.2.2 : Int))) :
    ∀ (u : Rx) (i : Nat) (S : List St) (v : Value) (w : World), At l i u → S.length + sz u ≤ 1000 → MEnv w0 b off l.length cap M i S v w →
      Calls Try.prog 16 #[.pointer (some ⟨M, 0, none⟩)] w (MakeIs w0 b off l.length cap M i S u w) := by
  have HCELL := Lib.hid hcell
  clear hcell
  intro u
  induction u with
  | byte c =>
    intro i S v w hat hS h
    obtain ⟨k0, k1, k2, k3⟩ := c
    have hlt := hat.lt
    have hpos := flat_pos (.byte (k0, k1, k2, k3))
    have hil : (i : Int) < (l.length : Int) := by omega
    have hi0 : (0 : Int) ≤ (i : Int) := by omega
    have c0 := fun o => (h.alloc o).mb.cell 0
    have c1 := fun o => (h.alloc o).mb.cell 1
    have d0 := h.mb.cell 0
    have d1 := h.mb.cell 1
    simp only [List.getElem?_toArray, List.getElem?_cons_succ, List.getElem?_cons_zero] at c0 c1 d0 d1
    have qq := fun o => HCELL.out _ (h.alloc o).bel i _ hat.byte
    have HN : Hid (Blk (((w.setCell ⟨M, 1, none⟩ (.int .i64 ((i : Int) + 1))).alloc (.cells #[.int .i64 1, .int .u64 (k0 : Int), .int .u64 (k1 : Int), .int .u64 (k2 : Int), .int .u64 (k3 : Int)] 33)).drew) w.heap.size 33 #[.int .i64 1, .int .u64 (k0 : Int), .int .u64 (k1 : Int), .int .u64 (k2 : Int), .int .u64 (k3 : Int)]) := Lib.hid (blk_at _ _ (by simp) _ _)
    have H := Lib.hid (((h.at_ (i + 1) ((i : Int) + 1) (by simp)).alloc (.cells #[.int .i64 1, .int .u64 (k0 : Int), .int .u64 (k1 : Int), .int .u64 (k2 : Int), .int .u64 (k3 : Int)] 33)).drew)
    have HF := Lib.hid ((Fm.setM M w 1 (.int .i64 ((i : Int) + 1))).trans (Fm.below (M := M) (((Below.refl _ _).alloc (Nat.le_refl _) (.cells #[.int .i64 1, .int .u64 (k0 : Int), .int .u64 (k1 : Int), .int .u64 (k2 : Int), .int .u64 (k3 : Int)] 33)).drew)))
    obtain ⟨q0, q1, q2, q3, q4⟩ := HCELL.out _ h.bel i _ hat.byte
    have r0 := fun o => (qq o).1
    have r1 := fun o => (qq o).2.1
    have r2 := fun o => (qq o).2.2.1
    have r3 := fun o => (qq o).2.2.2.1
    have r4 := fun o => (qq o).2.2.2.2
    dsimp only [zc] at q0 q1 q2 q3 q4 r0 r1 r2 r3 r4
    have z1 := fun o => (h.alloc o).mb.frozen 1
    have hMw := h.mb.lt
    clear h qq hat
    go_enter Try.func16, Try.ntmps16
    go_wp2_with fail
    go_region
    go_wp2_with fail
    refine (next_any _ _ _ _ _ _ _ _ _ _ H.out).mono ?_
    rintro e w1 ⟨rfl, rfl⟩
    have n0 := HN.out.cell 0
    simp only [List.getElem?_toArray, List.getElem?_cons_succ, List.getElem?_cons_zero] at n0
    have n1 := HN.out.cell 1
    have n2 := HN.out.cell 2
    have n3 := HN.out.cell 3
    have n4 := HN.out.cell 4
    simp only [List.getElem?_toArray, List.getElem?_cons_succ, List.getElem?_cons_zero] at n1 n2 n3 n4
    go_wp2_with fail
    refine (emit_any _ _ _ _ _ _ _ S _ 1 ((S.length : Int) + 1) 0 k0 k1 k2 k3 _ (by simp [sz] at hS; omega) H.out).mono ?_
    rintro e w2 ⟨rfl, v2, henv, hfm⟩
    have HE2 := Lib.hid henv
    have HF2 := Lib.hid (HF.out.trans hfm)
    clear henv hfm
    go_wp2_with fail
    go_end0
    exact ⟨rfl, _, HE2.out.cast (by simp [flat] <;> omega) (by simp [code]), HF2.out⟩
  | empty =>
    intro i S v w hat hS h
    have hlt := hat.lt
    have hpos := flat_pos .empty
    have hil : (i : Int) < (l.length : Int) := by omega
    have hi0 : (0 : Int) ≤ (i : Int) := by omega
    have c0 := fun o => (h.alloc o).mb.cell 0
    have c1 := fun o => (h.alloc o).mb.cell 1
    have d0 := h.mb.cell 0
    have d1 := h.mb.cell 1
    simp only [List.getElem?_toArray, List.getElem?_cons_succ, List.getElem?_cons_zero] at c0 c1 d0 d1
    have qq := fun o => HCELL.out _ (h.alloc o).bel i _ hat.empty
    have HN : Hid (Blk (((w.setCell ⟨M, 1, none⟩ (.int .i64 ((i : Int) + 1))).alloc (.cells #[.int .i64 2, .int .u64 ((0 : Nat) : Int), .int .u64 ((0 : Nat) : Int), .int .u64 ((0 : Nat) : Int), .int .u64 ((0 : Nat) : Int)] 33)).drew) w.heap.size 33 #[.int .i64 2, .int .u64 ((0 : Nat) : Int), .int .u64 ((0 : Nat) : Int), .int .u64 ((0 : Nat) : Int), .int .u64 ((0 : Nat) : Int)]) := Lib.hid (blk_at _ _ (by simp) _ _)
    have H := Lib.hid (((h.at_ (i + 1) ((i : Int) + 1) (by simp)).alloc (.cells #[.int .i64 2, .int .u64 ((0 : Nat) : Int), .int .u64 ((0 : Nat) : Int), .int .u64 ((0 : Nat) : Int), .int .u64 ((0 : Nat) : Int)] 33)).drew)
    have HF := Lib.hid ((Fm.setM M w 1 (.int .i64 ((i : Int) + 1))).trans (Fm.below (M := M) (((Below.refl _ _).alloc (Nat.le_refl _) (.cells #[.int .i64 2, .int .u64 ((0 : Nat) : Int), .int .u64 ((0 : Nat) : Int), .int .u64 ((0 : Nat) : Int), .int .u64 ((0 : Nat) : Int)] 33)).drew)))
    obtain ⟨q0, q1, q2, q3, q4⟩ := HCELL.out _ h.bel i _ hat.empty
    have r0 := fun o => (qq o).1
    have r1 := fun o => (qq o).2.1
    have r2 := fun o => (qq o).2.2.1
    have r3 := fun o => (qq o).2.2.2.1
    have r4 := fun o => (qq o).2.2.2.2
    dsimp only [zc] at q0 q1 q2 q3 q4 r0 r1 r2 r3 r4
    have z1 := fun o => (h.alloc o).mb.frozen 1
    have hMw := h.mb.lt
    clear h qq hat
    go_enter Try.func16, Try.ntmps16
    go_wp2_with fail
    go_region
    go_wp2_with fail
    refine (next_any _ _ _ _ _ _ _ _ _ _ H.out).mono ?_
    rintro e w1 ⟨rfl, rfl⟩
    have n0 := HN.out.cell 0
    simp only [List.getElem?_toArray, List.getElem?_cons_succ, List.getElem?_cons_zero] at n0
    go_wp2_with fail
    go_end0
    exact ⟨rfl, _, H.out.cast (by simp [flat] <;> omega) (by simp [code]), HF.out⟩
  | bgn =>
    intro i S v w hat hS h
    have hlt := hat.lt
    have hpos := flat_pos .bgn
    have hil : (i : Int) < (l.length : Int) := by omega
    have hi0 : (0 : Int) ≤ (i : Int) := by omega
    have c0 := fun o => (h.alloc o).mb.cell 0
    have c1 := fun o => (h.alloc o).mb.cell 1
    have d0 := h.mb.cell 0
    have d1 := h.mb.cell 1
    simp only [List.getElem?_toArray, List.getElem?_cons_succ, List.getElem?_cons_zero] at c0 c1 d0 d1
    have qq := fun o => HCELL.out _ (h.alloc o).bel i _ hat.bgn
    have HN : Hid (Blk (((w.setCell ⟨M, 1, none⟩ (.int .i64 ((i : Int) + 1))).alloc (.cells #[.int .i64 8, .int .u64 ((0 : Nat) : Int), .int .u64 ((0 : Nat) : Int), .int .u64 ((0 : Nat) : Int), .int .u64 ((0 : Nat) : Int)] 33)).drew) w.heap.size 33 #[.int .i64 8, .int .u64 ((0 : Nat) : Int), .int .u64 ((0 : Nat) : Int), .int .u64 ((0 : Nat) : Int), .int .u64 ((0 : Nat) : Int)]) := Lib.hid (blk_at _ _ (by simp) _ _)
    have H := Lib.hid (((h.at_ (i + 1) ((i : Int) + 1) (by simp)).alloc (.cells #[.int .i64 8, .int .u64 ((0 : Nat) : Int), .int .u64 ((0 : Nat) : Int), .int .u64 ((0 : Nat) : Int), .int .u64 ((0 : Nat) : Int)] 33)).drew)
    have HF := Lib.hid ((Fm.setM M w 1 (.int .i64 ((i : Int) + 1))).trans (Fm.below (M := M) (((Below.refl _ _).alloc (Nat.le_refl _) (.cells #[.int .i64 8, .int .u64 ((0 : Nat) : Int), .int .u64 ((0 : Nat) : Int), .int .u64 ((0 : Nat) : Int), .int .u64 ((0 : Nat) : Int)] 33)).drew)))
    obtain ⟨q0, q1, q2, q3, q4⟩ := HCELL.out _ h.bel i _ hat.bgn
    have r0 := fun o => (qq o).1
    have r1 := fun o => (qq o).2.1
    have r2 := fun o => (qq o).2.2.1
    have r3 := fun o => (qq o).2.2.2.1
    have r4 := fun o => (qq o).2.2.2.2
    dsimp only [zc] at q0 q1 q2 q3 q4 r0 r1 r2 r3 r4
    have z1 := fun o => (h.alloc o).mb.frozen 1
    have hMw := h.mb.lt
    clear h qq hat
    go_enter Try.func16, Try.ntmps16
    go_wp2_with fail
    go_region
    go_wp2_with fail
    refine (next_any _ _ _ _ _ _ _ _ _ _ H.out).mono ?_
    rintro e w1 ⟨rfl, rfl⟩
    have n0 := HN.out.cell 0
    simp only [List.getElem?_toArray, List.getElem?_cons_succ, List.getElem?_cons_zero] at n0
    go_wp2_with fail
    refine (emit_any _ _ _ _ _ _ _ S _ 3 ((S.length : Int) + 1) 0 0 0 0 0 _ (by simp [sz] at hS; omega) H.out).mono ?_
    rintro e w2 ⟨rfl, v2, henv, hfm⟩
    have HE2 := Lib.hid henv
    have HF2 := Lib.hid (HF.out.trans hfm)
    clear henv hfm
    go_wp2_with fail
    go_end0
    exact ⟨rfl, _, HE2.out.cast (by simp [flat] <;> omega) (by simp [code, zc]), HF2.out⟩
  | fin =>
    intro i S v w hat hS h
    have hlt := hat.lt
    have hpos := flat_pos .fin
    have hil : (i : Int) < (l.length : Int) := by omega
    have hi0 : (0 : Int) ≤ (i : Int) := by omega
    have c0 := fun o => (h.alloc o).mb.cell 0
    have c1 := fun o => (h.alloc o).mb.cell 1
    have d0 := h.mb.cell 0
    have d1 := h.mb.cell 1
    simp only [List.getElem?_toArray, List.getElem?_cons_succ, List.getElem?_cons_zero] at c0 c1 d0 d1
    have qq := fun o => HCELL.out _ (h.alloc o).bel i _ hat.fin
    have HN : Hid (Blk (((w.setCell ⟨M, 1, none⟩ (.int .i64 ((i : Int) + 1))).alloc (.cells #[.int .i64 9, .int .u64 ((0 : Nat) : Int), .int .u64 ((0 : Nat) : Int), .int .u64 ((0 : Nat) : Int), .int .u64 ((0 : Nat) : Int)] 33)).drew) w.heap.size 33 #[.int .i64 9, .int .u64 ((0 : Nat) : Int), .int .u64 ((0 : Nat) : Int), .int .u64 ((0 : Nat) : Int), .int .u64 ((0 : Nat) : Int)]) := Lib.hid (blk_at _ _ (by simp) _ _)
    have H := Lib.hid (((h.at_ (i + 1) ((i : Int) + 1) (by simp)).alloc (.cells #[.int .i64 9, .int .u64 ((0 : Nat) : Int), .int .u64 ((0 : Nat) : Int), .int .u64 ((0 : Nat) : Int), .int .u64 ((0 : Nat) : Int)] 33)).drew)
    have HF := Lib.hid ((Fm.setM M w 1 (.int .i64 ((i : Int) + 1))).trans (Fm.below (M := M) (((Below.refl _ _).alloc (Nat.le_refl _) (.cells #[.int .i64 9, .int .u64 ((0 : Nat) : Int), .int .u64 ((0 : Nat) : Int), .int .u64 ((0 : Nat) : Int), .int .u64 ((0 : Nat) : Int)] 33)).drew)))
    obtain ⟨q0, q1, q2, q3, q4⟩ := HCELL.out _ h.bel i _ hat.fin
    have r0 := fun o => (qq o).1
    have r1 := fun o => (qq o).2.1
    have r2 := fun o => (qq o).2.2.1
    have r3 := fun o => (qq o).2.2.2.1
    have r4 := fun o => (qq o).2.2.2.2
    dsimp only [zc] at q0 q1 q2 q3 q4 r0 r1 r2 r3 r4
    have z1 := fun o => (h.alloc o).mb.frozen 1
    have hMw := h.mb.lt
    clear h qq hat
    go_enter Try.func16, Try.ntmps16
    go_wp2_with fail
    go_region
    go_wp2_with fail
    refine (next_any _ _ _ _ _ _ _ _ _ _ H.out).mono ?_
    rintro e w1 ⟨rfl, rfl⟩
    have n0 := HN.out.cell 0
    simp only [List.getElem?_toArray, List.getElem?_cons_succ, List.getElem?_cons_zero] at n0
    go_wp2_with fail
    refine (emit_any _ _ _ _ _ _ _ S _ 4 ((S.length : Int) + 1) 0 0 0 0 0 _ (by simp [sz] at hS; omega) H.out).mono ?_
    rintro e w2 ⟨rfl, v2, henv, hfm⟩
    have HE2 := Lib.hid henv
    have HF2 := Lib.hid (HF.out.trans hfm)
    clear henv hfm
    go_wp2_with fail
    go_end0
    exact ⟨rfl, _, HE2.out.cast (by simp [flat] <;> omega) (by simp [code, zc]), HF2.out⟩
  | cat a b iha ihb =>
    intro i S v w hat hS h
    have hlt := hat.lt
    have HIA := Lib.hid iha
    have HIB := Lib.hid ihb
    have HAT := Lib.hid hat
    simp only [sz] at hS
    clear iha ihb
    have hpos := flat_pos (.cat a b)
    have hil : (i : Int) < (l.length : Int) := by omega
    have hi0 : (0 : Int) ≤ (i : Int) := by omega
    have c0 := fun o => (h.alloc o).mb.cell 0
    have c1 := fun o => (h.alloc o).mb.cell 1
    have d0 := h.mb.cell 0
    have d1 := h.mb.cell 1
    simp only [List.getElem?_toArray, List.getElem?_cons_succ, List.getElem?_cons_zero] at c0 c1 d0 d1
    have qq := fun o => HCELL.out _ (h.alloc o).bel i _ hat.cat.1
    have HN : Hid (Blk (((w.setCell ⟨M, 1, none⟩ (.int .i64 ((i : Int) + 1))).alloc (.cells #[.int .i64 3, .int .u64 ((0 : Nat) : Int), .int .u64 ((0 : Nat) : Int), .int .u64 ((0 : Nat) : Int), .int .u64 ((0 : Nat) : Int)] 33)).drew) w.heap.size 33 #[.int .i64 3, .int .u64 ((0 : Nat) : Int), .int .u64 ((0 : Nat) : Int), .int .u64 ((0 : Nat) : Int), .int .u64 ((0 : Nat) : Int)]) := Lib.hid (blk_at _ _ (by simp) _ _)
    have H := Lib.hid (((h.at_ (i + 1) ((i : Int) + 1) (by simp)).alloc (.cells #[.int .i64 3, .int .u64 ((0 : Nat) : Int), .int .u64 ((0 : Nat) : Int), .int .u64 ((0 : Nat) : Int), .int .u64 ((0 : Nat) : Int)] 33)).drew)
    have HF := Lib.hid ((Fm.setM M w 1 (.int .i64 ((i : Int) + 1))).trans (Fm.below (M := M) (((Below.refl _ _).alloc (Nat.le_refl _) (.cells #[.int .i64 3, .int .u64 ((0 : Nat) : Int), .int .u64 ((0 : Nat) : Int), .int .u64 ((0 : Nat) : Int), .int .u64 ((0 : Nat) : Int)] 33)).drew)))
    obtain ⟨q0, q1, q2, q3, q4⟩ := HCELL.out _ h.bel i _ hat.cat.1
    have r0 := fun o => (qq o).1
    have r1 := fun o => (qq o).2.1
    have r2 := fun o => (qq o).2.2.1
    have r3 := fun o => (qq o).2.2.2.1
    have r4 := fun o => (qq o).2.2.2.2
    dsimp only [zc] at q0 q1 q2 q3 q4 r0 r1 r2 r3 r4
    have z1 := fun o => (h.alloc o).mb.frozen 1
    have hMw := h.mb.lt
    clear h qq hat
    go_enter Try.func16, Try.ntmps16
    go_wp2_with fail
    go_region
    go_wp2_with fail
    refine (next_any _ _ _ _ _ _ _ _ _ _ H.out).mono ?_
    rintro e w1 ⟨rfl, rfl⟩
    have n0 := HN.out.cell 0
    simp only [List.getElem?_toArray, List.getElem?_cons_succ, List.getElem?_cons_zero] at n0
    go_wp2_with fail
    refine (HIA.out (i + 1) S v _ HAT.out.cat.2.1 (by omega) H.out).mono ?_
    rintro e w2 ⟨rfl, v2, henv, hfm⟩
    have HE2 := Lib.hid henv
    have HF2 := Lib.hid (HF.out.trans hfm)
    clear henv hfm
    go_wp2_with fail
    refine (HIB.out (i + 1 + (flat a).length) (S ++ code a S.length) v2 _ HAT.out.cat.2.2 (by rw [List.length_append, code_len]; omega) HE2.out).mono ?_
    rintro e w3 ⟨rfl, v3, henv, hfm⟩
    have HE3 := Lib.hid henv
    have HF3 := Lib.hid (HF2.out.trans hfm)
    clear henv hfm
    go_wp2_with fail
    go_end0
    exact ⟨rfl, _, HE3.out.cast (by simp [flat] <;> omega) (by simp [code, code_len]), HF3.out⟩
  | plus a iha =>
    intro i S v w hat hS h
    have hlt := hat.lt
    have HIA := Lib.hid iha
    have HAT := Lib.hid hat
    simp only [sz] at hS
    clear iha
    have hpos := flat_pos (.plus a)
    have hil : (i : Int) < (l.length : Int) := by omega
    have hi0 : (0 : Int) ≤ (i : Int) := by omega
    have c0 := fun o => (h.alloc o).mb.cell 0
    have c1 := fun o => (h.alloc o).mb.cell 1
    have d0 := h.mb.cell 0
    have d1 := h.mb.cell 1
    simp only [List.getElem?_toArray, List.getElem?_cons_succ, List.getElem?_cons_zero] at c0 c1 d0 d1
    have qq := fun o => HCELL.out _ (h.alloc o).bel i _ hat.plus.1
    have HN : Hid (Blk (((w.setCell ⟨M, 1, none⟩ (.int .i64 ((i : Int) + 1))).alloc (.cells #[.int .i64 6, .int .u64 ((0 : Nat) : Int), .int .u64 ((0 : Nat) : Int), .int .u64 ((0 : Nat) : Int), .int .u64 ((0 : Nat) : Int)] 33)).drew) w.heap.size 33 #[.int .i64 6, .int .u64 ((0 : Nat) : Int), .int .u64 ((0 : Nat) : Int), .int .u64 ((0 : Nat) : Int), .int .u64 ((0 : Nat) : Int)]) := Lib.hid (blk_at _ _ (by simp) _ _)
    have H := Lib.hid (((h.at_ (i + 1) ((i : Int) + 1) (by simp)).alloc (.cells #[.int .i64 6, .int .u64 ((0 : Nat) : Int), .int .u64 ((0 : Nat) : Int), .int .u64 ((0 : Nat) : Int), .int .u64 ((0 : Nat) : Int)] 33)).drew)
    have HF := Lib.hid ((Fm.setM M w 1 (.int .i64 ((i : Int) + 1))).trans (Fm.below (M := M) (((Below.refl _ _).alloc (Nat.le_refl _) (.cells #[.int .i64 6, .int .u64 ((0 : Nat) : Int), .int .u64 ((0 : Nat) : Int), .int .u64 ((0 : Nat) : Int), .int .u64 ((0 : Nat) : Int)] 33)).drew)))
    obtain ⟨q0, q1, q2, q3, q4⟩ := HCELL.out _ h.bel i _ hat.plus.1
    have r0 := fun o => (qq o).1
    have r1 := fun o => (qq o).2.1
    have r2 := fun o => (qq o).2.2.1
    have r3 := fun o => (qq o).2.2.2.1
    have r4 := fun o => (qq o).2.2.2.2
    dsimp only [zc] at q0 q1 q2 q3 q4 r0 r1 r2 r3 r4
    have z1 := fun o => (h.alloc o).mb.frozen 1
    have hMw := h.mb.lt
    clear h qq hat
    go_enter Try.func16, Try.ntmps16
    go_wp2_with fail
    go_region
    go_wp2_with fail
    refine (next_any _ _ _ _ _ _ _ _ _ _ H.out).mono ?_
    rintro e w1 ⟨rfl, rfl⟩
    have n0 := HN.out.cell 0
    simp only [List.getElem?_toArray, List.getElem?_cons_succ, List.getElem?_cons_zero] at n0
    have HG1 := Lib.hid (Fm.refl M ((w.setCell ⟨M, 1, none⟩ (.int .i64 ((i : Int) + 1))).alloc (.cells #[.int .i64 6, .int .u64 ((0 : Nat) : Int), .int .u64 ((0 : Nat) : Int), .int .u64 ((0 : Nat) : Int), .int .u64 ((0 : Nat) : Int)] 33)).drew)
    go_wp2_with fail
    refine (HIA.out (i + 1) S v _ HAT.out.plus.2 (by omega) H.out).mono ?_
    rintro e w2 ⟨rfl, v2, henv, hfm⟩
    obtain ⟨S2, hS2⟩ : ∃ X, X = S ++ code a S.length := ⟨_, rfl⟩
    have HS2 := Lib.hid hS2
    have HL2 : Hid (S2.length = S.length + sz a) := Lib.hid (by rw [hS2]; simp [code_len]; try omega)
    rw [← hS2] at henv
    clear hS2
    have hB2 : S2.length ≤ 1000 := by have := HL2.out; first | omega | (have := HL2.out; omega) | (have := HL2.out; have := HL3.out; omega) | (have := HL2.out; have := HL3.out; have := HL4.out; omega)
    have HE2 := Lib.hid henv
    have HG2 := Lib.hid (HG1.out.trans hfm)
    clear henv hfm
    go_wp2_with fail
    refine (next_any _ _ _ _ _ _ _ _ _ _ HE2.out).mono ?_
    rintro e w3 ⟨rfl, rfl⟩
    go_wp2_with fail
    refine (emit_any _ _ _ _ _ _ _ S2 _ 2 (S.length : Int) ((S2.length : Int) + 1) 0 0 0 0 _ (by have := HL2.out; omega) HE2.out).mono ?_
    rintro e w4 ⟨rfl, v4, henv, hfm⟩
    obtain ⟨S4, hS4⟩ : ∃ X, X = S2 ++ [⟨2, (0, 0, 0, 0), (S.length : Int), (S2.length : Int) + 1⟩] := ⟨_, rfl⟩
    have HS4 := Lib.hid hS4
    have HL4 : Hid (S4.length = S2.length + 1) := Lib.hid (by rw [hS4]; simp [code_len]; try omega)
    rw [← hS4] at henv
    clear hS4
    have hB4 : S4.length ≤ 1000 := by have := HL4.out; first | omega | (have := HL2.out; omega) | (have := HL2.out; have := HL3.out; omega) | (have := HL2.out; have := HL3.out; have := HL4.out; omega)
    have HE4 := Lib.hid henv
    have HG4 := Lib.hid (HG2.out.trans hfm)
    clear henv hfm
    go_wp2_with fail
    go_end0
    exact ⟨rfl, _, HE4.out.cast (by simp [flat] <;> omega) (by rw [HS4.out, HL2.out, HS2.out]; simp [code, code_len, zc]), (HF.out.trans HG4.out)⟩
  | opt a iha =>
    intro i S v w hat hS h
    have hlt := hat.lt
    have HIA := Lib.hid iha
    have HAT := Lib.hid hat
    simp only [sz] at hS
    clear iha
    have hpos := flat_pos (.opt a)
    have hil : (i : Int) < (l.length : Int) := by omega
    have hi0 : (0 : Int) ≤ (i : Int) := by omega
    have c0 := fun o => (h.alloc o).mb.cell 0
    have c1 := fun o => (h.alloc o).mb.cell 1
    have d0 := h.mb.cell 0
    have d1 := h.mb.cell 1
    simp only [List.getElem?_toArray, List.getElem?_cons_succ, List.getElem?_cons_zero] at c0 c1 d0 d1
    have qq := fun o => HCELL.out _ (h.alloc o).bel i _ hat.opt.1
    have HN : Hid (Blk (((w.setCell ⟨M, 1, none⟩ (.int .i64 ((i : Int) + 1))).alloc (.cells #[.int .i64 7, .int .u64 ((0 : Nat) : Int), .int .u64 ((0 : Nat) : Int), .int .u64 ((0 : Nat) : Int), .int .u64 ((0 : Nat) : Int)] 33)).drew) w.heap.size 33 #[.int .i64 7, .int .u64 ((0 : Nat) : Int), .int .u64 ((0 : Nat) : Int), .int .u64 ((0 : Nat) : Int), .int .u64 ((0 : Nat) : Int)]) := Lib.hid (blk_at _ _ (by simp) _ _)
    have H := Lib.hid (((h.at_ (i + 1) ((i : Int) + 1) (by simp)).alloc (.cells #[.int .i64 7, .int .u64 ((0 : Nat) : Int), .int .u64 ((0 : Nat) : Int), .int .u64 ((0 : Nat) : Int), .int .u64 ((0 : Nat) : Int)] 33)).drew)
    have HF := Lib.hid ((Fm.setM M w 1 (.int .i64 ((i : Int) + 1))).trans (Fm.below (M := M) (((Below.refl _ _).alloc (Nat.le_refl _) (.cells #[.int .i64 7, .int .u64 ((0 : Nat) : Int), .int .u64 ((0 : Nat) : Int), .int .u64 ((0 : Nat) : Int), .int .u64 ((0 : Nat) : Int)] 33)).drew)))
    obtain ⟨q0, q1, q2, q3, q4⟩ := HCELL.out _ h.bel i _ hat.opt.1
    have r0 := fun o => (qq o).1
    have r1 := fun o => (qq o).2.1
    have r2 := fun o => (qq o).2.2.1
    have r3 := fun o => (qq o).2.2.2.1
    have r4 := fun o => (qq o).2.2.2.2
    dsimp only [zc] at q0 q1 q2 q3 q4 r0 r1 r2 r3 r4
    have z1 := fun o => (h.alloc o).mb.frozen 1
    have hMw := h.mb.lt
    clear h qq hat
    go_enter Try.func16, Try.ntmps16
    go_wp2_with fail
    go_region
    go_wp2_with fail
    refine (next_any _ _ _ _ _ _ _ _ _ _ H.out).mono ?_
    rintro e w1 ⟨rfl, rfl⟩
    have n0 := HN.out.cell 0
    simp only [List.getElem?_toArray, List.getElem?_cons_succ, List.getElem?_cons_zero] at n0
    have HG1 := Lib.hid (Fm.refl M ((w.setCell ⟨M, 1, none⟩ (.int .i64 ((i : Int) + 1))).alloc (.cells #[.int .i64 7, .int .u64 ((0 : Nat) : Int), .int .u64 ((0 : Nat) : Int), .int .u64 ((0 : Nat) : Int), .int .u64 ((0 : Nat) : Int)] 33)).drew)
    go_wp2_with fail
    refine (emit_any _ _ _ _ _ _ _ S _ 2 ((S.length : Int) + 1) 0 0 0 0 0 _ (by omega) H.out).mono ?_
    rintro e w2 ⟨rfl, v2, henv, hfm⟩
    obtain ⟨S2, hS2⟩ : ∃ X, X = S ++ [⟨2, (0, 0, 0, 0), (S.length : Int) + 1, 0⟩] := ⟨_, rfl⟩
    have HS2 := Lib.hid hS2
    have HL2 : Hid (S2.length = S.length + 1) := Lib.hid (by rw [hS2]; simp [code_len]; try omega)
    rw [← hS2] at henv
    clear hS2
    have hB2 : S2.length ≤ 1000 := by have := HL2.out; first | omega | (have := HL2.out; omega) | (have := HL2.out; have := HL3.out; omega) | (have := HL2.out; have := HL3.out; have := HL4.out; omega)
    have HE2 := Lib.hid henv
    have HG2 := Lib.hid (HG1.out.trans hfm)
    clear henv hfm
    go_wp2_with fail
    refine (HIA.out (i + 1) S2 _ _ HAT.out.opt.2 (by have := HL2.out; omega) HE2.out).mono ?_
    rintro e w3 ⟨rfl, v3, henv, hfm⟩
    obtain ⟨S3, hS3⟩ : ∃ X, X = S2 ++ code a S2.length := ⟨_, rfl⟩
    have HS3 := Lib.hid hS3
    have HL3 : Hid (S3.length = S.length + 1 + sz a) := Lib.hid (by rw [hS3]; simp [code_len, HL2.out]; try omega)
    rw [← hS3] at henv
    clear hS3
    have hB3 : S3.length ≤ 1000 := by have := HL3.out; first | omega | (have := HL2.out; omega) | (have := HL2.out; have := HL3.out; omega) | (have := HL2.out; have := HL3.out; have := HL4.out; omega)
    have HE3 := Lib.hid henv
    have HG3 := Lib.hid (HG2.out.trans hfm)
    clear henv hfm
    have n0' := (Blk.fm HN.out HG3.out (by decide) (by omega)).cell 0
    simp only [List.getElem?_toArray, List.getElem?_cons_succ, List.getElem?_cons_zero] at n0'
    obtain ⟨g, c, rfl⟩ := HE3.out.form (by have := HL3.out; omega)
    obtain ⟨a1, a2, a3, a4, a5, a6⟩ := HE3.out.step
    have hk : S3[S.length]? = some ⟨2, (0, 0, 0, 0), (S.length : Int) + 1, 0⟩ := by rw [HS3.out, HS2.out]; simp
    obtain ⟨b5, b6⟩ := a6 _ _ hk
    have z6 := a5 (S.length * 7 + 6)
    have z5 := a5 (S.length * 7 + 5)
    have m2 := HE3.out.mb.cell 2
    simp only [List.getElem?_toArray, List.getElem?_cons_succ, List.getElem?_cons_zero] at m2
    have i1 : ((S.length : Nat) : Int) < (S3.length : Int) := by have := HL3.out; omega
    have i0 : (0 : Int) ≤ ((S.length : Nat) : Int) := by omega
    have HK := Lib.hid hk
    clear a5 a6 hk
    go_wp2_with fail
    have m2a : w3.drew.cell? ⟨M, 2, none⟩ = some (.slice (some ⟨g, 0, none⟩) S3.length c) := m2
    have m2b : ∀ u, (w3.drew.setCell ⟨g, S.length * 7 + 6, none⟩ u).cell? ⟨M, 2, none⟩ = some (.slice (some ⟨g, 0, none⟩) S3.length c) := fun u => (World.cell?_setCell_other _ _ _ _ (by simp <;> omega)).trans m2
    have HNX := Lib.hid (next_any _ _ _ _ _ _ _ S3 (.slice (some ⟨g, 0, none⟩) S3.length c) _ HE3.out.drew)
    go_region_held3 (fun w' => w'.cell? ⟨M, 2, none⟩ = some (.slice (some ⟨g, 0, none⟩) S3.length c)) (first | exact m2a | exact m2b _) (first | (go_at_call 29; refine HNX.out.mono ?_; rintro e w' ⟨rfl, rfl⟩))
    clear m2a m2b
    all_goals (
      go_wp2_with fail
      go_end0
      exact ⟨rfl, _, (by first | exact (HE3.out.drew.setY HK.out (S3.length : Int)).cast rfl rfl | exact ((HE3.out.setY HK.out (S3.length : Int)).drew).cast rfl rfl : MEnv _ _ _ _ _ _ _ (S3.set S.length ⟨2, (0, 0, 0, 0), (S.length : Int) + 1, (S3.length : Int)⟩) _ _).cast (by simp [flat] <;> omega) (by rw [HL3.out, HS3.out, HS2.out, set_mid]; simp [code, zc]), HF.out.trans ((HG3.out.trans (Fm.below (Below.refl _ _).drew)).trans (Fm.row HE3.out.drew.row _ _))⟩)
  | star a iha =>
    intro i S v w hat hS h
    have hlt := hat.lt
    have HIA := Lib.hid iha
    have HAT := Lib.hid hat
    simp only [sz] at hS
    clear iha
    have hpos := flat_pos (.star a)
    have hil : (i : Int) < (l.length : Int) := by omega
    have hi0 : (0 : Int) ≤ (i : Int) := by omega
    have c0 := fun o => (h.alloc o).mb.cell 0
    have c1 := fun o => (h.alloc o).mb.cell 1
    have d0 := h.mb.cell 0
    have d1 := h.mb.cell 1
    simp only [List.getElem?_toArray, List.getElem?_cons_succ, List.getElem?_cons_zero] at c0 c1 d0 d1
    have qq := fun o => HCELL.out _ (h.alloc o).bel i _ hat.star.1
    have HN : Hid (Blk (((w.setCell ⟨M, 1, none⟩ (.int .i64 ((i : Int) + 1))).alloc (.cells #[.int .i64 5, .int .u64 ((0 : Nat) : Int), .int .u64 ((0 : Nat) : Int), .int .u64 ((0 : Nat) : Int), .int .u64 ((0 : Nat) : Int)] 33)).drew) w.heap.size 33 #[.int .i64 5, .int .u64 ((0 : Nat) : Int), .int .u64 ((0 : Nat) : Int), .int .u64 ((0 : Nat) : Int), .int .u64 ((0 : Nat) : Int)]) := Lib.hid (blk_at _ _ (by simp) _ _)
    have H := Lib.hid (((h.at_ (i + 1) ((i : Int) + 1) (by simp)).alloc (.cells #[.int .i64 5, .int .u64 ((0 : Nat) : Int), .int .u64 ((0 : Nat) : Int), .int .u64 ((0 : Nat) : Int), .int .u64 ((0 : Nat) : Int)] 33)).drew)
    have HF := Lib.hid ((Fm.setM M w 1 (.int .i64 ((i : Int) + 1))).trans (Fm.below (M := M) (((Below.refl _ _).alloc (Nat.le_refl _) (.cells #[.int .i64 5, .int .u64 ((0 : Nat) : Int), .int .u64 ((0 : Nat) : Int), .int .u64 ((0 : Nat) : Int), .int .u64 ((0 : Nat) : Int)] 33)).drew)))
    obtain ⟨q0, q1, q2, q3, q4⟩ := HCELL.out _ h.bel i _ hat.star.1
    have r0 := fun o => (qq o).1
    have r1 := fun o => (qq o).2.1
    have r2 := fun o => (qq o).2.2.1
    have r3 := fun o => (qq o).2.2.2.1
    have r4 := fun o => (qq o).2.2.2.2
    dsimp only [zc] at q0 q1 q2 q3 q4 r0 r1 r2 r3 r4
    have z1 := fun o => (h.alloc o).mb.frozen 1
    have hMw := h.mb.lt
    clear h qq hat
    go_enter Try.func16, Try.ntmps16
    go_wp2_with fail
    go_region
    go_wp2_with fail
    refine (next_any _ _ _ _ _ _ _ _ _ _ H.out).mono ?_
    rintro e w1 ⟨rfl, rfl⟩
    have n0 := HN.out.cell 0
    simp only [List.getElem?_toArray, List.getElem?_cons_succ, List.getElem?_cons_zero] at n0
    have HG1 := Lib.hid (Fm.refl M ((w.setCell ⟨M, 1, none⟩ (.int .i64 ((i : Int) + 1))).alloc (.cells #[.int .i64 5, .int .u64 ((0 : Nat) : Int), .int .u64 ((0 : Nat) : Int), .int .u64 ((0 : Nat) : Int), .int .u64 ((0 : Nat) : Int)] 33)).drew)
    go_wp2_with fail
    refine (emit_any _ _ _ _ _ _ _ S _ 2 ((S.length : Int) + 1) 0 0 0 0 0 _ (by omega) H.out).mono ?_
    rintro e w2 ⟨rfl, v2, henv, hfm⟩
    obtain ⟨S2, hS2⟩ : ∃ X, X = S ++ [⟨2, (0, 0, 0, 0), (S.length : Int) + 1, 0⟩] := ⟨_, rfl⟩
    have HS2 := Lib.hid hS2
    have HL2 : Hid (S2.length = S.length + 1) := Lib.hid (by rw [hS2]; simp [code_len]; try omega)
    rw [← hS2] at henv
    clear hS2
    have hB2 : S2.length ≤ 1000 := by have := HL2.out; first | omega | (have := HL2.out; omega) | (have := HL2.out; have := HL3.out; omega) | (have := HL2.out; have := HL3.out; have := HL4.out; omega)
    have HE2 := Lib.hid henv
    have HG2 := Lib.hid (HG1.out.trans hfm)
    clear henv hfm
    go_wp2_with fail
    refine (HIA.out (i + 1) S2 _ _ HAT.out.star.2 (by have := HL2.out; omega) HE2.out).mono ?_
    rintro e w3 ⟨rfl, v3, henv, hfm⟩
    obtain ⟨S3, hS3⟩ : ∃ X, X = S2 ++ code a S2.length := ⟨_, rfl⟩
    have HS3 := Lib.hid hS3
    have HL3 : Hid (S3.length = S.length + 1 + sz a) := Lib.hid (by rw [hS3]; simp [code_len, HL2.out]; try omega)
    rw [← hS3] at henv
    clear hS3
    have hB3 : S3.length ≤ 1000 := by have := HL3.out; first | omega | (have := HL2.out; omega) | (have := HL2.out; have := HL3.out; omega) | (have := HL2.out; have := HL3.out; have := HL4.out; omega)
    have HE3 := Lib.hid henv
    have HG3 := Lib.hid (HG2.out.trans hfm)
    clear henv hfm
    have n0' := (Blk.fm HN.out HG3.out (by decide) (by omega)).cell 0
    simp only [List.getElem?_toArray, List.getElem?_cons_succ, List.getElem?_cons_zero] at n0'
    go_wp2_with fail
    refine (next_any _ _ _ _ _ _ _ _ _ _ HE3.out).mono ?_
    rintro e w3' ⟨rfl, rfl⟩
    go_wp2_with fail
    refine (emit_any _ _ _ _ _ _ _ S3 _ 2 ((S.length : Int) + 1) ((S3.length : Int) + 1) 0 0 0 0 _ (by have := HL3.out; omega) HE3.out).mono ?_
    rintro e w4 ⟨rfl, v4, henv, hfm⟩
    obtain ⟨S4, hS4⟩ : ∃ X, X = S3 ++ [⟨2, (0, 0, 0, 0), (S.length : Int) + 1, (S3.length : Int) + 1⟩] := ⟨_, rfl⟩
    have HS4 := Lib.hid hS4
    have HL4 : Hid (S4.length = S3.length + 1) := Lib.hid (by rw [hS4]; simp [code_len]; try omega)
    rw [← hS4] at henv
    clear hS4
    have hB4 : S4.length ≤ 1000 := by have := HL4.out; first | omega | (have := HL2.out; omega) | (have := HL2.out; have := HL3.out; omega) | (have := HL2.out; have := HL3.out; have := HL4.out; omega)
    have HE4 := Lib.hid henv
    have HG4 := Lib.hid (HG3.out.trans hfm)
    clear henv hfm
    obtain ⟨g, c, rfl⟩ := HE4.out.form (by have := HL4.out; have := HL3.out; omega)
    obtain ⟨a1, a2, a3, a4, a5, a6⟩ := HE4.out.step
    have hk : S4[S.length]? = some ⟨2, (0, 0, 0, 0), (S.length : Int) + 1, 0⟩ := by rw [HS4.out, HS3.out, HS2.out]; simp
    obtain ⟨b5, b6⟩ := a6 _ _ hk
    have z6 := a5 (S.length * 7 + 6)
    have z5 := a5 (S.length * 7 + 5)
    have m2 := HE4.out.mb.cell 2
    simp only [List.getElem?_toArray, List.getElem?_cons_succ, List.getElem?_cons_zero] at m2
    have i1 : ((S.length : Nat) : Int) < (S4.length : Int) := by have := HL4.out; have := HL3.out; omega
    have i0 : (0 : Int) ≤ ((S.length : Nat) : Int) := by omega
    have HK := Lib.hid hk
    clear a5 a6 hk
    go_wp2_with fail
    have m2a : w4.drew.cell? ⟨M, 2, none⟩ = some (.slice (some ⟨g, 0, none⟩) S4.length c) := m2
    have m2b : ∀ u, (w4.drew.setCell ⟨g, S.length * 7 + 6, none⟩ u).cell? ⟨M, 2, none⟩ = some (.slice (some ⟨g, 0, none⟩) S4.length c) := fun u => (World.cell?_setCell_other _ _ _ _ (by simp <;> omega)).trans m2
    have HNX := Lib.hid (next_any _ _ _ _ _ _ _ S4 (.slice (some ⟨g, 0, none⟩) S4.length c) _ HE4.out.drew)
    go_region_held3 (fun w' => w'.cell? ⟨M, 2, none⟩ = some (.slice (some ⟨g, 0, none⟩) S4.length c)) (first | exact m2a | exact m2b _) (first | (go_at_call 29; refine HNX.out.mono ?_; rintro e w' ⟨rfl, rfl⟩))
    clear m2a m2b
    all_goals (
      go_wp2_with fail
      go_end0
      exact ⟨rfl, _, (by first | exact (HE4.out.drew.setY HK.out (S4.length : Int)).cast rfl rfl | exact ((HE4.out.setY HK.out (S4.length : Int)).drew).cast rfl rfl : MEnv _ _ _ _ _ _ _ (S4.set S.length ⟨2, (0, 0, 0, 0), (S.length : Int) + 1, (S4.length : Int)⟩) _ _).cast (by simp [flat] <;> omega) (by rw [HL4.out, HL3.out, HS4.out, HL3.out, HS3.out, HS2.out, List.append_assoc (S ++ [_]), set_mid]; simp [code, zc]), HF.out.trans ((HG4.out.trans (Fm.below (Below.refl _ _).drew)).trans (Fm.row HE4.out.drew.row _ _))⟩)
  | alt a b iha ihb =>
    intro i S v w hat hS h
    have hlt := hat.lt
    have HIA := Lib.hid iha
    have HIB := Lib.hid ihb
    have HAT := Lib.hid hat
    simp only [sz] at hS
    clear iha ihb
    have hpos := flat_pos (.alt a b)
    have hil : (i : Int) < (l.length : Int) := by omega
    have hi0 : (0 : Int) ≤ (i : Int) := by omega
    have c0 := fun o => (h.alloc o).mb.cell 0
    have c1 := fun o => (h.alloc o).mb.cell 1
    have d0 := h.mb.cell 0
    have d1 := h.mb.cell 1
    simp only [List.getElem?_toArray, List.getElem?_cons_succ, List.getElem?_cons_zero] at c0 c1 d0 d1
    have qq := fun o => HCELL.out _ (h.alloc o).bel i _ hat.alt.1
    have HN : Hid (Blk (((w.setCell ⟨M, 1, none⟩ (.int .i64 ((i : Int) + 1))).alloc (.cells #[.int .i64 4, .int .u64 ((0 : Nat) : Int), .int .u64 ((0 : Nat) : Int), .int .u64 ((0 : Nat) : Int), .int .u64 ((0 : Nat) : Int)] 33)).drew) w.heap.size 33 #[.int .i64 4, .int .u64 ((0 : Nat) : Int), .int .u64 ((0 : Nat) : Int), .int .u64 ((0 : Nat) : Int), .int .u64 ((0 : Nat) : Int)]) := Lib.hid (blk_at _ _ (by simp) _ _)
    have H := Lib.hid (((h.at_ (i + 1) ((i : Int) + 1) (by simp)).alloc (.cells #[.int .i64 4, .int .u64 ((0 : Nat) : Int), .int .u64 ((0 : Nat) : Int), .int .u64 ((0 : Nat) : Int), .int .u64 ((0 : Nat) : Int)] 33)).drew)
    have HF := Lib.hid ((Fm.setM M w 1 (.int .i64 ((i : Int) + 1))).trans (Fm.below (M := M) (((Below.refl _ _).alloc (Nat.le_refl _) (.cells #[.int .i64 4, .int .u64 ((0 : Nat) : Int), .int .u64 ((0 : Nat) : Int), .int .u64 ((0 : Nat) : Int), .int .u64 ((0 : Nat) : Int)] 33)).drew)))
    obtain ⟨q0, q1, q2, q3, q4⟩ := HCELL.out _ h.bel i _ hat.alt.1
    have r0 := fun o => (qq o).1
    have r1 := fun o => (qq o).2.1
    have r2 := fun o => (qq o).2.2.1
    have r3 := fun o => (qq o).2.2.2.1
    have r4 := fun o => (qq o).2.2.2.2
    dsimp only [zc] at q0 q1 q2 q3 q4 r0 r1 r2 r3 r4
    have z1 := fun o => (h.alloc o).mb.frozen 1
    have hMw := h.mb.lt
    clear h qq hat
    go_enter Try.func16, Try.ntmps16
    go_wp2_with fail
    go_region
    go_wp2_with fail
    refine (next_any _ _ _ _ _ _ _ _ _ _ H.out).mono ?_
    rintro e w1 ⟨rfl, rfl⟩
    have n0 := HN.out.cell 0
    simp only [List.getElem?_toArray, List.getElem?_cons_succ, List.getElem?_cons_zero] at n0
    have HG1 := Lib.hid (Fm.refl M ((w.setCell ⟨M, 1, none⟩ (.int .i64 ((i : Int) + 1))).alloc (.cells #[.int .i64 4, .int .u64 ((0 : Nat) : Int), .int .u64 ((0 : Nat) : Int), .int .u64 ((0 : Nat) : Int), .int .u64 ((0 : Nat) : Int)] 33)).drew)
    go_wp2_with fail
    refine (emit_any _ _ _ _ _ _ _ S _ 2 ((S.length : Int) + 1) 0 0 0 0 0 _ (by omega) H.out).mono ?_
    rintro e w2 ⟨rfl, v2, henv, hfm⟩
    obtain ⟨S2, hS2⟩ : ∃ X, X = S ++ [⟨2, (0, 0, 0, 0), (S.length : Int) + 1, 0⟩] := ⟨_, rfl⟩
    have HS2 := Lib.hid hS2
    have HL2 : Hid (S2.length = S.length + 1) := Lib.hid (by rw [hS2]; simp [code_len]; try omega)
    rw [← hS2] at henv
    clear hS2
    have hB2 : S2.length ≤ 1000 := by have := HL2.out; first | omega | (have := HL2.out; omega) | (have := HL2.out; have := HL3.out; omega) | (have := HL2.out; have := HL3.out; have := HL4.out; omega)
    have HE2 := Lib.hid henv
    have HG2 := Lib.hid (HG1.out.trans hfm)
    clear henv hfm
    go_wp2_with fail
    refine (HIA.out (i + 1) S2 _ _ HAT.out.alt.2.1 (by have := HL2.out; omega) HE2.out).mono ?_
    rintro e w3 ⟨rfl, v3, henv, hfm⟩
    obtain ⟨S3, hS3⟩ : ∃ X, X = S2 ++ code a S2.length := ⟨_, rfl⟩
    have HS3 := Lib.hid hS3
    have HL3 : Hid (S3.length = S.length + 1 + sz a) := Lib.hid (by rw [hS3]; simp [code_len, HL2.out]; try omega)
    rw [← hS3] at henv
    clear hS3
    have hB3 : S3.length ≤ 1000 := by have := HL3.out; first | omega | (have := HL2.out; omega) | (have := HL2.out; have := HL3.out; omega) | (have := HL2.out; have := HL3.out; have := HL4.out; omega)
    have HE3 := Lib.hid henv
    have HG3 := Lib.hid (HG2.out.trans hfm)
    clear henv hfm
    go_wp2_with fail
    refine (emit_any _ _ _ _ _ _ _ S3 _ 2 0 0 0 0 0 0 _ (by have := HL3.out; omega) HE3.out).mono ?_
    rintro e w4 ⟨rfl, v4, henv, hfm⟩
    obtain ⟨S4, hS4⟩ : ∃ X, X = S3 ++ [⟨2, (0, 0, 0, 0), 0, 0⟩] := ⟨_, rfl⟩
    have HS4 := Lib.hid hS4
    have HL4 : Hid (S4.length = S3.length + 1) := Lib.hid (by rw [hS4]; simp [code_len]; try omega)
    rw [← hS4] at henv
    clear hS4
    have hB4 : S4.length ≤ 1000 := by have := HL4.out; first | omega | (have := HL2.out; omega) | (have := HL2.out; have := HL3.out; omega) | (have := HL2.out; have := HL3.out; have := HL4.out; omega)
    have HE4 := Lib.hid henv
    have HG4 := Lib.hid (HG3.out.trans hfm)
    clear henv hfm
    obtain ⟨g, c, rfl⟩ := HE4.out.form (by have := HL4.out; have := HL3.out; omega)
    obtain ⟨a1, a2, a3, a4, a5, a6⟩ := HE4.out.step
    have hk : S4[S.length]? = some ⟨2, (0, 0, 0, 0), (S.length : Int) + 1, 0⟩ := by rw [HS4.out, HS3.out, HS2.out]; simp
    obtain ⟨b5, b6⟩ := a6 _ _ hk
    have z6 := a5 (S.length * 7 + 6)
    have z5 := a5 (S.length * 7 + 5)
    have m2 := HE4.out.mb.cell 2
    simp only [List.getElem?_toArray, List.getElem?_cons_succ, List.getElem?_cons_zero] at m2
    have i1 : ((S.length : Nat) : Int) < (S4.length : Int) := by have := HL4.out; have := HL3.out; omega
    have i0 : (0 : Int) ≤ ((S.length : Nat) : Int) := by omega
    have HK := Lib.hid hk
    clear a5 a6 hk
    go_wp2_with fail
    have m2a : w4.drew.cell? ⟨M, 2, none⟩ = some (.slice (some ⟨g, 0, none⟩) S4.length c) := m2
    have m2b : ∀ u, (w4.drew.setCell ⟨g, S.length * 7 + 6, none⟩ u).cell? ⟨M, 2, none⟩ = some (.slice (some ⟨g, 0, none⟩) S4.length c) := fun u => (World.cell?_setCell_other _ _ _ _ (by simp <;> omega)).trans m2
    have HNX := Lib.hid (next_any _ _ _ _ _ _ _ S4 (.slice (some ⟨g, 0, none⟩) S4.length c) _ HE4.out.drew)
    go_region_held3 (fun w' => w'.cell? ⟨M, 2, none⟩ = some (.slice (some ⟨g, 0, none⟩) S4.length c)) (first | exact m2a | exact m2b _) (first | (go_at_call 29; refine HNX.out.mono ?_; rintro e w' ⟨rfl, rfl⟩))
    clear m2a m2b
    all_goals (
      obtain ⟨S5, hS5⟩ : ∃ X, X = S4.set S.length ⟨2, (0, 0, 0, 0), (S.length : Int) + 1, (S4.length : Int)⟩ := ⟨_, rfl⟩
      have HS5 := Lib.hid hS5
      have HL5 : Hid (S5.length = S4.length) := Lib.hid (by rw [hS5]; simp)
      have he5 := HE4.out.drew.setY HK.out (S4.length : Int)
      rw [← hS5] at he5
      have HE5 := Lib.hid he5
      have HG5 := Lib.hid ((HG4.out.trans (Fm.below (Below.refl _ _).drew)).trans (Fm.row (M := M) HE4.out.drew.row (S.length * 7 + 6) (.int .i64 (S4.length : Int))))
      clear hS5 he5 b5 b6 z5 z6 m2 a1 a2 a3 a4 i0 i1
      go_wp2_with fail
      refine (HIB.out (i + 1 + (flat a).length) S5 _ _ HAT.out.alt.2.2 (by have := HL5.out; have := HL4.out; have := HL3.out; omega) HE5.out).mono ?_
      rintro e w6 ⟨rfl, v6, henv, hfm⟩
      obtain ⟨S6, hS6⟩ : ∃ X, X = S5 ++ code b S5.length := ⟨_, rfl⟩
      have HS6 := Lib.hid hS6
      have HL6 : Hid (S6.length = S.length + 2 + sz a + sz b) := Lib.hid (by have := HL5.out; have := HL4.out; have := HL3.out; rw [hS6]; simp [code_len]; omega)
      rw [← hS6] at henv
      clear hS6
      have hB6 : S6.length ≤ 1000 := by have := HL6.out; omega
      have HE6 := Lib.hid henv
      have HG6 := Lib.hid (HG5.out.trans hfm)
      clear henv hfm
      obtain ⟨g', c', rfl⟩ := HE6.out.form (by have := HL6.out; omega)
      obtain ⟨a1, a2, a3, a4, a5, a6⟩ := HE6.out.step
      have hk : S6[S3.length]? = some ⟨2, (0, 0, 0, 0), 0, 0⟩ := by
        have h3 := HL3.out
        rw [HS6.out, List.getElem?_append_left (by have := HL5.out; have := HL4.out; omega), HS5.out, List.getElem?_set_ne (by omega), HS4.out]
        simp
      obtain ⟨b5, b6⟩ := a6 _ _ hk
      have z6 := a5 (S3.length * 7 + 6)
      have z5 := a5 (S3.length * 7 + 5)
      have b6' : ∀ u, (w6.drew.setCell ⟨g', S3.length * 7 + 5, none⟩ u).cell? ⟨g', S3.length * 7 + 6, none⟩ = some (.int .i64 0) := fun u => (World.cell?_setCell_other _ _ _ _ (by simp)).trans b6
      have b5' : ∀ u, (w6.drew.setCell ⟨g', S3.length * 7 + 6, none⟩ u).cell? ⟨g', S3.length * 7 + 5, none⟩ = some (.int .i64 0) := fun u => (World.cell?_setCell_other _ _ _ _ (by simp)).trans b5
      have m2 := HE6.out.mb.cell 2
      simp only [List.getElem?_toArray, List.getElem?_cons_succ, List.getElem?_cons_zero] at m2
      have i1 : ((S3.length : Nat) : Int) < (S6.length : Int) := by have := HL6.out; have := HL3.out; omega
      have i0 : (0 : Int) ≤ ((S3.length : Nat) : Int) := by omega
      have HK6 := Lib.hid hk
      clear a5 a6 hk
      go_wp2_with fail
      have m2a : w6.drew.cell? ⟨M, 2, none⟩ = some (.slice (some ⟨g', 0, none⟩) S6.length c') := m2
      have m2b : ∀ u, (w6.drew.setCell ⟨g', S3.length * 7 + 5, none⟩ u).cell? ⟨M, 2, none⟩ = some (.slice (some ⟨g', 0, none⟩) S6.length c') := fun u => (World.cell?_setCell_other _ _ _ _ (by simp <;> omega)).trans m2
      have m2c : ∀ u u', ((w6.drew.setCell ⟨g', S3.length * 7 + 5, none⟩ u).setCell ⟨g', S3.length * 7 + 6, none⟩ u').cell? ⟨M, 2, none⟩ = some (.slice (some ⟨g', 0, none⟩) S6.length c') := fun u u' => (World.cell?_setCell_other _ _ _ _ (by simp <;> omega)).trans (m2b u)
      have HNX6 := Lib.hid (next_any _ _ _ _ _ _ _ S6 (.slice (some ⟨g', 0, none⟩) S6.length c') _ HE6.out.drew)
      go_region_held3 (fun w' => w'.cell? ⟨M, 2, none⟩ = some (.slice (some ⟨g', 0, none⟩) S6.length c')) (first | exact m2a | exact m2b _ | exact m2c _ _) (first | (go_at_call 29; refine HNX6.out.mono ?_; rintro e w' ⟨rfl, rfl⟩))
      all_goals (
        go_wp2_with fail
        go_end0
        exact ⟨rfl, _, (by first | exact (HE6.out.drew.setXY HK6.out (S6.length : Int) (S6.length : Int)).cast rfl rfl | exact ((HE6.out.setXY HK6.out (S6.length : Int) (S6.length : Int)).drew).cast rfl rfl : MEnv _ _ _ _ _ _ _ (S6.set S3.length ⟨2, (0, 0, 0, 0), (S6.length : Int), (S6.length : Int)⟩) _ _).cast (by simp [flat] <;> omega) (alt_list HS2.out HS3.out HS4.out HS5.out HS6.out HL3.out HL4.out HL6.out), HF.out.trans ((HG6.out.trans (Fm.below (Below.refl _ _).drew)).trans ((Fm.row HE6.out.drew.row _ _).trans (Fm.row (by obtain ⟨cur, hc⟩ := HE6.out.drew.row; exact ⟨_, hc.set_ _ _⟩) _ _)))⟩))

end Go.Proofs.Ythcahjnniendnab
