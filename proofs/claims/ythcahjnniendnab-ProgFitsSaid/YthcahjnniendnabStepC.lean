/-
  The walk of prog.Of.
-/
import Derived.Test.YthcahjnniendnabMakeB
namespace Go.Proofs.Ythcahjnniendnab
open Go.RowKit Wf

def OfIs (t : Rx) (w : World) (e : Ending) (w' : World) : Prop :=
  ∃ g cap, e = .returned (.tuple #[.slice (some ⟨g, 0, none⟩) (progL t).length cap, .nilIface]) ∧ RdS w' (.slice (some ⟨g, 0, none⟩) (progL t).length cap) (progL t) ∧ (w.heap.size ≤ g ∧ Below w.heap.size w w')
def OfNo (l : List Nd) (w : World) (e : Ending) (w' : World) : Prop := e = .returned (.tuple #[.slice none 0 0, errV (chk l)]) ∧ Below w.heap.size w w'

set_option maxRecDepth 100000 in
set_option maxHeartbeats 4000000 in
theorem Of_no (l : List Nd) (v : Value) (w : World) (hr : RdN w v l) (hc : chk l ≠ 0) : Calls Try.prog 6 #[v] w (OfNo l w) := by
  obtain ⟨A, cap, rfl, hcap, hcap2, hmem⟩ := hr.open_
  have HR := Lib.hid hr
  have HE := Lib.hid (errV_ne hc)
  clear hmem hr hc
  go_enter Try.func6, Try.ntmps6
  go_wp2_with fail
  refine (Check_any l _ _ HR.out).mono ?_
  rintro e w1 ⟨rfl, hb1⟩
  rw [HE.out]
  go_wp2_with fail
  go_ret2
  exact ⟨by rw [HE.out]; rfl, hb1⟩

set_option maxRecDepth 100000 in
set_option maxHeartbeats 4000000 in
theorem Of_ok (l : List Nd) (t : Rx) (hl : l = flat t) (v : Value) (w : World) (ht : l.length ≤ 60) (hr : RdN w v l) : Calls Try.prog 6 #[v] w (OfIs t w) := by
  obtain ⟨A, cap, rfl, hcap, hcap2, hmem⟩ := hr.open_
  have hpos : 0 < l.length := by rw [hl]; exact flat_pos t
  have hchk : chk l = 0 := by rw [hl]; exact chk_flat t (by rw [← hl]; exact ht)
  obtain ⟨b, off, rfl, hbl, hcells⟩ := hmem hpos
  have hwhole : At l 0 t := by rw [hl]; exact At.whole t
  have hsz := sz_le t
  rw [← hl] at hsz
  have HMK := Lib.hid (fun (w1 : World) (h1 : Below w.heap.size w w1) (M : Nat) (v : Value) (W : World) (h : MEnv w1 b off l.length cap M 0 [] v W) => make_all w1 l b off cap M ht hcap hcap2 (fun w' hb k n hk => hcells w' (fun o => (h1.trans (hb.mono h1.size)).cell (p := ⟨b, o, none⟩) hbl) k n hk) t 0 [] v W hwhole (by simp; omega) h)
  have HR := Lib.hid hr
  have HC := Lib.hid hchk
  have HPL := Lib.hid (progL_len t)
  have HS2 : Hid (∀ (g c : Nat), RdS w (.slice (some ⟨g, 0, none⟩) (progL t).length c) (progL t) → True) := Lib.hid (fun _ _ _ => trivial)
  clear hr hchk hcells hwhole hl hmem
  go_enter Try.func6, Try.ntmps6
  go_wp2_with fail
  refine (Check_any l _ _ HR.out).mono ?_
  rintro e w1 ⟨rfl, hb1⟩
  rw [HC.out, errV_zero]
  have henv : MEnv w1 b off l.length cap w1.heap.size 0 [] (.slice none 0 0) (w1.alloc (.cells #[.slice (some ⟨b, off, none⟩) l.length cap, .int .i64 0, .slice none 0 0] 56)) :=
    ⟨Blk.new w1 _ _, World.ownsRow_nil _ _ _ _, (Below.refl _ _).alloc (Nat.le_refl _) _, Nat.le_refl _⟩
  have HENV := Lib.hid henv
  have HB := Lib.hid hb1
  clear henv hb1
  go_wp2_with fail
  refine (HMK.out w1 HB.out _ _ _ HENV.out).mono ?_
  rintro e w2 ⟨rfl, v2, henv2, _⟩
  obtain ⟨S2, hS2⟩ : ∃ X, X = [] ++ code t ([] : List St).length := ⟨_, rfl⟩
  have HSC : Hid (S2 = code t 0) := Lib.hid (by rw [hS2]; rfl)
  rw [← hS2] at henv2
  clear hS2
  have hB2 : S2.length ≤ 1000 := by rw [HSC.out, code_len]; omega
  have HENV2 := Lib.hid henv2
  clear henv2
  go_wp2_with fail
  refine (emit_any _ _ _ _ _ _ _ S2 v2 5 0 0 0 0 0 0 _ hB2 HENV2.out).mono ?_
  rintro e w3 ⟨rfl, v3, henv3, _⟩
  obtain ⟨P, hP⟩ : ∃ X, X = S2 ++ [(⟨5, (0, 0, 0, 0), 0, 0⟩ : St)] := ⟨_, rfl⟩
  have HP : Hid (P = progL t) := Lib.hid (by rw [hP, HSC.out]; rfl)
  rw [← hP] at henv3
  clear hP
  obtain ⟨g, c, rfl⟩ := henv3.form (by rw [HP.out, HPL.out]; omega)
  have m2 := henv3.mb.cell 2
  simp only [List.getElem?_toArray, List.getElem?_cons_succ, List.getElem?_cons_zero] at m2
  have HENV3 := Lib.hid henv3
  clear henv3
  go_wp2_with fail
  go_ret2
  refine ⟨g, c, ?_, ?_, Nat.le_trans HB.out.size (Nat.le_of_lt HENV3.out.step.1), HB.out.trans (HENV3.out.bel.mono HB.out.size)⟩
  · rw [← HP.out]; rfl
  · rw [← HP.out]; exact Rd.of_own HENV3.out.own

end Go.Proofs.Ythcahjnniendnab
