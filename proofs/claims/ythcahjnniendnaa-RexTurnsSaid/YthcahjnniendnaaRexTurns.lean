/-
  Proved: winnowfanlaw1.RexTurns returns true for every pattern, and changes nothing that was there. No condition beyond the row's own.
  (The frame behind the walk is the kit's proof-skeleton's.)
-/
import Derived.Test.YthcahjnniendnaaTurn
import Derived.Test.YthcahjnniendnaaOpen
import Derived.Below
import Derived.ChangeOld
import Derived.ShutString
namespace Go.Proofs.Ythcahjnniendnaa.rexTurns
open Go.ChangeShapes Go.WideShapes Go.ChangeAt Go.RowKit Wf
open Go.ChangeMaps (open_string shut_string)
set_option linter.unusedVariables false

theorem own : ownKnob Try.prog.godebug = none := by kernel_rfl
theorem laidOut : laidOutB Try.prog = true := by kernel_rfl

def LawIs (w : World) (e : Ending) (w' : World) : Prop := e = .returned (.bool true) ∧ Below w.heap.size w w'

theorem fact_rd (w : World) (B : Nat) (hB : w.heap.size = B) : RdN (w.alloc (.cells #[.int .i64 3, .int .u64 0, .int .u64 0, .int .u64 0, .int .u64 0, .int .i64 8, .int .u64 0, .int .u64 0, .int .u64 0, .int .u64 0, .int .i64 2, .int .u64 0, .int .u64 0, .int .u64 0, .int .u64 0] 34)) (.slice (some ⟨B, 0, none⟩) 3 3) [⟨3, zc⟩, ⟨8, zc⟩, ⟨2, zc⟩] := by
  subst hB
  refine ⟨_, 3, 3, rfl, by omega, by omega, rfl, fun _ => ⟨_, 0, rfl, fun j u hu => ?_⟩⟩
  rw [Nat.zero_add, World.cell?_alloc_new, ← hu]
  simp [ndCells, zc]

set_option maxRecDepth 100000 in
set_option maxHeartbeats 8000000 in
theorem walk (l : List Nd) (v : Value) (w : World) (hr : RdN w v l) : Calls Try.prog 4 #[v] w (LawIs w) := by
  obtain ⟨A, cap, rfl, hcap, hcap2, hmem⟩ := hr.open_
  have HR := Lib.hid hr
  clear hr hmem
  have hlit : flat (turnT (.cat .bgn .empty)) = [⟨3, zc⟩, ⟨2, zc⟩, ⟨9, zc⟩] := rfl
  have HLIT := Lib.hid hlit
  clear hlit
  by_cases hc : chk l = 0
  · obtain ⟨hlen, t, ht⟩ := chk_tree hc
    have hlen2 : (flat (turnT t)).length ≤ 60 := by rw [turn_len, ← ht]; exact hlen
    have hback : flat (turnT (turnT t)) = l := by rw [turn_turn, ht]
    have HT := Lib.hid ht
    have HBACK := Lib.hid hback
    clear hc ht hback
    go_enter Try.func4, Try.ntmps4
    go_wp2_with fail
    refine (Turn_ok [⟨3, zc⟩, ⟨8, zc⟩, ⟨2, zc⟩] (.cat .bgn .empty) rfl _ _ (by simp) (fact_rd _ _ (by simp))).mono ?_
    rintro e w1 ⟨g1, cap1, rfl, hrd1, hb1⟩
    rw [HLIT.out] at hrd1 ⊢
    obtain ⟨A1, cap1', hv1, _, _, hm1⟩ := hrd1.open_
    obtain ⟨b1, o1, hA1, _, hcell1⟩ := hm1 (by simp)
    simp only [Value.slice.injEq] at hv1
    obtain ⟨rfl, _, rfl⟩ := hv1
    simp only [Option.some.injEq, Addr.mk.injEq] at hA1
    obtain ⟨rfl, rfl, _⟩ := hA1
    have c1 := (hcell1 w1 (fun _ => rfl) 1 _ rfl).1
    have c2 := (hcell1 w1 (fun _ => rfl) 2 _ rfl).1
    simp only [Nat.zero_add, Nat.one_mul, Nat.reduceMul] at c1 c2
    have hbw1 := ((Below.refl w.heap.size w).alloc (Nat.le_refl _) _).trans (hb1.mono (by simp))
    have HB1 := Lib.hid hbw1
    clear hcell1 hm1 hrd1 hb1 hbw1
    go_wp2_with fail
    refine (Turn_ok l t HT.out _ _ hlen (HR.out.below HB1.out)).mono ?_
    rintro e w2 ⟨g2, cap2, rfl, hrd2, hb2⟩
    have hbw2 := HB1.out.trans (hb2.mono HB1.out.size)
    have HB2 := Lib.hid hbw2
    have HRD2 := Lib.hid hrd2
    clear c1 c2 hbw2 hrd2 hb2
    go_wp2_with fail
    refine (Turn_ok (flat (turnT t)) (turnT t) rfl _ _ hlen2 HRD2.out).mono ?_
    rintro e w3 ⟨g3, cap3, rfl, hrd3, hb3⟩
    rw [HBACK.out] at hrd3 ⊢
    have hbw3 := HB2.out.trans (hb3.mono HB2.out.size)
    have HB3 := Lib.hid hbw3
    have HRD23 := Lib.hid (HRD2.out.below hb3)
    have HRD3 := Lib.hid hrd3
    clear hbw3 hrd3 hb3
    go_wp2_with fail
    refine (Empty_ok l t HT.out _ _ hlen (HR.out.below HB3.out)).mono ?_
    rintro e w4 ⟨rfl, hb4⟩
    have hbw4 := HB3.out.trans (hb4.mono HB3.out.size)
    have HB4 := Lib.hid hbw4
    have HRD24 := Lib.hid (HRD23.out.below hb4)
    have HRD34 := Lib.hid (HRD3.out.below hb4)
    clear hbw4 hb4
    go_wp2_with fail
    refine (Empty_ok (flat (turnT t)) (turnT t) rfl _ _ hlen2 HRD24.out).mono ?_
    rintro e w5 ⟨rfl, hb5⟩
    rw [may_turn]
    have hbw5 := HB4.out.trans (hb5.mono HB4.out.size)
    have HB5 := Lib.hid hbw5
    have HRD35 := Lib.hid (HRD34.out.below hb5)
    clear hbw5 hb5
    go_wp2_with fail
    refine (Nodes_any l l _ _ _ HRD35.out (HR.out.below HB5.out)).mono ?_
    rintro e w6 ⟨r, rfl, hr, hb6⟩
    obtain rfl : r = true := hr.2 rfl
    have hbw6 := HB5.out.trans (hb6.mono HB5.out.size)
    have HB6 := Lib.hid hbw6
    clear hbw6 hb6 hr
    generalize may t = m
    go_wp2_with fail
    go_ret
    exact ⟨by simp, HB6.out⟩
  · have HC := Lib.hid hc
    have HE := Lib.hid (errV_ne hc)
    clear hc
    go_enter Try.func4, Try.ntmps4
    go_wp2_with fail
    refine (Turn_ok [⟨3, zc⟩, ⟨8, zc⟩, ⟨2, zc⟩] (.cat .bgn .empty) rfl _ _ (by simp) (fact_rd _ _ (by simp))).mono ?_
    rintro e w1 ⟨g1, cap1, rfl, hrd1, hb1⟩
    rw [HLIT.out] at hrd1 ⊢
    obtain ⟨A1, cap1', hv1, _, _, hm1⟩ := hrd1.open_
    obtain ⟨b1, o1, hA1, _, hcell1⟩ := hm1 (by simp)
    simp only [Value.slice.injEq] at hv1
    obtain ⟨rfl, _, rfl⟩ := hv1
    simp only [Option.some.injEq, Addr.mk.injEq] at hA1
    obtain ⟨rfl, rfl, _⟩ := hA1
    have c1 := (hcell1 w1 (fun _ => rfl) 1 _ rfl).1
    have c2 := (hcell1 w1 (fun _ => rfl) 2 _ rfl).1
    simp only [Nat.zero_add, Nat.one_mul, Nat.reduceMul] at c1 c2
    have hbw1 := ((Below.refl w.heap.size w).alloc (Nat.le_refl _) _).trans (hb1.mono (by simp))
    have HB1 := Lib.hid hbw1
    clear hcell1 hm1 hrd1 hb1 hbw1
    go_wp2_with fail
    refine (Turn_no l _ _ (HR.out.below HB1.out) HC.out).mono ?_
    rintro e w2 ⟨rfl, hb2⟩
    rw [HE.out]
    have hbw2 := HB1.out.trans (hb2.mono HB1.out.size)
    have HB2 := Lib.hid hbw2
    clear c1 c2 hbw2 hb2
    go_wp2_with fail
    go_ret
    exact ⟨rfl, HB2.out⟩

/-! ### THE ROW's STEP -/
set_option maxRecDepth 100000 in
theorem lifted (os : Os) (started : os.Started) (H : Type) (enc : TypeId × Value → H) :
    ReturnsInHanded {} Try.checked os 4 .any (Rows.rexTurnsSpec.pre6 enc Try.prog Try.f4 Rows.rexTurnsRow.domain false) (Rows.rexTurnsSpec.post enc Try.prog Try.f4 false true false false) := by
  refine returnsInHanded_of_change (C := Try.checked) own started (by kernel_rfl) Try.func4
    (ChangeSpec.witness6 (enc := enc) (C := Try.checked) false ⟨#[], #[.slice none 0 0], []⟩ 8 (by kernel_rfl) (by kernel_rfl) (by kernel_rfl) (by kernel_rfl)) ?_
  intro W base args ds gs before hval0 hW hcnd _
  have hval : ∀ (j : Nat) t v, Try.f4.params[j]? = some t → args[j]? = some v → Value.okWide Try.prog W .any base t v := hval0
  have hW' := hW
  obtain ⟨p, q, hA0, hV, rfl, hfz, hnd⟩ := hW
  have hA : DataW.TrodAll enc Try.prog W 0 (fun _ => true) true Try.f4.params.toList args.toList ds p := hA0
  rw [Try.params4] at hA hval
  obtain ⟨v0, vs0, d0, ds0, p0, q0, hargs, rfl, rfl, h0, r0⟩ := trodAll_cons hA
  obtain ⟨rfl, rfl, rfl⟩ := trodAll_nil r0
  obtain rfl : args = #[v0] := by cases args; simp_all
  obtain ⟨rfl, rfl⟩ := trodVars_none hV
  obtain ⟨a0, len0, cap0, rfl⟩ := okWide_slice Try.underlying25 (hval 0 25 v0 rfl rfl)
  have k0 := h0
  have lt0 : ∀ x ∈ p0, x.block < W.heap.size := by obtain ⟨m, hm⟩ := k0; exact DataW.trod_lt m _ _ _ hm
  obtain ⟨z0, w0, ok0⟩ : ∃ l, RdN W (.slice a0 len0 cap0) l ∧ ∀ nd ∈ l, okNd nd := by obtain ⟨fuel, hf⟩ := h0; exact open_nodes (by simpa [Value.cells] using hf)
  clear hA0 hval0
  refine (walk z0 _ W w0).mono fun e W' ⟨he, bel⟩ => ?_
  subst he
  exact ⟨_, rfl, _, _, _, [], _, [], hW', trodAll_mk1 (shut_bool Try.underlying4 _), (trodAll_cons_mk (Below.trod laidOut (by kernel_rfl) (of_decide_eq_true (by kernel_rfl)) k0 bel lt0) trodAll_mk0), rfl, bel.frame _, fun h => by cases h⟩

theorem over : Rows.rexTurnsRow.holds Try.pinned (OpenSpec.ofChange Rows.rexTurnsSpec) :=
  OpenClaim.holds_of_wide 4 Try.f4 rfl rfl rfl rfl rfl rfl rfl ⟨rfl, rfl, rfl, rfl, rfl⟩ rfl rfl rfl rfl rfl (by kernel_rfl) Try.func4 (by kernel_rfl)
    (of_decide_eq_true (by kernel_rfl)) (by unfold Func.isWrapper; first | (rw [if_pos (by decide +kernel)]; kernel_rfl) | (rw [if_neg (by decide +kernel)]; exact ⟨rfl, rfl⟩))
    (fun os started H enc _ => lifted os started H enc)

/-- THE STATEMENT -/
theorem proved : Rows.RexTurnsSaid := over


end Go.Proofs.Ythcahjnniendnaa.rexTurns
