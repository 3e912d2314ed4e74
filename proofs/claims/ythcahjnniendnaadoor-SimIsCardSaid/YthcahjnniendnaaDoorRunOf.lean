/-
  The walk of the document's RunOf.
-/
import Derived.Test.YthcahjnniendnaaDoorRB
import Derived.Test.YthcahjnniendnaaDoorPr
import Derived.Test.YthcahjnniendnaaDoorRefA
import Derived.Test.YthcahjnniendnaaDoorQueue
import Derived.Test.YthcahjnniendnaaDoorInts
import Derived.Test.YthcahjnniendnaaDoorMemS
import Derived.Test.YthcahjnniendnaaDoorMeanB
import Derived.Deep.RegionHeld3
import Derived.Deep.DeepCutAuto
import Derived.Deep.CutBlock
namespace Go.Proofs.YthcahjnniendnaaDoor
open Go.RowKit Wf

def RRunIs (p : List St) (s : List UInt8) (f : Nat) (w : World) (e : Ending) (w' : World) : Prop :=
  ∃ v, e = .returned v ∧ Rd1 w' v (natVals (runL p s f)) ∧ (∃ A cap, v = .slice A (runL p s f).length cap) ∧ Below w.heap.size w w'

theorem mul_fits {a b : Nat} (h : a * b ≤ 100000) : wrap64 ((a : Int) * (b : Int)) = ((a * b : Nat) : Int) := by
  rw [← Int.natCast_mul]
  exact IntWalk.wrap64_in _ (by omega)
theorem RB.new1 (w : World) (N f : Nat) : RB (w.alloc (.cells ((repA N (.bool false)).setIfInBounds f (.bool true)) 4)) w.heap.size N (fun j => j == f) :=
  ⟨_, Blk.new _ _ _, by simp [repA_size], fun k hk => by
    rw [Array.getElem?_setIfInBounds]
    by_cases e : f = k
    · subst e; rw [if_pos rfl, if_pos (by rw [repA_size]; exact hk)]; simp
    · rw [if_neg e, repA_get _ _ _ hk]
      have : (k == f) = false := by simp; omega
      simp only [this]⟩
theorem Qu.of_own {w : World} {base : Nat} {g cap n : Nat} {xs : List Value} (h : w.ownsRow base 3 1 (.slice (some ⟨g, 0, none⟩) n cap) n xs) (hn : xs.length = n) (hc : cap ≤ maxLen) : Qu w base 3 g 0 cap xs := by
  rcases h.2 with ⟨h0, _⟩ | ⟨g', cap', cur, hv, h1, h2, h3, h4, h5, h6⟩
  · cases h0
  · injection hv with e1 e2 e3
    injection e1 with e1
    injection e1 with e1
    subst e1
    subst e3
    refine ⟨h1, by omega, hc, cur, h2, by omega, fun j u hu => ?_⟩
    rw [Nat.zero_add, ← Array.getElem?_toList]
    rw [← h6, List.getElem?_take] at hu
    split at hu
    · exact hu
    · cases hu

theorem RB.ne_q {w : World} {g N base q o c : Nat} {D : Nat → Bool} {xs : List Value} (h : RB w g N D) (hq : Qu w base 3 q o c xs) : g ≠ q := by
  obtain ⟨cur, hc, _⟩ := hq.hcur
  exact h.ne_blk hc (by decide)
theorem cntD_mark {N : Nat} {D : Nat → Bool} {y : Nat} (hy : y < N) (hD : D y = false) : cntD N D < cntD N (Wf.mark D y) :=
  cntD_lt (fun j _ h => by simp [Wf.mark, h]) hy (by simp [Wf.mark]) hD
theorem setD_mark (D : Nat → Bool) (y : Nat) : setD D y true = Wf.mark D y := by
  funext j
  unfold setD Wf.mark
  by_cases e : j = y <;> simp [e]
theorem qu_weak {w : World} {base base' g o cap : Nat} {e : TypeId} {xs : List Value} (h : Qu w base e g o cap xs) (hb : base' ≤ base) : Qu w base' e g o cap xs := by
  obtain ⟨h1, h2, h3, h4⟩ := h
  exact ⟨by omega, h2, h3, h4⟩
theorem below_grown1 {B : Nat} {a w w' : World} {e : TypeId} {size n : Nat} {v : Value} {xs : List Value} (h : Below B a w) (hB : B ≤ w.heap.size) (ho : w.ownsRow B e size v n xs) (hg : w.grownBy w' v.ownBlock) : Below B a w' :=
  ⟨hg.os.trans h.os, hg.tape.trans h.tape, hg.output.trans h.output, Nat.le_trans h.size hg.size, fun i hi =>
    (hg.block i (by omega) (fun e => by have := (ho.lt i e.symm).1; omega)).trans (h.block i hi)⟩
theorem below_grown0 {B : Nat} {a w w' : World} (h : Below B a w) (hB : B ≤ w.heap.size) (hg : w.grownBy w' none) : Below B a w' :=
  ⟨hg.os.trans h.os, hg.tape.trans h.tape, hg.output.trans h.output, Nat.le_trans h.size hg.size, fun i hi => (hg.block i (by omega) (fun e => by cases e)).trans (h.block i hi)⟩
theorem cells_new1 (w : World) (t : TypeId) (B : Nat) (u : Value) (hB : B = w.heap.size) : ∀ j v, [u][j]? = some v → (w.alloc (.cells #[u] t)).cell? ((⟨B, 0, none⟩ : Addr).add j) = some v := by
  subst hB
  intro j v hv
  match j, hv with
  | 0, hv =>
    simp at hv
    subst hv
    rw [add_mk, (Blk.new w t #[u]).cell]
    rfl
theorem cells_new2 (w : World) (t : TypeId) (B : Nat) (u u2 : Value) (hB : B = w.heap.size) : ∀ j v, [u, u2][j]? = some v → (w.alloc (.cells #[u, u2] t)).cell? ((⟨B, 0, none⟩ : Addr).add j) = some v := by
  subst hB
  intro j v hv
  match j, hv with
  | 0, hv =>
    simp at hv
    subst hv
    rw [add_mk, (Blk.new w t #[u, u2]).cell]
    rfl
  | 1, hv =>
    simp at hv
    subst hv
    rw [add_mk, (Blk.new w t #[u, u2]).cell]
    rfl
theorem below_grown2' {B F : Nat} {a b c : World} (h : Below B a b) (hB : B ≤ F) (hBb : B ≤ b.heap.size) (k : b.grownBy c (some F)) : Below B a c :=
  ⟨k.os.trans h.os, k.tape.trans h.tape, k.output.trans h.output, Nat.le_trans h.size k.size, fun q hq => (k.block q (by omega) (fun e => by cases e; omega)).trans (h.block q hq)⟩
theorem own_of_below' {base base' size n : Nat} {w : World} {e : TypeId} {v : Value} {xs : List Value} (h : w.ownsRow base e size v n xs) (hb : base' ≤ base) : w.ownsRow base' e size v n xs := by
  refine ⟨h.1, ?_⟩
  rcases h.2 with hn | ⟨g, cap, cur, hv, h1, rest⟩
  · exact .inl hn
  · exact .inr ⟨g, cap, cur, hv, Nat.le_trans hb h1, rest⟩
/-- A step laid in a block of the call's own. -/
def SE7 (w : World) (op : Int) (c0 c1 c2 c3 : Nat) (x y : Int) (w' : World) : Prop := Blk w' w.heap.size 52 #[.int .i64 op, .int .u64 (c0 : Int), .int .u64 (c1 : Int), .int .u64 (c2 : Int), .int .u64 (c3 : Int), .int .i64 x, .int .i64 y] ∧ Below w.heap.size w w'
theorem SE7.new (w : World) (op : Int) (c0 c1 c2 c3 : Nat) (x y : Int) : SE7 w op c0 c1 c2 c3 x y (w.alloc (.cells #[.int .i64 op, .int .u64 (c0 : Int), .int .u64 (c1 : Int), .int .u64 (c2 : Int), .int .u64 (c3 : Int), .int .i64 x, .int .i64 y] 52)) := ⟨Blk.new _ _ _, (Below.refl _ _).alloc (Nat.le_refl _) _⟩
theorem SE7.kept {w w1 w2 : World} {op : Int} {c0 c1 c2 c3 : Nat} {x y : Int} (h : SE7 w op c0 c1 c2 c3 x y w1) (hb : Below w1.heap.size w1 w2) : SE7 w op c0 c1 c2 c3 x y w2 := ⟨h.1.kept hb, h.2.trans (hb.mono h.2.size)⟩
theorem SE7.cells {w w' : World} {op : Int} {c0 c1 c2 c3 : Nat} {x y : Int} (h : SE7 w op c0 c1 c2 c3 x y w') :
    w'.cell? ⟨w.heap.size, 1, none⟩ = some (.int .u64 (c0 : Int)) ∧ w'.cell? ⟨w.heap.size, 2, none⟩ = some (.int .u64 (c1 : Int)) ∧ w'.cell? ⟨w.heap.size, 3, none⟩ = some (.int .u64 (c2 : Int)) ∧ w'.cell? ⟨w.heap.size, 4, none⟩ = some (.int .u64 (c3 : Int)) := ⟨h.1.cell 1, h.1.cell 2, h.1.cell 3, h.1.cell 4⟩
theorem i64_byte (n : Nat) (h : n < 256) : IntKind.i64.wrap (n : Int) = (n : Int) := by
  unfold IntKind.wrap
  simp [IntKind.signed, IntKind.bits]
  omega
theorem own_q {w : World} {base n : Nat} {v : Value} {xs : List Value} (h : w.ownsRow base 3 1 v n xs) (hn : xs.length = n) : ∃ (A : Option Addr) (cap : Nat), v = .slice A n cap ∧ (0 < n → ∃ g, A = some ⟨g, 0, none⟩ ∧ Qu w base 3 g 0 cap xs) := by
  rcases h.2 with ⟨hv, h0⟩ | ⟨g, cap, cur, hv, h1, h2, h3, h4, h5, h6⟩
  · exact ⟨none, 0, by rw [hv, h0], fun hh => by omega⟩
  · exact ⟨_, cap, hv, fun _ => ⟨g, rfl, Qu.of_own (cap := cap) (by rw [← hv]; exact h) hn h4⟩⟩

set_option maxRecDepth 100000 in
set_option maxHeartbeats 16000000 in
theorem RRun_any (p : List St) (hp : okP p) (hok : ∀ st ∈ p, okC st.cls) (pv : Value) (s : ByteArray) (hs : s.size ≤ 400) (f : Nat) (hf : f ≤ s.size) (w : World) (hr : RdS w pv p) :
    Calls Tryd.prog 6 #[pv, .string s, .int .i64 (f : Int)] w (RRunIs p s.data.toList f w) := by
  obtain ⟨i0, hi0, hz0, hz1, hz2⟩ := info_parts info_int
  obtain ⟨A, cap, rfl, hcap, hcap2, hmem⟩ := hr.open_
  have hp1 := hp.1
  have hp2 := hp.2.1
  obtain ⟨b, off, rfl, hbl, hcells⟩ := hmem hp1
  have HC := Lib.hid hcells
  have HP := Lib.hid hp
  have HOK := Lib.hid hok
  have hSL : s.data.toList.length = s.size := by simp
  have HSL := Lib.hid hSL
  clear hr hmem hcells hp hok hSL
  have hN : p.length * (s.size + 1) ≤ 200 * 401 := Nat.mul_le_mul (by omega) (by omega)
  have hmk2 := fun W => mk_bools (s.size + 1) (by omega) W
  have hm := mul_fits (a := p.length) (b := s.size + 1) (by omega)
  have e1 : ((s.size + 1 : Nat) : Int) = (s.size : Int) + 1 := by omega
  rw [e1] at hmk2 hm
  obtain ⟨N, hNd⟩ : ∃ N, N = p.length * (s.size + 1) := ⟨_, rfl⟩
  rw [← hNd] at hm hN
  have hmk1 := fun W => mk_bools N (by omega) W
  have HND := Lib.hid hNd
  have hfN : f < N := by
    have := spot_lt (p := p.length) (n := s.size + 1) (i := 0) (a := f) hp1 (by omega)
    rw [hNd]; simpa using this
  have hrg := repA_get N (.bool false) f hfN
  clear hNd e1
  go_enter Tryd.func6, Tryd.ntmps6
  go_wp2_with fail
  clear hmk1 hmk2 hm hrg
  go_loopg [9] (2 * N + 2) (fun gk v9 wr => ∃ (g o c : Nat) (D E : Nat → Bool) (qs : List Nat), v9 = .slice (some ⟨g, o, none⟩) qs.length c ∧ Hid (Qu wr (w.heap.size + 1) 3 g o c (natVals qs)) ∧ Hid (RB wr w.heap.size N D) ∧ Hid (RB wr (w.heap.size + 1 + 1) (s.size + 1) E) ∧ Hid (RunO p s.data.toList f D E qs) ∧ Hid (Below w.heap.size w wr) ∧ Hid (2 * (N - cntD N D) + qs.length ≤ gk) ∧ w.heap.size + 3 ≤ wr.heap.size ∧ gk ≤ 2 * N + 2)
  case atStart =>
    refine ⟨w.heap.size + 1, 0, 1, fun j => j == f, fun _ => false, [f], rfl, Lib.hid ?_, Lib.hid ?_, Lib.hid ?_, Lib.hid (RunO.first HP.out (by rw [HSL.out]; omega)), Lib.hid ?_, Lib.hid (by simp; omega), by simp, by omega⟩
    · exact (Qu.one (w.alloc (.cells ((repA N (.bool false)).setIfInBounds f (.bool true)) 4)) (w.heap.size + 1) 3 (w.heap.size + 1) (by simp) (by simp) (.int .i64 (f : Int))).kept (World.grownBy_alloc _ _ none) (by simp)
    · exact ((RB.new1 w N f).alloc _).alloc _
    · have h := RB.new ((w.alloc (.cells ((repA N (.bool false)).setIfInBounds f (.bool true)) 4)).alloc (.cells #[.int .i64 (f : Int)] 3)) (s.size + 1)
      simpa using h
    · exact (((Below.refl _ _).alloc (Nat.le_refl _) _).alloc (by simp) _).alloc (by simp; omega) _
  case round =>
    obtain ⟨g, o, c, D, E, qs, rfl, hQ, hD, hE, hI, hB, hM, hsz, hgk⟩ := hrel
    cases qs with
    | nil =>
      have hlen0 : ([] : List Nat).length = 0 := rfl
      rw [hlen0]
      have HDN : Hid (∀ a, a < s.size + 1 → (E a = true ↔ EndsAt p s.data.toList f a)) := Lib.hid (fun a ha => hI.out.done HP.out (by rw [HSL.out]; omega) (by rw [HSL.out]; exact ha))
      have hRL : runL p s.data.toList f = upTo_ (EndsAt p s.data.toList f) (s.size + 1) := by unfold runL; rw [HSL.out]
      have HRL := Lib.hid hRL
      clear hlen0 hI hRL hQ hM
      go_wp2_with fail
      go_loopw [17, 18] (fun v17 v18 wy => ∃ k : Nat, k ≤ s.size + 1 ∧ v18 = .int .i64 (k : Int) ∧ Hid (wy.ownsRow (w.heap.size + 3) 3 1 v17 (upTo_ (EndsAt p s.data.toList f) k).length (natVals (upTo_ (EndsAt p s.data.toList f) k))) ∧ Hid (RB wy (w.heap.size + 1 + 1) (s.size + 1) E) ∧ Hid (Below w.heap.size w wy) ∧ w.heap.size + 3 ≤ wy.heap.size) (fun _ i _ => s.size + 1 - (intOf i).toNat)
      case atStart => exact ⟨0, by omega, rfl, Lib.hid (World.ownsRow_nil _ _ _ _), hE, hB, hsz⟩
      case round =>
        clear hE hB hsz hD
        obtain ⟨k, hk, rfl, hO, hE, hB, hsz⟩ := hrel
        by_cases hlt : k < s.size + 1
        · have hcE := hE.out.cell hlt
          have hk1 : (k : Int) < (s.size : Int) + 1 := by omega
          have hen := HDN.out k hlt
          have HEN := Lib.hid hen
          clear hen
          cases hb : E k with
          | false =>
            rw [hb] at hcE
            have HEK := Lib.hid hb
            clear hb
            go_wp2
            go_roundw
            case rel =>
              have hno : ¬ EndsAt p s.data.toList f k := fun h => by have := HEN.out.2 h; rw [HEK.out] at this; cases this
              exact ⟨k + 1, by omega, by go_num, by rw [upTo_no hno]; exact hO, hE, hB, hsz⟩
            case measure => simp [intOf]; omega
          | true =>
            rw [hb] at hcE
            have HEK := Lib.hid hb
            have hyes : EndsAt p s.data.toList f k := HEN.out.1 HEK.out
            have HLEN := Lib.hid (upTo_len (EndsAt p s.data.toList f) k)
            have HY := Lib.hid hyes
            have HOA := Lib.hid (hO.out.alloc (.cells #[.int .i64 (k : Int)] 3))
            clear hyes hb
            generalize hxs : upTo_ (EndsAt p s.data.toList f) k = xs at *
            go_wp2_with (at_builtin; refine wpList_append_own _ rfl (.tmp 165) (.tmp 167) _ rfl (w.heap.size + 3) 3 i0 _ 1 8 Tryd.underlying25 hi0 hz0 hz1 hz2 rfl (by omega) _ xs.length (natVals xs) rfl HOA.out ⟨wr.heap.size, 0, none⟩ 1 1 [.int .i64 (k : Int)] rfl rfl ?_ ?_ (by have := HLEN.out; unfold maxLen; omega) (by have := HLEN.out; omega) (by simp; omega) ?_)
            · exact cells_new1 _ _ _ _ rfl
            · intro u hu
              simp at hu
              subst hu
              rfl
            · intro v' w' hown' hg' _
              have hB1 : Below w.heap.size w (wr.alloc (.cells #[.int .i64 (k : Int)] 3)) := hB.out.alloc (by omega) _
              have hown0 : (wr.alloc (.cells #[.int .i64 (k : Int)] 3)).ownsRow w.heap.size 3 1 _ xs.length (natVals xs) := own_of_below' HOA.out (by omega)
              have hB' := Lib.hid (below_grown1 hB1 (by simp; omega) hown0 hg')
              have hE' := Lib.hid ((hE.out.alloc (.cells #[.int .i64 (k : Int)] 3)).kept hg' (fun e => by
                have h1 := (HOA.out.lt _ e.symm).1
                omega))
              have hO' : Hid (w'.ownsRow (w.heap.size + 3) 3 1 v' (xs ++ [k]).length (natVals (xs ++ [k]))) := Lib.hid (by rw [natVals_snoc]; simpa using hown')
              have hs2 := hg'.size
              have hs3 : w.heap.size + 3 ≤ w'.heap.size := by simp at hs2; omega
              clear hg' hown' hB1 hown0 hs2 hcE
              go_wp2
              go_roundw
              case rel => exact ⟨k + 1, by omega, by go_num, by rw [upTo_yes HY.out, hxs]; exact hO', hE', hB', hs3⟩
              case measure => simp [intOf]; omega
        · obtain rfl : k = s.size + 1 := by omega
          go_wp2
          go_ret
          rw [← HRL.out] at hO
          refine ⟨_, rfl, Rd.of_own hO.out, ?_, hB.out⟩
          rcases hO.out.2 with ⟨hv, h0⟩ | ⟨g', cap', cur, hv, _⟩
          · exact ⟨none, 0, by rw [hv, h0]; rfl⟩
          · exact ⟨_, _, hv⟩
    | cons h rest =>
      have hhN : h < N := by have := (hI.out.sound h (hI.out.wait h (by simp))).1; rw [HSL.out, ← HND.out] at this; exact this
      have hc0 : wr.cell? ⟨g, o, none⟩ = some (.int .i64 (h : Int)) := by have := hQ.out.cell 0 (.int .i64 (h : Int)) rfl; simpa using this
      have hlen : (h :: rest).length = rest.length + 1 := rfl
      rw [hlen] at hM ⊢
      have hpos : (0 : Int) < (rest.length : Int) + 1 := by omega
      have hT := Lib.hid (hQ.out.tail (by simp [natVals]))
      have htl : (natVals (h :: rest)).tail = natVals rest := rfl
      rw [htl] at hT
      have hle := hQ.out.hle
      have hle2 : rest.length + 1 ≤ c := by simpa [natVals] using hle
      have hgb : w.heap.size + 1 ≤ g := hQ.out.hbase
      have hgl : g < wr.heap.size := hQ.out.lt
      clear hlen htl hle hQ
      go_upto_region 8 with fail
      go_cut [9] (fun v9 wx => ∃ o' c', v9 = .slice (some ⟨g, o', none⟩) rest.length c' ∧ Hid (Qu wr (w.heap.size + 1) 3 g o' c' (natVals rest)) ∧ wr = wx)
      case first =>
        by_cases hc1 : c = 1
        · subst hc1
          have hr0 : rest.length = 0 := by omega
          rw [if_pos rfl] at hT
          clear hc0
          go_wp2
          go_meet
          exact ⟨_, _, by rw [hr0], hT, rfl⟩
        · rw [if_neg hc1] at hT
          have hc2 : 2 ≤ c := by omega
          clear hc1 hc0
          go_wp2
          go_meet
          exact ⟨_, _, rfl, hT, rfl⟩
      case rest =>
        obtain ⟨o', c', rfl, hQ, rfl⟩ := hcut
        clear hc0 hT hle2
        obtain ⟨i, hi⟩ : ∃ i, i = h / (s.size + 1) := ⟨_, rfl⟩
        obtain ⟨a, ha⟩ : ∃ a, a = h % (s.size + 1) := ⟨_, rfl⟩
        have hip : i < p.length := by rw [hi]; exact div_spot (by rw [← HND.out]; exact hhN)
        have hal : a < s.size + 1 := by rw [ha]; exact Nat.mod_lt _ (by omega)
        have dq : Int.tdiv (h : Int) ((s.size : Int) + 1) = (i : Int) := by rw [hi]; exact (Int.natCast_ediv _ _ ▸ rfl)
        have dr : Int.tmod (h : Int) ((s.size : Int) + 1) = (a : Int) := by rw [ha]; rfl
        have HI := Lib.hid hi
        have HA := Lib.hid ha
        clear hi ha
        obtain ⟨st, hst⟩ : ∃ st, p[i]? = some st := ⟨_, List.getElem?_eq_getElem hip⟩
        obtain ⟨q0, q1, q2, q3, q4, q5, q6⟩ := HC.out wr (fun o => hB.out.cell (p := ⟨b, o, none⟩) hbl) i st hst
        have hone := oneP_zero (HP.out.2.2 st (List.mem_of_getElem? hst))
        have hcok := HOK.out st (List.mem_of_getElem? hst)
        have HST := Lib.hid hst
        obtain ⟨op, ⟨c0, c1, c2, c3⟩, x, y⟩ := st
        dsimp only at q0 q1 q2 q3 q4 q5 q6 hone hcok
        clear hst
        have hi1 : (i : Int) < (p.length : Int) := by omega
        have HW0 : Hid (Below wr.heap.size wr (wr.alloc (.cells #[.int .i64 op, .int .u64 (c0 : Int), .int .u64 (c1 : Int), .int .u64 (c2 : Int), .int .u64 (c3 : Int), .int .i64 x, .int .i64 y] 52))) := Lib.hid ((Below.refl _ _).alloc (Nat.le_refl _) _)
        have HFIN : Hid (∀ wx, Below wr.heap.size wr wx → Hid (Qu wx (w.heap.size + 1) 3 g o' c' (natVals rest)) ∧ Hid (RB wx w.heap.size N D) ∧ Hid (RB wx (w.heap.size + 1 + 1) (s.size + 1) E) ∧ Hid (Below w.heap.size w wx) ∧ wr.heap.size ≤ wx.heap.size) :=
          Lib.hid (fun wx hb => ⟨Lib.hid (hQ.out.kept (grown_of_below hb none) (by simp)), Lib.hid (hD.out.below hb), Lib.hid (hE.out.below hb), Lib.hid (hB.out.trans (hb.mono (by omega))), hb.size⟩)
        have HEND : op ≠ 5 → Hid (∀ z, E z = true ↔ E z = true ∨ (z = a ∧ DoneAt p i)) := fun h5 => Lib.hid (fun z => ⟨.inl, fun hh => hh.elim id (fun ⟨_, st, h1, h2⟩ => by rw [HST.out] at h1; cases h1; exact absurd h2 h5)⟩)
        go_upto_block 2 with fail
        go_cut [15] (fun v15 wx => ∃ (AN : Option Addr) (capN : Nat) (L : List Nat) (E' : Nat → Bool), v15 = .slice AN L.length capN ∧ Hid (L = nxt p s.data.toList i a) ∧ Hid (0 < L.length → ∃ gN, AN = some ⟨gN, 0, none⟩ ∧ Qu wx (w.heap.size + 3) 3 gN 0 capN (natVals L) ∧ g ≠ gN) ∧
          Hid (∀ z, E' z = true ↔ E z = true ∨ (z = a ∧ DoneAt p i)) ∧ Hid (Qu wx (w.heap.size + 1) 3 g o' c' (natVals rest)) ∧ Hid (RB wx w.heap.size N D) ∧ Hid (RB wx (w.heap.size + 1 + 1) (s.size + 1) E') ∧ Hid (Below w.heap.size w wx) ∧ w.heap.size + 3 ≤ wx.heap.size)
        case first =>
          obtain ⟨⟨hop1, hop2⟩, hx, hy, hcz, hyz, hxz⟩ := hone
          have hop : op = 1 ∨ op = 2 ∨ op = 3 ∨ op = 4 ∨ op = 5 := by omega
          clear hop1 hop2
          rcases hop with rfl | rfl | rfl | rfl | rfl
          · obtain ⟨hx0, hx1⟩ := hx (by omega)
            obtain ⟨xn, rfl⟩ := Int.eq_ofNat_of_zero_le hx0
            have HEN := HEND (by omega)
            clear hy hcz hyz hxz hx HEND
            by_cases hlt : a < s.size
            · have d1 : decide (a < s.size) = true := by simpa using hlt
              have d2 : decide ((a : Int) < (s.size : Int)) = true := by simp; omega
              have i1 : (a : Int) < (s.size : Int) := by omega
              have i0' : (0 : Int) ≤ (a : Int) := by omega
              have hbyte : s[a].toNat < 256 := s[a].toNat_lt
              have hbyteI : (s[a].toNat : Int) < 256 := by omega
              have hsa : s.data.toList[a]? = some s[a] := by
                rw [List.getElem?_eq_getElem (by rw [HSL.out]; exact hlt)]
                rfl
              have hnx : nxt p s.data.toList i a = if has (c0, c1, c2, c3) s[a].toNat then [xn * (s.size + 1) + (a + 1)] else [] := by
                unfold nxt
                rw [HST.out]
                simp only [hsa, HSL.out]
                simp
              generalize hr : has (c0, c1, c2, c3) s[a].toNat = r at *
              have HIN : Hid (∀ W, Calls Tryd.prog 21 #[.agg #[.int .u64 (c0 : Int), .int .u64 (c1 : Int), .int .u64 (c2 : Int), .int .u64 (c3 : Int)], .int .i64 (s[a].toNat : Int)] W (fun e W' => e = .returned (.bool r) ∧ Below W.heap.size W W')) := Lib.hid (fun W => by
                have h := RIn_any c0 c1 c2 c3 s[a].toNat W hcok hbyte
                unfold RInIs at h
                rw [hr] at h
                exact h)
              have HNX0 := Lib.hid hnx
              have HCI : Hid (∀ W, Hid (SE7 wr 1 c0 c1 c2 c3 (xn : Int) y W) → Calls Tryd.prog 21 #[.agg #[.int .u64 (c0 : Int), .int .u64 (c1 : Int), .int .u64 (c2 : Int), .int .u64 (c3 : Int)], .int .i64 (IntKind.i64.wrap (s[a].toNat : Int))] W (fun e W' => e = .returned (.bool r) ∧ Hid (SE7 wr 1 c0 c1 c2 c3 (xn : Int) y W'))) := Lib.hid (fun W h => by
                rw [show IntKind.i64.wrap (s[a].toNat : Int) = (s[a].toNat : Int) from i64_byte _ (by omega)]
                exact (HIN.out W).mono fun e W' ⟨h1, h2⟩ => ⟨h1, Lib.hid (h.out.kept h2)⟩)
              have HSE : Hid (SE7 wr 1 c0 c1 c2 c3 (xn : Int) y (wr.alloc (.cells #[.int .i64 1, .int .u64 (c0 : Int), .int .u64 (c1 : Int), .int .u64 (c2 : Int), .int .u64 (c3 : Int), .int .i64 (xn : Int), .int .i64 y] 52)).drew) := Lib.hid ((SE7.new _ _ _ _ _ _ _ _).kept (Below.refl _ _).drew)
              have HS : Hid (∀ w', Hid (SE7 wr 1 c0 c1 c2 c3 (xn : Int) y w') → (w'.cell? ⟨wr.heap.size, 1, none⟩ = some (.int .u64 (c0 : Int)) ∧ w'.cell? ⟨wr.heap.size, 2, none⟩ = some (.int .u64 (c1 : Int)) ∧ w'.cell? ⟨wr.heap.size, 3, none⟩ = some (.int .u64 (c2 : Int)) ∧ w'.cell? ⟨wr.heap.size, 4, none⟩ = some (.int .u64 (c3 : Int)) ∧ Hid (SE7 wr 1 c0 c1 c2 c3 (xn : Int) y w'))) := Lib.hid (fun w' h => ⟨h.out.cells.1, h.out.cells.2.1, h.out.cells.2.2.1, h.out.cells.2.2.2, h⟩)
              clear hr hnx hsa hcok HIN
              obtain ⟨K, hKK⟩ : ∃ K, K = xn * (s.size + 1) := ⟨_, rfl⟩
              have hmK : wrap64 ((xn : Int) * ((s.size : Int) + 1)) = (K : Int) := by
                have h1 := mul_fits (a := xn) (b := s.size + 1) (Nat.le_trans (Nat.mul_le_mul (show xn ≤ 200 by omega) (show s.size + 1 ≤ 401 by omega)) (by decide))
                rw [← hKK] at h1
                rw [← h1]
                congr 1
              have hbK : K ≤ 100000 := by rw [hKK]; exact Nat.le_trans (Nat.mul_le_mul (show xn ≤ 200 by omega) (show s.size + 1 ≤ 401 by omega)) (by decide)
              cases r with
              | true =>
                have HNX : Hid ([K + a + 1] = nxt p s.data.toList i a) := Lib.hid (by rw [HNX0.out, if_pos rfl, hKK, Nat.add_assoc])
                clear hKK HNX0
                go_wp2_with fail
                go_region_held3 (fun w' => w'.cell? ⟨wr.heap.size, 1, none⟩ = some (.int .u64 (c0 : Int)) ∧ w'.cell? ⟨wr.heap.size, 2, none⟩ = some (.int .u64 (c1 : Int)) ∧ w'.cell? ⟨wr.heap.size, 3, none⟩ = some (.int .u64 (c2 : Int)) ∧ w'.cell? ⟨wr.heap.size, 4, none⟩ = some (.int .u64 (c3 : Int)) ∧ Hid (SE7 wr 1 c0 c1 c2 c3 (xn : Int) y w'))
                  (exact HS.out _ (by assumption))
                  (first | (go_at_call 21; refine (HCI.out _ (by assumption)).mono ?_; rintro e w1 ⟨rfl, henv⟩))
                have k5 : w1.cell? ⟨wr.heap.size, 5, none⟩ = some (.int .i64 (xn : Int)) := henv.out.1.cell 5
                have hs1 : wr.heap.size ≤ w1.heap.size := henv.out.2.size
                have HB1 := Lib.hid henv.out.2
                clear henv HSE HCI HS
                go_wp2_with (at_builtin; refine wpList_append_own _ rfl (.tmp 69) (.tmp 77) _ rfl wr.heap.size 3 i0 _ 1 8 Tryd.underlying25 hi0 hz0 hz1 hz2 rfl (by omega) _ 0 [] rfl (World.ownsRow_nil _ _ _ _) ⟨w1.heap.size, 0, none⟩ 1 1 [.int .i64 ((K : Int) + (a : Int) + 1)] rfl rfl ?_ ?_ (by unfold maxLen; omega) (by omega) (by simp; omega) ?_)
                · exact cells_new1 _ _ _ _ (by simp)
                · intro u hu
                  simp at hu
                  first | (subst hu; rfl) | (rcases hu with rfl | rfl <;> rfl)
                · intro v' w' hown' hg' _
                  have HOW : w'.ownsRow wr.heap.size 3 1 v' 1 (natVals [K + a + 1]) := by simpa [natVals] using hown'
                  obtain ⟨A', cap', rfl, hq⟩ := own_q HOW (by simp [natVals])
                  have hbw := below_grown0 (HB1.out.alloc hs1 _) (by simp; omega) hg'
                  clear hown' hg' HOW
                  go_wp2
                  go_meet
                  obtain ⟨f1, f2, f3, f4, f5⟩ := HFIN.out _ hbw
                  exact ⟨A', cap', [K + a + 1], E, rfl, HNX, Lib.hid (fun _ => by obtain ⟨g2, e1, e2⟩ := hq (by simp); exact ⟨g2, e1, qu_weak e2 (by omega), fun e => by have := e2.hbase; omega⟩), HEN, f1, f2, f3, f4, by omega⟩
              | false =>
                have HNX : Hid ([] = nxt p s.data.toList i a) := Lib.hid (by rw [HNX0.out, if_neg (by simp)])
                clear hKK HNX0
                go_wp2_with fail
                go_region_held3 (fun w' => w'.cell? ⟨wr.heap.size, 1, none⟩ = some (.int .u64 (c0 : Int)) ∧ w'.cell? ⟨wr.heap.size, 2, none⟩ = some (.int .u64 (c1 : Int)) ∧ w'.cell? ⟨wr.heap.size, 3, none⟩ = some (.int .u64 (c2 : Int)) ∧ w'.cell? ⟨wr.heap.size, 4, none⟩ = some (.int .u64 (c3 : Int)) ∧ Hid (SE7 wr 1 c0 c1 c2 c3 (xn : Int) y w'))
                  (exact HS.out _ (by assumption))
                  (first | (go_at_call 21; refine (HCI.out _ (by assumption)).mono ?_; rintro e w1 ⟨rfl, henv⟩))
                have HB1 := Lib.hid henv.out.2
                clear henv HSE HCI HS
                skip
                go_wp2
                go_meet
                obtain ⟨f1, f2, f3, f4, f5⟩ := HFIN.out _ HB1.out
                exact ⟨none, 0, [], E, rfl, HNX, Lib.hid (fun h => by simp at h), HEN, f1, f2, f3, f4, by omega⟩
            · have d1 : decide (a < s.size) = false := by simpa using hlt
              have d2 : decide ((a : Int) < (s.size : Int)) = false := by simp; omega
              have HNX : Hid ([] = nxt p s.data.toList i a) := Lib.hid (by unfold nxt; rw [HST.out]; simp [List.getElem?_eq_none (show s.data.toList.length ≤ a by rw [HSL.out]; omega)])
              clear hlt
              go_wp2_with fail
              go_quiet (fail)
              go_wp2
              go_meet
              obtain ⟨f1, f2, f3, f4, f5⟩ := HFIN.out _ (below_drewN HW0.out _)
              exact ⟨none, 0, [], E, rfl, HNX, Lib.hid (fun h => by simp at h), HEN, f1, f2, f3, f4, by omega⟩
          · obtain ⟨hx0, hx1⟩ := hx (by omega)
            obtain ⟨xn, rfl⟩ := Int.eq_ofNat_of_zero_le hx0
            obtain ⟨hy0, hy1⟩ := hy rfl
            obtain ⟨yn, rfl⟩ := Int.eq_ofNat_of_zero_le hy0
            have HEN := HEND (by omega)
            clear hy hcz hyz hxz hx HEND
            obtain ⟨K, hKK⟩ : ∃ K, K = xn * (s.size + 1) := ⟨_, rfl⟩
            have hmK : wrap64 ((xn : Int) * ((s.size : Int) + 1)) = (K : Int) := by
              have h1 := mul_fits (a := xn) (b := s.size + 1) (Nat.le_trans (Nat.mul_le_mul (show xn ≤ 200 by omega) (show s.size + 1 ≤ 401 by omega)) (by decide))
              rw [← hKK] at h1
              rw [← h1]
              congr 1
            have hbK : K ≤ 100000 := by rw [hKK]; exact Nat.le_trans (Nat.mul_le_mul (show xn ≤ 200 by omega) (show s.size + 1 ≤ 401 by omega)) (by decide)
            obtain ⟨M, hKM⟩ : ∃ K, K = yn * (s.size + 1) := ⟨_, rfl⟩
            have hmM : wrap64 ((yn : Int) * ((s.size : Int) + 1)) = (M : Int) := by
              have h1 := mul_fits (a := yn) (b := s.size + 1) (Nat.le_trans (Nat.mul_le_mul (show yn ≤ 200 by omega) (show s.size + 1 ≤ 401 by omega)) (by decide))
              rw [← hKM] at h1
              rw [← h1]
              congr 1
            have hbM : M ≤ 100000 := by rw [hKM]; exact Nat.le_trans (Nat.mul_le_mul (show yn ≤ 200 by omega) (show s.size + 1 ≤ 401 by omega)) (by decide)
            have HNX : Hid ([K + a, M + a] = nxt p s.data.toList i a) := Lib.hid (by unfold nxt; rw [HST.out]; simp [hKK, hKM])
            clear hKK hKM
            go_wp2_with (at_builtin; refine wpList_append_own _ rfl (.tmp 81) (.tmp 94) _ rfl wr.heap.size 3 i0 _ 1 8 Tryd.underlying25 hi0 hz0 hz1 hz2 rfl (by omega) _ 0 [] rfl (World.ownsRow_nil _ _ _ _) ⟨wr.heap.size + 1, 0, none⟩ 2 2 [.int .i64 ((K : Int) + (a : Int)), .int .i64 ((M : Int) + (a : Int))] rfl rfl ?_ ?_ (by unfold maxLen; omega) (by omega) (by simp; omega) ?_)
            · exact cells_new2 _ _ _ _ _ (by simp)
            · intro u hu
              simp at hu
              first | (subst hu; rfl) | (rcases hu with rfl | rfl <;> rfl)
            · intro v' w' hown' hg' _
              have HOW : w'.ownsRow wr.heap.size 3 1 v' 2 (natVals [K + a, M + a]) := by simpa [natVals] using hown'
              obtain ⟨A', cap', rfl, hq⟩ := own_q HOW (by simp [natVals])
              have hbw := below_grown0 ((HW0.out).alloc (by simp) _) (by simp; omega) hg'
              clear hown' hg' HOW
              go_wp2
              go_meet
              obtain ⟨f1, f2, f3, f4, f5⟩ := HFIN.out _ hbw
              exact ⟨A', cap', [K + a, M + a], E, rfl, HNX, Lib.hid (fun _ => by obtain ⟨g2, e1, e2⟩ := hq (by simp); exact ⟨g2, e1, qu_weak e2 (by omega), fun e => by have := e2.hbase; omega⟩), HEN, f1, f2, f3, f4, by omega⟩
          · obtain ⟨hx0, hx1⟩ := hx (by omega)
            obtain ⟨xn, rfl⟩ := Int.eq_ofNat_of_zero_le hx0
            have HEN := HEND (by omega)
            clear hy hcz hyz hxz hx HEND
            by_cases hlt : a = 0
            · have d1 : (a == 0) = true := by simpa using hlt
              have d2 : ((a : Int) == 0) = true := by simp; omega
              obtain ⟨K, hKK⟩ : ∃ K, K = xn * (s.size + 1) := ⟨_, rfl⟩
              have hmK : wrap64 ((xn : Int) * ((s.size : Int) + 1)) = (K : Int) := by
                have h1 := mul_fits (a := xn) (b := s.size + 1) (Nat.le_trans (Nat.mul_le_mul (show xn ≤ 200 by omega) (show s.size + 1 ≤ 401 by omega)) (by decide))
                rw [← hKK] at h1
                rw [← h1]
                congr 1
              have hbK : K ≤ 100000 := by rw [hKK]; exact Nat.le_trans (Nat.mul_le_mul (show xn ≤ 200 by omega) (show s.size + 1 ≤ 401 by omega)) (by decide)
              have HNX : Hid ([K + a] = nxt p s.data.toList i a) := Lib.hid (by unfold nxt; rw [HST.out]; simp [hKK, hlt])
              clear hKK hlt
              go_wp2_with (at_builtin; refine wpList_append_own _ rfl (.tmp 100) (.tmp 107) _ rfl wr.heap.size 3 i0 _ 1 8 Tryd.underlying25 hi0 hz0 hz1 hz2 rfl (by omega) _ 0 [] rfl (World.ownsRow_nil _ _ _ _) ⟨wr.heap.size + 1, 0, none⟩ 1 1 [.int .i64 ((K : Int) + (a : Int))] rfl rfl ?_ ?_ (by unfold maxLen; omega) (by omega) (by simp; omega) ?_)
              · exact cells_new1 _ _ _ _ (by simp)
              · intro u hu
                simp at hu
                first | (subst hu; rfl) | (rcases hu with rfl | rfl <;> rfl)
              · intro v' w' hown' hg' _
                have HOW : w'.ownsRow wr.heap.size 3 1 v' 1 (natVals [K + a]) := by simpa [natVals] using hown'
                obtain ⟨A', cap', rfl, hq⟩ := own_q HOW (by simp [natVals])
                have hbw := below_grown0 ((HW0.out).alloc (by simp) _) (by simp; omega) hg'
                clear hown' hg' HOW
                go_wp2
                go_meet
                obtain ⟨f1, f2, f3, f4, f5⟩ := HFIN.out _ hbw
                exact ⟨A', cap', [K + a], E, rfl, HNX, Lib.hid (fun _ => by obtain ⟨g2, e1, e2⟩ := hq (by simp); exact ⟨g2, e1, qu_weak e2 (by omega), fun e => by have := e2.hbase; omega⟩), HEN, f1, f2, f3, f4, by omega⟩
            · have d1 : (a == 0) = false := by simpa using hlt
              have d2 : ((a : Int) == 0) = false := by simp; omega
              have HNX : Hid ([] = nxt p s.data.toList i a) := Lib.hid (by unfold nxt; rw [HST.out]; simp [hlt])
              clear hlt
              go_wp2
              go_meet
              obtain ⟨f1, f2, f3, f4, f5⟩ := HFIN.out _ HW0.out
              exact ⟨none, 0, [], E, rfl, HNX, Lib.hid (fun h => by simp at h), HEN, f1, f2, f3, f4, by omega⟩
          · obtain ⟨hx0, hx1⟩ := hx (by omega)
            obtain ⟨xn, rfl⟩ := Int.eq_ofNat_of_zero_le hx0
            have HEN := HEND (by omega)
            clear hy hcz hyz hxz hx HEND
            by_cases hlt : a = s.size
            · have d1 : (a == s.size) = true := by simpa using hlt
              have d2 : ((a : Int) == (s.size : Int)) = true := by simp; omega
              obtain ⟨K, hKK⟩ : ∃ K, K = xn * (s.size + 1) := ⟨_, rfl⟩
              have hmK : wrap64 ((xn : Int) * ((s.size : Int) + 1)) = (K : Int) := by
                have h1 := mul_fits (a := xn) (b := s.size + 1) (Nat.le_trans (Nat.mul_le_mul (show xn ≤ 200 by omega) (show s.size + 1 ≤ 401 by omega)) (by decide))
                rw [← hKK] at h1
                rw [← h1]
                congr 1
              have hbK : K ≤ 100000 := by rw [hKK]; exact Nat.le_trans (Nat.mul_le_mul (show xn ≤ 200 by omega) (show s.size + 1 ≤ 401 by omega)) (by decide)
              have HNX : Hid ([K + a] = nxt p s.data.toList i a) := Lib.hid (by unfold nxt; rw [HST.out]; simp [hKK, hlt])
              clear hKK hlt
              go_wp2_with (at_builtin; refine wpList_append_own _ rfl (.tmp 115) (.tmp 122) _ rfl wr.heap.size 3 i0 _ 1 8 Tryd.underlying25 hi0 hz0 hz1 hz2 rfl (by omega) _ 0 [] rfl (World.ownsRow_nil _ _ _ _) ⟨wr.heap.size + 1, 0, none⟩ 1 1 [.int .i64 ((K : Int) + (a : Int))] rfl rfl ?_ ?_ (by unfold maxLen; omega) (by omega) (by simp; omega) ?_)
              · exact cells_new1 _ _ _ _ (by simp)
              · intro u hu
                simp at hu
                first | (subst hu; rfl) | (rcases hu with rfl | rfl <;> rfl)
              · intro v' w' hown' hg' _
                have HOW : w'.ownsRow wr.heap.size 3 1 v' 1 (natVals [K + a]) := by simpa [natVals] using hown'
                obtain ⟨A', cap', rfl, hq⟩ := own_q HOW (by simp [natVals])
                have hbw := below_grown0 ((HW0.out).alloc (by simp) _) (by simp; omega) hg'
                clear hown' hg' HOW
                go_wp2
                go_meet
                obtain ⟨f1, f2, f3, f4, f5⟩ := HFIN.out _ hbw
                exact ⟨A', cap', [K + a], E, rfl, HNX, Lib.hid (fun _ => by obtain ⟨g2, e1, e2⟩ := hq (by simp); exact ⟨g2, e1, qu_weak e2 (by omega), fun e => by have := e2.hbase; omega⟩), HEN, f1, f2, f3, f4, by omega⟩
            · have d1 : (a == s.size) = false := by simpa using hlt
              have d2 : ((a : Int) == (s.size : Int)) = false := by simp; omega
              have HNX : Hid ([] = nxt p s.data.toList i a) := Lib.hid (by unfold nxt; rw [HST.out]; simp [hlt])
              clear hlt
              go_wp2
              go_meet
              obtain ⟨f1, f2, f3, f4, f5⟩ := HFIN.out _ HW0.out
              exact ⟨none, 0, [], E, rfl, HNX, Lib.hid (fun h => by simp at h), HEN, f1, f2, f3, f4, by omega⟩
          · clear hx hy hcz hyz hxz HEND
            have hcE : (wr.alloc (.cells #[.int .i64 5, .int .u64 (c0 : Int), .int .u64 (c1 : Int), .int .u64 (c2 : Int), .int .u64 (c3 : Int), .int .i64 x, .int .i64 y] 52)).cell? ⟨w.heap.size + 1 + 1, a, none⟩ = some (.bool (E a)) := (hE.out.alloc _).cell hal
            have hfE : (wr.alloc (.cells #[.int .i64 5, .int .u64 (c0 : Int), .int .u64 (c1 : Int), .int .u64 (c2 : Int), .int .u64 (c3 : Int), .int .i64 x, .int .i64 y] 52)).frozen? ⟨w.heap.size + 1 + 1, a, none⟩ = false := (hE.out.alloc _).frozen a
            have hne1 : ¬ w.heap.size + 1 + 1 = wr.heap.size := by omega
            have hal2 : (a : Int) < (s.size : Int) + 1 := by omega
            have HNX : Hid ([] = nxt p s.data.toList i a) := Lib.hid (by unfold nxt; rw [HST.out]; simp)
            have HEN : Hid (∀ z, setD E a true z = true ↔ E z = true ∨ (z = a ∧ DoneAt p i)) := Lib.hid (fun z => by
              have hdn : DoneAt p i := ⟨_, HST.out, rfl⟩
              unfold setD
              by_cases e : z = a
              · subst e; simp [hdn]
              · simp [e])
            have hal0 : (0 : Int) ≤ (a : Int) := by omega
            go_wp2
            go_meet
            clear hcE hfE hne1
            refine ⟨none, 0, [], setD E a true, rfl, HNX, Lib.hid (fun h => by simp at h), HEN, ?_, ?_, ?_, ?_, ?_⟩
            · exact Lib.hid ((hQ.out.kept (World.grownBy_alloc _ _ none) (by simp)).kept (grown_set _ _ _ _) (fun hh => RB.ne_q hE.out hQ.out (Option.some.inj hh).symm))
            · exact Lib.hid ((hD.out.alloc _).far (by omega) _)
            · exact Lib.hid ((hE.out.alloc _).set_ a true)
            · exact Lib.hid ((hB.out.alloc (by omega) _).setCell (by simp; omega) _)
            · simp; omega
        case rest =>
          obtain ⟨AN, capN, L, E', rfl, HL, HN, HE', hQ, hD, hE, hB, hszx⟩ := hcut
          clear q0 q1 q2 q3 q4 q5 q6 hone hcok dq dr
          have hII : Hid (RunI p s.data.toList f D E' h rest (L.drop 0)) := Lib.hid (by
            rw [List.drop_zero, HL.out, HI.out, HA.out]
            have h2 := HE'.out
            rw [HI.out, HA.out] at h2
            have h3 := hI.out.take E' (by rw [HSL.out]; exact h2)
            rw [HSL.out] at h3
            exact h3)
          have hLlt : Hid (∀ k ∈ L, k < N) := Lib.hid (by rw [HL.out, HND.out, ← HSL.out]; exact nxt_lt HP.out (by rw [HSL.out]; exact hal))
          have hnb : Hid (∀ k ∈ nxt p s.data.toList (h / (s.data.toList.length + 1)) (h % (s.data.toList.length + 1)), k < p.length * (s.data.toList.length + 1)) := Lib.hid (nxt_lt HP.out (by rw [HSL.out]; exact Nat.mod_lt _ (by omega)))
          have hLlen : L.length ≤ 2 := by rw [HL.out]; exact nxt_len _ _ _ _
          have hMM := hM.out
          have hAN : Hid (∀ gN, AN = some ⟨gN, 0, none⟩ → 0 < L.length → Qu wc (w.heap.size + 3) 3 gN 0 capN (natVals L) ∧ g ≠ gN) := Lib.hid (fun gN h1 h2 => by
            obtain ⟨gN', h3, h4, h5⟩ := HN.out h2
            rw [h1] at h3
            injection h3 with h3
            injection h3 with h3
            subst h3
            exact ⟨h4, h5⟩)
          clear hI HE' HI HA HST
          go_wp2_with fail
          go_loopw [9, 16] (fun v9 v16 wy => ∃ (j g o c : Nat) (D : Nat → Bool) (rest : List Nat), j ≤ L.length ∧ v16 = .int .i64 (j : Int) ∧ v9 = .slice (some ⟨g, o, none⟩) rest.length c ∧ Hid (Qu wy (w.heap.size + 1) 3 g o c (natVals rest)) ∧ Hid (RB wy w.heap.size N D) ∧ Hid (RB wy (w.heap.size + 1 + 1) (s.size + 1) E') ∧ Hid (RunI p s.data.toList f D E' h rest (L.drop j)) ∧
              Hid (∀ gN, AN = some ⟨gN, 0, none⟩ → 0 < L.length → Qu wy (w.heap.size + 3) 3 gN 0 capN (natVals L) ∧ g ≠ gN) ∧ Hid (Below w.heap.size w wy) ∧ Hid (2 * (N - cntD N D) + rest.length + 1 ≤ gk) ∧ w.heap.size + 3 ≤ wy.heap.size ∧ rest.length ≤ gk) (fun _ i _ => L.length - (intOf i).toNat)
          case atStart => exact ⟨0, g, o', c', D, rest, by omega, rfl, rfl, hQ, hD, hE, hII, hAN, hB, Lib.hid (by omega), hszx, by omega⟩
          case round =>
            clear hQ hD hE hII hAN hB hM hszx hMM hsz hgl hgb
            obtain ⟨j, g, o, c, D, rest, hj, rfl, rfl, hQ, hD, hE, hI, hA, hB, hM, hsz2, hsm⟩ := hrel
            by_cases hlt : j < L.length
            · obtain ⟨y, hy⟩ : ∃ y, L[j]? = some y := ⟨_, List.getElem?_eq_getElem hlt⟩
              obtain ⟨gN, rfl, _⟩ := HN.out (by omega)
              obtain ⟨hQN, hgN⟩ := hA.out gN rfl (by omega)
              have hyN : y < N := hLlt.out y (List.mem_of_getElem? hy)
              have hcN : wr.cell? ⟨gN, j, none⟩ = some (.int .i64 (y : Int)) := by
                have := hQN.cell j (.int .i64 (y : Int)) (by simp [natVals, hy])
                simpa using this
              have hcD : wr.cell? ⟨w.heap.size, y, none⟩ = some (.bool (D y)) := hD.out.cell hyN
              have hfD := hD.out.frozen y
              have hdr : L.drop j = y :: L.drop (j + 1) := by
                obtain ⟨hl, he⟩ := List.getElem?_eq_some_iff.1 hy
                rw [List.drop_eq_getElem_cons hl, he]
              have hIy := hI.out
              rw [hdr] at hIy
              have HIY := Lib.hid hIy
              have hj1 : (j : Int) < (L.length : Int) := by omega
              have hy1 : (y : Int) < (N : Int) := by omega
              have hbN := hQN.hbase
              have hlN := hQN.lt
              have hneN : ¬ gN = w.heap.size := by omega
              have HQN := Lib.hid hQN
              clear hy hdr hIy hQN hI
              cases hDy : D y with
              | true =>
                rw [hDy] at hcD
                have HDY := Lib.hid hDy
                clear hDy
                go_wp2
                go_roundw
                case rel => exact ⟨j + 1, g, o, c, D, rest, by omega, by go_num, rfl, hQ, hD, hE, Lib.hid (HIY.out.skip HDY.out), hA, hB, hM, hsz2, hsm⟩
                case measure => simp [intOf]; omega
              | false =>
                rw [hDy] at hcD
                have HDY := Lib.hid hDy
                clear hDy
                have hgb2 := hQ.out.hbase
                have hgl2 := hQ.out.lt
                have HQa := Lib.hid ((hQ.out.kept (grown_set wr w.heap.size y (.bool true)) (fun hh => by have := Option.some.inj hh; omega)).kept (World.grownBy_alloc _ (.cells #[.int .i64 (y : Int)] 3) none) (by simp))
                have hcell : ((wr.setCell ⟨w.heap.size, y, none⟩ (.bool true)).alloc (.cells #[.int .i64 (y : Int)] 3)).cell? ⟨wr.heap.size, 0, none⟩ = some (.int .i64 (y : Int)) := by
                  have := World.cell?_alloc_new (wr.setCell ⟨w.heap.size, y, none⟩ (.bool true)) #[.int .i64 (y : Int)] 3 0
                  simpa using this
                have HCELL := Lib.hid hcell
                have HLEN := Lib.hid (show (natVals rest).length = rest.length by simp [natVals])
                have HSZX := Lib.hid (show w.heap.size + 1 ≤ ((wr.setCell ⟨w.heap.size, y, none⟩ (.bool true)).alloc (.cells #[.int .i64 (y : Int)] 3)).heap.size by simp; omega)
                clear hcell
                go_wp2_with (at_builtin; refine wpList_app_q rfl (.tmp 149) (.tmp 154) _ rfl i0 _ 8 Tryd.underlying25 hi0 hz0 hz1 hz2 rfl rest.length HLEN.out rfl HQa.out HSZX.out (.int .i64 (y : Int)) rfl wr.heap.size 1 rfl HCELL.out (by unfold maxLen; omega) (by omega) ?_; intro g' o' c' w' hQ' hg' hat')
                clear hcD hcN hfD
                go_roundw
                case rel =>
                  have hal : ∀ W : World, Below W.heap.size W (W.alloc (.cells #[.int .i64 (y : Int)] 3)) := fun W => (Below.refl _ _).alloc (Nat.le_refl _) _
                  have hDs := (hD.out.set_ y true).alloc (.cells #[.int .i64 (y : Int)] 3)
                  have hEs := (hE.out.far (g2 := w.heap.size) (k := y) (by omega) (.bool true)).alloc (.cells #[.int .i64 (y : Int)] 3)
                  have hD' := hDs.kept hg' (fun hh => RB.ne_q hDs HQa.out (Option.some.inj hh))
                  have hE' := hEs.kept hg' (fun hh => RB.ne_q hEs HQa.out (Option.some.inj hh))
                  rw [setD_mark] at hD'
                  have hN' := ((HQN.out.kept (grown_set wr w.heap.size y (.bool true)) (fun hh => by have := Option.some.inj hh; omega)).kept (World.grownBy_alloc _ (.cells #[.int .i64 (y : Int)] 3) none) (by simp)).kept hg' (fun hh => hgN (Option.some.inj hh).symm)
                  have hcm := cntD_mark hyN HDY.out
                  have hcl := cntD_le N (Wf.mark D y)
                  have hs2 := hg'.size
                  have hMM := hM.out
                  have hb' : Below w.heap.size w w' := below_grown2' ((hB.out.setCell (p := ⟨w.heap.size, y, none⟩) (Nat.le_refl _) (.bool true)).alloc (by simp; omega) (.cells #[.int .i64 (y : Int)] 3)) (by omega) (by simp; omega) hg'
                  refine ⟨j + 1, g', o', c', Wf.mark D y, rest ++ [y], by omega, by go_num, by simp, Lib.hid (by rw [natVals_snoc]; exact hQ'), Lib.hid hD', Lib.hid hE', Lib.hid (HIY.out.add hnb.out), Lib.hid (fun gM h1 h2 => ?_), Lib.hid hb', Lib.hid (by simp; omega), by simp at hs2; omega, by simp; omega⟩
                  injection h1 with h1
                  injection h1 with h1
                  subst h1
                  exact ⟨hN', fun e => by
                    rcases hat' with h | h
                    · exact hgN (h.symm.trans e)
                    · simp at h; omega⟩
                case measure => simp [intOf]; omega
            · obtain rfl : j = L.length := by omega
              have hIc := Lib.hid (RunI.close (by have h := hI.out; rw [List.drop_length] at h; exact h))
              have hMM := hM.out
              clear hI hA
              go_wp2
              go_roundg (gk - 1)
              case measure => omega
              case rel => exact ⟨g, o, c, D, E', rest, rfl, hQ, hD, hE, hIc, hB, Lib.hid (by omega), by omega, by omega⟩

end Go.Proofs.YthcahjnniendnaaDoor
