/-
  The walk of the document's EndsOf.
-/
import Derived.Test.YthcahjnniendnacDoorEmptyNo
import Derived.Test.YthcahjnniendnacDoorGMean
import Derived.Test.YthcahjnniendnacDoorGReach
import Derived.Test.YthcahjnniendnacDoorInts
import Derived.Test.YthcahjnniendnacDoorQueue
namespace Go.Proofs.YthcahjnniendnacDoor
open Go.RowKit Wf

def REndsOfIs (s : List UInt8) (t : Rx) (f : Nat) (w : World) (e : Ending) (w' : World) : Prop :=
  ∃ (A : Option Addr) (cap : Nat), e = .returned (.slice A (endsL s t f).length cap) ∧ Rd1 w' (.slice A (endsL s t f).length cap) (natVals (endsL s t f)) ∧ Below w.heap.size w w'

set_option maxRecDepth 100000 in
set_option maxHeartbeats 8000000 in
theorem REndsOf_ok (l : List Nd) (t : Rx) (hl : l = flat t) (hok : ∀ n ∈ l, okC n.cls) (hlen : l.length ≤ 60) (b off cap : Nat) (s : ByteArray) (hs : s.size ≤ 400) (f : Nat) (hf : f ≤ s.size) (w : World) (hr : RdN w (.slice (some ⟨b, off, none⟩) l.length cap) l) :
    Calls Tryd.prog 40 #[.slice (some ⟨b, off, none⟩) l.length cap, .string s, .int .i64 (f : Int)] w (REndsOfIs s.data.toList t f w) := by
  obtain ⟨i0, hi0, hz0, hz1, hz2⟩ := info_parts info_int
  have hgood : ∀ n ∈ l, good n := by rw [hl]; exact flat_good t
  have hwhole : At l 0 t := by rw [hl]; exact At.whole t
  have HRE := Lib.hid (RReach_all l hgood hok hlen b off cap s hs t 0 hwhole)
  have hmk := fun W => mk_bools (s.size + 1) (by omega) W
  rw [show ((s.size + 1 : Nat) : Int) = (s.size : Int) + 1 by omega] at hmk
  have hrg := repA_get (s.size + 1) (.bool false) f (by omega)
  have hz : (0 : Int) ≤ (s.size : Int) := by omega
  have HSL := Lib.hid (show s.data.toList.length = s.size by simp)
  have HR := Lib.hid hr
  have h1 : (f : Int) < (s.size : Int) + 1 := by omega
  clear hr hok hgood hwhole hl
  go_enter Tryd.func40, Tryd.ntmps40
  go_wp2_with fail
  clear hmk hrg
  have hn1 := repA_set w (s.size + 1) f true
  have hb1 : Below w.heap.size w (w.alloc (.cells ((repA (s.size + 1) (.bool false)).setIfInBounds f (.bool true)) 4)) := (Below.refl _ _).alloc (Nat.le_refl _) _
  have hra := HRE.out
  unfold ReachAt at hra
  refine (hra _ w.heap.size _ (HR.out.below hb1) hn1).mono ?_
  rintro e w2 ⟨g, D, rfl, hg, hto, hb2⟩
  have HG := Lib.hid hg
  have HB := Lib.hid (hb1.trans (hb2.mono hb1.size))
  have HGL := Lib.hid hg.lt
  have HSZ := Lib.hid (show w.heap.size + 1 ≤ w2.heap.size by have := hb2.size; simp at this; omega)
  have HTO : Hid (∀ j, j < s.size + 1 → (D j = true ↔ Fits s.data.toList t f j)) := Lib.hid (fun j hj => by
    rw [hto j hj]
    constructor
    · rintro ⟨k, hk, hd, hfit⟩
      unfold setD at hd
      split at hd
      · rename_i e; subst e; exact hfit
      · cases hd
    · intro hfit
      exact ⟨f, by omega, by simp [setD], hfit⟩)
  clear hg hto hb1 hb2 hn1 hra
  have hRL : endsL s.data.toList t f = upTo_ (Fits s.data.toList t f) (s.size + 1) := by unfold endsL; rw [HSL.out]
  have HRL := Lib.hid hRL
  clear hRL
  go_wp2_with fail
  go_loopw [9, 10] (fun v9 v10 wy => ∃ k : Nat, k ≤ s.size + 1 ∧ v10 = .int .i64 (k : Int) ∧ Hid (wy.ownsRow w2.heap.size 3 1 v9 (upTo_ (Fits s.data.toList t f) k).length (natVals (upTo_ (Fits s.data.toList t f) k))) ∧ Hid (RB wy g (s.size + 1) D) ∧ Hid (Below w.heap.size w wy) ∧ w2.heap.size ≤ wy.heap.size) (fun _ i _ => s.size + 1 - (intOf i).toNat)
  case atStart => exact ⟨0, by omega, rfl, Lib.hid (World.ownsRow_nil _ _ _ _), HG, HB, Nat.le_refl _⟩
  case round =>
    clear HG HB
    obtain ⟨k, hk, rfl, hO, hE, hB, hsz⟩ := hrel
    by_cases hlt : k < s.size + 1
    · have hcE := hE.out.cell hlt
      have hk1 : (k : Int) < (s.size : Int) + 1 := by omega
      have hen := HTO.out k hlt
      have HEN := Lib.hid hen
      clear hen
      cases hb : D k with
      | false =>
        rw [hb] at hcE
        have HEK := Lib.hid hb
        clear hb
        go_wp2
        go_roundw
        case rel =>
          have hno : ¬ Fits s.data.toList t f k := fun h => by have := HEN.out.2 h; rw [HEK.out] at this; cases this
          exact ⟨k + 1, by omega, by go_num, by rw [upTo_no hno]; exact hO, hE, hB, hsz⟩
        case measure => simp [intOf]; omega
      | true =>
        rw [hb] at hcE
        have HEK := Lib.hid hb
        have HY := Lib.hid (HEN.out.1 HEK.out)
        have HLEN := Lib.hid (upTo_len (Fits s.data.toList t f) k)
        have HOA := Lib.hid (hO.out.alloc (.cells #[.int .i64 (k : Int)] 3))
        clear hb
        generalize hxs : upTo_ (Fits s.data.toList t f) k = xs at *
        go_wp2_with (at_builtin; refine wpList_append_own _ rfl (.tmp 32) (.tmp 34) _ rfl w2.heap.size 3 i0 _ 1 8 Tryd.underlying24 hi0 hz0 hz1 hz2 rfl (by omega) _ xs.length (natVals xs) rfl HOA.out ⟨wr.heap.size, 0, none⟩ 1 1 [.int .i64 (k : Int)] rfl rfl ?_ ?_ (by have := HLEN.out; unfold maxLen; omega) (by have := HLEN.out; omega) (by simp; omega) ?_)
        · intro j v hv
          match j, hv with
          | 0, hv =>
            cases hv
            simp [add_mk]
          | j + 1, hv => simp at hv
        · intro u hu
          simp at hu
          subst hu
          rfl
        · intro v' w' hown' hg' _
          have hB1 : Below w.heap.size w (wr.alloc (.cells #[.int .i64 (k : Int)] 3)) := hB.out.alloc (by have := hB.out.size; omega) _
          have hB' : Hid (Below w.heap.size w w') := Lib.hid ⟨hg'.os.trans hB1.os, hg'.tape.trans hB1.tape, hg'.output.trans hB1.output, Nat.le_trans hB1.size hg'.size, fun i hi => (hg'.block i (by have := hB1.size; omega) (fun e => by
            have h1 := (HOA.out.lt _ e.symm).1
            have h2 := HSZ.out
            omega)).trans (hB1.block i hi)⟩
          have hE' := Lib.hid ((hE.out.alloc (.cells #[.int .i64 (k : Int)] 3)).kept hg' (fun e => by
            have h1 := (HOA.out.lt _ e.symm).1
            have h2 := HGL.out
            omega))
          have hO' : Hid (w'.ownsRow w2.heap.size 3 1 v' (xs ++ [k]).length (natVals (xs ++ [k]))) := Lib.hid (by rw [natVals_snoc]; simpa using hown')
          have hs2 := hg'.size
          have hs3 : w2.heap.size ≤ w'.heap.size := by simp at hs2; omega
          clear hg' hown' hB1 hs2 hcE
          go_wp2
          go_roundw
          case rel => exact ⟨k + 1, by omega, by go_num, by rw [upTo_yes HY.out, hxs]; exact hO', hE', hB', hs3⟩
          case measure => simp [intOf]; omega
    · obtain rfl : k = s.size + 1 := by omega
      rw [← HRL.out] at hO
      go_wp2
      go_ret
      have hO2 := hO.out
      obtain ⟨VA, vn, vcap, rfl, _, _, hvl, _⟩ := Rd.of_own hO2
      obtain rfl : vn = (endsL s.data.toList t f).length := by simp [natVals] at hvl; omega
      exact ⟨VA, vcap, rfl, Rd.of_own hO2, hB.out⟩

end Go.Proofs.YthcahjnniendnacDoor
