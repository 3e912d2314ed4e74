/-
  Walks of the document's FindOf, AllOf.
-/
import Derived.Test.YthcahjnniendnacDoorEndsOf
import Derived.Test.YthcahjnniendnacDoorGSim
import Derived.Test.YthcahjnniendnacDoorPh
import Derived.Test.YthcahjnniendnacDoorSpan
namespace Go.Proofs.YthcahjnniendnacDoor
open Go.RowKit Wf

theorem long_ends (s : List UInt8) (t : Rx) (i : Nat) : longO s t i = (endsL s t i).getLast? := rfl
theorem last_get {xs : List Nat} {j : Nat} (h : xs.getLast? = some j) : 0 < xs.length ∧ xs[xs.length - 1]? = some j := by
  rw [List.getLast?_eq_getElem?] at h
  exact ⟨by have := (List.getElem?_eq_some_iff.1 h).1; omega, h⟩

/-- The first span from a place on. -/
def RFindOut (r : Option (Nat × Nat)) (w : World) (e : Ending) (w' : World) : Prop :=
  (∃ x y : Nat, r = some (x, y) ∧ e = .returned (.tuple #[.agg #[.int .i64 (x : Int), .int .i64 (y : Int)], .bool true]) ∧ Below w.heap.size w w') ∨
  (r = none ∧ e = .returned (.tuple #[.agg #[.int .i64 0, .int .i64 0], .bool false]) ∧ Below w.heap.size w w')

set_option maxRecDepth 100000 in
set_option maxHeartbeats 8000000 in
theorem RFind_ok (l : List Nd) (t : Rx) (hl : l = flat t) (hok : ∀ n ∈ l, okC n.cls) (hlen : l.length ≤ 60) (b off cap : Nat) (tx : ByteArray) (hx : tx.size ≤ 400) (f0 : Nat) (hf : f0 ≤ tx.size + 1) (w : World) (hr : RdN w (.slice (some ⟨b, off, none⟩) l.length cap) l) :
    Calls Tryd.prog 19 #[.slice (some ⟨b, off, none⟩) l.length cap, .string tx, .int .i64 (f0 : Int)] w (RFindOut (foundO tx.data.toList t f0) w) := by
  have HEN := Lib.hid fun f hf W h => REndsOf_ok l t hl hok hlen b off cap tx hx f hf W h
  have HR := Lib.hid hr
  have HSZ : Hid (tx.data.toList.length = tx.size) := Lib.hid (by simp)
  have HB0 := Lib.hid ((Below.refl w.heap.size w).alloc (Nat.le_refl _) (.cells #[.int .i64 0, .int .i64 0] 46))
  have HK0 := Lib.hid (Blk.new w 46 #[.int .i64 0, .int .i64 0])
  clear hl hok hlen hr
  go_enter Tryd.func19, Tryd.ntmps19
  go_wp2_with fail
  go_loopw [8] (fun v8 wr => ∃ (i : Nat), f0 ≤ i ∧ i ≤ tx.size + 1 ∧ v8 = .int .i64 (i : Int) ∧ Hid (foundO tx.data.toList t f0 = foundO tx.data.toList t i) ∧ Hid (Below w.heap.size w wr) ∧ Hid (Blk wr w.heap.size 46 #[.int .i64 0, .int .i64 0])) (fun i _ => tx.size + 1 - (intOf i).toNat)
  case atStart => exact ⟨f0, Nat.le_refl _, hf, rfl, Lib.hid rfl, HB0, HK0⟩
  case round =>
    clear HB0 HK0
    obtain ⟨i, hfi, his, rfl, HF, HB, HK⟩ := hrel
    by_cases hlt : i ≤ tx.size
    · have hd : decide (i ≤ tx.size) = true := by simpa using hlt
      have HE := Lib.hid (HEN.out i hlt wr (HR.out.below HB.out))
      unfold REndsOfIs at HE
      have hlast := long_ends tx.data.toList t i
      have hel : (endsL tx.data.toList t i).length ≤ 402 := by
        have := upTo_len (Fits tx.data.toList t i) (tx.data.toList.length + 1)
        rw [HSZ.out] at this
        show (Go.Proofs.YthcahjnniendnacDoor.upTo_ _ (tx.data.toList.length + 1)).length ≤ 402
        rw [HSZ.out]
        omega
      generalize endsL tx.data.toList t i = xs at *
      cases hl : longO tx.data.toList t i with
      | some j =>
        rw [hl] at hlast
        obtain ⟨hpos, hget⟩ := last_get hlast.symm
        have HF2 : Hid (foundO tx.data.toList t f0 = some (i, j)) := Lib.hid (by rw [HF.out]; exact findO_some (by rw [HSZ.out]; exact hlt) hl)
        have HG := Lib.hid hget
        clear hl HF hlast hget
        go_wp2_with fail
        refine HE.out.mono ?_
        rintro e w2 ⟨A, cp, rfl, hrd, hb2⟩
        obtain ⟨A', cap', hv, hcf, hcf2, hmf⟩ := Rd1.open_ hrd
        have hnl : (natVals xs).length = xs.length := by simp [natVals]
        rw [hnl] at hv hcf hmf
        injection hv with e1 _ e2
        subst e1
        subst e2
        obtain ⟨bf, of, rfl, hbf, hc⟩ := hmf hpos
        have g0 := hc w2 (fun _ => rfl) (xs.length - 1) (.int .i64 (j : Int)) (by simp [natVals, HG.out])
        have hk2 := HK.out.kept hb2
        have s0 : w2.cell? ⟨w.heap.size, 0, none⟩ = some (.int .i64 0) := hk2.cell 0
        have s1 : w2.cell? ⟨w.heap.size, 1, none⟩ = some (.int .i64 0) := hk2.cell 1
        have z0 : w2.frozen? ⟨w.heap.size, 0, none⟩ = false := hk2.frozen 0
        have z1 : w2.frozen? ⟨w.heap.size, 1, none⟩ = false := hk2.frozen 1
        have HK2 := Lib.hid hk2
        have HB2 := Lib.hid (HB.out.trans (hb2.mono HB.out.size))
        have i1 : (0 : Int) < (xs.length : Int) := by omega
        have i2 : decide (0 < xs.length) = true := by simpa using hpos
        have hcast : ((xs.length - 1 : Nat) : Int) = (xs.length : Int) - 1 := by omega
        have htn : ((xs.length : Int) - 1).toNat = xs.length - 1 := by omega
        have i3 : (0 : Int) ≤ (xs.length : Int) - 1 := by omega
        have i4 : (1 : Int) ≤ (xs.length : Int) := by omega
        have i5 : (xs.length : Int) - 1 < (xs.length : Int) := by omega
        have HC := Lib.hid hcast
        clear hrd hb2 hk2 hmf hc hnl hcast
        go_wp2_with fail
        have hk := (HK2.out.set_ 0 (.int .i64 (i : Int))).set_ 1 (.int .i64 (j : Int))
        refine bodyPost_ret (v := .tuple #[.agg #[.int .i64 (i : Int), .int .i64 (j : Int)], .bool true]) ?_ rfl (.inl ⟨i, j, HF2.out, rfl, (HB2.out.setCell (Nat.le_refl _) _).setCell (Nat.le_refl _) _⟩)
        have k0 := hk.cell 0
        have k1 := hk.cell 1
        simp only [Array.getElem?_setIfInBounds] at k0 k1
        simp [results, Tryd.results19, go_sem, k0, k1]
      | none =>
        rw [hl] at hlast
        have hxs : xs = [] := List.getLast?_eq_none_iff.1 hlast.symm
        have HF2 : Hid (foundO tx.data.toList t f0 = foundO tx.data.toList t (i + 1)) := Lib.hid (by rw [HF.out]; exact findO_none (by rw [HSZ.out]; exact hlt) hl)
        have i2 : decide (0 < xs.length) = false := by rw [hxs]; simp
        have HXS := Lib.hid hxs
        clear hl HF hlast hxs
        go_wp2_with fail
        refine HE.out.mono ?_
        rintro e w2 ⟨A, cp, rfl, hrd, hb2⟩
        have HK2 := Lib.hid (HK.out.kept hb2)
        have HB2 := Lib.hid (HB.out.trans (hb2.mono HB.out.size))
        clear hrd hb2
        go_wp2_with fail
        go_roundw
        case rel => exact ⟨i + 1, by omega, by omega, by go_num, HF2, HB2, HK2⟩
        case measure => simp [intOf]; omega
    · have hd : decide (i ≤ tx.size) = false := by simpa using hlt
      have HF2 : Hid (foundO tx.data.toList t f0 = none) := Lib.hid (by rw [HF.out]; exact findO_end (by rw [HSZ.out]; omega))
      have s0 : wr.cell? ⟨w.heap.size, 0, none⟩ = some (.int .i64 0) := HK.out.cell 0
      have s1 : wr.cell? ⟨w.heap.size, 1, none⟩ = some (.int .i64 0) := HK.out.cell 1
      have z0 : wr.frozen? ⟨w.heap.size, 0, none⟩ = false := HK.out.frozen 0
      have z1 : wr.frozen? ⟨w.heap.size, 1, none⟩ = false := HK.out.frozen 1
      clear hlt HF
      go_wp2_with fail
      have hk := (HK.out.set_ 0 (.int .i64 0)).set_ 1 (.int .i64 0)
      refine bodyPost_ret (v := .tuple #[.agg #[.int .i64 0, .int .i64 0], .bool false]) ?_ rfl (.inr ⟨HF2.out, rfl, (HB.out.setCell (Nat.le_refl _) _).setCell (Nat.le_refl _) _⟩)
      have k0 := hk.cell 0
      have k1 := hk.cell 1
      simp only [Array.getElem?_setIfInBounds] at k0 k1
      simp [results, Tryd.results19, go_sem, k0, k1]

/-- All spans, as the document has them. -/
def RAllIs (t : Rx) (s : List UInt8) (w : World) (e : Ending) (w' : World) : Prop :=
  ∃ (A : Option Addr) (cap : Nat), e = .returned (.slice A (spansO s t 0).length cap) ∧ Rd w' 2 (.slice A (spansO s t 0).length cap) (spanVals (spansO s t 0)) ∧ Below w.heap.size w w'
theorem int_beqt {i n : Nat} (h : i = n) : ((i : Int) == (n : Int)) = true := by subst h; simp
theorem int_beqf {i n : Nat} (h : i ≠ n) : ((i : Int) == (n : Int)) = false := by simp; omega

set_option maxRecDepth 100000 in
set_option maxHeartbeats 8000000 in
theorem RAll_ok (l : List Nd) (t : Rx) (hl : l = flat t) (hok : ∀ n ∈ l, okC n.cls) (hlen : l.length ≤ 60) (b off cap : Nat) (tx : ByteArray) (hx : tx.size ≤ 400) (w : World) (hr : RdN w (.slice (some ⟨b, off, none⟩) l.length cap) l) :
    Calls Tryd.prog 18 #[.slice (some ⟨b, off, none⟩) l.length cap, .string tx] w (RAllIs t tx.data.toList w) := by
  obtain ⟨i0, hi0, hz0, hz1, hz2⟩ := info_parts info_span
  have HFN := Lib.hid fun f hf W h => RFind_ok l t hl hok hlen b off cap tx hx f hf W h
  have HR := Lib.hid hr
  have HSZ : Hid (tx.data.toList.length = tx.size) := Lib.hid (by simp)
  have HBH := Lib.hid (long_behind tx.data.toList t)
  clear hl hok hlen hr
  go_enter Tryd.func18, Tryd.ntmps18
  go_wp2_with fail
  go_loopw [5, 6] (fun v5 v6 wr => ∃ (at_ : Nat) (sp : List (Nat × Nat)), at_ ≤ tx.size + 1 ∧ sp.length ≤ at_ ∧ v6 = .int .i64 (at_ : Int) ∧ Hid (Chain (longO tx.data.toList t) tx.data.toList.length 0 sp at_) ∧ Hid (wr.ownsRow w.heap.size 46 2 v5 sp.length (spanVals sp)) ∧ Hid (Below w.heap.size w wr)) (fun _ i _ => tx.size + 1 - (intOf i).toNat)
  case atStart => exact ⟨0, [], by omega, by simp, rfl, Lib.hid (.nil 0), Lib.hid (World.ownsRow_nil _ _ _ _), Lib.hid (Below.refl _ _)⟩
  case round =>
    obtain ⟨at_, sp, hat, hsp, rfl, HC, HO, HB⟩ := hrel
    by_cases hlt : at_ ≤ tx.size
    · have hd : decide (at_ ≤ tx.size) = true := by simpa using hlt
      have HNC := Lib.hid (HFN.out at_ (by omega) wr (HR.out.below HB.out))
      have hsize := HB.out.size
      go_wp2_with fail
      refine HNC.out.mono ?_
      rintro e w3 (⟨x, y, hfo, rfl, hb3⟩ | ⟨hfo, rfl, hb3⟩)
      · have hs3 := hb3.size
        have HB3 := Lib.hid ((HB.out.trans (hb3.mono hsize)).alloc (by omega) (.cells #[.int .i64 (x : Int), .int .i64 (y : Int)] 46))
        have HO3 := Lib.hid ((own_below HO.out hb3).alloc (.cells #[.int .i64 (x : Int), .int .i64 (y : Int)] 46))
        have HC3 := Lib.hid (HC.out.snoc hfo)
        have hbg := behind_gt HBH.out hfo
        rw [HSZ.out] at hbg
        have HK3 := Lib.hid ((Blk.new w3 46 #[.int .i64 (x : Int), .int .i64 (y : Int)]).alloc (.cells #[.int .i64 (x : Int), .int .i64 (y : Int)] 46))
        have HRL : Hid (∀ g, u5.ownBlock = some g → g < w3.heap.size) := Lib.hid (fun g hg => by have := (HO.out.lt g hg).2; omega)
        clear hfo hb3 HNC
        have hb1 : at_ < behind x y := hbg.1
        have hb2 : behind x y ≤ tx.size + 1 := hbg.2.1
        have hyl : y ≤ tx.size := hbg.2.2.2
        clear hbg
        go_wp2_with (at_builtin; refine wpList_append_own _ rfl (.tmp 22) (.tmp 24) _ rfl w.heap.size 46 i0 _ 2 16 Tryd.underlying53 hi0 hz0 hz1 hz2 rfl (by omega) _ sp.length (spanVals sp) rfl (HO3.out.alloc _) ⟨w3.heap.size + 1, 0, none⟩ 1 1 [.int .i64 (x : Int), .int .i64 (y : Int)] rfl rfl (new_two _ _ _ _ _ (by simp)) (by intro u hu; simp at hu; rcases hu with rfl | rfl <;> rfl) (by unfold maxLen; omega) (by omega) (by simp; omega) ?_)
        intro v' w' hown' hg' _
        have hbk := (hg'.block w3.heap.size (by simp; omega) (fun e => by have := HRL.out _ e.symm; omega)).trans HK3.out
        have HO5 : Hid (w'.ownsRow w.heap.size 46 2 v' (sp ++ [(x, y)]).length (spanVals (sp ++ [(x, y)]))) := Lib.hid (by rw [List.length_append, spanVals_snoc]; exact hown')
        have HB5 := Lib.hid (below_own (HB3.out.alloc (by simp; omega) _) (Nat.le_refl _) (by simp; omega) (HO3.out.alloc _) hg')
        have b0 : w'.cell? ⟨w3.heap.size, 0, none⟩ = some (.int .i64 (x : Int)) := Blk.cell hbk 0
        have b1 : w'.cell? ⟨w3.heap.size, 1, none⟩ = some (.int .i64 (y : Int)) := Blk.cell hbk 1
        clear hown' hg' hbk HK3 HRL
        by_cases exy : x = y
        · have hd3 : ((x : Int) == (y : Int)) = true := int_beqt exy
          have hbe : behind x y = y + 1 := by unfold behind; rw [if_pos exy.symm]
          have HBE := Lib.hid hbe
          rw [hbe] at hb1 hb2
          clear exy hbe
          go_wp2_with fail
          go_roundw
          case rel => exact ⟨y + 1, sp ++ [(x, y)], hb2, by simp; omega, by go_num, Lib.hid (by have := HC3.out; rw [HBE.out] at this; exact this), HO5, HB5⟩
          case measure => simp [intOf]; omega
        · have hd3 : ((x : Int) == (y : Int)) = false := int_beqf exy
          have hbe : behind x y = y := by unfold behind; rw [if_neg (fun e => exy e.symm)]
          have HBE := Lib.hid hbe
          rw [hbe] at hb1 hb2
          clear exy hbe
          go_wp2_with fail
          go_roundw
          case rel => exact ⟨y, sp ++ [(x, y)], hb2, by simp; omega, by go_num, Lib.hid (by have := HC3.out; rw [HBE.out] at this; exact this), HO5, HB5⟩
          case measure => simp [intOf]; omega
      · have hs3 := hb3.size
        have hspan : spansO tx.data.toList t 0 = sp := by
          have := HC.out.all HBH.out
          rw [allO_none hfo, List.append_nil] at this
          exact this
        have HSP := Lib.hid hspan
        have HB3 : Hid (Below w.heap.size w (w3.alloc (.cells #[.int .i64 0, .int .i64 0] 46))) := Lib.hid ((HB.out.trans (hb3.mono hsize)).alloc (by omega) _)
        have hrow := (own_below HO.out hb3).alloc (.cells #[.int .i64 0, .int .i64 0] 46)
        obtain ⟨VA, vn, vcap, rfl, _, _, hvl, _⟩ := Rd.of_own hrow
        rw [spanVals_len] at hvl
        obtain rfl : vn = sp.length := by omega
        have HROW := Lib.hid (Rd.of_own hrow)
        clear hfo hb3 HNC hspan hrow hvl
        go_wp2_with fail
        go_ret
        unfold RAllIs
        rw [HSP.out]
        exact ⟨VA, vcap, rfl, HROW.out, HB3.out⟩
    · have hd : decide (at_ ≤ tx.size) = false := by simpa using hlt
      have hspan : spansO tx.data.toList t 0 = sp := by
        have := HC.out.all HBH.out
        rw [allO_end (L := longO tx.data.toList t) (N := tx.data.toList.length) (at_ := at_) (by rw [HSZ.out]; omega), List.append_nil] at this
        exact this
      have HSP := Lib.hid hspan
      have hrow := HO.out
      obtain ⟨VA, vn, vcap, rfl, _, _, hvl, _⟩ := Rd.of_own hrow
      rw [spanVals_len] at hvl
      obtain rfl : vn = sp.length := by omega
      have HROW := Lib.hid (Rd.of_own hrow)
      clear hspan hrow hvl hlt
      go_wp2_with fail
      go_ret
      unfold RAllIs
      rw [HSP.out]
      exact ⟨VA, vcap, rfl, HROW.out, HB.out⟩

end Go.Proofs.YthcahjnniendnacDoor
