/-
  Walks of mean.Ends and mean.Yes.
-/
import Derived.Test.YthcahjnniendnabDoorMeanE
import Derived.Test.YthcahjnniendnabDoorUp
import Derived.Carry
import Derived.Test.YthcahjnniendnabDoorInts
import Derived.BigQuiet
namespace Go.Proofs.YthcahjnniendnabDoor
open Go.RowKit Wf

/-- Where the pattern t, begun at a place, may end. -/
noncomputable def endsL (s : List UInt8) (t : Rx) (at_ : Nat) : List Nat := upTo_ (Fits s t at_) (s.length + 1)

theorem FEnv.first {l : List Nd} {s : ByteArray} {b off cap g : Nat} {w : World} (h : TEnv l b off cap g w) :
    FEnv l s b off cap g (w.heap.size + 1) w.heap.size (fun _ => False) ((w.alloc (.map #[] 0)).alloc (.cells #[.slice (some ⟨b, off, none⟩) l.length cap, .slice (some ⟨g, 0, none⟩) l.length l.length, .string s, .map (some w.heap.size)] 109)) := by
  have hb1 : Below w.heap.size w (w.alloc (.map #[] 0)) := (Below.refl _ _).alloc (Nat.le_refl _) _
  have hb2 : Below (w.alloc (.map #[] 0)).heap.size (w.alloc (.map #[] 0)) ((w.alloc (.map #[] 0)).alloc (.cells #[.slice (some ⟨b, off, none⟩) l.length cap, .slice (some ⟨g, 0, none⟩) l.length l.length, .string s, .map (some w.heap.size)] 109)) := (Below.refl _ _).alloc (Nat.le_refl _) _
  have hsz : (w.alloc (.map #[] 0)).heap.size = w.heap.size + 1 := by simp
  have hnew := Blk.new (w.alloc (.map #[] 0)) 109 #[.slice (some ⟨b, off, none⟩) l.length cap, .slice (some ⟨g, 0, none⟩) l.length l.length, .string s, .map (some w.heap.size)]
  rw [hsz] at hnew
  refine ⟨(h.below hb1).below hb2, hnew, ⟨#[], 0, ?_, by simp⟩, fun x hx => hx.elim⟩
  rw [hb2.block w.heap.size (by rw [hsz]; omega)]
  exact heap_alloc_new w _

theorem below_grown {B : Nat} {a w w' : World} {e : TypeId} {size n : Nat} {v : Value} {xs : List Value} (h : Below B a w) (hB : B ≤ w.heap.size) (ho : w.ownsRow B e size v n xs) (hg : w.grownBy w' v.ownBlock) : Below B a w' :=
  ⟨hg.os.trans h.os, hg.tape.trans h.tape, hg.output.trans h.output, Nat.le_trans h.size hg.size, fun i hi =>
    (hg.block i (by omega) (fun e => by have := (ho.lt i e.symm).1; omega)).trans (h.block i hi)⟩

def MEndsIs (t : Rx) (s : ByteArray) (at_ : Nat) (w : World) (e : Ending) (w' : World) : Prop :=
  ∃ v, e = .returned (.tuple #[v, .nilIface]) ∧ Rd1 w' v (natVals (endsL s.data.toList t at_)) ∧ Below w.heap.size w w'

set_option maxRecDepth 100000 in
set_option maxHeartbeats 8000000 in
theorem MEnds_ok (l : List Nd) (t : Rx) (hl : l = flat t) (hok : ∀ n ∈ l, okC n.cls) (v : Value) (s : ByteArray) (at_ : Nat) (w : World) (ht : l.length ≤ 60) (hr : RdN w v l) (hs : s.size ≤ 400) (hat : at_ ≤ s.size) :
    Calls Tryd.prog 22 #[v, .string s, .int .i64 (at_ : Int)] w (MEndsIs t s at_ w) := by
  obtain ⟨i0, hi0, hz0, hz1, hz2⟩ := info_parts info_int
  obtain ⟨A, cap, rfl, hcap, hcap2, hmem⟩ := hr.open_
  have hpos : 0 < l.length := by rw [hl]; exact flat_pos t
  have hchk : chk l = 0 := by rw [hl]; exact chk_flat t (by rw [← hl]; exact ht)
  obtain ⟨b, off, rfl, hbl, _⟩ := hmem hpos
  have hends : ∀ W, RdN W (.slice (some ⟨b, off, none⟩) l.length cap) l → Calls Tryd.prog 58 #[.slice (some ⟨b, off, none⟩) l.length cap] W (EndsIs l W) := fun W h => Ends_any l t hl _ W ht h
  have hwhole : At l 0 t := by rw [hl]; exact At.whole t
  have HR := Lib.hid hr
  have HC := Lib.hid hchk
  have HE := Lib.hid hends
  have HWH := Lib.hid hwhole
  have HOK := Lib.hid hok
  clear hr hchk hends hwhole hl hmem hok
  have hmm := @run_makeMap Tryd.prog
  have hs' : (s.size : Int) ≤ 400 := by omega
  have hat' : (at_ : Int) ≤ (s.size : Int) := by omega
  go_enter Tryd.func22, Tryd.ntmps22
  go_wp2_with fail
  refine (Check_any l _ _ HR.out).mono ?_
  rintro e w1 ⟨rfl, hb1⟩
  rw [HC.out, errV_zero]
  go_wp2_with fail
  refine (HE.out _ (HR.out.below hb1)).mono ?_
  rintro e w2 ⟨g, xs, rfl, hx, hg1, hg2, hxc, hb2⟩
  have hb12 := hb1.trans (hb2.mono hb1.size)
  have henv : TEnv l b off cap g w2 := ⟨HR.out.below hb12, Nat.lt_of_lt_of_le hbl hb12.size, hg2, fun i u hu => hxc _ _ (hx.2 i u hu)⟩
  have HENV := Lib.hid henv
  have HB := Lib.hid hb12
  clear henv hb12 hx hxc hb1 hb2
  have HF := Lib.hid (FEnv.first (s := s) HENV.out)
  have HBW : Hid (∀ o o', Below w2.heap.size w2 ((w2.alloc o).alloc o')) := Lib.hid fun o o' => ((Below.refl _ _).alloc (Nat.le_refl _) _).alloc (by simp) _
  go_wp2_with fail
  refine ((from_all (F := w2.heap.size + 1) (M := w2.heap.size) hs hcap hcap2 HOK.out t 0 HWH.out) _ 0 at_ _ HWH.out hat HF.out).mono ?_
  rintro e w3 ⟨g3, rfl, _, hp3, he3, hg3⟩
  have HP3 := Lib.hid hp3
  have hsz1 := HB.out.size
  have hb3 : Below w.heap.size w w3 := by
    have h1 := HB.out.trans ((HBW.out (.map #[] 0) (.cells #[.slice (some ⟨b, off, none⟩) l.length cap, .slice (some ⟨g, 0, none⟩) l.length l.length, .string s, .map (some w2.heap.size)] 109)).mono hsz1)
    exact ⟨hg3.os.trans h1.os, hg3.tape.trans h1.tape, hg3.output.trans h1.output, Nat.le_trans h1.size hg3.size, fun i hi => (hg3.block i (by simp; omega) (fun e => by have := Option.some.inj e; omega)).trans (h1.block i hi)⟩
  have HB3 := Lib.hid hb3
  have HSL := Lib.hid (show s.data.toList.length = s.size by simp)
  clear hp3 he3 hg3 hb3
  go_wp2_with fail
  go_loopw [10, 42] (fun v10 v42 wr => ∃ k : Nat, k ≤ s.size + 1 ∧ v42 = .int .i64 (k : Int) ∧ Hid (wr.ownsRow w3.heap.size 3 1 v10 (upTo_ (Fits s.data.toList t at_) k).length (natVals (upTo_ (Fits s.data.toList t at_) k))) ∧ Hid (Pl wr g3 s.size (Fits s.data.toList t at_)) ∧ Hid (Below w3.heap.size w3 wr)) (fun _ i _ => s.size + 1 - (intOf i).toNat)
  case atStart => exact ⟨0, by omega, rfl, Lib.hid (World.ownsRow_nil _ _ _ _), HP3, Lib.hid (Below.refl _ _)⟩
  case round =>
    obtain ⟨k, hk, rfl, hO, hP, hBB⟩ := hrel
    by_cases hlt : k < s.size + 1
    · obtain ⟨x, hx, hx'⟩ := hP.out.cell k (by omega)
      have hk1 : (k : Int) < (s.size : Int) + 1 := by omega
      have HX := Lib.hid hx'
      clear hx'
      cases x
      · go_wp2
        go_roundw
        case rel =>
          have hno : ¬ Fits s.data.toList t at_ k := fun h => by have := HX.out.2 h; cases this
          exact ⟨k + 1, by omega, by go_num, by rw [upTo_no hno]; exact hO, hP, hBB⟩
        case measure => simp [intOf]; omega
      · have HLEN := Lib.hid (upTo_len (Fits s.data.toList t at_) k)
        have hyes : Fits s.data.toList t at_ k := HX.out.1 (by simp)
        have HY := Lib.hid hyes
        have HOA := Lib.hid (hO.out.alloc (.cells #[.int .i64 (k : Int)] 3))
        have HSZ := Lib.hid hBB.out.size
        clear hyes
        generalize hxs : upTo_ (Fits s.data.toList t at_) k = xs at *
        go_wp2_with (at_builtin; refine wpList_append_own _ rfl (.tmp 48) (.tmp 50) _ rfl w3.heap.size 3 i0 _ 1 8 Tryd.underlying41 hi0 hz0 hz1 hz2 rfl (by omega) _ xs.length (natVals xs) rfl HOA.out ⟨wr.heap.size, 0, none⟩ 1 1 [.int .i64 (k : Int)] rfl rfl ?_ ?_ (by have := HLEN.out; unfold maxLen; omega) (by have := HLEN.out; omega) (by have := HSZ.out; simp; omega) ?_)
        · rfl
        · intro v' w' hown' hg' _
          have hB1 : Below w3.heap.size w3 (wr.alloc (.cells #[.int .i64 (k : Int)] 3)) := hBB.out.alloc HSZ.out _
          have hB' := Lib.hid (below_grown hB1 (by have := HSZ.out; simp; omega) HOA.out hg')
          have hP' := Lib.hid ((hP.out.below ((Below.refl _ _).alloc (Nat.le_refl _) _)).kept hg' (fun e => by
            have h1 := (HOA.out.lt g3 e.symm).1
            have h2 := HP3.out.lt
            omega))
          have hO' : Hid (w'.ownsRow w3.heap.size 3 1 v' (xs ++ [k]).length (natVals (xs ++ [k]))) := Lib.hid (by rw [natVals_snoc]; simpa using hown')
          clear hg' hown' hB1
          go_wp2
          go_roundw
          case rel => exact ⟨k + 1, by omega, by go_num, by rw [upTo_yes HY.out, hxs]; exact hO', hP', hB'⟩
          case measure => simp [intOf]; omega
    · obtain rfl : k = s.size + 1 := by omega
      go_wp2
      go_ret2
      refine ⟨_, rfl, ?_, HB3.out.trans (hBB.out.mono HB3.out.size)⟩
      unfold endsL Rd1
      rw [HSL.out]
      exact Rd.of_own hO.out

/-- What is wrong, if a pattern is asked in a text from a place on. -/
def mErr (l : List Nd) (s : ByteArray) (at_ : Int) : Int := if chk l ≠ 0 then chk l else if s.size > 400 then 3 else if at_ < 0 ∨ at_ > s.size then 1 else 0

def MEndsNo (n : Int) (w : World) (e : Ending) (w' : World) : Prop := e = .returned (.tuple #[.slice none 0 0, errV n]) ∧ Below w.heap.size w w'

set_option maxRecDepth 100000 in
set_option maxHeartbeats 8000000 in
theorem MEnds_no (l : List Nd) (v : Value) (s : ByteArray) (at_ : Int) (w : World) (hr : RdN w v l) (hne : mErr l s at_ ≠ 0) :
    Calls Tryd.prog 22 #[v, .string s, .int .i64 at_] w (MEndsNo (mErr l s at_) w) := by
  obtain ⟨A, cap, rfl, hcap, hcap2, _⟩ := hr.open_
  have HR := Lib.hid hr
  have hdef : mErr l s at_ = if chk l ≠ 0 then chk l else if s.size > 400 then 3 else if at_ < 0 ∨ at_ > s.size then 1 else 0 := rfl
  rw [hdef] at hne ⊢
  clear hr hdef
  by_cases hc : chk l = 0
  · rw [if_neg (by simpa using hc)] at hne ⊢
    have HC := Lib.hid hc
    clear hc
    by_cases hs : s.size > 400
    · rw [if_pos hs] at hne ⊢
      have hs' : (400 : Int) < (s.size : Int) := by omega
      clear hne
      go_enter Tryd.func22, Tryd.ntmps22
      go_wp2_with fail
      refine (Check_any l _ _ HR.out).mono ?_
      rintro e w1 ⟨rfl, hb1⟩
      rw [HC.out, errV_zero]
      go_wp2_with fail
      go_ret2
      exact ⟨by rw [errV_ne (by decide)]; rfl, hb1⟩
    · rw [if_neg hs] at hne ⊢
      by_cases ha : at_ < 0 ∨ at_ > s.size
      · rw [if_pos ha] at hne ⊢
        have hs' : (s.size : Int) ≤ 400 := by omega
        clear hne
        by_cases h1 : at_ < 0
        · clear ha
          have hd : decide (at_ < 0) = true := by simp [h1]
          go_enter Tryd.func22, Tryd.ntmps22
          go_wp2_with fail
          refine (Check_any l _ _ HR.out).mono ?_
          rintro e w1 ⟨rfl, hb1⟩
          rw [HC.out, errV_zero]
          go_wp2_with fail
          go_ret2
          exact ⟨by rw [errV_ne (by decide)]; rfl, hb1⟩
        · have h2 : at_ > s.size := by rcases ha with h | h; exact absurd h h1; exact h
          clear ha
          go_enter Tryd.func22, Tryd.ntmps22
          go_wp2_with fail
          refine (Check_any l _ _ HR.out).mono ?_
          rintro e w1 ⟨rfl, hb1⟩
          rw [HC.out, errV_zero]
          go_wp2_with fail
          go_ret2
          exact ⟨by rw [errV_ne (by decide)]; rfl, hb1⟩
      · rw [if_neg ha] at hne
        exact absurd rfl hne
  · rw [if_pos hc]
    have HC := Lib.hid (errV_ne hc)
    clear hne hc
    go_enter Tryd.func22, Tryd.ntmps22
    go_wp2_with fail
    refine (Check_any l _ _ HR.out).mono ?_
    rintro e w1 ⟨rfl, hb1⟩
    rw [HC.out]
    go_wp2_with fail
    go_ret2
    exact ⟨by rw [HC.out]; rfl, hb1⟩

theorem upTo_last {P : Nat → Prop} {m n x : Nat} (hl : (upTo_ P (m + 1)).length = n + 1) (hx : (upTo_ P (m + 1))[n]? = some x) : x = m ↔ P m := by
  by_cases h : P m
  · rw [upTo_yes h] at hl hx
    have hn : (upTo_ P m).length = n := by simpa using hl
    rw [List.getElem?_append_right (by omega), hn] at hx
    simp at hx
    subst hx
    simp [h]
  · have := (upTo_mem.1 (List.mem_of_getElem? hx)).2
    constructor
    · rintro rfl; exact this
    · intro h2; exact absurd h2 h

def MYesIs (t : Rx) (s : ByteArray) (w : World) (e : Ending) (w' : World) : Prop := ∃ y : Bool, e = .returned (.tuple #[.bool y, .nilIface]) ∧ (y = true ↔ Fits s.data.toList t 0 s.size) ∧ Below w.heap.size w w'

set_option maxRecDepth 100000 in
set_option maxHeartbeats 8000000 in
theorem MYes_ok (l : List Nd) (t : Rx) (hl : l = flat t) (hok : ∀ n ∈ l, okC n.cls) (v : Value) (s : ByteArray) (w : World) (ht : l.length ≤ 60) (hr : RdN w v l) (hs : s.size ≤ 400) :
    Calls Tryd.prog 24 #[v, .string s] w (MYesIs t s w) := by
  have hcall := MEnds_ok l t hl hok v s 0 w ht hr hs (by omega)
  obtain ⟨A, cap, rfl, hcap, hcap2, _⟩ := hr.open_
  have HC := Lib.hid hcall
  clear hcall hr hl hok
  have HSL := Lib.hid (show s.data.toList.length = s.size by simp)
  go_enter Tryd.func24, Tryd.ntmps24
  go_wp2_with fail
  refine HC.out.mono ?_
  rintro e w1 ⟨v1, rfl, hv1, hb1⟩
  rw [natVals_ints] at hv1
  obtain ⟨A1, cap1, rfl, hc1, hc2, hm1⟩ := RdI.open_ hv1
  have HB := Lib.hid hb1
  have hdef : endsL s.data.toList t 0 = upTo_ (Fits s.data.toList t 0) (s.size + 1) := by unfold endsL; rw [HSL.out]
  have hlast := fun n x => @upTo_last (Fits s.data.toList t 0) s.size n x
  have hmem := @upTo_mem (Fits s.data.toList t 0) (s.size + 1) s.size
  have hget := fun k => @toInts_get (endsL s.data.toList t 0) k
  have hlen := toInts_len (endsL s.data.toList t 0)
  rw [← hdef] at hlast hmem
  clear hdef hv1 hb1
  generalize endsL s.data.toList t 0 = ks at *
  generalize toInts ks = zs at *
  have HLAST := Lib.hid hlast
  have HMEM := Lib.hid hmem
  have HGET := Lib.hid hget
  have HLEN := Lib.hid hlen
  have HM1 := Lib.hid hm1
  clear hlast hmem hget hlen hm1
  rcases Nat.eq_zero_or_pos zs.length with h0 | h0
  · have hks : ks = [] := List.eq_nil_of_length_eq_zero (by rw [← HLEN.out]; exact h0)
    rw [h0]
    have HKS := Lib.hid hks
    clear h0 hks hc1
    go_wp2
    go_ret2
    refine ⟨false, rfl, ⟨(fun h => by cases h), fun h => ?_⟩, HB.out⟩
    have := HMEM.out.2 ⟨by omega, h⟩
    rw [HKS.out] at this
    cases this
  · obtain ⟨n, hn⟩ : ∃ n, zs.length = n + 1 := ⟨zs.length - 1, by omega⟩
    obtain ⟨b1, off1, rfl, hb1, hcells⟩ := HM1.out h0
    obtain ⟨z, hz⟩ := getD_get (show n < zs.length by omega)
    have hcell := hcells w1 (fun _ => rfl) n z hz
    have hzx := HGET.out n
    rw [hz] at hzx
    obtain ⟨x, hx⟩ : ∃ x, ks[n]? = some x := getD_get (show n < ks.length by rw [← HLEN.out]; omega)
    rw [hx] at hzx
    have hzx' : z = (x : Int) := by simpa using hzx
    subst hzx'
    have hyes : x = s.size ↔ Fits s.data.toList t 0 s.size := HLAST.out n x (by rw [← HLEN.out]; exact hn) hx
    have HY := Lib.hid hyes
    rw [hn] at hc1
    rw [hn]
    have hbd : (n : Int) + 1 ≤ 9223372036854775807 := by omega
    have hd : ((x : Int) == (s.size : Int)) = decide (x = s.size) := by rw [Bool.eq_iff_iff]; simp; omega
    clear hyes hzx hx hz hcells h0 hn
    go_wp2
    go_ret2
    refine ⟨decide (x = s.size), rfl, by rw [decide_eq_true_iff]; exact HY.out, HB.out⟩

def MYesNo (n : Int) (w : World) (e : Ending) (w' : World) : Prop := e = .returned (.tuple #[.bool false, errV n]) ∧ Below w.heap.size w w'

set_option maxRecDepth 100000 in
set_option maxHeartbeats 8000000 in
theorem MYes_no (l : List Nd) (v : Value) (s : ByteArray) (w : World) (hr : RdN w v l) (hne : mErr l s 0 ≠ 0) :
    Calls Tryd.prog 24 #[v, .string s] w (MYesNo (mErr l s 0) w) := by
  have hcall := MEnds_no l v s 0 w hr hne
  have hev := errV_ne hne
  have HC := Lib.hid hcall
  have HEV := Lib.hid hev
  obtain ⟨A, cap, rfl, hcap, hcap2, _⟩ := hr.open_
  clear hcall hr hne hev
  go_enter Tryd.func24, Tryd.ntmps24
  go_wp2_with fail
  refine HC.out.mono ?_
  rintro e w1 ⟨rfl, hb1⟩
  rw [HEV.out]
  go_wp2
  go_ret2
  exact ⟨by rw [HEV.out]; rfl, hb1⟩

end Go.Proofs.YthcahjnniendnabDoor
