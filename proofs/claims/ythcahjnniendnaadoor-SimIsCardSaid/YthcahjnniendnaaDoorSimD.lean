/-
  The walk of sim's Front.Go.
-/
import Derived.Test.YthcahjnniendnaaDoorSimC
import Derived.Test.YthcahjnniendnaaDoorPg
namespace Go.Proofs.YthcahjnniendnaaDoor
open Go.RowKit Wf

theorem own_below {w w' : World} {base size n : Nat} {e : TypeId} {v : Value} {xs : List Value} (h : w.ownsRow base e size v n xs) (hb : Below w.heap.size w w') : w'.ownsRow base e size v n xs :=
  h.kept (row := none) ⟨hb.os, hb.tape, hb.output, hb.size, fun q hq _ => hb.block q hq⟩ (by cases v.ownBlock <;> simp)
theorem below_own {B base n size : Nat} {a w w' : World} {e : TypeId} {v : Value} {xs : List Value} (h : Below B a w) (hB : B ≤ base) (hBw : B ≤ w.heap.size) (ho : w.ownsRow base e size v n xs) (hg : w.grownBy w' v.ownBlock) : Below B a w' :=
  ⟨hg.os.trans h.os, hg.tape.trans h.tape, hg.output.trans h.output, Nat.le_trans h.size hg.size, fun i hi =>
    (hg.block i (by omega) (fun e => by have := (ho.lt i e.symm).1; omega)).trans (h.block i hi)⟩

def GoIs (p : List St) (b : Nat) (L : List Nat) (w : World) (e : Ending) (w' : World) : Prop :=
  ∃ (A : Option Addr) (cap : Nat), e = .returned (.slice A (goL p b L).length cap) ∧ w'.ownsRow (w.heap.size + 1) 3 1 (.slice A (goL p b L).length cap) (goL p b L).length (natVals (goL p b L)) ∧ Below w.heap.size w w'

theorem natVals_snoc' (L : List Nat) (i : Nat) : natVals (L ++ [i]) = natVals L ++ [.int .i64 (i : Int)] := by simp [natVals]

set_option maxRecDepth 100000 in
set_option maxHeartbeats 8000000 in
theorem Go_any (p : List St) (hok : ∀ s ∈ p, okC s.cls) (hx : ∀ s ∈ p, 0 ≤ s.x) (pv : Value) (A : Option Addr) (cap : Nat) (L : List Nat) (d : Bool) (hL : ∀ i ∈ L, i < p.length) (hL2 : L.length ≤ 200) (b : Nat) (hb : b < 256) (w : World) (hr : RdS w pv p)
    (hf : Rd1 w (.slice A L.length cap) (natVals L)) :
    Calls Tryd.prog 32 #[.agg #[.slice A L.length cap, .bool d], pv, .int .u8 (b : Int)] w (GoIs p b L w) := by
  obtain ⟨i0, hi0, hz0, hz1, hz2⟩ := info_parts info_int
  obtain ⟨P, pcap, rfl, hpc, hpc2, hpm⟩ := hr.open_
  obtain ⟨A', cap', hv, hcf, hcf2, hmf⟩ := Rd1.open_ hf
  have hnl : (natVals L).length = L.length := by simp [natVals]
  rw [hnl] at hv hcf hmf
  injection hv with e1 _ e2
  subst e1
  subst e2
  have HPM := Lib.hid hpm
  have HMF := Lib.hid hmf
  have HOK := Lib.hid hok
  have HX := Lib.hid hx
  have HL := Lib.hid hL
  clear hpm hmf hr hf hok hL hx hnl
  go_enter Tryd.func32, Tryd.ntmps32
  go_wp2
  go_loopw [7, 13] (fun v7 v13 wr => ∃ k : Nat, k ≤ L.length ∧ v13 = .int .i64 (k : Int) ∧ Hid (wr.ownsRow (w.heap.size + 1) 3 1 v7 (goL p b (L.take k)).length (natVals (goL p b (L.take k)))) ∧ Hid (Below w.heap.size w wr) ∧ Hid (w.heap.size + 1 ≤ wr.heap.size)) (fun _ i _ => L.length - (intOf i).toNat)
  case atStart => exact ⟨0, by omega, rfl, Lib.hid (World.ownsRow_nil _ _ _ _), Lib.hid ((Below.refl _ _).alloc (Nat.le_refl _) _), Lib.hid (by simp)⟩
  case round =>
    obtain ⟨k, hk, rfl, HO, HB, HSZ⟩ := hrel
    by_cases hlt : k < L.length
    · obtain ⟨bf, of, rfl, hbf, hcf'⟩ := HMF.out (by omega)
      have hi : L[k]? = some (L[k]'hlt) := List.getElem?_eq_getElem hlt
      generalize L[k]'hlt = i at hi
      have hin := HL.out i (List.mem_of_getElem? hi)
      have g0 := hcf' wr (fun o => HB.out.cell (p := ⟨bf, o, none⟩) hbf) k (.int .i64 (i : Int)) (by simp [natVals, hi])
      obtain ⟨pb, po, rfl, hpb, hpcell⟩ := HPM.out (by omega)
      have hs : p[i]? = some (p[i]'hin) := List.getElem?_eq_getElem hin
      generalize p[i]'hin = s at hs
      obtain ⟨_, q1, q2, q3, q4, q5, _⟩ := hpcell wr (fun o => HB.out.cell (p := ⟨pb, o, none⟩) hpb) i s hs
      have hq5 : Hid (∀ w', Below wr.heap.size wr w' → w'.cell? ⟨pb, po + i * 7 + 5, none⟩ = some (.int .i64 s.x)) := Lib.hid fun w' h => (hpcell w' (fun o => (HB.out.trans (h.mono HB.out.size)).cell (p := ⟨pb, o, none⟩) hpb) i s hs).2.2.2.2.2.1
      have hsx := HX.out s (List.mem_of_getElem? hs)
      have hsc := HOK.out s (List.mem_of_getElem? hs)
      have HSN : Hid (goL p b (L.take (k + 1)) = goL p b (L.take k) ++ (if has s.cls b then [s.x.toNat] else [])) := Lib.hid (by rw [take_snoc hi, goL_snoc p b _ i s hs])
      have HLN := Lib.hid (Nat.le_trans (goL_len p b (L.take k)) (by simp; omega : (L.take k).length ≤ 200))
      obtain ⟨op, ⟨c0, c1, c2, c3⟩, x, y⟩ := s
      dsimp only at q1 q2 q3 q4 q5 hq5 hsx hsc
      obtain ⟨xn, rfl⟩ : ∃ n : Nat, x = (n : Int) := ⟨x.toNat, by omega⟩
      have HH := Lib.hid fun W => Has_any c0 c1 c2 c3 b W hsc hb
      have hk1 : (k : Int) < (L.length : Int) := by omega
      have hi1 : (i : Int) < (p.length : Int) := by omega
      clear hs hi hcf' hpcell hsc
      cases hh : has (c0, c1, c2, c3) b with
      | true =>
        have HHH := Lib.hid hh
        clear hh
        have hgl := goL_len p b (L.take k)
        have hgl2 : (goL p b (L.take k)).length ≤ 200 := HLN.out
        generalize hgo : goL p b (L.take k) = go at *
        clear hgo hgl
        go_wp2_with (first
          | (go_at_call 37; refine (HH.out _).mono ?_; rw [show HasIs (c0, c1, c2, c3) b wr = fun e w' => e = .returned (.bool true) ∧ Below wr.heap.size wr w' from by unfold HasIs; rw [HHH.out]]; rintro e w2 ⟨rfl, hb2⟩; have q5' := hq5.out w2 hb2; have HB2 := Lib.hid hb2; have HO2 := Lib.hid (own_below HO.out hb2); clear hb2)
          | (at_builtin; refine wpList_append_own _ rfl (.tmp 24) (.tmp 30) _ rfl (w.heap.size + 1) 3 i0 _ 1 8 Tryd.underlying25 hi0 hz0 hz1 hz2 rfl (by omega) _ go.length (natVals go) rfl (HO2.out.alloc _) ⟨w2.heap.size, 0, none⟩ 1 1 [.int .i64 (xn : Int)] rfl rfl (new_one _ _ _ _ rfl) (by intro u hu; simp at hu; subst hu; rfl) (by unfold maxLen; omega) (by omega) (by have := HSZ.out; have := HB2.out.size; simp; omega) ?_))
        intro v' w' hown' hg' _
        have hbw : Below w.heap.size w (w2.alloc (.cells #[.int .i64 (xn : Int)] 3)) := (HB.out.trans (HB2.out.mono HB.out.size)).alloc (Nat.le_trans HB.out.size HB2.out.size) _
        have HBN := Lib.hid (below_own hbw (Nat.le_succ _) (by have := HB.out.size; have := HB2.out.size; simp; omega) (HO2.out.alloc _) hg')
        have hsx2 : goL p b (L.take (k + 1)) = go ++ [xn] := by rw [HSN.out]; simp [HHH.out]
        have HON : Hid (w'.ownsRow (w.heap.size + 1) 3 1 v' (goL p b (L.take (k + 1))).length (natVals (goL p b (L.take (k + 1))))) := Lib.hid (by rw [hsx2, natVals_snoc']; simpa using hown')
        have HSZN : Hid (w.heap.size + 1 ≤ w'.heap.size) := Lib.hid (by have := HSZ.out; have := HB2.out.size; have := hg'.size; simp at this; omega)
        clear hown' hg' hbw hsx2
        go_wp2
        go_roundw
        case rel => exact ⟨k + 1, by omega, by go_num, HON, HBN, HSZN⟩
        case measure => simp [intOf]; omega
      | false =>
        have HHH := Lib.hid hh
        clear hh
        go_wp2_with (go_at_call 37; refine (HH.out _).mono ?_; rw [show HasIs (c0, c1, c2, c3) b wr = fun e w' => e = .returned (.bool false) ∧ Below wr.heap.size wr w' from by unfold HasIs; rw [HHH.out]]; rintro e w2 ⟨rfl, hb2⟩; have HB2 := Lib.hid hb2; clear hb2)
        have HE : Hid (goL p b (L.take (k + 1)) = goL p b (L.take k)) := Lib.hid (by rw [HSN.out]; simp [HHH.out])
        go_roundw
        case rel =>
          refine ⟨k + 1, by omega, by go_num, ?_, Lib.hid (HB.out.trans (HB2.out.mono HB.out.size)), Lib.hid (Nat.le_trans HSZ.out HB2.out.size)⟩
          rw [HE.out]
          exact Lib.hid (own_below HO.out HB2.out)
        case measure => simp [intOf]; omega
    · obtain rfl : k = L.length := by omega
      have HO2 : Hid (wr.ownsRow (w.heap.size + 1) 3 1 u7 (goL p b L).length (natVals (goL p b L))) := Lib.hid (by have := HO.out; rw [List.take_length] at this; exact this)
      have hrd := HO2.out
      obtain ⟨VA, vn, vcap, rfl, _, _, hvl, _⟩ := Rd.of_own hrd
      obtain rfl : vn = (goL p b L).length := by simp [natVals] at hvl; omega
      have HRD := Lib.hid hrd
      clear hrd hvl HO HO2
      generalize hgl : goL p b L = gl at *
      go_wp2
      go_ret
      refine ⟨VA, vcap, ?_, ?_, HB.out⟩
      · rw [hgl]; rfl
      · rw [hgl]; exact HRD.out

end Go.Proofs.YthcahjnniendnaaDoor
