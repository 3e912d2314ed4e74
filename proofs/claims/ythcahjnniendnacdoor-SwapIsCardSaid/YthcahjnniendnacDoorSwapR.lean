/-
  Walks of the document's PiecesOf, SwapOf.
-/
import Derived.Test.YthcahjnniendnacDoorFindR
import Derived.Test.YthcahjnniendnacDoorPj
import Derived.Test.YthcahjnniendnacDoorStrs
import Derived.Deep.AppendLies
namespace Go.Proofs.YthcahjnniendnacDoor
open Go.RowKit Wf

/-- The pieces of a text, as the document has them. -/
def RPiecesIs (xs : List ByteArray) (w : World) (e : Ending) (w' : World) : Prop :=
  ∃ (g cap : Nat), e = .returned (.slice (some ⟨g, 0, none⟩) xs.length cap) ∧ Rd1 w' (.slice (some ⟨g, 0, none⟩) xs.length cap) (strVals xs) ∧ Below w.heap.size w w'

set_option maxRecDepth 100000 in
set_option maxHeartbeats 8000000 in
theorem RPieces_ok (l : List Nd) (t : Rx) (hl : l = flat t) (hok : ∀ n ∈ l, okC n.cls) (hlen : l.length ≤ 60) (b off cap : Nat) (tx : ByteArray) (hx : tx.size ≤ 400) (w : World) (hr : RdN w (.slice (some ⟨b, off, none⟩) l.length cap) l) :
    Calls Tryd.prog 22 #[.slice (some ⟨b, off, none⟩) l.length cap, .string tx] w (RPiecesIs (piecesB tx (spansO tx.data.toList t 0)) w) := by
  obtain ⟨i0, hi0, hz0, hz1, hz2⟩ := info_parts info_str
  have HALL := Lib.hid (RAll_ok l t hl hok hlen b off cap tx hx w hr)
  have hSZ : tx.data.toList.length = tx.size := by simp
  have hri := allO_rise (long_behind tx.data.toList t) 0
  have hln := allO_len (long_behind tx.data.toList t) 0
  rw [hSZ] at hri hln
  unfold RAllIs at HALL
  unfold spansO at HALL ⊢
  rw [hSZ] at HALL ⊢
  generalize allO (longO tx.data.toList t) tx.size 0 = sp at *
  have HRI := Lib.hid hri
  have hsp : sp.length ≤ 401 := by omega
  clear hl hok hlen hr hri hSZ hln
  go_enter Tryd.func22, Tryd.ntmps22
  go_wp2_with fail
  refine HALL.out.mono ?_
  rintro e w1 ⟨A, cap1, rfl, hrd1, hb1⟩
  have HB1 := Lib.hid hb1
  obtain ⟨A', cap', hv, hcf, hcf2, hmf⟩ := span_open hrd1
  injection hv with e1 _ e2
  subst e1
  subst e2
  have HMF := Lib.hid hmf
  clear hrd1 hb1 hmf HALL
  go_wp2_with fail
  go_loopw [6, 7, 8] (fun v6 v7 v8 wr => ∃ (k f : Nat), k ≤ sp.length ∧ v8 = .int .i64 (k : Int) ∧ v7 = .int .i64 (f : Int) ∧ f ≤ tx.size ∧ Hid (f = lastB 0 (sp.take k)) ∧ Hid (wr.ownsRow w1.heap.size 9 1 v6 k (strVals (cutB tx 0 (sp.take k)))) ∧ Hid (Below w1.heap.size w1 wr)) (fun _ _ i _ => sp.length - (intOf i).toNat)
  case atStart => exact ⟨0, 0, by omega, rfl, rfl, by omega, Lib.hid rfl, Lib.hid (World.ownsRow_nil _ _ _ _), Lib.hid (Below.refl _ _)⟩
  case round =>
    obtain ⟨k, f, hk, rfl, rfl, hf, HF, HO, HB⟩ := hrel
    have hsz := HB.out.size
    by_cases hlt : k < sp.length
    · have d1 : decide (k < sp.length) = true := by simpa using hlt
      obtain ⟨bs, os, rfl, hbs, hcs⟩ := HMF.out (by omega)
      have hi : sp[k]? = some (sp[k]'hlt) := List.getElem?_eq_getElem hlt
      generalize sp[k]'hlt = q at hi
      obtain ⟨a, b'⟩ := q
      obtain ⟨g0, g1⟩ := hcs wr (fun o => HB.out.cell (p := ⟨bs, o, none⟩) hbs) k a b' hi
      have HCS : Hid (∀ W, Below w1.heap.size w1 W → W.cell? ⟨bs, os + k * 2 + 1, none⟩ = some (.int .i64 (b' : Int))) := Lib.hid (fun W h => (hcs W (fun o => h.cell (p := ⟨bs, o, none⟩) hbs) k a b' hi).2)
      have hfa : f ≤ a ∧ a ≤ b' ∧ b' ≤ tx.size := by
        have h1 := HRI.out
        have h2 := split_at hi
        rw [h2] at h1
        rw [HF.out]
        exact h1.at_
      obtain ⟨hfa1, hab, hbx⟩ := hfa
      have hk0 : (0 : Int) ≤ (k : Int) := by omega
      have hk1 : (k : Int) < (sp.length : Int) := by omega
      have HT : Hid (sp.take (k + 1) = sp.take k ++ [(a, b')]) := Lib.hid (take_snoc hi)
      have HF2 : Hid (b' = lastB 0 (sp.take (k + 1))) := Lib.hid (by rw [HT.out, lastB_snoc])
      have HX : Hid (strVals (cutB tx 0 (sp.take (k + 1))) = strVals (cutB tx 0 (sp.take k)) ++ [.string (tx.extract f a)]) := Lib.hid (by rw [HT.out, cutB_snoc, strVals_snoc, ← HF.out])
      have i1 : (f : Int) ≤ (a : Int) := by omega
      have i2 : (a : Int) ≤ (tx.size : Int) := by omega
      clear hi hcs
      generalize strVals (cutB tx 0 (sp.take k)) = xs at HO HX
      go_wp2_with (at_builtin; refine wpList_append_own _ rfl (.tmp 18) (.tmp 27) _ rfl w1.heap.size 9 i0 _ 1 16 Tryd.underlying23 hi0 hz0 hz1 hz2 rfl (by omega) _ k xs rfl (HO.out.alloc _) ⟨wr.heap.size, 0, none⟩ 1 1 [.string (tx.extract f a)] rfl rfl (new_one _ _ _ _ rfl) (by intro u hu; simp at hu; subst hu; rfl) (by unfold maxLen; omega) (by omega) (by simp; omega) ?_)
      intro v' w' hown' hg' _
      have hbw : Below w1.heap.size w1 (wr.alloc (.cells #[.string (tx.extract f a)] 9)) := HB.out.alloc hsz _
      have hbn := below_own hbw (Nat.le_refl _) (by simp; omega) (HO.out.alloc _) hg'
      have HBN := Lib.hid hbn
      have HON : Hid (w'.ownsRow w1.heap.size 9 1 v' (k + 1) (strVals (cutB tx 0 (sp.take (k + 1))))) := Lib.hid (by rw [HX.out]; exact hown')
      have g2 := HCS.out w' hbn
      clear hown' hg' hbw hbn g0 g1
      go_wp2_with fail
      go_roundw
      case rel => exact ⟨k + 1, b', by omega, by go_num, rfl, hbx, HF2, HON, HBN⟩
      case measure => simp [intOf]; omega
    · obtain rfl : k = sp.length := by omega
      have HX : Hid (strVals (piecesB tx sp) = strVals (cutB tx 0 sp) ++ [.string (tx.extract f tx.size)]) := Lib.hid (by
        have h1 := HF.out
        rw [List.take_length] at h1
        rw [piecesB, strVals_snoc, ← h1])
      have HO2 : Hid (wr.ownsRow w1.heap.size 9 1 u6 sp.length (strVals (cutB tx 0 sp))) := Lib.hid (by have := HO.out; rwa [List.take_length] at this)
      have HPL := Lib.hid (piecesB_len tx sp)
      have i1 : (f : Int) ≤ (tx.size : Int) := by omega
      clear HO HF
      generalize strVals (cutB tx 0 sp) = xs at HO2 HX
      go_wp2_with (at_builtin; refine wpList_append_lies _ rfl (.tmp 34) (.tmp 38) _ rfl w1.heap.size 9 i0 _ 1 16 Tryd.underlying23 hi0 hz0 hz1 hz2 rfl (by omega) _ sp.length xs rfl (HO2.out.alloc _) ⟨wr.heap.size, 0, none⟩ 1 1 [.string (tx.extract f tx.size)] rfl rfl (new_one _ _ _ _ rfl) (by intro u hu; simp at hu; subst hu; rfl) (by omega) (by unfold maxLen; omega) (by omega) (by simp; omega) (wr.heap.size + 1) (by simp) ?_)
      intro g cap' w' hown' hg' hat' hlt'
      have hbw : Below w1.heap.size w1 (wr.alloc (.cells #[.string (tx.extract f tx.size)] 9)) := HB.out.alloc hsz _
      have HBN := Lib.hid (HB1.out.trans ((below_own hbw (Nat.le_refl _) (by simp; omega) (HO2.out.alloc _) hg').mono HB1.out.size))
      have HON := Lib.hid (Rd.of_own hown')
      clear hown' hg' hat' hlt' hbw
      go_wp2_with fail
      go_ret
      refine ⟨g, cap', by rw [HPL.out]; rfl, ?_, HBN.out⟩
      rw [HPL.out, HX.out]
      exact HON.out

/-- What stands in the place of the spans. -/
def swapR (tx bx : ByteArray) (sp : List (Nat × Nat)) : List UInt8 := Go.Lib.join ((piecesB tx sp).map (·.data.toList)) bx.data.toList
/-- What the document's SwapOf tells: the text, what is wrong. -/
def RSwapIs (r : List UInt8) (n : Int) (w : World) (e : Ending) (w' : World) : Prop := e = .returned (.tuple #[.string ⟨r.toArray⟩, .int .i64 n]) ∧ Below w.heap.size w w'

/-- The text, or that it would be more than may be. -/
def swapO (tx bx : ByteArray) (sp : List (Nat × Nat)) : List UInt8 × Int := if 400 < bx.size then ([], 3) else if 400 < (swapR tx bx sp).length then ([], 3) else (swapR tx bx sp, 0)
set_option maxRecDepth 100000 in
set_option maxHeartbeats 8000000 in
theorem RSwap_ok (l : List Nd) (t : Rx) (hl : l = flat t) (hok : ∀ n ∈ l, okC n.cls) (hlen : l.length ≤ 60) (b off cap : Nat) (tx bx : ByteArray) (hx : tx.size ≤ 400) (hbx : bx.size ≤ 9223372036854775807) (w : World) (hr : RdN w (.slice (some ⟨b, off, none⟩) l.length cap) l) :
    Calls Tryd.prog 23 #[.slice (some ⟨b, off, none⟩) l.length cap, .string tx, .string bx] w (RSwapIs (swapO tx bx (spansO tx.data.toList t 0)).1 (swapO tx bx (spansO tx.data.toList t 0)).2 w) := by
  unfold swapO
  have HPC := Lib.hid (RPieces_ok l t hl hok hlen b off cap tx hx w hr)
  have hln : (spansO tx.data.toList t 0).length ≤ 401 := by
    have := allO_len (long_behind tx.data.toList t) 0
    have hSZ : tx.data.toList.length = tx.size := by simp
    rw [hSZ] at this
    unfold spansO
    rw [hSZ]
    omega
  clear hl hok hlen hr
  by_cases hb : 400 < bx.size
  · rw [if_pos hb]
    have d1 : decide ((400 : Int) < (bx.size : Int)) = true := by simp; omega
    clear HPC hb
    go_enter Tryd.func23, Tryd.ntmps23
    go_wp2_with fail
    go_ret2
    exact ⟨rfl, Below.refl _ _⟩
  · rw [if_neg hb]
    have d1 : decide ((400 : Int) < (bx.size : Int)) = false := by simp; omega
    have hps := piecesB_size tx (spansO tx.data.toList t 0)
    have hpl := piecesB_len tx (spansO tx.data.toList t 0)
    unfold swapR
    generalize piecesB tx (spansO tx.data.toList t 0) = pc at *
    have hpc2 : pc.length ≤ 402 := by omega
    have HPS : Hid (∀ s ∈ pc, s.size ≤ 400) := Lib.hid (fun s hs => by have := hps s hs; omega)
    have HJ : Hid (∀ k, (jl pc bx k).length ≤ 402 * 800) := Lib.hid (fun k => by
      have h1 := join_le bx.data.toList 400 ((pc.take k).map (·.data.toList)) (fun x hx' => by
        obtain ⟨s, hs, rfl⟩ := List.mem_map.1 hx'
        have := HPS.out s (List.mem_of_mem_take hs)
        simp
        omega)
      rw [List.length_map, show bx.data.toList.length = bx.size by simp] at h1
      have h2 : (pc.take k).length * (400 + bx.size) ≤ 402 * 800 := Nat.mul_le_mul (by simp; omega) (by omega)
      unfold jl
      omega)
    have HFIN : Hid (Go.Lib.join (pc.map (·.data.toList)) bx.data.toList = jl pc bx pc.length) := Lib.hid (by unfold jl; rw [List.take_length])
    have hb400 : bx.size ≤ 400 := by omega
    rw [HFIN.out]
    obtain ⟨R, hR⟩ : ∃ R : List UInt8 × Int, R = (if 400 < (jl pc bx pc.length).length then ([], 3) else (jl pc bx pc.length, 0)) := ⟨_, rfl⟩
    rw [← hR]
    have HRR := Lib.hid hR
    clear hps hpl hb HFIN hR
    go_enter Tryd.func23, Tryd.ntmps23
    go_wp2_with fail
    refine HPC.out.mono ?_
    rintro e w1 ⟨g, cap1, rfl, hrd1, hb1⟩
    have HB1 := Lib.hid hb1
    obtain ⟨A', cap', hv, hcf, hcf2, hmf⟩ := str_open hrd1
    injection hv with e1 _ e2
    subst e1
    subst e2
    have HMF := Lib.hid hmf
    clear hrd1 hb1 hmf HPC
    go_wp2_with fail
    go_loop [9, 10] (fun v9 v10 => ∃ (k n : Nat), k ≤ pc.length ∧ v10 = .int .i64 (k : Int) ∧ v9 = .int .i64 (n : Int) ∧ Hid (n = (jl pc bx k).length)) (fun _ i => pc.length - (intOf i).toNat)
    case atStart => exact ⟨0, 0, by omega, rfl, rfl, Lib.hid rfl⟩
    case round =>
      obtain ⟨k, n, hk, rfl, rfl, HN⟩ := hrel
      have hn : n ≤ 402 * 800 := by rw [HN.out]; exact HJ.out k
      by_cases hlt : k < pc.length
      · have d2 : decide (k < pc.length) = true := by simpa using hlt
        obtain ⟨bs, os, heq, hbs, hcs⟩ := HMF.out (by omega)
        injection heq with heq
        injection heq with h1 h2
        subst h1
        subst h2
        have hi : pc[k]? = some (pc[k]'hlt) := List.getElem?_eq_getElem hlt
        generalize pc[k]'hlt = s at hi
        have g0 := hcs w1 (fun _ => rfl) k s hi
        rw [Nat.zero_add] at g0
        have hss := HPS.out s (List.mem_of_getElem? hi)
        have hk0 : (0 : Int) ≤ (k : Int) := by omega
        have hk1 : (k : Int) < (pc.length : Int) := by omega
        have HJS := Lib.hid (jl_succ (bx := bx) hi)
        clear hi hcs
        by_cases k0 : k = 0
        · have d3 : decide (0 < k) = false := by simp; omega
          have HN2 : Hid (n + s.size = (jl pc bx (k + 1)).length) := Lib.hid (by rw [HJS.out, if_pos k0, HN.out, k0, jl_zero]; simp)
          clear k0
          go_wp2_with fail
          go_round
          case rel => exact ⟨k + 1, n + s.size, by omega, by go_num, by go_num, HN2⟩
          case measure => simp [intOf]; omega
        · have d3 : decide (0 < k) = true := by simp; omega
          have HN2 : Hid (n + s.size + bx.size = (jl pc bx (k + 1)).length) := Lib.hid (by rw [HJS.out, if_neg k0, HN.out]; simp; omega)
          clear k0
          go_wp2_with fail
          go_round
          case rel => exact ⟨k + 1, n + s.size + bx.size, by omega, by go_num, by go_num, HN2⟩
          case measure => simp [intOf]; omega
      · obtain rfl : k = pc.length := by omega
        by_cases hbig : 400 < (jl pc bx pc.length).length
        · have HRE : Hid (R = ([], 3)) := Lib.hid (by rw [HRR.out, if_pos hbig])
          have d4 : decide ((400 : Int) < (n : Int)) = true := by rw [HN.out]; simp; omega
          clear hbig
          go_wp2_with fail
          go_ret2
          rw [HRE.out]
          exact ⟨rfl, HB1.out⟩
        · have HRE : Hid (R = (jl pc bx pc.length, 0)) := Lib.hid (by rw [HRR.out, if_neg hbig])
          have d4 : decide ((400 : Int) < (n : Int)) = false := by rw [HN.out]; simp; omega
          clear hbig
          go_wp2_with fail
          go_loop [11, 12] (fun v11 v12 => ∃ (k : Nat) (o : ByteArray), k ≤ pc.length ∧ v12 = .int .i64 (k : Int) ∧ v11 = .string o ∧ Hid (o.data.toList = jl pc bx k)) (fun _ i => pc.length - (intOf i).toNat)
          case atStart => exact ⟨0, ⟨#[]⟩, by omega, rfl, rfl, Lib.hid rfl⟩
          case round =>
            obtain ⟨k, o, hk, rfl, rfl, HO⟩ := hrel
            have ho : o.size ≤ 402 * 800 := by have := HJ.out k; rw [← HO.out] at this; simpa using this
            by_cases hlt2 : k < pc.length
            · have d2 : decide (k < pc.length) = true := by simpa using hlt2
              obtain ⟨bs, os, heq, hbs, hcs⟩ := HMF.out (by omega)
              injection heq with heq
              injection heq with h1 h2
              subst h1
              subst h2
              have hi : pc[k]? = some (pc[k]'hlt2) := List.getElem?_eq_getElem hlt2
              generalize pc[k]'hlt2 = s at hi
              have g0 := hcs w1 (fun _ => rfl) k s hi
              rw [Nat.zero_add] at g0
              have hss := HPS.out s (List.mem_of_getElem? hi)
              have hk0 : (0 : Int) ≤ (k : Int) := by omega
              have hk1 : (k : Int) < (pc.length : Int) := by omega
              have HJS := Lib.hid (jl_succ (bx := bx) hi)
              clear hi hcs
              by_cases k0 : k = 0
              · have d3 : decide (0 < k) = false := by simp; omega
                have HN2 : Hid ((o ++ s).data.toList = jl pc bx (k + 1)) := Lib.hid (by rw [HJS.out, if_pos k0]; have := HO.out; rw [k0, jl_zero] at this; simp [ByteArray.data_append, this])
                clear k0
                go_wp2_with fail
                go_round
                case rel => exact ⟨k + 1, _, by omega, by go_num, rfl, HN2⟩
                case measure => simp [intOf]; omega
              · have d3 : decide (0 < k) = true := by simp; omega
                have HN2 : Hid ((o ++ bx ++ s).data.toList = jl pc bx (k + 1)) := Lib.hid (by rw [HJS.out, if_neg k0, ← HO.out]; simp [ByteArray.data_append])
                clear k0
                go_wp2_with fail
                go_round
                case rel => exact ⟨k + 1, _, by omega, by go_num, rfl, HN2⟩
                case measure => simp [intOf]; omega
            · obtain rfl : k = pc.length := by omega
              have HOE : Hid (o = ⟨(jl pc bx pc.length).toArray⟩) := Lib.hid (by rw [← HO.out])
              clear hlt2
              go_wp2_with fail
              go_ret2
              rw [HRE.out]
              exact ⟨by rw [← HOE.out]; rfl, HB1.out⟩

end Go.Proofs.YthcahjnniendnacDoor
