/-
  Proved: winnowfanlaw2.WordsMore returns true for every list of words, every word more and every text, and changes nothing that was there.
-/
import Derived.Test.YthcahjnniendnabAllC
import Derived.Test.YthcahjnniendnabHit
import Derived.Test.YthcahjnniendnabLaw
import Derived.Test.YthcahjnniendnabOpenL
import Derived.Test.YthcahjnniendnabPx
namespace Go.Proofs.Ythcahjnniendnab.wordsMore
open Go.ChangeShapes Go.WideShapes Go.ChangeAt Go.RowKit Wf
open Go.ChangeMaps (open_string shut_string)
open law (own laidOut LawIs)
set_option linter.unusedVariables false

theorem okW_of {l : List ByteArray} {x : ByteArray} (h : okW (l ++ [x])) : okW l ∧ okW [x] := by
  obtain ⟨h1, h2, h3⟩ := h
  rw [List.nodup_append] at h3
  refine ⟨⟨?_, fun s hs => h2 s (List.mem_append_left _ hs), h3.1⟩, ⟨by simp, fun s hs => h2 s (List.mem_append_right _ hs), by simp⟩⟩
  rw [List.length_append] at h1
  omega
theorem run_append_zero {P : Program} (w : World) (t ty e : TypeId) (i : TypeInfo) (ht : P.underlying t = some (.slice e)) (hi : P.info? e = some i) (A : Option Addr) (c : Nat) : (Builtin.append_ #[t, t] ty #[.slice none 0 0, .slice A 0 c]).run P w = .ok (.slice none 0 0) w := by
  cases A <;> simp [Builtin.append_, run_underlying ht, sizeOf, typeInfo, hi, Builtin.lenOf, Builtin.firstCells, loadCells, loadCellsFrom]
theorem wpList_append_row {P : Program} (w : World) {ops : Array Oper} {rest : List Oper} {o : Oper} {a : Act} {Q : Exit → Act → World → Prop} (hgd : o.guard = none) (s x : Operand) (t : TypeId)
    (ho : o.op = .call { callee := .builtin .append, args := #[s, x], argTypes := #[t, t] })
    (e : TypeId) (i : TypeInfo) (z : Value) (size bytes : Nat) (ht : P.underlying t = some (.slice e)) (hi : P.info? e = some i) (hz : i.zero = some z) (hsize : i.size = size) (hby : i.bytes = bytes) (hzs : z.cells.size = size) (hsz : 0 < size)
    (hs : a.eval s = .slice none 0 0) (A : Option Addr) (m c : Nat) (news : List Value) (hx : a.eval x = .slice A m c) (hl : news.length = m * size)
    (hnews : 0 < m → ∃ b off, A = some ⟨b, off, none⟩ ∧ ∀ (j : Nat) (u : Value), news[j]? = some u → w.cell? ⟨b, off + j, none⟩ = some u) (h1 : ∀ u ∈ news, u.oneCell' = true) (h63 : m ≤ maxLen) (hbytes : m * bytes ≤ 140737488355328)
    (h : ∀ A' c' w', w'.ownsRow w.heap.size e size (.slice A' m c') m news → Below w.heap.size w w' → wpList P ops Q rest (a.put o.dst (.slice A' m c')) w') : wpList P ops Q (o :: rest) a w := by
  rcases Nat.eq_zero_or_pos m with rfl | hm
  · have hn : news = [] := List.eq_nil_of_length_eq_zero (by rw [hl, Nat.zero_mul])
    subst hn
    refine wpList_plain hgd fun K hK => ?_
    have hrun := run_append_zero (P := P) w t o.type e i ht hi A c
    unfold Oper.wp
    simp [execOp, ho, resolve, invoke, builtin, hs, hx, hrun, Result.andThen]
    exact hK _ _ (h none 0 w (World.ownsRow_nil _ _ _ _) (Below.refl _ _))
  · obtain ⟨b, off, rfl, hc⟩ := hnews hm
    refine wpList_append_lies w hgd s x t ho w.heap.size e i z size bytes ht hi hz hsize hby hzs hsz _ 0 [] hs (World.ownsRow_nil _ _ _ _) ⟨b, off, none⟩ m c news hx hl (fun j u hu => by rw [add_mk]; exact hc j u hu) h1 hm (by omega) (by rw [Nat.zero_add]; exact hbytes) (Nat.le_refl _) _ rfl ?_
    intro g cap w' ho hg _ _
    simp only [Nat.zero_add, List.nil_append] at ho ⊢
    exact h _ _ w' ho ((Below.refl _ _).grown hg (Nat.le_refl _) (fun k e => by cases e))
theorem below_row {B base n size : Nat} {a w w' : World} {e : TypeId} {v : Value} {xs : List Value} (h : Below B a w) (hB : B ≤ base) (hBw : B ≤ w.heap.size) (ho : w.ownsRow base e size v n xs) (hg : w.grownBy w' v.ownBlock) : Below B a w' :=
  ⟨hg.os.trans h.os, hg.tape.trans h.tape, hg.output.trans h.output, Nat.le_trans h.size hg.size, fun i hi =>
    (hg.block i (by omega) (fun e => by have := (ho.lt i e.symm).1; omega)).trans (h.block i hi)⟩
theorem hitsTo_len (ws : List (List UInt8)) (t : List UInt8) (n : Nat) : (hitsTo ws t n).length ≤ ws.length * n := by
  induction n with
  | zero => simp [hitsTo]
  | succ n ih =>
    rw [hitsTo_succ, List.length_append]
    have : (hitsAt ws t (n + 1)).length ≤ ws.length := by
      unfold hitsAt endAt
      rw [List.length_map]
      refine Nat.le_trans (List.length_filter_le _ _) ?_
      rw [List.length_range]
      exact Nat.le_refl _
    rw [Nat.mul_succ]
    omega
theorem hits_few {l : List ByteArray} {s : ByteArray} (h : chkAll l s = 0) : (hitsL (wsOf l) s.data.toList).length ≤ 8000 := by
  obtain ⟨h1, h2⟩ := chkAll_zero.1 h
  have h3 := hitsTo_len (wsOf l) s.data.toList s.data.toList.length
  have h4 : (wsOf l).length ≤ 20 := by simpa [wsOf] using h1.1
  have h5 : s.data.toList.length ≤ 400 := by simpa using h2
  have h6 : (wsOf l).length * s.data.toList.length ≤ 20 * 400 := Nat.mul_le_mul h4 h5
  unfold hitsL
  omega
theorem fact_ok : chkAll [⟨#[98]⟩] ⟨#[97, 98]⟩ = 0 := chkAll_zero.2 ⟨⟨by simp, fun y hy => by rw [List.mem_singleton.1 hy]; decide, by simp⟩, by decide⟩
theorem fact_hits : hitsL (wsOf [⟨#[98]⟩]) (ByteArray.mk #[97, 98]).data.toList = [(0, 1, 2)] := by decide

set_option maxRecDepth 100000 in
set_option maxHeartbeats 16000000 in
theorem walk (l : List ByteArray) (v : Value) (x s : ByteArray) (w : World) (hr : Rd1 w v (l.map Value.string)) (hls : ∀ y ∈ l, y.size ≤ maxLen) (hll : l.length * 16 ≤ 140737488351232) (hx : x.size ≤ maxLen) (hs : s.size ≤ maxLen) :
    Calls Try.prog 5 #[v, .string x, .string s] w (LawIs w) := by
  unfold maxLen at hs hls hx
  have hr' : Rd1 w v (strVals l) := hr
  obtain ⟨A, cap, rfl, hcap, hcap2, hmem⟩ := str_open hr'
  obtain ⟨i0, hi0, hz0, hz1, hz2⟩ := info_parts info_str
  obtain ⟨j0, hj0, hjz0, hjz1, hjz2⟩ := info_parts info_hit
  have hlen : l.length ≤ 9223372036854775807 := by omega
  have HR := Lib.hid hr'
  have HLS := Lib.hid hls
  have hb0 : Below w.heap.size w (w.alloc (.cells #[.string ⟨#[98]⟩] 9)) := (Below.refl _ _).alloc (Nat.le_refl _) _
  have HF : Hid (Calls Try.prog 12 #[.slice (some ⟨w.heap.size, 0, none⟩) 1 1, .string ⟨#[97, 98]⟩] (w.alloc (.cells #[.string ⟨#[98]⟩] 9)) (fun e w' => ∃ B c, e = .returned (.tuple #[.slice B 1 c, .nilIface]) ∧ Below w.heap.size w w')) := Lib.hid (by
    have hrd : Rd1 (w.alloc (.cells #[.string ⟨#[98]⟩] 9)) (.slice (some ⟨w.heap.size, 0, none⟩) 1 1) (strVals [⟨#[98]⟩]) := (Blk.new w 9 #[.string ⟨#[98]⟩]).rd1 (Nat.le_refl _) (by omega) rfl (fun j u h => by simpa [strVals] using h)
    refine (All_fine [⟨#[98]⟩] _ ⟨#[97, 98]⟩ _ hrd fact_ok _ rfl 1 (by rw [fact_hits]; rfl)).mono ?_
    rintro e w' ⟨B, c, h1, _, h3⟩
    exact ⟨B, c, h1, hb0.trans (h3.mono hb0.size)⟩)
  have hnl : (strVals l).length = l.length * 1 := by simp [strVals]
  have hone : ∀ u ∈ strVals l, u.oneCell' = true := fun u hu => by
    obtain ⟨y, _, rfl⟩ := List.mem_map.1 hu
    rfl
  have HNL := Lib.hid hnl
  have HONE := Lib.hid hone
  have HMEM := Lib.hid hmem
  clear hr hr' hls hb0 hnl hone hmem
  go_enter Try.func5, Try.ntmps5
  go_wp2_with fail
  refine HF.out.mono ?_
  rintro e w1 ⟨FB, Fc, rfl, hb1⟩
  have HB1 := Lib.hid hb1
  clear hb1 HF
  have hs1 : ∀ b, b < w.heap.size → ∀ o, w1.cell? ⟨b, o, none⟩ = w.cell? ⟨b, o, none⟩ := fun b hb o => HB1.out.cell (p := ⟨b, o, none⟩) hb
  have HNEWS : Hid (0 < l.length → ∃ b off, A = some ⟨b, off, none⟩ ∧ ∀ (j : Nat) (u : Value), (strVals l)[j]? = some u → w1.cell? ⟨b, off + j, none⟩ = some u) := Lib.hid (fun h0 => by
    obtain ⟨b, off, hA, hb, hc⟩ := HMEM.out h0
    refine ⟨b, off, hA, fun j u hu => ?_⟩
    simp only [strVals, List.getElem?_map] at hu
    cases hj : l[j]? with
    | none => rw [hj] at hu; cases hu
    | some y =>
      rw [hj] at hu
      cases hu
      exact hc w1 (hs1 b hb) j y hj)
  have HW1 := Lib.hid HB1.out.size
  clear hs1
  go_wp2_with (at_builtin; refine wpList_append_row _ rfl (.tmp 32) (.tmp 33) _ rfl 9 i0 _ 1 16 Try.underlying41 hi0 hz0 hz1 hz2 rfl (by omega) rfl _ l.length cap (strVals l) rfl HNL.out HNEWS.out HONE.out (by unfold maxLen; omega) (by omega) ?_)
  intro A2 c2 w2 hown2 hb2
  have hs2 := hb2.size
  have HO2 := Lib.hid hown2
  have HB2 := Lib.hid hb2
  clear hown2 hb2
  go_wp2_with (at_builtin; refine wpList_append_lies _ rfl (.tmp 35) (.tmp 37) _ rfl w1.heap.size 9 i0 _ 1 16 Try.underlying41 hi0 hz0 hz1 hz2 rfl (by omega) _ l.length (strVals l) rfl (HO2.out.alloc _) ⟨w2.heap.size, 0, none⟩ 1 1 [.string x] rfl rfl (new_one _ _ _ _ rfl) (by intro u hu; simp at hu; subst hu; rfl) (by omega) (by unfold maxLen; omega) (by omega) (by simp; omega) (w2.heap.size + 1) (by simp) ?_)
  intro g3 c3 w3 hown3 hg3 _ _
  have hbw : Below w1.heap.size w1 (w2.alloc (.cells #[.string x] 9)) := HB2.out.alloc hs2 _
  have HB3 := Lib.hid (HB1.out.trans ((below_row hbw (Nat.le_refl _) (by simp; omega) (HO2.out.alloc _) hg3).mono HB1.out.size))
  have hr3 : Rd1 w3 (.slice (some ⟨g3, 0, none⟩) (l.length + 1) c3) (strVals (l ++ [x])) := by
    rw [strVals_snoc]
    exact Rd.of_own hown3
  have HR3 := Lib.hid hr3
  have HRL3 := Lib.hid (Rd.below HR.out HB3.out)
  clear hown3 hg3 hbw hr3 HO2 HB2 HNEWS HNL HONE HMEM
  have hlsz : ∀ y ∈ l, y.size ≤ 9223372036854775807 := HLS.out
  have hlx : ∀ y ∈ l ++ [x], y.size ≤ 9223372036854775807 := fun y hy => by
    rcases List.mem_append.1 hy with h | h
    · exact hlsz y h
    · obtain rfl : y = x := by simpa using h
      exact hx
  have hlxn : (l ++ [x]).length ≤ 9223372036854775807 := by rw [List.length_append, List.length_singleton]; omega
  have HLSZ := Lib.hid hlsz
  have HLX := Lib.hid hlx
  have HLXN := Lib.hid hlxn
  clear hlsz hlx hlxn
  by_cases h2 : chkAll (l ++ [x]) s = 0
  · have h1 : chkAll l s = 0 := chkAll_zero.2 ⟨(okW_of (chkAll_zero.1 h2).1).1, (chkAll_zero.1 h2).2⟩
    have h3 : chkAll [x] s = 0 := chkAll_zero.2 ⟨(okW_of (chkAll_zero.1 h2).1).2, (chkAll_zero.1 h2).2⟩
    have hws : wsOf (l ++ [x]) = wsOf l ++ [x.data.toList] := by simp [wsOf]
    have hwl : (wsOf l).length = l.length := by simp [wsOf]
    have hmore := hits_more (ws := wsOf l) (t := s.data.toList) x.data.toList
    rw [← hws, hwl] at hmore
    have hfew := hits_few h2
    have HF1 := Lib.hid fun W (h : Rd1 W _ (strVals l)) => All_fine l (.slice A l.length cap) s W h h1 _ rfl _ rfl
    have HF2 := Lib.hid fun W (h : Rd1 W _ (strVals (l ++ [x]))) => All_fine (l ++ [x]) (.slice (some ⟨g3, 0, none⟩) (l.length + 1) c3) s W h h2 _ rfl _ rfl
    have HF3 := Lib.hid fun W v (h : Rd1 W v (strVals [x])) => All_fine [x] v s W h h3 _ rfl _ rfl
    have hws1 : wsOf [x] = [x.data.toList] := rfl
    rw [hws1] at HF3
    obtain ⟨hm1, hm2⟩ := hmore
    generalize hY : hitsL (wsOf (l ++ [x])) s.data.toList = Y at *
    generalize hS : hitsL (wsOf l) s.data.toList = S at *
    generalize hX : hitsL [x.data.toList] s.data.toList = X at *
    generalize hN : S.length = N at *
    generalize hM : Y.length = M at *
    generalize hN1 : X.length = N1 at *
    have HM1 := Lib.hid hm1
    have HM2 := Lib.hid hm2
    have HNS := Lib.hid hN
    have HNM := Lib.hid hM
    clear h1 h2 h3 hws hwl hY hS hX hN hM hN1 hm1 hm2 hws1
    go_wp2_with fail
    refine (HF1.out w3 HRL3.out).mono ?_
    rintro e w4 ⟨B4, c4, rfl, hr4, hb4⟩
    have HR4 := Lib.hid hr4
    have HB4 := Lib.hid (HB3.out.trans (hb4.mono HB3.out.size))
    have HR34 := Lib.hid (Rd.below HR3.out hb4)
    clear hr4 hb4
    go_wp2_with fail
    refine (HF2.out w4 HR34.out).mono ?_
    rintro e w5 ⟨B5, c5, rfl, hr5, hb5⟩
    have HB5 := Lib.hid (HB4.out.trans (hb5.mono HB4.out.size))
    have HR5 := Lib.hid (Rd.below HR4.out hb5)
    have hr5' := hr5
    rw [← HNM.out] at hr5'
    obtain ⟨A', cap', hv, _, _, hmf⟩ := hit_open hr5'
    rw [HNM.out] at hv hmf
    injection hv with e1 _ e2
    subst e1
    subst e2
    have HMF := Lib.hid hmf
    clear hr5 hr5' hb5 hmf HF1 HF2 HRL3 HR3 HR34 HB3
    go_wp2_with fail
    go_loopw [14, 15, 16] (fun v14 v15 v16 wr => ∃ (k m n : Nat), k ≤ M ∧ v16 = .int .i64 (k : Int) ∧ v15 = .int .i64 (m : Int) ∧ m ≤ k ∧ n ≤ k ∧ Hid (m = ((Y.take k).filter fun h => !decide (h.1 < l.length)).length) ∧ Hid (n = ((Y.take k).filter fun h => decide (h.1 < l.length)).length) ∧ Hid (wr.ownsRow w5.heap.size 48 3 v14 n (((Y.take k).filter fun h => decide (h.1 < l.length)).flatMap hitCells)) ∧ Hid (Below w5.heap.size w5 wr)) (fun _ _ i _ => M - (intOf i).toNat)
    case atStart => exact ⟨0, 0, 0, by omega, rfl, rfl, by omega, by omega, Lib.hid rfl, Lib.hid rfl, Lib.hid (World.ownsRow_nil _ _ _ _), Lib.hid (Below.refl _ _)⟩
    case round =>
      obtain ⟨k, m, n, hk, rfl, rfl, hmk, hnk, HMM, HNN, HO, HB⟩ := hrel
      have hsz := HB.out.size
      by_cases hlt : k < M
      · obtain ⟨bs, os, rfl, hbs, hcs⟩ := HMF.out (by omega)
        have hltY : k < Y.length := by rw [HNM.out]; exact hlt
        have hi : Y[k]? = some (Y[k]'hltY) := List.getElem?_eq_getElem hltY
        generalize Y[k]'hltY = q at hi
        obtain ⟨a, b, d⟩ := q
        obtain ⟨g0, g1, g2⟩ := hcs wr (fun o => HB.out.cell (p := ⟨bs, o, none⟩) hbs) k a b d hi
        have HT : Hid (Y.take (k + 1) = Y.take k ++ [(a, b, d)]) := Lib.hid (take_snoc hi)
        have hk1 : (k : Int) < (M : Int) := by omega
        clear hcs hi hltY
        by_cases hp : a < l.length
        · have hd : decide (a < l.length) = true := by simpa using hp
          have hfl : Hid (((Y.take (k + 1)).filter fun h => decide (h.1 < l.length)) = ((Y.take k).filter fun h => decide (h.1 < l.length)) ++ [(a, b, d)]) := Lib.hid (by rw [HT.out, List.filter_append]; simp [hp])
          have hfl2 : Hid (((Y.take (k + 1)).filter fun h => !decide (h.1 < l.length)) = ((Y.take k).filter fun h => !decide (h.1 < l.length))) := Lib.hid (by rw [HT.out, List.filter_append]; simp [hp])
          have hmm : Hid (m = ((Y.take (k + 1)).filter fun h => !decide (h.1 < l.length)).length) := Lib.hid (by rw [hfl2.out]; exact HMM.out)
          have hnn : Hid (n + 1 = ((Y.take (k + 1)).filter fun h => decide (h.1 < l.length)).length) := Lib.hid (by rw [hfl.out, List.length_append, ← HNN.out]; rfl)
          have hX : Hid ((((Y.take (k + 1)).filter fun h => decide (h.1 < l.length)).flatMap hitCells) = (((Y.take k).filter fun h => decide (h.1 < l.length)).flatMap hitCells) ++ hitCells (a, b, d)) := Lib.hid (by rw [hfl.out, List.flatMap_append]; simp)
          clear hfl hfl2 HMM HNN HT
          generalize (((Y.take k).filter fun h => decide (h.1 < l.length)).flatMap hitCells) = xs at HO hX
          go_wp2_with (at_builtin; refine wpList_append_lies _ rfl (.tmp 73) (.tmp 78) _ rfl w5.heap.size 48 j0 _ 3 24 Try.underlying42 hj0 hjz0 hjz1 hjz2 rfl (by omega) _ n xs rfl (HO.out.alloc _) ⟨wr.heap.size, 0, none⟩ 1 1 (hitCells (a, b, d)) rfl rfl (hit_news _ _ rfl _ _ _) (hit_one _) (by omega) (by unfold maxLen; omega) (by omega) (by simp; omega) (wr.heap.size + 1) (by simp) ?_)
          intro g' cap' w' hown' hg' _ _
          have hbw : Below w5.heap.size w5 (wr.alloc (.cells #[.int .i64 (a : Int), .int .i64 (b : Int), .int .i64 (d : Int)] 48)) := HB.out.alloc hsz _
          have HBN := Lib.hid (below_row hbw (Nat.le_refl _) (by simp; omega) (HO.out.alloc _) hg')
          have HON : Hid (w'.ownsRow w5.heap.size 48 3 (.slice (some ⟨g', 0, none⟩) (n + 1) cap') (n + 1) (((Y.take (k + 1)).filter fun h => decide (h.1 < l.length)).flatMap hitCells)) := Lib.hid (by rw [hX.out]; exact hown')
          clear hown' hg' hbw
          go_wp2_with fail
          go_roundw
          case rel => exact ⟨k + 1, m, n + 1, by omega, by go_num, rfl, by omega, by omega, hmm, hnn, HON, HBN⟩
          case measure => simp [intOf]; omega
        · have hd : decide (a < l.length) = false := by simpa using hp
          have hfl : Hid (((Y.take (k + 1)).filter fun h => decide (h.1 < l.length)) = ((Y.take k).filter fun h => decide (h.1 < l.length))) := Lib.hid (by rw [HT.out, List.filter_append]; simp [hp])
          have hfl2 : Hid (((Y.take (k + 1)).filter fun h => !decide (h.1 < l.length)) = ((Y.take k).filter fun h => !decide (h.1 < l.length)) ++ [(a, b, d)]) := Lib.hid (by rw [HT.out, List.filter_append]; simp [hp])
          have hmm : Hid (m + 1 = ((Y.take (k + 1)).filter fun h => !decide (h.1 < l.length)).length) := Lib.hid (by rw [hfl2.out, List.length_append, ← HMM.out]; rfl)
          have hnn : Hid (n = ((Y.take (k + 1)).filter fun h => decide (h.1 < l.length)).length) := Lib.hid (by rw [hfl.out]; exact HNN.out)
          have HON : Hid (wr.ownsRow w5.heap.size 48 3 _ n (((Y.take (k + 1)).filter fun h => decide (h.1 < l.length)).flatMap hitCells)) := Lib.hid (by rw [hfl.out]; exact HO.out)
          clear hfl hfl2 HMM HNN HT HO
          go_wp2_with fail
          go_roundw
          case rel => exact ⟨k + 1, m + 1, n, by omega, by go_num, by go_num, by omega, by omega, hmm, hnn, HON, HB⟩
          case measure => simp [intOf]; omega
      · obtain rfl : k = M := by omega
        have hall : Y.take k = Y := by rw [← HNM.out]; exact List.take_length
        have hmm := HMM.out
        have hown := HO.out
        have hnn := HNN.out
        rw [hall] at hmm hown hnn
        rw [HM2.out] at hmm
        rw [HM1.out] at hown hnn
        rw [HNS.out] at hnn
        subst hmm
        subst hnn
        have HRW := Lib.hid (Rd.of_own hown)
        have hba : Below wr.heap.size wr (wr.alloc (.cells #[.string x] 9)) := (Below.refl _ _).alloc (Nat.le_refl _) _
        have HRX := Lib.hid (show Rd1 (wr.alloc (.cells #[.string x] 9)) (.slice (some ⟨wr.heap.size, 0, none⟩) 1 1) (strVals [x]) from (Blk.new wr 9 #[.string x]).rd1 (Nat.le_refl _) (by omega) rfl (fun j u h => by simpa [strVals] using h))
        have HBA := Lib.hid hba
        have HRW2 := Lib.hid (Rd.below HRW.out hba)
        have HRB2 := Lib.hid (Rd.below (Rd.below HR5.out HB.out) hba)
        have HB6 := Lib.hid (HB5.out.trans ((HB.out.trans (hba.mono hsz)).mono HB5.out.size))
        clear hall hown HO HMM HNN hba HM1 HM2
        go_wp2_with fail
        refine (HF3.out _ _ HRX.out).mono ?_
        rintro e w7 ⟨B7, c7, rfl, _, hb7⟩
        have HRW3 := Lib.hid (Rd.below HRW2.out hb7)
        have HRB3 := Lib.hid (Rd.below HRB2.out hb7)
        have HB7 := Lib.hid (HB6.out.trans (hb7.mono HB6.out.size))
        clear hb7
        go_wp2_with fail
        refine (Hits_any S S _ _ w7 HRW3.out HRB3.out).mono ?_
        rintro e w8 ⟨r8, rfl, hr8, hb8⟩
        obtain rfl : r8 = true := hr8.2 rfl
        have HB8 := Lib.hid (HB7.out.trans (hb8.mono HB7.out.size))
        clear hb8 hr8
        go_wp2_with fail
        go_ret
        exact ⟨rfl, HB8.out⟩
  · have HE2 := Lib.hid fun W (h : Rd1 W _ (strVals (l ++ [x]))) => All_err (l ++ [x]) (.slice (some ⟨g3, 0, none⟩) (l.length + 1) c3) s W h HLXN.out HLX.out h2
    by_cases h1 : chkAll l s = 0
    · have HF1 := Lib.hid fun W (h : Rd1 W _ (strVals l)) => All_fine l (.slice A l.length cap) s W h h1 _ rfl _ rfl
      generalize chkAll (l ++ [x]) s = n2 at *
      generalize hitsL (wsOf l) s.data.toList = S at *
      generalize S.length = N at *
      clear h1 h2
      go_wp2_with fail
      refine (HF1.out w3 HRL3.out).mono ?_
      rintro e w4 ⟨B4, c4, rfl, _, hb4⟩
      have HB4 := Lib.hid (HB3.out.trans (hb4.mono HB3.out.size))
      have HR34 := Lib.hid (Rd.below HR3.out hb4)
      clear hb4
      go_wp2_with fail
      refine (HE2.out w4 HR34.out).mono ?_
      rintro e w5 ⟨rfl, hb5⟩
      have HB5 := Lib.hid (HB4.out.trans (hb5.mono HB4.out.size))
      clear hb5
      go_wp2_with fail
      go_ret
      exact ⟨rfl, HB5.out⟩
    · have HE1 := Lib.hid fun W (h : Rd1 W _ (strVals l)) => All_err l (.slice A l.length cap) s W h hlen HLSZ.out h1
      generalize chkAll (l ++ [x]) s = n2 at *
      generalize chkAll l s = n1 at *
      clear h1 h2
      go_wp2_with fail
      refine (HE1.out w3 HRL3.out).mono ?_
      rintro e w4 ⟨rfl, hb4⟩
      have HB4 := Lib.hid (HB3.out.trans (hb4.mono HB3.out.size))
      have HR34 := Lib.hid (Rd.below HR3.out hb4)
      clear hb4
      go_wp2_with fail
      refine (HE2.out w4 HR34.out).mono ?_
      rintro e w5 ⟨rfl, hb5⟩
      have HB5 := Lib.hid (HB4.out.trans (hb5.mono HB4.out.size))
      clear hb5
      go_wp2_with fail
      go_ret
      exact ⟨rfl, HB5.out⟩
/-! ### THE ROW's STEP -/
set_option maxRecDepth 100000 in
theorem lifted (os : Os) (started : os.Started) (H : Type) (enc : TypeId × Value → H) :
    ReturnsInHanded {} Try.checked os 5 .any (Rows.wordsMoreSpec.pre6 enc Try.prog Try.f5 Rows.wordsMoreRow.domain false) (Rows.wordsMoreSpec.post enc Try.prog Try.f5 false true false false) := by
  refine returnsInHanded_of_change_sized (C := Try.checked) own started (by kernel_rfl) Try.func5
    (ChangeSpec.witness6 (enc := enc) (C := Try.checked) false ⟨#[], #[.slice none 0 0, .string ByteArray.empty, .string ByteArray.empty], []⟩ 8 (by kernel_rfl) (by kernel_rfl) (by kernel_rfl) (by kernel_rfl)) ?_
  intro W base args ds gs before hval0 hW hcnd hsz0 _
  have hval : ∀ (j : Nat) t v, Try.f5.params[j]? = some t → args[j]? = some v → Value.okWide Try.prog W .any base t v := hval0
  have hW' := hW
  obtain ⟨p, q, hA0, hV, rfl, hfz, hnd⟩ := hW
  have hA : DataW.TrodAll enc Try.prog W 0 (fun _ => true) true Try.f5.params.toList args.toList ds p := hA0
  have hsz : (DataW.weightsEach Try.prog (Try.f5.params.toList ++ Rows.wordsMoreSpec.plain.varTypes Try.prog) (ds ++ gs)).all (· ≤ reachBytes) = true := hsz0
  rw [Try.params5] at hA hval hsz
  obtain ⟨v0, vs0, d0, ds0, p0, q0, hargs, rfl, rfl, h0, r0⟩ := trodAll_cons hA
  obtain ⟨v1, vs1, d1, ds1, p1, q1, rfl, rfl, rfl, h1, r1⟩ := trodAll_cons r0
  obtain ⟨v2, vs2, d2, ds2, p2, q2, rfl, rfl, rfl, h2, r2⟩ := trodAll_cons r1
  obtain ⟨rfl, rfl, rfl⟩ := trodAll_nil r2
  obtain rfl : args = #[v0, v1, v2] := by cases args; simp_all
  obtain ⟨rfl, rfl⟩ := trodVars_none hV
  obtain ⟨a0, len0, cap0, rfl⟩ := okWide_slice Try.underlying41 (hval 0 41 v0 rfl rfl)
  have k0 := h0
  have lt0 : ∀ x ∈ p0, x.block < W.heap.size := by obtain ⟨m, hm⟩ := k0; exact DataW.trod_lt m _ _ _ hm
  obtain ⟨z0, w0, ok0, dk0⟩ : ∃ l : List ByteArray, Rd1 W (.slice a0 len0 cap0) (l.map Value.string) ∧ (∀ s ∈ l, s.size ≤ maxLen) ∧ ∀ s ∈ l, ∃ elems sp, d0 = .slice elems sp ∧ DataW.lit (.string s.data.toList) ∈ elems := by obtain ⟨fuel, hf⟩ := h0; exact open_strs1 Try.underlying41 Try.underlying9 (by kernel_rfl) (by simpa [Value.cells] using hf)
  have k1 := h1
  have lt1 : ∀ x ∈ p1, x.block < W.heap.size := by obtain ⟨m, hm⟩ := k1; exact DataW.trod_lt m _ _ _ hm
  obtain ⟨s1, rfl, rfl, rfl, ws1⟩ := open_string Try.underlying9 (hval 1 9 v1 rfl rfl) h1
  have k2 := h2
  have lt2 : ∀ x ∈ p2, x.block < W.heap.size := by obtain ⟨m, hm⟩ := k2; exact DataW.trod_lt m _ _ _ hm
  obtain ⟨s2, rfl, rfl, rfl, ws2⟩ := open_string Try.underlying9 (hval 2 9 v2 rfl rfl) h2
  have rl0 : z0.length * 16 ≤ 140737488351232 := by
    rw [rd_len w0]
    obtain ⟨fuel, hf⟩ := k0
    rcases len_strs Try.underlying41 Try.underlying9 (by kernel_rfl) (by simpa [Value.cells] using hf) with h | ⟨el, sp, h1, h2⟩
    · rw [h]; decide
    · have h1' : d0 = .slice el sp := h1
      subst h1'
      have h3 := sized_len hsz (j := 0) (t := 41) rfl rfl Try.underlying41
      have h4 : Try.prog.bytesOf 9 = 16 := by kernel_rfl
      rw [h4] at h3
      have h5 : reachBytes = 140737488351232 := by decide
      rw [h5] at h3
      have h6 : len0 * 16 ≤ (el.length + sp.length) * 16 := Nat.mul_le_mul_right _ h2
      omega
  have rs0 : ∀ s ∈ z0, s.size ≤ 140737488355328 := fun s hs => by obtain ⟨el, sp, rfl, hm⟩ := dk0 s hs; have := sized_strs hsz (j := 0) (t := 41) rfl rfl Try.underlying41 hm; have hb := reachBytes_lt; simp at this; omega
  have rs1 : s1.size ≤ 140737488355328 := by have := sized_string hsz (j := 1) (t := 9) (bytes := s1.data.toList) rfl rfl; have hb := reachBytes_lt; simp at this; omega
  have rs2 : s2.size ≤ 140737488355328 := by have := sized_string hsz (j := 2) (t := 9) (bytes := s2.data.toList) rfl rfl; have hb := reachBytes_lt; simp at this; omega
  clear hA0 hval0 hsz0 hsz
  refine (walk z0 _ s1 s2 W w0 ok0 rl0 (by simpa using ws1) (by simpa using ws2)).mono fun e W' ⟨he, bel⟩ => ?_
  subst he
  exact ⟨_, rfl, _, _, _, [], _, [], hW', trodAll_mk1 (shut_bool Try.underlying4 _), (trodAll_cons_mk (Below.trod laidOut (by kernel_rfl) (of_decide_eq_true (by kernel_rfl)) k0 bel lt0) (trodAll_cons_mk (shut_string Try.underlying9 ws1) (trodAll_cons_mk (shut_string Try.underlying9 ws2) trodAll_mk0))), rfl, bel.frame _, fun h => by cases h⟩

theorem over : Rows.wordsMoreRow.holds Try.pinned (OpenSpec.ofChange Rows.wordsMoreSpec) :=
  OpenClaim.holds_of_wide 5 Try.f5 rfl rfl rfl rfl rfl rfl rfl ⟨rfl, rfl, rfl, rfl, rfl⟩ rfl rfl rfl rfl rfl (by kernel_rfl) Try.func5 (by kernel_rfl)
    (of_decide_eq_true (by kernel_rfl)) (by unfold Func.isWrapper; first | (rw [if_pos (by decide +kernel)]; kernel_rfl) | (rw [if_neg (by decide +kernel)]; exact ⟨rfl, rfl⟩))
    (fun os started H enc _ => lifted os started H enc)

/-- THE STATEMENT -/
theorem proved : Rows.WordsMoreSaid := over


end Go.Proofs.Ythcahjnniendnab.wordsMore
