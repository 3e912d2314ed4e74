/-
  Walks of the document's WordsFault, Stands, WordsOf.
-/
import Derived.Test.YthcahjnniendnabDoorHit
namespace Wf
theorem hitsAt_zero {ws : List (List UInt8)} (h : ∀ x ∈ ws, x ≠ []) (t : List UInt8) : hitsAt ws t 0 = [] := by
  unfold hitsAt
  have : endAt ws (t.take 0) = [] := by
    rw [List.eq_nil_iff_forall_not_mem]
    intro j hj
    obtain ⟨x, hx, hs⟩ := endAt_mem.1 hj
    exact h x (List.mem_of_getElem? hx) (by simpa using hs)
  rw [this]
  rfl
/-- All places up to a place, the empty one too. -/
def docTo (ws : List (List UInt8)) (t : List UInt8) (e : Nat) : List (Nat × Nat × Nat) := (List.range e).flatMap (hitsAt ws t)
theorem docTo_succ (ws : List (List UInt8)) (t : List UInt8) (e : Nat) : docTo ws t (e + 1) = docTo ws t e ++ hitsAt ws t e := by
  simp [docTo, List.range_succ, List.flatMap_append]
theorem docTo_all {ws : List (List UInt8)} (h : ∀ x ∈ ws, x ≠ []) (t : List UInt8) (n : Nat) : docTo ws t (n + 1) = hitsTo ws t n := by
  induction n with
  | zero => rw [docTo_succ, hitsAt_zero h]; simp [docTo, hitsTo]
  | succ n ih => rw [docTo_succ, ih, hitsTo_succ]
/-- The hits at a place, of the first words. -/
def hitsIn (ws : List (List UInt8)) (t : List UInt8) (e i : Nat) : List (Nat × Nat × Nat) := ((List.range i).filter fun j => (ws.getD j []).isSuffixOf (t.take e)).map fun j => (j, e - (ws.getD j []).length, e)
theorem hitsIn_all (ws : List (List UInt8)) (t : List UInt8) (e : Nat) : hitsIn ws t e ws.length = hitsAt ws t e := rfl
theorem hitsIn_yes {ws : List (List UInt8)} {t x : List UInt8} {e i : Nat} (hx : ws[i]? = some x) (h : x <:+ t.take e) : hitsIn ws t e (i + 1) = hitsIn ws t e i ++ [(i, e - x.length, e)] := by
  have hg : ws.getD i [] = x := by simp [List.getD, hx]
  have hb : x.isSuffixOf (t.take e) = true := List.isSuffixOf_iff_suffix.2 h
  unfold hitsIn
  rw [List.range_succ, List.filter_append, List.map_append]
  simp only [List.filter_cons, hg, hb, if_true, List.filter_nil, List.map_cons, List.map_nil]
theorem hitsIn_no {ws : List (List UInt8)} {t x : List UInt8} {e i : Nat} (hx : ws[i]? = some x) (h : ¬ x <:+ t.take e) : hitsIn ws t e (i + 1) = hitsIn ws t e i := by
  have hg : ws.getD i [] = x := by simp [List.getD, hx]
  have hb : x.isSuffixOf (t.take e) = false := by
    cases hh : x.isSuffixOf (t.take e) with
    | false => rfl
    | true => exact absurd (List.isSuffixOf_iff_suffix.1 hh) h
  unfold hitsIn
  rw [List.range_succ, List.filter_append, List.map_append]
  simp only [List.filter_cons, hg, hb, Bool.false_eq_true, if_false, List.filter_nil, List.map_nil, List.append_nil]
theorem hitsIn_len (ws : List (List UInt8)) (t : List UInt8) (e i : Nat) : (hitsIn ws t e i).length ≤ i := by
  unfold hitsIn
  rw [List.length_map]
  exact Nat.le_trans (List.length_filter_le _ _) (by simp)
theorem docTo_len (ws : List (List UInt8)) (t : List UInt8) (e : Nat) : (docTo ws t e).length ≤ ws.length * e := by
  induction e with
  | zero => simp [docTo]
  | succ e ih =>
    rw [docTo_succ, List.length_append, Nat.mul_succ, ← hitsIn_all]
    have := hitsIn_len ws t e ws.length
    omega
end Wf
namespace Go.Proofs.YthcahjnniendnabDoor
open Go.RowKit Wf

theorem wbeq_yes {x y : ByteArray} (h : x = y) : (x.toList == y.toList) = true := (Lib.bytes_beq_iff x y).2 h
theorem wbeq_no {x y : ByteArray} (h : x ≠ y) : (x.toList == y.toList) = false := by
  cases hh : (x.toList == y.toList) with
  | false => rfl
  | true => exact absurd ((Lib.bytes_beq_iff x y).1 hh) h

def IntIs8 (n : Int) (w : World) (e : Ending) (w' : World) : Prop := e = .returned (.int .i64 n) ∧ Below w.heap.size w w'

set_option maxRecDepth 100000 in
set_option maxHeartbeats 8000000 in
theorem WF_any (l : List ByteArray) (v : Value) (w : World) (hr : Rd1 w v (strVals l)) (hlen : l.length ≤ 9223372036854775807) (hsz : ∀ s ∈ l, s.size ≤ 9223372036854775807) : Calls Tryd.prog 46 #[v] w (IntIs8 (chkW l) w) := by
  obtain ⟨A, cap, rfl, hcap, hcap2, hmem⟩ := str_open hr
  have HM := Lib.hid hmem
  have HSZ := Lib.hid hsz
  clear hmem hr hsz
  by_cases hbig : 20 < l.length
  · have hc : chkW l = 3 := by unfold chkW; rw [if_pos hbig]
    have d1 : decide ((20 : Int) < (l.length : Int)) = true := by simp; omega
    rw [hc]
    clear hc
    go_enter Tryd.func46, Tryd.ntmps46
    go_wp2
    go_ret
    exact ⟨rfl, Below.refl _ _⟩
  · have d1 : decide ((20 : Int) < (l.length : Int)) = false := by simp; omega
    have HC : Hid (chkW l = chkWL l 0 (l.drop 0)) := Lib.hid (by unfold chkW; rw [if_neg hbig, List.drop_zero])
    go_enter Tryd.func46, Tryd.ntmps46
    go_wp2
    go_loopw [3] (fun v3 wr => ∃ i : Nat, i ≤ l.length ∧ v3 = .int .i64 (i : Int) ∧ Hid (chkW l = chkWL l i (l.drop i)) ∧ Hid (Below w.heap.size w wr)) (fun i _ => l.length - (intOf i).toNat)
    case atStart => exact ⟨0, by omega, rfl, HC, Lib.hid (Below.refl _ _)⟩
    case round =>
      clear HC
      obtain ⟨i, hi, rfl, HD, HB⟩ := hrel
      by_cases hlt : i < l.length
      · obtain ⟨x, hx⟩ : ∃ x, l[i]? = some x := ⟨_, List.getElem?_eq_getElem hlt⟩
        obtain ⟨b, off, rfl, hbl, hcs⟩ := HM.out (by omega)
        have c1 := hcs wr (fun o => HB.out.cell (p := ⟨b, o, none⟩) hbl) i x hx
        have hxs := HSZ.out x (List.mem_of_getElem? hx)
        have HAT := Lib.hid (chkWL_at hx rfl)
        by_cases hbad : x.size = 0 ∨ 20 < x.size
        · have HV : Hid (chkW l = 5) := Lib.hid (by rw [HD.out, HAT.out, oneW_bad hbad]; rfl)
          rcases hbad with hbad | hbad
          · have e1 : decide ((x.size : Int) < 1) = true := by simp; omega
            go_wp2_with fail
            go_ret
            exact ⟨by rw [HV.out]; rfl, HB.out⟩
          · have e1 : decide ((x.size : Int) < 1) = false := by simp; omega
            have e2 : decide ((20 : Int) < (x.size : Int)) = true := by simp; omega
            go_wp2_with fail
            go_ret
            exact ⟨by rw [HV.out]; rfl, HB.out⟩
        · have e1 : decide ((x.size : Int) < 1) = false := by simp; omega
          have e2 : decide ((20 : Int) < (x.size : Int)) = false := by simp; omega
          have HBAD := Lib.hid hbad
          have HX := Lib.hid hx
          clear hbad hx
          go_wp2_with fail
          go_loopw [4] (fun v4 wx => ∃ k : Nat, k ≤ i ∧ v4 = .int .i64 (k : Int) ∧ Hid (x ∉ l.take k) ∧ Hid (Below w.heap.size w wx)) (fun k _ => i - (intOf k).toNat)
          case atStart => exact ⟨0, by omega, rfl, Lib.hid (by simp), HB⟩
          case round =>
            clear HB c1
            obtain ⟨k, hk, rfl, HNI, HB⟩ := hrel
            by_cases hki : k < i
            · obtain ⟨y, hy⟩ : ∃ y, l[k]? = some y := ⟨_, List.getElem?_eq_getElem (by omega)⟩
              have c1 := hcs wr (fun o => HB.out.cell (p := ⟨b, o, none⟩) hbl) i x HX.out
              have c2 := hcs wr (fun o => HB.out.cell (p := ⟨b, o, none⟩) hbl) k y hy
              have hk1 : (k : Int) < (i : Int) := by omega
              have hk2 : (k : Int) < (l.length : Int) := by omega
              have hi2 : (i : Int) < (l.length : Int) := by omega
              have hz : (0 : Int) ≤ (k : Int) := by omega
              have hz2 : (0 : Int) ≤ (i : Int) := by omega
              by_cases heq : y = x
              · have hb := wbeq_yes heq
                have HV : Hid (chkW l = 6) := Lib.hid (by
                  rw [HD.out, HAT.out, oneW_in HBAD.out (by rw [← heq]; exact List.mem_take_iff_getElem.2 ⟨k, by omega, (List.getElem?_eq_some_iff.1 hy).2⟩)]
                  rfl)
                clear hy heq hcs
                go_wp2_with fail
                go_quiet (fail)
                go_wp2_with fail
                go_ret
                exact ⟨by rw [HV.out]; rfl, below_drewN HB.out _⟩
              · have hb := wbeq_no heq
                have HN2 : Hid (x ∉ l.take (k + 1)) := Lib.hid (by
                  rw [List.take_add_one, hy]
                  simp only [Option.toList, List.mem_append, List.mem_singleton]
                  rintro (h | h)
                  · exact HNI.out h
                  · exact heq h.symm)
                clear hy heq hcs
                go_wp2_with fail
                go_quiet (fail)
                go_wp2_with fail
                go_roundw
                case rel => exact ⟨k + 1, by omega, by go_num, HN2, Lib.hid (below_drewN HB.out _)⟩
                case measure => simp [intOf]; omega
            · obtain rfl : k = i := by omega
              have HD2 : Hid (chkW l = chkWL l (k + 1) (l.drop (k + 1))) := Lib.hid (by rw [HD.out, HAT.out, oneW_out HBAD.out HNI.out]; rfl)
              go_wp2_with fail
              go_roundw
              case rel => exact ⟨k + 1, by omega, by go_num, HD2, HB⟩
              case measure => simp [intOf]; omega
      · obtain rfl : i = l.length := by omega
        have HV : Hid (chkW l = 0) := Lib.hid (by rw [HD.out, chkWL_end])
        go_wp2_with fail
        go_ret
        exact ⟨by rw [HV.out]; rfl, HB.out⟩
def StandsE (r : Bool) (w : World) (e : Ending) (w' : World) : Prop := e = .returned (.bool r) ∧ w = w'
theorem ext_suf {s p : ByteArray} {e : Nat} (he : e ≤ s.size) (hp : p.size ≤ e) : s.extract (e - p.size) e = p ↔ p.data.toList <:+ s.data.toList.take e := by
  have h1 : (s.extract (e - p.size) e).data.toList = (s.data.toList.take e).drop (e - p.size) := by simp [List.drop_take]
  have h2 : (s.data.toList.take e).length = e := by simp; omega
  have h3 : p.data.toList.length = p.size := by simp
  constructor
  · intro h
    rw [← h, h1]
    exact List.drop_suffix _ _
  · intro h
    have := List.suffix_iff_eq_drop.1 h
    rw [h2, h3] at this
    exact ByteArray.ext (Array.toList_inj.1 (by rw [h1, ← this]))
set_option maxRecDepth 100000 in
set_option maxHeartbeats 1000000 in
theorem Stands_e (s p : ByteArray) (e : Nat) (he : e ≤ s.size) (hs : s.size ≤ 400) (hp : p.size ≤ 20) (r : Bool) (hr : r = true ↔ p.data.toList <:+ s.data.toList.take e) (w : World) :
    Calls Tryd.prog 80 #[.string s, .int .i64 ((e : Int) - (p.size : Int)), .string p] w (StandsE r w) := by
  by_cases h : p.size ≤ e
  · obtain ⟨a, ha⟩ : ∃ a : Nat, a = e - p.size := ⟨_, rfl⟩
    have hae : (e : Int) - (p.size : Int) = (a : Int) := by omega
    rw [hae]
    have hsum : a + p.size = e := by omega
    have i0 : (0 : Int) ≤ (a : Int) := by omega
    have d0 : decide ((0 : Int) ≤ (a : Int)) = true := by simp
    have hwr : IntKind.i64.wrap ((a : Int) + (p.size : Int)) = (a : Int) + (p.size : Int) := IntWalk.i64_in _ (by omega)
    have d1 : decide ((a : Int) + (p.size : Int) ≤ (s.size : Int)) = true := by simp; omega
    have i1 : (a : Int) + (p.size : Int) ≤ (s.size : Int) := by omega
    have i2 : (a : Int) ≤ (a : Int) + (p.size : Int) := by omega
    have HR : Hid (r = true ↔ s.extract a (a + p.size) = p) := Lib.hid (by rw [hr, hsum, ha, ext_suf he h])
    clear hr hae ha hsum h he
    go_enter Tryd.func80, Tryd.ntmps80
    go_wp2
    go_ret
    refine ⟨?_, rfl⟩
    have : ((s.extract a (a + p.size)).toList == p.toList) = r := by
      rw [Bool.eq_iff_iff, Lib.bytes_beq_iff]
      exact HR.out.symm
    rw [← this]
    rfl
  · have hrf : r = false := by
      cases r with
      | false => rfl
      | true =>
        have := (hr.1 rfl).length_le
        simp at this
        omega
    subst hrf
    have d0 : decide ((0 : Int) ≤ (e : Int) - (p.size : Int)) = false := by simp; omega
    have d1 : (e : Int) - (p.size : Int) < 0 := by omega
    clear hr
    go_enter Tryd.func80, Tryd.ntmps80
    go_wp2
    go_ret
    exact ⟨rfl, rfl⟩

def WOfIs (S : List (Nat × Nat × Nat)) (w : World) (e : Ending) (w' : World) : Prop :=
  ∃ A cap, e = .returned (.slice A S.length cap) ∧ w'.ownsRow w.heap.size 141 3 (.slice A S.length cap) S.length (S.flatMap hitCells) ∧ Below w.heap.size w w'

set_option maxRecDepth 100000 in
set_option maxHeartbeats 8000000 in
theorem WOf_ok (l : List ByteArray) (lv : Value) (s : ByteArray) (w : World) (hr : Rd1 w lv (strVals l)) (hok : okW l) (hs : s.size ≤ 400) (ws : List (List UInt8)) (hws : ws = l.map (fun s => s.data.toList)) :
    Calls Tryd.prog 48 #[lv, .string s] w (WOfIs (hitsL ws s.data.toList) w) := by
  obtain ⟨i0, hi0, hz0, hz1, hz2⟩ := info_parts info_hit
  obtain ⟨hlen, hxs⟩ := words_facts hok hws
  obtain ⟨A, cap, rfl, hcap, hcap2, hmem⟩ := str_open hr
  have h20 := hok.1
  have HM := Lib.hid hmem
  have HOK := Lib.hid hok
  have HWS := Lib.hid hws
  have HLEN := Lib.hid hlen
  have HALL : Hid (docTo ws s.data.toList (s.size + 1) = hitsL ws s.data.toList) := Lib.hid (by
    rw [docTo_all (fun x hx => (hxs x hx).1)]
    unfold hitsL
    rw [show s.data.toList.length = s.size by simp])
  clear hmem hr hok hws hlen hxs
  go_enter Tryd.func48, Tryd.ntmps48
  go_wp2_with fail
  go_loopw [5, 6] (fun v5 v6 wr => ∃ (e N : Nat) (OA : Option Addr) (oc : Nat), e ≤ s.size + 1 ∧ v6 = .int .i64 (e : Int) ∧ v5 = .slice OA N oc ∧ Hid (N = (docTo ws s.data.toList e).length) ∧ Hid (wr.ownsRow w.heap.size 141 3 (.slice OA N oc) N ((docTo ws s.data.toList e).flatMap hitCells)) ∧ Hid (Below w.heap.size w wr)) (fun _ v _ => s.size + 1 - (intOf v).toNat)
  case atStart => exact ⟨0, 0, none, 0, by omega, rfl, rfl, Lib.hid (by simp [docTo]), Lib.hid (World.ownsRow_nil _ _ _ _), Lib.hid (Below.refl _ _)⟩
  case round =>
    obtain ⟨e, N, OA, oc, he, rfl, rfl, HN, HO, HB⟩ := hrel
    by_cases hle : e ≤ s.size
    · have d1 : decide ((e : Int) ≤ (s.size : Int)) = true := by simp; omega
      have HO2 : Hid (wr.ownsRow w.heap.size 141 3 (.slice OA N oc) N ((docTo ws s.data.toList e ++ hitsIn ws s.data.toList e 0).flatMap hitCells)) := Lib.hid (by simpa [hitsIn] using HO.out)
      have HN2 : Hid (N = (docTo ws s.data.toList e ++ hitsIn ws s.data.toList e 0).length) := Lib.hid (by simpa [hitsIn] using HN.out)
      clear HO HN
      go_wp2_with fail
      go_loopw [5, 7] (fun v5 v7 wx => ∃ (i N : Nat) (OA : Option Addr) (oc : Nat), i ≤ l.length ∧ v7 = .int .i64 (i : Int) ∧ v5 = .slice OA N oc ∧ Hid (N = (docTo ws s.data.toList e ++ hitsIn ws s.data.toList e i).length) ∧ Hid (wx.ownsRow w.heap.size 141 3 (.slice OA N oc) N ((docTo ws s.data.toList e ++ hitsIn ws s.data.toList e i).flatMap hitCells)) ∧ Hid (Below w.heap.size w wx)) (fun _ v _ => l.length - (intOf v).toNat)
      case atStart => exact ⟨0, N, OA, oc, by omega, rfl, rfl, HN2, HO2, HB⟩
      case round =>
        clear HN2 HO2 HB
        obtain ⟨i, N, OA, oc, hi, rfl, rfl, HN, HO, HB⟩ := hrel
        by_cases hil : i < l.length
        · obtain ⟨x, hx⟩ : ∃ x, l[i]? = some x := ⟨_, List.getElem?_eq_getElem hil⟩
          obtain ⟨b, off, rfl, hbl, hcs⟩ := HM.out (by omega)
          have c1 := hcs wr (fun o => HB.out.cell (p := ⟨b, o, none⟩) hbl) i x hx
          have hx20 := (HOK.out.2.1 x (List.mem_of_getElem? hx)).2
          have hwx : ws[i]? = some x.data.toList := by rw [HWS.out, List.getElem?_map, hx]; rfl
          have hi1 : (i : Int) < (l.length : Int) := by omega
          have hb20 : (x.size : Int) ≤ 20 := by omega
          have he400 : (e : Int) ≤ 400 := by omega
          have hN : N ≤ 9000 := by
            have q1 := docTo_len ws s.data.toList e
            have q2 := hitsIn_len ws s.data.toList e i
            have q3 : ws.length * e ≤ 20 * 400 := Nat.mul_le_mul (by rw [HLEN.out]; omega) (by omega)
            have := HN.out
            rw [List.length_append] at this
            omega
          by_cases hsuf : x.data.toList <:+ s.data.toList.take e
          · have HS := Lib.hid fun W => Stands_e s x e hle hs hx20 true (by simp [hsuf]) W
            have hxe : x.size ≤ e := by
              have := hsuf.length_le
              rw [List.length_take] at this
              have h3 : x.data.toList.length = x.size := by simp
              omega
            have HY := Lib.hid (hitsIn_yes hwx hsuf)
            have hsub : (e : Int) - (x.size : Int) = ((e - x.size : Nat) : Int) := by omega
            have HXS : Hid (x.data.toList.length = x.size) := Lib.hid (by simp)
            have hbw := HB.out.size
            rw [HXS.out] at HY
            clear hsuf hwx hx hcs
            generalize e - x.size = f at hsub HY
            simp only [hsub] at HS
            go_wp2_with (first
              | (go_at_call 80; refine (HS.out _).mono ?_; rintro en w' ⟨rfl, rfl⟩)
              | (at_builtin; refine wpList_append_lies _ rfl (.tmp 37) (.tmp 43) _ rfl w.heap.size 141 i0 _ 3 24 Tryd.underlying84 hi0 hz0 hz1 hz2 rfl (by omega) _ N _ rfl (HO.out.alloc _) ⟨wr.heap.size, 0, none⟩ 1 1 (hitCells (i, f, e)) rfl rfl (hit_news wr _ rfl i f e) (hit_one _) (by omega) (by unfold maxLen; omega) (by omega) (by simp; omega) _ rfl ?_; intro g2 cap2 w2 hown2 hgrow2 hat2 hlt2))
            have hgr : (wr.alloc (.cells #[.int .i64 (i : Int), .int .i64 (f : Int), .int .i64 (e : Int)] 141)).grownBy w2 (Value.slice OA N oc).ownBlock := hgrow2
            have hb2 : Below w.heap.size w w2 := (HB.out.alloc hbw _).grown hgr (by simp; omega) (fun q hq => (HO.out.lt q hq).1)
            go_roundw
            case rel => exact ⟨i + 1, N + 1, some ⟨g2, 0, none⟩, cap2, by omega, by go_num, rfl, Lib.hid (by rw [HY.out, ← List.append_assoc, List.length_append, ← HN.out]; rfl), Lib.hid (by rw [HY.out, ← List.append_assoc, List.flatMap_append]; simpa using hown2), Lib.hid hb2⟩
            case measure => simp [intOf]; omega
          · have HS := Lib.hid fun W => Stands_e s x e hle hs hx20 false (by simp [hsuf]) W
            have HY := Lib.hid (hitsIn_no hwx hsuf)
            clear hsuf hwx hx hcs
            go_wp2_with (go_at_call 80; refine (HS.out _).mono ?_; rintro e w' ⟨rfl, rfl⟩)
            go_roundw
            case rel => exact ⟨i + 1, N, OA, oc, by omega, by go_num, rfl, Lib.hid (by rw [HY.out]; exact HN.out), Lib.hid (by rw [HY.out]; exact HO.out), HB⟩
            case measure => simp [intOf]; omega
        · obtain rfl : i = l.length := by omega
          have HD : Hid (docTo ws s.data.toList (e + 1) = docTo ws s.data.toList e ++ hitsIn ws s.data.toList e l.length) := Lib.hid (by rw [docTo_succ, ← hitsIn_all, HLEN.out])
          go_wp2_with fail
          go_roundw
          case rel => exact ⟨e + 1, N, OA, oc, by omega, by go_num, rfl, Lib.hid (by rw [HD.out]; exact HN.out), Lib.hid (by rw [HD.out]; exact HO.out), HB⟩
          case measure => simp [intOf]; omega
    · obtain rfl : e = s.size + 1 := by omega
      have d1 : decide (((s.size + 1 : Nat) : Int) ≤ (s.size : Int)) = false := by simp; omega
      have hlt : (s.size : Int) < ((s.size + 1 : Nat) : Int) := by omega
      rw [HALL.out] at HN HO
      go_wp2_with fail
      go_ret
      exact ⟨OA, oc, by rw [HN.out]; rfl, by have := HO.out; rw [HN.out] at this; exact this, HB.out⟩
end Go.Proofs.YthcahjnniendnabDoor
