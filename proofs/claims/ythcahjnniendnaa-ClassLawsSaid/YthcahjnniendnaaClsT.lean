/-
  The walk of class.Text: the text of a class.
-/
import Derived.Test.YthcahjnniendnaaClsD
namespace Go.Proofs.Ythcahjnniendnaa
open Go.RowKit Wf

/-- A builder of this program's, holding these bytes. -/
def Bld (B : Nat) (l : List UInt8) (w : World) : Prop := Lib.IsBuilder 89 5 B B (Lib.byteCells l) w
theorem Bld.kept {B : Nat} {l : List UInt8} {w w' : World} (h : Bld B l w) (hb : Below w.heap.size w w') : Bld B l w' := by
  have hg : w.grownBy w' none := ⟨hb.os, hb.tape, hb.output, hb.size, fun i hi _ => hb.block i hi⟩
  have key : ∀ p, Lib.BuilderAt 89 5 B B p (Lib.byteCells l) w → Lib.BuilderAt 89 5 B B p (Lib.byteCells l) w' := by
    rintro p ⟨h1, v, h2, h3, h4⟩
    exact ⟨h1, v, (hb.block B (Array.getElem?_eq_some_iff.1 h2).1).trans h2, h3.kept hg (by cases hv : v.ownBlock <;> simp), h4⟩
  exact h.elim (fun h => .inl (key _ h)) (fun h => .inr (key _ h))
theorem Bld.lt {B : Nat} {l : List UInt8} {w : World} (h : Bld B l w) : B < w.heap.size := h.elim (fun h => h.lt) (fun h => h.lt)
theorem Bld.fresh (w : World) : Bld w.heap.size [] (w.alloc (.cells #[.pointer none, .slice none 0 0] 89)) := Lib.fresh_isBuilder _ _ _
theorem Bld.byte {B : Nat} {l : List UInt8} {w : World} (c : Nat) (hc : c < 256) (h : Bld B l w) (hl : l.length < 100000) :
    Calls Try.prog 47 #[.pointer (some ⟨B, 0, none⟩), .int .u8 (c : Int)] w (fun e w' => e = .returned .nilIface ∧ Bld B (l ++ [UInt8.ofNat c]) w' ∧ Below B w w') := by
  refine (WriteByte_c B B (Lib.byteCells l) (c : Int) w h (by simp [Lib.byteCells]; omega) (by have := h.lt; omega)).mono ?_
  rintro e w' ⟨h1, h2, h3⟩
  refine ⟨h1, .inr ?_, h3⟩
  have : Lib.byteCells (l ++ [UInt8.ofNat c]) = Lib.byteCells l ++ [.int .u8 (c : Int)] := by simp [Lib.byteCells, Nat.mod_eq_of_lt hc]
  rw [this]; exact h2
theorem Bld.str {B : Nat} {l : List UInt8} {w : World} (s : ByteArray) (h : Bld B l w) (hl : l.length < 100000) (hs : s.size < 100000) :
    Calls Try.prog 49 #[.pointer (some ⟨B, 0, none⟩), .string s] w (fun e w' => e = .returned (.tuple #[.int .i64 s.size, .nilIface]) ∧ Bld B (l ++ s.data.toList) w' ∧ Below B w w') := by
  refine (WriteString_c B B (Lib.byteCells l) s w h (by simp [Lib.byteCells]; omega) (by have := h.lt; omega)).mono ?_
  rintro e w' ⟨h1, h2, h3⟩
  refine ⟨h1, .inr ?_, h3⟩
  have : Lib.byteCells (l ++ s.data.toList) = Lib.byteCells l ++ Lib.strCells s := by simp [Lib.byteCells, Lib.strCells]
  rw [this]; exact h2
theorem Bld.text {B : Nat} {l : List UInt8} {w : World} (h : Bld B l w) :
    Calls Try.prog 51 #[.pointer (some ⟨B, 0, none⟩)] w (fun e w' => e = .returned (.string ⟨l.toArray⟩) ∧ Below B w w') := BString_c B B l w h (by have := h.lt; omega)

/-- The world beside a walk that holds a class in a block of its own. -/
def CEnv (w : World) (c0 c1 c2 c3 : Nat) (w' : World) : Prop := Blk w' w.heap.size 32 #[.int .u64 (c0 : Int), .int .u64 (c1 : Int), .int .u64 (c2 : Int), .int .u64 (c3 : Int)] ∧ Below w.heap.size w w'
theorem CEnv.new (w : World) (c0 c1 c2 c3 : Nat) : CEnv w c0 c1 c2 c3 (w.alloc (.cells #[.int .u64 (c0 : Int), .int .u64 (c1 : Int), .int .u64 (c2 : Int), .int .u64 (c3 : Int)] 32)) := ⟨Blk.new _ _ _, (Below.refl _ _).alloc (Nat.le_refl _) _⟩
theorem CEnv.kept {w w1 w2 : World} {c0 c1 c2 c3 : Nat} (h : CEnv w c0 c1 c2 c3 w1) (hb : Below w1.heap.size w1 w2) : CEnv w c0 c1 c2 c3 w2 := ⟨h.1.kept hb, h.2.trans (hb.mono h.2.size)⟩
theorem CEnv.below {w w1 w2 : World} {c0 c1 c2 c3 B : Nat} (h : CEnv w c0 c1 c2 c3 w1) (hB : w.heap.size < B) (hb : Below B w1 w2) : CEnv w c0 c1 c2 c3 w2 := ⟨h.1.below hb hB, h.2.trans (hb.mono (by omega))⟩
theorem CEnv.cells {w w1 : World} {c0 c1 c2 c3 : Nat} (h : CEnv w c0 c1 c2 c3 w1) :
    w1.cell? ⟨w.heap.size, 0, none⟩ = some (.int .u64 (c0 : Int)) ∧ w1.cell? ⟨w.heap.size, 1, none⟩ = some (.int .u64 (c1 : Int)) ∧ w1.cell? ⟨w.heap.size, 2, none⟩ = some (.int .u64 (c2 : Int)) ∧ w1.cell? ⟨w.heap.size, 3, none⟩ = some (.int .u64 (c3 : Int)) := (Blk4 h.1).1

theorem Has_yes (c0 c1 c2 c3 b : Nat) (w : World) (r : Bool) (hok : okC (c0, c1, c2, c3)) (hb : b < 256) (h : has (c0, c1, c2, c3) b = r) :
    Calls Try.prog 48 #[.agg #[.int .u64 (c0 : Int), .int .u64 (c1 : Int), .int .u64 (c2 : Int), .int .u64 (c3 : Int)], .int .u8 (b : Int)] w (fun e w' => e = .returned (.bool r) ∧ Below w.heap.size w w') := by
  refine (Has_any c0 c1 c2 c3 b w hok hb).mono ?_
  rintro e w' ⟨h1, h2⟩
  exact ⟨by rw [h1, h], h2⟩

set_option maxRecDepth 100000 in
set_option maxHeartbeats 4000000 in
theorem Text_one (c0 c1 c2 c3 : Nat) (w : World) (hok : okC (c0, c1, c2, c3)) (h1 : cnt (c0, c1, c2, c3) = 1) :
    Calls Try.prog 16 #[.agg #[.int .u64 (c0 : Int), .int .u64 (c1 : Int), .int .u64 (c2 : Int), .int .u64 (c3 : Int)]] w (StrIs (textC (c0, c1, c2, c3)) w) := by
  have HT : Hid (textC (c0, c1, c2, c3) = byteT (least (c0, c1, c2, c3) 0)) := Lib.hid (by unfold textC; rw [if_pos h1])
  have hg := (cnt_one_least h1).1
  have HO : Hid (∀ W, Calls Try.prog 44 #[.agg #[.int .u64 (c0 : Int), .int .u64 (c1 : Int), .int .u64 (c2 : Int), .int .u64 (c3 : Int)]] W (fun e w' => ∃ g : Nat, e = .returned (.tuple #[.int .u8 (g : Int), .bool true]) ∧ g = least (c0, c1, c2, c3) 0 ∧ g < 256 ∧ Below W.heap.size W w')) := Lib.hid fun W =>
    (Only_any c0 c1 c2 c3 W hok).mono (by
      rintro e w' (⟨b, e1, e2, e3, e4, e5⟩ | ⟨_, h, _⟩)
      · exact ⟨b, e1, e3, e4, e5⟩
      · exact absurd h1 h)
  have HE := Lib.hid (CEnv.new w c0 c1 c2 c3)
  clear h1 hok hg
  go_enter Try.func16, Try.ntmps16
  go_wp2_with (first
    | (go_at_call 44; refine (HO.out _).mono ?_; rintro e w1 ⟨g, rfl, hg, hlt, hb1⟩; have HG := Lib.hid hg; have HE1 := Lib.hid (HE.out.kept hb1); clear hg hb1)
    | (go_at_call 45; refine (Byte_any g _ hlt).mono ?_; rintro e w2 ⟨s, rfl, hs, hb2⟩; have HS := Lib.hid hs; have HE2 := Lib.hid (HE1.out.kept hb2); clear hs hb2))
  go_ret
  exact ⟨s, rfl, by rw [HS.out, HT.out, HG.out], HE2.out.2⟩

theorem Only_no (c0 c1 c2 c3 : Nat) (w : World) (hok : okC (c0, c1, c2, c3)) (h1 : cnt (c0, c1, c2, c3) ≠ 1) :
    Calls Try.prog 44 #[.agg #[.int .u64 (c0 : Int), .int .u64 (c1 : Int), .int .u64 (c2 : Int), .int .u64 (c3 : Int)]] w (fun e w' => e = .returned (.tuple #[.int .u8 0, .bool false]) ∧ Below w.heap.size w w') :=
  (Only_any c0 c1 c2 c3 w hok).mono (by
    rintro e w' (⟨b, e1, e2, e3, e4, e5⟩ | ⟨h, _, h'⟩)
    · exact absurd e2 h1
    · exact ⟨h, h'⟩)

/-- The class against the dot: the comparison's answer. -/
theorem Dot_cmp (c0 c1 c2 c3 : Nat) (r : Bool) (hr : r = true ↔ (c0, c1, c2, c3) = dotC) (w w1 : World) (h : CEnv w c0 c1 c2 c3 w1) :
    Calls Try.prog 46 #[] w1 (fun e w' => ∃ d0 d1 d2 d3 : Nat, e = .returned (.agg #[.int .u64 (d0 : Int), .int .u64 (d1 : Int), .int .u64 (d2 : Int), .int .u64 (d3 : Int)]) ∧ cls4 c0 c1 c2 c3 d0 d1 d2 d3 = r ∧ Hid (CEnv w c0 c1 c2 c3 w')) := by
  refine (Dot_any w1).mono ?_
  rintro e w' ⟨d0, d1, d2, d3, h1, h2, h3⟩
  refine ⟨d0, d1, d2, d3, h1, ?_, Lib.hid (h.kept h3)⟩
  rw [Bool.eq_iff_iff, hr, cls4_iff, h2]

set_option maxRecDepth 100000 in
set_option maxHeartbeats 8000000 in
theorem Text_many (c0 c1 c2 c3 : Nat) (w : World) (hok : okC (c0, c1, c2, c3)) (h1 : cnt (c0, c1, c2, c3) ≠ 1) (hdot : (c0, c1, c2, c3) ≠ dotC) :
    Calls Try.prog 16 #[.agg #[.int .u64 (c0 : Int), .int .u64 (c1 : Int), .int .u64 (c2 : Int), .int .u64 (c3 : Int)]] w (StrIs (textC (c0, c1, c2, c3)) w) := by
  have HT : Hid (textC (c0, c1, c2, c3) = 91 :: (runsT (c0, c1, c2, c3) 0 ++ [93])) := Lib.hid (by unfold textC; rw [if_neg h1, if_neg hdot])
  have HO := Lib.hid fun W => Only_no c0 c1 c2 c3 W hok h1
  have HD := Lib.hid fun w1 h => Dot_cmp c0 c1 c2 c3 false (by simpa using hdot) w w1 (Hid.out h)
  have HH := Lib.hid fun b W r hb h => Has_yes c0 c1 c2 c3 b W r hok hb h
  have HE := Lib.hid (CEnv.new w c0 c1 c2 c3)
  have hS : ∀ w', Hid (CEnv w c0 c1 c2 c3 w') → (w'.cell? ⟨w.heap.size, 0, none⟩ = some (.int .u64 (c0 : Int)) ∧ w'.cell? ⟨w.heap.size, 1, none⟩ = some (.int .u64 (c1 : Int)) ∧ w'.cell? ⟨w.heap.size, 2, none⟩ = some (.int .u64 (c2 : Int)) ∧ w'.cell? ⟨w.heap.size, 3, none⟩ = some (.int .u64 (c3 : Int)) ∧ Hid (CEnv w c0 c1 c2 c3 w')) := fun w' h =>
    ⟨h.out.cells.1, h.out.cells.2.1, h.out.cells.2.2.1, h.out.cells.2.2.2, h⟩
  have HS := Lib.hid hS
  clear h1 hdot hok hS
  go_enter Try.func16, Try.ntmps16
  go_wp2_with (go_at_call 44; refine (HO.out _).mono ?_; rintro e w1 ⟨rfl, hb1⟩; have HE1 := Lib.hid (HE.out.kept hb1); clear hb1 HO HE; obtain ⟨x0, x1, x2, x3⟩ := HE1.out.cells)
  have HED : Hid (CEnv w c0 c1 c2 c3 w1.drew) := Lib.hid (HE1.out.kept (Below.refl _ _).drew)
  go_region_held3 (fun w' => w'.cell? ⟨w.heap.size, 0, none⟩ = some (.int .u64 (c0 : Int)) ∧ w'.cell? ⟨w.heap.size, 1, none⟩ = some (.int .u64 (c1 : Int)) ∧ w'.cell? ⟨w.heap.size, 2, none⟩ = some (.int .u64 (c2 : Int)) ∧ w'.cell? ⟨w.heap.size, 3, none⟩ = some (.int .u64 (c3 : Int)) ∧ Hid (CEnv w c0 c1 c2 c3 w'))
    (exact HS.out _ (by assumption))
    (first | (go_at_call 46; refine (HD.out _ (by assumption)).mono ?_; rintro e w2 ⟨d0, d1, d2, d3, rfl, hcmp, henv⟩))
  have hltB := henv.out.1.lt
  have HF := Lib.hid (Bld.fresh w2)
  have HE3 := Lib.hid (henv.out.kept ((Below.refl _ w2).alloc (Nat.le_refl _) (.cells #[.pointer none, .slice none 0 0] 89)))
  clear henv HE1 HED HD x0 x1 x2 x3
  go_wp2_with (go_at_call 47; refine (Bld.byte 91 (by omega) HF.out (by simp)).mono ?_; rintro e w3 ⟨rfl, hbl3, hb3⟩; have HF3 := Lib.hid hbl3; have HE4 := Lib.hid (HE3.out.below hltB hb3); clear hbl3 hb3 HF HE3)
  go_loopw [6] (fun v6 wr => ∃ (k : Nat) (acc : List UInt8), k ≤ 256 ∧ v6 = .int .i64 (k : Int) ∧ acc.length ≤ 9 * k ∧ Hid (acc ++ runsT (c0, c1, c2, c3) k = runsT (c0, c1, c2, c3) 0) ∧ Hid (Bld w2.heap.size (91 :: acc) wr) ∧ Hid (CEnv w c0 c1 c2 c3 wr)) (fun i _ => 256 - (intOf i).toNat)
  case atStart => exact ⟨0, [], by omega, rfl, by simp, Lib.hid rfl, HF3, HE4⟩
  case round =>
    obtain ⟨k, acc, hk, rfl, hal, HA, HB, HC⟩ := hrel
    by_cases hlt : k < 256
    · obtain ⟨x0, x1, x2, x3⟩ := HC.out.cells
      have i1 : (0 : Int) ≤ (k : Int) := by omega
      have i2 : (k : Int) < 256 := by omega
      by_cases hhas : has (c0, c1, c2, c3) k = true
      · have HX := Lib.hid hhas
        clear hhas
        go_wp2_with (go_at_call 48; refine (HH.out k _ true hlt HX.out).mono ?_; rintro e w4 ⟨rfl, hb4⟩; have HB4 := Lib.hid (HB.out.kept hb4); have HC4 := Lib.hid (HC.out.kept hb4); clear hb4 HB HC x0 x1 x2 x3)
        go_loopw [6] (fun v6 wx => ∃ m : Nat, k ≤ m ∧ m ≤ 255 ∧ v6 = .int .i64 (m : Int) ∧ Hid (top (c0, c1, c2, c3) m = top (c0, c1, c2, c3) k) ∧ Hid (Bld w2.heap.size (91 :: acc) wx) ∧ Hid (CEnv w c0 c1 c2 c3 wx)) (fun i _ => 255 - (intOf i).toNat)
        case atStart => exact ⟨k, by omega, by omega, rfl, Lib.hid rfl, HB4, HC4⟩
        case round =>
          obtain ⟨m, hkm, hm, rfl, HTOP, HB5, HC5⟩ := hrel
          obtain ⟨x0, x1, x2, x3⟩ := HC5.out.cells
          have j1 : (0 : Int) ≤ (m : Int) := by omega
          have j2 : (m : Int) < 256 := by omega
          have HRUN := Lib.hid fun W => run_any k m W hkm (by omega)
          have hsp := spT_len k m
          have HFIN : top (c0, c1, c2, c3) m = m → Hid ((acc ++ spT k m) ++ runsT (c0, c1, c2, c3) (m + 1) = runsT (c0, c1, c2, c3) 0) := fun h => Lib.hid (by
            rw [← HA.out, runsT_yes hlt HX.out, ← HTOP.out, h, List.append_assoc])
          have hlenN : (acc ++ spT k m).length ≤ 9 * (m + 1) := by rw [List.length_append]; omega
          have hlen91 : (91 :: acc).length < 100000 := by simp; omega
          by_cases hgo : m < 255
          · have j3 : (m : Int) < 255 := by omega
            cases hnx : has (c0, c1, c2, c3) (m + 1) with
            | true =>
              have HN := Lib.hid hnx
              have HT2 := Lib.hid (top_yes hgo hnx)
              clear hnx hsp hlenN
              go_wp2_with (go_at_call 48; refine (HH.out (m + 1) _ true (by omega) HN.out).mono ?_; rintro e w6 ⟨rfl, hb6⟩)
              go_roundw
              case rel => exact ⟨m + 1, by omega, by omega, by go_num, Lib.hid (by rw [← HT2.out, HTOP.out]), Lib.hid (HB5.out.kept hb6), Lib.hid (HC5.out.kept hb6)⟩
              case measure => simp [intOf]; omega
            | false =>
              have HN := Lib.hid hnx
              have HFN := HFIN (top_no (by simp [hnx]))
              clear hnx HFIN
              go_wp2_with (first
                | (go_at_call 48; refine (HH.out (m + 1) _ false (by omega) HN.out).mono ?_; rintro e w6 ⟨rfl, hb6⟩; have HB6 := Lib.hid (HB5.out.kept hb6); have HC6 := Lib.hid (HC5.out.kept hb6); clear hb6)
                | (go_at_call 50; refine (HRUN.out _).mono ?_; rintro e w7 ⟨s, rfl, hs, hb7⟩; have hsz : s.size < 100000 := (by rw [sz_list, hs]; omega); have HSS := Lib.hid hs; have HB7 := Lib.hid (HB6.out.kept hb7); have HC7 := Lib.hid (HC6.out.kept hb7); clear hs hb7)
                | (go_at_call 49; refine (Bld.str s HB7.out hlen91 hsz).mono ?_; rintro e w8 ⟨rfl, hb8, hbb8⟩; have HB8 := Lib.hid hb8; have HC8 := Lib.hid (HC7.out.below hltB hbb8); clear hb8 hbb8))
              go_roundw
              case rel => exact ⟨m + 1, acc ++ spT k m, by omega, by go_num, hlenN, HFN, Lib.hid (by rw [← HSS.out]; exact HB8.out), HC8⟩
              case measure => simp [intOf]; omega
          · obtain rfl : m = 255 := by omega
            have HFN := HFIN (top_no (by omega))
            clear HFIN
            go_wp2_with (first
              | (go_at_call 50; refine (HRUN.out _).mono ?_; rintro e w7 ⟨s, rfl, hs, hb7⟩; have hsz : s.size < 100000 := (by rw [sz_list, hs]; omega); have HSS := Lib.hid hs; have HB7 := Lib.hid (HB5.out.kept hb7); have HC7 := Lib.hid (HC5.out.kept hb7); clear hs hb7)
              | (go_at_call 49; refine (Bld.str s HB7.out hlen91 hsz).mono ?_; rintro e w8 ⟨rfl, hb8, hbb8⟩; have HB8 := Lib.hid hb8; have HC8 := Lib.hid (HC7.out.below hltB hbb8); clear hb8 hbb8))
            go_roundw
            case rel => exact ⟨256, acc ++ spT k 255, by omega, by go_num, hlenN, HFN, Lib.hid (by rw [← HSS.out]; exact HB8.out), HC8⟩
            case measure => simp [intOf]; omega
      · have HX : Hid (has (c0, c1, c2, c3) k = false) := Lib.hid (by simpa using hhas)
        clear hhas
        go_wp2_with (go_at_call 48; refine (HH.out k _ false hlt HX.out).mono ?_; rintro e w4 ⟨rfl, hb4⟩; have HB4 := Lib.hid (HB.out.kept hb4); have HC4 := Lib.hid (HC.out.kept hb4); clear hb4)
        go_roundw
        case rel => exact ⟨k + 1, acc, by omega, by go_num, by omega, Lib.hid (by rw [← HA.out, runsT_no hlt HX.out]), HB4, HC4⟩
        case measure => simp [intOf]; omega
    · obtain rfl : k = 256 := by omega
      have hd : decide ((256 : Int) < 256) = false := by simp
      have HA' : Hid (acc = runsT (c0, c1, c2, c3) 0) := Lib.hid (by rw [← HA.out, runsT_end (Nat.le_refl _), List.append_nil])
      have hlen91 : (91 :: acc).length < 100000 := by simp; omega
      clear HA
      go_wp2_with (first
        | (go_at_call 47; refine (Bld.byte 93 (by omega) HB.out hlen91).mono ?_; rintro e w5 ⟨rfl, hbl5, hb5⟩; have HB5 := Lib.hid hbl5; have HC5 := Lib.hid (HC.out.below hltB hb5); clear hbl5 hb5 HB HC)
        | (go_at_call 51; refine (Bld.text HB5.out).mono ?_; rintro e w6 ⟨rfl, hb6⟩; have HC6 := Lib.hid (HC5.out.below hltB hb6); clear hb6))
      go_ret
      exact ⟨_, rfl, by rw [HT.out, ← HA'.out], HC6.out.2⟩

set_option maxRecDepth 100000 in
set_option maxHeartbeats 8000000 in
theorem Text_dot (c0 c1 c2 c3 : Nat) (w : World) (hok : okC (c0, c1, c2, c3)) (h1 : cnt (c0, c1, c2, c3) ≠ 1) (hdot : (c0, c1, c2, c3) = dotC) :
    Calls Try.prog 16 #[.agg #[.int .u64 (c0 : Int), .int .u64 (c1 : Int), .int .u64 (c2 : Int), .int .u64 (c3 : Int)]] w (StrIs (textC (c0, c1, c2, c3)) w) := by
  have HT : Hid (textC (c0, c1, c2, c3) = [46]) := Lib.hid (by unfold textC; rw [if_neg h1, if_pos hdot])
  have HO := Lib.hid fun W => Only_no c0 c1 c2 c3 W hok h1
  have HD := Lib.hid fun w1 h => Dot_cmp c0 c1 c2 c3 true (by simpa using hdot) w w1 (Hid.out h)
  have HE := Lib.hid (CEnv.new w c0 c1 c2 c3)
  have hS : ∀ w', Hid (CEnv w c0 c1 c2 c3 w') → (w'.cell? ⟨w.heap.size, 0, none⟩ = some (.int .u64 (c0 : Int)) ∧ w'.cell? ⟨w.heap.size, 1, none⟩ = some (.int .u64 (c1 : Int)) ∧ w'.cell? ⟨w.heap.size, 2, none⟩ = some (.int .u64 (c2 : Int)) ∧ w'.cell? ⟨w.heap.size, 3, none⟩ = some (.int .u64 (c3 : Int)) ∧ Hid (CEnv w c0 c1 c2 c3 w')) := fun w' h =>
    ⟨h.out.cells.1, h.out.cells.2.1, h.out.cells.2.2.1, h.out.cells.2.2.2, h⟩
  have HS := Lib.hid hS
  clear h1 hdot hok hS
  go_enter Try.func16, Try.ntmps16
  go_wp2_with (go_at_call 44; refine (HO.out _).mono ?_; rintro e w1 ⟨rfl, hb1⟩; have HE1 := Lib.hid (HE.out.kept hb1); clear hb1 HO HE; obtain ⟨x0, x1, x2, x3⟩ := HE1.out.cells)
  have HED : Hid (CEnv w c0 c1 c2 c3 w1.drew) := Lib.hid (HE1.out.kept (Below.refl _ _).drew)
  go_region_held3 (fun w' => w'.cell? ⟨w.heap.size, 0, none⟩ = some (.int .u64 (c0 : Int)) ∧ w'.cell? ⟨w.heap.size, 1, none⟩ = some (.int .u64 (c1 : Int)) ∧ w'.cell? ⟨w.heap.size, 2, none⟩ = some (.int .u64 (c2 : Int)) ∧ w'.cell? ⟨w.heap.size, 3, none⟩ = some (.int .u64 (c3 : Int)) ∧ Hid (CEnv w c0 c1 c2 c3 w'))
    (exact HS.out _ (by assumption))
    (first | (go_at_call 46; refine (HD.out _ (by assumption)).mono ?_; rintro e w2 ⟨d0, d1, d2, d3, rfl, hcmp, henv⟩))
  go_wp2_with fail
  go_ret
  exact ⟨_, rfl, by rw [HT.out], henv.out.2⟩

theorem Text_any (c0 c1 c2 c3 : Nat) (w : World) (hok : okC (c0, c1, c2, c3)) :
    Calls Try.prog 16 #[.agg #[.int .u64 (c0 : Int), .int .u64 (c1 : Int), .int .u64 (c2 : Int), .int .u64 (c3 : Int)]] w (StrIs (textC (c0, c1, c2, c3)) w) := by
  by_cases h1 : cnt (c0, c1, c2, c3) = 1
  · exact Text_one c0 c1 c2 c3 w hok h1
  · by_cases h2 : (c0, c1, c2, c3) = dotC
    · exact Text_dot c0 c1 c2 c3 w hok h1 h2
    · exact Text_many c0 c1 c2 c3 w hok h1 h2

end Go.Proofs.Ythcahjnniendnaa
