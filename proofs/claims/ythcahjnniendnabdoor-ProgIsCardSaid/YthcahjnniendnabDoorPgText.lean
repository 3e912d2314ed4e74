/-
  prog.Text: a program as a text.
-/
import Derived.Test.YthcahjnniendnabDoorGCls
import Derived.Test.YthcahjnniendnabDoorGStep
import Derived.Test.YthcahjnniendnabDoorItoa
import Derived.Test.YthcahjnniendnabDoorPv
namespace Go.Proofs.YthcahjnniendnabDoor
open Go.RowKit Wf

theorem Bld.strB {B : Nat} {l : List UInt8} {w : World} (s : ByteArray) (h : Bld B l w) (hl : l.length ≤ 1000000) (hs : s.size ≤ 1000000) :
    Calls Tryd.prog 68 #[.pointer (some ⟨B, 0, none⟩), .string s] w (fun e w' => e = .returned (.tuple #[.int .i64 s.size, .nilIface]) ∧ Bld B (l ++ s.data.toList) w' ∧ Below B w w') := by
  refine (WriteString_c B B (Lib.byteCells l) s w h (by simp [Lib.byteCells]; omega) (by have := h.lt; omega)).mono ?_
  rintro e w' ⟨h1, h2, h3⟩
  refine ⟨h1, .inr ?_, h3⟩
  have : Lib.byteCells (l ++ s.data.toList) = Lib.byteCells l ++ Lib.strCells s := by simp [Lib.byteCells, Lib.strCells]
  rw [this]; exact h2
theorem Bld.byteB {B : Nat} {l : List UInt8} {w : World} (c : Nat) (hc : c < 256) (h : Bld B l w) (hl : l.length ≤ 1000000) :
    Calls Tryd.prog 67 #[.pointer (some ⟨B, 0, none⟩), .int .u8 (c : Int)] w (fun e w' => e = .returned .nilIface ∧ Bld B (l ++ [UInt8.ofNat c]) w' ∧ Below B w w') := by
  refine (WriteByte_c B B (Lib.byteCells l) (c : Int) w h (by simp [Lib.byteCells]; omega) (by have := h.lt; omega)).mono ?_
  rintro e w' ⟨h1, h2, h3⟩
  refine ⟨h1, .inr ?_, h3⟩
  have : Lib.byteCells (l ++ [UInt8.ofNat c]) = Lib.byteCells l ++ [.int .u8 (c : Int)] := by simp [Lib.byteCells, Nat.mod_eq_of_lt hc]
  rw [this]; exact h2

/-- The writer's world: the builder and all that was there. -/
structure TEn (w0 : World) (B : Nat) (acc : List UInt8) (w : World) : Prop where
  bld : Bld B acc w
  base : w0.heap.size ≤ B
  keep : Below w0.heap.size w0 w
theorem TEn.kept {w0 w w' : World} {B : Nat} {acc : List UInt8} (h : TEn w0 B acc w) (hb : Below w.heap.size w w') : TEn w0 B acc w' := ⟨h.bld.kept hb, h.base, h.keep.trans (hb.mono h.keep.size)⟩
theorem TEn.put {w0 w w' : World} {B : Nat} {acc acc' : List UInt8} (h : TEn w0 B acc w) (hn : Bld B acc' w') (hb : Below B w w') : TEn w0 B acc' w' := ⟨hn, h.base, h.keep.trans (hb.mono h.base)⟩
theorem TEn.alloc {w0 w : World} {B : Nat} {acc : List UInt8} (h : TEn w0 B acc w) (o : Obj) : TEn w0 B acc (w.alloc o) := h.kept ((Below.refl _ _).alloc (Nat.le_refl _) o)
theorem TEn.drew {w0 w : World} {B : Nat} {acc : List UInt8} (h : TEn w0 B acc w) : TEn w0 B acc w.drew := h.kept (Below.refl _ _).drew

theorem bsz (a : Array UInt8) : (ByteArray.mk a).size = a.size := rfl
theorem TEn.str {w0 w : World} {B : Nat} {acc T : List UInt8} (h : TEn w0 B acc w) (s : ByteArray) (hT : s.data.toList = T) (hl : acc.length ≤ 500000) (hs : s.size ≤ 2499) :
    Calls Tryd.prog 68 #[.pointer (some ⟨B, 0, none⟩), .string s] w (fun e w' => e = .returned (.tuple #[.int .i64 s.size, .nilIface]) ∧ Hid (TEn w0 B (acc ++ T) w') ∧ T.length ≤ 2499) := by
  refine (Bld.strB s h.bld (by omega) (by omega)).mono ?_
  rintro e w' ⟨h1, h2, h3⟩
  rw [sz_list, hT] at hs
  rw [hT] at h2
  exact ⟨h1, Lib.hid (h.put h2 h3), hs⟩
theorem TEn.byte {w0 w : World} {B : Nat} {acc : List UInt8} (h : TEn w0 B acc w) (hl : acc.length ≤ 600000) :
    Calls Tryd.prog 67 #[.pointer (some ⟨B, 0, none⟩), .int .u8 10] w (fun e w' => e = .returned .nilIface ∧ Hid (TEn w0 B (acc ++ [10]) w')) := by
  refine (Bld.byteB 10 (by omega) h.bld (by omega)).mono ?_
  rintro e w' ⟨h1, h2, h3⟩
  exact ⟨h1, Lib.hid (h.put h2 h3)⟩

def TextIs (T : List UInt8) (w : World) (e : Ending) (w' : World) : Prop := ∃ s : ByteArray, e = .returned (.tuple #[.string s, .nilIface]) ∧ s.data.toList = T ∧ Below w.heap.size w w'
def TextNo (n : Int) (w : World) (e : Ending) (w' : World) : Prop := e = .returned (.tuple #[.string ⟨#[]⟩, errV n]) ∧ Below w.heap.size w w'

set_option maxRecDepth 100000 in
set_option maxHeartbeats 4000000 in
theorem PText_no (l : List St) (v : Value) (w : World) (hr : RdS w v l) (hlen : l.length ≤ 9223372036854775807) (hc : chkP l ≠ 0) : Calls Tryd.prog 44 #[v] w (TextNo (chkP l) w) := by
  have HC : Hid (Calls Tryd.prog 42 #[v] w (fun e w' => e = .returned (.iface 23 (.int .i64 (chkP l))) ∧ Below w.heap.size w w')) := Lib.hid ((PCheck_any l v w hr hlen).mono (by
    rintro e w' ⟨h1, h2⟩
    rw [errV_ne hc] at h1
    exact ⟨h1, h2⟩))
  have HE := Lib.hid (errV_ne hc)
  obtain ⟨A, cap, rfl, hcap, hcap2, hmem⟩ := hr.open_
  clear hmem hr hc
  unfold TextNo
  generalize chkP l = n at *
  go_enter Tryd.func44, Tryd.ntmps44
  go_wp2_with fail
  refine HC.out.mono ?_
  rintro e w1 ⟨rfl, hb1⟩
  have HB1 := Lib.hid hb1
  clear hb1
  go_wp2_with fail
  go_ret2
  exact ⟨by rw [HE.out]; rfl, HB1.out⟩

theorem cat_sp (s : ByteArray) (W : World) (h : s.size ≤ 3) : (Op.stringOp .add ⟨#[32]⟩ s).run Tryd.prog W = .ok (.string ((⟨#[32]⟩ : ByteArray) ++ s)) W :=
  run_string_add W _ _ (by decide) (by omega)
set_option maxRecDepth 100000 in
set_option maxHeartbeats 8000000 in
theorem PText_ok (l : List St) (v : Value) (w : World) (hr : RdS w v l) (hp : okP l) (hok : ∀ s ∈ l, okC s.cls) (ht : Tab10 w) : Calls Tryd.prog 44 #[v] w (TextIs (textP l) w) := by
  have HC : Hid (Calls Tryd.prog 42 #[v] w (fun e w' => e = .returned .nilIface ∧ Below w.heap.size w w')) := Lib.hid ((PCheck_any l v w hr (by have := hp.2.1; omega)).mono (by
    rintro e w' ⟨h1, h2⟩
    rw [chkP_ok.2 hp, errV_zero] at h1
    exact ⟨h1, h2⟩))
  obtain ⟨A, cap, rfl, hcap, hcap2, hmem⟩ := hr.open_
  obtain ⟨h0, h200, hst⟩ := hp
  obtain ⟨b, off, rfl, hbl, hcells⟩ := hmem h0
  have HCL := Lib.hid hcells
  have HOK := Lib.hid hok
  have HST := Lib.hid hst
  have HTAB : Hid (∀ w', Below w.heap.size w w' → Tab10 w') := Lib.hid fun w' hb => ht.below hb
  have HI : Hid (∀ (n : Nat) (W : World), n ≤ 200 → Hid (Below w.heap.size w W) → Calls Tryd.prog 76 #[.int .i64 (n : Int)] W (fun e w' => ∃ s : ByteArray, e = .returned (.string s) ∧ Hid (s.data.toList = decL n) ∧ s.size ≤ 3 ∧ Below W.heap.size W w')) := Lib.hid fun n W hn hb => (Itoa_c n (by omega) W (HTAB.out _ hb.out)).mono (by
    rintro e w' ⟨h1, h2⟩
    refine ⟨_, h1, Lib.hid rfl, ?_, h2⟩
    have := dec_len (n := n) (by omega)
    rw [sz_list]; exact this)
  have HT : Hid (∀ (c0 c1 c2 c3 : Nat) (W : World), okC (c0, c1, c2, c3) → Calls Tryd.prog 33 #[.agg #[.int .u64 (c0 : Int), .int .u64 (c1 : Int), .int .u64 (c2 : Int), .int .u64 (c3 : Int)]] W (fun e w' => ∃ s : ByteArray, e = .returned (.string s) ∧ Hid (s.data.toList = textC (c0, c1, c2, c3)) ∧ s.size ≤ 2400 ∧ Below W.heap.size W w')) := Lib.hid fun c0 c1 c2 c3 W hc => (Text_any c0 c1 c2 c3 W hc).mono (by
    rintro e w' ⟨s, h1, h2, h3⟩
    exact ⟨s, h1, Lib.hid h2, by rw [sz_list, h2]; exact textC_len _, h3⟩)
  clear hmem hr hcells hok hst ht
  unfold TextIs
  go_enter Tryd.func44, Tryd.ntmps44
  go_wp2_with fail
  refine HC.out.mono ?_
  rintro e w1 ⟨rfl, hb1⟩
  have HE1 : Hid (TEn w w1.heap.size [] (w1.alloc (.cells #[.pointer none, .slice none 0 0] 122))) := Lib.hid ⟨Bld.fresh w1, hb1.size, hb1.alloc hb1.size _⟩
  clear hb1 HC
  go_wp2_with fail
  generalize hBe : w1.heap.size = B at *
  have hB : Hid (w1.heap.size = B) := Lib.hid hBe
  clear hBe
  go_loopw [17] (fun v17 wr => ∃ (k : Nat) (acc : List UInt8), k ≤ l.length ∧ v17 = .int .i64 (k : Int) ∧ acc.length ≤ 2500 * k ∧ Hid (acc ++ textP (l.drop k) = textP l) ∧ Hid (TEn w B acc wr)) (fun i _ => l.length - (intOf i).toNat)
  case atStart => exact ⟨0, [], by omega, rfl, by simp, Lib.hid (by rw [List.drop_zero]; rfl), HE1⟩
  case round =>
    obtain ⟨k, acc, hk, rfl, hacc, HA, HE⟩ := hrel
    by_cases hlt : k < l.length
    · have hs : l[k]? = some (l[k]'hlt) := List.getElem?_eq_getElem hlt
      generalize l[k]'hlt = s at hs
      obtain ⟨q0, q1, q2, q3, q4, q5, q6⟩ := HCL.out wr (fun o => HE.out.keep.cell (p := ⟨b, o, none⟩) hbl) k s hs
      have hat := textP_at hs
      obtain ⟨hop, hx, hy, hcl, hy0, hx0⟩ := oneP_zero (HST.out s (List.mem_of_getElem? hs))
      have hokc := HOK.out s (List.mem_of_getElem? hs)
      obtain ⟨op, ⟨c0, c1, c2, c3⟩, x, y⟩ := s
      dsimp only at q0 q1 q2 q3 q4 q5 q6 hop hx hy hcl hy0 hx0 hokc hat
      have hx1 : 0 ≤ x ∧ x < 200 := by
        rcases Int.decEq op 5 with h | h
        · have := hx h; omega
        · have := hx0 h; omega
      have hy1 : 0 ≤ y ∧ y < 200 := by
        rcases Int.decEq op 2 with h | h
        · have := hy0 h; omega
        · have := hy h; omega
      obtain ⟨xn, rfl⟩ := Int.eq_ofNat_of_zero_le hx1.1
      obtain ⟨yn, rfl⟩ := Int.eq_ofNat_of_zero_le hy1.1
      have hxn : xn ≤ 200 := by omega
      have hyn : yn ≤ 200 := by omega
      obtain ⟨L, hL⟩ : ∃ L, L = headT ⟨op, (c0, c1, c2, c3), (xn : Int), (yn : Int)⟩ := ⟨_, rfl⟩
      rw [← hL] at hat
      have HL := Lib.hid hL
      have HAT := Lib.hid hat
      have HCC := Lib.hid hokc
      have HBOX := Lib.hid (Blk.new wr 77 (stCells ⟨op, (c0, c1, c2, c3), (xn : Int), (yn : Int)⟩).toArray)
      have HEA := Lib.hid (HE.out.alloc (.cells (stCells ⟨op, (c0, c1, c2, c3), (xn : Int), (yn : Int)⟩).toArray 77))
      have hk1 : (k : Int) < (l.length : Int) := by omega
      clear hL hs hat hx hy hcl hy0 hx0 hokc hx1 hy1 HE
      have HS : Hid (∀ w', Hid (TEn w B acc w' ∧ Blk w' wr.heap.size 77 (stCells ⟨op, (c0, c1, c2, c3), (xn : Int), (yn : Int)⟩).toArray) → (w'.cell? ⟨wr.heap.size, 5, none⟩ = some (.int .i64 (xn : Int)) ∧ w'.cell? ⟨wr.heap.size, 6, none⟩ = some (.int .i64 (yn : Int)) ∧ Hid (TEn w B acc w' ∧ Blk w' wr.heap.size 77 (stCells ⟨op, (c0, c1, c2, c3), (xn : Int), (yn : Int)⟩).toArray))) := Lib.hid fun w' h => ⟨h.out.2.cell 5, h.out.2.cell 6, h⟩
      have HED : Hid (TEn w B acc (wr.alloc (.cells (stCells ⟨op, (c0, c1, c2, c3), (xn : Int), (yn : Int)⟩).toArray 77)).drew ∧ Blk (wr.alloc (.cells (stCells ⟨op, (c0, c1, c2, c3), (xn : Int), (yn : Int)⟩).toArray 77)).drew wr.heap.size 77 (stCells ⟨op, (c0, c1, c2, c3), (xn : Int), (yn : Int)⟩).toArray) := Lib.hid ⟨HEA.out.drew, HBOX.out.drew⟩
      have HK : Hid (∀ W W', Hid (TEn w B acc W ∧ Blk W wr.heap.size 77 (stCells ⟨op, (c0, c1, c2, c3), (xn : Int), (yn : Int)⟩).toArray) → Below W.heap.size W W' → Hid (TEn w B acc W' ∧ Blk W' wr.heap.size 77 (stCells ⟨op, (c0, c1, c2, c3), (xn : Int), (yn : Int)⟩).toArray)) := Lib.hid fun W W' h hb => Lib.hid ⟨h.out.1.kept hb, h.out.2.kept hb⟩
      have HI2 : Hid (∀ (n : Nat) (W : World), n ≤ 200 → Hid (TEn w B acc W ∧ Blk W wr.heap.size 77 (stCells ⟨op, (c0, c1, c2, c3), (xn : Int), (yn : Int)⟩).toArray) → Calls Tryd.prog 76 #[.int .i64 (n : Int)] W (fun e w' => ∃ s : ByteArray, e = .returned (.string s) ∧ Hid (s.data.toList = decL n) ∧ s.size ≤ 3 ∧ Hid (TEn w B acc w' ∧ Blk w' wr.heap.size 77 (stCells ⟨op, (c0, c1, c2, c3), (xn : Int), (yn : Int)⟩).toArray))) := Lib.hid fun n W hn h => (HI.out n W hn (Lib.hid h.out.1.keep)).mono (by
        rintro e w' ⟨s, h1, h2, h3, h4⟩
        exact ⟨s, h1, h2, h3, HK.out _ _ h h4⟩)
      clear HEA HBOX HI
      go_wp2_with fail
      go_region_held3 (fun w' => w'.cell? ⟨wr.heap.size, 5, none⟩ = some (.int .i64 (xn : Int)) ∧ w'.cell? ⟨wr.heap.size, 6, none⟩ = some (.int .i64 (yn : Int)) ∧ Hid (TEn w B acc w' ∧ Blk w' wr.heap.size 77 (stCells ⟨op, (c0, c1, c2, c3), (xn : Int), (yn : Int)⟩).toArray))
        (exact HS.out _ (by assumption))
        (first
          | (go_at_call_of 76 (Value.int .i64 (xn : Int)); refine (HI2.out xn _ hxn (by assumption)).mono ?_; rintro e w2 ⟨sx, rfl, hsx, hzx, henx⟩; have hcsx : ¬ (9223372036854775807 < 1 + sx.size) := (by omega); have hccx : ∀ W, (Op.stringOp .add ⟨#[32]⟩ sx).run Tryd.prog W = .ok (.string ((⟨#[32]⟩ : ByteArray) ++ sx)) W := (fun W => cat_sp sx W hzx))
          | (go_at_call_of 76 (Value.int .i64 (yn : Int)); refine (HI2.out yn _ hyn (by assumption)).mono ?_; rintro e w3 ⟨sy, rfl, hsy, hzy, heny⟩; have hcsy : ¬ (9223372036854775807 < 1 + sy.size) := (by omega); have hccy : ∀ W, (Op.stringOp .add ⟨#[32]⟩ sy).run Tryd.prog W = .ok (.string ((⟨#[32]⟩ : ByteArray) ++ sy)) W := (fun W => cat_sp sy W hzy)))
      all_goals
        have HE3 := Lib.hid heny.out.1
        obtain ⟨x0, x1, x2, x3, x4⟩ : w3.cell? ⟨wr.heap.size, 0, none⟩ = some (.int .i64 op) ∧ w3.cell? ⟨wr.heap.size, 1, none⟩ = some (.int .u64 (c0 : Int)) ∧ w3.cell? ⟨wr.heap.size, 2, none⟩ = some (.int .u64 (c1 : Int)) ∧ w3.cell? ⟨wr.heap.size, 3, none⟩ = some (.int .u64 (c2 : Int)) ∧ w3.cell? ⟨wr.heap.size, 4, none⟩ = some (.int .u64 (c3 : Int)) := ⟨heny.out.2.cell 0, heny.out.2.cell 1, heny.out.2.cell 2, heny.out.2.cell 3, heny.out.2.cell 4⟩
        have hA : acc.length ≤ 500000 := by omega
        clear henx heny HED HK HI2 HS q0 q1 q2 q3 q4 q5 q6 HCL HOK HST HTAB
        rcases (show op = 1 ∨ op = 2 ∨ op = 3 ∨ op = 4 ∨ op = 5 by omega) with h | h | h | h | h
        · have d1 : (op == (1 : Int)) = true := beq_iff_eq.2 h
          have d2 : (op == (2 : Int)) = false := beq_eq_false_iff_ne.2 (by omega)
          have d3 : (op == (3 : Int)) = false := beq_eq_false_iff_ne.2 (by omega)
          have d4 : (op == (4 : Int)) = false := beq_eq_false_iff_ne.2 (by omega)
          have d5 : (op == (5 : Int)) = false := beq_eq_false_iff_ne.2 (by omega)
          have HLL : Hid (L = [116, 97, 107, 101, 32] ++ textC (c0, c1, c2, c3) ++ ([32] ++ decL (xn : Int))) := Lib.hid (by rw [HL.out]; unfold headT; dsimp only; rw [if_pos h])
          clear h HL
          go_wp2_with (first
            | (go_at_call 33; refine (HT.out c0 c1 c2 c3 _ HCC.out).mono ?_; rintro e w4 ⟨sc, rfl, hsc, hzc, hb4⟩; have HE4 := Lib.hid (HE3.out.kept hb4); clear hb4)
            | (go_at_call 68; refine (TEn.str (T := L) HE4.out _ (by rw [HLL.out]; simp only [data_app, hsc.out, hsx.out]) hA (by simp only [ByteArray.size_append, bsz, List.size_toArray, List.length_cons, List.length_nil]; omega)).mono ?_; rintro e w5 ⟨rfl, HE5, hz5⟩)
            | (go_at_call 67; refine (TEn.byte HE5.out (by simp; omega)).mono ?_; rintro e w6 ⟨rfl, HE6⟩))
          go_roundw
          case rel => exact ⟨k + 1, acc ++ L ++ [10], by omega, by go_num, (by simp; omega), Lib.hid (by rw [← HA.out, HAT.out]; simp), HE6⟩
          case measure => simp [intOf]; omega
        · have d1 : (op == (1 : Int)) = false := beq_eq_false_iff_ne.2 (by omega)
          have d2 : (op == (2 : Int)) = true := beq_iff_eq.2 h
          have d3 : (op == (3 : Int)) = false := beq_eq_false_iff_ne.2 (by omega)
          have d4 : (op == (4 : Int)) = false := beq_eq_false_iff_ne.2 (by omega)
          have d5 : (op == (5 : Int)) = false := beq_eq_false_iff_ne.2 (by omega)
          have HLL : Hid (L = [102, 111, 114, 107] ++ ([32] ++ decL (xn : Int)) ++ ([32] ++ decL (yn : Int))) := Lib.hid (by rw [HL.out]; unfold headT; dsimp only; rw [if_neg (by omega), if_pos h])
          clear h HL
          go_wp2_with (first
            | (go_at_call 68; refine (TEn.str (T := L) HE3.out _ (by rw [HLL.out]; simp only [data_app, hsx.out, hsy.out]) hA (by simp only [ByteArray.size_append, bsz, List.size_toArray, List.length_cons, List.length_nil]; omega)).mono ?_; rintro e w5 ⟨rfl, HE5, hz5⟩)
            | (go_at_call 67; refine (TEn.byte HE5.out (by simp; omega)).mono ?_; rintro e w6 ⟨rfl, HE6⟩))
          go_roundw
          case rel => exact ⟨k + 1, acc ++ L ++ [10], by omega, by go_num, (by simp; omega), Lib.hid (by rw [← HA.out, HAT.out]; simp), HE6⟩
          case measure => simp [intOf]; omega
        · have d1 : (op == (1 : Int)) = false := beq_eq_false_iff_ne.2 (by omega)
          have d2 : (op == (2 : Int)) = false := beq_eq_false_iff_ne.2 (by omega)
          have d3 : (op == (3 : Int)) = true := beq_iff_eq.2 h
          have d4 : (op == (4 : Int)) = false := beq_eq_false_iff_ne.2 (by omega)
          have d5 : (op == (5 : Int)) = false := beq_eq_false_iff_ne.2 (by omega)
          have HLL : Hid (L = [102, 105, 114, 115, 116] ++ ([32] ++ decL (xn : Int))) := Lib.hid (by rw [HL.out]; unfold headT; dsimp only; rw [if_neg (by omega), if_neg (by omega), if_pos h])
          clear h HL
          go_wp2_with (first
            | (go_at_call 68; refine (TEn.str (T := L) HE3.out _ (by rw [HLL.out]; simp only [data_app, hsx.out]) hA (by simp only [ByteArray.size_append, bsz, List.size_toArray, List.length_cons, List.length_nil]; omega)).mono ?_; rintro e w5 ⟨rfl, HE5, hz5⟩)
            | (go_at_call 67; refine (TEn.byte HE5.out (by simp; omega)).mono ?_; rintro e w6 ⟨rfl, HE6⟩))
          go_roundw
          case rel => exact ⟨k + 1, acc ++ L ++ [10], by omega, by go_num, (by simp; omega), Lib.hid (by rw [← HA.out, HAT.out]; simp), HE6⟩
          case measure => simp [intOf]; omega
        · have d1 : (op == (1 : Int)) = false := beq_eq_false_iff_ne.2 (by omega)
          have d2 : (op == (2 : Int)) = false := beq_eq_false_iff_ne.2 (by omega)
          have d3 : (op == (3 : Int)) = false := beq_eq_false_iff_ne.2 (by omega)
          have d4 : (op == (4 : Int)) = true := beq_iff_eq.2 h
          have d5 : (op == (5 : Int)) = false := beq_eq_false_iff_ne.2 (by omega)
          have HLL : Hid (L = [108, 97, 115, 116] ++ ([32] ++ decL (xn : Int))) := Lib.hid (by rw [HL.out]; unfold headT; dsimp only; rw [if_neg (by omega), if_neg (by omega), if_neg (by omega), if_pos h])
          clear h HL
          go_wp2_with (first
            | (go_at_call 68; refine (TEn.str (T := L) HE3.out _ (by rw [HLL.out]; simp only [data_app, hsx.out]) hA (by simp only [ByteArray.size_append, bsz, List.size_toArray, List.length_cons, List.length_nil]; omega)).mono ?_; rintro e w5 ⟨rfl, HE5, hz5⟩)
            | (go_at_call 67; refine (TEn.byte HE5.out (by simp; omega)).mono ?_; rintro e w6 ⟨rfl, HE6⟩))
          go_roundw
          case rel => exact ⟨k + 1, acc ++ L ++ [10], by omega, by go_num, (by simp; omega), Lib.hid (by rw [← HA.out, HAT.out]; simp), HE6⟩
          case measure => simp [intOf]; omega
        · have d1 : (op == (1 : Int)) = false := beq_eq_false_iff_ne.2 (by omega)
          have d2 : (op == (2 : Int)) = false := beq_eq_false_iff_ne.2 (by omega)
          have d3 : (op == (3 : Int)) = false := beq_eq_false_iff_ne.2 (by omega)
          have d4 : (op == (4 : Int)) = false := beq_eq_false_iff_ne.2 (by omega)
          have d5 : (op == (5 : Int)) = true := beq_iff_eq.2 h
          have HLL : Hid (L = [100, 111, 110, 101]) := Lib.hid (by rw [HL.out]; unfold headT; dsimp only; rw [if_neg (by omega), if_neg (by omega), if_neg (by omega), if_neg (by omega)])
          clear h HL
          go_wp2_with (first
            | (go_at_call 68; refine (TEn.str (T := L) HE3.out _ (by rw [HLL.out]) hA (by simp only [ByteArray.size_append, bsz, List.size_toArray, List.length_cons, List.length_nil]; omega)).mono ?_; rintro e w5 ⟨rfl, HE5, hz5⟩)
            | (go_at_call 67; refine (TEn.byte HE5.out (by simp; omega)).mono ?_; rintro e w6 ⟨rfl, HE6⟩))
          go_roundw
          case rel => exact ⟨k + 1, acc ++ L ++ [10], by omega, by go_num, (by simp; omega), Lib.hid (by rw [← HA.out, HAT.out]; simp), HE6⟩
          case measure => simp [intOf]; omega
    · obtain rfl : k = l.length := by omega
      have d4 : decide (l.length < l.length) = false := by simp
      have HA' : Hid (acc = textP l) := Lib.hid (by rw [← HA.out, textP_end, List.append_nil])
      clear HA
      go_wp2_with (go_at_call 70; refine (Bld.text HE.out.bld).mono ?_; rintro e w6 ⟨rfl, hb6⟩; have HE6 : Hid (Below w.heap.size w w6) := Lib.hid (HE.out.keep.trans (hb6.mono HE.out.base)); clear hb6)
      go_ret2
      exact ⟨_, rfl, HA'.out, HE6.out⟩
end Go.Proofs.YthcahjnniendnabDoor
