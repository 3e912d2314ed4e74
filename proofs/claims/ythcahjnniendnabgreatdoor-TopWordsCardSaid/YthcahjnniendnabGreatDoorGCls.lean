/-
  ClsC, ClsB, ClsD.
-/
import Derived.Test.YthcahjnniendnabGreatDoorClsA
import Derived.Test.YthcahjnniendnabGreatDoorGPl
import Derived.Test.YthcahjnniendnabGreatDoorShelf
import Derived.BigQuiet
import Derived.Laws.Runes
/-
  Walks of package class: how many bytes (with the library's count of set bits), the only byte, the text of a byte and of a run.
-/
namespace Go.Proofs.YthcahjnniendnabGreatDoor
open Go.RowKit Wf

theorem Blk.new2 (w : World) (o : Obj) (t : TypeId) (cs : Array Value) : Blk ((w.alloc o).alloc (.cells cs t)) (w.heap.size + 1) t cs := by
  have h := Blk.new (w.alloc o) t cs
  simpa using h
theorem Blk.new3 (w : World) (o o' : Obj) (t : TypeId) (cs : Array Value) : Blk (((w.alloc o).alloc o').alloc (.cells cs t)) (w.heap.size + 1 + 1) t cs := by
  have h := Blk.new ((w.alloc o).alloc o') t cs
  simpa using h
theorem below2 (w : World) (o o' : Obj) : Below w.heap.size w ((w.alloc o).alloc o') := ((Below.refl _ _).alloc (Nat.le_refl _) _).alloc (by simp) _
theorem below3 (w : World) (o o' o'' : Obj) : Below w.heap.size w (((w.alloc o).alloc o').alloc o'') := (below2 w o o').alloc (by simp; omega) _
theorem size2 (w : World) (o o' : Obj) : w.heap.size ≤ ((w.alloc o).alloc o').heap.size := by simp; omega
theorem size3 (w : World) (o o' o'' : Obj) : w.heap.size ≤ (((w.alloc o).alloc o').alloc o'').heap.size := by simp; omega
theorem below_set4 {w w' : World} {g : Nat} (h : Below w.heap.size w w') (hg : w.heap.size ≤ g) (a b c d : Value) : Below w.heap.size w ((((w'.setCell ⟨g, 0, none⟩ a).setCell ⟨g, 1, none⟩ b).setCell ⟨g, 2, none⟩ c).setCell ⟨g, 3, none⟩ d) :=
  (((h.setCell hg _).setCell hg _).setCell hg _).setCell hg _

theorem and_85 (a : Nat) (ha : a < 18446744073709551616) : bits .and .u64 (a : Int) 6148914691236517205 = ((a &&& 6148914691236517205 : Nat) : Int) := u64_and_nat a 6148914691236517205 ha (by decide)
theorem and_51 (a : Nat) (ha : a < 18446744073709551616) : bits .and .u64 (a : Int) 3689348814741910323 = ((a &&& 3689348814741910323 : Nat) : Int) := u64_and_nat a 3689348814741910323 ha (by decide)
theorem and_15 (a : Nat) (ha : a < 18446744073709551616) : bits .and .u64 (a : Int) 1085102592571150095 = ((a &&& 1085102592571150095 : Nat) : Int) := u64_and_nat a 1085102592571150095 ha (by decide)
theorem w64 {a : Int} {n : Nat} (h : a = (n : Int)) (hn : n < 18446744073709551616) : IntKind.u64.wrap a = (n : Int) := by
  rw [IntKind.wrap_u64, h]; omega
theorem and127 {x p : Nat} (h : x % 128 = p) (hx : x < 18446744073709551616) : bits .and .i64 (wrap64 (x : Int)) 127 = (p : Int) := by
  rw [i64_and127, wrap64]; omega
theorem half_cast (x : Nat) : ((x : Int) / 2) = ((x / 2 : Nat) : Int) := by omega
theorem quart_cast (x : Nat) : ((x : Int) / 4) = ((x / 4 : Nat) : Int) := by omega
theorem sh_cast {x y k : Nat} (h : y = x + x / k) : (x : Int) + (x : Int) / (k : Int) = (y : Int) := by
  rw [h]; simp
theorem sh16_cast (x : Nat) : (x : Int) / 16 + (x : Int) = ((x / 16 + x : Nat) : Int) := by omega

def NatIs (n : Nat) (w : World) (e : Ending) (w' : World) : Prop := ∃ m : Nat, e = .returned (.int .i64 (m : Int)) ∧ m = n ∧ Below w.heap.size w w'

def cntTo (c : Cls) : Nat → Nat
  | 0 => 0
  | k + 1 => cntTo c k + popN 64 (word c k)
theorem cntTo_le (c : Cls) (k : Nat) : cntTo c k ≤ 64 * k := by
  induction k with
  | zero => simp [cntTo]
  | succ k ih => simp only [cntTo]; have := popN_le 64 (word c k); omega
theorem run_idx (c0 c1 c2 c3 k : Nat) (w : World) (hk : k < 4) : (Instr.index 41 (.agg #[.int .u64 (c0 : Int), .int .u64 (c1 : Int), .int .u64 (c2 : Int), .int .u64 (c3 : Int)]) (.int .i64 (k : Int))).run Tryz.prog w = .ok (.int .u64 (word (c0, c1, c2, c3) k : Int)) w := by
  match k, hk with
  | 0, _ => simp [Instr.index, asIntOf, run_underlying Tryz.underlying41, go_sem, word]
  | 1, _ => simp [Instr.index, asIntOf, run_underlying Tryz.underlying41, go_sem, word]
  | 2, _ => simp [Instr.index, asIntOf, run_underlying Tryz.underlying41, go_sem, word]
  | 3, _ => simp [Instr.index, asIntOf, run_underlying Tryz.underlying41, go_sem, word]
theorem cntTo_all (c : Cls) : cntTo c 4 = cntC c := by simp [cntTo, cntC, word]

/-- The only byte: told, or not. -/
def OnlyIs (c : Cls) (w : World) (e : Ending) (w' : World) : Prop :=
  (∃ b : Nat, e = .returned (.tuple #[.int .u8 (b : Int), .bool true]) ∧ cntC c = 1 ∧ b = least c 0 ∧ b < 256 ∧ Below w.heap.size w w') ∨
    (e = .returned (.tuple #[.int .u8 0, .bool false]) ∧ cntC c ≠ 1 ∧ Below w.heap.size w w')

def StrIs (l : List UInt8) (w : World) (e : Ending) (w' : World) : Prop := ∃ s : ByteArray, e = .returned (.string s) ∧ s.data.toList = l ∧ Below w.heap.size w w'

theorem hexT : ∀ b : Fin 256, (b.val < 32 ∨ 126 < b.val) → (ByteArray.mk #[92, 120] ++ (ByteArray.mk #[48, 49, 50, 51, 52, 53, 54, 55, 56, 57, 97, 98, 99, 100, 101, 102]).extract (b.val / 16) (b.val / 16 + 1) ++ (ByteArray.mk #[48, 49, 50, 51, 52, 53, 54, 55, 56, 57, 97, 98, 99, 100, 101, 102]).extract (b.val % 16) (b.val % 16 + 1)).data.toList = byteT b.val := by decide +kernel
theorem specIdx : ∀ b : Fin 256, (0 ≤ Lib.indexByte [92, 46, 91, 93, 40, 41, 124, 42, 43, 63, 94, 36, 45] (UInt8.ofNat b.val)) ↔ (UInt8.ofNat b.val ∈ specialL) := by decide +kernel
theorem enc_ascii (b : Nat) (h : b < 128) : Utf8.encode (b : Int) = ⟨#[UInt8.ofNat b]⟩ := by
  have hv : Utf8.valid (b : Int) = true := by unfold Utf8.valid; simp; omega
  unfold Utf8.encode
  simp [hv, h]
theorem conv_rune (b : Nat) (w : World) (h : b < 128) : (convert 21 9 (.int .i32 (b : Int))).run Tryz.prog w = .ok (.string ⟨#[UInt8.ofNat b]⟩) w := by
  rw [run_convert_int_string w _ _ _ _ (by rw [Tryz.underlying21]; rfl) Tryz.underlying9, enc_ascii b h]
theorem sz_list (s : ByteArray) : s.size = s.data.toList.length := by simp
theorem sz_byte {s : ByteArray} {b : Nat} (h : s.data.toList = byteT b) : s.size ≤ 4 := by
  rw [sz_list, h]; exact (byteT_len b).1
theorem data_app (a b : ByteArray) : (a ++ b).data.toList = a.data.toList ++ b.data.toList := by simp

end Go.Proofs.YthcahjnniendnabGreatDoor

/-
  Walks of package class: each, Not, Both, Either.
-/
namespace Go.Proofs.YthcahjnniendnabGreatDoor
open Go.RowKit Wf

def U2Is (n : Nat) (w : World) (e : Ending) (w' : World) : Prop := e = .returned (.int .u64 (n : Int)) ∧ w = w'

theorem not_nat (x : Nat) (hx : x < 18446744073709551616) : 18446744073709551615 ^^^ x = 18446744073709551615 - x := by
  have h := BitVec.toNat_not (x := BitVec.ofNat 64 x)
  rw [BitVec.not_def, BitVec.toNat_xor] at h
  simp at h
  rw [Nat.mod_eq_of_lt (by omega)] at h
  exact h

theorem either1 (x y : Nat) (w : World) (hx : x < 18446744073709551616) (hy : y < 18446744073709551616) : Calls Tryz.prog 127 #[.int .u64 (x : Int), .int .u64 (y : Int)] w (U2Is (x ||| y) w) := by
  go_enter Tryz.func127, Tryz.ntmps127
  go_wp2
  go_ret
  refine ⟨?_, rfl⟩
  rw [← u64_or_nat x y hx hy]
  rfl

theorem not1 (x y : Nat) (w : World) (hx : x < 18446744073709551616) (hy : y < 18446744073709551616) : Calls Tryz.prog 129 #[.int .u64 (x : Int), .int .u64 (y : Int)] w (U2Is (18446744073709551615 - x) w) := by
  go_enter Tryz.func129, Tryz.ntmps129
  go_wp2
  go_ret
  refine ⟨?_, rfl⟩
  have e : bits .xor .u64 IntKind.u64.max (x : Int) = ((18446744073709551615 - x : Nat) : Int) := by
    rw [show IntKind.u64.max = ((18446744073709551615 : Nat) : Int) from rfl, u64_xor_nat _ _ (by decide) hx, not_nat x hx]
  rw [← e]
  rfl

theorem Blk4u {w : World} {g : Nat} {t : TypeId} {c0 c1 c2 c3 : Nat} (h : Blk w g t #[.int .u64 (c0 : Int), .int .u64 (c1 : Int), .int .u64 (c2 : Int), .int .u64 (c3 : Int)]) : True := trivial

set_option maxRecDepth 100000 in
set_option maxHeartbeats 8000000 in
theorem each_either (a0 a1 a2 a3 b0 b1 b2 b3 : Nat) (w : World) (ha : okC (a0, a1, a2, a3)) (hb : okC (b0, b1, b2, b3)) :
    Calls Tryz.prog 126 #[.agg #[.int .u64 (a0 : Int), .int .u64 (a1 : Int), .int .u64 (a2 : Int), .int .u64 (a3 : Int)], .agg #[.int .u64 (b0 : Int), .int .u64 (b1 : Int), .int .u64 (b2 : Int), .int .u64 (b3 : Int)], .func (.func 127) #[] #[]] w
      (ClsIs ((a0 ||| b0), (a1 ||| b1), (a2 ||| b2), (a3 ||| b3)) w) := by
  obtain ⟨ha0, ha1, ha2, ha3⟩ := ha
  obtain ⟨hb0, hb1, hb2, hb3⟩ := hb
  obtain ⟨r0, hr0⟩ : ∃ r, r = (a0 ||| b0) := ⟨_, rfl⟩
  have hc0 := fun W => either1 a0 b0 W ha0 hb0
  rw [← hr0] at hc0 ⊢
  have HC0 := Lib.hid hc0
  clear hc0 hr0
  obtain ⟨r1, hr1⟩ : ∃ r, r = (a1 ||| b1) := ⟨_, rfl⟩
  have hc1 := fun W => either1 a1 b1 W ha1 hb1
  rw [← hr1] at hc1 ⊢
  have HC1 := Lib.hid hc1
  clear hc1 hr1
  obtain ⟨r2, hr2⟩ : ∃ r, r = (a2 ||| b2) := ⟨_, rfl⟩
  have hc2 := fun W => either1 a2 b2 W ha2 hb2
  rw [← hr2] at hc2 ⊢
  have HC2 := Lib.hid hc2
  clear hc2 hr2
  obtain ⟨r3, hr3⟩ : ∃ r, r = (a3 ||| b3) := ⟨_, rfl⟩
  have hc3 := fun W => either1 a3 b3 W ha3 hb3
  rw [← hr3] at hc3 ⊢
  have HC3 := Lib.hid hc3
  clear hc3 hr3
  have hA := ((Blk.new w 41 #[.int .u64 (a0 : Int), .int .u64 (a1 : Int), .int .u64 (a2 : Int), .int .u64 (a3 : Int)]).kept ((Below.refl _ _).alloc (Nat.le_refl _) (.cells #[.int .u64 (b0 : Int), .int .u64 (b1 : Int), .int .u64 (b2 : Int), .int .u64 (b3 : Int)] 41))).kept ((Below.refl _ _).alloc (Nat.le_refl _) (.cells #[.int .u64 0, .int .u64 0, .int .u64 0, .int .u64 0] 41))
  have hB := (Blk.new (w.alloc (.cells #[.int .u64 (a0 : Int), .int .u64 (a1 : Int), .int .u64 (a2 : Int), .int .u64 (a3 : Int)] 41)) 41 #[.int .u64 (b0 : Int), .int .u64 (b1 : Int), .int .u64 (b2 : Int), .int .u64 (b3 : Int)]).kept ((Below.refl _ _).alloc (Nat.le_refl _) (.cells #[.int .u64 0, .int .u64 0, .int .u64 0, .int .u64 0] 41))
  have hZ := Blk.new ((w.alloc (.cells #[.int .u64 (a0 : Int), .int .u64 (a1 : Int), .int .u64 (a2 : Int), .int .u64 (a3 : Int)] 41)).alloc (.cells #[.int .u64 (b0 : Int), .int .u64 (b1 : Int), .int .u64 (b2 : Int), .int .u64 (b3 : Int)] 41)) 41 #[.int .u64 0, .int .u64 0, .int .u64 0, .int .u64 0]
  have hsz1 : (w.alloc (.cells #[.int .u64 (a0 : Int), .int .u64 (a1 : Int), .int .u64 (a2 : Int), .int .u64 (a3 : Int)] 41)).heap.size = w.heap.size + 1 := by simp
  have hsz2 : ((w.alloc (.cells #[.int .u64 (a0 : Int), .int .u64 (a1 : Int), .int .u64 (a2 : Int), .int .u64 (a3 : Int)] 41)).alloc (.cells #[.int .u64 (b0 : Int), .int .u64 (b1 : Int), .int .u64 (b2 : Int), .int .u64 (b3 : Int)] 41)).heap.size = w.heap.size + 1 + 1 := by simp
  rw [hsz1] at hB
  rw [hsz2] at hZ
  have HA := Lib.hid hA
  have HB := Lib.hid hB
  have HZ := Lib.hid hZ
  have HBL : Hid (∀ o o' o'' : Obj, Below w.heap.size w (((w.alloc o).alloc o').alloc o'')) := Lib.hid fun o o' o'' => (((Below.refl _ _).alloc (Nat.le_refl _) _).alloc (by simp) _).alloc (by simp; omega) _
  clear hA hB hZ hsz1 hsz2
  go_enter Tryz.func126, Tryz.ntmps126
  go_wp2
  go_loopw [8] (fun v8 wr => ∃ (k c0 c1 c2 c3 : Nat), k ≤ 4 ∧ v8 = .int .i64 (k : Int) ∧ Hid (c0 = (if 0 < k then r0 else a0) ∧ c1 = (if 1 < k then r1 else a1) ∧ c2 = (if 2 < k then r2 else a2) ∧ c3 = (if 3 < k then r3 else a3)) ∧
      Hid (Blk wr w.heap.size 41 #[.int .u64 (c0 : Int), .int .u64 (c1 : Int), .int .u64 (c2 : Int), .int .u64 (c3 : Int)]) ∧ Hid (Blk wr (w.heap.size + 1) 41 #[.int .u64 (b0 : Int), .int .u64 (b1 : Int), .int .u64 (b2 : Int), .int .u64 (b3 : Int)]) ∧ Hid (Blk wr (w.heap.size + 1 + 1) 41 #[.int .u64 0, .int .u64 0, .int .u64 0, .int .u64 0]) ∧ Hid (Below w.heap.size w wr)) (fun i _ => 4 - (intOf i).toNat)
  case atStart => exact ⟨0, a0, a1, a2, a3, by omega, rfl, Lib.hid ⟨rfl, rfl, rfl, rfl⟩, HA, HB, HZ, Lib.hid (HBL.out _ _ _)⟩
  case round =>
    obtain ⟨k, c0, c1, c2, c3, hk, rfl, hc, hA, hB, hZ, hbl⟩ := hrel
    have hcc := hc.out
    have h4 : k = 0 ∨ k = 1 ∨ k = 2 ∨ k = 3 ∨ k = 4 := by omega
    clear hc
    obtain ⟨⟨x0, x1, x2, x3⟩, y0, y1, y2, y3⟩ := Blk4 hA.out
    obtain ⟨⟨z0, z1, z2, z3⟩, _⟩ := Blk4 hB.out
    obtain ⟨⟨t0, t1, t2, t3⟩, u0, u1, u2, u3⟩ := Blk4 hZ.out
    rcases h4 with rfl | rfl | rfl | rfl | rfl
    · have hq : c0 = a0 ∧ c1 = a1 ∧ c2 = a2 ∧ c3 = a3 := by simpa using hcc
      obtain rfl := hq.1.symm
      obtain rfl := hq.2.1.symm
      obtain rfl := hq.2.2.1.symm
      obtain rfl := hq.2.2.2.symm
      clear hq
      clear hcc
      go_wp2_with fail
      go_region_with (first
          | (go_at_call 127; refine (HC0.out _).mono ?_; rintro e w1 ⟨rfl, rfl⟩))
      all_goals (
        go_wp2
        go_roundw
        case rel =>
          refine ⟨1, r0, a1, a2, a3, by omega, by first | rfl | go_num, Lib.hid (by simp), Lib.hid ?_, Lib.hid ?_, Lib.hid ?_, Lib.hid ?_⟩
          · exact hA.out.drew.set_ 0 _
          · exact (hB.out.drew).far (by show _ ≠ w.heap.size; omega) _
          · exact (hZ.out.drew).far (by show _ ≠ w.heap.size; omega) _
          · exact hbl.out.drew.setCell (Nat.le_refl _) _
        case measure => simp [intOf])
    · have hq : c0 = r0 ∧ c1 = a1 ∧ c2 = a2 ∧ c3 = a3 := by simpa using hcc
      obtain rfl := hq.1.symm
      obtain rfl := hq.2.1.symm
      obtain rfl := hq.2.2.1.symm
      obtain rfl := hq.2.2.2.symm
      clear hq
      clear hcc
      go_wp2_with fail
      go_region_with (first
          | (go_at_call 127; refine (HC1.out _).mono ?_; rintro e w1 ⟨rfl, rfl⟩))
      all_goals (
        go_wp2
        go_roundw
        case rel =>
          refine ⟨2, r0, r1, a2, a3, by omega, by first | rfl | go_num, Lib.hid (by simp), Lib.hid ?_, Lib.hid ?_, Lib.hid ?_, Lib.hid ?_⟩
          · exact hA.out.drew.set_ 1 _
          · exact (hB.out.drew).far (by show _ ≠ w.heap.size; omega) _
          · exact (hZ.out.drew).far (by show _ ≠ w.heap.size; omega) _
          · exact hbl.out.drew.setCell (Nat.le_refl _) _
        case measure => simp [intOf])
    · have hq : c0 = r0 ∧ c1 = r1 ∧ c2 = a2 ∧ c3 = a3 := by simpa using hcc
      obtain rfl := hq.1.symm
      obtain rfl := hq.2.1.symm
      obtain rfl := hq.2.2.1.symm
      obtain rfl := hq.2.2.2.symm
      clear hq
      clear hcc
      go_wp2_with fail
      go_region_with (first
          | (go_at_call 127; refine (HC2.out _).mono ?_; rintro e w1 ⟨rfl, rfl⟩))
      all_goals (
        go_wp2
        go_roundw
        case rel =>
          refine ⟨3, r0, r1, r2, a3, by omega, by first | rfl | go_num, Lib.hid (by simp), Lib.hid ?_, Lib.hid ?_, Lib.hid ?_, Lib.hid ?_⟩
          · exact hA.out.drew.set_ 2 _
          · exact (hB.out.drew).far (by show _ ≠ w.heap.size; omega) _
          · exact (hZ.out.drew).far (by show _ ≠ w.heap.size; omega) _
          · exact hbl.out.drew.setCell (Nat.le_refl _) _
        case measure => simp [intOf])
    · have hq : c0 = r0 ∧ c1 = r1 ∧ c2 = r2 ∧ c3 = a3 := by simpa using hcc
      obtain rfl := hq.1.symm
      obtain rfl := hq.2.1.symm
      obtain rfl := hq.2.2.1.symm
      obtain rfl := hq.2.2.2.symm
      clear hq
      clear hcc
      go_wp2_with fail
      go_region_with (first
          | (go_at_call 127; refine (HC3.out _).mono ?_; rintro e w1 ⟨rfl, rfl⟩))
      all_goals (
        go_wp2
        go_roundw
        case rel =>
          refine ⟨4, r0, r1, r2, r3, by omega, by first | rfl | go_num, Lib.hid (by simp), Lib.hid ?_, Lib.hid ?_, Lib.hid ?_, Lib.hid ?_⟩
          · exact hA.out.drew.set_ 3 _
          · exact (hB.out.drew).far (by show _ ≠ w.heap.size; omega) _
          · exact (hZ.out.drew).far (by show _ ≠ w.heap.size; omega) _
          · exact hbl.out.drew.setCell (Nat.le_refl _) _
        case measure => simp [intOf])
    · have hq : c0 = r0 ∧ c1 = r1 ∧ c2 = r2 ∧ c3 = r3 := by simpa using hcc
      obtain rfl := hq.1.symm
      obtain rfl := hq.2.1.symm
      obtain rfl := hq.2.2.1.symm
      obtain rfl := hq.2.2.2.symm
      clear hq hcc
      go_wp2
      refine bodyPost_ret (v := clsV (r0, r1, r2, r3)) ?_ rfl (ClsIs.of ?_)
      · have h4 := (Blk4 (Blk4_set hZ.out (.int .u64 r0) (.int .u64 r1) (.int .u64 r2) (.int .u64 r3))).1
        obtain ⟨h0, h1, h2, h3⟩ := h4
        simp [results, Tryz.results126, go_sem, clsV, h0, h1, h2, h3]
      · have hle : w.heap.size ≤ w.heap.size + 1 + 1 := by omega
        exact (((hbl.out.setCell hle _).setCell hle _).setCell hle _).setCell hle _

set_option maxRecDepth 100000 in
set_option maxHeartbeats 8000000 in
theorem each_not (a0 a1 a2 a3 b0 b1 b2 b3 : Nat) (w : World) (ha : okC (a0, a1, a2, a3)) (hb : okC (b0, b1, b2, b3)) :
    Calls Tryz.prog 126 #[.agg #[.int .u64 (a0 : Int), .int .u64 (a1 : Int), .int .u64 (a2 : Int), .int .u64 (a3 : Int)], .agg #[.int .u64 (b0 : Int), .int .u64 (b1 : Int), .int .u64 (b2 : Int), .int .u64 (b3 : Int)], .func (.func 129) #[] #[]] w
      (ClsIs ((18446744073709551615 - a0), (18446744073709551615 - a1), (18446744073709551615 - a2), (18446744073709551615 - a3)) w) := by
  obtain ⟨ha0, ha1, ha2, ha3⟩ := ha
  obtain ⟨hb0, hb1, hb2, hb3⟩ := hb
  obtain ⟨r0, hr0⟩ : ∃ r, r = (18446744073709551615 - a0) := ⟨_, rfl⟩
  have hc0 := fun W => not1 a0 b0 W ha0 hb0
  rw [← hr0] at hc0 ⊢
  have HC0 := Lib.hid hc0
  clear hc0 hr0
  obtain ⟨r1, hr1⟩ : ∃ r, r = (18446744073709551615 - a1) := ⟨_, rfl⟩
  have hc1 := fun W => not1 a1 b1 W ha1 hb1
  rw [← hr1] at hc1 ⊢
  have HC1 := Lib.hid hc1
  clear hc1 hr1
  obtain ⟨r2, hr2⟩ : ∃ r, r = (18446744073709551615 - a2) := ⟨_, rfl⟩
  have hc2 := fun W => not1 a2 b2 W ha2 hb2
  rw [← hr2] at hc2 ⊢
  have HC2 := Lib.hid hc2
  clear hc2 hr2
  obtain ⟨r3, hr3⟩ : ∃ r, r = (18446744073709551615 - a3) := ⟨_, rfl⟩
  have hc3 := fun W => not1 a3 b3 W ha3 hb3
  rw [← hr3] at hc3 ⊢
  have HC3 := Lib.hid hc3
  clear hc3 hr3
  have hA := ((Blk.new w 41 #[.int .u64 (a0 : Int), .int .u64 (a1 : Int), .int .u64 (a2 : Int), .int .u64 (a3 : Int)]).kept ((Below.refl _ _).alloc (Nat.le_refl _) (.cells #[.int .u64 (b0 : Int), .int .u64 (b1 : Int), .int .u64 (b2 : Int), .int .u64 (b3 : Int)] 41))).kept ((Below.refl _ _).alloc (Nat.le_refl _) (.cells #[.int .u64 0, .int .u64 0, .int .u64 0, .int .u64 0] 41))
  have hB := (Blk.new (w.alloc (.cells #[.int .u64 (a0 : Int), .int .u64 (a1 : Int), .int .u64 (a2 : Int), .int .u64 (a3 : Int)] 41)) 41 #[.int .u64 (b0 : Int), .int .u64 (b1 : Int), .int .u64 (b2 : Int), .int .u64 (b3 : Int)]).kept ((Below.refl _ _).alloc (Nat.le_refl _) (.cells #[.int .u64 0, .int .u64 0, .int .u64 0, .int .u64 0] 41))
  have hZ := Blk.new ((w.alloc (.cells #[.int .u64 (a0 : Int), .int .u64 (a1 : Int), .int .u64 (a2 : Int), .int .u64 (a3 : Int)] 41)).alloc (.cells #[.int .u64 (b0 : Int), .int .u64 (b1 : Int), .int .u64 (b2 : Int), .int .u64 (b3 : Int)] 41)) 41 #[.int .u64 0, .int .u64 0, .int .u64 0, .int .u64 0]
  have hsz1 : (w.alloc (.cells #[.int .u64 (a0 : Int), .int .u64 (a1 : Int), .int .u64 (a2 : Int), .int .u64 (a3 : Int)] 41)).heap.size = w.heap.size + 1 := by simp
  have hsz2 : ((w.alloc (.cells #[.int .u64 (a0 : Int), .int .u64 (a1 : Int), .int .u64 (a2 : Int), .int .u64 (a3 : Int)] 41)).alloc (.cells #[.int .u64 (b0 : Int), .int .u64 (b1 : Int), .int .u64 (b2 : Int), .int .u64 (b3 : Int)] 41)).heap.size = w.heap.size + 1 + 1 := by simp
  rw [hsz1] at hB
  rw [hsz2] at hZ
  have HA := Lib.hid hA
  have HB := Lib.hid hB
  have HZ := Lib.hid hZ
  have HBL : Hid (∀ o o' o'' : Obj, Below w.heap.size w (((w.alloc o).alloc o').alloc o'')) := Lib.hid fun o o' o'' => (((Below.refl _ _).alloc (Nat.le_refl _) _).alloc (by simp) _).alloc (by simp; omega) _
  clear hA hB hZ hsz1 hsz2
  go_enter Tryz.func126, Tryz.ntmps126
  go_wp2
  go_loopw [8] (fun v8 wr => ∃ (k c0 c1 c2 c3 : Nat), k ≤ 4 ∧ v8 = .int .i64 (k : Int) ∧ Hid (c0 = (if 0 < k then r0 else a0) ∧ c1 = (if 1 < k then r1 else a1) ∧ c2 = (if 2 < k then r2 else a2) ∧ c3 = (if 3 < k then r3 else a3)) ∧
      Hid (Blk wr w.heap.size 41 #[.int .u64 (c0 : Int), .int .u64 (c1 : Int), .int .u64 (c2 : Int), .int .u64 (c3 : Int)]) ∧ Hid (Blk wr (w.heap.size + 1) 41 #[.int .u64 (b0 : Int), .int .u64 (b1 : Int), .int .u64 (b2 : Int), .int .u64 (b3 : Int)]) ∧ Hid (Blk wr (w.heap.size + 1 + 1) 41 #[.int .u64 0, .int .u64 0, .int .u64 0, .int .u64 0]) ∧ Hid (Below w.heap.size w wr)) (fun i _ => 4 - (intOf i).toNat)
  case atStart => exact ⟨0, a0, a1, a2, a3, by omega, rfl, Lib.hid ⟨rfl, rfl, rfl, rfl⟩, HA, HB, HZ, Lib.hid (HBL.out _ _ _)⟩
  case round =>
    obtain ⟨k, c0, c1, c2, c3, hk, rfl, hc, hA, hB, hZ, hbl⟩ := hrel
    have hcc := hc.out
    have h4 : k = 0 ∨ k = 1 ∨ k = 2 ∨ k = 3 ∨ k = 4 := by omega
    clear hc
    obtain ⟨⟨x0, x1, x2, x3⟩, y0, y1, y2, y3⟩ := Blk4 hA.out
    obtain ⟨⟨z0, z1, z2, z3⟩, _⟩ := Blk4 hB.out
    obtain ⟨⟨t0, t1, t2, t3⟩, u0, u1, u2, u3⟩ := Blk4 hZ.out
    rcases h4 with rfl | rfl | rfl | rfl | rfl
    · have hq : c0 = a0 ∧ c1 = a1 ∧ c2 = a2 ∧ c3 = a3 := by simpa using hcc
      obtain rfl := hq.1.symm
      obtain rfl := hq.2.1.symm
      obtain rfl := hq.2.2.1.symm
      obtain rfl := hq.2.2.2.symm
      clear hq
      clear hcc
      go_wp2_with fail
      go_region_with (first
          | (go_at_call 129; refine (HC0.out _).mono ?_; rintro e w1 ⟨rfl, rfl⟩))
      all_goals (
        go_wp2
        go_roundw
        case rel =>
          refine ⟨1, r0, a1, a2, a3, by omega, by first | rfl | go_num, Lib.hid (by simp), Lib.hid ?_, Lib.hid ?_, Lib.hid ?_, Lib.hid ?_⟩
          · exact hA.out.drew.set_ 0 _
          · exact (hB.out.drew).far (by show _ ≠ w.heap.size; omega) _
          · exact (hZ.out.drew).far (by show _ ≠ w.heap.size; omega) _
          · exact hbl.out.drew.setCell (Nat.le_refl _) _
        case measure => simp [intOf])
    · have hq : c0 = r0 ∧ c1 = a1 ∧ c2 = a2 ∧ c3 = a3 := by simpa using hcc
      obtain rfl := hq.1.symm
      obtain rfl := hq.2.1.symm
      obtain rfl := hq.2.2.1.symm
      obtain rfl := hq.2.2.2.symm
      clear hq
      clear hcc
      go_wp2_with fail
      go_region_with (first
          | (go_at_call 129; refine (HC1.out _).mono ?_; rintro e w1 ⟨rfl, rfl⟩))
      all_goals (
        go_wp2
        go_roundw
        case rel =>
          refine ⟨2, r0, r1, a2, a3, by omega, by first | rfl | go_num, Lib.hid (by simp), Lib.hid ?_, Lib.hid ?_, Lib.hid ?_, Lib.hid ?_⟩
          · exact hA.out.drew.set_ 1 _
          · exact (hB.out.drew).far (by show _ ≠ w.heap.size; omega) _
          · exact (hZ.out.drew).far (by show _ ≠ w.heap.size; omega) _
          · exact hbl.out.drew.setCell (Nat.le_refl _) _
        case measure => simp [intOf])
    · have hq : c0 = r0 ∧ c1 = r1 ∧ c2 = a2 ∧ c3 = a3 := by simpa using hcc
      obtain rfl := hq.1.symm
      obtain rfl := hq.2.1.symm
      obtain rfl := hq.2.2.1.symm
      obtain rfl := hq.2.2.2.symm
      clear hq
      clear hcc
      go_wp2_with fail
      go_region_with (first
          | (go_at_call 129; refine (HC2.out _).mono ?_; rintro e w1 ⟨rfl, rfl⟩))
      all_goals (
        go_wp2
        go_roundw
        case rel =>
          refine ⟨3, r0, r1, r2, a3, by omega, by first | rfl | go_num, Lib.hid (by simp), Lib.hid ?_, Lib.hid ?_, Lib.hid ?_, Lib.hid ?_⟩
          · exact hA.out.drew.set_ 2 _
          · exact (hB.out.drew).far (by show _ ≠ w.heap.size; omega) _
          · exact (hZ.out.drew).far (by show _ ≠ w.heap.size; omega) _
          · exact hbl.out.drew.setCell (Nat.le_refl _) _
        case measure => simp [intOf])
    · have hq : c0 = r0 ∧ c1 = r1 ∧ c2 = r2 ∧ c3 = a3 := by simpa using hcc
      obtain rfl := hq.1.symm
      obtain rfl := hq.2.1.symm
      obtain rfl := hq.2.2.1.symm
      obtain rfl := hq.2.2.2.symm
      clear hq
      clear hcc
      go_wp2_with fail
      go_region_with (first
          | (go_at_call 129; refine (HC3.out _).mono ?_; rintro e w1 ⟨rfl, rfl⟩))
      all_goals (
        go_wp2
        go_roundw
        case rel =>
          refine ⟨4, r0, r1, r2, r3, by omega, by first | rfl | go_num, Lib.hid (by simp), Lib.hid ?_, Lib.hid ?_, Lib.hid ?_, Lib.hid ?_⟩
          · exact hA.out.drew.set_ 3 _
          · exact (hB.out.drew).far (by show _ ≠ w.heap.size; omega) _
          · exact (hZ.out.drew).far (by show _ ≠ w.heap.size; omega) _
          · exact hbl.out.drew.setCell (Nat.le_refl _) _
        case measure => simp [intOf])
    · have hq : c0 = r0 ∧ c1 = r1 ∧ c2 = r2 ∧ c3 = r3 := by simpa using hcc
      obtain rfl := hq.1.symm
      obtain rfl := hq.2.1.symm
      obtain rfl := hq.2.2.1.symm
      obtain rfl := hq.2.2.2.symm
      clear hq hcc
      go_wp2
      refine bodyPost_ret (v := clsV (r0, r1, r2, r3)) ?_ rfl (ClsIs.of ?_)
      · have h4 := (Blk4 (Blk4_set hZ.out (.int .u64 r0) (.int .u64 r1) (.int .u64 r2) (.int .u64 r3))).1
        obtain ⟨h0, h1, h2, h3⟩ := h4
        simp [results, Tryz.results126, go_sem, clsV, h0, h1, h2, h3]
      · have hle : w.heap.size ≤ w.heap.size + 1 + 1 := by omega
        exact (((hbl.out.setCell hle _).setCell hle _).setCell hle _).setCell hle _

end Go.Proofs.YthcahjnniendnabGreatDoor

/-
  Walks of package class: Not, Both, Either, Dot.
-/
namespace Go.Proofs.YthcahjnniendnabGreatDoor
open Go.RowKit Wf

set_option maxRecDepth 100000 in
set_option maxHeartbeats 1000000 in
theorem Either_any (a0 a1 a2 a3 b0 b1 b2 b3 : Nat) (w : World) (ha : okC (a0, a1, a2, a3)) (hb : okC (b0, b1, b2, b3)) :
    Calls Tryz.prog 120 #[.agg #[.int .u64 (a0 : Int), .int .u64 (a1 : Int), .int .u64 (a2 : Int), .int .u64 (a3 : Int)], .agg #[.int .u64 (b0 : Int), .int .u64 (b1 : Int), .int .u64 (b2 : Int), .int .u64 (b3 : Int)]] w (ClsIs (eitherC (a0, a1, a2, a3) (b0, b1, b2, b3)) w) := by
  have HC := Lib.hid fun W => each_either a0 a1 a2 a3 b0 b1 b2 b3 W ha hb
  have HX : Hid (((a0 ||| b0), (a1 ||| b1), (a2 ||| b2), (a3 ||| b3)) = eitherC (a0, a1, a2, a3) (b0, b1, b2, b3)) := Lib.hid rfl
  clear ha hb
  go_enter Tryz.func120, Tryz.ntmps120
  go_wp2_with (go_at_call 126; refine (HC.out _).mono ?_; rintro e w1 ⟨d0, d1, d2, d3, rfl, hd, hb1⟩; have HD := Lib.hid hd; have HK := Lib.hid ((Blk.new3 _ _ _ _ _).kept hb1); have HB1 := Lib.hid ((below3 _ _ _ _).trans (hb1.mono (size3 _ _ _ _))); clear hd hb1 HC; obtain ⟨⟨x0, x1, x2, x3⟩, y0, y1, y2, y3⟩ := Blk4 HK.out)
  refine bodyPost_ret (v := clsV (d0, d1, d2, d3)) ?_ rfl ?_
  · have h4 := (Blk4 (Blk4_set HK.out (.int .u64 d0) (.int .u64 d1) (.int .u64 d2) (.int .u64 d3))).1
    obtain ⟨h0, h1, h2, h3⟩ := h4
    simp [results, Tryz.results120, go_sem, clsV, h0, h1, h2, h3]
  · refine ⟨d0, d1, d2, d3, rfl, by rw [HD.out, HX.out], ?_⟩
    exact below_set4 HB1.out (by omega) _ _ _ _

set_option maxRecDepth 100000 in
set_option maxHeartbeats 1000000 in
theorem Not_any (a0 a1 a2 a3 : Nat) (w : World) (ha : okC (a0, a1, a2, a3)) :
    Calls Tryz.prog 122 #[.agg #[.int .u64 (a0 : Int), .int .u64 (a1 : Int), .int .u64 (a2 : Int), .int .u64 (a3 : Int)]] w (ClsIs (notC (a0, a1, a2, a3)) w) := by
  have HC := Lib.hid fun W => each_not a0 a1 a2 a3 a0 a1 a2 a3 W ha ha
  have HX : Hid (((18446744073709551615 - a0), (18446744073709551615 - a1), (18446744073709551615 - a2), (18446744073709551615 - a3)) = notC (a0, a1, a2, a3)) := Lib.hid rfl
  clear ha
  go_enter Tryz.func122, Tryz.ntmps122
  go_wp2_with (go_at_call 126; refine (HC.out _).mono ?_; rintro e w1 ⟨d0, d1, d2, d3, rfl, hd, hb1⟩; have HD := Lib.hid hd; have HK := Lib.hid ((Blk.new2 _ _ _ _).kept hb1); have HB1 := Lib.hid ((below2 _ _ _).trans (hb1.mono (size2 _ _ _))); clear hd hb1 HC; obtain ⟨⟨x0, x1, x2, x3⟩, y0, y1, y2, y3⟩ := Blk4 HK.out)
  refine bodyPost_ret (v := clsV (d0, d1, d2, d3)) ?_ rfl ?_
  · have h4 := (Blk4 (Blk4_set HK.out (.int .u64 d0) (.int .u64 d1) (.int .u64 d2) (.int .u64 d3))).1
    obtain ⟨h0, h1, h2, h3⟩ := h4
    simp [results, Tryz.results122, go_sem, clsV, h0, h1, h2, h3]
  · refine ⟨d0, d1, d2, d3, rfl, by rw [HD.out, HX.out], ?_⟩
    exact below_set4 HB1.out (by omega) _ _ _ _

set_option maxRecDepth 100000 in
set_option maxHeartbeats 1000000 in
theorem Dot_any (w : World) : Calls Tryz.prog 116 #[] w (ClsIs dotC w) := by
  have HO := Lib.hid fun W => Of_any ⟨#[10]⟩ W (by decide)
  have HOK : Hid (∀ c0 c1 c2 c3, (c0, c1, c2, c3) = ofL [10] zc → okC (c0, c1, c2, c3)) := Lib.hid (by rintro c0 c1 c2 c3 h; rw [h]; exact okC_ofL _ _ okC_zc)
  go_enter Tryz.func116, Tryz.ntmps116
  go_wp2_with (first
    | (go_at_call 24; refine (HO.out _).mono ?_; clear HO; rintro e w1 ⟨c0, c1, c2, c3, rfl, hc, hb1⟩; have HOC := Lib.hid hc; have HK := Lib.hid ((Blk.new _ _ _).kept hb1); have HB1 := Lib.hid (((Below.refl _ _).alloc (Nat.le_refl _) _).trans (hb1.mono (by simp))); clear hc hb1)
    | (go_at_call 122; refine (Not_any c0 c1 c2 c3 _ (HOK.out _ _ _ _ HOC.out)).mono ?_; rintro e w2 ⟨d0, d1, d2, d3, rfl, hd, hb2⟩; have HD := Lib.hid hd; have HK2 := Lib.hid (HK.out.kept hb2); have HB2 := Lib.hid (HB1.out.trans (hb2.mono HB1.out.size)); clear hd hb2; obtain ⟨⟨x0, x1, x2, x3⟩, y0, y1, y2, y3⟩ := Blk4 HK2.out))
  refine bodyPost_ret (v := clsV (d0, d1, d2, d3)) ?_ rfl ?_
  · have h4 := (Blk4 (Blk4_set HK2.out (.int .u64 d0) (.int .u64 d1) (.int .u64 d2) (.int .u64 d3))).1
    obtain ⟨h0, h1, h2, h3⟩ := h4
    simp [results, Tryz.results116, go_sem, clsV, h0, h1, h2, h3]
  · refine ⟨d0, d1, d2, d3, rfl, by rw [HD.out, HOC.out]; rfl, ?_⟩
    exact below_set4 HB2.out (Nat.le_refl _) _ _ _ _

end Go.Proofs.YthcahjnniendnabGreatDoor
