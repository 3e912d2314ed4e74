/-
  Walks of package class: how many bytes (with the library's count of set bits), the only byte, the text of a byte and of a run.
-/
import Derived.Test.YthcahjnniendnabClsA
import Derived.Test.YthcahjnniendnabGPl
import Derived.Test.YthcahjnniendnabShelf
import Derived.BigQuiet
import Derived.Laws.Runes
namespace Go.Proofs.Ythcahjnniendnab
open Go.RowKit Wf

theorem Blk.new2 (w : World) (o : Obj) (t : TypeId) (cs : Array Value) : Blk ((w.alloc o).alloc (.cells cs t)) (w.heap.size + 1) t cs := by
  have h := Blk.new (w.alloc o) t cs
  simpa using h
theorem Blk.new3 (w : World) (o o' : Obj) (t : TypeId) (cs : Array Value) : Blk (((w.alloc o).alloc o').alloc (.cells cs t)) (w.heap.size + 1 + 1) t cs := by
  have h := Blk.new ((w.alloc o).alloc o') t cs
  simpa using h
theorem below2 (w : World) (o o' : Obj) : Below w.heap.size w ((w.alloc o).alloc o') := ((Below.refl _ _).alloc (Nat.le_refl _) _).alloc (by simp) _
theorem below3 (w : World) (o o' o'' : Obj) : Below w.heap.size w (((w.alloc o).alloc o').alloc o'') := (below2 w o o').alloc (by simp; omega) _
theorem size2 (w : World) (o o' : Obj) : w.heap.size ≤ ((w.alloc o).alloc o').heap.size := by simp; omega
theorem size3 (w : World) (o o' o'' : Obj) : w.heap.size ≤ (((w.alloc o).alloc o').alloc o'').heap.size := by simp; omega
theorem below_set4 {w w' : World} {g : Nat} (h : Below w.heap.size w w') (hg : w.heap.size ≤ g) (a b c d : Value) : Below w.heap.size w ((((w'.setCell ⟨g, 0, none⟩ a).setCell ⟨g, 1, none⟩ b).setCell ⟨g, 2, none⟩ c).setCell ⟨g, 3, none⟩ d) :=
  (((h.setCell hg _).setCell hg _).setCell hg _).setCell hg _

theorem and_85 (a : Nat) (ha : a < 18446744073709551616) : bits .and .u64 (a : Int) 6148914691236517205 = ((a &&& 6148914691236517205 : Nat) : Int) := u64_and_nat a 6148914691236517205 ha (by decide)
theorem and_51 (a : Nat) (ha : a < 18446744073709551616) : bits .and .u64 (a : Int) 3689348814741910323 = ((a &&& 3689348814741910323 : Nat) : Int) := u64_and_nat a 3689348814741910323 ha (by decide)
theorem and_15 (a : Nat) (ha : a < 18446744073709551616) : bits .and .u64 (a : Int) 1085102592571150095 = ((a &&& 1085102592571150095 : Nat) : Int) := u64_and_nat a 1085102592571150095 ha (by decide)
theorem w64 {a : Int} {n : Nat} (h : a = (n : Int)) (hn : n < 18446744073709551616) : IntKind.u64.wrap a = (n : Int) := by
  rw [IntKind.wrap_u64, h]; omega
theorem and127 {x p : Nat} (h : x % 128 = p) (hx : x < 18446744073709551616) : bits .and .i64 (wrap64 (x : Int)) 127 = (p : Int) := by
  rw [i64_and127, wrap64]; omega
theorem half_cast (x : Nat) : ((x : Int) / 2) = ((x / 2 : Nat) : Int) := by omega
theorem quart_cast (x : Nat) : ((x : Int) / 4) = ((x / 4 : Nat) : Int) := by omega
theorem sh_cast {x y k : Nat} (h : y = x + x / k) : (x : Int) + (x : Int) / (k : Int) = (y : Int) := by
  rw [h]; simp
theorem sh16_cast (x : Nat) : (x : Int) / 16 + (x : Int) = ((x / 16 + x : Nat) : Int) := by omega

def NatIs (n : Nat) (w : World) (e : Ending) (w' : World) : Prop := ∃ m : Nat, e = .returned (.int .i64 (m : Int)) ∧ m = n ∧ Below w.heap.size w w'

def cntTo (c : Cls) : Nat → Nat
  | 0 => 0
  | k + 1 => cntTo c k + popN 64 (word c k)
theorem cntTo_le (c : Cls) (k : Nat) : cntTo c k ≤ 64 * k := by
  induction k with
  | zero => simp [cntTo]
  | succ k ih => simp only [cntTo]; have := popN_le 64 (word c k); omega
theorem run_idx (c0 c1 c2 c3 k : Nat) (w : World) (hk : k < 4) : (Instr.index 30 (.agg #[.int .u64 (c0 : Int), .int .u64 (c1 : Int), .int .u64 (c2 : Int), .int .u64 (c3 : Int)]) (.int .i64 (k : Int))).run Try.prog w = .ok (.int .u64 (word (c0, c1, c2, c3) k : Int)) w := by
  match k, hk with
  | 0, _ => simp [Instr.index, asIntOf, run_underlying Try.underlying30, go_sem, word]
  | 1, _ => simp [Instr.index, asIntOf, run_underlying Try.underlying30, go_sem, word]
  | 2, _ => simp [Instr.index, asIntOf, run_underlying Try.underlying30, go_sem, word]
  | 3, _ => simp [Instr.index, asIntOf, run_underlying Try.underlying30, go_sem, word]
theorem cntTo_all (c : Cls) : cntTo c 4 = cntC c := by simp [cntTo, cntC, word]

/-- The only byte: told, or not. -/
def OnlyIs (c : Cls) (w : World) (e : Ending) (w' : World) : Prop :=
  (∃ b : Nat, e = .returned (.tuple #[.int .u8 (b : Int), .bool true]) ∧ cntC c = 1 ∧ b = least c 0 ∧ b < 256 ∧ Below w.heap.size w w') ∨
    (e = .returned (.tuple #[.int .u8 0, .bool false]) ∧ cntC c ≠ 1 ∧ Below w.heap.size w w')

def StrIs (l : List UInt8) (w : World) (e : Ending) (w' : World) : Prop := ∃ s : ByteArray, e = .returned (.string s) ∧ s.data.toList = l ∧ Below w.heap.size w w'

theorem hexT : ∀ b : Fin 256, (b.val < 32 ∨ 126 < b.val) → (ByteArray.mk #[92, 120] ++ (ByteArray.mk #[48, 49, 50, 51, 52, 53, 54, 55, 56, 57, 97, 98, 99, 100, 101, 102]).extract (b.val / 16) (b.val / 16 + 1) ++ (ByteArray.mk #[48, 49, 50, 51, 52, 53, 54, 55, 56, 57, 97, 98, 99, 100, 101, 102]).extract (b.val % 16) (b.val % 16 + 1)).data.toList = byteT b.val := by decide +kernel
theorem specIdx : ∀ b : Fin 256, (0 ≤ Lib.indexByte [92, 46, 91, 93, 40, 41, 124, 42, 43, 63, 94, 36, 45] (UInt8.ofNat b.val)) ↔ (UInt8.ofNat b.val ∈ specialL) := by decide +kernel
theorem enc_ascii (b : Nat) (h : b < 128) : Utf8.encode (b : Int) = ⟨#[UInt8.ofNat b]⟩ := by
  have hv : Utf8.valid (b : Int) = true := by unfold Utf8.valid; simp; omega
  unfold Utf8.encode
  simp [hv, h]
theorem conv_rune (b : Nat) (w : World) (h : b < 128) : (convert 21 9 (.int .i32 (b : Int))).run Try.prog w = .ok (.string ⟨#[UInt8.ofNat b]⟩) w := by
  rw [run_convert_int_string w _ _ _ _ (by rw [Try.underlying21]; rfl) Try.underlying9, enc_ascii b h]
theorem sz_list (s : ByteArray) : s.size = s.data.toList.length := by simp
theorem sz_byte {s : ByteArray} {b : Nat} (h : s.data.toList = byteT b) : s.size ≤ 4 := by
  rw [sz_list, h]; exact (byteT_len b).1
theorem data_app (a b : ByteArray) : (a ++ b).data.toList = a.data.toList ++ b.data.toList := by simp

end Go.Proofs.Ythcahjnniendnab
