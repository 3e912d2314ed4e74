/-
  Walks of package class: Has, with, Of.
-/
import Derived.Test.YthcahjnniendnaaDoorRexC
import Derived.Test.YthcahjnniendnaaDoorPc
import Derived.WalkSmall
import Derived.Deep.RegionHeld3
namespace Go.Proofs.YthcahjnniendnaaDoor
open Go.RowKit Wf

/-- A class as a value. -/
def clsV (c : Cls) : Value := .agg #[.int .u64 (c.1 : Int), .int .u64 (c.2.1 : Int), .int .u64 (c.2.2.1 : Int), .int .u64 (c.2.2.2 : Int)]

theorem word_get (c : Cls) (q : Nat) (h : q < 4) : [Value.int .u64 (c.1 : Int), .int .u64 (c.2.1 : Int), .int .u64 (c.2.2.1 : Int), .int .u64 (c.2.2.2 : Int)][q]? = some (.int .u64 (word c q : Int)) := by
  match q, h with
  | 0, _ => rfl
  | 1, _ => rfl
  | 2, _ => rfl
  | 3, _ => rfl

theorem bit_has (n k : Nat) (hn : n < 18446744073709551616) : (bits .and .u64 ((n : Int) / 2 ^ k) 1 == 1) = n.testBit k := by
  have e : (n : Int) / 2 ^ k = ((n / 2 ^ k : Nat) : Int) := by simp
  have hle : n / 2 ^ k ≤ n := Nat.div_le_self _ _
  rw [e, Nat.testBit_eq_decide_div_mod_eq]
  generalize n / 2 ^ k = m at *
  rw [and_one_u64 _ (by omega) (by omega)]
  rw [Bool.eq_iff_iff]
  simp
  omega

def HasIs (c : Cls) (b : Nat) (w : World) (e : Ending) (w' : World) : Prop := e = .returned (.bool (has c b)) ∧ Below w.heap.size w w'

set_option maxRecDepth 100000 in
theorem Has_any (c0 c1 c2 c3 b : Nat) (w : World) (hok : okC (c0, c1, c2, c3)) (hb : b < 256) :
    Calls Tryd.prog 37 #[.agg #[.int .u64 (c0 : Int), .int .u64 (c1 : Int), .int .u64 (c2 : Int), .int .u64 (c3 : Int)], .int .u8 (b : Int)] w (HasIs (c0, c1, c2, c3) b w) := by
  have hget := word_get (c0, c1, c2, c3) (b / 64) (by omega)
  have hcw := word_lt hok (b / 64)
  have hbit := bit_has (word (c0, c1, c2, c3) (b / 64)) (b % 64) hcw
  have hfin : has (c0, c1, c2, c3) b = (word (c0, c1, c2, c3) (b / 64)).testBit (b % 64) := rfl
  rw [← hbit] at hfin
  dsimp only at hget
  have HF := Lib.hid hfin
  clear hfin hbit hok
  generalize word (c0, c1, c2, c3) (b / 64) = cw at *
  go_enter Tryd.func37, Tryd.ntmps37
  go_wp2
  go_ret
  exact ⟨by rw [HF.out]; rfl, (Below.refl _ _).alloc (Nat.le_refl _) _⟩

/-- The call hands back the class c. -/
def ClsIs (c : Cls) (w : World) (e : Ending) (w' : World) : Prop := ∃ d0 d1 d2 d3 : Nat, e = .returned (.agg #[.int .u64 (d0 : Int), .int .u64 (d1 : Int), .int .u64 (d2 : Int), .int .u64 (d3 : Int)]) ∧ (d0, d1, d2, d3) = c ∧ Below w.heap.size w w'
theorem ClsIs.of {c : Cls} {w w' : World} (h : Below w.heap.size w w') : ClsIs c w (.returned (clsV c)) w' := ⟨c.1, c.2.1, c.2.2.1, c.2.2.2, rfl, rfl, h⟩

theorem or_pow (a b : Nat) (ha : a < 18446744073709551616) : bits .or .u64 (a : Int) (IntKind.u64.wrap (2 ^ (b % 64))) = ((a ||| 2 ^ (b % 64) : Nat) : Int) := by
  have hp := pow_lt64 b
  have e : IntKind.u64.wrap (2 ^ (b % 64)) = ((2 ^ (b % 64) : Nat) : Int) := by
    rw [IntKind.wrap_u64]
    have : (2 : Int) ^ (b % 64) = ((2 ^ (b % 64) : Nat) : Int) := by simp
    rw [this]
    generalize 2 ^ (b % 64) = p at *
    omega
  rw [e, u64_or_nat _ _ ha hp]

def clsA (c : Cls) : Array Value := #[.int .u64 (c.1 : Int), .int .u64 (c.2.1 : Int), .int .u64 (c.2.2.1 : Int), .int .u64 (c.2.2.2 : Int)]

theorem bytes_take (s : ByteArray) (k : Nat) (h : k < s.size) : s.data.toList.take (k + 1) = s.data.toList.take k ++ [s[k]] := by
  rw [List.take_succ_eq_append_getElem (by simpa using h)]; rfl

theorem Blk4 {w : World} {g : Nat} {t : TypeId} {a b c d : Value} (h : Blk w g t #[a, b, c, d]) :
    (w.cell? ⟨g, 0, none⟩ = some a ∧ w.cell? ⟨g, 1, none⟩ = some b ∧ w.cell? ⟨g, 2, none⟩ = some c ∧ w.cell? ⟨g, 3, none⟩ = some d) ∧
      (w.frozen? ⟨g, 0, none⟩ = false ∧ w.frozen? ⟨g, 1, none⟩ = false ∧ w.frozen? ⟨g, 2, none⟩ = false ∧ w.frozen? ⟨g, 3, none⟩ = false) :=
  ⟨⟨h.cell 0, h.cell 1, h.cell 2, h.cell 3⟩, h.frozen 0, h.frozen 1, h.frozen 2, h.frozen 3⟩

theorem Blk4_set {w : World} {g : Nat} {t : TypeId} {a b c d : Value} (h : Blk w g t #[a, b, c, d]) (a' b' c' d' : Value) :
    Blk ((((w.setCell ⟨g, 0, none⟩ a').setCell ⟨g, 1, none⟩ b').setCell ⟨g, 2, none⟩ c').setCell ⟨g, 3, none⟩ d') g t #[a', b', c', d'] :=
  (((h.set_ 0 a').set_ 1 b').set_ 2 c').set_ 3 d'

end Go.Proofs.YthcahjnniendnaaDoor
