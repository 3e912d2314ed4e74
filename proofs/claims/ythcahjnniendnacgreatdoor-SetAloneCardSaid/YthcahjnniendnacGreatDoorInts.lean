/-
  Lists of numbers: the statements' Ints and has.
-/
import Derived.Test.YthcahjnniendnacGreatDoorGRex
namespace Go.Proofs.YthcahjnniendnacGreatDoor
open Go.RowKit Wf

def intVals (xs : List Int) : List Value := xs.map (Value.int .i64)
theorem intVals_len (xs : List Int) : (intVals xs).length = xs.length := by simp [intVals]
theorem intVals_get {xs : List Int} {k : Nat} {x : Int} (h : xs[k]? = some x) : (intVals xs)[k]? = some (.int .i64 x) := by simp [intVals, h]
def toInts (xs : List Nat) : List Int := xs.map fun (n : Nat) => (n : Int)
theorem natVals_ints (xs : List Nat) : natVals xs = intVals (toInts xs) := by simp [natVals, intVals, toInts]
theorem toInts_len (xs : List Nat) : (toInts xs).length = xs.length := by simp [toInts]
theorem toInts_inj {xs ys : List Nat} : toInts xs = toInts ys ↔ xs = ys := by
  unfold toInts
  exact List.map_inj_right (fun a b h => by omega)
theorem mem_toInts {xs : List Nat} {n : Nat} : (n : Int) ∈ toInts xs ↔ n ∈ xs := by
  unfold toInts
  rw [List.mem_map]
  constructor
  · rintro ⟨a, h1, h2⟩
    obtain rfl : a = n := by omega
    exact h1
  · intro h; exact ⟨n, h, rfl⟩
theorem toInts_get {xs : List Nat} {k : Nat} : (toInts xs)[k]? = xs[k]?.map fun (n : Nat) => (n : Int) := by simp [toInts]

/-- A slice that reads as a list of numbers. -/
def RdI (w : World) (v : Value) (xs : List Int) : Prop := Rd1 w v (intVals xs)
theorem RdI.below {w w' : World} {v : Value} {xs : List Int} (h : RdI w v xs) (hb : Below w.heap.size w w') : RdI w' v xs := Rd.below h hb
theorem RdI.nil (w : World) : RdI w (.slice none 0 0) [] := Rd.nil w 1
theorem RdI.open_ {w : World} {v : Value} {xs : List Int} (h : RdI w v xs) : ∃ (A : Option Addr) (cap : Nat), v = .slice A xs.length cap ∧ xs.length ≤ cap ∧ cap ≤ 9223372036854775807 ∧
    (0 < xs.length → ∃ b off, A = some ⟨b, off, none⟩ ∧ b < w.heap.size ∧ ∀ (w' : World), (∀ o, w'.cell? ⟨b, o, none⟩ = w.cell? ⟨b, o, none⟩) → ∀ k u, xs[k]? = some u → w'.cell? ⟨b, off + k, none⟩ = some (.int .i64 u)) := by
  obtain ⟨A, cap, hv, h1, h2, h3⟩ := Rd1.open_ h
  rw [intVals_len] at hv h1 h3
  refine ⟨A, cap, hv, h1, h2, fun hn => ?_⟩
  obtain ⟨b, off, ha, hb, hc⟩ := h3 hn
  exact ⟨b, off, ha, hb, fun w' hw k u hu => hc w' hw k _ (intVals_get hu)⟩

def IntsIs (a b : List Int) (w : World) (e : Ending) (w' : World) : Prop := ∃ r : Bool, e = .returned (.bool r) ∧ (r = true ↔ a = b) ∧ Below w.heap.size w w'

def HasIIs (a : List Int) (n : Int) (w : World) (e : Ending) (w' : World) : Prop := ∃ r : Bool, e = .returned (.bool r) ∧ (r = true ↔ n ∈ a) ∧ Below w.heap.size w w'

end Go.Proofs.YthcahjnniendnacGreatDoor
