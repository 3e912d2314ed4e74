/-
  Lists of numbers: the statements' Ints and has.
-/
import Derived.Test.YthcahjnniendnabGRex
namespace Go.Proofs.Ythcahjnniendnab
open Go.RowKit Wf

def intVals (xs : List Int) : List Value := xs.map (Value.int .i64)
theorem intVals_len (xs : List Int) : (intVals xs).length = xs.length := by simp [intVals]
theorem intVals_get {xs : List Int} {k : Nat} {x : Int} (h : xs[k]? = some x) : (intVals xs)[k]? = some (.int .i64 x) := by simp [intVals, h]
def toInts (xs : List Nat) : List Int := xs.map fun (n : Nat) => (n : Int)
theorem natVals_ints (xs : List Nat) : natVals xs = intVals (toInts xs) := by simp [natVals, intVals, toInts]
theorem toInts_len (xs : List Nat) : (toInts xs).length = xs.length := by simp [toInts]
theorem toInts_inj {xs ys : List Nat} : toInts xs = toInts ys ↔ xs = ys := by
  unfold toInts
  exact List.map_inj_right (fun a b h => by omega)
theorem mem_toInts {xs : List Nat} {n : Nat} : (n : Int) ∈ toInts xs ↔ n ∈ xs := by
  unfold toInts
  rw [List.mem_map]
  constructor
  · rintro ⟨a, h1, h2⟩
    obtain rfl : a = n := by omega
    exact h1
  · intro h; exact ⟨n, h, rfl⟩
theorem toInts_get {xs : List Nat} {k : Nat} : (toInts xs)[k]? = xs[k]?.map fun (n : Nat) => (n : Int) := by simp [toInts]

/-- A slice that reads as a list of numbers. -/
def RdI (w : World) (v : Value) (xs : List Int) : Prop := Rd1 w v (intVals xs)
theorem RdI.below {w w' : World} {v : Value} {xs : List Int} (h : RdI w v xs) (hb : Below w.heap.size w w') : RdI w' v xs := Rd.below h hb
theorem RdI.nil (w : World) : RdI w (.slice none 0 0) [] := Rd.nil w 1
theorem RdI.open_ {w : World} {v : Value} {xs : List Int} (h : RdI w v xs) : ∃ (A : Option Addr) (cap : Nat), v = .slice A xs.length cap ∧ xs.length ≤ cap ∧ cap ≤ 9223372036854775807 ∧
    (0 < xs.length → ∃ b off, A = some ⟨b, off, none⟩ ∧ b < w.heap.size ∧ ∀ (w' : World), (∀ o, w'.cell? ⟨b, o, none⟩ = w.cell? ⟨b, o, none⟩) → ∀ k u, xs[k]? = some u → w'.cell? ⟨b, off + k, none⟩ = some (.int .i64 u)) := by
  obtain ⟨A, cap, hv, h1, h2, h3⟩ := Rd1.open_ h
  rw [intVals_len] at hv h1 h3
  refine ⟨A, cap, hv, h1, h2, fun hn => ?_⟩
  obtain ⟨b, off, ha, hb, hc⟩ := h3 hn
  exact ⟨b, off, ha, hb, fun w' hw k u hu => hc w' hw k _ (intVals_get hu)⟩

def IntsIs (a b : List Int) (w : World) (e : Ending) (w' : World) : Prop := ∃ r : Bool, e = .returned (.bool r) ∧ (r = true ↔ a = b) ∧ Below w.heap.size w w'

set_option maxRecDepth 100000 in
set_option maxHeartbeats 4000000 in
theorem Ints_any (a b : List Int) (va vb : Value) (w : World) (ha : RdI w va a) (hb : RdI w vb b) : Calls Try.prog 9 #[va, vb] w (IntsIs a b w) := by
  obtain ⟨A, ca, rfl, hca, hca2, hma⟩ := ha.open_
  obtain ⟨B, cb, rfl, hcb, hcb2, hmb⟩ := hb.open_
  have MA := Lib.hid hma
  have MB := Lib.hid hmb
  clear hma hmb ha hb
  by_cases hl : a.length = b.length
  · have hne : ((a.length : Int) != (b.length : Int)) = false := by rw [hl]; simp
    have HL := Lib.hid hl
    have hlen1 : a.length ≤ b.length := by omega
    have hlen2 : b.length ≤ a.length := by omega
    clear hl
    go_enter Try.func9, Try.ntmps9
    go_wp2
    go_loopw [5] (fun v5 wr => ∃ k : Nat, k ≤ a.length ∧ v5 = .int .i64 k ∧ Hid (a.take k = b.take k) ∧ Below w.heap.size w wr) (fun i _ => a.length - (intOf i).toNat)
    case atStart => exact ⟨0, by omega, rfl, Lib.hid rfl, Below.refl _ _⟩
    case round =>
      obtain ⟨k, hk, rfl, HT, hbl⟩ := hrel
      by_cases hlt : k < a.length
      · obtain ⟨b1, off1, rfl, hb1, hc1⟩ := MA.out (by omega)
        obtain ⟨b2, off2, rfl, hb2, hc2⟩ := MB.out (by omega)
        obtain ⟨n, hn⟩ := getD_get hlt
        obtain ⟨m, hm⟩ := getD_get (show k < b.length by omega)
        have g0 := hc1 wr (fun o => hbl.cell (p := ⟨b1, o, none⟩) hb1) k n hn
        have q0 := hc2 wr (fun o => hbl.cell (p := ⟨b2, o, none⟩) hb2) k m hm
        have hyes : n = m → Hid (a.take (k + 1) = b.take (k + 1)) := fun h => Lib.hid (by rw [take_snoc hn, take_snoc hm, HT.out, h])
        have hno : n ≠ m → a ≠ b := fun h => list_ne_of hn hm h
        have HY := Lib.hid hyes
        have HNO := Lib.hid hno
        clear hyes hno hn hm hc1 hc2
        have hk0 : (0 : Int) ≤ (k : Int) := by omega
        have hk1 : (k : Int) < (a.length : Int) := by omega
        have hk2 : (k : Int) < (b.length : Int) := by omega
        by_cases hcase : n = m
        · have hbne : (n != m) = false := by simp [hcase]
          have HC := Lib.hid hcase
          clear hcase
          go_wp2
          go_quiet (fail)
          go_wp2
          go_roundw
          case rel => exact ⟨k + 1, by omega, by go_num, HY.out HC.out, below_drewN hbl _⟩
          case measure => simp [intOf]; omega
        · have hbne : (n != m) = true := by simp [hcase]
          have HC := Lib.hid hcase
          clear hcase
          go_wp2
          go_quiet (fail)
          go_wp2
          go_ret
          exact ⟨_, rfl, ⟨(fun h => by cases h), fun h => absurd h (HNO.out HC.out)⟩, below_drewN hbl _⟩
      · obtain rfl : k = a.length := by omega
        go_wp2
        go_ret
        exact ⟨_, rfl, ⟨fun _ => list_eq_of HT.out rfl HL.out, fun _ => rfl⟩, hbl⟩
  · have hne : ((a.length : Int) != (b.length : Int)) = true := by simp; omega
    have HL := Lib.hid hl
    clear hl
    go_enter Try.func9, Try.ntmps9
    go_wp2
    go_ret
    exact ⟨_, rfl, ⟨(fun h => by cases h), fun h => absurd (congrArg List.length h) HL.out⟩, Below.refl _ _⟩

def HasIIs (a : List Int) (n : Int) (w : World) (e : Ending) (w' : World) : Prop := ∃ r : Bool, e = .returned (.bool r) ∧ (r = true ↔ n ∈ a) ∧ Below w.heap.size w w'

end Go.Proofs.Ythcahjnniendnab
