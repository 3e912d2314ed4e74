/-
  Rows of hits in memory; two hits compared; the walk of package winnowfansame's Hits.
-/
import Derived.Test.YthcahjnniendnabEachD
import Derived.Test.YthcahjnniendnabGRex
import Derived.Test.YthcahjnniendnabSpan
namespace Go.Proofs.Ythcahjnniendnab
open Go.RowKit Wf

theorem hits_get (l : List (Nat × Nat × Nat)) : ∀ (k j : Nat) (h : Nat × Nat × Nat), l[k]? = some h → j < 3 → (l.flatMap hitCells)[k * 3 + j]? = (hitCells h)[j]? := by
  induction l with
  | nil => intro k j x h; simp at h
  | cons m r ih =>
    intro k j x h hj
    rcases k with _ | k
    · simp at h
      subst h
      simp only [List.flatMap_cons, Nat.zero_mul, Nat.zero_add]
      rw [List.getElem?_append_left (by simpa [hitCells] using hj)]
    · simp only [List.flatMap_cons]
      rw [List.getElem?_append_right (by simp [hitCells]; omega)]
      have e : (k + 1) * 3 + j - (hitCells m).length = k * 3 + j := by simp [hitCells]; omega
      rw [e]
      exact ih k j x (by simpa using h) hj
theorem hit_open {w : World} {v : Value} {l : List (Nat × Nat × Nat)} (h : Rd w 3 v (l.flatMap hitCells)) : ∃ (A : Option Addr) (cap : Nat), v = .slice A l.length cap ∧ l.length ≤ cap ∧ cap ≤ 9223372036854775807 ∧
    (0 < l.length → ∃ b off, A = some ⟨b, off, none⟩ ∧ b < w.heap.size ∧ ∀ (w' : World), (∀ o, w'.cell? ⟨b, o, none⟩ = w.cell? ⟨b, o, none⟩) → ∀ (k x y z : Nat), l[k]? = some (x, y, z) → w'.cell? ⟨b, off + k * 3, none⟩ = some (.int .i64 (x : Int)) ∧ w'.cell? ⟨b, off + k * 3 + 1, none⟩ = some (.int .i64 (y : Int)) ∧ w'.cell? ⟨b, off + k * 3 + 2, none⟩ = some (.int .i64 (z : Int))) := by
  obtain ⟨A, n, cap, rfl, h1, h2, h3, h4⟩ := h
  rw [hits_len] at h3
  obtain rfl : n = l.length := by omega
  refine ⟨A, cap, rfl, h1, h2, fun hn => ?_⟩
  obtain ⟨b, off, rfl, hc⟩ := h4 hn
  have hget : ∀ (k x y z : Nat), l[k]? = some (x, y, z) → ∀ j u, j < 3 → (hitCells (x, y, z))[j]? = some u → w.cell? ⟨b, off + (k * 3 + j), none⟩ = some u := by
    intro k x y z hk j u hj hu
    exact hc _ _ (by rw [hits_get l k j _ hk hj]; exact hu)
  have hlt : b < w.heap.size := by
    have hl : l[0]? = some (l[0]'hn) := List.getElem?_eq_getElem hn
    exact World.block_lt_of_cell? w _ (hget 0 _ _ _ hl 0 _ (by omega) rfl)
  refine ⟨b, off, rfl, hlt, fun w' hw k x y z hk => ?_⟩
  simp only [hw]
  exact ⟨hget k x y z hk 0 _ (by omega) rfl, hget k x y z hk 1 _ (by omega) rfl, hget k x y z hk 2 _ (by omega) rfl⟩

/-- Are two hits the same? -/
def hit3 (x y z x' y' z' : Int) : Bool := x == x' && (y == y' && z == z')
theorem eqIn_hit (d : Nat) (x y z x' y' z' : Int) (w : World) :
    (Op.equalIn (d + 3) 48 (.agg #[.int .i64 x, .int .i64 y, .int .i64 z]) (.agg #[.int .i64 x', .int .i64 y', .int .i64 z'])).run Try.prog w = .ok (hit3 x y z x' y' z') w := by
  have a4 := Try.isAgg3
  have u4 := Try.underlying3
  have z4 := Try.sizeOf3
  have a5 := Try.isAgg46
  have z5 := Try.sizeOf46
  have hS : Try.prog.underlying 48 = some (.struct (Try.prog.fieldsOf 48)) := by kernel_rfl
  have hp : Try.prog.stoodInHeld 48 = false := by kernel_rfl
  have hsp := eqIn_span d y z y' z' w
  rw [show d + 3 = (d + 2) + 1 from rfl, run_equalIn_agg w (d + 2) 48 _ _ hS hp]
  simp only [Program.fieldsOf, Try.underlying48]
  go_simp
  unfold hit3
  by_cases h1 : x = x' <;> by_cases h2 : y = y' <;> by_cases h3 : z = z' <;> simp [h1, h2, h3, sp2]
@[go_sem high] theorem eq10_hit (x y z x' y' z' : Int) (w : World) :
    (Op.equalIn 10000 48 (.agg #[.int .i64 x, .int .i64 y, .int .i64 z]) (.agg #[.int .i64 x', .int .i64 y', .int .i64 z'])).run Try.prog w = .ok (hit3 x y z x' y' z') w := eqIn_hit 9997 x y z x' y' z' w
theorem hit3_iff (x y z x' y' z' : Nat) : hit3 x y z x' y' z' = true ↔ (x, y, z) = (x', y', z') := by
  simp [hit3]
  omega

def HitsSame (a b : List (Nat × Nat × Nat)) (w : World) (e : Ending) (w' : World) : Prop := ∃ r : Bool, e = .returned (.bool r) ∧ (r = true ↔ a = b) ∧ Below w.heap.size w w'

set_option maxRecDepth 100000 in
set_option maxHeartbeats 4000000 in
theorem Hits_any (a b : List (Nat × Nat × Nat)) (va vb : Value) (w : World) (ha : Rd w 3 va (a.flatMap hitCells)) (hb : Rd w 3 vb (b.flatMap hitCells)) : Calls Try.prog 14 #[va, vb] w (HitsSame a b w) := by
  obtain ⟨A, ca, rfl, hca, hca2, hma⟩ := hit_open ha
  obtain ⟨B, cb, rfl, hcb, hcb2, hmb⟩ := hit_open hb
  have MA := Lib.hid hma
  have MB := Lib.hid hmb
  clear hma hmb ha hb
  by_cases hl : a.length = b.length
  · have hne : ((a.length : Int) != (b.length : Int)) = false := by rw [hl]; simp
    have HL := Lib.hid hl
    have hlen1 : a.length ≤ b.length := by omega
    have hlen2 : b.length ≤ a.length := by omega
    clear hl
    go_enter Try.func14, Try.ntmps14
    go_wp2
    go_loopw [5] (fun v5 wr => ∃ k : Nat, k ≤ a.length ∧ v5 = .int .i64 k ∧ Hid (a.take k = b.take k) ∧ Below w.heap.size w wr) (fun i _ => a.length - (intOf i).toNat)
    case atStart => exact ⟨0, by omega, rfl, Lib.hid rfl, Below.refl _ _⟩
    case round =>
      obtain ⟨k, hk, rfl, HT, hbl⟩ := hrel
      by_cases hlt : k < a.length
      · obtain ⟨b1, off1, rfl, hb1, hc1⟩ := MA.out (by omega)
        obtain ⟨b2, off2, rfl, hb2, hc2⟩ := MB.out (by omega)
        obtain ⟨n, hn⟩ := getD_get hlt
        obtain ⟨m, hm⟩ := getD_get (show k < b.length by omega)
        obtain ⟨x, y, z⟩ := n
        obtain ⟨x', y', z'⟩ := m
        obtain ⟨g0, g1, g2⟩ := hc1 wr (fun o => hbl.cell (p := ⟨b1, o, none⟩) hb1) k x y z hn
        obtain ⟨q0, q1, q2⟩ := hc2 wr (fun o => hbl.cell (p := ⟨b2, o, none⟩) hb2) k x' y' z' hm
        have hdec := hit3_iff x y z x' y' z'
        have hyes : (x, y, z) = (x', y', z') → Hid (a.take (k + 1) = b.take (k + 1)) := fun h => Lib.hid (by rw [take_snoc hn, take_snoc hm, HT.out, h])
        have hno : (x, y, z) ≠ (x', y', z') → a ≠ b := fun h => list_ne_of hn hm h
        have HY := Lib.hid hyes
        have HNO := Lib.hid hno
        have HDEC := Lib.hid hdec
        clear hyes hno hn hm hc1 hc2 hdec
        have hk0 : (0 : Int) ≤ (k : Int) := by omega
        have hk1 : (k : Int) < (a.length : Int) := by omega
        have hk2 : (k : Int) < (b.length : Int) := by omega
        cases hcase : hit3 x y z x' y' z'
        · go_wp2
          go_quiet (fail)
          go_wp2
          go_ret
          refine ⟨_, rfl, ⟨(fun h => by cases h), fun h => absurd h (HNO.out ?_)⟩, below_drewN hbl _⟩
          intro h
          have := HDEC.out.2 h
          rw [hcase] at this
          cases this
        · go_wp2
          go_quiet (fail)
          go_wp2
          go_roundw
          case rel => exact ⟨k + 1, by omega, by go_num, HY.out (HDEC.out.1 hcase), below_drewN hbl _⟩
          case measure => simp [intOf]; omega
      · obtain rfl : k = a.length := by omega
        go_wp2
        go_ret
        exact ⟨_, rfl, ⟨fun _ => list_eq_of HT.out rfl HL.out, fun _ => rfl⟩, hbl⟩
  · have hne : ((a.length : Int) != (b.length : Int)) = true := by simp; omega
    have HL := Lib.hid hl
    clear hl
    go_enter Try.func14, Try.ntmps14
    go_wp2
    go_ret
    exact ⟨false, rfl, ⟨(fun h => by cases h), fun h => absurd (by rw [h]) HL.out⟩, Below.refl _ _⟩
end Go.Proofs.Ythcahjnniendnab
