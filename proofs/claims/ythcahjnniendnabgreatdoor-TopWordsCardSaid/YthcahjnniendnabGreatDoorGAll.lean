/-
  AllC, Hit.
-/
import Derived.Test.YthcahjnniendnabGreatDoorGEach
import Derived.Test.YthcahjnniendnabGreatDoorGRex
import Derived.Test.YthcahjnniendnabGreatDoorSpan
/-
  words.All: its two ways told shortly.
-/
namespace Go.Proofs.YthcahjnniendnabGreatDoor
open Go.RowKit Wf

/-- What words.All says of words and a text: 0, or the fault. -/
noncomputable def chkAll (l : List ByteArray) (s : ByteArray) : Int := if chkW l ≠ 0 then chkW l else if 400 < s.size then 3 else 0
theorem chkAll_zero {l : List ByteArray} {s : ByteArray} : chkAll l s = 0 ↔ okW l ∧ s.size ≤ 400 := by
  unfold chkAll
  by_cases h : chkW l = 0
  · rw [if_neg (by simpa using h)]
    by_cases h2 : 400 < s.size
    · rw [if_pos h2]
      exact ⟨fun h => absurd h (by decide), fun h => by omega⟩
    · rw [if_neg h2]
      exact ⟨fun _ => ⟨chkW_ok.1 h, by omega⟩, fun _ => rfl⟩
  · rw [if_pos h]
    exact ⟨fun h' => absurd h' h, fun h' => absurd (chkW_ok.2 h'.1) h⟩
def wsOf (l : List ByteArray) : List (List UInt8) := l.map fun s => s.data.toList

theorem All_err (l : List ByteArray) (lv : Value) (s : ByteArray) (w : World) (hr : Rd1 w lv (strVals l)) (hlen : l.length ≤ 9223372036854775807) (hsz : ∀ s ∈ l, s.size ≤ 9223372036854775807) (h : chkAll l s ≠ 0) :
    Calls Tryz.prog 9 #[lv, .string s] w (fun e w' => e = .returned (.tuple #[.slice none 0 0, .iface 31 (.int .i64 (chkAll l s))]) ∧ Below w.heap.size w w') := by
  unfold chkAll at h ⊢
  by_cases hc : chkW l = 0
  · rw [if_neg (by simpa using hc)] at h ⊢
    by_cases h2 : 400 < s.size
    · rw [if_pos h2]
      exact (All_long l lv s w hr (chkW_ok.1 hc) h2).mono fun e w' ⟨h1, h2⟩ => ⟨by rw [h1, errV_ne (by decide)], h2⟩
    · rw [if_neg h2] at h
      exact absurd rfl h
  · rw [if_pos hc]
    exact (All_bad l lv s w hr hlen hsz hc).mono fun e w' ⟨h1, h2⟩ => ⟨by rw [h1, errV_ne hc], h2⟩
theorem All_fine (l : List ByteArray) (lv : Value) (s : ByteArray) (w : World) (hr : Rd1 w lv (strVals l)) (h : chkAll l s = 0) (S : List (Nat × Nat × Nat)) (hS : S = hitsL (wsOf l) s.data.toList) (N : Nat) (hN : N = S.length) :
    Calls Tryz.prog 9 #[lv, .string s] w (fun e w' => ∃ B c, e = .returned (.tuple #[.slice B N c, .nilIface]) ∧ Rd w' 3 (.slice B N c) (S.flatMap hitCells) ∧ Below w.heap.size w w') := by
  obtain ⟨hok, hs⟩ := chkAll_zero.1 h
  refine (All_ok l lv s w hr hok hs (wsOf l) rfl).mono ?_
  rintro e w' ⟨B, c, h1, h2, h3⟩
  rw [← hS, ← hN] at h1 h2
  exact ⟨B, c, h1, Rd.of_own h2, h3⟩
end Go.Proofs.YthcahjnniendnabGreatDoor

/-
  Rows of hits in memory; two hits compared; the walk of package winnowfansame's Hits.
-/
namespace Go.Proofs.YthcahjnniendnabGreatDoor
open Go.RowKit Wf

theorem hits_get (l : List (Nat × Nat × Nat)) : ∀ (k j : Nat) (h : Nat × Nat × Nat), l[k]? = some h → j < 3 → (l.flatMap hitCells)[k * 3 + j]? = (hitCells h)[j]? := by
  induction l with
  | nil => intro k j x h; simp at h
  | cons m r ih =>
    intro k j x h hj
    rcases k with _ | k
    · simp at h
      subst h
      simp only [List.flatMap_cons, Nat.zero_mul, Nat.zero_add]
      rw [List.getElem?_append_left (by simpa [hitCells] using hj)]
    · simp only [List.flatMap_cons]
      rw [List.getElem?_append_right (by simp [hitCells]; omega)]
      have e : (k + 1) * 3 + j - (hitCells m).length = k * 3 + j := by simp [hitCells]; omega
      rw [e]
      exact ih k j x (by simpa using h) hj
theorem hit_open {w : World} {v : Value} {l : List (Nat × Nat × Nat)} (h : Rd w 3 v (l.flatMap hitCells)) : ∃ (A : Option Addr) (cap : Nat), v = .slice A l.length cap ∧ l.length ≤ cap ∧ cap ≤ 9223372036854775807 ∧
    (0 < l.length → ∃ b off, A = some ⟨b, off, none⟩ ∧ b < w.heap.size ∧ ∀ (w' : World), (∀ o, w'.cell? ⟨b, o, none⟩ = w.cell? ⟨b, o, none⟩) → ∀ (k x y z : Nat), l[k]? = some (x, y, z) → w'.cell? ⟨b, off + k * 3, none⟩ = some (.int .i64 (x : Int)) ∧ w'.cell? ⟨b, off + k * 3 + 1, none⟩ = some (.int .i64 (y : Int)) ∧ w'.cell? ⟨b, off + k * 3 + 2, none⟩ = some (.int .i64 (z : Int))) := by
  obtain ⟨A, n, cap, rfl, h1, h2, h3, h4⟩ := h
  rw [hits_len] at h3
  obtain rfl : n = l.length := by omega
  refine ⟨A, cap, rfl, h1, h2, fun hn => ?_⟩
  obtain ⟨b, off, rfl, hc⟩ := h4 hn
  have hget : ∀ (k x y z : Nat), l[k]? = some (x, y, z) → ∀ j u, j < 3 → (hitCells (x, y, z))[j]? = some u → w.cell? ⟨b, off + (k * 3 + j), none⟩ = some u := by
    intro k x y z hk j u hj hu
    exact hc _ _ (by rw [hits_get l k j _ hk hj]; exact hu)
  have hlt : b < w.heap.size := by
    have hl : l[0]? = some (l[0]'hn) := List.getElem?_eq_getElem hn
    exact World.block_lt_of_cell? w _ (hget 0 _ _ _ hl 0 _ (by omega) rfl)
  refine ⟨b, off, rfl, hlt, fun w' hw k x y z hk => ?_⟩
  simp only [hw]
  exact ⟨hget k x y z hk 0 _ (by omega) rfl, hget k x y z hk 1 _ (by omega) rfl, hget k x y z hk 2 _ (by omega) rfl⟩

/-- Are two hits the same? -/
def hit3 (x y z x' y' z' : Int) : Bool := x == x' && (y == y' && z == z')
theorem eqIn_hit (d : Nat) (x y z x' y' z' : Int) (w : World) :
    (Op.equalIn (d + 3) 49 (.agg #[.int .i64 x, .int .i64 y, .int .i64 z]) (.agg #[.int .i64 x', .int .i64 y', .int .i64 z'])).run Tryz.prog w = .ok (hit3 x y z x' y' z') w := by
  have a4 := Tryz.isAgg3
  have u4 := Tryz.underlying3
  have z4 := Tryz.sizeOf3
  have a5 := Tryz.isAgg25
  have z5 := Tryz.sizeOf25
  have hS : Tryz.prog.underlying 49 = some (.struct (Tryz.prog.fieldsOf 49)) := by kernel_rfl
  have hp : Tryz.prog.stoodInHeld 49 = false := by kernel_rfl
  have hsp := eqIn_span d y z y' z' w
  rw [show d + 3 = (d + 2) + 1 from rfl, run_equalIn_agg w (d + 2) 49 _ _ hS hp]
  simp only [Program.fieldsOf, Tryz.underlying49]
  go_simp
  unfold hit3
  by_cases h1 : x = x' <;> by_cases h2 : y = y' <;> by_cases h3 : z = z' <;> simp [h1, h2, h3, sp2]
@[go_sem high] theorem eq10_hit (x y z x' y' z' : Int) (w : World) :
    (Op.equalIn 10000 49 (.agg #[.int .i64 x, .int .i64 y, .int .i64 z]) (.agg #[.int .i64 x', .int .i64 y', .int .i64 z'])).run Tryz.prog w = .ok (hit3 x y z x' y' z') w := eqIn_hit 9997 x y z x' y' z' w
theorem hit3_iff (x y z x' y' z' : Nat) : hit3 x y z x' y' z' = true ↔ (x, y, z) = (x', y', z') := by
  simp [hit3]
  omega

def HitsSame (a b : List (Nat × Nat × Nat)) (w : World) (e : Ending) (w' : World) : Prop := ∃ r : Bool, e = .returned (.bool r) ∧ (r = true ↔ a = b) ∧ Below w.heap.size w w'

end Go.Proofs.YthcahjnniendnabGreatDoor
