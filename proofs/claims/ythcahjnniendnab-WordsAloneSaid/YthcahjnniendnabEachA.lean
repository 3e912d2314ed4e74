/-
  slices.Sorted(slices.Values(..)) at rows of ints; what words.Net.Each tells, plain.
-/
import Derived.Test.YthcahjnniendnabSort
import Derived.Test.YthcahjnniendnabVals
namespace Wf
theorem nodup_of : ∀ (ys xs : List Nat), xs.Nodup → (∀ j ∈ xs, j ∈ ys) → ys.length ≤ xs.length → ys.Nodup
  | [], _, _, _, _ => List.nodup_nil
  | y :: r, xs, hn, h, hl => by
    have hyr : y ∉ r := fun hy => by
      have := List.Nodup.length_le_of_subset hn (l₂ := r) (fun j hj => by
        rcases List.mem_cons.1 (h j hj) with rfl | h
        · exact hy
        · exact h)
      simp at hl
      omega
    refine List.nodup_cons.2 ⟨hyr, nodup_of r (xs.erase y) (hn.erase y) (fun j hj => ?_) ?_⟩
    · have h2 := (hn.mem_erase_iff).1 hj
      rcases List.mem_cons.1 (h j h2.2) with rfl | h
      · exact absurd rfl h2.1
      · exact h
    · have := List.le_length_erase (a := y) (l := xs)
      simp at hl
      omega
theorem endl_sorted {ws : List (List UInt8)} {t : List UInt8} {l l' : List Nat} (h : EndL ws t l) (hm : ∀ j, j ∈ l' ↔ j ∈ l) (hl : l'.length = l.length) (hs : l'.Pairwise (· ≤ ·)) : l' = endAt ws t := by
  have hn := nodup_of l' l h.1 (fun j hj => (hm j).2 hj) (Nat.le_of_eq hl)
  refine sorted_uniq l' _ ?_ (endAt_up ws t) fun j => by rw [hm, h.2, endAt_mem]
  have hb : l'.Pairwise fun x y => x ≤ y ∧ x ≠ y := List.pairwise_and_iff.2 ⟨hs, hn⟩
  exact hb.imp fun h => by omega
/-- What is told, place by place: the word and where it ends. -/
def toldAt (ws : List (List UInt8)) (t : List UInt8) (e : Nat) : List (Nat × Nat) := (endAt ws (t.take e)).map fun i => (i, e)
def toldTo (ws : List (List UInt8)) (t : List UInt8) (n : Nat) : List (Nat × Nat) := (List.range n).flatMap fun i => toldAt ws t (i + 1)
theorem toldTo_succ (ws : List (List UInt8)) (t : List UInt8) (n : Nat) : toldTo ws t (n + 1) = toldTo ws t n ++ toldAt ws t (n + 1) := by
  simp [toldTo, List.range_succ, List.flatMap_append]
theorem told_hits (ws : List (List UInt8)) (t : List UInt8) (n : Nat) : (toldTo ws t n).map (fun p => (p.1, p.2 - (ws.getD p.1 []).length, p.2)) = hitsTo ws t n := by
  induction n with
  | zero => simp [toldTo, hitsTo]
  | succ n ih =>
    rw [toldTo_succ, hitsTo_succ, List.map_append, ih]
    congr 1
    unfold toldAt hitsAt
    rw [List.map_map]
    rfl
end Wf
namespace Go.Proofs.Ythcahjnniendnab
open Go.RowKit Wf

set_option maxRecDepth 100000 in
set_option maxHeartbeats 1000000 in
theorem Values_c (A : Option Addr) (n cap : Nat) (w : World) : Calls Try.prog 39 #[.slice A n cap] w (fun e w' => e = .returned (.func (.func 51) #[] #[.pointer (some ⟨w.heap.size, 0, none⟩)]) ∧ w' = w.alloc (.cells #[.slice A n cap] 34)) := by
  have hmf : ∀ (fn : Fn) (first cap : Array Value) (w : World), (Instr.makeFunc fn first cap).run Try.prog w = .ok (.func fn first cap) w := fun _ _ _ _ => rfl
  go_enter Try.func39, Try.ntmps39
  go_wp2_with fail
  go_ret
  exact ⟨rfl, rfl⟩

set_option maxRecDepth 100000 in
set_option maxHeartbeats 1000000 in
theorem Collect_c (Bs : Nat) (sv : Value) (zs : List Nat) (hlen : zs.length ≤ 10000) (w : World) (hc : w.cell? ⟨Bs, 0, none⟩ = some sv) (hI : VInts w.heap.size w sv zs) :
    Calls Try.prog 49 #[.func (.func 51) #[] #[.pointer (some ⟨Bs, 0, none⟩)]] w (fun e w' => ∃ A cap, e = .returned (.slice A zs.length cap) ∧ RowK w w' (.slice A zs.length cap) zs ∧ Below w.heap.size w w') := by
  obtain ⟨N, hN⟩ : ∃ N, N = zs.length := ⟨_, rfl⟩
  have HA : Hid (Calls Try.prog 53 #[.slice none 0 0, .func (.func 51) #[] #[.pointer (some ⟨Bs, 0, none⟩)]] w (fun e w' => ∃ A cap, e = .returned (.slice A N cap) ∧ RowK w w' (.slice A N cap) zs ∧ Below w.heap.size w w')) := Lib.hid (by rw [hN]; exact AppendSeq_c Bs sv zs hlen w hc hI)
  rw [← hN]
  clear hc hI hN
  go_enter Try.func49, Try.ntmps49
  go_wp2_with (go_at_call 53; refine HA.out.mono ?_; rintro e w' ⟨A, cap, rfl, h1, h2⟩)
  go_ret
  exact ⟨A, cap, rfl, h1, h2⟩

def SortedIs (xs : List Nat) (N : Nat) (w : World) (e : Ending) (w' : World) : Prop := ∃ A cap ys, e = .returned (.slice A N cap) ∧ ys.length = xs.length ∧ (∀ j, j ∈ ys ↔ j ∈ xs) ∧ ys.Pairwise (· ≤ ·) ∧ w'.ownsRow w.heap.size 3 1 (.slice A N cap) N (natVals ys) ∧ Below w.heap.size w w'

set_option maxRecDepth 100000 in
set_option maxHeartbeats 1000000 in
theorem Sorted_c (Bs : Nat) (sv : Value) (zs : List Nat) (hlen : zs.length ≤ 1000) (N : Nat) (hN : N = zs.length) (w : World) (hc : w.cell? ⟨Bs, 0, none⟩ = some sv) (hI : VInts w.heap.size w sv zs) :
    Calls Try.prog 38 #[.func (.func 51) #[] #[.pointer (some ⟨Bs, 0, none⟩)]] w (SortedIs zs N w) := by
  have HA : Hid (Calls Try.prog 49 #[.func (.func 51) #[] #[.pointer (some ⟨Bs, 0, none⟩)]] w (fun e w' => ∃ A cap, e = .returned (.slice A N cap) ∧ RowK w w' (.slice A N cap) zs ∧ Below w.heap.size w w')) := Lib.hid (by rw [hN]; exact Collect_c Bs sv zs (by omega) w hc hI)
  have HS : Hid (∀ (v : Value) (w1 : World), w1.ownsRow w.heap.size 3 1 v N (natVals zs) → Calls Try.prog 50 #[v] w1 (SortIs w.heap.size zs v w1)) := Lib.hid (fun v w1 h => Sort_c w.heap.size zs v w1 (by rw [← hN]; exact h) hlen)
  have HN := Lib.hid hN
  clear hc hI hN
  unfold SortedIs
  go_enter Try.func38, Try.ntmps38
  go_wp2_with (first
    | (go_at_call 49; refine HA.out.mono ?_; rintro e w1 ⟨A, cap, rfl, hrow1, hb1⟩; have HR1 := Lib.hid hrow1; clear hrow1)
    | (go_at_call 50; refine (HS.out _ w1 (by have := HR1.out.2; rw [← HN.out] at this; exact this)).mono ?_; rintro e w2 ⟨rfl, ys, h1, h2, h3, h4, h5⟩))
  go_ret
  refine ⟨A, cap, ys, rfl, h1, h2, h3, by rw [HN.out] at h4 ⊢; exact h4, hb1.grown h5 hb1.size (fun g hg => (HR1.out.2.lt g hg).1)⟩
end Go.Proofs.Ythcahjnniendnab
