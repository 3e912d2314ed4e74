/-
  A parameter's data as a list of strings, each within the form's own reach.
-/
import Derived.Test.YthcahjnniendnadGreatDoorMem
import Derived.Deep.Strs
import Derived.SizedLaws
namespace Go.Proofs.YthcahjnniendnadGreatDoor
open Go.RowKit Wf
open Go.ChangeShapes Go.WideShapes

section
variable {H : Type} {enc : TypeId × Value → H} {w : World} {base : Nat} {spare : Nat → Bool} {held : Bool}

theorem open_strs1 {P : Program} {t e : TypeId} (ht : P.underlying t = some (.slice e)) (he : P.underlying e = some .string) (hc : P.cellsOf e = 1) {fuel : Nat} {A : Option Addr} {n cap : Nat} {x : DataW H × List MemPlace}
    (h : DataW.trod enc P w base spare held fuel t [.slice A n cap] = some x) :
    ∃ l : List ByteArray, Rd1 w (.slice A n cap) (l.map Value.string) ∧ (∀ s ∈ l, s.size ≤ maxLen) ∧ ∀ s ∈ l, ∃ elems sp, x.1 = .slice elems sp ∧ DataW.lit (.string s.data.toList) ∈ elems := by
  rcases Go.Deep.open_strs ht he hc h with ⟨hcs, _⟩ | ⟨a, len, cap', m, Sx, hcs, hb, hl, hm, hmm, rfl, hx⟩
  · simp at hcs
    obtain ⟨rfl, rfl, rfl⟩ := hcs
    exact ⟨[], Rd.nil w 1, by simp, by simp⟩
  · simp at hcs
    obtain ⟨rfl, rfl, rfl⟩ := hcs
    have hle : n ≤ m := by rw [hmm]; split <;> omega
    refine ⟨(List.range n).map Sx, ⟨_, n, cap, rfl, hl, by unfold maxLen at hm; omega, by simp, fun hn => ?_⟩, fun s hs => ?_, fun s hs => ?_⟩
    · obtain ⟨b, off, spot⟩ := a
      have hc0 := (hx 0 (by omega)).1
      have hspot : spot = none := by simpa [Addr.add] using World.cell?_spot hc0
      subst hspot
      refine ⟨b, off, rfl, fun j u hu => ?_⟩
      have hj : j < n := by have := (List.getElem?_eq_some_iff.1 hu).1; simpa using this
      rw [← add_mk, (hx j (by omega)).1]
      simp [hj] at hu
      rw [← hu]
    · obtain ⟨i, hi, rfl⟩ := List.mem_map.1 hs
      exact (hx i (by have := List.mem_range.1 hi; omega)).2
    · obtain ⟨i, hi, rfl⟩ := List.mem_map.1 hs
      exact ⟨_, _, rfl, List.mem_map.2 ⟨i, hi, rfl⟩⟩

theorem weightsAll_in {P : Program} {e : TypeId} {l : List (DataW H)} {d : DataW H} (hd : d ∈ l) (n : Nat) (hn : n ∈ d.weights P e) : n ∈ DataW.weightsAll P e l := by
  induction l with
  | nil => cases hd
  | cons a r ih =>
    simp only [DataW.weightsAll, List.mem_append]
    rcases List.mem_cons.1 hd with rfl | h
    · exact .inl hn
    · exact .inr (ih h)
/-- The form's own reach, of a string inside a slice. -/
theorem sized_strs {P : Program} {ts : List TypeId} {ds : List (DataW H)} (h : (DataW.weightsEach P ts ds).all (· ≤ reachBytes) = true) {j : Nat} {t e : TypeId} {elems sp : List (DataW H)}
    (ht : ts[j]? = some t) (hd : ds[j]? = some (.slice elems sp)) (hu : P.underlying t = some (.slice e)) {bytes : List UInt8} (hx : DataW.lit (.string bytes) ∈ elems) : bytes.length ≤ reachBytes := by
  refine of_decide_eq_true (List.all_eq_true.1 h _ (DataW.weights_mem_each ht hd _ ?_))
  simp only [DataW.weights, hu, List.mem_cons, List.mem_append]
  exact .inr (.inl (weightsAll_in hx _ (by simp [DataW.weights])))
end

end Go.Proofs.YthcahjnniendnadGreatDoor
