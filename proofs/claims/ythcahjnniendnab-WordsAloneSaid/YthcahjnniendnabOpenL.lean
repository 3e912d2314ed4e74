/-
  A parameter's list of strings is no longer than the form's own reach lets it be.
-/
import Derived.Test.YthcahjnniendnabOpenT
namespace Go.Proofs.Ythcahjnniendnab
open Go.RowKit Wf
open Go.ChangeShapes Go.WideShapes

theorem len_strs {H : Type} {enc : TypeId × Value → H} {w : World} {base : Nat} {spare : Nat → Bool} {held : Bool} {P : Program} {t e : TypeId} (ht : P.underlying t = some (.slice e)) (he : P.underlying e = some .string) (hc : P.cellsOf e = 1) {fuel : Nat} {A : Option Addr} {n cap : Nat} {x : DataW H × List MemPlace}
    (h : DataW.trod enc P w base spare held fuel t [.slice A n cap] = some x) : n = 0 ∨ ∃ elems sp, x.1 = .slice elems sp ∧ n ≤ elems.length + sp.length := by
  rcases Go.Deep.open_strs ht he hc h with ⟨hcs, _⟩ | ⟨a, len, cap', m, Sx, hcs, hb, hl, hm, hmm, rfl, hx⟩
  · simp at hcs
    exact .inl hcs.2.1
  · simp at hcs
    obtain ⟨rfl, rfl, rfl⟩ := hcs
    exact .inr ⟨_, _, rfl, by simp⟩
theorem sized_len {H : Type} {P : Program} {ts : List TypeId} {ds : List (DataW H)} (h : (DataW.weightsEach P ts ds).all (· ≤ reachBytes) = true) {j : Nat} {t e : TypeId} {elems sp : List (DataW H)}
    (ht : ts[j]? = some t) (hd : ds[j]? = some (.slice elems sp)) (hu : P.underlying t = some (.slice e)) : (elems.length + sp.length) * P.bytesOf e ≤ reachBytes := by
  refine of_decide_eq_true (List.all_eq_true.1 h _ (DataW.weights_mem_each ht hd _ ?_))
  simp [DataW.weights, hu]
theorem rd_len {w : World} {A : Option Addr} {n cap : Nat} {l : List ByteArray} (h : Rd1 w (.slice A n cap) (l.map Value.string)) : l.length = n := by
  obtain ⟨A', n', c', hv, _, _, hl, _⟩ := h
  injection hv with _ e _
  simp at hl
  omega
end Go.Proofs.Ythcahjnniendnab
