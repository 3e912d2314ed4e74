/-
  OpenI, OpenT, OpenL.
-/
import Derived.Test.YthcahjnniendnabGreatDoorMem
import Derived.Test.YthcahjnniendnabGreatDoorMemS
import Derived.Test.YthcahjnniendnabGreatDoorOpen
import Derived.Deep.Strs
import Derived.SizedLaws
/-
  Further arguments of a law, opened: rows of numbers, of texts, of steps; by one lemma on rows of whatever.
-/
namespace Go.Proofs.YthcahjnniendnabGreatDoor
open Go.ChangeShapes Go.WideShapes Go.ChangeAt Go.RowKit Go.Deep Wf

section
variable {H : Type} {enc : TypeId × Value → H} {w : World} {base : Nat} {spare : Nat → Bool} {held : Bool}

theorem flat_len {α : Type} (cells : α → List Value) (sz : Nat) (hlen : ∀ x, (cells x).length = sz) (l : List α) : (l.flatMap cells).length = l.length * sz := by
  induction l with
  | nil => simp
  | cons a r ih => simp [ih, hlen, Nat.add_mul]; omega
set_option maxRecDepth 10000 in
theorem open_row {α : Type} (cells : α → List Value) (ok : α → Prop) (sz : Nat) (hsz : 0 < sz) (hlen : ∀ x, (cells x).length = sz) {t e : TypeId} (ht : Tryz.prog.underlying t = some (.slice e)) (hce : Tryz.prog.cellsOf e = sz)
    (hel : ∀ {fuel : Nat} {cs : List Value} {x : DataW H × List MemPlace}, DataW.trod enc Tryz.prog w base spare held fuel e cs = some x → ∃ y, ok y ∧ cs = cells y)
    {fuel : Nat} {A : Option Addr} {n cap : Nat} {x : DataW H × List MemPlace} (h : DataW.trod enc Tryz.prog w base spare held fuel t [.slice A n cap] = some x) :
    ∃ l : List α, Rd w sz (.slice A n cap) (l.flatMap cells) ∧ l.length = n ∧ ∀ y ∈ l, ok y := by
  rcases open_slice ht h with ⟨hcs, _⟩ | ⟨a, len, cap', m, k, D, Pl, hcs, hb, hl, hm, hmm, hx, hi⟩
  · simp at hcs
    obtain ⟨rfl, rfl, rfl⟩ := hcs
    exact ⟨[], Rd.nil w sz, rfl, by simp⟩
  · simp at hcs
    obtain ⟨rfl, rfl, rfl⟩ := hcs
    have hle : n ≤ m := by rw [hmm]; split <;> omega
    rw [hce] at hi
    have build : ∀ q, q ≤ n → ∃ l : List α, l.length = q ∧ (∀ y ∈ l, ok y) ∧ ∀ j u, (l.flatMap cells)[j]? = some u → w.cell? (a.add j) = some u := by
      intro q
      induction q with
      | zero => intro _; exact ⟨[], rfl, by simp, by simp⟩
      | succ q ih =>
        intro hq
        obtain ⟨l, hl1, hl2, hl3⟩ := ih (by omega)
        obtain ⟨cs', hc1, hc2⟩ := hi q (by omega)
        obtain ⟨y, hok, rfl⟩ := hel hc2
        obtain ⟨_, _, hc⟩ := World.cells?_some hc1
        refine ⟨l ++ [y], by simp [hl1], fun y' hy => by
          rcases List.mem_append.1 hy with hy | hy
          · exact hl2 y' hy
          · simp at hy; subst hy; exact hok, fun j u hu => ?_⟩
        rw [List.flatMap_append] at hu
        by_cases hj : j < (l.flatMap cells).length
        · rw [List.getElem?_append_left hj] at hu
          exact hl3 j u hu
        · rw [List.getElem?_append_right (by omega)] at hu
          have hlen' : (l.flatMap cells).length = q * sz := by rw [flat_len cells sz hlen, hl1]
          rw [hlen'] at hu hj
          have hlt : j - q * sz < sz := by
            have := (List.getElem?_eq_some_iff.1 hu).1
            simpa [hlen] using this
          have := hc (j - q * sz) hlt
          have e' : (a.add (q * sz)).add (j - q * sz) = a.add j := by
            rw [Go.Deep.add_add]; congr 1; omega
          rw [e'] at this
          rw [this, ← hu]
          simp
    obtain ⟨l, hl1, hl2, hl3⟩ := build n (Nat.le_refl _)
    refine ⟨l, ⟨_, n, cap, rfl, hl, by unfold maxLen at hm; omega, by rw [flat_len cells sz hlen, hl1], fun hn => ?_⟩, hl1, hl2⟩
    obtain ⟨b, off, spot⟩ := a
    have hpos : 0 < (l.flatMap cells).length := by rw [flat_len cells sz hlen, hl1]; exact Nat.mul_pos hn hsz
    have hc0 := hl3 0 _ (List.getElem?_eq_getElem hpos)
    have hspot : spot = none := by simpa [Addr.add] using World.cell?_spot hc0
    subst hspot
    exact ⟨b, off, rfl, fun j u hu => by rw [← add_mk]; exact hl3 j u hu⟩

set_option maxRecDepth 10000
theorem flat_one {α : Type} (f : α → Value) (l : List α) : (l.flatMap fun x => [f x]) = l.map f := by
  induction l with
  | nil => rfl
  | cons a r ih => simp [ih]

theorem open_ints1 {fuel : Nat} {A : Option Addr} {n cap : Nat} {x : DataW H × List MemPlace} (h : DataW.trod enc Tryz.prog w base spare held fuel 45 [.slice A n cap] = some x) :
    ∃ l : List Int, Rd1 w (.slice A n cap) (l.map (Value.int .i64)) ∧ ∀ y ∈ l, (Lit.int .i64 y).wf = true := by
  obtain ⟨l, h1, _, h2⟩ := open_row (fun y : Int => [Value.int .i64 y]) (fun y => (Lit.int .i64 y).wf = true) 1 (by omega) (fun _ => rfl) Tryz.underlying45 cellsOf_int (fun {fuel} {cs} {x} hd => by obtain ⟨a, e0, _, wa⟩ := DataW.trod_int Tryz.underlying3 hd; exact ⟨a, wa, e0⟩) h
  rw [flat_one] at h1
  exact ⟨l, h1, h2⟩

end

end Go.Proofs.YthcahjnniendnabGreatDoor

/-
  A parameter's data as a list of strings, each within the form's own reach.
-/
namespace Go.Proofs.YthcahjnniendnabGreatDoor
open Go.RowKit Wf
open Go.ChangeShapes Go.WideShapes

section
variable {H : Type} {enc : TypeId × Value → H} {w : World} {base : Nat} {spare : Nat → Bool} {held : Bool}

theorem open_strs1 {P : Program} {t e : TypeId} (ht : P.underlying t = some (.slice e)) (he : P.underlying e = some .string) (hc : P.cellsOf e = 1) {fuel : Nat} {A : Option Addr} {n cap : Nat} {x : DataW H × List MemPlace}
    (h : DataW.trod enc P w base spare held fuel t [.slice A n cap] = some x) :
    ∃ l : List ByteArray, Rd1 w (.slice A n cap) (l.map Value.string) ∧ (∀ s ∈ l, s.size ≤ maxLen) ∧ ∀ s ∈ l, ∃ elems sp, x.1 = .slice elems sp ∧ DataW.lit (.string s.data.toList) ∈ elems := by
  rcases Go.Deep.open_strs ht he hc h with ⟨hcs, _⟩ | ⟨a, len, cap', m, Sx, hcs, hb, hl, hm, hmm, rfl, hx⟩
  · simp at hcs
    obtain ⟨rfl, rfl, rfl⟩ := hcs
    exact ⟨[], Rd.nil w 1, by simp, by simp⟩
  · simp at hcs
    obtain ⟨rfl, rfl, rfl⟩ := hcs
    have hle : n ≤ m := by rw [hmm]; split <;> omega
    refine ⟨(List.range n).map Sx, ⟨_, n, cap, rfl, hl, by unfold maxLen at hm; omega, by simp, fun hn => ?_⟩, fun s hs => ?_, fun s hs => ?_⟩
    · obtain ⟨b, off, spot⟩ := a
      have hc0 := (hx 0 (by omega)).1
      have hspot : spot = none := by simpa [Addr.add] using World.cell?_spot hc0
      subst hspot
      refine ⟨b, off, rfl, fun j u hu => ?_⟩
      have hj : j < n := by have := (List.getElem?_eq_some_iff.1 hu).1; simpa using this
      rw [← add_mk, (hx j (by omega)).1]
      simp [hj] at hu
      rw [← hu]
    · obtain ⟨i, hi, rfl⟩ := List.mem_map.1 hs
      exact (hx i (by have := List.mem_range.1 hi; omega)).2
    · obtain ⟨i, hi, rfl⟩ := List.mem_map.1 hs
      exact ⟨_, _, rfl, List.mem_map.2 ⟨i, hi, rfl⟩⟩

theorem weightsAll_in {P : Program} {e : TypeId} {l : List (DataW H)} {d : DataW H} (hd : d ∈ l) (n : Nat) (hn : n ∈ d.weights P e) : n ∈ DataW.weightsAll P e l := by
  induction l with
  | nil => cases hd
  | cons a r ih =>
    simp only [DataW.weightsAll, List.mem_append]
    rcases List.mem_cons.1 hd with rfl | h
    · exact .inl hn
    · exact .inr (ih h)
/-- The form's own reach, of a string inside a slice. -/
theorem sized_strs {P : Program} {ts : List TypeId} {ds : List (DataW H)} (h : (DataW.weightsEach P ts ds).all (· ≤ reachBytes) = true) {j : Nat} {t e : TypeId} {elems sp : List (DataW H)}
    (ht : ts[j]? = some t) (hd : ds[j]? = some (.slice elems sp)) (hu : P.underlying t = some (.slice e)) {bytes : List UInt8} (hx : DataW.lit (.string bytes) ∈ elems) : bytes.length ≤ reachBytes := by
  refine of_decide_eq_true (List.all_eq_true.1 h _ (DataW.weights_mem_each ht hd _ ?_))
  simp only [DataW.weights, hu, List.mem_cons, List.mem_append]
  exact .inr (.inl (weightsAll_in hx _ (by simp [DataW.weights])))
end

end Go.Proofs.YthcahjnniendnabGreatDoor

/-
  A parameter's list of strings is no longer than the form's own reach lets it be.
-/
namespace Go.Proofs.YthcahjnniendnabGreatDoor
open Go.RowKit Wf
open Go.ChangeShapes Go.WideShapes

theorem len_strs {H : Type} {enc : TypeId × Value → H} {w : World} {base : Nat} {spare : Nat → Bool} {held : Bool} {P : Program} {t e : TypeId} (ht : P.underlying t = some (.slice e)) (he : P.underlying e = some .string) (hc : P.cellsOf e = 1) {fuel : Nat} {A : Option Addr} {n cap : Nat} {x : DataW H × List MemPlace}
    (h : DataW.trod enc P w base spare held fuel t [.slice A n cap] = some x) : n = 0 ∨ ∃ elems sp, x.1 = .slice elems sp ∧ n ≤ elems.length + sp.length := by
  rcases Go.Deep.open_strs ht he hc h with ⟨hcs, _⟩ | ⟨a, len, cap', m, Sx, hcs, hb, hl, hm, hmm, rfl, hx⟩
  · simp at hcs
    exact .inl hcs.2.1
  · simp at hcs
    obtain ⟨rfl, rfl, rfl⟩ := hcs
    exact .inr ⟨_, _, rfl, by simp⟩
theorem sized_len {H : Type} {P : Program} {ts : List TypeId} {ds : List (DataW H)} (h : (DataW.weightsEach P ts ds).all (· ≤ reachBytes) = true) {j : Nat} {t e : TypeId} {elems sp : List (DataW H)}
    (ht : ts[j]? = some t) (hd : ds[j]? = some (.slice elems sp)) (hu : P.underlying t = some (.slice e)) : (elems.length + sp.length) * P.bytesOf e ≤ reachBytes := by
  refine of_decide_eq_true (List.all_eq_true.1 h _ (DataW.weights_mem_each ht hd _ ?_))
  simp [DataW.weights, hu]
theorem rd_len {w : World} {A : Option Addr} {n cap : Nat} {l : List ByteArray} (h : Rd1 w (.slice A n cap) (l.map Value.string)) : l.length = n := by
  obtain ⟨A', n', c', hv, _, _, hl, _⟩ := h
  injection hv with _ e _
  simp at hl
  omega
end Go.Proofs.YthcahjnniendnabGreatDoor
