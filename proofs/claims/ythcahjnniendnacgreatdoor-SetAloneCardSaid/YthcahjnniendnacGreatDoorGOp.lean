/-
  Open, OpenI.
-/
import Derived.Test.YthcahjnniendnacGreatDoorGPl
import Derived.Test.YthcahjnniendnacGreatDoorMem
import Derived.Test.YthcahjnniendnacGreatDoorMemS
import Derived.Test.YthcahjnniendnacGreatDoorRows
import Derived.ProofKit
import Derived.OpenShut
import Derived.Deep.Slices
import Derived.Deep.Fields
import Derived.Lib.SmallJoins
/-
  The arguments of a law, opened: a row of nodes, a row of numbers, a row of texts, a class.
-/
namespace Go.Proofs.YthcahjnniendnacGreatDoor
open Go.ChangeShapes Go.WideShapes Go.ChangeAt Go.RowKit Go.Deep Wf


def okNd (n : Nd) : Prop := -9223372036854775808 ≤ n.op ∧ n.op ≤ 9223372036854775807 ∧ okC n.cls

theorem wf_u64_nat {n : Int} (h : (Lit.int .u64 n).wf = true) : ∃ m : Nat, n = (m : Int) ∧ m < 18446744073709551616 := by
  have hb : 0 ≤ n ∧ n ≤ 18446744073709551615 := by
    simp [Lit.wf, IntKind.min, IntKind.max, IntKind.signed, IntKind.bits] at h
    omega
  exact ⟨n.toNat, by omega, by omega⟩
theorem wf_i64_bd {n : Int} (h : (Lit.int .i64 n).wf = true) : -9223372036854775808 ≤ n ∧ n ≤ 9223372036854775807 := by
  simp [Lit.wf, IntKind.min, IntKind.max, IntKind.signed, IntKind.bits] at h
  omega

theorem list4 {α : Type} {l : List α} (h : l.length = 4) : ∃ a b c d, l = [a, b, c, d] := by
  match l, h with
  | [a, b, c, d], _ => exact ⟨a, b, c, d, rfl⟩
theorem list5 {α : Type} {l : List α} (h : l.length = 5) : ∃ a b c d e, l = [a, b, c, d, e] := by
  match l, h with
  | [a, b, c, d, e], _ => exact ⟨a, b, c, d, e, rfl⟩

theorem cellsOf_node : Tryz.prog.cellsOf 41 = 5 := by kernel_rfl
theorem cellsOf_cls : Tryz.prog.cellsOf 39 = 4 := by kernel_rfl
theorem cellsOf_int : Tryz.prog.cellsOf 3 = 1 := by kernel_rfl
theorem cellsOf_u64 : Tryz.prog.cellsOf 37 = 1 := by kernel_rfl

section
variable {H : Type} {enc : TypeId × Value → H} {w : World} {base : Nat} {spare : Nat → Bool} {held : Bool}

theorem okWide_array {P : Program} {W : World} {r : Reach} {n : Nat} {e : TypeId} {t : TypeId} {v : Value} {bs : Nat} (ht : P.underlying t = some (.array n e)) (h : Value.okWide P W r bs t v) : ∃ cs, v = .agg cs ∧ cs.size = P.cellsOf t := by
  simp only [Value.okWide, ht] at h
  obtain ⟨cs, h1, h2, _⟩ := h
  exact ⟨cs, h1, h2⟩

theorem open_cls {fuel : Nat} {cs : List Value} {x : DataW H × List MemPlace} (h : DataW.trod enc Tryz.prog w base spare held fuel 39 cs = some x) :
    ∃ c : Cls, okC c ∧ cs = [.int .u64 (c.1 : Int), .int .u64 (c.2.1 : Int), .int .u64 (c.2.2.1 : Int), .int .u64 (c.2.2.2 : Int)] := by
  obtain ⟨xs, m, _, _, hl, hxl, hg⟩ := DataW.trod_array Tryz.underlying39 h
  rw [cellsOf_cls] at hl
  rw [cellsOf_u64] at hg
  have hone : ∀ i, i < 4 → ∃ n : Nat, cs[i]? = some (.int .u64 (n : Int)) ∧ n < 18446744073709551616 := by
    intro i hi
    have hi' : i < cs.length := by omega
    have hx : xs[i]? = some (xs[i]'(by omega)) := List.getElem?_eq_getElem (by omega)
    have hgi := hg i hi
    have e : (cs.drop (i * 1)).take 1 = [cs[i]'hi'] := by
      rw [Nat.mul_one, List.drop_eq_getElem_cons hi']; rfl
    rw [e, hx] at hgi
    obtain ⟨a, e0, _, wa⟩ := DataW.trod_int Tryz.underlying37 hgi
    obtain ⟨n, rfl, hn⟩ := wf_u64_nat wa
    simp at e0
    exact ⟨n, by rw [List.getElem?_eq_getElem hi', e0], hn⟩
  obtain ⟨a, ha, ha'⟩ := hone 0 (by omega)
  obtain ⟨b, hb, hb'⟩ := hone 1 (by omega)
  obtain ⟨c, hc, hc'⟩ := hone 2 (by omega)
  obtain ⟨d, hd, hd'⟩ := hone 3 (by omega)
  refine ⟨(a, b, c, d), ⟨ha', hb', hc', hd'⟩, ?_⟩
  obtain ⟨c0, c1, c2, c3, rfl⟩ := list4 hl
  simp at ha hb hc hd
  subst ha hb hc hd
  rfl

set_option maxRecDepth 10000 in
theorem open_node {fuel : Nat} {cs : List Value} {x : DataW H × List MemPlace} (h : DataW.trod enc Tryz.prog w base spare held fuel 41 cs = some x) :
    ∃ n : Nd, okNd n ∧ cs = ndCells n := by
  obtain ⟨xs, m, _, _, hl, hxl, hg⟩ := DataW.trod_struct Tryz.underlying41 h
  rw [cellsOf_node] at hl
  obtain ⟨c0, c1, c2, c3, c4, rfl⟩ := list5 hl
  have h0 := hg 0 _ rfl
  have h1 := hg 1 _ rfl
  have hx0 : xs[0]? = some (xs[0]'(by rw [hxl]; decide)) := List.getElem?_eq_getElem _
  have hx1 : xs[1]? = some (xs[1]'(by rw [hxl]; decide)) := List.getElem?_eq_getElem _
  rw [hx0] at h0
  rw [hx1] at h1
  obtain ⟨a, e0, _, wa⟩ := DataW.trod_int Tryz.underlying3 h0
  obtain ⟨c, hok, e1⟩ := open_cls h1
  simp [cellsOf_int] at e0
  simp [cellsOf_cls] at e1
  obtain ⟨rfl, rfl, rfl, rfl⟩ := e1
  subst e0
  exact ⟨⟨a, c⟩, ⟨(wf_i64_bd wa).1, (wf_i64_bd wa).2, hok⟩, rfl⟩

theorem open_nodes {fuel : Nat} {A : Option Addr} {n cap : Nat} {x : DataW H × List MemPlace} (h : DataW.trod enc Tryz.prog w base spare held fuel 22 [.slice A n cap] = some x) :
    ∃ l : List Nd, RdN w (.slice A n cap) l ∧ ∀ nd ∈ l, okNd nd := by
  rcases open_slice Tryz.underlying22 h with ⟨hcs, _⟩ | ⟨a, len, cap', m, k, D, Pl, hcs, hb, hl, hm, hmm, hx, hi⟩
  · simp at hcs
    obtain ⟨rfl, rfl, rfl⟩ := hcs
    exact ⟨[], Rd.nil w 5, by simp⟩
  · simp at hcs
    obtain ⟨rfl, rfl, rfl⟩ := hcs
    have hle : n ≤ m := by rw [hmm]; split <;> omega
    rw [cellsOf_node] at hi
    have build : ∀ q, q ≤ n → ∃ l : List Nd, l.length = q ∧ (∀ nd ∈ l, okNd nd) ∧ ∀ j u, (l.flatMap ndCells)[j]? = some u → w.cell? (a.add j) = some u := by
      intro q
      induction q with
      | zero => intro _; exact ⟨[], rfl, by simp, by simp⟩
      | succ q ih =>
        intro hq
        obtain ⟨l, hl1, hl2, hl3⟩ := ih (by omega)
        obtain ⟨cs', hc1, hc2⟩ := hi q (by omega)
        obtain ⟨nd, hok, rfl⟩ := open_node hc2
        obtain ⟨_, _, hc⟩ := World.cells?_some hc1
        refine ⟨l ++ [nd], by simp [hl1], fun y hy => by
          rcases List.mem_append.1 hy with hy | hy
          · exact hl2 y hy
          · simp at hy; subst hy; exact hok, fun j u hu => ?_⟩
        rw [List.flatMap_append] at hu
        by_cases hj : j < (l.flatMap ndCells).length
        · rw [List.getElem?_append_left hj] at hu
          exact hl3 j u hu
        · rw [List.getElem?_append_right (by omega)] at hu
          have hlen : (l.flatMap ndCells).length = q * 5 := by rw [flatMap_len, hl1]
          rw [hlen] at hu hj
          have hlt : j - q * 5 < 5 := by
            have := (List.getElem?_eq_some_iff.1 hu).1
            simpa [ndCells] using this
          have := hc (j - q * 5) hlt
          have e : (a.add (q * 5)).add (j - q * 5) = a.add j := by
            rw [Go.Deep.add_add]; congr 1; omega
          rw [e] at this
          rw [this, ← hu]
          simp
    obtain ⟨l, hl1, hl2, hl3⟩ := build n (Nat.le_refl _)
    refine ⟨l, ⟨_, n, cap, rfl, hl, by unfold maxLen at hm; omega, by rw [flatMap_len, hl1], fun hn => ?_⟩, hl2⟩
    obtain ⟨b, off, spot⟩ := a
    have hlen : 0 < (l.flatMap ndCells).length := by rw [flatMap_len, hl1]; omega
    have hc0 := hl3 0 _ (List.getElem?_eq_getElem hlen)
    have hspot : spot = none := by simpa [Addr.add] using World.cell?_spot hc0
    subst hspot
    exact ⟨b, off, rfl, fun j u hu => by rw [← add_mk]; exact hl3 j u hu⟩
end

end Go.Proofs.YthcahjnniendnacGreatDoor

/-
  Further arguments of a law, opened: rows of numbers, of texts, of steps; by one lemma on rows of whatever.
-/
namespace Go.Proofs.YthcahjnniendnacGreatDoor
open Go.ChangeShapes Go.WideShapes Go.ChangeAt Go.RowKit Go.Deep Wf

section
variable {H : Type} {enc : TypeId × Value → H} {w : World} {base : Nat} {spare : Nat → Bool} {held : Bool}

theorem flat_len {α : Type} (cells : α → List Value) (sz : Nat) (hlen : ∀ x, (cells x).length = sz) (l : List α) : (l.flatMap cells).length = l.length * sz := by
  induction l with
  | nil => simp
  | cons a r ih => simp [ih, hlen, Nat.add_mul]; omega
set_option maxRecDepth 10000 in
theorem open_row {α : Type} (cells : α → List Value) (ok : α → Prop) (sz : Nat) (hsz : 0 < sz) (hlen : ∀ x, (cells x).length = sz) {t e : TypeId} (ht : Tryz.prog.underlying t = some (.slice e)) (hce : Tryz.prog.cellsOf e = sz)
    (hel : ∀ {fuel : Nat} {cs : List Value} {x : DataW H × List MemPlace}, DataW.trod enc Tryz.prog w base spare held fuel e cs = some x → ∃ y, ok y ∧ cs = cells y)
    {fuel : Nat} {A : Option Addr} {n cap : Nat} {x : DataW H × List MemPlace} (h : DataW.trod enc Tryz.prog w base spare held fuel t [.slice A n cap] = some x) :
    ∃ l : List α, Rd w sz (.slice A n cap) (l.flatMap cells) ∧ l.length = n ∧ ∀ y ∈ l, ok y := by
  rcases open_slice ht h with ⟨hcs, _⟩ | ⟨a, len, cap', m, k, D, Pl, hcs, hb, hl, hm, hmm, hx, hi⟩
  · simp at hcs
    obtain ⟨rfl, rfl, rfl⟩ := hcs
    exact ⟨[], Rd.nil w sz, rfl, by simp⟩
  · simp at hcs
    obtain ⟨rfl, rfl, rfl⟩ := hcs
    have hle : n ≤ m := by rw [hmm]; split <;> omega
    rw [hce] at hi
    have build : ∀ q, q ≤ n → ∃ l : List α, l.length = q ∧ (∀ y ∈ l, ok y) ∧ ∀ j u, (l.flatMap cells)[j]? = some u → w.cell? (a.add j) = some u := by
      intro q
      induction q with
      | zero => intro _; exact ⟨[], rfl, by simp, by simp⟩
      | succ q ih =>
        intro hq
        obtain ⟨l, hl1, hl2, hl3⟩ := ih (by omega)
        obtain ⟨cs', hc1, hc2⟩ := hi q (by omega)
        obtain ⟨y, hok, rfl⟩ := hel hc2
        obtain ⟨_, _, hc⟩ := World.cells?_some hc1
        refine ⟨l ++ [y], by simp [hl1], fun y' hy => by
          rcases List.mem_append.1 hy with hy | hy
          · exact hl2 y' hy
          · simp at hy; subst hy; exact hok, fun j u hu => ?_⟩
        rw [List.flatMap_append] at hu
        by_cases hj : j < (l.flatMap cells).length
        · rw [List.getElem?_append_left hj] at hu
          exact hl3 j u hu
        · rw [List.getElem?_append_right (by omega)] at hu
          have hlen' : (l.flatMap cells).length = q * sz := by rw [flat_len cells sz hlen, hl1]
          rw [hlen'] at hu hj
          have hlt : j - q * sz < sz := by
            have := (List.getElem?_eq_some_iff.1 hu).1
            simpa [hlen] using this
          have := hc (j - q * sz) hlt
          have e' : (a.add (q * sz)).add (j - q * sz) = a.add j := by
            rw [Go.Deep.add_add]; congr 1; omega
          rw [e'] at this
          rw [this, ← hu]
          simp
    obtain ⟨l, hl1, hl2, hl3⟩ := build n (Nat.le_refl _)
    refine ⟨l, ⟨_, n, cap, rfl, hl, by unfold maxLen at hm; omega, by rw [flat_len cells sz hlen, hl1], fun hn => ?_⟩, hl1, hl2⟩
    obtain ⟨b, off, spot⟩ := a
    have hpos : 0 < (l.flatMap cells).length := by rw [flat_len cells sz hlen, hl1]; exact Nat.mul_pos hn hsz
    have hc0 := hl3 0 _ (List.getElem?_eq_getElem hpos)
    have hspot : spot = none := by simpa [Addr.add] using World.cell?_spot hc0
    subst hspot
    exact ⟨b, off, rfl, fun j u hu => by rw [← add_mk]; exact hl3 j u hu⟩

set_option maxRecDepth 10000
theorem flat_one {α : Type} (f : α → Value) (l : List α) : (l.flatMap fun x => [f x]) = l.map f := by
  induction l with
  | nil => rfl
  | cons a r ih => simp [ih]

theorem open_ints1 {fuel : Nat} {A : Option Addr} {n cap : Nat} {x : DataW H × List MemPlace} (h : DataW.trod enc Tryz.prog w base spare held fuel 181 [.slice A n cap] = some x) :
    ∃ l : List Int, Rd1 w (.slice A n cap) (l.map (Value.int .i64)) ∧ ∀ y ∈ l, (Lit.int .i64 y).wf = true := by
  obtain ⟨l, h1, _, h2⟩ := open_row (fun y : Int => [Value.int .i64 y]) (fun y => (Lit.int .i64 y).wf = true) 1 (by omega) (fun _ => rfl) Tryz.underlying181 cellsOf_int (fun {fuel} {cs} {x} hd => by obtain ⟨a, e0, _, wa⟩ := DataW.trod_int Tryz.underlying3 hd; exact ⟨a, wa, e0⟩) h
  rw [flat_one] at h1
  exact ⟨l, h1, h2⟩

end

end Go.Proofs.YthcahjnniendnacGreatDoor
