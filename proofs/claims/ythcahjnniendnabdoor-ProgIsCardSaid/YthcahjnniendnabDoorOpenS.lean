/-
  A row of a program's steps, opened.
-/
import Derived.Test.YthcahjnniendnabDoorOpenI
namespace Go.Proofs.YthcahjnniendnabDoor
open Go.ChangeShapes Go.WideShapes Go.ChangeAt Go.RowKit Go.Deep Wf

def okSt (s : St) : Prop := okC s.cls ∧ (Lit.int .i64 s.op).wf = true ∧ (Lit.int .i64 s.x).wf = true ∧ (Lit.int .i64 s.y).wf = true
theorem cellsOf_step : Tryd.prog.cellsOf 77 = 7 := by kernel_rfl
theorem list7 {α : Type} {l : List α} (h : l.length = 7) : ∃ a b c d e f g, l = [a, b, c, d, e, f, g] := by
  match l, h with
  | [a, b, c, d, e, f, g], _ => exact ⟨a, b, c, d, e, f, g, rfl⟩

section
variable {H : Type} {enc : TypeId × Value → H} {w : World} {base : Nat} {spare : Nat → Bool} {held : Bool}
set_option maxRecDepth 10000
theorem open_step {fuel : Nat} {cs : List Value} {x : DataW H × List MemPlace} (h : DataW.trod enc Tryd.prog w base spare held fuel 77 cs = some x) :
    ∃ s : St, okSt s ∧ cs = stCells s := by
  obtain ⟨xs, m, _, _, hl, hxl, hg⟩ := DataW.trod_struct Tryd.underlying77 h
  rw [cellsOf_step] at hl
  obtain ⟨c0, c1, c2, c3, c4, c5, c6, rfl⟩ := list7 hl
  have h0 := hg 0 _ rfl
  have h1 := hg 1 _ rfl
  have h2 := hg 2 _ rfl
  have h3 := hg 3 _ rfl
  have hx0 : xs[0]? = some (xs[0]'(by rw [hxl]; decide)) := List.getElem?_eq_getElem _
  have hx1 : xs[1]? = some (xs[1]'(by rw [hxl]; decide)) := List.getElem?_eq_getElem _
  have hx2 : xs[2]? = some (xs[2]'(by rw [hxl]; decide)) := List.getElem?_eq_getElem _
  have hx3 : xs[3]? = some (xs[3]'(by rw [hxl]; decide)) := List.getElem?_eq_getElem _
  rw [hx0] at h0
  rw [hx1] at h1
  rw [hx2] at h2
  rw [hx3] at h3
  obtain ⟨a, e0, _, wa⟩ := DataW.trod_int Tryd.underlying3 h0
  obtain ⟨c, hok, e1⟩ := open_cls h1
  obtain ⟨b, e2, _, wb⟩ := DataW.trod_int Tryd.underlying3 h2
  obtain ⟨d, e3, _, wd⟩ := DataW.trod_int Tryd.underlying3 h3
  simp [cellsOf_int] at e0
  simp [cellsOf_cls] at e1
  simp [cellsOf_int] at e2
  simp [cellsOf_int] at e3
  obtain ⟨rfl, rfl, rfl, rfl⟩ := e1
  subst e0
  subst e2
  subst e3
  exact ⟨⟨a, c, b, d⟩, ⟨hok, wa, wb, wd⟩, rfl⟩

theorem open_steps {fuel : Nat} {A : Option Addr} {n cap : Nat} {x : DataW H × List MemPlace} (h : DataW.trod enc Tryd.prog w base spare held fuel 72 [.slice A n cap] = some x) :
    ∃ l : List St, RdS w (.slice A n cap) l ∧ ∀ s ∈ l, okSt s := by
  obtain ⟨l, h1, h2, h3⟩ := open_row stCells okSt 7 (by omega) (fun _ => rfl) Tryd.underlying72 cellsOf_step (fun {fuel} {cs} {x} hd => open_step hd) h
  exact ⟨l, h1, h3⟩
end

end Go.Proofs.YthcahjnniendnabDoor
