/-
  Laws of the map from spots (two numbers) to slices: looked up, written.
-/
import Derived.Test.YthcahjnniendnabGreatDoorGRex
import Derived.Laws.Tables
import Derived.Laws.Cover2
namespace Go.Proofs.YthcahjnniendnabGreatDoor
open Go.RowKit Wf

/-- A spot as a key. -/
def spotV (a b : Int) : Value := .agg #[.int .i64 a, .int .i64 b]

theorem eqIn_spot (d : Nat) (a b c e : Int) (w : World) :
    (Op.equalIn (d + 2) 112 (.agg #[.int .i64 a, .int .i64 b]) (.agg #[.int .i64 c, .int .i64 e])).run Tryz.prog w = .ok (a == c && b == e) w := by
  have a4 := Tryz.isAgg3
  have u4 := Tryz.underlying3
  have hS : Tryz.prog.underlying 112 = some (.struct (Tryz.prog.fieldsOf 112)) := by kernel_rfl
  have hp : Tryz.prog.stoodInHeld 112 = false := by kernel_rfl
  rw [show d + 2 = (d + 1) + 1 from rfl, run_equalIn_agg w (d + 1) 112 _ _ hS hp]
  simp only [Program.fieldsOf, Tryz.underlying112]
  go_simp
  by_cases h1 : a = c <;> by_cases h2 : b = e <;> simp [h1, h2]

theorem run_equal_spot (a b c e : Int) (w : World) : (Op.equal 112 (spotV a b) (spotV c e)).run Tryz.prog w = .ok (a == c && b == e) w := eqIn_spot 9998 a b c e w

theorem run_checkKey_int (em : Bool) (n : Nat) (a : Int) (w : World) : (Instr.checkKey em (n + 1) 3 (.int .i64 a)).run Tryz.prog w = .ok () w := by
  simp only [Instr.checkKey, Sem.run_bind, run_underlying Tryz.underlying3, Result.andThen_ok]
  rfl

theorem run_checkKey_spot' (em : Bool) (n : Nat) (a b : Int) (w : World) : (Instr.checkKey em (n + 2) 112 (spotV a b)).run Tryz.prog w = .ok () w := by
  have a4 := Tryz.isAgg3
  unfold spotV
  rw [show n + 2 = (n + 1) + 1 from rfl, Instr.checkKey]
  simp only [Sem.run_bind, run_underlying Tryz.underlying112, Result.andThen_ok]
  have h1 := fun w => run_checkKey_int em n a w
  have h2 := fun w => run_checkKey_int em n b w
  go_simp

theorem run_checkKey_spot (em : Bool) (a b : Int) (w : World) : (Instr.checkKey em 10000 112 (spotV a b)).run Tryz.prog w = .ok () w := run_checkKey_spot' em 9998 a b w

/-- All keys are spots. -/
def Spots (es : List MapEntry) : Prop := ∀ e ∈ es, ∃ a b, e.key = spotV a b

theorem findAsking_spot (a b : Int) (es : List MapEntry) (h : Spots es) (w : World) : ∀ i,
    (∃ j e, es[j]? = some e ∧ e.key = spotV a b ∧ (Instr.findAsking 112 (spotV a b) es i).run Tryz.prog w = .ok (some (i + j, e.val)) w) ∨
    ((∀ e ∈ es, e.key ≠ spotV a b) ∧ (Instr.findAsking 112 (spotV a b) es i).run Tryz.prog w = .ok none w) := by
  induction es with
  | nil => intro i; exact .inr ⟨by simp, rfl⟩
  | cons e r ih =>
    intro i
    obtain ⟨c, d, hk⟩ := h e (by simp)
    by_cases he : a = c ∧ b = d
    · obtain ⟨rfl, rfl⟩ := he
      refine .inl ⟨0, e, rfl, hk, ?_⟩
      rw [Instr.findAsking]
      simp only [Sem.run_bind, hk, run_equal_spot, Result.andThen_ok, beq_self_eq_true, Bool.and_self, if_true, Sem.run_pure, Nat.add_zero]
    · have hf : (a == c && b == d) = false := by
        rw [Bool.eq_false_iff]
        intro h
        simp at h
        exact he h
      have hne : e.key ≠ spotV a b := by
        rw [hk]
        unfold spotV
        intro h
        simp at h
        exact he ⟨h.1.symm, h.2.symm⟩
      have hrun : (Instr.findAsking 112 (spotV a b) (e :: r) i).run Tryz.prog w = (Instr.findAsking 112 (spotV a b) r (i + 1)).run Tryz.prog w := by
        rw [Instr.findAsking]
        simp only [Sem.run_bind, hk, run_equal_spot, Result.andThen_ok, hf, Bool.false_eq_true, if_false]
      rcases ih (fun e he => h e (by simp [he])) (i + 1) with ⟨j, e', hj, hk', hr⟩ | ⟨hn, hr⟩
      · exact .inl ⟨j + 1, e', by simpa using hj, hk', by rw [hrun, hr, show i + 1 + j = i + (j + 1) from by omega]⟩
      · refine .inr ⟨fun x hx => ?_, by rw [hrun, hr]⟩
        rcases List.mem_cons.1 hx with rfl | hx
        · exact hne
        · exact hn x hx

theorem findKey_spot (a b : Int) (es : List MapEntry) (h : Spots es) (w : World) :
    (∃ j e, es[j]? = some e ∧ e.key = spotV a b ∧ (Instr.findKey 112 (spotV a b) es).run Tryz.prog w = .ok (some (j, e.val)) w) ∨
    ((∀ e ∈ es, e.key ≠ spotV a b) ∧ (Instr.findKey 112 (spotV a b) es).run Tryz.prog w = .ok none w) := by
  have hfk : (Instr.findKey 112 (spotV a b) es).run Tryz.prog w = (Instr.findAsking 112 (spotV a b) es 0).run Tryz.prog w := by
    unfold Instr.findKey
    simp only [Sem.run_bind, run_underlying Tryz.underlying112, Result.andThen_ok]
    cases es with
    | nil => rfl
    | cons e r =>
      obtain ⟨c, d, hk⟩ := h e (by simp)
      simp only [Instr.findNow, hk, spotV, Instr.sameNow]
  rcases findAsking_spot a b es h w 0 with ⟨j, e, h1, h2, h3⟩ | ⟨h1, h2⟩
  · exact .inl ⟨j, e, h1, h2, by rw [hfk, h3, Nat.zero_add]⟩
  · exact .inr ⟨h1, by rw [hfk, h2]⟩

theorem run_getObj_map {P : Program} {w : World} {r : Nat} {es : Array MapEntry} {clock : Nat} (h : w.heap[r]? = some (.map es clock)) : (getObj r).run P w = .ok (.map es clock) w := by
  simp [getObj, Sem.run, h]

set_option maxRecDepth 100000 in
theorem lookup_spot (a b : Int) (r : Nat) (es : Array MapEntry) (clock : Nat) (w : World) (hw : w.heap[r]? = some (.map es clock)) (h : Spots es.toList) :
    (∃ e ∈ es.toList, e.key = spotV a b ∧ (Instr.lookup 75 (.map (some r)) (spotV a b) true).run Tryz.prog w = .ok (.tuple #[e.val, .bool true]) w) ∨
    ((∀ e ∈ es.toList, e.key ≠ spotV a b) ∧ (Instr.lookup 75 (.map (some r)) (spotV a b) true).run Tryz.prog w = .ok (.tuple #[.slice none 0 0, .bool false]) w) := by
  have hz : (zeroValue 79).run Tryz.prog w = .ok (.slice none 0 0) w := by kernel_rfl
  rcases findKey_spot a b es.toList h w with ⟨j, e, h1, h2, h3⟩ | ⟨h1, h2⟩
  · refine .inl ⟨e, List.mem_of_getElem? h1, h2, ?_⟩
    unfold Instr.lookup
    simp only [Sem.run_bind, run_underlying Tryz.underlying75, Result.andThen_ok, run_getObj_map hw, Sem.run_pure, run_checkKey_spot, h3, if_true]
  · refine .inr ⟨h1, ?_⟩
    unfold Instr.lookup
    simp only [Sem.run_bind, run_underlying Tryz.underlying75, Result.andThen_ok, run_getObj_map hw, Sem.run_pure, run_checkKey_spot, h2, hz, if_true]

theorem sameBits_spot (a b : Int) : Instr.sameBits 10000 (spotV a b) (spotV a b) = true := by
  rw [show (10000 : Nat) = 9999 + 1 from rfl]
  unfold spotV
  rw [Instr.sameBits]
  simp [Instr.sameBits]

/-- The map's block, turned. -/
def setMap (w : World) (r : Nat) (es : Array MapEntry) (clock : Nat) : World := { w with heap := w.heap.setIfInBounds r (.map es clock) }

theorem run_setObj_map {P : Program} {w : World} {r : Nat} {es es' : Array MapEntry} {clock clock' : Nat} (h : w.heap[r]? = some (.map es clock)) : (setObj r (.map es' clock')).run P w = .ok () (setMap w r es' clock') := by
  simp [setObj, Sem.run, h, setMap]

set_option maxRecDepth 100000 in
theorem update_spot (a b : Int) (v : Value) (r : Nat) (es : Array MapEntry) (clock : Nat) (w : World) (hw : w.heap[r]? = some (.map es clock)) (h : Spots es.toList) :
    ∃ es' clock', (Instr.mapUpdate 75 (.map (some r)) (spotV a b) v).run Tryz.prog w = .ok () (setMap w r es' clock') ∧
      ∀ e ∈ es'.toList, e ∈ es.toList ∨ (e.key = spotV a b ∧ e.val = v) := by
  rcases findKey_spot a b es.toList h w with ⟨j, e, h1, h2, h3⟩ | ⟨h1, h2⟩
  · have hj : es[j]? = some e := by simpa using h1
    refine ⟨es.modify j fun e => { e with key := spotV a b, val := v }, clock, ?_, ?_⟩
    · unfold Instr.mapUpdate
      simp only [Sem.run_bind, run_underlying Tryz.underlying75, Result.andThen_ok, run_getObj_map hw, Sem.run_pure, run_checkKey_spot, h3, hj, Option.map_some, Option.getD_some, h2, Instr.keyThatStays, sameBits_spot, if_true]
      exact run_setObj_map hw
    · intro x hx
      obtain ⟨i, hi⟩ := List.mem_iff_getElem?.1 hx
      rw [Array.getElem?_toList, Array.getElem?_modify] at hi
      split at hi
      · cases hei : es[i]? with
        | none => rw [hei] at hi; cases hi
        | some y =>
          rw [hei] at hi
          simp at hi
          subst hi
          exact .inr ⟨rfl, rfl⟩
      · exact .inl (List.mem_iff_getElem?.2 ⟨i, by rw [Array.getElem?_toList]; exact hi⟩)
  · refine ⟨es.push { key := spotV a b, val := v, born := clock }, clock + 1, ?_, ?_⟩
    · unfold Instr.mapUpdate
      simp only [Sem.run_bind, run_underlying Tryz.underlying75, Result.andThen_ok, run_getObj_map hw, Sem.run_pure, run_checkKey_spot, h2]
      exact run_setObj_map hw
    · intro x hx
      simp at hx
      rcases hx with hx | rfl
      · exact .inl (by simpa using hx)
      · exact .inr ⟨rfl, rfl⟩

end Go.Proofs.YthcahjnniendnabGreatDoor
