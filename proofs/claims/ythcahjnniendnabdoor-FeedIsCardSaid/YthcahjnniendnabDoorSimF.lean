/-
  Walks of sim's ends, Ends, Longest.
-/
import Derived.Test.YthcahjnniendnabDoorSimE
import Derived.Deep.AppendLies
import Derived.RangeFuncBox
import Derived.Maps.AppendAt
namespace Go.Proofs.YthcahjnniendnabDoor
open Go.RowKit Go.Shelf Wf
attribute [local go_sem] Oper.semAt_some

theorem wpListIn_append_lies {F : Fence} {n : Nat} {P : Program} (w : World) {ops : Array Oper} {rest : List Oper} {o : Oper} {a : Act} {Q : Exit → Act → World → Prop}
    (hg : o.guard = none) (s x : Operand) (t : TypeId) (hop : o.op = Op.call { callee := Callee.builtin Builtin.append, args := #[s, x], argTypes := #[t, t] })
    (base : Nat) (e : TypeId) (i : TypeInfo) (z : Value) (size bytes : Nat) (h1 : P.underlying t = some (.slice e)) (h2 : P.info? e = some i) (h3 : i.zero = some z) (h4 : i.size = size) (h5 : i.bytes = bytes) (h6 : z.cells.size = size) (h7 : 0 < size)
    (v : Value) (k : Nat) (xs : List Value) (hs : a.eval s = v) (hown : w.ownsRow base e size v k xs) (ad : Addr) (m c : Nat) (news : List Value) (hx : a.eval x = .slice (some ad) m c) (hn : news.length = m * size)
    (hc : ∀ j u, news[j]? = some u → w.cell? (ad.add j) = some u) (h1c : ∀ u ∈ news, u.oneCell' = true) (hm : 0 < m) (b1 : k + m ≤ maxLen) (b2 : (k + m) * bytes ≤ 140737488355328) (b3 : base ≤ w.heap.size)
    (hK : ∀ g cap w', w'.ownsRow base e size (.slice (some ⟨g, 0, none⟩) (k + m) cap) (k + m) (xs ++ news) → w.grownBy w' v.ownBlock → (v.ownBlock = some g ∨ g = w.heap.size) → g < w'.heap.size → wpListIn F n P ops Q rest (a.put o.dst (.slice (some ⟨g, 0, none⟩) (k + m) cap)) w') :
    wpListIn F n P ops Q (o :: rest) a w := by
  refine wpListIn_plain hg fun K hK' => ?_
  obtain ⟨g, cap, w', hrun, r1, r2, r3, r4⟩ := run_append_lies (P := P) w t o.type base e i z size bytes h1 h2 h3 h4 h5 h6 h7 v k xs hown ad m c news hn hc h1c hm b1 b2 b3 _ rfl
  unfold Oper.wpIn
  refine ⟨?_, ?_⟩
  · simp [Oper.about, hop, resolve, Target.leads, Sem.run_pure]
  · rw [Oper.semAt_plain F _ _ (by rw [hop]; intro c hc'; cases hc')]
    simp [execOp, hop, resolve, invoke, builtin, hs, hx, hrun, Result.andThen]
    exact hK' _ _ (hK g cap w' r1 r2 r3 r4)

theorem ownOf_box {W : World} {B : Nat} {t : TypeId} {v : Value} (h : Boxed W B t v) : ownOf B W = v.ownBlock := by
  unfold ownOf
  rw [h.cell]
theorem Kp.set_ {W : World} {B : Nat} {t : TypeId} {u v : Value} (hb : Boxed W B t u) (h : v.ownBlock = none) : Kp B W (W.setCell ⟨B, 0, none⟩ v) :=
  ⟨rfl, rfl, rfl, by simp, fun k cs t fr hk hB _ => by rw [Below.heap_setCell _ _ _ k (fun e => hB (by rw [e]))]; exact hk, fun g hg => by
    rw [ownOf_box (hb.set v), h] at hg; cases hg⟩
theorem Kp.append {W w1 : World} {B : Nat} {t e : TypeId} {v : Value} {k m size base g cap : Nat} {xs ys : List Value} {tmp : Obj} (hv : Boxed W B t v) (hte : t ≠ e) (hrow : W.ownsRow base e size v k xs)
    (hgrow : (W.alloc tmp).grownBy w1 v.ownBlock) (hown' : w1.ownsRow base e size (.slice (some ⟨g, 0, none⟩) m cap) m ys) (hat : v.ownBlock = some g ∨ g = (W.alloc tmp).heap.size) (hlt : g < w1.heap.size) : Kp B W (w1.setCell ⟨B, 0, none⟩ (.slice (some ⟨g, 0, none⟩) m cap)) := by
  have hv1 : Boxed w1 B t v := (hv.alloc tmp).kept hgrow (hv.not_row hte hrow)
  refine ⟨by show w1.os = _; rw [hgrow.os]; rfl, by show w1.tape = _; rw [hgrow.tape]; rfl, by show w1.output = _; rw [hgrow.output]; rfl, by have := hgrow.size; simp at this ⊢; omega, fun j cs t' fr hj hB ho => ?_, fun g' hg' => ?_⟩
  · rw [Below.heap_setCell _ _ _ j (fun e => hB (by rw [e]))]
    rw [ownOf_box hv] at ho
    have hjl := (Array.getElem?_eq_some_iff.1 hj).1
    rw [hgrow.block j (by simp; omega) (fun e => ho e.symm), Below.heap_alloc W _ j hjl]
    exact hj
  · rw [ownOf_box (hv1.set _)] at hg'
    obtain rfl : g = g' := by simpa [Value.ownBlock] using hg'
    rw [ownOf_box hv]
    rcases hat with h | h
    · exact .inl h
    · refine .inr ⟨?_, ?_⟩
      · rw [h]; simp
      · simpa using hlt

def EndsRun (xs : List Nat) (w : World) (e : Ending) (w' : World) : Prop := ∃ (A : Option Addr) (cap : Nat), e = .returned (.tuple #[.slice A xs.length cap, .nilIface]) ∧ Rd1 w' (.slice A xs.length cap) (natVals xs) ∧ Below w.heap.size w w'

theorem runL_len (p : List St) (s : List UInt8) (f : Nat) : (runL p s f).length ≤ s.length + 1 := upTo_len _ _

/-- The last of some places; -1 if there is none. -/
def lastL (xs : List Nat) : Int := match xs.getLast? with
  | some x => (x : Int)
  | none => -1
theorem lastL_snoc (xs : List Nat) (x : Nat) : lastL (xs ++ [x]) = (x : Int) := by simp [lastL]

def LongRun (xs : List Nat) (w : World) (e : Ending) (w' : World) : Prop := e = .returned (.tuple #[.int .i64 (lastL xs), .nilIface]) ∧ Below w.heap.size w w'

def EndsRunNo (n : Int) (w : World) (e : Ending) (w' : World) : Prop := e = .returned (.tuple #[.slice none 0 0, errV n]) ∧ Below w.heap.size w w'
def LongRunNo (n : Int) (w : World) (e : Ending) (w' : World) : Prop := e = .returned (.tuple #[.int .i64 0, errV n]) ∧ Below w.heap.size w w'

end Go.Proofs.YthcahjnniendnabDoor
