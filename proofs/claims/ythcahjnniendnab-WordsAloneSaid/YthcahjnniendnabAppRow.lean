/-
  Rows appended to nothing; how many hits; Pick; a word among others, the n-th of its hits.
-/
import Derived.Test.YthcahjnniendnabAllC
import Derived.Test.YthcahjnniendnabHit
import Derived.Test.YthcahjnniendnabPx
namespace Go.Proofs.Ythcahjnniendnab
open Go.RowKit Wf

theorem okW_of {l : List ByteArray} {x : ByteArray} (h : okW (l ++ [x])) : okW l ∧ okW [x] := by
  obtain ⟨h1, h2, h3⟩ := h
  rw [List.nodup_append] at h3
  refine ⟨⟨?_, fun s hs => h2 s (List.mem_append_left _ hs), h3.1⟩, ⟨by simp, fun s hs => h2 s (List.mem_append_right _ hs), by simp⟩⟩
  rw [List.length_append] at h1
  omega
theorem run_append_zero {P : Program} (w : World) (t ty e : TypeId) (i : TypeInfo) (ht : P.underlying t = some (.slice e)) (hi : P.info? e = some i) (A : Option Addr) (c : Nat) : (Builtin.append_ #[t, t] ty #[.slice none 0 0, .slice A 0 c]).run P w = .ok (.slice none 0 0) w := by
  cases A <;> simp [Builtin.append_, run_underlying ht, sizeOf, typeInfo, hi, Builtin.lenOf, Builtin.firstCells, loadCells, loadCellsFrom]
theorem wpList_append_row {P : Program} (w : World) {ops : Array Oper} {rest : List Oper} {o : Oper} {a : Act} {Q : Exit → Act → World → Prop} (hgd : o.guard = none) (s x : Operand) (t : TypeId)
    (ho : o.op = .call { callee := .builtin .append, args := #[s, x], argTypes := #[t, t] })
    (e : TypeId) (i : TypeInfo) (z : Value) (size bytes : Nat) (ht : P.underlying t = some (.slice e)) (hi : P.info? e = some i) (hz : i.zero = some z) (hsize : i.size = size) (hby : i.bytes = bytes) (hzs : z.cells.size = size) (hsz : 0 < size)
    (hs : a.eval s = .slice none 0 0) (A : Option Addr) (m c : Nat) (news : List Value) (hx : a.eval x = .slice A m c) (hl : news.length = m * size)
    (hnews : 0 < m → ∃ b off, A = some ⟨b, off, none⟩ ∧ ∀ (j : Nat) (u : Value), news[j]? = some u → w.cell? ⟨b, off + j, none⟩ = some u) (h1 : ∀ u ∈ news, u.oneCell' = true) (h63 : m ≤ maxLen) (hbytes : m * bytes ≤ 140737488355328)
    (h : ∀ A' c' w', w'.ownsRow w.heap.size e size (.slice A' m c') m news → Below w.heap.size w w' → wpList P ops Q rest (a.put o.dst (.slice A' m c')) w') : wpList P ops Q (o :: rest) a w := by
  rcases Nat.eq_zero_or_pos m with rfl | hm
  · have hn : news = [] := List.eq_nil_of_length_eq_zero (by rw [hl, Nat.zero_mul])
    subst hn
    refine wpList_plain hgd fun K hK => ?_
    have hrun := run_append_zero (P := P) w t o.type e i ht hi A c
    unfold Oper.wp
    simp [execOp, ho, resolve, invoke, builtin, hs, hx, hrun, Result.andThen]
    exact hK _ _ (h none 0 w (World.ownsRow_nil _ _ _ _) (Below.refl _ _))
  · obtain ⟨b, off, rfl, hc⟩ := hnews hm
    refine wpList_append_lies w hgd s x t ho w.heap.size e i z size bytes ht hi hz hsize hby hzs hsz _ 0 [] hs (World.ownsRow_nil _ _ _ _) ⟨b, off, none⟩ m c news hx hl (fun j u hu => by rw [add_mk]; exact hc j u hu) h1 hm (by omega) (by rw [Nat.zero_add]; exact hbytes) (Nat.le_refl _) _ rfl ?_
    intro g cap w' ho hg _ _
    simp only [Nat.zero_add, List.nil_append] at ho ⊢
    exact h _ _ w' ho ((Below.refl _ _).grown hg (Nat.le_refl _) (fun k e => by cases e))
theorem below_row {B base n size : Nat} {a w w' : World} {e : TypeId} {v : Value} {xs : List Value} (h : Below B a w) (hB : B ≤ base) (hBw : B ≤ w.heap.size) (ho : w.ownsRow base e size v n xs) (hg : w.grownBy w' v.ownBlock) : Below B a w' :=
  ⟨hg.os.trans h.os, hg.tape.trans h.tape, hg.output.trans h.output, Nat.le_trans h.size hg.size, fun i hi =>
    (hg.block i (by omega) (fun e => by have := (ho.lt i e.symm).1; omega)).trans (h.block i hi)⟩
theorem hitsTo_len (ws : List (List UInt8)) (t : List UInt8) (n : Nat) : (hitsTo ws t n).length ≤ ws.length * n := by
  induction n with
  | zero => simp [hitsTo]
  | succ n ih =>
    rw [hitsTo_succ, List.length_append]
    have : (hitsAt ws t (n + 1)).length ≤ ws.length := by
      unfold hitsAt endAt
      rw [List.length_map]
      refine Nat.le_trans (List.length_filter_le _ _) ?_
      rw [List.length_range]
      exact Nat.le_refl _
    rw [Nat.mul_succ]
    omega
theorem hits_few {l : List ByteArray} {s : ByteArray} (h : chkAll l s = 0) : (hitsL (wsOf l) s.data.toList).length ≤ 8000 := by
  obtain ⟨h1, h2⟩ := chkAll_zero.1 h
  have h3 := hitsTo_len (wsOf l) s.data.toList s.data.toList.length
  have h4 : (wsOf l).length ≤ 20 := by simpa [wsOf] using h1.1
  have h5 : s.data.toList.length ≤ 400 := by simpa using h2
  have h6 : (wsOf l).length * s.data.toList.length ≤ 20 * 400 := Nat.mul_le_mul h4 h5
  unfold hitsL
  omega

theorem okW_one {l : List ByteArray} {x : ByteArray} (h : okW l) (hx : x ∈ l) : okW [x] :=
  ⟨by simp, fun y hy => by rw [List.mem_singleton.1 hy]; exact h.2.1 x hx, by simp⟩
/-- The n-th among the hits of a word is the n-th of that word alone. -/
theorem pick_step {S X : List (Nat × Nat × Nat)} {i : Nat} (h : (S.filter fun q => decide (q.1 = i)).map (·.2) = X.map (·.2)) {j a b : Nat} (hj : S[j]? = some (i, a, b)) :
    ∃ z, X[((S.take j).filter fun q => decide (q.1 = i)).length]? = some (z, a, b) := by
  have hlt : j < S.length := (List.getElem?_eq_some_iff.1 hj).1
  have hS : S = S.take j ++ (i, a, b) :: S.drop (j + 1) := by
    have e : S[j] = (i, a, b) := (List.getElem?_eq_some_iff.1 hj).2
    rw [← e, ← List.drop_eq_getElem_cons hlt, List.take_append_drop]
  have hf : (S.filter fun q => decide (q.1 = i))[((S.take j).filter fun q => decide (q.1 = i)).length]? = some (i, a, b) := by
    conv => lhs; arg 1; rw [hS, List.filter_append]
    rw [List.getElem?_append_right (Nat.le_refl _), Nat.sub_self]
    simp [List.filter_cons]
  have hm : (X.map (·.2))[((S.take j).filter fun q => decide (q.1 = i)).length]? = some (a, b) := by
    rw [← h, List.getElem?_map, hf]; rfl
  rw [List.getElem?_map] at hm
  cases hX : X[((S.take j).filter fun q => decide (q.1 = i)).length]? with
  | none => rw [hX] at hm; cases hm
  | some q =>
    rw [hX] at hm
    obtain ⟨z, q2⟩ := q
    have : q2 = (a, b) := Option.some.inj hm
    subst this
    exact ⟨z, rfl⟩
/-- A hit's text is the word's. -/
theorem hit_text {l : List ByteArray} {s : ByteArray} {a b d : Nat} (hm : (a, b, d) ∈ hitsL (wsOf l) s.data.toList) : ∃ x, l[a]? = some x ∧ b ≤ d ∧ d ≤ s.size ∧ s.extract b d = x := by
  obtain ⟨w, hw, h1, h2, h3⟩ := hits_stand hm
  unfold wsOf at hw
  rw [List.getElem?_map] at hw
  cases hx : l[a]? with
  | none => dsimp only at hw; rw [hx] at hw; cases hw
  | some x =>
    dsimp only at hw h1 h2 h3
    rw [hx] at hw
    have hxw : x.data.toList = w := Option.some.inj hw
    refine ⟨x, rfl, h1, by simpa using h2, ?_⟩
    refine ByteArray.ext (Array.toList_inj.1 ?_)
    rw [hxw, ← h3]
    simp [List.drop_take]
theorem wsOf_get {l : List ByteArray} {i : Nat} {x : ByteArray} (h : l[i]? = some x) : (wsOf l)[i]? = some x.data.toList := by simp [wsOf, h]

set_option maxRecDepth 100000 in
theorem Pick_c (k : Int) (hk : -9223372036854775808 ≤ k ∧ k ≤ 9223372036854775807) (n : Nat) (hn : 0 < n) (hn2 : n ≤ 9223372036854775807) (w : World) :
    Calls Try.prog 13 #[.int .i64 k, .int .i64 (n : Int)] w (fun e w' => ∃ i : Nat, i < n ∧ e = .returned (.int .i64 (i : Int)) ∧ Below w.heap.size w w') := by
  have key : ∀ c : Nat, c ≤ 9223372036854775807 → IntKind.i64.wrap (Int.tmod (c : Int) (n : Int)) = ((c % n : Nat) : Int) ∧ c % n < n := fun c hc => by
    have h1 : Int.tmod (c : Int) (n : Int) = ((c % n : Nat) : Int) := rfl
    have h2 : c % n < n := Nat.mod_lt _ hn
    refine ⟨?_, h2⟩
    rw [h1, IntKind.wrap_i64]
    omega
  have hz : (n : Int) ≠ 0 := by omega
  have hz2 : ((n : Int) == 0) = false := by simp; omega
  by_cases h0 : k < 0
  · have hd : decide (k < 0) = true := by simpa using h0
    obtain ⟨c, hc⟩ : ∃ c : Nat, (c : Int) = -(k + 1) := ⟨(-(k + 1)).toNat, by omega⟩
    have hc2 : c ≤ 9223372036854775807 := by omega
    obtain ⟨e1, e2⟩ := key c hc2
    have w1 : IntKind.i64.wrap (k + 1) = k + 1 := by rw [IntKind.wrap_i64]; omega
    have w2 : IntKind.i64.wrap (-(k + 1)) = (c : Int) := by rw [IntKind.wrap_i64]; omega
    have w3 : -(k + 1) = (c : Int) := hc.symm
    have e1' : Int.tmod (c : Int) (n : Int) = ((c % n : Nat) : Int) := rfl
    have hl : c % n < n := e2
    generalize c % n = r at *
    have w4 : IntKind.i64.wrap (r : Int) = (r : Int) := by rw [IntKind.wrap_i64]; omega
    clear key hc
    go_enter Try.func13, Try.ntmps13
    go_wp2
    go_ret
    exact ⟨r, hl, by first | rfl | go_num, Below.refl _ _⟩
  · have hd : decide (k < 0) = false := by simpa using h0
    obtain ⟨c, rfl⟩ : ∃ c : Nat, k = (c : Int) := ⟨k.toNat, by omega⟩
    have hc2 : c ≤ 9223372036854775807 := by omega
    obtain ⟨e1, e2⟩ := key c hc2
    have e1' : Int.tmod (c : Int) (n : Int) = ((c % n : Nat) : Int) := rfl
    have hl : c % n < n := e2
    generalize c % n = r at *
    have w4 : IntKind.i64.wrap (r : Int) = (r : Int) := by rw [IntKind.wrap_i64]; omega
    clear key
    go_enter Try.func13, Try.ntmps13
    go_wp2
    go_ret
    exact ⟨r, hl, by first | rfl | go_num, Below.refl _ _⟩
end Go.Proofs.Ythcahjnniendnab
