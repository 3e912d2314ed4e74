/-
  Walks of sim's ends, Ends, Longest.
-/
import Derived.Test.YthcahjnniendnadGreatDoorSimE
import Derived.Deep.AppendLies
import Derived.RangeFuncBox
import Derived.Maps.AppendAt
namespace Go.Proofs.YthcahjnniendnadGreatDoor
open Go.RowKit Go.Shelf Wf
attribute [local go_sem] Oper.semAt_some

theorem wpListIn_append_lies {F : Fence} {n : Nat} {P : Program} (w : World) {ops : Array Oper} {rest : List Oper} {o : Oper} {a : Act} {Q : Exit → Act → World → Prop}
    (hg : o.guard = none) (s x : Operand) (t : TypeId) (hop : o.op = Op.call { callee := Callee.builtin Builtin.append, args := #[s, x], argTypes := #[t, t] })
    (base : Nat) (e : TypeId) (i : TypeInfo) (z : Value) (size bytes : Nat) (h1 : P.underlying t = some (.slice e)) (h2 : P.info? e = some i) (h3 : i.zero = some z) (h4 : i.size = size) (h5 : i.bytes = bytes) (h6 : z.cells.size = size) (h7 : 0 < size)
    (v : Value) (k : Nat) (xs : List Value) (hs : a.eval s = v) (hown : w.ownsRow base e size v k xs) (ad : Addr) (m c : Nat) (news : List Value) (hx : a.eval x = .slice (some ad) m c) (hn : news.length = m * size)
    (hc : ∀ j u, news[j]? = some u → w.cell? (ad.add j) = some u) (h1c : ∀ u ∈ news, u.oneCell' = true) (hm : 0 < m) (b1 : k + m ≤ maxLen) (b2 : (k + m) * bytes ≤ 140737488355328) (b3 : base ≤ w.heap.size)
    (hK : ∀ g cap w', w'.ownsRow base e size (.slice (some ⟨g, 0, none⟩) (k + m) cap) (k + m) (xs ++ news) → w.grownBy w' v.ownBlock → (v.ownBlock = some g ∨ g = w.heap.size) → g < w'.heap.size → wpListIn F n P ops Q rest (a.put o.dst (.slice (some ⟨g, 0, none⟩) (k + m) cap)) w') :
    wpListIn F n P ops Q (o :: rest) a w := by
  refine wpListIn_plain hg fun K hK' => ?_
  obtain ⟨g, cap, w', hrun, r1, r2, r3, r4⟩ := run_append_lies (P := P) w t o.type base e i z size bytes h1 h2 h3 h4 h5 h6 h7 v k xs hown ad m c news hn hc h1c hm b1 b2 b3 _ rfl
  unfold Oper.wpIn
  refine ⟨?_, ?_⟩
  · simp [Oper.about, hop, resolve, Target.leads, Sem.run_pure]
  · rw [Oper.semAt_plain F _ _ (by rw [hop]; intro c hc'; cases hc')]
    simp [execOp, hop, resolve, invoke, builtin, hs, hx, hrun, Result.andThen]
    exact hK' _ _ (hK g cap w' r1 r2 r3 r4)

theorem ownOf_box {W : World} {B : Nat} {t : TypeId} {v : Value} (h : Boxed W B t v) : ownOf B W = v.ownBlock := by
  unfold ownOf
  rw [h.cell]
theorem Kp.set_ {W : World} {B : Nat} {t : TypeId} {u v : Value} (hb : Boxed W B t u) (h : v.ownBlock = none) : Kp B W (W.setCell ⟨B, 0, none⟩ v) :=
  ⟨rfl, rfl, rfl, by simp, fun k cs t fr hk hB _ => by rw [Below.heap_setCell _ _ _ k (fun e => hB (by rw [e]))]; exact hk, fun g hg => by
    rw [ownOf_box (hb.set v), h] at hg; cases hg⟩
theorem Kp.append {W w1 : World} {B : Nat} {t e : TypeId} {v : Value} {k m size base g cap : Nat} {xs ys : List Value} {tmp : Obj} (hv : Boxed W B t v) (hte : t ≠ e) (hrow : W.ownsRow base e size v k xs)
    (hgrow : (W.alloc tmp).grownBy w1 v.ownBlock) (hown' : w1.ownsRow base e size (.slice (some ⟨g, 0, none⟩) m cap) m ys) (hat : v.ownBlock = some g ∨ g = (W.alloc tmp).heap.size) (hlt : g < w1.heap.size) : Kp B W (w1.setCell ⟨B, 0, none⟩ (.slice (some ⟨g, 0, none⟩) m cap)) := by
  have hv1 : Boxed w1 B t v := (hv.alloc tmp).kept hgrow (hv.not_row hte hrow)
  refine ⟨by show w1.os = _; rw [hgrow.os]; rfl, by show w1.tape = _; rw [hgrow.tape]; rfl, by show w1.output = _; rw [hgrow.output]; rfl, by have := hgrow.size; simp at this ⊢; omega, fun j cs t' fr hj hB ho => ?_, fun g' hg' => ?_⟩
  · rw [Below.heap_setCell _ _ _ j (fun e => hB (by rw [e]))]
    rw [ownOf_box hv] at ho
    have hjl := (Array.getElem?_eq_some_iff.1 hj).1
    rw [hgrow.block j (by simp; omega) (fun e => ho e.symm), Below.heap_alloc W _ j hjl]
    exact hj
  · rw [ownOf_box (hv1.set _)] at hg'
    obtain rfl : g = g' := by simpa [Value.ownBlock] using hg'
    rw [ownOf_box hv]
    rcases hat with h | h
    · exact .inl h
    · refine .inr ⟨?_, ?_⟩
      · rw [h]; simp
      · simpa using hlt

/-- The three variables that an iterator has caught. -/
theorem ends_in (n : Nat) (A : Option Addr) (pn pc : Nat) (s : ByteArray) (f : Int) (w : World) :
    CallsIn Fence.wide n Tryz.prog 43 #[.slice A pn pc, .string s, .int .i64 f] w fun e w' =>
      e = .returned (.func (.func 91) #[] #[.pointer (some ⟨w.heap.size + 2, 0, none⟩), .pointer (some ⟨w.heap.size, 0, none⟩), .pointer (some ⟨w.heap.size + 1, 0, none⟩)]) ∧
      w' = ((w.alloc (.cells #[.slice A pn pc] 51)).alloc (.cells #[.string s] 9)).alloc (.cells #[.int .i64 f] 3) := by
  refine callsIn_of_wp Tryz.func43 rfl trivial ?_ rfl
  simp only [Tryz.ntmps43, List.size_toArray, List.length_cons, List.length_nil, Nat.reduceAdd, Nat.reduceSub, Array.replicate_succ, Array.replicate_zero, List.push_toArray, List.append_toArray, List.nil_append, List.cons_append]
  gi_wp2
  go_ret
  exact ⟨rfl, rfl⟩

/-- The iterator, for whatever loop body that keeps all but the variable at block Bo and its row. -/
theorem ends_stops (n : Nat) (hn : 1 ≤ n) (p : List St) (hp : okP p) (hok : ∀ s ∈ p, okC s.cls) (s : ByteArray) (hs : s.size ≤ 400) (f0 : Nat) (hf : f0 ≤ s.size) (fb pb tb b off cap Bo : Nat) (hne : fb ≠ Bo ∧ pb ≠ Bo ∧ tb ≠ Bo ∧ b ≠ Bo)
    (w : World) (hBo : Bo < w.heap.size) (hown : ownOf Bo w = none) (hcf : w.cell? ⟨fb, 0, none⟩ = some (.int .i64 (f0 : Int))) (hcp : w.cell? ⟨pb, 0, none⟩ = some (.slice (some ⟨b, off, none⟩) p.length cap)) (hct : w.cell? ⟨tb, 0, none⟩ = some (.string s))
    (hrd : RdS w (.slice (some ⟨b, off, none⟩) p.length cap) p) :
    SeqStopsK Fence.wide n Tryz.prog 91 #[.pointer (some ⟨fb, 0, none⟩), .pointer (some ⟨pb, 0, none⟩), .pointer (some ⟨tb, 0, none⟩)] (fun x : Nat => #[Value.int .i64 (x : Int)]) (Kp Bo) (fun xs => xs = runL p s.data.toList f0) (fun _ => True) 402 w := fun l J Jx W hW hJ _ hY h0 =>
  ends1_in n hn p hp hok s hs f0 hf fb pb tb b off cap Bo hne l J Jx W (Nat.lt_of_lt_of_le hBo hW.size) (by rw [ownOf_eq (hW.block Bo hBo)]; exact hown)
    ((hW.cell (p := ⟨fb, 0, none⟩) (World.block_lt_of_cell? w _ hcf)).trans hcf) ((hW.cell (p := ⟨pb, 0, none⟩) (World.block_lt_of_cell? w _ hcp)).trans hcp) ((hW.cell (p := ⟨tb, 0, none⟩) (World.block_lt_of_cell? w _ hct)).trans hct)
    (hrd.below hW) hJ hY h0

def EndsRun (xs : List Nat) (w : World) (e : Ending) (w' : World) : Prop := ∃ (A : Option Addr) (cap : Nat), e = .returned (.tuple #[.slice A xs.length cap, .nilIface]) ∧ Rd1 w' (.slice A xs.length cap) (natVals xs) ∧ Below w.heap.size w w'

theorem runL_len (p : List St) (s : List UInt8) (f : Nat) : (runL p s f).length ≤ s.length + 1 := upTo_len _ _

set_option maxRecDepth 100000 in
set_option maxHeartbeats 8000000 in
theorem REnds_ok (p : List St) (hp : okP p) (hok : ∀ s ∈ p, okC s.cls) (pv : Value) (s : ByteArray) (hs : s.size ≤ 400) (f0 : Nat) (hf : f0 ≤ s.size) (w : World) (hr : RdS w pv p) :
    Calls Tryz.prog 18 #[pv, .string s, .int .i64 (f0 : Int)] w (EndsRun (runL p s.data.toList f0) w) := by
  obtain ⟨i0, hi, hz0, hz1, hz2⟩ := info_parts info_int
  have hpos : 0 < p.length := hp.1
  have hlen := hp.2.1
  obtain ⟨A, cap, rfl, hcap, hcap2, hmem⟩ := hr.open_
  obtain ⟨b, off, rfl, hbl, _⟩ := hmem hpos
  have HCK := Lib.hid (Checked_any p _ s (f0 : Int) w hr (by omega))
  have HZ : Hid (chkRun p s.size (f0 : Int) = 0) := Lib.hid (by unfold chkRun; rw [if_neg (by simpa using chkP_ok.2 hp), if_neg (by omega), if_neg (by omega)])
  rw [HZ.out] at HCK
  have HP := Lib.hid hp
  have HOK := Lib.hid hok
  have HR := Lib.hid hr
  clear hmem hr hp hok
  refine (callsIn_wide (n := 5)).1 ?_
  refine callsIn_of_wp_marks Tryz.func18 rfl trivial ?_ rfl
  simp only [Tryz.ntmps18, List.size_toArray, List.length_cons, List.length_nil, Nat.reduceAdd, Nat.reduceSub, Array.replicate_succ, Array.replicate_zero, List.push_toArray, List.append_toArray, List.nil_append, List.cons_append]
  gi_wp2_with fail
  refine ⟨trivial, ?_⟩
  refine (callsIn_wide.2 HCK.out).mono ?_
  rintro e w1 ⟨he, hb1⟩
  obtain rfl : e = .returned .nilIface := he
  gi_wp2_with fail
  refine ⟨trivial, ?_⟩
  refine (ends_in _ _ _ _ _ _ _).mono ?_
  rintro e w2 ⟨rfl, rfl⟩
  gi_wp2_with fail
  have hsz1 := hb1.size
  have bO : Boxed ((((w1.alloc (.cells #[.slice none 0 0] 26)).alloc (.cells #[.slice (some ⟨b, off, none⟩) p.length cap] 51)).alloc (.cells #[.string s] 9)).alloc (.cells #[.int .i64 (f0 : Int)] 3)) w1.heap.size 26 (.slice none 0 0) := (((Boxed.new w1 _ _).alloc _).alloc _).alloc _
  have bP : Boxed ((((w1.alloc (.cells #[.slice none 0 0] 26)).alloc (.cells #[.slice (some ⟨b, off, none⟩) p.length cap] 51)).alloc (.cells #[.string s] 9)).alloc (.cells #[.int .i64 (f0 : Int)] 3)) (w1.heap.size + 1) 51 (.slice (some ⟨b, off, none⟩) p.length cap) := by
    have := ((Boxed.new (w1.alloc (.cells #[.slice none 0 0] 26)) 51 (.slice (some ⟨b, off, none⟩) p.length cap)).alloc (.cells #[.string s] 9)).alloc (.cells #[.int .i64 (f0 : Int)] 3)
    rw [World.size_alloc] at this; exact this
  have bT : Boxed ((((w1.alloc (.cells #[.slice none 0 0] 26)).alloc (.cells #[.slice (some ⟨b, off, none⟩) p.length cap] 51)).alloc (.cells #[.string s] 9)).alloc (.cells #[.int .i64 (f0 : Int)] 3)) (w1.heap.size + 1 + 1) 9 (.string s) := by
    have := (Boxed.new ((w1.alloc (.cells #[.slice none 0 0] 26)).alloc (.cells #[.slice (some ⟨b, off, none⟩) p.length cap] 51)) 9 (.string s)).alloc (.cells #[.int .i64 (f0 : Int)] 3)
    simp only [World.size_alloc] at this; exact this
  have bF : Boxed ((((w1.alloc (.cells #[.slice none 0 0] 26)).alloc (.cells #[.slice (some ⟨b, off, none⟩) p.length cap] 51)).alloc (.cells #[.string s] 9)).alloc (.cells #[.int .i64 (f0 : Int)] 3)) (w1.heap.size + 1 + 2) 3 (.int .i64 (f0 : Int)) := by
    have := Boxed.new (((w1.alloc (.cells #[.slice none 0 0] 26)).alloc (.cells #[.slice (some ⟨b, off, none⟩) p.length cap] 51)).alloc (.cells #[.string s] 9)) 3 (.int .i64 (f0 : Int))
    simp only [World.size_alloc] at this; exact this
  have hb3 : Below w.heap.size w ((((w1.alloc (.cells #[.slice none 0 0] 26)).alloc (.cells #[.slice (some ⟨b, off, none⟩) p.length cap] 51)).alloc (.cells #[.string s] 9)).alloc (.cells #[.int .i64 (f0 : Int)] 3)) :=
    (((hb1.alloc hsz1 _).alloc (by simp; omega) _).alloc (by simp; omega) _).alloc (by simp; omega) _
  have hsz3 : ((((w1.alloc (.cells #[.slice none 0 0] 26)).alloc (.cells #[.slice (some ⟨b, off, none⟩) p.length cap] 51)).alloc (.cells #[.string s] 9)).alloc (.cells #[.int .i64 (f0 : Int)] 3)).heap.size = w1.heap.size + 4 := by simp
  generalize ((((w1.alloc (.cells #[.slice none 0 0] 26)).alloc (.cells #[.slice (some ⟨b, off, none⟩) p.length cap] 51)).alloc (.cells #[.string s] 9)).alloc (.cells #[.int .i64 (f0 : Int)] 3)) = w3 at *
  have hRL := runL_len p s.data.toList f0
  have hdl : s.data.toList.length = s.size := by simp
  refine wpIn_rangeFunc_ownF rfl (by omega) (gf := 91) (lb := #[.pointer (some ⟨w1.heap.size + 1 + 2, 0, none⟩), .pointer (some ⟨w1.heap.size + 1, 0, none⟩), .pointer (some ⟨w1.heap.size + 1 + 1, 0, none⟩)]) rfl trivial (enters_of Tryz.func91 (by kernel_rfl) rfl)
    (ends_stops 4 (by omega) p HP.out HOK.out s hs f0 hf (w1.heap.size + 1 + 2) (w1.heap.size + 1) (w1.heap.size + 1 + 1) b off cap w1.heap.size ⟨by omega, by omega, by omega, by omega⟩ w3 (by omega) (by rw [ownOf_box bO]; rfl) bF.cell bP.cell bT.cell (HR.out.below hb3)) Kp.trans (fun W l o o' hl h hc hw => Kp.putObj (w := w3) (by omega) W l o o' hl h hc hw) (Below.refl _ _) (fun _ => rfl)
    (fun pre W => (∃ v, Boxed W w1.heap.size 26 v ∧ W.ownsRow w.heap.size 3 1 v pre.length (natVals pre) ∧ True) ∧ Below w.heap.size w W)
    (fun _ _ _ => False)
    (OwnFrom.and (Own.from (holdsRow_own w.heap.size w1.heap.size 26 3 1 (fun pre : List Nat => pre.length) (fun pre => natVals pre) (fun _ _ => True)) _) (ownFrom_below (Nat.le_refl _) (by omega)))
    (fun _ _ _ _ _ hs _ _ => hs)
    ⟨⟨_, bO, World.ownsRow_nil _ _ _ _, trivial⟩, hb3⟩
    (fun x => { tmps := #[.slice (some ⟨b, off, none⟩) p.length cap, .string s, .int .i64 (f0 : Int), undef, undef, undef, .slice none 0 0, .nilIface, .nilIface, .pointer (some ⟨w1.heap.size, 0, none⟩), .int .i64 (x : Int), .slice (some ⟨b, off, none⟩) p.length cap, .string s, .int .i64 (f0 : Int), .nilIface, .nilIface, .bool false, undef, .slice (some ⟨b, off, none⟩) p.length cap, .string s, .int .i64 (f0 : Int), .func (.func 91) #[] #[.pointer (some ⟨w1.heap.size + 1 + 2, 0, none⟩), .pointer (some ⟨w1.heap.size + 1, 0, none⟩), .pointer (some ⟨w1.heap.size + 1 + 1, 0, none⟩)], .int .i64 (x : Int), undef, undef, undef, undef, undef], defers := [] }) ?assign ?body ?done ?stop
  case assign =>
    intro l x W K hK
    gi_wp2
    exact hK
  case body =>
    rintro l pre x W ⟨⟨v, hv, hrow, _⟩, hB⟩ hlt
    have hc := hv.cell
    have hle := hB.size
    have hlW := hv.lt
    gi_wp2_with (first
      | (gi_at_builtin; refine wpListIn_append_lies _ rfl (.tmp 23) (.tmp 25) 26 rfl w.heap.size 3 i0 _ 1 8 Tryz.underlying26 hi hz0 hz1 hz2 rfl (by decide) _ pre.length (natVals pre) rfl (hrow.alloc _) ⟨W.heap.size, 0, none⟩ 1 1 [.int .i64 (x : Int)] rfl rfl (cell_one_new _ _ _) (by simp [Value.oneCell']) (by omega) (by unfold maxLen; omega) (by omega) (by simp; omega) ?_; intro g cap' w4 hown' hgrow hat hlt4; have hkp := Kp.append hv (by decide) hrow hgrow hown' hat hlt4; obtain ⟨hv1, hv2, hr2, hk2, hb2⟩ := hv.appended (by decide) hrow hB.size (by omega) hown' hgrow; have hc1 := hv1.cell; have hf1 := hv1.frozen))
    exact ⟨hk2, hkp, ⟨_, hv2, by rw [natVals_snoc']; simpa using hr2, trivial⟩, hB.trans hb2⟩
  case done =>
    rintro D ys W hD rfl ⟨⟨v, hv, hrow, _⟩, hB⟩ hK
    have hc := hv.cell
    obtain ⟨VA, vn, vcap, rfl, _, _, hvl, _⟩ := Rd.of_own hrow
    obtain rfl : vn = (runL p s.data.toList f0).length := by simp [natVals] at hvl; omega
    gi_wp2
    refine ⟨by simp, .inl ⟨_, _, rfl, run_takeDeferred hK, ?_⟩⟩
    exact ⟨_, results_tmp2 rfl _ _ _, VA, vcap, rfl, Rd.of_own (ownsRow_putObj hrow _ hK rfl), hB.trans (belowK_b (w := w) (Nat.le_refl _) W D _ _ (by omega) hK rfl rfl)⟩
  case stop =>
    rintro D c pre W _ _ h _
    exact h.elim

/-- The last of some places; -1 if there is none. -/

def LongRun (xs : List Nat) (w : World) (e : Ending) (w' : World) : Prop := e = .returned (.tuple #[.int .i64 (lastL xs), .nilIface]) ∧ Below w.heap.size w w'

def EndsRunNo (n : Int) (w : World) (e : Ending) (w' : World) : Prop := e = .returned (.tuple #[.slice none 0 0, errV n]) ∧ Below w.heap.size w w'
def LongRunNo (n : Int) (w : World) (e : Ending) (w' : World) : Prop := e = .returned (.tuple #[.int .i64 0, errV n]) ∧ Below w.heap.size w w'

set_option maxRecDepth 100000 in
theorem REnds_no (p : List St) (pv : Value) (s : ByteArray) (f : Int) (w : World) (hr : RdS w pv p) (hlen : p.length ≤ 9223372036854775807) (hne : chkRun p s.size f ≠ 0) :
    Calls Tryz.prog 18 #[pv, .string s, .int .i64 f] w (EndsRunNo (chkRun p s.size f) w) := by
  obtain ⟨A, cap, rfl, hcap, hcap2, hmem⟩ := hr.open_
  have HCK := Lib.hid (Checked_any p _ s f w hr hlen)
  have HEV := Lib.hid (errV_ne hne)
  clear hmem hr hne
  go_enter Tryz.func18, Tryz.ntmps18
  go_wp2_with fail
  refine HCK.out.mono ?_
  rintro e w1 ⟨he, hb1⟩
  rw [HEV.out] at he
  subst he
  go_wp2
  go_ret2
  exact ⟨by rw [HEV.out]; rfl, hb1⟩

end Go.Proofs.YthcahjnniendnadGreatDoor
