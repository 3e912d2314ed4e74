/-
  words.All's own function: a hit more.
-/
import Derived.Test.YthcahjnniendnabEachB
import Derived.Deep.RegionLaw
namespace Go.Proofs.Ythcahjnniendnab
open Go.RowKit Wf

def hitCells (h : Nat × Nat × Nat) : List Value := [.int .i64 (h.1 : Int), .int .i64 (h.2.1 : Int), .int .i64 (h.2.2 : Int)]
theorem hits_len (S : List (Nat × Nat × Nat)) : (S.flatMap hitCells).length = S.length * 3 := by
  induction S with
  | nil => rfl
  | cons a r ih => simp only [List.flatMap_cons, List.length_append, ih, List.length_cons]; simp [hitCells]; omega
theorem info_hit : (Try.prog.info? 48).map (fun i => (i.zero, i.size, i.bytes)) = some (some (.agg #[.int .i64 0, .int .i64 0, .int .i64 0]), 3, 24) := by kernel_rfl

/-- All blocks stay but rows of hits, and what holds them; below base all stay. -/
structure HK (base : Nat) (W W' : World) : Prop where
  os : W'.os = W.os
  tape : W'.tape = W.tape
  output : W'.output = W.output
  size : W.heap.size ≤ W'.heap.size
  low : ∀ k, k < base → k < W.heap.size → W'.heap[k]? = W.heap[k]?
  keep : ∀ (k : Nat) (o : Obj), W.heap[k]? = some o → (∀ cs fr, o ≠ .cells cs 48 fr) → (∀ cs fr, o ≠ .cells cs 42 fr) → W'.heap[k]? = some o
theorem HK.trans {base : Nat} {a b c : World} (h : HK base a b) (k : HK base b c) : HK base a c :=
  ⟨k.os.trans h.os, k.tape.trans h.tape, k.output.trans h.output, Nat.le_trans h.size k.size, fun q h1 h2 => (k.low q h1 (Nat.lt_of_lt_of_le h2 h.size)).trans (h.low q h1 h2), fun q o h1 h2 h3 => k.keep q o (h.keep q o h1 h2 h3) h2 h3⟩
theorem HK.below {base : Nat} {w w' : World} (h : Below w.heap.size w w') : HK base w w' :=
  ⟨h.os, h.tape, h.output, h.size, fun q _ h2 => h.block q h2, fun q o h1 _ _ => (h.block q (Array.getElem?_eq_some_iff.1 h1).1).trans h1⟩
theorem HK.ints {base : Nat} {w w' : World} (h : HK base w w') : IntKeep w w' := fun g cur hg => h.keep g _ hg (fun cs fr e => by injection e with _ e _; exact absurd e (by decide)) (fun cs fr e => by injection e with _ e _; exact absurd e (by decide))
theorem HK.blk {base g : Nat} {w w' : World} {t : TypeId} {cs : Array Value} (h : HK base w w') (hb : Blk w g t cs) (h1 : t ≠ 48) (h2 : t ≠ 42) : Blk w' g t cs :=
  h.keep g _ hb (fun cs fr e => by injection e with _ e _; exact h1 e) (fun cs fr e => by injection e with _ e _; exact h2 e)
theorem HK.mp {base g : Nat} {w w' : World} {l : List (Nat × Value)} (h : HK base w w') (hm : Mp w g byteW l) : Mp w' g byteW l := by
  obtain ⟨es, clock, hb, hr⟩ := hm
  exact ⟨es, clock, h.keep g _ hb (fun cs fr e => by cases e) (fun cs fr e => by cases e), hr⟩
theorem HK.row {base : Nat} {w0 w w' : World} {v : Value} {xs : List Nat} (h : HK base w w') (hr : RowK w0 w v xs) : RowK w0 w' v xs := ⟨hr.1, own_int hr.2 h.ints⟩

section
variable {w0 w w' : World} {Nb : Nat} {wv : Value} {root : Kn} {ws : List (List UInt8)} {Ks : List Kn} {bk ev : Kn → Value} {ch : Kn → List (Nat × Value)}
/-- The tied net stays. -/
theorem Tied.hk (h : Tied w0 Nb wv root ws Ks ch bk ev w) (hk : HK w0.heap.size w w') : Tied w0 Nb wv root ws Ks ch bk ev w' := by
  have n := h.net
  refine ⟨⟨hk.blk n.net (by decide) (by decide), n.onb, n.rt, n.ru, fun k hkk => hk.blk (n.blk k hkk) (by decide) (by decide), fun k hkk => hk.mp (n.mp k hkk), n.ob, n.om, n.ib, n.im, n.iu, n.kids, n.all, n.par, ?_⟩, h.tie, fun s hs => ?_⟩
  · exact ⟨hk.os.trans n.keep.os, hk.tape.trans n.keep.tape, hk.output.trans n.keep.output, Nat.le_trans n.keep.size hk.size, fun q hq => (hk.low q hq (Nat.lt_of_lt_of_le hq n.keep.size)).trans (n.keep.block q hq)⟩
  · obtain ⟨xs, h1, h2⟩ := h.rows s hs
    exact ⟨xs, hk.row h1, h2⟩
/-- The net over an older world. -/
theorem Tied.older {wa : World} (h : Tied w0 Nb wv root ws Ks ch bk ev w) (hs : wa.heap.size ≤ w0.heap.size) (hb : Below wa.heap.size wa w) : Tied wa Nb wv root ws Ks ch bk ev w := by
  have n := h.net
  refine ⟨⟨n.net, Nat.le_trans hs n.onb, n.rt, n.ru, n.blk, n.mp, fun k hk => Nat.le_trans hs (n.ob k hk), fun k hk => Nat.le_trans hs (n.om k hk), n.ib, n.im, n.iu, n.kids, n.all, n.par, hb⟩, h.tie, fun s hs' => ?_⟩
  obtain ⟨xs, h1, h2⟩ := h.rows s hs'
  exact ⟨xs, h1.base hs, h2⟩
end

/-- What All's own function writes: the hits so far, behind the world w0. -/
structure HitAt (w0 : World) (Wb : Nat) (lv : Value) (l : List ByteArray) (S : List (Nat × Nat × Nat)) (v : Value) (w : World) : Prop where
  box : Blk w w0.heap.size 42 #[v]
  own : w.ownsRow (w0.heap.size + 1) 48 3 v S.length (S.flatMap hitCells)
  wb : Blk w0 Wb 41 #[lv]
  rd : Rd1 w0 lv (strVals l)
  bel : Below w0.heap.size w0 w
theorem HitAt.below {w0 : World} {Wb : Nat} {lv v : Value} {l : List ByteArray} {S : List (Nat × Nat × Nat)} {w w' : World} (h : HitAt w0 Wb lv l S v w) (hb : Below w.heap.size w w') : HitAt w0 Wb lv l S v w' :=
  ⟨h.box.kept hb, h.own.kept (row := none) ⟨hb.os, hb.tape, hb.output, hb.size, fun i hi _ => hb.block i hi⟩ (by cases v.ownBlock <;> simp), h.wb, h.rd, h.bel.trans (hb.mono h.bel.size)⟩
/-- A hit more. -/
theorem HitAt.more {w0 : World} {Wb : Nat} {lv v : Value} {l : List ByteArray} {S : List (Nat × Nat × Nat)} {w w1 : World} {g cp : Nat} {h1 : Nat × Nat × Nat} (h : HitAt w0 Wb lv l S v w)
    (hown : w1.ownsRow (w0.heap.size + 1) 48 3 (.slice (some ⟨g, 0, none⟩) (S.length + 1) cp) (S.length + 1) (S.flatMap hitCells ++ hitCells h1)) (hg : w.grownBy w1 v.ownBlock) :
    HitAt w0 Wb lv l (S ++ [h1]) (.slice (some ⟨g, 0, none⟩) (S.length + 1) cp) (w1.setCell ⟨w0.heap.size, 0, none⟩ (.slice (some ⟨g, 0, none⟩) (S.length + 1) cp)) ∧ HK w0.heap.size w (w1.setCell ⟨w0.heap.size, 0, none⟩ (.slice (some ⟨g, 0, none⟩) (S.length + 1) cp)) ∧ Blk w1 w0.heap.size 42 #[v] := by
  have hlt := h.own.lt
  have hne : some w0.heap.size ≠ v.ownBlock := fun e => by have := (hlt _ e.symm).1; omega
  have hbox := blk_grown h.box hg hne
  have hgl := (hown.lt g rfl).1
  have hgo := hown.kept (grown_set w1 ⟨w0.heap.size, 0, none⟩ (.slice (some ⟨g, 0, none⟩) (S.length + 1) cp)) (.inr (fun e => by
    have e2 : g = w0.heap.size := by simpa [Value.ownBlock] using e
    omega))
  refine ⟨⟨hbox.set_ 0 _, by simpa using hgo, h.wb, h.rd, ?_⟩, ⟨?_, ?_, ?_, ?_, fun k hk hk2 => ?_, fun k o hk n1 n2 => ?_⟩, hbox⟩
  · exact (h.bel.grown hg h.bel.size (fun q e => by have := (hlt q e).1; omega)).setCell (Nat.le_refl _) _
  · exact hg.os
  · exact hg.tape
  · exact hg.output
  · have := hg.size; simpa using this
  · rw [Below.heap_setCell _ _ _ k (by show k ≠ w0.heap.size; omega)]
    exact hg.block k hk2 (fun e => by have := (hlt _ e.symm).1; omega)
  · have hkl := (Array.getElem?_eq_some_iff.1 hk).1
    rw [Below.heap_setCell _ _ _ k (fun e => by
      have e2 : k = w0.heap.size := e
      have hb := h.box
      unfold Blk at hb
      rw [e2, hb] at hk
      exact n2 _ _ (Option.some.inj hk).symm)]
    rw [hg.block k hkl (fun e => by
      rcases h.own.2 with ⟨e0, _⟩ | ⟨g', cap', cur, e1, _, e3, _⟩
      · rw [e0] at e; cases e
      · rw [e1] at e
        have e2 : k = g' := by simpa [Value.ownBlock] using e
        rw [e2, e3] at hk
        exact n1 _ _ (Option.some.inj hk).symm)]
    exact hk

theorem hit_news (W : World) (g : Nat) (hg : W.heap.size = g) (a b c : Nat) : ∀ (j : Nat) (u : Value), (hitCells (a, b, c))[j]? = some u →
    (W.alloc (.cells #[.int .i64 (a : Int), .int .i64 (b : Int), .int .i64 (c : Int)] 48)).cell? ((⟨g, 0, none⟩ : Addr).add j) = some u := by
  intro j u hu
  subst hg
  rw [add_mk, Nat.zero_add, (Blk.new W _ _).cell]
  simpa [hitCells] using hu
theorem hit_one (h : Nat × Nat × Nat) : ∀ u ∈ hitCells h, u.oneCell' = true := by
  intro u hu
  simp only [hitCells, List.mem_cons, List.not_mem_nil, or_false] at hu
  rcases hu with rfl | rfl | rfl <;> rfl

set_option maxRecDepth 100000 in
set_option maxHeartbeats 8000000 in
theorem Do_c (w0 : World) (Wb : Nat) (lv : Value) (l : List ByteArray) (S : List (Nat × Nat × Nat)) (v : Value) (w : World) (h : HitAt w0 Wb lv l S v w) (i e : Nat) (x : ByteArray) (hx : l[i]? = some x) (hxe : x.size ≤ e) (he : e ≤ 400) (hl : l.length ≤ 20) (hS : S.length ≤ 8000) :
    Calls Try.prog 27 #[.int .i64 (i : Int), .int .i64 (e : Int), .pointer (some ⟨w0.heap.size, 0, none⟩), .pointer (some ⟨Wb, 0, none⟩)] w (fun en w' => en = .returned (.tuple #[]) ∧ ∃ v', HitAt w0 Wb lv l (S ++ [(i, e - x.size, e)]) v' w' ∧ HK w0.heap.size w w') := by
  obtain ⟨i0, hi0, hz0, hz1, hz2⟩ := info_parts info_hit
  have hil : i < l.length := (List.getElem?_eq_some_iff.1 hx).1
  obtain ⟨A, cap, rfl, hc1, hc2, hm⟩ := str_open h.rd
  obtain ⟨b, off, rfl, hbl, hcs⟩ := hm (by omega)
  have sc : w.cell? ⟨b, off + i, none⟩ = some (.string x) := hcs w (fun o => h.bel.cell (p := ⟨b, o, none⟩) hbl) i x hx
  have wc : w.cell? ⟨Wb, 0, none⟩ = some (.slice (some ⟨b, off, none⟩) l.length cap) := (h.wb.below h.bel h.wb.lt).cell 0
  have oc : w.cell? ⟨w0.heap.size, 0, none⟩ = some v := h.box.cell 0
  obtain ⟨VA, vn, vcap, rfl, _, _, hvl, _⟩ := Rd.of_own h.own
  obtain rfl : vn = S.length := by rw [hits_len] at hvl; omega
  have hsub : (e : Int) - (x.size : Int) = ((e - x.size : Nat) : Int) := by omega
  have hb1 := fun (f : Nat) => (Below.refl w.heap.size w).alloc (Nat.le_refl _) (.cells #[.int .i64 (i : Int), .int .i64 (f : Int), .int .i64 (e : Int)] 48)
  have HA := Lib.hid fun (f : Nat) => h.below (hb1 f)
  have HB1 := Lib.hid hb1
  have hO : w0.heap.size ≤ w.heap.size := h.bel.size
  have hOl : w0.heap.size + 1 ≤ w.heap.size := h.box.lt
  have oc2 : (w.alloc (.cells #[.int .i64 (i : Int), .int .i64 ((e - x.size : Nat) : Int), .int .i64 (e : Int)] 48)).cell? ⟨w0.heap.size, 0, none⟩ = some (.slice VA S.length vcap) := (HA.out (e - x.size)).box.cell 0
  have hfe : e - x.size ≤ 400 := by omega
  generalize e - x.size = f at *
  have hwf : IntKind.i64.wrap ((f : Nat) : Int) = (f : Int) := by rw [IntKind.wrap_i64]; omega
  generalize hOO : w0.heap.size = O at *
  clear h hx hm hcs hvl hxe hb1
  go_enter Try.func27, Try.ntmps27
  go_wp2_with fail
  go_region_law (refine step_append_lies _ rfl (.tmp 6) (.tmp 18) 42 rfl (O + 1) 48 i0 _ 3 24 Try.underlying42 hi0 hz0 hz1 hz2 rfl (by decide) (.slice VA S.length vcap) S.length (S.flatMap hitCells) ?a1 (by rw [← hOO]; exact ((HA.out f).below (Below.refl _ _).drew).own) ⟨w.heap.size, 0, none⟩ 1 1 (hitCells (i, f, e)) ?a2 rfl (hit_news _ _ ?a3 _ _ _) (hit_one _) ?a4 ?a5 ?a6 ?a7 _ rfl ?_; (case a1 => simp [Act.eval, Act.put]); (case a2 => simp [Act.eval, Act.put]); (case a3 => simp); (case a4 => omega); (case a5 => unfold maxLen; omega); (case a6 => omega); (case a7 => simp; omega); intro g cp w1 hown hg hat hlt; rw [← hOO] at hown; obtain ⟨hm1, hm2, hm3⟩ := ((HA.out f).below (Below.refl _ _).drew).more hown hg; rw [hOO] at hm1 hm2 hm3; have HM1 := Lib.hid hm1; have HM2 := Lib.hid hm2; have o1 : w1.cell? ⟨O, 0, none⟩ = some (.slice VA S.length vcap) := hm3.cell 0; have f1 : w1.frozen? ⟨O, 0, none⟩ = false := hm3.frozen 0; clear hm1 hm2 hm3 hown hg hat hlt)
  all_goals (
    go_wp2
    go_end0
    exact ⟨rfl, _, HM1.out, (HK.below ((HB1.out f).drew)).trans HM2.out⟩)
end Go.Proofs.Ythcahjnniendnab
