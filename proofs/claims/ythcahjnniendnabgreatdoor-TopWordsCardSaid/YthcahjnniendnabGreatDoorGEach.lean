/-
  EachB, EachC, EachD.
-/
import Derived.Test.YthcahjnniendnabGreatDoorGHas
import Derived.Test.YthcahjnniendnabGreatDoorGTie
import Derived.Test.YthcahjnniendnabGreatDoorGVals
import Derived.Deep.RegionLaw
/-
  words.Net.Each: the walk.
-/
namespace Go.Proofs.YthcahjnniendnabGreatDoor
open Go.RowKit Wf

/-- Rows of ints stay as they are. -/
def IntKeep (w w' : World) : Prop := ∀ (g : Nat) (cur : Array Value), w.heap[g]? = some (Obj.cells cur 3 (0, 0)) → w'.heap[g]? = some (Obj.cells cur 3 (0, 0))
theorem own_int {w w' : World} {base n : Nat} {v : Value} {xs : List Value} (h : w.ownsRow base 3 1 v n xs) (hk : IntKeep w w') : w'.ownsRow base 3 1 v n xs := by
  refine ⟨h.1, ?_⟩
  rcases h.2 with h | ⟨g, cap, cur, h1, h2, h3, h4⟩
  · exact .inl h
  · exact .inr ⟨g, cap, cur, h1, h2, hk g cur h3, h4⟩

/-- The function that Each calls: it takes each word that ends at a place. -/
structure DoIs (ws : List (List UInt8)) (J : List (Nat × Nat) → World → Prop) (nt : Nat) (c1 c2 : Value) : Prop where
  below : ∀ done W W', J done W → Below W.heap.size W W' → J done W'
  call : ∀ done W i e, J done W → (∃ x, ws[i]? = some x ∧ x.length ≤ e) → e ≤ nt → done.length ≤ ws.length * nt → Calls Tryz.prog 23 #[.int .i64 ((i : Nat) : Int), .int .i64 ((e : Nat) : Int), c1, c2] W (fun en w' => en = .returned (.tuple #[]) ∧ J (done ++ [(i, e)]) w' ∧ IntKeep W w')

theorem told_few (ws : List (List UInt8)) (t : List UInt8) (n : Nat) : (toldTo ws t n).length ≤ ws.length * n := by
  induction n with
  | zero => simp [toldTo]
  | succ n ih =>
    rw [toldTo_succ, List.length_append, Nat.mul_succ]
    have : (toldAt ws t (n + 1)).length ≤ ws.length := by simp [toldAt]; exact endAt_len ws _
    omega

set_option maxRecDepth 100000 in
set_option maxHeartbeats 8000000 in
theorem Each_c (w0 : World) (Nb : Nat) (wv : Value) (root : Kn) (ws : List (List UInt8)) (Ks : List Kn) (ch : Kn → List (Nat × Value)) (bk ev : Kn → Value) (h1 : ws.length ≤ 20) (s : ByteArray) (hs : s.size ≤ 400) (c1 c2 : Value)
    (J : List (Nat × Nat) → World → Prop) (hT : ∀ done W, J done W → Tied w0 Nb wv root ws Ks ch bk ev W) (hD : DoIs ws J s.size c1 c2) (w : World) (h0 : J [] w) :
    Calls Tryz.prog 22 #[.pointer (some ⟨Nb, 0, none⟩), .string s, .func (.func 23) #[] #[c1, c2]] w (fun e w' => e = .returned (.tuple #[]) ∧ J (toldTo ws s.data.toList s.size) w') := by
  have HT := Lib.hid hT
  have HD := Lib.hid hD
  have hw := hT _ _ h0
  have n0 : w.cell? ⟨Nb, 0, none⟩ = some (.pointer (some ⟨root.b, 0, none⟩)) := hw.net.net.cell 0
  have HST : Hid (root ∈ Ks ∧ LongSuf ws (s.data.toList.take 0) root.u) := Lib.hid ⟨hw.net.rt, by rw [hw.net.ru, List.take_zero]; exact LongSuf.nil ws⟩
  have H0 := Lib.hid h0
  clear hT hD hw h0
  go_enter Tryz.func22, Tryz.ntmps22
  go_wp2_with fail
  go_loopw [6, 16] (fun v6 v16 wr => ∃ (i : Nat) (k : Kn), i ≤ s.size ∧ v6 = .pointer (some ⟨k.b, 0, none⟩) ∧ v16 = .int .i64 (i : Int) ∧ Hid (k ∈ Ks ∧ LongSuf ws (s.data.toList.take i) k.u) ∧ Hid (J (toldTo ws s.data.toList i) wr)) (fun _ i _ => s.size - (intOf i).toNat)
  case atStart => exact ⟨0, root, by omega, rfl, rfl, HST, H0⟩
  case round =>
    clear HST H0 n0
    obtain ⟨i, k, hi, rfl, rfl, HK, HJ⟩ := hrel
    by_cases hlt : i < s.size
    · have HLET := Lib.hid (letter hlt)
      have HTD := Lib.hid (HT.out _ _ HJ.out)
      have hc256 : s[i].toNat < 256 := s[i].toNat_lt
      have HSTEP : Hid (Calls Tryz.prog 37 #[.pointer (some ⟨Nb, 0, none⟩), .pointer (some ⟨k.b, 0, none⟩), .int .u8 (s[i].toNat : Int)] wr (fun e w' => ∃ r : Kn, e = .returned (.pointer (some ⟨r.b, 0, none⟩)) ∧ (r ∈ Ks ∧ LongSuf ws (s.data.toList.take (i + 1)) r.u) ∧ wr = w')) := Lib.hid (by
        refine (step_c HTD.out.net HTD.out.tie HK.out.1 trivial (s.data.toList.take i) HK.out.2 s[i].toNat hc256).mono ?_
        rintro e w' ⟨r, rfl, hr, hl, _, rfl⟩
        refine ⟨r, rfl, ⟨hr, ?_⟩, rfl⟩
        rw [take_snoc HLET.out]
        simpa using hl)
      clear HK
      go_wp2_with (first
        | (go_at_call 37; refine HSTEP.out.mono ?_; rintro e w' ⟨r, rfl, hr, rfl⟩; have HR := Lib.hid hr; have hrb := HTD.out.net.blk r hr.1; obtain ⟨xs, hx1, hx2⟩ := HTD.out.rows r hr.1; obtain ⟨A, cap, hf⟩ := hx1.src.form; rw [hf] at hrb hx1; obtain ⟨N, hN⟩ : ∃ N, N = xs.length := ⟨_, rfl⟩; rw [← hN] at hrb hx1; have r2 : wr.cell? ⟨r.b, 2, none⟩ = some (.slice A N cap) := hrb.cell 2; have HX1 := Lib.hid hx1; have HX2 := Lib.hid hx2; have HN := Lib.hid hN; have HRB := Lib.hid hrb; clear hr hf hx1 hx2 hN hrb)
        | (go_at_call 39; refine (Values_c A N cap wr).mono ?_; rintro e w1 ⟨rfl, hw1⟩; have HW1 := Lib.hid hw1; clear hw1)
        | (go_at_call 38; refine (Sorted_c wr.heap.size (.slice A N cap) xs (by have := EndL.few HX2.out; omega) N HN.out w1 (by rw [HW1.out]; exact (Blk.new wr 45 #[.slice A N cap]).cell 0) (by
            have hbl : Below wr.heap.size wr w1 := by rw [HW1.out]; exact (Below.refl _ _).alloc (Nat.le_refl _) _
            exact (HX1.out.src.below hbl).vints)).mono ?_; rintro e w2 ⟨A2, cap2, ys, rfl, hy1, hy2, hy3, hy4, hb2⟩))
      have hbl1 : Below wr.heap.size wr w1 := by rw [HW1.out]; exact (Below.refl _ _).alloc (Nat.le_refl _) _
      have hbl2 : Below wr.heap.size wr w2 := hbl1.trans (hb2.mono hbl1.size)
      have HYS : Hid (ys = endAt ws (s.data.toList.take (i + 1))) := Lib.hid (endl_sorted (HX2.out.long HR.out.2) hy2 hy1 hy3)
      have HNY : Hid (N = ys.length) := Lib.hid (by rw [HN.out, hy1])
      have hN20 : N ≤ 20 := by have := EndL.few HX2.out; rw [← HN.out] at this; omega
      have HJ2 : Hid (J (toldTo ws s.data.toList i ++ (ys.take 0).map fun x => (x, i + 1)) w2) := Lib.hid (by simpa using HD.out.below _ _ _ HJ.out hbl2)
      have HROW := Lib.hid hy4
      have HKR := Lib.hid HR.out
      have hw1s : w1.heap.size ≤ w2.heap.size := hb2.size
      generalize w1.heap.size = B1 at HROW hw1s
      clear hy1 hy2 hy3 hy4 hb2 hbl1 hbl2 HW1 HJ HX1 HX2 HN HRB r2 HSTEP HTD
      go_loopw [32] (fun v32 wx => ∃ j : Nat, j ≤ N ∧ v32 = .int .i64 (j : Int) ∧ Hid (J (toldTo ws s.data.toList i ++ (ys.take j).map fun x => (x, i + 1)) wx) ∧ Hid (wx.ownsRow B1 3 1 (.slice A2 N cap2) N (natVals ys))) (fun v _ => N - (intOf v).toNat)
      case atStart => exact ⟨0, by omega, rfl, HJ2, HROW⟩
      case round =>
        clear HJ2 HROW hw1s
        obtain ⟨j, hj, rfl, HJ, HROW⟩ := hrel
        by_cases hjn : j < N
        · obtain ⟨y, hy⟩ : ∃ y, ys[j]? = some y := ⟨_, List.getElem?_eq_getElem (by rw [← HNY.out]; exact hjn)⟩
          obtain ⟨g, cp, hv, hgb, hgl⟩ := HROW.out.form (by omega)
          have hA2 : A2 = some ⟨g, 0, none⟩ := by injection hv
          have hcell : wr.cell? ⟨g, j, none⟩ = some (.int .i64 (y : Int)) := by
            obtain ⟨A', n', c', e1, _, _, _, e4⟩ := Rd.of_own HROW.out
            injection e1 with e1a e1b e1c
            subst e1a
            subst e1b
            obtain ⟨b', off', e5, e6⟩ := e4 (by omega)
            rw [hA2] at e5
            injection e5 with e5
            injection e5 with e5a e5b
            subst e5a
            subst e5b
            have := e6 j (.int .i64 (y : Int)) (by simp [natVals, hy])
            simpa using this
          subst hA2
          have hym : ∃ x, ws[y]? = some x ∧ x.length ≤ i + 1 := by
            have := List.mem_of_getElem? hy
            rw [HYS.out] at this
            obtain ⟨x, hx, hsx⟩ := endAt_mem.1 this
            refine ⟨x, hx, ?_⟩
            have hl := hsx.length_le
            rw [List.length_take] at hl
            omega
          have HCALL := Lib.hid (HD.out.call _ wr y (i + 1) HJ.out hym (by omega) (by
            have q1 := told_few ws s.data.toList i
            have q2 : (ys.take j).length ≤ ws.length := by
              have := endAt_len ws (s.data.toList.take (i + 1))
              rw [← HYS.out] at this
              simp; omega
            rw [List.length_append, List.length_map]
            have q3 : ws.length * (i + 1) ≤ ws.length * s.size := Nat.mul_le_mul_left _ (by omega)
            rw [Nat.mul_succ] at q3
            omega))
          have HYJ := Lib.hid hy
          have he1 : ((i + 1 : Nat) : Int) = (i : Int) + 1 := by omega
          rw [he1] at HCALL
          clear hy hv hym he1
          go_wp2_with (go_at_call 23; refine HCALL.out.mono ?_; rintro e w3 ⟨rfl, hj3, hk3⟩; have HJ3 := Lib.hid hj3; have HK3 := Lib.hid hk3; clear hj3 hk3)
          go_roundw
          case rel => exact ⟨j + 1, by omega, by go_num, Lib.hid (by have := HJ3.out; rw [List.take_add_one, HYJ.out]; simpa using this), Lib.hid (own_int HROW.out HK3.out)⟩
          case measure => simp [intOf]; omega
        · obtain rfl : j = N := by omega
          have HJF : Hid (J (toldTo ws s.data.toList (i + 1)) wr) := Lib.hid (by
            have := HJ.out
            rw [HNY.out, List.take_length, HYS.out] at this
            rw [toldTo_succ]
            exact this)
          go_wp2_with fail
          go_roundw
          case rel => exact ⟨i + 1, r, by omega, rfl, by go_num, HKR, HJF⟩
          case measure => simp [intOf]; omega
    · obtain rfl : i = s.size := by omega
      go_wp2_with fail
      go_end0
      exact ⟨rfl, HJ.out⟩
end Go.Proofs.YthcahjnniendnabGreatDoor

/-
  words.All's own function: a hit more.
-/
namespace Go.Proofs.YthcahjnniendnabGreatDoor
open Go.RowKit Wf

def hitCells (h : Nat × Nat × Nat) : List Value := [.int .i64 (h.1 : Int), .int .i64 (h.2.1 : Int), .int .i64 (h.2.2 : Int)]
theorem hits_len (S : List (Nat × Nat × Nat)) : (S.flatMap hitCells).length = S.length * 3 := by
  induction S with
  | nil => rfl
  | cons a r ih => simp only [List.flatMap_cons, List.length_append, ih, List.length_cons]; simp [hitCells]; omega
theorem info_hit : (Tryz.prog.info? 49).map (fun i => (i.zero, i.size, i.bytes)) = some (some (.agg #[.int .i64 0, .int .i64 0, .int .i64 0]), 3, 24) := by kernel_rfl

/-- All blocks stay but rows of hits, and what holds them; below base all stay. -/
structure HitKeep (base : Nat) (W W' : World) : Prop where
  os : W'.os = W.os
  tape : W'.tape = W.tape
  output : W'.output = W.output
  size : W.heap.size ≤ W'.heap.size
  low : ∀ k, k < base → k < W.heap.size → W'.heap[k]? = W.heap[k]?
  keep : ∀ (k : Nat) (o : Obj), W.heap[k]? = some o → (∀ cs fr, o ≠ .cells cs 49 fr) → (∀ cs fr, o ≠ .cells cs 36 fr) → W'.heap[k]? = some o
theorem HitKeep.trans {base : Nat} {a b c : World} (h : HitKeep base a b) (k : HitKeep base b c) : HitKeep base a c :=
  ⟨k.os.trans h.os, k.tape.trans h.tape, k.output.trans h.output, Nat.le_trans h.size k.size, fun q h1 h2 => (k.low q h1 (Nat.lt_of_lt_of_le h2 h.size)).trans (h.low q h1 h2), fun q o h1 h2 h3 => k.keep q o (h.keep q o h1 h2 h3) h2 h3⟩
theorem HitKeep.below {base : Nat} {w w' : World} (h : Below w.heap.size w w') : HitKeep base w w' :=
  ⟨h.os, h.tape, h.output, h.size, fun q _ h2 => h.block q h2, fun q o h1 _ _ => (h.block q (Array.getElem?_eq_some_iff.1 h1).1).trans h1⟩
theorem HitKeep.ints {base : Nat} {w w' : World} (h : HitKeep base w w') : IntKeep w w' := fun g cur hg => h.keep g _ hg (fun cs fr e => by injection e with _ e _; exact absurd e (by decide)) (fun cs fr e => by injection e with _ e _; exact absurd e (by decide))
theorem HitKeep.blk {base g : Nat} {w w' : World} {t : TypeId} {cs : Array Value} (h : HitKeep base w w') (hb : Blk w g t cs) (h1 : t ≠ 49) (h2 : t ≠ 36) : Blk w' g t cs :=
  h.keep g _ hb (fun cs fr e => by injection e with _ e _; exact h1 e) (fun cs fr e => by injection e with _ e _; exact h2 e)
theorem HitKeep.mp {base g : Nat} {w w' : World} {l : List (Nat × Value)} (h : HitKeep base w w') (hm : Mp w g byteW l) : Mp w' g byteW l := by
  obtain ⟨es, clock, hb, hr⟩ := hm
  exact ⟨es, clock, h.keep g _ hb (fun cs fr e => by cases e) (fun cs fr e => by cases e), hr⟩
theorem HitKeep.row {base : Nat} {w0 w w' : World} {v : Value} {xs : List Nat} (h : HitKeep base w w') (hr : RowK w0 w v xs) : RowK w0 w' v xs := ⟨hr.1, own_int hr.2 h.ints⟩

section
variable {w0 w w' : World} {Nb : Nat} {wv : Value} {root : Kn} {ws : List (List UInt8)} {Ks : List Kn} {bk ev : Kn → Value} {ch : Kn → List (Nat × Value)}
/-- The tied net stays. -/
theorem Tied.hk (h : Tied w0 Nb wv root ws Ks ch bk ev w) (hk : HitKeep w0.heap.size w w') : Tied w0 Nb wv root ws Ks ch bk ev w' := by
  have n := h.net
  refine ⟨⟨hk.blk n.net (by decide) (by decide), n.onb, n.rt, n.ru, fun k hkk => hk.blk (n.blk k hkk) (by decide) (by decide), fun k hkk => hk.mp (n.mp k hkk), n.ob, n.om, n.ib, n.im, n.iu, n.kids, n.all, n.par, ?_⟩, h.tie, fun s hs => ?_⟩
  · exact ⟨hk.os.trans n.keep.os, hk.tape.trans n.keep.tape, hk.output.trans n.keep.output, Nat.le_trans n.keep.size hk.size, fun q hq => (hk.low q hq (Nat.lt_of_lt_of_le hq n.keep.size)).trans (n.keep.block q hq)⟩
  · obtain ⟨xs, h1, h2⟩ := h.rows s hs
    exact ⟨xs, hk.row h1, h2⟩
/-- The net over an older world. -/
theorem Tied.older {wa : World} (h : Tied w0 Nb wv root ws Ks ch bk ev w) (hs : wa.heap.size ≤ w0.heap.size) (hb : Below wa.heap.size wa w) : Tied wa Nb wv root ws Ks ch bk ev w := by
  have n := h.net
  refine ⟨⟨n.net, Nat.le_trans hs n.onb, n.rt, n.ru, n.blk, n.mp, fun k hk => Nat.le_trans hs (n.ob k hk), fun k hk => Nat.le_trans hs (n.om k hk), n.ib, n.im, n.iu, n.kids, n.all, n.par, hb⟩, h.tie, fun s hs' => ?_⟩
  obtain ⟨xs, h1, h2⟩ := h.rows s hs'
  exact ⟨xs, h1.base hs, h2⟩
end

/-- What All's own function writes: the hits so far, behind the world w0. -/
structure HitAt (w0 : World) (Wb : Nat) (lv : Value) (l : List ByteArray) (S : List (Nat × Nat × Nat)) (v : Value) (w : World) : Prop where
  box : Blk w w0.heap.size 36 #[v]
  own : w.ownsRow (w0.heap.size + 1) 49 3 v S.length (S.flatMap hitCells)
  wb : Blk w0 Wb 35 #[lv]
  rd : Rd1 w0 lv (strVals l)
  bel : Below w0.heap.size w0 w
theorem HitAt.below {w0 : World} {Wb : Nat} {lv v : Value} {l : List ByteArray} {S : List (Nat × Nat × Nat)} {w w' : World} (h : HitAt w0 Wb lv l S v w) (hb : Below w.heap.size w w') : HitAt w0 Wb lv l S v w' :=
  ⟨h.box.kept hb, h.own.kept (row := none) ⟨hb.os, hb.tape, hb.output, hb.size, fun i hi _ => hb.block i hi⟩ (by cases v.ownBlock <;> simp), h.wb, h.rd, h.bel.trans (hb.mono h.bel.size)⟩
/-- A hit more. -/
theorem HitAt.more {w0 : World} {Wb : Nat} {lv v : Value} {l : List ByteArray} {S : List (Nat × Nat × Nat)} {w w1 : World} {g cp : Nat} {h1 : Nat × Nat × Nat} (h : HitAt w0 Wb lv l S v w)
    (hown : w1.ownsRow (w0.heap.size + 1) 49 3 (.slice (some ⟨g, 0, none⟩) (S.length + 1) cp) (S.length + 1) (S.flatMap hitCells ++ hitCells h1)) (hg : w.grownBy w1 v.ownBlock) :
    HitAt w0 Wb lv l (S ++ [h1]) (.slice (some ⟨g, 0, none⟩) (S.length + 1) cp) (w1.setCell ⟨w0.heap.size, 0, none⟩ (.slice (some ⟨g, 0, none⟩) (S.length + 1) cp)) ∧ HitKeep w0.heap.size w (w1.setCell ⟨w0.heap.size, 0, none⟩ (.slice (some ⟨g, 0, none⟩) (S.length + 1) cp)) ∧ Blk w1 w0.heap.size 36 #[v] := by
  have hlt := h.own.lt
  have hne : some w0.heap.size ≠ v.ownBlock := fun e => by have := (hlt _ e.symm).1; omega
  have hbox := blk_grown h.box hg hne
  have hgl := (hown.lt g rfl).1
  have hgo := hown.kept (grown_setK w1 ⟨w0.heap.size, 0, none⟩ (.slice (some ⟨g, 0, none⟩) (S.length + 1) cp)) (.inr (fun e => by
    have e2 : g = w0.heap.size := by simpa [Value.ownBlock] using e
    omega))
  refine ⟨⟨hbox.set_ 0 _, by simpa using hgo, h.wb, h.rd, ?_⟩, ⟨?_, ?_, ?_, ?_, fun k hk hk2 => ?_, fun k o hk n1 n2 => ?_⟩, hbox⟩
  · exact (h.bel.grown hg h.bel.size (fun q e => by have := (hlt q e).1; omega)).setCell (Nat.le_refl _) _
  · exact hg.os
  · exact hg.tape
  · exact hg.output
  · have := hg.size; simpa using this
  · rw [Below.heap_setCell _ _ _ k (by show k ≠ w0.heap.size; omega)]
    exact hg.block k hk2 (fun e => by have := (hlt _ e.symm).1; omega)
  · have hkl := (Array.getElem?_eq_some_iff.1 hk).1
    rw [Below.heap_setCell _ _ _ k (fun e => by
      have e2 : k = w0.heap.size := e
      have hb := h.box
      unfold Blk at hb
      rw [e2, hb] at hk
      exact n2 _ _ (Option.some.inj hk).symm)]
    rw [hg.block k hkl (fun e => by
      rcases h.own.2 with ⟨e0, _⟩ | ⟨g', cap', cur, e1, _, e3, _⟩
      · rw [e0] at e; cases e
      · rw [e1] at e
        have e2 : k = g' := by simpa [Value.ownBlock] using e
        rw [e2, e3] at hk
        exact n1 _ _ (Option.some.inj hk).symm)]
    exact hk

theorem hit_news (W : World) (g : Nat) (hg : W.heap.size = g) (a b c : Nat) : ∀ (j : Nat) (u : Value), (hitCells (a, b, c))[j]? = some u →
    (W.alloc (.cells #[.int .i64 (a : Int), .int .i64 (b : Int), .int .i64 (c : Int)] 49)).cell? ((⟨g, 0, none⟩ : Addr).add j) = some u := by
  intro j u hu
  subst hg
  rw [add_mk, Nat.zero_add, (Blk.new W _ _).cell]
  simpa [hitCells] using hu
theorem hit_one (h : Nat × Nat × Nat) : ∀ u ∈ hitCells h, u.oneCell' = true := by
  intro u hu
  simp only [hitCells, List.mem_cons, List.not_mem_nil, or_false] at hu
  rcases hu with rfl | rfl | rfl <;> rfl

set_option maxRecDepth 100000 in
set_option maxHeartbeats 8000000 in
theorem Do_c (w0 : World) (Wb : Nat) (lv : Value) (l : List ByteArray) (S : List (Nat × Nat × Nat)) (v : Value) (w : World) (h : HitAt w0 Wb lv l S v w) (i e : Nat) (x : ByteArray) (hx : l[i]? = some x) (hxe : x.size ≤ e) (he : e ≤ 400) (hl : l.length ≤ 20) (hS : S.length ≤ 8000) :
    Calls Tryz.prog 23 #[.int .i64 (i : Int), .int .i64 (e : Int), .pointer (some ⟨w0.heap.size, 0, none⟩), .pointer (some ⟨Wb, 0, none⟩)] w (fun en w' => en = .returned (.tuple #[]) ∧ ∃ v', HitAt w0 Wb lv l (S ++ [(i, e - x.size, e)]) v' w' ∧ HitKeep w0.heap.size w w') := by
  obtain ⟨i0, hi0, hz0, hz1, hz2⟩ := info_parts info_hit
  have hil : i < l.length := (List.getElem?_eq_some_iff.1 hx).1
  obtain ⟨A, cap, rfl, hc1, hc2, hm⟩ := str_open h.rd
  obtain ⟨b, off, rfl, hbl, hcs⟩ := hm (by omega)
  have sc : w.cell? ⟨b, off + i, none⟩ = some (.string x) := hcs w (fun o => h.bel.cell (p := ⟨b, o, none⟩) hbl) i x hx
  have wc : w.cell? ⟨Wb, 0, none⟩ = some (.slice (some ⟨b, off, none⟩) l.length cap) := (h.wb.below h.bel h.wb.lt).cell 0
  have oc : w.cell? ⟨w0.heap.size, 0, none⟩ = some v := h.box.cell 0
  obtain ⟨VA, vn, vcap, rfl, _, _, hvl, _⟩ := Rd.of_own h.own
  obtain rfl : vn = S.length := by rw [hits_len] at hvl; omega
  have hsub : (e : Int) - (x.size : Int) = ((e - x.size : Nat) : Int) := by omega
  have hb1 := fun (f : Nat) => (Below.refl w.heap.size w).alloc (Nat.le_refl _) (.cells #[.int .i64 (i : Int), .int .i64 (f : Int), .int .i64 (e : Int)] 49)
  have HA := Lib.hid fun (f : Nat) => h.below (hb1 f)
  have HB1 := Lib.hid hb1
  have hO : w0.heap.size ≤ w.heap.size := h.bel.size
  have hOl : w0.heap.size + 1 ≤ w.heap.size := h.box.lt
  have oc2 : (w.alloc (.cells #[.int .i64 (i : Int), .int .i64 ((e - x.size : Nat) : Int), .int .i64 (e : Int)] 49)).cell? ⟨w0.heap.size, 0, none⟩ = some (.slice VA S.length vcap) := (HA.out (e - x.size)).box.cell 0
  have hfe : e - x.size ≤ 400 := by omega
  generalize e - x.size = f at *
  have hwf : IntKind.i64.wrap ((f : Nat) : Int) = (f : Int) := by rw [IntKind.wrap_i64]; omega
  generalize hOO : w0.heap.size = O at *
  clear h hx hm hcs hvl hxe hb1
  go_enter Tryz.func23, Tryz.ntmps23
  go_wp2_with fail
  go_region_law (refine step_append_lies _ rfl (.tmp 6) (.tmp 18) 36 rfl (O + 1) 49 i0 _ 3 24 Tryz.underlying36 hi0 hz0 hz1 hz2 rfl (by decide) (.slice VA S.length vcap) S.length (S.flatMap hitCells) ?a1 (by rw [← hOO]; exact ((HA.out f).below (Below.refl _ _).drew).own) ⟨w.heap.size, 0, none⟩ 1 1 (hitCells (i, f, e)) ?a2 rfl (hit_news _ _ ?a3 _ _ _) (hit_one _) ?a4 ?a5 ?a6 ?a7 _ rfl ?_; (case a1 => simp [Act.eval, Act.put]); (case a2 => simp [Act.eval, Act.put]); (case a3 => simp); (case a4 => omega); (case a5 => unfold maxLen; omega); (case a6 => omega); (case a7 => simp; omega); intro g cp w1 hown hg hat hlt; rw [← hOO] at hown; obtain ⟨hm1, hm2, hm3⟩ := ((HA.out f).below (Below.refl _ _).drew).more hown hg; rw [hOO] at hm1 hm2 hm3; have HM1 := Lib.hid hm1; have HM2 := Lib.hid hm2; have o1 : w1.cell? ⟨O, 0, none⟩ = some (.slice VA S.length vcap) := hm3.cell 0; have f1 : w1.frozen? ⟨O, 0, none⟩ = false := hm3.frozen 0; clear hm1 hm2 hm3 hown hg hat hlt)
  all_goals (
    go_wp2
    go_end0
    exact ⟨rfl, _, HM1.out, (HitKeep.below ((HB1.out f).drew)).trans HM2.out⟩)
end Go.Proofs.YthcahjnniendnabGreatDoor

/-
  words.All: the walk.
-/
namespace Go.Proofs.YthcahjnniendnabGreatDoor
open Go.RowKit Wf

def hitOf (ws : List (List UInt8)) (p : Nat × Nat) : Nat × Nat × Nat := (p.1, p.2 - (ws.getD p.1 []).length, p.2)
theorem all_hits (ws : List (List UInt8)) (s : ByteArray) : (toldTo ws s.data.toList s.size).map (hitOf ws) = hitsL ws s.data.toList := by
  unfold hitsL
  rw [← told_hits]
  have : s.data.toList.length = s.size := by simp
  rw [this]
  rfl

def WAllIs (S : List (Nat × Nat × Nat)) (w : World) (e : Ending) (w' : World) : Prop :=
  ∃ A cap, e = .returned (.tuple #[.slice A S.length cap, .nilIface]) ∧ w'.ownsRow w.heap.size 49 3 (.slice A S.length cap) S.length (S.flatMap hitCells) ∧ Below w.heap.size w w'
def WAllNo (n : Int) (w : World) (e : Ending) (w' : World) : Prop := e = .returned (.tuple #[.slice none 0 0, errV n]) ∧ Below w.heap.size w w'

set_option maxRecDepth 100000 in
set_option maxHeartbeats 4000000 in
theorem All_bad (l : List ByteArray) (lv : Value) (s : ByteArray) (w : World) (hr : Rd1 w lv (strVals l)) (hlen : l.length ≤ 9223372036854775807) (hsz : ∀ s ∈ l, s.size ≤ 9223372036854775807) (hc : chkW l ≠ 0) : Calls Tryz.prog 9 #[lv, .string s] w (WAllNo (chkW l) w) := by
  obtain ⟨A, cap, rfl, _, _, _⟩ := str_open hr
  have hb1 : Below w.heap.size w (w.alloc (.cells #[.slice A l.length cap] 35)) := (Below.refl _ _).alloc (Nat.le_refl _) _
  have HC : Hid (Calls Tryz.prog 20 #[.slice A l.length cap] (w.alloc (.cells #[.slice A l.length cap] 35)) (fun e w' => e = .returned (.iface 31 (.int .i64 (chkW l))) ∧ Below w.heap.size w w')) := Lib.hid (by
    refine (WCheck_any l _ _ (Rd.below hr hb1) hlen hsz).mono ?_
    rintro e w' ⟨rfl, hb⟩
    exact ⟨by rw [errV_ne hc], hb1.trans (hb.mono hb1.size)⟩)
  have c0 : (w.alloc (.cells #[.slice A l.length cap] 35)).cell? ⟨w.heap.size, 0, none⟩ = some (.slice A l.length cap) := (Blk.new w 35 #[.slice A l.length cap]).cell 0
  have HE := Lib.hid (errV_ne hc)
  generalize chkW l = n at *
  clear hr hb1 hc hlen hsz
  unfold WAllNo
  go_enter Tryz.func9, Tryz.ntmps9
  go_wp2_with (go_at_call 20; refine HC.out.mono ?_; rintro e w1 ⟨rfl, hb2⟩)
  go_ret2
  exact ⟨by rw [HE.out]; rfl, hb2⟩
set_option maxRecDepth 100000 in
set_option maxHeartbeats 4000000 in
theorem All_long (l : List ByteArray) (lv : Value) (s : ByteArray) (w : World) (hr : Rd1 w lv (strVals l)) (hok : okW l) (hs : 400 < s.size) : Calls Tryz.prog 9 #[lv, .string s] w (WAllNo 3 w) := by
  obtain ⟨A, cap, rfl, _, _, _⟩ := str_open hr
  have h20 := hok.1
  have hb1 : Below w.heap.size w (w.alloc (.cells #[.slice A l.length cap] 35)) := (Below.refl _ _).alloc (Nat.le_refl _) _
  have HC : Hid (Calls Tryz.prog 20 #[.slice A l.length cap] (w.alloc (.cells #[.slice A l.length cap] 35)) (fun e w' => e = .returned .nilIface ∧ Below w.heap.size w w')) := Lib.hid (by
    refine (WCheck_any l _ _ (Rd.below hr hb1) (by omega) (fun x hx => by have := (hok.2.1 x hx).2; omega)).mono ?_
    rintro e w' ⟨rfl, hb⟩
    exact ⟨by rw [chkW_ok.2 hok]; rfl, hb1.trans (hb.mono hb1.size)⟩)
  have c0 : (w.alloc (.cells #[.slice A l.length cap] 35)).cell? ⟨w.heap.size, 0, none⟩ = some (.slice A l.length cap) := (Blk.new w 35 #[.slice A l.length cap]).cell 0
  have hd : decide ((400 : Int) < (s.size : Int)) = true := by simp; omega
  have HE : Hid (errV 3 = .iface 31 (.int .i64 3)) := Lib.hid (errV_ne (by decide))
  clear hr hb1 hok
  unfold WAllNo
  go_enter Tryz.func9, Tryz.ntmps9
  go_wp2_with (go_at_call 20; refine HC.out.mono ?_; rintro e w1 ⟨rfl, hb2⟩)
  go_ret2
  exact ⟨by rw [HE.out]; rfl, hb2⟩

theorem Tied.below {w0 w w' : World} {Nb : Nat} {wv : Value} {root : Kn} {ws : List (List UInt8)} {Ks : List Kn} {bk ev : Kn → Value} {ch : Kn → List (Nat × Value)} (h : Tied w0 Nb wv root ws Ks ch bk ev w) (hb : Below w.heap.size w w') : Tied w0 Nb wv root ws Ks ch bk ev w' := h.hk (HitKeep.below hb)

theorem words_facts {l : List ByteArray} (hok : okW l) {ws : List (List UInt8)} (hws : ws = l.map (fun s => s.data.toList)) : ws.length = l.length ∧ ∀ x ∈ ws, x ≠ [] ∧ x.length ≤ 20 := by
  refine ⟨by rw [hws]; simp, fun x hx => ?_⟩
  rw [hws] at hx
  obtain ⟨s, hs, rfl⟩ := List.mem_map.1 hx
  have h1 := hok.2.1 s hs
  have h2 : s.data.toList.length = s.size := by simp
  refine ⟨fun e => ?_, by omega⟩
  rw [e] at h2
  simp at h2
  omega

def IsTied (w0 : World) (Nb : Nat) (lv : Value) (ws : List (List UInt8)) (w : World) : Prop := ∃ (root : Kn) (Ks : List Kn) (ch : Kn → List (Nat × Value)) (bk ev : Kn → Value), Tied w0 Nb lv root ws Ks ch bk ev w

theorem new_tied (l : List ByteArray) (lv : Value) (w : World) (hr : Rd1 w lv (strVals l)) (hok : okW l) (ws : List (List UInt8)) (hws : ws = l.map (fun s => s.data.toList)) :
    Calls Tryz.prog 21 #[lv] w (fun e w' => e = .returned (.pointer (some ⟨w.heap.size + 2, 0, none⟩)) ∧ IsTied w (w.heap.size + 2) lv ws w') := by
  obtain ⟨hlen, hx⟩ := words_facts hok hws
  refine New_c l lv w hr hok ws hws (fun Nb w' => IsTied w Nb lv ws w') (fun Ks ev ch W hN => ?_)
  refine (tie_c w W (w.heap.size + 2) lv _ ws Ks ev ch hN (by rw [hlen]; exact hok.1) hx).mono ?_
  rintro e w' ⟨rfl, bk, ev', ht⟩
  exact ⟨rfl, _, Ks, ch, bk, ev', ht⟩

theorem each_hits (l : List ByteArray) (lv : Value) (hok : okW l) (ws : List (List UInt8)) (hws : ws = l.map (fun s => s.data.toList)) (s : ByteArray) (hs : s.size ≤ 400) (w0 w : World) (Nb Wb : Nat) (hT : IsTied w0 Nb lv ws w) (v : Value) (hH : HitAt w0 Wb lv l [] v w) :
    Calls Tryz.prog 22 #[.pointer (some ⟨Nb, 0, none⟩), .string s, .func (.func 23) #[] #[.pointer (some ⟨w0.heap.size, 0, none⟩), .pointer (some ⟨Wb, 0, none⟩)]] w (fun e w' => e = .returned (.tuple #[]) ∧ ∃ v, HitAt w0 Wb lv l (hitsL ws s.data.toList) v w') := by
  obtain ⟨hlen, hx⟩ := words_facts hok hws
  obtain ⟨root, Ks, ch, bk, ev, ht⟩ := hT
  have h20 := hok.1
  refine (Each_c w0 Nb lv root ws Ks ch bk ev (by omega) s hs _ _ (fun done W => Tied w0 Nb lv root ws Ks ch bk ev W ∧ ∃ v, HitAt w0 Wb lv l (done.map (hitOf ws)) v W) (fun _ _ h => h.1) ⟨fun done W W' h hb => ⟨h.1.below hb, ?_⟩, fun done W i e h hle he hd => ?_⟩ w ⟨ht, v, hH⟩).mono ?_
  · obtain ⟨v', hv'⟩ := h.2
    exact ⟨v', hv'.below hb⟩
  · obtain ⟨x, hxi, hxl⟩ := hle
    obtain ⟨v', hv'⟩ := h.2
    rw [hws, List.getElem?_map] at hxi
    cases hli : l[i]? with
    | none => rw [hli] at hxi; cases hxi
    | some sx =>
      rw [hli] at hxi
      have hxe : sx.data.toList = x := by simpa using hxi
      have hsz : sx.size = x.length := by rw [← hxe]; simp
      have hdl : done.length ≤ 8000 := by
        have : ws.length * s.size ≤ 20 * 400 := Nat.mul_le_mul (by omega) hs
        omega
      have hwx : ws.getD i [] = x := by
        rw [hws, List.getD, List.getElem?_map, hli]
        simpa using hxe
      refine (Do_c w0 Wb lv l _ v' W hv' i e sx hli (by omega) (by omega) h20 (by simpa using hdl)).mono ?_
      rintro en w' ⟨rfl, v2, hv2, hk⟩
      refine ⟨rfl, ⟨h.1.hk hk, v2, ?_⟩, hk.ints⟩
      rw [List.map_append]
      have : [(i, e)].map (hitOf ws) = [(i, e - sx.size, e)] := by
        show [(i, e - (ws.getD i []).length, e)] = _
        rw [hwx, hsz]
      rw [this]
      exact hv2
  · rintro e w' ⟨rfl, _, v2, hv2⟩
    rw [all_hits] at hv2
    exact ⟨rfl, v2, hv2⟩

set_option maxRecDepth 100000 in
set_option maxHeartbeats 8000000 in
theorem All_ok (l : List ByteArray) (lv : Value) (s : ByteArray) (w : World) (hr : Rd1 w lv (strVals l)) (hok : okW l) (hs : s.size ≤ 400) (ws : List (List UInt8)) (hws : ws = l.map (fun s => s.data.toList)) :
    Calls Tryz.prog 9 #[lv, .string s] w (WAllIs (hitsL ws s.data.toList) w) := by
  obtain ⟨A, cap, rfl, _, _, _⟩ := str_open hr
  have h20 := hok.1
  have hlen : ws.length = l.length := by rw [hws]; simp
  have hb1 : Below w.heap.size w (w.alloc (.cells #[.slice A l.length cap] 35)) := (Below.refl _ _).alloc (Nat.le_refl _) _
  have HC : Hid (Calls Tryz.prog 20 #[.slice A l.length cap] (w.alloc (.cells #[.slice A l.length cap] 35)) (fun e w' => e = .returned .nilIface ∧ Below (w.alloc (.cells #[.slice A l.length cap] 35)).heap.size (w.alloc (.cells #[.slice A l.length cap] 35)) w')) := Lib.hid (by
    refine (WCheck_any l _ _ (Rd.below hr hb1) (by omega) (fun x hx => by have := (hok.2.1 x hx).2; omega)).mono ?_
    rintro e w' ⟨rfl, hb⟩
    exact ⟨by rw [chkW_ok.2 hok]; rfl, hb⟩)
  have c0 : (w.alloc (.cells #[.slice A l.length cap] 35)).cell? ⟨w.heap.size, 0, none⟩ = some (.slice A l.length cap) := (Blk.new w 35 #[.slice A l.length cap]).cell 0
  have hd : decide ((400 : Int) < (s.size : Int)) = false := by simp; omega
  have hmf : ∀ (fn : Fn) (first cap : Array Value) (w : World), (Instr.makeFunc fn first cap).run Tryz.prog w = .ok (.func fn first cap) w := fun _ _ _ _ => rfl
  have HB1 := Lib.hid hb1
  have HR := Lib.hid (Rd.below hr hb1)
  have HOK := Lib.hid hok
  have HWS := Lib.hid hws
  have HLEN := Lib.hid hlen
  have HWB := Lib.hid (Blk.new w 35 #[.slice A l.length cap])
  have hwl : w.heap.size < (w.alloc (.cells #[.slice A l.length cap] 35)).heap.size := by simp
  clear hr hb1 hok hws hlen
  have HNEW : Hid (∀ w1, Below (w.alloc (.cells #[.slice A l.length cap] 35)).heap.size (w.alloc (.cells #[.slice A l.length cap] 35)) w1 → Calls Tryz.prog 21 #[.slice A l.length cap] (w1.alloc (.cells #[.slice none 0 0] 36)) (fun e w' => e = .returned (.pointer (some ⟨w1.heap.size + 1 + 2, 0, none⟩)) ∧ IsTied w1 (w1.heap.size + 1 + 2) (.slice A l.length cap) ws w' ∧ HitAt w1 w.heap.size (.slice A l.length cap) l [] (.slice none 0 0) w')) := Lib.hid (fun w1 hb => by
    have hba : Below w1.heap.size w1 (w1.alloc (.cells #[.slice none 0 0] 36)) := (Below.refl _ _).alloc (Nat.le_refl _) _
    have hr1 := Rd.below HR.out hb
    have hh : HitAt w1 w.heap.size (.slice A l.length cap) l [] (.slice none 0 0) (w1.alloc (.cells #[.slice none 0 0] 36)) := ⟨Blk.new w1 _ _, World.ownsRow_nil _ _ _ _, HWB.out.below hb hwl, hr1, hba⟩
    have hs1 : (w1.alloc (.cells #[.slice none 0 0] 36)).heap.size = w1.heap.size + 1 := by simp
    refine (new_tied l _ _ (Rd.below hr1 hba) HOK.out ws HWS.out).mono ?_
    rintro e w' ⟨rfl, ht⟩
    rw [hs1] at ht
    obtain ⟨root, Ks, ch, bk, ev, ht⟩ := ht
    have hbw := ht.net.keep
    refine ⟨by rw [hs1], ⟨root, Ks, ch, bk, ev, ht.older (by simp) (hba.trans (hbw.mono (by simp)))⟩, hh.below hbw⟩)
  obtain ⟨N, hN⟩ : ∃ N, N = (hitsL ws s.data.toList).length := ⟨_, rfl⟩
  have HEACH : Hid (∀ (w1 w3 : World) (Nb : Nat), IsTied w1 Nb (.slice A l.length cap) ws w3 → HitAt w1 w.heap.size (.slice A l.length cap) l [] (.slice none 0 0) w3 → Calls Tryz.prog 22 #[.pointer (some ⟨Nb, 0, none⟩), .string s, .func (.func 23) #[] #[.pointer (some ⟨w1.heap.size, 0, none⟩), .pointer (some ⟨w.heap.size, 0, none⟩)]] w3 (fun e w' => e = .returned (.tuple #[]) ∧ ∃ VA vc, HitAt w1 w.heap.size (.slice A l.length cap) l (hitsL ws s.data.toList) (.slice VA N vc) w')) := Lib.hid (fun w1 w3 Nb ht hh => by
    refine (each_hits l _ HOK.out ws HWS.out s hs w1 w3 Nb w.heap.size ht _ hh).mono ?_
    rintro e w' ⟨rfl, v, hv⟩
    obtain ⟨VA, vn, vc, rfl, _, _, hvl, _⟩ := Rd.of_own hv.own
    have hvn : vn = N := by rw [hits_len] at hvl; omega
    subst hvn
    exact ⟨rfl, VA, vc, hv⟩)
  have HNN := Lib.hid hN
  unfold WAllIs
  rw [← hN]
  clear hN
  go_enter Tryz.func9, Tryz.ntmps9
  go_wp2_with (first
    | (go_at_call 20; refine HC.out.mono ?_; rintro e w1 ⟨rfl, hb2⟩; have HB2 := Lib.hid hb2; have c1 : (w1.alloc (.cells #[.slice none 0 0] 36)).cell? ⟨w.heap.size, 0, none⟩ = some (.slice A l.length cap) := ((HWB.out.below hb2 hwl).alloc _).cell 0; clear hb2)
    | (go_at_call 21; refine (HNEW.out w1 HB2.out).mono ?_; rintro e w3 ⟨rfl, ht, hh⟩; have HTI := Lib.hid ht; have HHI := Lib.hid hh; clear ht hh)
    | (go_at_call 22; refine (HEACH.out w1 w3 _ HTI.out HHI.out).mono ?_; rintro e w4 ⟨rfl, VA, vc, hv⟩; have o1 : w4.cell? ⟨w1.heap.size, 0, none⟩ = some (.slice VA N vc) := hv.box.cell 0; have HV := Lib.hid hv; clear hv))
  go_ret2
  have hsz1 : w.heap.size ≤ w1.heap.size := Nat.le_trans (Nat.le_of_lt hwl) HB2.out.size
  refine ⟨VA, vc, rfl, ?_, (HB1.out.trans (HB2.out.mono (Nat.le_of_lt hwl))).trans (HV.out.bel.mono hsz1)⟩
  have ho := HV.out.own
  rw [← HNN.out] at ho
  refine ⟨ho.1, ?_⟩
  rcases ho.2 with q | ⟨g, cp, cur, q1, q2, q3⟩
  · exact .inl q
  · exact .inr ⟨g, cp, cur, q1, by omega, q3⟩
end Go.Proofs.YthcahjnniendnabGreatDoor
