/-
  Walks of package syn: the items of a class. (Printed by gen-synf.py.)
-/
import Derived.Test.YthcahjnniendnabDoorSynE
import Derived.Deep.LoopGhost
namespace Go.Proofs.YthcahjnniendnabDoor
open Go.RowKit Wf

theorem okC_spanp {d : Cls} {p : Nat × Nat} (h : d = spanC p.1 p.2) : okC d := by rw [h]; exact okC_span _ _

/-- The parser among the items of a class. -/
structure IB (w : World) (pb : Nat) (s : ByteArray) (i B : Nat) (c0 c1 c2 c3 : Nat) (W : World) : Prop where
  rb : RB w pb s i W
  blk : Blk W B 54 #[.int .u64 (c0 : Int), .int .u64 (c1 : Int), .int .u64 (c2 : Int), .int .u64 (c3 : Int)]
  hB : w.heap.size < B
theorem IB.start {w W : World} {pb i : Nat} {s : ByteArray} (h : RB w pb s i W) : IB w pb s i W.heap.size 0 0 0 0 (W.alloc (.cells #[.int .u64 0, .int .u64 0, .int .u64 0, .int .u64 0] 54)) :=
  ⟨h.below ((Below.refl _ _).alloc (Nat.le_refl _) _), Blk.new W _ _, h.blk.lt⟩
theorem IB.step {w W W' : World} {pb i j B c0 c1 c2 c3 : Nat} {s : ByteArray} (h : IB w pb s i B c0 c1 c2 c3 W) (h' : PW W pb s j W') : IB w pb s j B c0 c1 c2 c3 W' :=
  ⟨h.rb.step h', (h'.grow.block _ h.blk.lt (fun e => by have h1 := h.rb.pw.lt; have h2 := h.hB; rw [Option.some.inj e] at h2; omega)).trans h.blk, h.hB⟩
theorem IB.below {w W W' : World} {pb i B c0 c1 c2 c3 : Nat} {s : ByteArray} (h : IB w pb s i B c0 c1 c2 c3 W) (hb : Below W.heap.size W W') : IB w pb s i B c0 c1 c2 c3 W' := ⟨h.rb.below hb, h.blk.kept hb, h.hB⟩
theorem IB.put {w W : World} {pb i B c0 c1 c2 c3 : Nat} {s : ByteArray} (h : IB w pb s i B c0 c1 c2 c3 W) (d0 d1 d2 d3 : Nat) :
    IB w pb s i B d0 d1 d2 d3 ((((W.setCell ⟨B, 0, none⟩ (.int .u64 (d0 : Int))).setCell ⟨B, 1, none⟩ (.int .u64 (d1 : Int))).setCell ⟨B, 2, none⟩ (.int .u64 (d2 : Int))).setCell ⟨B, 3, none⟩ (.int .u64 (d3 : Int))) :=
  ⟨⟨h.rb.pw.set4 (Nat.le_of_lt h.hB) _ _ _ _, set4_far h.rb.blk (by have := h.hB; omega) _ _ _ _⟩, Blk4_set h.blk _ _ _ _, h.hB⟩

def RdK (r : PR Cls) (pb : Nat) (s : ByteArray) (w : World) (e : Ending) (w' : World) : Prop :=
  (∃ c j, r = .ok c j ∧ ClsAt pb s j c w e w') ∨ (∃ k, r = .bad k ∧ PS w pb k e w')
def notIf (b : Bool) (r : PR Cls) : PR Cls := match r with
  | .bad k => .bad k
  | .ok c j => .ok (if b then notC c else c) j

set_option maxRecDepth 100000 in
set_option maxHeartbeats 8000000 in
theorem items_not {ev : Value} {pb : Nat} {s : ByteArray} {i0 : Nat} (w : World) (h : PIn ev pb s i0 w) (hm : s.data.toList[i0]? = some 94) :
    Calls Tryd.prog 154 #[.pointer (some ⟨pb, 0, none⟩)] w (RdK (notIf true (itemsS s.data.toList (i0 + 1) zc)) pb s w) := by
  have h0 := h.pw
  have HI : Hid (∀ W, PW w pb s i0 W → Calls Tryd.prog 117 #[.pointer (some ⟨pb, 0, none⟩), .int .u8 94] W (IsYes pb s i0 W)) := Lib.hid fun W hw => is_yes (c := 94) W hw.here h.sz hm
  have HIN := Lib.hid h
  have hsz := h.sz
  have HSTART : Hid ((i0 + 1) ≤ s.size) := Lib.hid (by first | (have := getE_lt hm; rw [at_end] at this; omega) | exact h.le)
  clear h hm
  unfold RdK ClsAt
  go_enter Tryd.func154, Tryd.ntmps154
  go_wp2_with (go_at_call 117; refine (HI.out _ (RB.start h0 _).pw).mono ?_; rintro e w1 ⟨rfl, hp1⟩; have HB1 := Lib.hid ((RB.start h0 _).step hp1); clear hp1)
  have hB := HB1.out.blk.lt
  have HST := Lib.hid (IB.start HB1.out)
  generalize w1.heap.size = B at *
  go_loopg [7] (s.size + 1) (fun gk _ wr => ∃ (i c0 c1 c2 c3 : Nat), i ≤ s.size ∧ okC (c0, c1, c2, c3) ∧ Hid (IB w pb s i B c0 c1 c2 c3 wr) ∧ Hid (itemsS s.data.toList (i0 + 1) zc = itemsS s.data.toList i (c0, c1, c2, c3)) ∧ Hid (s.size - i < gk))
  case atStart => exact ⟨_, 0, 0, 0, 0, HSTART.out, okC_zc, HST, Lib.hid rfl, Lib.hid (by omega)⟩
  case round =>
    clear HST HB1 h0
    obtain ⟨i, c0, c1, c2, c3, hi, hok, HIB, HEQ, HG⟩ := hrel
    by_cases hend : s.data.toList[i]? = some 93
    · have HIS : Hid (∀ W, PW w pb s i W → Calls Tryd.prog 117 #[.pointer (some ⟨pb, 0, none⟩), .int .u8 93] W (IsYes pb s i W)) := Lib.hid fun W hw => is_yes (c := 93) W hw.here hsz hend
      have HF : Hid (notIf true (itemsS s.data.toList (i0 + 1) zc) = .ok (if true then notC (c0, c1, c2, c3) else (c0, c1, c2, c3)) (i + 1)) := Lib.hid (by rw [HEQ.out, itemsS_end _ hend]; rfl)
      simp only [Bool.false_eq_true, if_true, if_false] at HF
      clear hend HEQ HG
      have HNT := Lib.hid fun W => Not_any c0 c1 c2 c3 W hok
      clear hok
      go_wp2_with (first
        | (go_at_call 117; refine (HIS.out wr HIB.out.rb.pw).mono ?_; rintro e w2 ⟨rfl, hp2⟩; have HB2 := Lib.hid (HIB.out.step hp2); clear hp2; obtain ⟨⟨x0, x1, x2, x3⟩, y0, y1, y2, y3⟩ := Blk4 HB2.out.blk)
        | (go_at_call 29; refine (HNT.out _).mono ?_; rintro e w3 ⟨d0, d1, d2, d3, rfl, hd, hb3⟩; have HB3 := Lib.hid (HB2.out.below hb3); have HD := Lib.hid hd; clear hd hb3; obtain ⟨⟨p0, p1, p2, p3⟩, q0, q1, q2, q3⟩ := Blk4 HB3.out.rb.blk))
      refine bodyPost_ret (v := clsV (d0, d1, d2, d3)) ?_ rfl (.inl ⟨_, _, HF.out, d0, d1, d2, d3, rfl, HD.out, ?_⟩)
      · obtain ⟨h0, h1, h2, h3⟩ := (Blk4 (Blk4_set HB3.out.rb.blk (.int .u64 d0) (.int .u64 d1) (.int .u64 d2) (.int .u64 d3))).1
        simp [results, Tryd.results154, go_sem, clsV, h0, h1, h2, h3]
      · exact HB3.out.rb.pw.set4 (Nat.le_refl _) _ _ _ _
    · have HIS : Hid (∀ W, PW w pb s i W → Calls Tryd.prog 117 #[.pointer (some ⟨pb, 0, none⟩), .int .u8 93] W (IsNo W)) := Lib.hid fun W hw => is_no (c := 93) W hw.here hsz hi hend
      cases hit : itemS s.data.toList i with
      | bad k =>
        have HIT : Hid (∀ W, PW w pb s i W → Calls Tryd.prog 164 #[.pointer (some ⟨pb, 0, none⟩)] W (PS W pb k)) := Lib.hid fun W hw => (item_c W (HIN.out.next hw hi)).mono fun e w' hh => by
          rcases hh with ⟨_, _, _, _, p, j, h1, _⟩ | ⟨k', h1, h2⟩
          · rw [hit] at h1; cases h1
          · rw [hit] at h1; cases h1; exact h2
        have HF : Hid (notIf true (itemsS s.data.toList (i0 + 1) zc) = .bad k) := Lib.hid (by rw [HEQ.out, itemsS_bad _ hend hit]; rfl)
        clear hend HEQ HG hit
        unfold PS at *
        go_wp2_with (go_at_call 117; refine (HIS.out wr HIB.out.rb.pw).mono ?_; rintro e w2 ⟨rfl, hb2⟩; have HB2 := Lib.hid (HIB.out.below hb2); clear hb2; obtain ⟨⟨x0, x1, x2, x3⟩, y0, y1, y2, y3⟩ := Blk4 HB2.out.blk)
        have HB2d := Lib.hid (HB2.out.below ((Below.refl _ _).drew))
        obtain ⟨⟨z0, z1, z2, z3⟩, _⟩ := Blk4 HB2d.out.blk
        refine wp_region_any (by kernel_rfl) ?_
        change wpAny _ _ _ _ _ _ _ (World.drew _)
        refine wpAny_take (i := 1) (v := .pointer (some ⟨pb, 0, none⟩)) rfl (by kernel_rfl) (by kernel_rfl) (by kernel_rfl) (fun _ _ _ h => h) (Or.inl ⟨by rfl, by intro w; go_simp⟩) ?_
        refine wpAny_ready (rs := [0, 2]) (by kernel_rfl) (by simp) ?_
        refine AllReady.cons rfl (fun K hK => ?_) (AllReady.cons rfl (fun K hK => ?_) AllReady.nil)
        · go_simp
          refine hK _ _ ?_
          clear hK K
          refine wpAny_ready (rs := [2]) (by kernel_rfl) (by simp) ?_
          refine AllReady.cons rfl (fun K hK => ?_) AllReady.nil
          go_simp
          go_wp2_with (go_at_call 164; refine (HIT.out _ HB2d.out.rb.pw).mono ?_; rintro e w3 ⟨rfl, hp3⟩)
          exact ⟨rfl, .inr ⟨k, HF.out, rfl, HB2d.out.rb.pw.grow.trans hp3⟩⟩
        · go_simp
          go_wp2_with (go_at_call 164; refine (HIT.out _ HB2d.out.rb.pw).mono ?_; rintro e w3 ⟨rfl, hp3⟩)
          exact ⟨rfl, .inr ⟨k, HF.out, rfl, HB2d.out.rb.pw.grow.trans hp3⟩⟩
      | ok p j =>
        have HIT : Hid (∀ W, PW w pb s i W → Calls Tryd.prog 164 #[.pointer (some ⟨pb, 0, none⟩)] W (ClsAt pb s j (spanC p.1 p.2) W)) := Lib.hid fun W hw => (item_c W (HIN.out.next hw hi)).mono fun e w' hh => by
          rcases hh with ⟨d0, d1, d2, d3, p', j', h1, h2, h3, h4⟩ | ⟨k', h1, h2⟩
          · rw [hit] at h1; cases h1; exact ⟨d0, d1, d2, d3, h2, h3, h4⟩
          · rw [hit] at h1; cases h1
        have hjj := itemS_ok hit
        rw [at_end] at hjj
        have hij := hjj.1
        have hjs := hjj.2.1
        have HEQ2 : Hid (itemsS s.data.toList (i0 + 1) zc = itemsS s.data.toList j (eitherC (c0, c1, c2, c3) (spanC p.1 p.2))) := Lib.hid (by rw [HEQ.out, itemsS_more _ hend hit])
        have HEI := Lib.hid fun (d0 d1 d2 d3 : Nat) (hd : (d0, d1, d2, d3) = spanC p.1 p.2) W => Either_any c0 c1 c2 c3 d0 d1 d2 d3 W hok (okC_spanp hd)
        have HOK := Lib.hid (okC_either hok (okC_span p.1 p.2))
        have HG2 : Hid (s.size - j < gk - 1) := Lib.hid (by have := HG.out; omega)
        have hg0 : 0 < gk := by have := HG.out; omega
        clear hend HEQ HG hit hjj hok
        unfold ClsAt at HIT
        go_wp2_with (go_at_call 117; refine (HIS.out wr HIB.out.rb.pw).mono ?_; rintro e w2 ⟨rfl, hb2⟩; have HB2 := Lib.hid (HIB.out.below hb2); clear hb2; obtain ⟨⟨x0, x1, x2, x3⟩, y0, y1, y2, y3⟩ := Blk4 HB2.out.blk)
        have HB2d := Lib.hid (HB2.out.below ((Below.refl _ _).drew))
        go_region_with (first
          | (go_at_call 164; refine (HIT.out _ HB2d.out.rb.pw).mono ?_; rintro e w3 ⟨d0, d1, d2, d3, rfl, hd, hp3⟩; have HD := Lib.hid hd; have HB3 := Lib.hid (HB2d.out.step hp3); clear hd hp3; obtain ⟨⟨z0, z1, z2, z3⟩, v0, v1, v2, v3⟩ := Blk4 HB3.out.blk)
          | (go_at_call 38; refine (HEI.out d0 d1 d2 d3 HD.out _).mono ?_; rintro e w4 ⟨f0, f1, f2, f3, rfl, hf, hb4⟩; have HF := Lib.hid hf; have HB4 := Lib.hid (HB3.out.below hb4); clear hf hb4; obtain ⟨⟨t0, t1, t2, t3⟩, u0, u1, u2, u3⟩ := Blk4 HB4.out.blk))
        all_goals (
          go_wp2
          go_roundg (gk - 1)
          case rel => exact ⟨j, f0, f1, f2, f3, hjs, by rw [HF.out, HD.out]; exact HOK.out, Lib.hid (HB4.out.put f0 f1 f2 f3), Lib.hid (by rw [HEQ2.out, HF.out, HD.out]), HG2⟩
          all_goals omega)
set_option maxRecDepth 100000 in
set_option maxHeartbeats 8000000 in
theorem items_is {ev : Value} {pb : Nat} {s : ByteArray} {i0 : Nat} (w : World) (h : PIn ev pb s i0 w) (hm : s.data.toList[i0]? ≠ some 94) :
    Calls Tryd.prog 154 #[.pointer (some ⟨pb, 0, none⟩)] w (RdK (notIf false (itemsS s.data.toList (i0) zc)) pb s w) := by
  have h0 := h.pw
  have HI : Hid (∀ W, PW w pb s i0 W → Calls Tryd.prog 117 #[.pointer (some ⟨pb, 0, none⟩), .int .u8 94] W (IsNo W)) := Lib.hid fun W hw => is_no (c := 94) W hw.here h.sz h.le hm
  have HIN := Lib.hid h
  have hsz := h.sz
  have HSTART : Hid ((i0) ≤ s.size) := Lib.hid (by first | (have := getE_lt hm; rw [at_end] at this; omega) | exact h.le)
  clear h hm
  unfold RdK ClsAt
  go_enter Tryd.func154, Tryd.ntmps154
  go_wp2_with (go_at_call 117; refine (HI.out _ (RB.start h0 _).pw).mono ?_; rintro e w1 ⟨rfl, hb1⟩; have HB1 := Lib.hid ((RB.start h0 _).below hb1); clear hb1)
  have hB := HB1.out.blk.lt
  have HST := Lib.hid (IB.start HB1.out)
  generalize w1.heap.size = B at *
  go_loopg [7] (s.size + 1) (fun gk _ wr => ∃ (i c0 c1 c2 c3 : Nat), i ≤ s.size ∧ okC (c0, c1, c2, c3) ∧ Hid (IB w pb s i B c0 c1 c2 c3 wr) ∧ Hid (itemsS s.data.toList (i0) zc = itemsS s.data.toList i (c0, c1, c2, c3)) ∧ Hid (s.size - i < gk))
  case atStart => exact ⟨_, 0, 0, 0, 0, HSTART.out, okC_zc, HST, Lib.hid rfl, Lib.hid (by omega)⟩
  case round =>
    clear HST HB1 h0
    obtain ⟨i, c0, c1, c2, c3, hi, hok, HIB, HEQ, HG⟩ := hrel
    by_cases hend : s.data.toList[i]? = some 93
    · have HIS : Hid (∀ W, PW w pb s i W → Calls Tryd.prog 117 #[.pointer (some ⟨pb, 0, none⟩), .int .u8 93] W (IsYes pb s i W)) := Lib.hid fun W hw => is_yes (c := 93) W hw.here hsz hend
      have HF : Hid (notIf false (itemsS s.data.toList (i0) zc) = .ok (if false then notC (c0, c1, c2, c3) else (c0, c1, c2, c3)) (i + 1)) := Lib.hid (by rw [HEQ.out, itemsS_end _ hend]; rfl)
      simp only [Bool.false_eq_true, if_true, if_false] at HF
      clear hend HEQ HG
      clear hok
      go_wp2_with (go_at_call 117; refine (HIS.out wr HIB.out.rb.pw).mono ?_; rintro e w2 ⟨rfl, hp2⟩; have HB2 := Lib.hid (HIB.out.step hp2); clear hp2; obtain ⟨⟨x0, x1, x2, x3⟩, y0, y1, y2, y3⟩ := Blk4 HB2.out.blk; obtain ⟨⟨p0, p1, p2, p3⟩, q0, q1, q2, q3⟩ := Blk4 HB2.out.rb.blk)
      refine bodyPost_ret (v := clsV (c0, c1, c2, c3)) ?_ rfl (.inl ⟨_, _, HF.out, c0, c1, c2, c3, rfl, rfl, ?_⟩)
      · obtain ⟨h0, h1, h2, h3⟩ := (Blk4 (Blk4_set HB2.out.rb.blk (.int .u64 c0) (.int .u64 c1) (.int .u64 c2) (.int .u64 c3))).1
        simp [results, Tryd.results154, go_sem, clsV, h0, h1, h2, h3]
      · exact HB2.out.rb.pw.set4 (Nat.le_refl _) _ _ _ _
    · have HIS : Hid (∀ W, PW w pb s i W → Calls Tryd.prog 117 #[.pointer (some ⟨pb, 0, none⟩), .int .u8 93] W (IsNo W)) := Lib.hid fun W hw => is_no (c := 93) W hw.here hsz hi hend
      cases hit : itemS s.data.toList i with
      | bad k =>
        have HIT : Hid (∀ W, PW w pb s i W → Calls Tryd.prog 164 #[.pointer (some ⟨pb, 0, none⟩)] W (PS W pb k)) := Lib.hid fun W hw => (item_c W (HIN.out.next hw hi)).mono fun e w' hh => by
          rcases hh with ⟨_, _, _, _, p, j, h1, _⟩ | ⟨k', h1, h2⟩
          · rw [hit] at h1; cases h1
          · rw [hit] at h1; cases h1; exact h2
        have HF : Hid (notIf false (itemsS s.data.toList (i0) zc) = .bad k) := Lib.hid (by rw [HEQ.out, itemsS_bad _ hend hit]; rfl)
        clear hend HEQ HG hit
        unfold PS at *
        go_wp2_with (go_at_call 117; refine (HIS.out wr HIB.out.rb.pw).mono ?_; rintro e w2 ⟨rfl, hb2⟩; have HB2 := Lib.hid (HIB.out.below hb2); clear hb2; obtain ⟨⟨x0, x1, x2, x3⟩, y0, y1, y2, y3⟩ := Blk4 HB2.out.blk)
        have HB2d := Lib.hid (HB2.out.below ((Below.refl _ _).drew))
        obtain ⟨⟨z0, z1, z2, z3⟩, _⟩ := Blk4 HB2d.out.blk
        refine wp_region_any (by kernel_rfl) ?_
        change wpAny _ _ _ _ _ _ _ (World.drew _)
        refine wpAny_take (i := 1) (v := .pointer (some ⟨pb, 0, none⟩)) rfl (by kernel_rfl) (by kernel_rfl) (by kernel_rfl) (fun _ _ _ h => h) (Or.inl ⟨by rfl, by intro w; go_simp⟩) ?_
        refine wpAny_ready (rs := [0, 2]) (by kernel_rfl) (by simp) ?_
        refine AllReady.cons rfl (fun K hK => ?_) (AllReady.cons rfl (fun K hK => ?_) AllReady.nil)
        · go_simp
          refine hK _ _ ?_
          clear hK K
          refine wpAny_ready (rs := [2]) (by kernel_rfl) (by simp) ?_
          refine AllReady.cons rfl (fun K hK => ?_) AllReady.nil
          go_simp
          go_wp2_with (go_at_call 164; refine (HIT.out _ HB2d.out.rb.pw).mono ?_; rintro e w3 ⟨rfl, hp3⟩)
          exact ⟨rfl, .inr ⟨k, HF.out, rfl, HB2d.out.rb.pw.grow.trans hp3⟩⟩
        · go_simp
          go_wp2_with (go_at_call 164; refine (HIT.out _ HB2d.out.rb.pw).mono ?_; rintro e w3 ⟨rfl, hp3⟩)
          exact ⟨rfl, .inr ⟨k, HF.out, rfl, HB2d.out.rb.pw.grow.trans hp3⟩⟩
      | ok p j =>
        have HIT : Hid (∀ W, PW w pb s i W → Calls Tryd.prog 164 #[.pointer (some ⟨pb, 0, none⟩)] W (ClsAt pb s j (spanC p.1 p.2) W)) := Lib.hid fun W hw => (item_c W (HIN.out.next hw hi)).mono fun e w' hh => by
          rcases hh with ⟨d0, d1, d2, d3, p', j', h1, h2, h3, h4⟩ | ⟨k', h1, h2⟩
          · rw [hit] at h1; cases h1; exact ⟨d0, d1, d2, d3, h2, h3, h4⟩
          · rw [hit] at h1; cases h1
        have hjj := itemS_ok hit
        rw [at_end] at hjj
        have hij := hjj.1
        have hjs := hjj.2.1
        have HEQ2 : Hid (itemsS s.data.toList (i0) zc = itemsS s.data.toList j (eitherC (c0, c1, c2, c3) (spanC p.1 p.2))) := Lib.hid (by rw [HEQ.out, itemsS_more _ hend hit])
        have HEI := Lib.hid fun (d0 d1 d2 d3 : Nat) (hd : (d0, d1, d2, d3) = spanC p.1 p.2) W => Either_any c0 c1 c2 c3 d0 d1 d2 d3 W hok (okC_spanp hd)
        have HOK := Lib.hid (okC_either hok (okC_span p.1 p.2))
        have HG2 : Hid (s.size - j < gk - 1) := Lib.hid (by have := HG.out; omega)
        have hg0 : 0 < gk := by have := HG.out; omega
        clear hend HEQ HG hit hjj hok
        unfold ClsAt at HIT
        go_wp2_with (go_at_call 117; refine (HIS.out wr HIB.out.rb.pw).mono ?_; rintro e w2 ⟨rfl, hb2⟩; have HB2 := Lib.hid (HIB.out.below hb2); clear hb2; obtain ⟨⟨x0, x1, x2, x3⟩, y0, y1, y2, y3⟩ := Blk4 HB2.out.blk)
        have HB2d := Lib.hid (HB2.out.below ((Below.refl _ _).drew))
        go_region_with (first
          | (go_at_call 164; refine (HIT.out _ HB2d.out.rb.pw).mono ?_; rintro e w3 ⟨d0, d1, d2, d3, rfl, hd, hp3⟩; have HD := Lib.hid hd; have HB3 := Lib.hid (HB2d.out.step hp3); clear hd hp3; obtain ⟨⟨z0, z1, z2, z3⟩, v0, v1, v2, v3⟩ := Blk4 HB3.out.blk)
          | (go_at_call 38; refine (HEI.out d0 d1 d2 d3 HD.out _).mono ?_; rintro e w4 ⟨f0, f1, f2, f3, rfl, hf, hb4⟩; have HF := Lib.hid hf; have HB4 := Lib.hid (HB3.out.below hb4); clear hf hb4; obtain ⟨⟨t0, t1, t2, t3⟩, u0, u1, u2, u3⟩ := Blk4 HB4.out.blk))
        all_goals (
          go_wp2
          go_roundg (gk - 1)
          case rel => exact ⟨j, f0, f1, f2, f3, hjs, by rw [HF.out, HD.out]; exact HOK.out, Lib.hid (HB4.out.put f0 f1 f2 f3), Lib.hid (by rw [HEQ2.out, HF.out, HD.out]), HG2⟩
          all_goals omega)

theorem items_c {ev : Value} {pb : Nat} {s : ByteArray} {i : Nat} (w : World) (h : PIn ev pb s i w) :
    Calls Tryd.prog 154 #[.pointer (some ⟨pb, 0, none⟩)] w (RdK (bracketS s.data.toList i) pb s w) := by
  by_cases hm : s.data.toList[i]? = some 94
  · have e : bracketS s.data.toList i = notIf true (itemsS s.data.toList (i + 1) zc) := by unfold bracketS notIf; rw [if_pos hm]; cases itemsS s.data.toList (i + 1) zc <;> rfl
    rw [e]
    exact items_not w h hm
  · have e : bracketS s.data.toList i = notIf false (itemsS s.data.toList i zc) := by unfold bracketS notIf; rw [if_neg hm]; cases itemsS s.data.toList i zc <;> rfl
    rw [e]
    exact items_is w h hm
end Go.Proofs.YthcahjnniendnabDoor
