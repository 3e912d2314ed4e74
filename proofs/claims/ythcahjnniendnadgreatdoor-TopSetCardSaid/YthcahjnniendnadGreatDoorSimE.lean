/-
  The iterator in sim.ends: what it gives to whatever loop body.
-/
import Derived.Test.YthcahjnniendnadGreatDoorGRun
import Derived.Test.YthcahjnniendnadGreatDoorGSim
import Derived.RangeFuncNested
import Derived.RangeFuncBound
import Derived.RangeFuncCalls
import Derived.RangeFuncLeaves
import Derived.Shelf.Abstract
import Derived.Shelf.RegionOpen
import Derived.WalkKit
import Derived.OwnWalkIn
import Derived.TacticsInMore
import Derived.LoopNIn
import Derived.LoopIn
namespace Go.Proofs.YthcahjnniendnadGreatDoor
open Go.RowKit Go.Shelf Wf
attribute [local go_sem] Oper.semAt_some

/-- The row that the variable at block B holds. -/
def ownOf (B : Nat) (w : World) : Option Nat := match w.cell? ⟨B, 0, none⟩ with
  | some v => v.ownBlock
  | none => none

/-- What a round keeps: all cells but the variable at block B and its row. -/
structure Kp (B : Nat) (w w' : World) : Prop where
  os : w'.os = w.os
  tape : w'.tape = w.tape
  output : w'.output = w.output
  size : w.heap.size ≤ w'.heap.size
  kept : ∀ k cs t fr, w.heap[k]? = some (.cells cs t fr) → k ≠ B → ownOf B w ≠ some k → w'.heap[k]? = some (.cells cs t fr)
  own : ∀ g, ownOf B w' = some g → ownOf B w = some g ∨ (w.heap.size ≤ g ∧ g < w'.heap.size)
theorem Kp.refl (B : Nat) (w : World) : Kp B w w := ⟨rfl, rfl, rfl, Nat.le_refl _, fun _ _ _ _ h _ _ => h, fun _ h => .inl h⟩
theorem Kp.trans {B : Nat} {a b c : World} (h : Kp B a b) (k : Kp B b c) : Kp B a c := by
  refine ⟨k.os.trans h.os, k.tape.trans h.tape, k.output.trans h.output, Nat.le_trans h.size k.size, fun j cs t fr hj hB ho => ?_, fun g hg => ?_⟩
  · have hb := h.kept j cs t fr hj hB ho
    refine k.kept j cs t fr hb hB (fun e => ?_)
    rcases h.own j e with e' | ⟨e', _⟩
    · exact ho e'
    · have := (Array.getElem?_eq_some_iff.1 hj).1; omega
  · rcases k.own g hg with e | ⟨e1, e2⟩
    · rcases h.own g e with e' | ⟨e1', e2'⟩
      · exact .inl e'
      · exact .inr ⟨e1', by have := k.size; omega⟩
    · exact .inr ⟨by have := h.size; omega, e2⟩
theorem ownOf_eq {B : Nat} {w w' : World} (h : w'.heap[B]? = w.heap[B]?) : ownOf B w' = ownOf B w := by
  unfold ownOf
  rw [World.cell?_of_block (a := ⟨B, 0, none⟩) h]
theorem Kp.below {B : Nat} {w w' : World} (hB : B < w.heap.size) (h : Below w.heap.size w w') : Kp B w w' :=
  ⟨h.os, h.tape, h.output, h.size, fun k cs t fr hk _ _ => (h.block k (Array.getElem?_eq_some_iff.1 hk).1).trans hk, fun g hg => .inl (by rw [← ownOf_eq (h.block B hB)]; exact hg)⟩
theorem Kp.putObj {B : Nat} {w : World} (hB : B < w.heap.size) (W : World) (l : Nat) (o o' : Obj) (hl : w.heap.size ≤ l) (h : W.heap[l]? = some o) (hc : o.isCells = false) (_ : o.isWalk = false) : Kp B W (W.putObj l o') :=
  ⟨rfl, rfl, rfl, by simp, fun k cs t fr hk _ _ => by
    have : k ≠ l := fun e => by subst e; rw [hk] at h; cases h; simp [Obj.isCells] at hc
    rw [World.putObj_heap_other this]; exact hk, fun g hg => .inl (by rw [← ownOf_eq (World.putObj_heap_other (w := W) (o := o') (by omega : B ≠ l))]; exact hg)⟩
theorem Kp.blk {B : Nat} {w w' : World} {k : Nat} {t : TypeId} {cs : Array Value} (h : Kp B w w') (hb : Blk w k t cs) (hB : k ≠ B) (ho : ownOf B w ≠ some k) : Blk w' k t cs := h.kept k _ _ _ hb hB ho

theorem Kp.cell {B : Nat} {w w' : World} (h : Kp B w w') (ho : ownOf B w = none) {k o : Nat} {u : Value} (hc : w.cell? ⟨k, o, none⟩ = some u) (hk : k ≠ B) : w'.cell? ⟨k, o, none⟩ = some u := by
  unfold World.cell? at hc ⊢
  dsimp only at hc ⊢
  cases hh : w.heap[k]? with
  | none => rw [hh] at hc; simp at hc
  | some ob =>
    rw [hh] at hc
    cases ob with
    | cells cs t fr =>
      rw [h.kept k cs t fr hh hk (by rw [ho]; simp)]
      exact hc
    | _ => simp at hc

theorem RdS.kp {B : Nat} {w w' : World} {l : List St} {b off cap : Nat} (h : RdS w (.slice (some ⟨b, off, none⟩) l.length cap) l) (hk : Kp B w w') (ho : ownOf B w = none) (hb : b ≠ B) : RdS w' (.slice (some ⟨b, off, none⟩) l.length cap) l := by
  obtain ⟨A, n, c, hv, h1, h2, h3, h4⟩ := h
  refine ⟨A, n, c, hv, h1, h2, h3, fun hn => ?_⟩
  obtain ⟨b', off', rfl, hc⟩ := h4 hn
  injection hv with e1 e2 e3
  injection e1 with e1
  injection e1 with e1 e4
  subst e1
  subst e4
  exact ⟨_, _, rfl, fun j u hu => hk.cell ho (hc j u hu) hb⟩

theorem own_kp {B base size n : Nat} {w w' : World} {e : TypeId} {v : Value} {xs : List Value} (h : w.ownsRow base e size v n xs) (hk : Kp B w w') (hB : B < base) (ho : ∀ g, ownOf B w = some g → g < base) : w'.ownsRow base e size v n xs := by
  refine ⟨h.1, ?_⟩
  rcases h.2 with hn | ⟨g, cap, cur, hv, h1, h2, rest⟩
  · exact .inl hn
  · refine .inr ⟨g, cap, cur, hv, h1, hk.kept g _ _ _ h2 (by omega) (fun e => ?_), rest⟩
    have := ho g e
    omega
theorem abides_below {σ : Type} {B : Nat} {J : σ → World → Prop} (hJ : AbidesFrom B J) {s : σ} {w w' : World} (h : J s w) (hb : Below w.heap.size w w') : J s w' :=
  hJ s w w' none h ⟨hb.os, hb.tape, hb.output, hb.size, fun q hq _ => hb.block q hq⟩ (fun r e => by cases e)
theorem kp_new {B : Nat} {w w' : World} (h : Kp B w w') (ho : ownOf B w = none) : ∀ g, ownOf B w' = some g → g < w'.heap.size := by
  intro g hg
  rcases h.own g hg with e | e
  · rw [ho] at e; cases e
  · exact e.2
theorem front_lt {p : List St} (hp : okP p) {f l : Bool} {fs L : List Nat} {d : Bool} (h : Front p f l fs L d) : L.length ≤ 200 ∧ ∀ j ∈ L, j < p.length := by
  have hl : ∀ j ∈ L, j < p.length := fun j hj => by
    obtain ⟨_, s, hs, _⟩ := (h.takes j).1 hj
    exact (List.getElem?_eq_some_iff.1 hs).1
  refine ⟨?_, hl⟩
  have := List.Nodup.length_le_of_subset h.nodup (l₂ := List.range p.length) (fun j hj => by simpa using hl j hj)
  have h2 := hp.2.1
  simp at this
  omega
theorem op_x0 {p : List St} (hp : okP p) (s : St) (h : s ∈ p) : 0 ≤ s.x := by
  have h1 := oneP_zero (hp.2.2 s h)
  by_cases h5 : s.op = 5
  · rw [h1.2.2.2.2.2 h5]; exact Int.le_refl _
  · exact (h1.2.1 h5).1
theorem int_beq (i n : Nat) : ((i : Int) == (n : Int)) = (i == n) := by
  by_cases h : i = n
  · subst h; simp
  · have h1 : (i == n) = false := by simpa using h
    have h2 : ((i : Int) == (n : Int)) = false := by simp; omega
    rw [h1, h2]

set_option maxRecDepth 100000 in
set_option maxHeartbeats 8000000 in
theorem ends1_in (n : Nat) (hn : 1 ≤ n) (p : List St) (hp : okP p) (hok : ∀ s ∈ p, okC s.cls) (s : ByteArray) (hs : s.size ≤ 400) (f0 : Nat) (hf : f0 ≤ s.size) (fb pb tb b off cap Bo : Nat) (hne : fb ≠ Bo ∧ pb ≠ Bo ∧ tb ≠ Bo ∧ b ≠ Bo)
    (l : Nat) (J Jx : List Nat → World → Prop) (W : World) (hBo : Bo < W.heap.size) (hown : ownOf Bo W = none) (hcf : W.cell? ⟨fb, 0, none⟩ = some (.int .i64 (f0 : Int))) (hcp : W.cell? ⟨pb, 0, none⟩ = some (.slice (some ⟨b, off, none⟩) p.length cap)) (hct : W.cell? ⟨tb, 0, none⟩ = some (.string s))
    (hrd : RdS W (.slice (some ⟨b, off, none⟩) p.length cap) p) (hJ : AbidesFrom W.heap.size J)
    (hY : ∀ pre x W1, J pre W1 → pre.length < 402 → YieldAt Fence.wide (n - 1) Tryz.prog l #[.int .i64 ((x : Nat) : Int)] W1 fun e W' =>
      (e = .returned (.bool true) ∧ J (pre ++ [x]) W' ∧ Kp Bo W1 W') ∨ (e = .returned (.bool false) ∧ Jx (pre ++ [x]) W')) (h0 : J [] W) :
    CallsIn Fence.wide n Tryz.prog 91 #[.func (.yield l) #[] #[], .pointer (some ⟨fb, 0, none⟩), .pointer (some ⟨pb, 0, none⟩), .pointer (some ⟨tb, 0, none⟩)] W fun e W' => (∃ v, e = .returned v) ∧
      ((∃ xs, xs = runL p s.data.toList f0 ∧ J xs W') ∨ (∃ pre, True ∧ Jx pre W')) := by
  have HP := Lib.hid hp
  have HOK := Lib.hid hok
  have HY := Lib.hid hY
  have HJ := Lib.hid hJ
  have HRD := Lib.hid hrd
  have HOWN := Lib.hid hown
  have HCP := Lib.hid hcp
  have HCT := Lib.hid hct
  have HNE := Lib.hid hne
  have HAT := Lib.hid (AtL.start p s.data.toList f0)
  have H0 := Lib.hid (hJ [] W _ none h0 (World.grownBy_alloc W (.cells #[.int .i64 0] 3) none) (fun r e => by cases e))
  have HRD0 : Hid (Rd1 (W.alloc (.cells #[.int .i64 0] 3)) (.slice (some ⟨W.heap.size, 0, none⟩) 1 1) (natVals [0])) := Lib.hid ((Blk.new W 3 #[.int .i64 0]).rd1 (Nat.le_refl _) (by omega) rfl (fun j u h => by simpa [natVals] using h))
  have HKP : Hid (Kp Bo W (W.alloc (.cells #[.int .i64 0] 3))) := Lib.hid (Kp.below hBo ((Below.refl _ _).alloc (Nat.le_refl _) _))
  clear hp hok hY hJ hrd hown hcp hct hne
  refine callsIn_of_wp Tryz.func91 rfl trivial ?_ rfl
  simp only [Tryz.ntmps91, List.size_toArray, List.length_cons, List.length_nil, Nat.reduceAdd, Nat.reduceSub, Array.replicate_succ, Array.replicate_zero, List.push_toArray, List.append_toArray, List.nil_append, List.cons_append]
  have hcf1 : (W.alloc (.cells #[.int .i64 0] 3)).cell? ⟨fb, 0, none⟩ = some (.int .i64 (f0 : Int)) := by
    have hlt := World.block_lt_of_cell? W _ hcf
    rw [World.cell?_of_block (Below.heap_alloc W _ fb hlt)]; exact hcf
  gi_wp2
  gi_loopw [5, 6] (fun v5 v6 wr => ∃ (i : Nat) (A : Option Addr) (fc : Nat) (fs : List Nat), f0 ≤ i ∧ i ≤ s.size ∧ v6 = .int .i64 (i : Int) ∧ v5 = .slice A fs.length fc ∧ Hid (AtL p s.data.toList f0 i fs) ∧ Hid (Rd1 wr (.slice A fs.length fc) (natVals fs)) ∧ Hid (J (Go.Proofs.YthcahjnniendnadGreatDoor.upTo_ (EndsAt p s.data.toList f0) i) wr) ∧ Hid (Kp Bo W wr)) (fun _ i _ => s.size + 1 - (intOf i).toNat)
  case atStart => exact ⟨f0, _, _, [0], Nat.le_refl _, hf, rfl, rfl, HAT, HRD0, by rw [upTo_first]; exact H0, HKP⟩
  case round =>
    clear H0 HAT HRD0 HKP h0 hcf hcf1
    obtain ⟨i, A, fc, fs, hfi, his, rfl, rfl, HAT, HFS, HJI, HKP⟩ := hrel
    have hsize : W.heap.size ≤ wr.heap.size := HKP.out.size
    by_cases hfs : fs.length = 0
    · have hg0 : decide (0 < fs.length) = false := by simp [hfs]
      have HE : Hid (Go.Proofs.YthcahjnniendnadGreatDoor.upTo_ (EndsAt p s.data.toList f0) i = runL p s.data.toList f0) := Lib.hid (by
        obtain rfl : fs = [] := List.length_eq_zero_iff.1 hfs
        refine (runL_of (by rw [Array.length_toList]; exact Nat.le_succ_of_le his) fun i' hi' => ?_).symm
        rintro ⟨j, k, h1, _⟩
        exact AtL.none hfi HAT.out i' hi' j h1)
      clear hfs
      gi_wp2
      go_end0
      exact ⟨⟨_, rfl⟩, .inl ⟨_, HE.out, HJI.out⟩⟩
    · have hg0 : 0 < fs.length := by omega
      have c2 : wr.cell? ⟨pb, 0, none⟩ = some (.slice (some ⟨b, off, none⟩) p.length cap) := HKP.out.cell HOWN.out HCP.out HNE.out.2.1
      have c3 : wr.cell? ⟨tb, 0, none⟩ = some (.string s) := HKP.out.cell HOWN.out HCT.out HNE.out.2.2.1
      have HRD1 : Hid (RdS wr (.slice (some ⟨b, off, none⟩) p.length cap) p) := Lib.hid (RdS.kp HRD.out HKP.out HOWN.out HNE.out.2.2.2)
      have HSPR := Lib.hid (Spread_any p HP.out (.slice (some ⟨b, off, none⟩) p.length cap) (.slice A fs.length fc) fs (fun j hj => ((HAT.out j).1 hj).lt HP.out) ((i : Int) == 0) ((i : Int) == (s.size : Int)) wr HRD1.out HFS.out)
      clear hfs
      have hl402 : (Go.Proofs.YthcahjnniendnadGreatDoor.upTo_ (EndsAt p s.data.toList f0) i).length < 402 := by have := upTo_len (EndsAt p s.data.toList f0) i; omega
      gi_wp2_with fail
      refine ⟨trivial, ?_⟩
      refine (callsIn_wide.2 HSPR.out).mono ?_
      rintro e w1 ⟨A1, cap1, L, d, rfl, hfront, hown1, hb1⟩
      have HFR : Hid (Front p (i == 0) (i == s.data.toList.length) fs L d) := Lib.hid (by rw [show ((i : Int) == 0) = (i == 0) from int_beq i 0, int_beq i s.size] at hfront; rw [show s.data.toList.length = s.size from Array.length_toList]; exact hfront)
      have HDN := Lib.hid (AtL.done HAT.out HFR.out)
      have hsz1 : wr.heap.size ≤ w1.heap.size := hb1.size
      have hb2 := hb1.alloc hb1.size (.cells #[.slice A1 L.length cap1, .bool d] 129)
      have hj2 := abides_below HJ.out HJI.out hb2
      have HKP2 := Lib.hid (HKP.out.trans (Kp.below (Nat.lt_of_lt_of_le hBo HKP.out.size) hb2))
      have HON2 := Lib.hid (hown1.alloc (.cells #[.slice A1 L.length cap1, .bool d] 129))
      have HBK2 := Lib.hid (Blk.new w1 129 #[.slice A1 L.length cap1, .bool d])
      have HGT : Hid (∀ g, ownOf Bo (w1.alloc (.cells #[.slice A1 L.length cap1, .bool d] 129)) = some g → g < wr.heap.size) := Lib.hid (fun g hg => by rw [ownOf_eq (hb2.block Bo (Nat.lt_of_lt_of_le hBo HKP.out.size))] at hg; exact kp_new HKP.out HOWN.out g hg)
      have HLL : Hid (L.length ≤ 200 ∧ ∀ j ∈ L, j < p.length) := Lib.hid (front_lt HP.out HFR.out)
      clear hfront hown1 hb1 c2 c3
      cases d with
      | true =>
        have HEA : Hid (Go.Proofs.YthcahjnniendnadGreatDoor.upTo_ (EndsAt p s.data.toList f0) (i + 1) = Go.Proofs.YthcahjnniendnadGreatDoor.upTo_ (EndsAt p s.data.toList f0) i ++ [i]) := Lib.hid (upTo_yes (HDN.out.1 rfl))
        obtain ⟨fn, tmps, assign, body, hy, hR⟩ := HY.out _ i _ hj2 hl402
        clear hj2 hb2
        gi_wp2_with fail
        refine hR.mono ?_
        rintro e wz (⟨rfl, hJ', hk⟩ | ⟨rfl, hJx'⟩)
        · have HJZ : Hid (J (Go.Proofs.YthcahjnniendnadGreatDoor.upTo_ (EndsAt p s.data.toList f0) (i + 1)) wz) := Lib.hid (by rw [HEA.out]; exact hJ')
          have HKZ := Lib.hid (HKP2.out.trans hk)
          have HOZ := Lib.hid (own_kp HON2.out hk (Nat.lt_of_lt_of_le hBo HKP.out.size) HGT.out)
          have HBZ := Lib.hid (hk.blk HBK2.out (by omega) (fun e => by have := HGT.out _ e; omega))
          clear hk hJ' hR hy
          have c3 : wz.cell? ⟨tb, 0, none⟩ = some (.string s) := HKZ.out.cell HOWN.out HCT.out HNE.out.2.2.1
          by_cases hi : i = s.size
          · have dn : decide (i = s.size) = true := by simpa using hi
            have hin : (i == s.size) = true := by simpa using hi
            have HRL : Hid (runL p s.data.toList f0 = Go.Proofs.YthcahjnniendnadGreatDoor.upTo_ (EndsAt p s.data.toList f0) (i + 1)) := Lib.hid (by unfold runL; rw [hi, show s.data.toList.length = s.size from Array.length_toList])
            gi_wp2_with fail
            refine bodyPost_ret (results_none rfl _ _ _) rfl ?_
            exact ⟨⟨_, rfl⟩, .inl ⟨_, HRL.out.symm, HJZ.out⟩⟩
          · have dn : decide (i = s.size) = false := by simpa using hi
            have hin : (i == s.size) = false := by simpa using hi
            have hlt : i < s.size := by omega
            have hi1 : (i : Int) < (s.size : Int) := by omega
            have hi0 : (0 : Int) ≤ (i : Int) := by omega
            have hbyte : s[i].toNat < 256 := s[i].toNat_lt
            have hszz : W.heap.size ≤ wz.heap.size := HKZ.out.size
            have hcap : L.length ≤ 200 := HLL.out.1
            have hS : ∀ w', Below wz.heap.size wz w' → (w'.cell? ⟨w1.heap.size, 0, none⟩ = some (.slice A1 L.length cap1) ∧ w'.cell? ⟨w1.heap.size, 1, none⟩ = some (.bool true) ∧ w'.cell? ⟨pb, 0, none⟩ = some (.slice (some ⟨b, off, none⟩) p.length cap) ∧ w'.cell? ⟨tb, 0, none⟩ = some (.string s) ∧ Below wz.heap.size wz w') := fun w' h => by
              have hb := HBZ.out.kept h
              have hk := HKZ.out.trans (Kp.below (Nat.lt_of_lt_of_le hBo hszz) h)
              exact ⟨hb.cell 0, hb.cell 1, hk.cell HOWN.out HCP.out HNE.out.2.1, hk.cell HOWN.out HCT.out HNE.out.2.2.1, h⟩
            have HS := Lib.hid hS
            have HGO : Hid (∀ w', Below wz.heap.size wz w' → Calls Tryz.prog 49 #[.agg #[.slice A1 L.length cap1, .bool true], .slice (some ⟨b, off, none⟩) p.length cap, .int .u8 (s[i].toNat : Int)] w' (GoIs p s[i].toNat L w')) := Lib.hid (fun w' h => by
              have hk := HKZ.out.trans (Kp.below (Nat.lt_of_lt_of_le hBo hszz) h)
              exact Go_any p HOK.out (fun st hst => op_x0 HP.out st hst) _ A1 cap1 L true HLL.out.2 HLL.out.1 s[i].toNat hbyte w' (RdS.kp HRD.out hk HOWN.out HNE.out.2.2.2) (Rd.of_own (own_below HOZ.out h)))
            have B0 : Below wz.heap.size wz wz.drew := (Below.refl _ _).drew
            have hgk : s.data.toList[i]? = some s[i] := by
              have : s.data.toList[i]? = s.data[i]? := by simp
              rw [this]
              exact Array.getElem?_eq_getElem _
            have HNX := Lib.hid (AtL.next HP.out hfi HAT.out HFR.out hgk)
            clear hS hgk
            gi_wp2_with fail
            clear c3
            refine wpIn_wide.2 ?_
            go_region_held3 (fun w' => w'.cell? ⟨w1.heap.size, 0, none⟩ = some (.slice A1 L.length cap1) ∧ w'.cell? ⟨w1.heap.size, 1, none⟩ = some (.bool true) ∧ w'.cell? ⟨pb, 0, none⟩ = some (.slice (some ⟨b, off, none⟩) p.length cap) ∧ w'.cell? ⟨tb, 0, none⟩ = some (.string s) ∧ Below wz.heap.size wz w')
              (exact HS.out _ (by assumption))
              (first
                | (go_at_call 49; refine (HGO.out _ (by assumption)).mono ?_; rintro e w2 ⟨A2, cap2, rfl, hrd2, hb2⟩; have hB2 : Below wz.heap.size wz w2 := (by assumption : Below wz.heap.size wz _).trans (hb2.mono (by assumption : Below wz.heap.size wz _).size)))
            have HN1 := Lib.hid (Rd.of_own hrd2)
            have HB2 := Lib.hid hB2
            clear hrd2 hB2 hb2 B0
            gi_wp2_with fail
            go_roundw
            case rel => exact ⟨i + 1, A2, cap2, goL p s[i].toNat L, by omega, by omega, by go_num, rfl, HNX, HN1, Lib.hid (abides_below HJ.out HJZ.out HB2.out), Lib.hid (HKZ.out.trans (Kp.below (Nat.lt_of_lt_of_le hBo hszz) HB2.out))⟩
            case measure => simp [intOf]; omega
        · have HX := Lib.hid hJx'
          clear hJx' hR hy
          gi_wp2_with fail
          refine bodyPost_ret (results_none rfl _ _ _) rfl ?_
          exact ⟨⟨_, rfl⟩, .inr ⟨_, trivial, HX.out⟩⟩
      | false =>
        have HJZ : Hid (J (Go.Proofs.YthcahjnniendnadGreatDoor.upTo_ (EndsAt p s.data.toList f0) (i + 1)) (w1.alloc (.cells #[.slice A1 L.length cap1, .bool false] 129))) := Lib.hid (by rw [upTo_no (fun h => by have := HDN.out.2 h; cases this)]; exact hj2)
        have HKZ := HKP2
        have HOZ := HON2
        have HBZ := HBK2
        clear hj2 hb2
        gi_wp2_with fail
        refine ⟨fun _ h => (by cases h), ?_⟩
        generalize hwz : w1.alloc (.cells #[.slice A1 L.length cap1, .bool false] 129) = wz at *
        have c3 : wz.cell? ⟨tb, 0, none⟩ = some (.string s) := HKZ.out.cell HOWN.out HCT.out HNE.out.2.2.1
        by_cases hi : i = s.size
        · have dn : decide (i = s.size) = true := by simpa using hi
          have hin : (i == s.size) = true := by simpa using hi
          have HRL : Hid (runL p s.data.toList f0 = Go.Proofs.YthcahjnniendnadGreatDoor.upTo_ (EndsAt p s.data.toList f0) (i + 1)) := Lib.hid (by unfold runL; rw [hi, show s.data.toList.length = s.size from Array.length_toList])
          gi_wp2_with fail
          refine bodyPost_ret (results_none rfl _ _ _) rfl ?_
          exact ⟨⟨_, rfl⟩, .inl ⟨_, HRL.out.symm, HJZ.out⟩⟩
        · have dn : decide (i = s.size) = false := by simpa using hi
          have hin : (i == s.size) = false := by simpa using hi
          have hlt : i < s.size := by omega
          have hi1 : (i : Int) < (s.size : Int) := by omega
          have hi0 : (0 : Int) ≤ (i : Int) := by omega
          have hbyte : s[i].toNat < 256 := s[i].toNat_lt
          have hszz : W.heap.size ≤ wz.heap.size := HKZ.out.size
          have hcap : L.length ≤ 200 := HLL.out.1
          have hS : ∀ w', Below wz.heap.size wz w' → (w'.cell? ⟨w1.heap.size, 0, none⟩ = some (.slice A1 L.length cap1) ∧ w'.cell? ⟨w1.heap.size, 1, none⟩ = some (.bool false) ∧ w'.cell? ⟨pb, 0, none⟩ = some (.slice (some ⟨b, off, none⟩) p.length cap) ∧ w'.cell? ⟨tb, 0, none⟩ = some (.string s) ∧ Below wz.heap.size wz w') := fun w' h => by
            have hb := HBZ.out.kept h
            have hk := HKZ.out.trans (Kp.below (Nat.lt_of_lt_of_le hBo hszz) h)
            exact ⟨hb.cell 0, hb.cell 1, hk.cell HOWN.out HCP.out HNE.out.2.1, hk.cell HOWN.out HCT.out HNE.out.2.2.1, h⟩
          have HS := Lib.hid hS
          have HGO : Hid (∀ w', Below wz.heap.size wz w' → Calls Tryz.prog 49 #[.agg #[.slice A1 L.length cap1, .bool false], .slice (some ⟨b, off, none⟩) p.length cap, .int .u8 (s[i].toNat : Int)] w' (GoIs p s[i].toNat L w')) := Lib.hid (fun w' h => by
            have hk := HKZ.out.trans (Kp.below (Nat.lt_of_lt_of_le hBo hszz) h)
            exact Go_any p HOK.out (fun st hst => op_x0 HP.out st hst) _ A1 cap1 L false HLL.out.2 HLL.out.1 s[i].toNat hbyte w' (RdS.kp HRD.out hk HOWN.out HNE.out.2.2.2) (Rd.of_own (own_below HOZ.out h)))
          have B0 : Below wz.heap.size wz wz.drew := (Below.refl _ _).drew
          have hgk : s.data.toList[i]? = some s[i] := by
            have : s.data.toList[i]? = s.data[i]? := by simp
            rw [this]
            exact Array.getElem?_eq_getElem _
          have HNX := Lib.hid (AtL.next HP.out hfi HAT.out HFR.out hgk)
          clear hS hgk
          gi_wp2_with fail
          clear c3
          refine wpIn_wide.2 ?_
          go_region_held3 (fun w' => w'.cell? ⟨w1.heap.size, 0, none⟩ = some (.slice A1 L.length cap1) ∧ w'.cell? ⟨w1.heap.size, 1, none⟩ = some (.bool false) ∧ w'.cell? ⟨pb, 0, none⟩ = some (.slice (some ⟨b, off, none⟩) p.length cap) ∧ w'.cell? ⟨tb, 0, none⟩ = some (.string s) ∧ Below wz.heap.size wz w')
            (exact HS.out _ (by assumption))
            (first
              | (go_at_call 49; refine (HGO.out _ (by assumption)).mono ?_; rintro e w2 ⟨A2, cap2, rfl, hrd2, hb2⟩; have hB2 : Below wz.heap.size wz w2 := (by assumption : Below wz.heap.size wz _).trans (hb2.mono (by assumption : Below wz.heap.size wz _).size)))
          have HN1 := Lib.hid (Rd.of_own hrd2)
          have HB2 := Lib.hid hB2
          clear hrd2 hB2 hb2 B0
          gi_wp2_with fail
          go_roundw
          case rel => exact ⟨i + 1, A2, cap2, goL p s[i].toNat L, by omega, by omega, by go_num, rfl, HNX, HN1, Lib.hid (abides_below HJ.out HJZ.out HB2.out), Lib.hid (HKZ.out.trans (Kp.below (Nat.lt_of_lt_of_le hBo hszz) HB2.out))⟩
          case measure => simp [intOf]; omega

end Go.Proofs.YthcahjnniendnadGreatDoor
