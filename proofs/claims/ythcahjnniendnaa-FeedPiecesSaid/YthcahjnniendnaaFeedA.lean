/-
  Walks of package feed.
-/
import Derived.Test.YthcahjnniendnaaStepC
import Derived.Test.YthcahjnniendnaaSimF
import Derived.Test.YthcahjnniendnaaPf
namespace Go.Proofs.Ythcahjnniendnaa
open Go.RowKit Wf

theorem Rd.grown {w w' : World} {size n cap : Nat} {A : Option Addr} {xs : List Value} {row : Option Nat} (h : Rd w size (.slice A n cap) xs) (hg : w.grownBy w' row) (hA : ∀ a, A = some a → row ≠ some a.block) : Rd w' size (.slice A n cap) xs := by
  obtain ⟨A', n', cap', hv, h1, h2, h3, h4⟩ := h
  injection hv with e1 e2 e3
  subst e1
  subst e2
  subst e3
  refine ⟨A, n, cap, rfl, h1, h2, h3, fun hn => ?_⟩
  obtain ⟨b, off, rfl, hc⟩ := h4 hn
  refine ⟨b, off, rfl, fun j u hu => ?_⟩
  have h5 := hc j u hu
  have hlt := World.block_lt_of_cell? w _ h5
  rw [World.cell?_of_block (hg.block b hlt (fun e => hA _ rfl e.symm))]
  exact h5

/-- A feed at block F: the program p; fed the text s, it is at the steps fs. Fs: blocks of feeds: its rows are none of them. -/
structure FdE (Fs : List Nat) (p : List St) (s : List UInt8) (fs : List Nat) (F b off cp : Nat) (A : Option Addr) (ca : Nat) (w : World) : Prop where
  bx : Blk w F 109 #[.slice (some ⟨b, off, none⟩) p.length cp, .slice A fs.length ca, .int .i64 (s.length : Int)]
  rp : RdS w (.slice (some ⟨b, off, none⟩) p.length cp) p
  ra : Rd1 w (.slice A fs.length ca) (natVals fs)
  hb : b ∉ Fs
  ha : ∀ a, A = some a → a.block ∉ Fs
  fed : Fed p s fs
  hF : F ∈ Fs
section
variable {Fs : List Nat} {p : List St} {s : List UInt8} {fs : List Nat} {F b off cp : Nat} {A : Option Addr} {ca : Nat} {w w' : World}
theorem FdE.below (h : FdE Fs p s fs F b off cp A ca w) (hb : Below w.heap.size w w') : FdE Fs p s fs F b off cp A ca w' :=
  ⟨h.bx.kept hb, h.rp.below hb, Rd.below h.ra hb, h.hb, h.ha, h.fed, h.hF⟩
theorem FdE.drew (h : FdE Fs p s fs F b off cp A ca w) : FdE Fs p s fs F b off cp A ca w.drew := h.below (Below.refl _ _).drew
theorem FdE.grown {G : Nat} (h : FdE Fs p s fs F b off cp A ca w) (hg : w.grownBy w' (some G)) (hG : G ∈ Fs) (hne : F ≠ G) : FdE Fs p s fs F b off cp A ca w' :=
  ⟨(hg.block F h.bx.lt (fun e => hne (by cases e; rfl))).trans h.bx, Rd.grown h.rp hg (fun a ha e => by cases ha; cases e; exact h.hb hG), Rd.grown h.ra hg (fun a ha e => by cases e; exact h.ha a ha hG), h.hb, h.ha, h.fed, h.hF⟩

end
theorem fd_set (w : World) (F j : Nat) (v : Value) : w.grownBy (w.setCell ⟨F, j, none⟩ v) (some F) :=
  ⟨rfl, rfl, rfl, by simp, fun q hq hne => Below.heap_setCell _ _ _ q (fun e => hne (by rw [e]))⟩
theorem fd_below {w w' : World} (h : Below w.heap.size w w') (row : Option Nat) : w.grownBy w' row := ⟨h.os, h.tape, h.output, h.size, fun q hq _ => h.block q hq⟩
theorem fd_trans {a b c : World} {row : Option Nat} (h : a.grownBy b row) (k : b.grownBy c row) : a.grownBy c row :=
  ⟨k.os.trans h.os, k.tape.trans h.tape, k.output.trans h.output, Nat.le_trans h.size k.size, fun q hq hne => (k.block q (Nat.lt_of_lt_of_le hq h.size) hne).trans (h.block q hq hne)⟩
theorem below_grown2 {B F : Nat} {a b c : World} (h : Below B a b) (hB : B ≤ F) (hBb : B ≤ b.heap.size) (k : b.grownBy c (some F)) : Below B a c :=
  ⟨k.os.trans h.os, k.tape.trans h.tape, k.output.trans h.output, Nat.le_trans h.size k.size, fun q hq => (k.block q (by omega) (fun e => by cases e; omega)).trans (h.block q hq)⟩

def FNewIs (t : Rx) (w : World) (e : Ending) (w' : World) : Prop :=
  ∃ F b off cp A ca, e = .returned (.tuple #[.pointer (some ⟨F, 0, none⟩), .nilIface]) ∧ w.heap.size ≤ F ∧ (∀ Fs : List Nat, (∀ f ∈ Fs, f < w.heap.size ∨ w'.heap.size ≤ f ∨ f = F) → F ∈ Fs → FdE Fs (progL t) [] [0] F b off cp A ca w') ∧ Below w.heap.size w w'
def FNewNo (l : List Nd) (w : World) (e : Ending) (w' : World) : Prop := e = .returned (.tuple #[.pointer none, errV (chk l)]) ∧ Below w.heap.size w w'

set_option maxRecDepth 100000 in
set_option maxHeartbeats 1000000 in
theorem FNew_no (l : List Nd) (v : Value) (w : World) (hr : RdN w v l) (hc : chk l ≠ 0) : Calls Try.prog 33 #[v] w (FNewNo l w) := by
  obtain ⟨A, cap, rfl, hcap, hcap2, hmem⟩ := hr.open_
  have HC := Lib.hid (Of_no l _ w hr hc)
  have HE := Lib.hid (errV_ne hc)
  clear hmem hr hc
  go_enter Try.func33, Try.ntmps33
  go_wp2_with fail
  refine HC.out.mono ?_
  rintro e w1 ⟨rfl, hb1⟩
  rw [HE.out]
  go_wp2_with fail
  go_ret2
  exact ⟨by rw [HE.out]; rfl, hb1⟩

set_option maxRecDepth 100000 in
set_option maxHeartbeats 1000000 in
theorem FNew_ok (l : List Nd) (t : Rx) (hl : l = flat t) (v : Value) (w : World) (ht : l.length ≤ 60) (hr : RdN w v l) : Calls Try.prog 33 #[v] w (FNewIs t w) := by
  obtain ⟨A, cap, rfl, hcap, hcap2, hmem⟩ := hr.open_
  have HC := Lib.hid (Of_ok l t hl _ w ht hr)
  clear hmem hr hl
  go_enter Try.func33, Try.ntmps33
  go_wp2_with fail
  refine HC.out.mono ?_
  rintro e w1 ⟨g, c, rfl, hrd, hg, hb1⟩
  have HRD := Lib.hid hrd
  have hsz := hb1.size
  have HB := Lib.hid hb1
  have hglt : g < w1.heap.size := by
    obtain ⟨A', cap', hv, _, _, hm⟩ := hrd.open_
    obtain ⟨b', off', hA, hlt, _⟩ := hm (by rw [progL_len]; omega)
    cases hv
    cases hA
    exact hlt
  clear hrd hb1
  generalize hp : progL t = P at *
  go_wp2_with fail
  go_ret2
  refine ⟨w1.heap.size + 1, g, 0, c, some ⟨w1.heap.size, 0, none⟩, 1, rfl, by omega, fun Fs hFs hF => ?_, (HB.out.alloc hsz _).alloc (by simp; omega) _⟩
  have hno : ∀ q, w.heap.size ≤ q → q < w1.heap.size + 1 → q ∉ Fs := fun q h1 h2 hq => by
    rcases hFs q hq with h | h | h
    · omega
    · simp at h; omega
    · omega
  rw [hp]
  refine ⟨blk_at _ _ (by simp) _ _, ?_, ?_, hno g hg (by omega), fun a ha => by cases ha; exact hno _ hsz (by show w1.heap.size < _; omega), Fed.first P, hF⟩
  · exact HRD.out.below (((Below.refl _ _).alloc (Nat.le_refl _) _).alloc (by simp) _)
  · exact ((Blk.new w1 3 #[.int .i64 0]).alloc _).rd1 (Nat.le_refl _) (by omega) rfl (fun j u h => by simpa [natVals] using h)

set_option maxRecDepth 100000 in
set_option maxHeartbeats 1000000 in
theorem FDead_any (Fs : List Nat) (p : List St) (s : List UInt8) (fs : List Nat) (F b off cp : Nat) (A : Option Addr) (ca : Nat) (w : World) (h : FdE Fs p s fs F b off cp A ca w) :
    Calls Try.prog 37 #[.pointer (some ⟨F, 0, none⟩)] w (fun e w' => ∃ r : Bool, e = .returned (.bool r) ∧ (r = true ↔ fs = []) ∧ w = w') := by
  have c1 := h.bx.cell 1
  simp only [List.getElem?_toArray, List.getElem?_cons_succ, List.getElem?_cons_zero] at c1
  clear h
  go_enter Try.func37, Try.ntmps37
  go_wp2
  go_ret
  refine ⟨_, rfl, ?_, rfl⟩
  cases fs <;> simp <;> omega

set_option maxRecDepth 100000 in
set_option maxHeartbeats 1000000 in
theorem FLen_any (Fs : List Nat) (p : List St) (s : List UInt8) (fs : List Nat) (F b off cp : Nat) (A : Option Addr) (ca : Nat) (w : World) (h : FdE Fs p s fs F b off cp A ca w) :
    Calls Try.prog 36 #[.pointer (some ⟨F, 0, none⟩)] w (fun e w' => e = .returned (.int .i64 (s.length : Int)) ∧ w = w') := by
  have c2 := h.bx.cell 2
  simp only [List.getElem?_toArray, List.getElem?_cons_succ, List.getElem?_cons_zero] at c2
  clear h
  go_enter Try.func36, Try.ntmps36
  go_wp2
  go_ret
  exact ⟨rfl, rfl⟩

set_option maxRecDepth 100000 in
set_option maxHeartbeats 1000000 in
theorem FAgain_any (Fs : List Nat) (p : List St) (s : List UInt8) (fs : List Nat) (F b off cp : Nat) (A : Option Addr) (ca : Nat) (w : World) (h : FdE Fs p s fs F b off cp A ca w) (hFs : ∀ f ∈ Fs, f < w.heap.size) :
    Calls Try.prog 38 #[.pointer (some ⟨F, 0, none⟩)] w (fun e w' => e = .returned (.tuple #[]) ∧ (∃ A' ca', FdE Fs p [] [0] F b off cp A' ca' w') ∧ w.grownBy w' (some F)) := by
  have c1 := h.bx.cell 1
  have c2 := h.bx.cell 2
  have z1 := h.bx.frozen 1
  have z2 := h.bx.frozen 2
  simp only [List.getElem?_toArray, List.getElem?_cons_succ, List.getElem?_cons_zero] at c1 c2
  have H := Lib.hid h
  have HFS := Lib.hid hFs
  have hFlt := h.bx.lt
  clear h hFs
  go_enter Try.func38, Try.ntmps38
  go_wp2_with fail
  go_end0
  have hb := (H.out.bx.set_ 1 (.slice (some ⟨w.heap.size, 0, none⟩) 1 1)).set_ 2 (.int .i64 0)
  have hg := fd_trans (fd_set w F 1 (.slice (some ⟨w.heap.size, 0, none⟩) 1 1)) (fd_set _ F 2 (.int .i64 0))
  have hg2 := fd_trans hg (fd_below ((Below.refl _ _).alloc (Nat.le_refl _) (.cells #[.int .i64 0] 3)) _)
  refine ⟨rfl, ⟨some ⟨w.heap.size, 0, none⟩, 1, ?_, ?_, ?_, H.out.hb, ?_, Fed.first p, H.out.hF⟩, hg2⟩
  · have := hb.alloc (.cells #[.int .i64 0] 3)
    simpa using this
  · exact Rd.grown H.out.rp hg2 (fun a ha e => by cases ha; cases e; exact H.out.hb H.out.hF)
  · exact (blk_at _ _ (by simp) 3 #[.int .i64 0]).rd1 (Nat.le_refl _) (by omega) rfl (fun j u h => by simpa [natVals] using h)
  · intro a ha hq
    cases ha
    exact absurd (HFS.out _ hq) (by show ¬ w.heap.size < w.heap.size; omega)

def YesIs (p : List St) (s : List UInt8) (w : World) (e : Ending) (w' : World) : Prop := ∃ r : Bool, e = .returned (.bool r) ∧ (r = true ↔ EndsAt p s 0 s.length) ∧ Below w.heap.size w w'

set_option maxRecDepth 100000 in
set_option maxHeartbeats 1000000 in
theorem FYes_any (Fs : List Nat) (p : List St) (hp : okP p) (s : List UInt8) (fs : List Nat) (F b off cp : Nat) (A : Option Addr) (ca : Nat) (w : World) (h : FdE Fs p s fs F b off cp A ca w) :
    Calls Try.prog 34 #[.pointer (some ⟨F, 0, none⟩)] w (YesIs p s w) := by
  have c0 := h.bx.cell 0
  have c1 := h.bx.cell 1
  have c2 := h.bx.cell 2
  simp only [List.getElem?_toArray, List.getElem?_cons_succ, List.getElem?_cons_zero] at c0 c1 c2
  have hS : ∀ w', Below w.heap.size w w' → (w'.cell? ⟨F, 0, none⟩ = some (.slice (some ⟨b, off, none⟩) p.length cp) ∧ w'.cell? ⟨F, 1, none⟩ = some (.slice A fs.length ca) ∧ w'.cell? ⟨F, 2, none⟩ = some (.int .i64 (s.length : Int)) ∧ Below w.heap.size w w') := fun w' hb => by
    have hk := h.bx.kept hb
    exact ⟨hk.cell 0, hk.cell 1, hk.cell 2, hb⟩
  have HS := Lib.hid hS
  have HSP : Hid (∀ w', Below w.heap.size w w' → Calls Try.prog 61 #[.slice (some ⟨b, off, none⟩) p.length cp, .slice A fs.length ca, .bool ((s.length : Int) == 0), .bool true] w' (SpreadIs p ((s.length : Int) == 0) true fs w')) := Lib.hid (fun w' hb => by
    have hk := h.below hb
    exact Spread_any p hp _ _ fs (h.fed.lt hp) _ true w' hk.rp hk.ra)
  have H := Lib.hid h
  have B0 : Below w.heap.size w w.drew := (Below.refl _ _).drew
  have hfld : ∀ (A1 : Option Addr) (n c : Nat) (d : Bool) (W' : World), (Instr.field 111 (.agg #[.slice A1 n c, .bool d]) 1).run Try.prog W' = .ok (.bool d) W' := fun _ _ _ _ _ => by kernel_rfl
  clear h hS
  go_enter Try.func34, Try.ntmps34
  go_wp2_with fail
  go_region_held3 (fun w' => w'.cell? ⟨F, 0, none⟩ = some (.slice (some ⟨b, off, none⟩) p.length cp) ∧ w'.cell? ⟨F, 1, none⟩ = some (.slice A fs.length ca) ∧ w'.cell? ⟨F, 2, none⟩ = some (.int .i64 (s.length : Int)) ∧ Below w.heap.size w w')
    (exact HS.out _ (by assumption))
    (first
      | (go_at_call 61; refine (HSP.out _ (by assumption)).mono ?_; rintro e w2 ⟨A2, cap2, L, d, rfl, hfr, _, hb2⟩; have hB2 : Below w.heap.size w w2 := (by assumption : Below w.heap.size w _).trans (hb2.mono (by assumption : Below w.heap.size w _).size)))
  go_wp2_with fail
  go_ret
  refine ⟨d, rfl, ?_, hB2⟩
  rw [show ((s.length : Int) == 0) = (s.length == 0) from int_beq s.length 0] at hfr
  exact H.out.fed.yes hfr

end Go.Proofs.Ythcahjnniendnaa
