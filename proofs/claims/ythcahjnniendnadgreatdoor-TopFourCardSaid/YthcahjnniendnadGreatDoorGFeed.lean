/-
  FeedA, FeedB.
-/
import Derived.Test.YthcahjnniendnadGreatDoorGMake
import Derived.Test.YthcahjnniendnadGreatDoorGRun
import Derived.Test.YthcahjnniendnadGreatDoorSimF
/-
  Walks of package feed.
-/
namespace Go.Proofs.YthcahjnniendnadGreatDoor
open Go.RowKit Wf

theorem Rd.grown {w w' : World} {size n cap : Nat} {A : Option Addr} {xs : List Value} {row : Option Nat} (h : Rd w size (.slice A n cap) xs) (hg : w.grownBy w' row) (hA : ∀ a, A = some a → row ≠ some a.block) : Rd w' size (.slice A n cap) xs := by
  obtain ⟨A', n', cap', hv, h1, h2, h3, h4⟩ := h
  injection hv with e1 e2 e3
  subst e1
  subst e2
  subst e3
  refine ⟨A, n, cap, rfl, h1, h2, h3, fun hn => ?_⟩
  obtain ⟨b, off, rfl, hc⟩ := h4 hn
  refine ⟨b, off, rfl, fun j u hu => ?_⟩
  have h5 := hc j u hu
  have hlt := World.block_lt_of_cell? w _ h5
  rw [World.cell?_of_block (hg.block b hlt (fun e => hA _ rfl e.symm))]
  exact h5

/-- A feed at block F: the program p; fed the text s, it is at the steps fs. Fs: blocks of feeds: its rows are none of them. -/
structure FdE (Fs : List Nat) (p : List St) (s : List UInt8) (fs : List Nat) (F b off cp : Nat) (A : Option Addr) (ca : Nat) (w : World) : Prop where
  bx : Blk w F 119 #[.slice (some ⟨b, off, none⟩) p.length cp, .slice A fs.length ca, .int .i64 (s.length : Int)]
  rp : RdS w (.slice (some ⟨b, off, none⟩) p.length cp) p
  ra : Rd1 w (.slice A fs.length ca) (natVals fs)
  hb : b ∉ Fs
  ha : ∀ a, A = some a → a.block ∉ Fs
  fed : Fed p s fs
  hF : F ∈ Fs
section
variable {Fs : List Nat} {p : List St} {s : List UInt8} {fs : List Nat} {F b off cp : Nat} {A : Option Addr} {ca : Nat} {w w' : World}
theorem FdE.below (h : FdE Fs p s fs F b off cp A ca w) (hb : Below w.heap.size w w') : FdE Fs p s fs F b off cp A ca w' :=
  ⟨h.bx.kept hb, h.rp.below hb, Rd.below h.ra hb, h.hb, h.ha, h.fed, h.hF⟩
theorem FdE.drew (h : FdE Fs p s fs F b off cp A ca w) : FdE Fs p s fs F b off cp A ca w.drew := h.below (Below.refl _ _).drew
theorem FdE.grown {G : Nat} (h : FdE Fs p s fs F b off cp A ca w) (hg : w.grownBy w' (some G)) (hG : G ∈ Fs) (hne : F ≠ G) : FdE Fs p s fs F b off cp A ca w' :=
  ⟨(hg.block F h.bx.lt (fun e => hne (by cases e; rfl))).trans h.bx, Rd.grown h.rp hg (fun a ha e => by cases ha; cases e; exact h.hb hG), Rd.grown h.ra hg (fun a ha e => by cases e; exact h.ha a ha hG), h.hb, h.ha, h.fed, h.hF⟩

end
theorem fd_set (w : World) (F j : Nat) (v : Value) : w.grownBy (w.setCell ⟨F, j, none⟩ v) (some F) :=
  ⟨rfl, rfl, rfl, by simp, fun q hq hne => Below.heap_setCell _ _ _ q (fun e => hne (by rw [e]))⟩
theorem fd_below {w w' : World} (h : Below w.heap.size w w') (row : Option Nat) : w.grownBy w' row := ⟨h.os, h.tape, h.output, h.size, fun q hq _ => h.block q hq⟩
theorem fd_trans {a b c : World} {row : Option Nat} (h : a.grownBy b row) (k : b.grownBy c row) : a.grownBy c row :=
  ⟨k.os.trans h.os, k.tape.trans h.tape, k.output.trans h.output, Nat.le_trans h.size k.size, fun q hq hne => (k.block q (Nat.lt_of_lt_of_le hq h.size) hne).trans (h.block q hq hne)⟩
theorem below_grown2 {B F : Nat} {a b c : World} (h : Below B a b) (hB : B ≤ F) (hBb : B ≤ b.heap.size) (k : b.grownBy c (some F)) : Below B a c :=
  ⟨k.os.trans h.os, k.tape.trans h.tape, k.output.trans h.output, Nat.le_trans h.size k.size, fun q hq => (k.block q (by omega) (fun e => by cases e; omega)).trans (h.block q hq)⟩

def FNewIs (t : Rx) (w : World) (e : Ending) (w' : World) : Prop :=
  ∃ F b off cp A ca, e = .returned (.tuple #[.pointer (some ⟨F, 0, none⟩), .nilIface]) ∧ w.heap.size ≤ F ∧ (∀ Fs : List Nat, (∀ f ∈ Fs, f < w.heap.size ∨ w'.heap.size ≤ f ∨ f = F) → F ∈ Fs → FdE Fs (progL t) [] [0] F b off cp A ca w') ∧ Below w.heap.size w w'
def FNewNo (l : List Nd) (w : World) (e : Ending) (w' : World) : Prop := e = .returned (.tuple #[.pointer none, errV (chk l)]) ∧ Below w.heap.size w w'

set_option maxRecDepth 100000 in
set_option maxHeartbeats 1000000 in
theorem FNew_no (l : List Nd) (v : Value) (w : World) (hr : RdN w v l) (hc : chk l ≠ 0) : Calls Tryz.prog 20 #[v] w (FNewNo l w) := by
  obtain ⟨A, cap, rfl, hcap, hcap2, hmem⟩ := hr.open_
  have HC := Lib.hid (Of_no l _ w hr hc)
  have HE := Lib.hid (errV_ne hc)
  clear hmem hr hc
  go_enter Tryz.func20, Tryz.ntmps20
  go_wp2_with fail
  refine HC.out.mono ?_
  rintro e w1 ⟨rfl, hb1⟩
  rw [HE.out]
  go_wp2_with fail
  go_ret2
  exact ⟨by rw [HE.out]; rfl, hb1⟩

set_option maxRecDepth 100000 in
set_option maxHeartbeats 1000000 in
theorem FNew_ok (l : List Nd) (t : Rx) (hl : l = flat t) (v : Value) (w : World) (ht : l.length ≤ 60) (hr : RdN w v l) : Calls Tryz.prog 20 #[v] w (FNewIs t w) := by
  obtain ⟨A, cap, rfl, hcap, hcap2, hmem⟩ := hr.open_
  have HC := Lib.hid (Of_ok l t hl _ w ht hr)
  clear hmem hr hl
  go_enter Tryz.func20, Tryz.ntmps20
  go_wp2_with fail
  refine HC.out.mono ?_
  rintro e w1 ⟨g, c, rfl, hrd, hg, hb1⟩
  have HRD := Lib.hid hrd
  have hsz := hb1.size
  have HB := Lib.hid hb1
  have hglt : g < w1.heap.size := by
    obtain ⟨A', cap', hv, _, _, hm⟩ := hrd.open_
    obtain ⟨b', off', hA, hlt, _⟩ := hm (by rw [progL_len]; omega)
    cases hv
    cases hA
    exact hlt
  clear hrd hb1
  generalize hp : progL t = P at *
  go_wp2_with fail
  go_ret2
  refine ⟨w1.heap.size + 1, g, 0, c, some ⟨w1.heap.size, 0, none⟩, 1, rfl, by omega, fun Fs hFs hF => ?_, (HB.out.alloc hsz _).alloc (by simp; omega) _⟩
  have hno : ∀ q, w.heap.size ≤ q → q < w1.heap.size + 1 → q ∉ Fs := fun q h1 h2 hq => by
    rcases hFs q hq with h | h | h
    · omega
    · simp at h; omega
    · omega
  rw [hp]
  refine ⟨blk_at _ _ (by simp) _ _, ?_, ?_, hno g hg (by omega), fun a ha => by cases ha; exact hno _ hsz (by show w1.heap.size < _; omega), Fed.first P, hF⟩
  · exact HRD.out.below (((Below.refl _ _).alloc (Nat.le_refl _) _).alloc (by simp) _)
  · exact ((Blk.new w1 3 #[.int .i64 0]).alloc _).rd1 (Nat.le_refl _) (by omega) rfl (fun j u h => by simpa [natVals] using h)

def YesIs (p : List St) (s : List UInt8) (w : World) (e : Ending) (w' : World) : Prop := ∃ r : Bool, e = .returned (.bool r) ∧ (r = true ↔ EndsAt p s 0 s.length) ∧ Below w.heap.size w w'

set_option maxRecDepth 100000 in
set_option maxHeartbeats 1000000 in
theorem FYes_any (Fs : List Nat) (p : List St) (hp : okP p) (s : List UInt8) (fs : List Nat) (F b off cp : Nat) (A : Option Addr) (ca : Nat) (w : World) (h : FdE Fs p s fs F b off cp A ca w) :
    Calls Tryz.prog 24 #[.pointer (some ⟨F, 0, none⟩)] w (YesIs p s w) := by
  have c0 := h.bx.cell 0
  have c1 := h.bx.cell 1
  have c2 := h.bx.cell 2
  simp only [List.getElem?_toArray, List.getElem?_cons_succ, List.getElem?_cons_zero] at c0 c1 c2
  have hS : ∀ w', Below w.heap.size w w' → (w'.cell? ⟨F, 0, none⟩ = some (.slice (some ⟨b, off, none⟩) p.length cp) ∧ w'.cell? ⟨F, 1, none⟩ = some (.slice A fs.length ca) ∧ w'.cell? ⟨F, 2, none⟩ = some (.int .i64 (s.length : Int)) ∧ Below w.heap.size w w') := fun w' hb => by
    have hk := h.bx.kept hb
    exact ⟨hk.cell 0, hk.cell 1, hk.cell 2, hb⟩
  have HS := Lib.hid hS
  have HSP : Hid (∀ w', Below w.heap.size w w' → Calls Tryz.prog 48 #[.slice (some ⟨b, off, none⟩) p.length cp, .slice A fs.length ca, .bool ((s.length : Int) == 0), .bool true] w' (SpreadIs p ((s.length : Int) == 0) true fs w')) := Lib.hid (fun w' hb => by
    have hk := h.below hb
    exact Spread_any p hp _ _ fs (h.fed.lt hp) _ true w' hk.rp hk.ra)
  have H := Lib.hid h
  have B0 : Below w.heap.size w w.drew := (Below.refl _ _).drew
  have hfld : ∀ (A1 : Option Addr) (n c : Nat) (d : Bool) (W' : World), (Instr.field 129 (.agg #[.slice A1 n c, .bool d]) 1).run Tryz.prog W' = .ok (.bool d) W' := fun _ _ _ _ _ => by kernel_rfl
  clear h hS
  go_enter Tryz.func24, Tryz.ntmps24
  go_wp2_with fail
  go_region_held3 (fun w' => w'.cell? ⟨F, 0, none⟩ = some (.slice (some ⟨b, off, none⟩) p.length cp) ∧ w'.cell? ⟨F, 1, none⟩ = some (.slice A fs.length ca) ∧ w'.cell? ⟨F, 2, none⟩ = some (.int .i64 (s.length : Int)) ∧ Below w.heap.size w w')
    (exact HS.out _ (by assumption))
    (first
      | (go_at_call 48; refine (HSP.out _ (by assumption)).mono ?_; rintro e w2 ⟨A2, cap2, L, d, rfl, hfr, _, hb2⟩; have hB2 : Below w.heap.size w w2 := (by assumption : Below w.heap.size w _).trans (hb2.mono (by assumption : Below w.heap.size w _).size)))
  go_wp2_with fail
  go_ret
  refine ⟨d, rfl, ?_, hB2⟩
  rw [show ((s.length : Int) == 0) = (s.length == 0) from int_beq s.length 0] at hfr
  exact H.out.fed.yes hfr

end Go.Proofs.YthcahjnniendnadGreatDoor

/-
  The walk of a feed's Put.
-/
namespace Go.Proofs.YthcahjnniendnadGreatDoor
open Go.RowKit Wf

theorem FdE.put {Fs : List Nat} {p : List St} {s s' : List UInt8} {fs fs' : List Nat} {F b off cp : Nat} {A A' : Option Addr} {ca ca' : Nat} {w : World} (h : FdE Fs p s fs F b off cp A ca w) (hra : Rd1 w (.slice A' fs'.length ca') (natVals fs'))
    (hA : ∀ a, A' = some a → a.block ∉ Fs) (hfed : Fed p s' fs') (n : Int) (hn : n = (s'.length : Int)) :
    FdE Fs p s' fs' F b off cp A' ca' ((w.setCell ⟨F, 1, none⟩ (.slice A' fs'.length ca')).setCell ⟨F, 2, none⟩ (.int .i64 n)) := by
  subst hn
  have hg := fd_trans (fd_set w F 1 (.slice A' fs'.length ca')) (fd_set _ F 2 (.int .i64 (s'.length : Int)))
  refine ⟨?_, Rd.grown h.rp hg (fun a ha e => by cases ha; cases e; exact h.hb h.hF), Rd.grown hra hg (fun a ha e => by cases e; exact hA a ha h.hF), h.hb, hA, hfed, h.hF⟩
  have := (h.bx.set_ 1 (.slice A' fs'.length ca')).set_ 2 (.int .i64 (s'.length : Int))
  simpa using this

def PutIs (Fs : List Nat) (p : List St) (s : List UInt8) (F b off cp : Nat) (w : World) (e : Ending) (w' : World) : Prop :=
  e = .returned .nilIface ∧ (∃ fs A ca, FdE Fs p s fs F b off cp A ca w') ∧ w.grownBy w' (some F)

set_option maxRecDepth 100000 in
set_option maxHeartbeats 40000000 in
theorem FPut_any (Fs : List Nat) (p : List St) (hp : okP p) (hok : ∀ s ∈ p, okC s.cls) (s : List UInt8) (t : ByteArray) (fs : List Nat) (F b off cp : Nat) (A : Option Addr) (ca : Nat) (w : World) (h : FdE Fs p s fs F b off cp A ca w) (hFs : ∀ f ∈ Fs, f < w.heap.size) (hl : s.length + t.size ≤ 400) :
    Calls Tryz.prog 23 #[.pointer (some ⟨F, 0, none⟩), .string t] w (PutIs Fs p (s ++ t.data.toList) F b off cp w) := by
  have hcl : ∃ fs A ca, FdE Fs p (s ++ t.data.toList.take 0) fs F b off cp A ca w := ⟨fs, A, ca, by simpa using h⟩
  have c2 := h.bx.cell 2
  simp only [List.getElem?_toArray, List.getElem?_cons_succ, List.getElem?_cons_zero] at c2
  have d1 : decide ((400 : Int) - (s.length : Int) < (t.size : Int)) = false := by simp; omega
  have hs4 : s.length ≤ 400 := by omega
  have ht4 : t.size ≤ 400 := by omega
  have HFS := Lib.hid hFs
  have HCL := Lib.hid hcl
  have HP := Lib.hid hp
  have HOK := Lib.hid hok
  have htl : t.data.toList.length = t.size := by simp
  have HTL := Lib.hid htl
  have hFw := h.bx.lt
  clear h hFs hcl hp hok htl
  go_enter Tryz.func23, Tryz.ntmps23
  go_wp2_with fail
  go_loopw [17] (fun v17 wr => ∃ k : Nat, k ≤ t.size ∧ v17 = .int .i64 (k : Int) ∧ Hid (∃ fs A ca, FdE Fs p (s ++ t.data.toList.take k) fs F b off cp A ca wr) ∧ Hid (w.grownBy wr (some F))) (fun i _ => t.size - (intOf i).toNat)
  case atStart => exact ⟨0, by omega, rfl, HCL, Lib.hid (fd_below (Below.refl _ _) _)⟩
  case round =>
    clear c2 HCL
    obtain ⟨k, hk, rfl, HE, HG⟩ := hrel
    by_cases hlt : k < t.size
    · obtain ⟨fs1, A1, ca1, he1⟩ := HE.out
      obtain ⟨s1, hs1⟩ : ∃ X, X = s ++ t.data.toList.take k := ⟨_, rfl⟩
      have HS1 := Lib.hid hs1
      have HL1 : Hid (s1.length = s.length + k) := Lib.hid (by rw [hs1]; have := HTL.out; simp; omega)
      rw [← hs1] at he1
      have HE1 := Lib.hid he1
      have hb1 : s1.length ≤ 400 := by have := HL1.out; omega
      have hFr : F < wr.heap.size := he1.bx.lt
      have hi1 : (k : Int) < (t.size : Int) := by omega
      have hi0 : (0 : Int) ≤ (k : Int) := by omega
      have hbyte : t[k].toNat < 256 := t[k].toNat_lt
      have c1 : wr.cell? ⟨F, 1, none⟩ = some (.slice A1 fs1.length ca1) := he1.bx.cell 1
      have hR : ∀ w', (Below wr.heap.size wr w' ∨ ∃ w0 u, w' = World.setCell w0 ⟨F, 1, none⟩ u ∧ Below wr.heap.size wr w0) →
          RdS w' (.slice (some ⟨b, off, none⟩) p.length cp) p ∧ Rd1 w' (.slice A1 fs1.length ca1) (natVals fs1) ∧ w'.cell? ⟨F, 0, none⟩ = some (.slice (some ⟨b, off, none⟩) p.length cp) ∧ w'.cell? ⟨F, 2, none⟩ = some (.int .i64 (s1.length : Int)) := by
        rintro w' (hb | ⟨w0, u, rfl, hb⟩)
        · have hk := he1.below hb
          exact ⟨hk.rp, hk.ra, hk.bx.cell 0, hk.bx.cell 2⟩
        · have hk := he1.below hb
          refine ⟨Rd.grown hk.rp (fd_set w0 F 1 u) (fun a ha e => by cases ha; cases e; exact hk.hb hk.hF), Rd.grown hk.ra (fd_set w0 F 1 u) (fun a ha e => by cases e; exact hk.ha a ha hk.hF), ?_, ?_⟩
          · exact (World.cell?_setCell_other _ _ _ _ (by simp)).trans (hk.bx.cell 0)
          · exact (World.cell?_setCell_other _ _ _ _ (by simp)).trans (hk.bx.cell 2)
      have HR := Lib.hid hR
      have HS : Hid (∀ w', Hid (Below wr.heap.size wr w' ∨ ∃ w0 u, w' = World.setCell w0 ⟨F, 1, none⟩ u ∧ Below wr.heap.size wr w0) →
          (w'.cell? ⟨F, 0, none⟩ = some (.slice (some ⟨b, off, none⟩) p.length cp) ∧ w'.cell? ⟨F, 2, none⟩ = some (.int .i64 (s1.length : Int)) ∧ Hid (Below wr.heap.size wr w' ∨ ∃ w0 u, w' = World.setCell w0 ⟨F, 1, none⟩ u ∧ Below wr.heap.size wr w0))) := Lib.hid (fun w' hh => ⟨(hR w' hh.out).2.2.1, (hR w' hh.out).2.2.2, hh⟩)
      have HSP : Hid (∀ w', Hid (Below wr.heap.size wr w' ∨ ∃ w0 u, w' = World.setCell w0 ⟨F, 1, none⟩ u ∧ Below wr.heap.size wr w0) → Calls Tryz.prog 48 #[.slice (some ⟨b, off, none⟩) p.length cp, .slice A1 fs1.length ca1, .bool ((s1.length : Int) == 0), .bool false] w' (SpreadIs p ((s1.length : Int) == 0) false fs1 w')) := Lib.hid (fun w' hh =>
        Spread_any p HP.out _ _ fs1 (he1.fed.lt HP.out) _ false w' (hR w' hh.out).1 (hR w' hh.out).2.1)
      have HA0 : Hid (Below wr.heap.size wr wr.drew ∨ ∃ w0 u, wr.drew = World.setCell w0 ⟨F, 1, none⟩ u ∧ Below wr.heap.size wr w0) := Lib.hid (.inl (Below.refl _ _).drew)
      have hgk : t.data.toList[k]? = some t[k] := by
        have : t.data.toList[k]? = t.data[k]? := by simp
        rw [this]
        exact Array.getElem?_eq_getElem _
      have HGK := Lib.hid hgk
      obtain ⟨_, _, q0, q2⟩ := HR.out _ HA0.out
      have p0 : wr.cell? ⟨F, 0, none⟩ = some (.slice (some ⟨b, off, none⟩) p.length cp) := he1.bx.cell 0
      have p2 : wr.cell? ⟨F, 2, none⟩ = some (.int .i64 (s1.length : Int)) := he1.bx.cell 2
      clear he1 hR hs1 hgk HE
      -- HAND
      go_wp2_with fail
      refine wp_region_held_drew (S := (fun w' => w'.cell? ⟨F, 0, none⟩ = some (.slice (some ⟨b, off, none⟩) p.length cp) ∧ w'.cell? ⟨F, 2, none⟩ = some (.int .i64 (s1.length : Int)) ∧ Hid (Below wr.heap.size wr w' ∨ ∃ w0 u, w' = World.setCell w0 ⟨F, 1, none⟩ u ∧ Below wr.heap.size wr w0))) (by kernel_rfl) (HS.out _ HA0) (fun hHeld => ?_)
      refine wpAnyH_take (i := 0) (v := ?vv0) rfl (by kernel_rfl) (by kernel_rfl) (by kernel_rfl) (fun _ _ _ h => h) (Or.inl ⟨by rfl, ?hy0⟩) (by assumption) ?rest0
      case hy0 => ((intro w hSw; (try dsimp only at hSw); go_simp) <;> with_reducible rfl)
      try simp only [Act.put, List.setIfInBounds_toArray, List.set_cons_zero, List.set_cons_succ, List.getElem_toArray, List.getElem_cons_succ, List.getElem_cons_zero]
      refine wpAnyH_take (i := 1) (v := ?vv1) rfl (by kernel_rfl) (by kernel_rfl) (by kernel_rfl) (fun _ _ _ h => h) (Or.inl ⟨by rfl, ?hy1⟩) (by assumption) ?rest1
      case hy1 => ((intro w hSw; (try dsimp only at hSw); go_simp) <;> with_reducible rfl)
      try simp only [Act.put, List.setIfInBounds_toArray, List.set_cons_zero, List.set_cons_succ, List.getElem_toArray, List.getElem_cons_succ, List.getElem_cons_zero]
      refine wpAnyH_take (i := 2) (v := ?vv2) rfl (by kernel_rfl) (by kernel_rfl) (by kernel_rfl) (fun _ _ _ h => h) (Or.inl ⟨by rfl, ?hy2⟩) (by assumption) ?rest2
      case hy2 => ((intro w hSw; (try dsimp only at hSw); go_simp) <;> with_reducible rfl)
      try simp only [Act.put, List.setIfInBounds_toArray, List.set_cons_zero, List.set_cons_succ, List.getElem_toArray, List.getElem_cons_succ, List.getElem_cons_zero]
      refine wpAnyH_take (i := 3) (v := ?vv3) rfl (by kernel_rfl) (by kernel_rfl) (by kernel_rfl) (fun _ _ _ h => h) (Or.inl ⟨by rfl, ?hy3⟩) (by assumption) ?rest3
      case hy3 => ((intro w hSw; (try dsimp only at hSw); go_simp) <;> with_reducible rfl)
      try simp only [Act.put, List.setIfInBounds_toArray, List.set_cons_zero, List.set_cons_succ, List.getElem_toArray, List.getElem_cons_succ, List.getElem_cons_zero]
      refine wpAnyH_take (i := 4) (v := ?vv4) rfl (by kernel_rfl) (by kernel_rfl) (by kernel_rfl) (fun _ _ _ h => h) (Or.inl ⟨by rfl, ?hy4⟩) (by assumption) ?rest4
      case hy4 => ((intro w hSw; (try dsimp only at hSw); go_simp) <;> with_reducible rfl)
      try simp only [Act.put, List.setIfInBounds_toArray, List.set_cons_zero, List.set_cons_succ, List.getElem_toArray, List.getElem_cons_succ, List.getElem_cons_zero]
      refine wpAnyH_take (i := 5) (v := ?vv5) rfl (by kernel_rfl) (by kernel_rfl) (by kernel_rfl) (fun _ _ _ h => h) (Or.inl ⟨by rfl, ?hy5⟩) (by assumption) ?rest5
      case hy5 => ((intro w hSw; (try dsimp only at hSw); go_simp) <;> with_reducible rfl)
      try simp only [Act.put, List.setIfInBounds_toArray, List.set_cons_zero, List.set_cons_succ, List.getElem_toArray, List.getElem_cons_succ, List.getElem_cons_zero]
      refine wpAnyH_take (i := 6) (v := ?vv6) rfl (by kernel_rfl) (by kernel_rfl) (by kernel_rfl) (fun _ _ _ h => h) (Or.inl ⟨by rfl, ?hy6⟩) (by assumption) ?rest6
      case hy6 => ((intro w hSw; (try dsimp only at hSw); go_simp) <;> with_reducible rfl)
      try simp only [Act.put, List.setIfInBounds_toArray, List.set_cons_zero, List.set_cons_succ, List.getElem_toArray, List.getElem_cons_succ, List.getElem_cons_zero]
      refine wpAnyH_take (i := 7) (v := ?vv7) rfl (by kernel_rfl) (by kernel_rfl) (by kernel_rfl) (fun _ _ _ h => h) (Or.inl ⟨by rfl, ?hy7⟩) (by assumption) ?rest7
      case hy7 => ((intro w hSw; (try dsimp only at hSw); go_simp) <;> with_reducible rfl)
      try simp only [Act.put, List.setIfInBounds_toArray, List.set_cons_zero, List.set_cons_succ, List.getElem_toArray, List.getElem_cons_succ, List.getElem_cons_zero]
      refine wpAnyH_take (i := 9) (v := ?vv9) rfl (by kernel_rfl) (by kernel_rfl) (by kernel_rfl) (fun _ _ _ h => h) (Or.inl ⟨by rfl, ?hy9⟩) (by assumption) ?rest9
      case hy9 => ((intro w hSw; (try dsimp only at hSw); go_simp) <;> with_reducible rfl)
      try simp only [Act.put, List.setIfInBounds_toArray, List.set_cons_zero, List.set_cons_succ, List.getElem_toArray, List.getElem_cons_succ, List.getElem_cons_zero]
      refine wpAnyH_take (i := 10) (v := ?vv10) rfl (by kernel_rfl) (by kernel_rfl) (by kernel_rfl) (fun _ _ _ h => h) (Or.inl ⟨by rfl, ?hy10⟩) (by assumption) ?rest10
      case hy10 => ((intro w hSw; (try dsimp only at hSw); go_simp) <;> with_reducible rfl)
      try simp only [Act.put, List.setIfInBounds_toArray, List.set_cons_zero, List.set_cons_succ, List.getElem_toArray, List.getElem_cons_succ, List.getElem_cons_zero]
      refine wpAnyH_take (i := 11) (v := ?vv11) rfl (by kernel_rfl) (by kernel_rfl) (by kernel_rfl) (fun _ _ _ h => h) (Or.inl ⟨by rfl, ?hy11⟩) (by assumption) ?rest11
      case hy11 => ((intro w hSw; (try dsimp only at hSw); go_simp) <;> with_reducible rfl)
      try simp only [Act.put, List.setIfInBounds_toArray, List.set_cons_zero, List.set_cons_succ, List.getElem_toArray, List.getElem_cons_succ, List.getElem_cons_zero]
      refine wpAnyH_take (i := 12) (v := ?vv12) rfl (by kernel_rfl) (by kernel_rfl) (by kernel_rfl) (fun _ _ _ h => h) (Or.inl ⟨by rfl, ?hy12⟩) (by assumption) ?rest12
      case hy12 => ((intro w hSw; (try dsimp only at hSw); go_simp) <;> with_reducible rfl)
      try simp only [Act.put, List.setIfInBounds_toArray, List.set_cons_zero, List.set_cons_succ, List.getElem_toArray, List.getElem_cons_succ, List.getElem_cons_zero]
      refine wpAnyH_take (i := 13) (v := ?vv13) rfl (by kernel_rfl) (by kernel_rfl) (by kernel_rfl) (fun _ _ _ h => h) (Or.inl ⟨by rfl, ?hy13⟩) (by assumption) ?rest13
      case hy13 => ((intro w hSw; (try dsimp only at hSw); go_simp) <;> with_reducible rfl)
      try simp only [Act.put, List.setIfInBounds_toArray, List.set_cons_zero, List.set_cons_succ, List.getElem_toArray, List.getElem_cons_succ, List.getElem_cons_zero]
      refine wpAnyH_take (i := 15) (v := ?vv15) rfl (by kernel_rfl) (by kernel_rfl) (by kernel_rfl) (fun _ _ _ h => h) (Or.inl ⟨by rfl, ?hy15⟩) (by assumption) ?rest15
      case hy15 => ((intro w hSw; (try dsimp only at hSw); go_simp) <;> with_reducible rfl)
      try simp only [Act.put, List.setIfInBounds_toArray, List.set_cons_zero, List.set_cons_succ, List.getElem_toArray, List.getElem_cons_succ, List.getElem_cons_zero]
      refine wpAnyH_take (i := 16) (v := ?vv16) rfl (by kernel_rfl) (by kernel_rfl) (by kernel_rfl) (fun _ _ _ h => h) (Or.inl ⟨by rfl, ?hy16⟩) (by assumption) ?rest16
      case hy16 => ((intro w hSw; (try dsimp only at hSw); go_simp) <;> with_reducible rfl)
      try simp only [Act.put, List.setIfInBounds_toArray, List.set_cons_zero, List.set_cons_succ, List.getElem_toArray, List.getElem_cons_succ, List.getElem_cons_zero]
      refine wpAnyH_take (i := 17) (v := ?vv17) rfl (by kernel_rfl) (by kernel_rfl) (by kernel_rfl) (fun _ _ _ h => h) (Or.inl ⟨by rfl, ?hy17⟩) (by assumption) ?rest17
      case hy17 => ((intro w hSw; (try dsimp only at hSw); go_simp) <;> with_reducible rfl)
      try simp only [Act.put, List.setIfInBounds_toArray, List.set_cons_zero, List.set_cons_succ, List.getElem_toArray, List.getElem_cons_succ, List.getElem_cons_zero]
      refine wpAnyH_take (i := 18) (v := ?vv18) rfl (by kernel_rfl) (by kernel_rfl) (by kernel_rfl) (fun _ _ _ h => h) (Or.inl ⟨by rfl, ?hy18⟩) (by assumption) ?rest18
      case hy18 => ((intro w hSw; (try dsimp only at hSw); go_simp) <;> with_reducible rfl)
      try simp only [Act.put, List.setIfInBounds_toArray, List.set_cons_zero, List.set_cons_succ, List.getElem_toArray, List.getElem_cons_succ, List.getElem_cons_zero]
      refine wpAnyH_take (i := 19) (v := ?vv19) rfl (by kernel_rfl) (by kernel_rfl) (by kernel_rfl) (fun _ _ _ h => h) (Or.inl ⟨by rfl, ?hy19⟩) (by assumption) ?rest19
      case hy19 => ((intro w hSw; (try dsimp only at hSw); go_simp) <;> with_reducible rfl)
      try simp only [Act.put, List.setIfInBounds_toArray, List.set_cons_zero, List.set_cons_succ, List.getElem_toArray, List.getElem_cons_succ, List.getElem_cons_zero]
      refine wpAnyH_take (i := 20) (v := ?vv20) rfl (by kernel_rfl) (by kernel_rfl) (by kernel_rfl) (fun _ _ _ h => h) (Or.inl ⟨by rfl, ?hy20⟩) (by assumption) ?rest20
      case hy20 => ((intro w hSw; (try dsimp only at hSw); go_simp) <;> with_reducible rfl)
      try simp only [Act.put, List.setIfInBounds_toArray, List.set_cons_zero, List.set_cons_succ, List.getElem_toArray, List.getElem_cons_succ, List.getElem_cons_zero]
      refine wpAnyH_take (i := 21) (v := ?vv21) rfl (by kernel_rfl) (by kernel_rfl) (by kernel_rfl) (fun _ _ _ h => h) (Or.inl ⟨by rfl, ?hy21⟩) (by assumption) ?rest21
      case hy21 => ((intro w hSw; (try dsimp only at hSw); go_simp) <;> with_reducible rfl)
      try simp only [Act.put, List.setIfInBounds_toArray, List.set_cons_zero, List.set_cons_succ, List.getElem_toArray, List.getElem_cons_succ, List.getElem_cons_zero]
      have HS0 := Lib.hid hHeld
      refine wpAnyH_ready (rs := [8]) (by kernel_rfl) (by simp) ?_
      refine AllReadyH.cons rfl (fun K hK => ?_) AllReadyH.nil
      go_simp
      refine hK.out _ _ HS0.out (fun hHeld => ?_)
      clear hK K
      try simp only [Act.put, List.setIfInBounds_toArray, List.set_cons_zero, List.set_cons_succ, List.getElem_toArray, List.getElem_cons_succ, List.getElem_cons_zero]
      refine wpAnyH_ready (rs := [14]) (by kernel_rfl) (by simp) ?_
      refine AllReadyH.cons rfl (fun K hK => ?_) AllReadyH.nil
      go_simp
      go_at_call 48
      refine (HSP.out wr.drew HA0).mono ?_
      rintro e w2 ⟨A2, cap2, L, d, rfl, hfr, hown2, hb2⟩
      have HB2 : Hid (Below wr.heap.size wr w2) := Lib.hid ((Below.refl _ wr).drew.trans hb2)
      have HA2 : Hid (Below wr.heap.size wr w2 ∨ ∃ w0 u, w2 = World.setCell w0 ⟨F, 1, none⟩ u ∧ Below wr.heap.size wr w0) := Lib.hid (.inl HB2.out)
      have HFR := Lib.hid hfr
      have HO2 := Lib.hid hown2
      clear hfr hown2 hb2
      go_wp2_with fail
      refine hK.out _ _ (HS.out _ HA2) (fun hHeld => ?_)
      clear hK K
      try simp only [Act.put, List.setIfInBounds_toArray, List.set_cons_zero, List.set_cons_succ, List.getElem_toArray, List.getElem_cons_succ, List.getElem_cons_zero]
      refine wpAnyH_ready (rs := [22]) (by kernel_rfl) (by simp) ?_
      refine AllReadyH.cons rfl (fun K hK => ?_) AllReadyH.nil
      go_simp
      go_at_call 49
      refine (Go_any p HOK.out (fun st hst => op_x0 HP.out st hst) _ A2 cap2 L d (front_lt HP.out HFR.out).2 (front_lt HP.out HFR.out).1 t[k].toNat hbyte w2 (HR.out _ HA2.out).1 (Rd.of_own HO2.out)).mono ?_
      rintro e w3 ⟨A3, cap3, rfl, hown3, hb3⟩
      have HB3 : Hid (Below wr.heap.size wr w3) := Lib.hid (HB2.out.trans (hb3.mono HB2.out.size))
      have HA3 : Hid (Below wr.heap.size wr w3 ∨ ∃ w0 u, w3 = World.setCell w0 ⟨F, 1, none⟩ u ∧ Below wr.heap.size wr w0) := Lib.hid (.inl HB3.out)
      have hk3 := HE1.out.below HB3.out
      have k1 : w3.cell? ⟨F, 1, none⟩ = some (.slice A1 fs1.length ca1) := hk3.bx.cell 1
      have z1 := hk3.bx.frozen 1
      have HO3 := Lib.hid hown3
      clear hown3 hb3 hk3
      go_wp2_with fail
      refine hK.out _ _ (HS.out _ HA3) (fun hHeld => ?_)
      clear hK K
      try simp only [Act.put, List.setIfInBounds_toArray, List.set_cons_zero, List.set_cons_succ, List.getElem_toArray, List.getElem_cons_succ, List.getElem_cons_zero]
      refine wpAnyH_take (i := 23) (v := ?vv23) rfl (by kernel_rfl) (by kernel_rfl) (by kernel_rfl) (fun _ _ _ h => h) (Or.inl ⟨by rfl, ?hy23⟩) (by assumption) ?rest23
      case hy23 => ((intro w hSw; (try dsimp only at hSw); go_simp) <;> with_reducible rfl)
      try simp only [Act.put, List.setIfInBounds_toArray, List.set_cons_zero, List.set_cons_succ, List.getElem_toArray, List.getElem_cons_succ, List.getElem_cons_zero]
      refine wpAnyH_take (i := 24) (v := ?vv24) rfl (by kernel_rfl) (by kernel_rfl) (by kernel_rfl) (fun _ _ _ h => h) (Or.inl ⟨by rfl, ?hy24⟩) (by assumption) ?rest24
      case hy24 => ((intro w hSw; (try dsimp only at hSw); go_simp) <;> with_reducible rfl)
      try simp only [Act.put, List.setIfInBounds_toArray, List.set_cons_zero, List.set_cons_succ, List.getElem_toArray, List.getElem_cons_succ, List.getElem_cons_zero]
      refine wpAnyH_ready (rs := [25]) (by kernel_rfl) (by simp) ?_
      refine AllReadyH.cons rfl (fun K hK => ?_) AllReadyH.nil
      go_simp
      refine hK.out _ _ (HS.out _ (Lib.hid (.inr ⟨_, _, rfl, HB3.out⟩))) (fun hHeld => ?_)
      clear hK K
      refine wpAnyH_done (by kernel_rfl) ?_ _
      all_goals (
        have hk3 := HE1.out.below HB3.out
        have e2 : w3.cell? ⟨F, 2, none⟩ = some (.int .i64 (s1.length : Int)) := hk3.bx.cell 2
        have f2 := hk3.bx.frozen 2
        have hnx := HE1.out.fed.byte HP.out (b := t[k]) (by have := HFR.out; rw [show ((s1.length : Int) == 0) = (s1.length == 0) from int_beq s1.length 0] at this; exact this)
        have hsx : s1 ++ [t[k]] = s ++ t.data.toList.take (k + 1) := by rw [HS1.out, take_snoc HGK.out, List.append_assoc]
        rw [hsx] at hnx
        have hno : ∀ a, A3 = some a → a.block ∉ Fs := fun a ha hq => by
          have h1 := HFS.out _ hq
          have h2 := (HO3.out.lt a.block (by rw [ha]; rfl)).1
          have h3 := HB2.out.size
          have h4 := HG.out.size
          omega
        have henv := hk3.put (Rd.of_own HO3.out) hno hnx ((s1.length : Int) + 1) (by rw [← hsx]; simp)
        have HENV := Lib.hid henv
        have HGR := Lib.hid (fd_trans HG.out (fd_trans (fd_below HB3.out (some F)) (fd_trans (fd_set w3 F 1 (.slice A3 (goL p t[k].toNat L).length cap3)) (fd_set _ F 2 (.int .i64 ((s1.length : Int) + 1))))))
        clear henv hno hnx hsx hk3
        go_wp2_with fail
        go_round
        case rel => exact ⟨k + 1, by omega, by go_num, Lib.hid ⟨_, _, _, HENV.out⟩, HGR⟩
        case measure => simp [intOf]; omega)
    · obtain rfl : k = t.size := by omega
      have hfin : t.data.toList.take t.size = t.data.toList := by rw [← HTL.out, List.take_length]
      have HFIN := Lib.hid hfin
      clear hfin
      go_wp2_with fail
      go_ret
      refine ⟨rfl, ?_, HG.out⟩
      have := HE.out
      rw [HFIN.out] at this
      exact this

end Go.Proofs.YthcahjnniendnadGreatDoor
