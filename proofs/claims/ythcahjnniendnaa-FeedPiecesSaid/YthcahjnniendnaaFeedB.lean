/-
  The walk of a feed's Put.
-/
import Derived.Test.YthcahjnniendnaaFeedA
namespace Go.Proofs.Ythcahjnniendnaa
open Go.RowKit Wf

theorem FdE.put {Fs : List Nat} {p : List St} {s s' : List UInt8} {fs fs' : List Nat} {F b off cp : Nat} {A A' : Option Addr} {ca ca' : Nat} {w : World} (h : FdE Fs p s fs F b off cp A ca w) (hra : Rd1 w (.slice A' fs'.length ca') (natVals fs'))
    (hA : ∀ a, A' = some a → a.block ∉ Fs) (hfed : Fed p s' fs') (n : Int) (hn : n = (s'.length : Int)) :
    FdE Fs p s' fs' F b off cp A' ca' ((w.setCell ⟨F, 1, none⟩ (.slice A' fs'.length ca')).setCell ⟨F, 2, none⟩ (.int .i64 n)) := by
  subst hn
  have hg := fd_trans (fd_set w F 1 (.slice A' fs'.length ca')) (fd_set _ F 2 (.int .i64 (s'.length : Int)))
  refine ⟨?_, Rd.grown h.rp hg (fun a ha e => by cases ha; cases e; exact h.hb h.hF), Rd.grown hra hg (fun a ha e => by cases e; exact hA a ha h.hF), h.hb, hA, hfed, h.hF⟩
  have := (h.bx.set_ 1 (.slice A' fs'.length ca')).set_ 2 (.int .i64 (s'.length : Int))
  simpa using this

def PutIs (Fs : List Nat) (p : List St) (s : List UInt8) (F b off cp : Nat) (w : World) (e : Ending) (w' : World) : Prop :=
  e = .returned .nilIface ∧ (∃ fs A ca, FdE Fs p s fs F b off cp A ca w') ∧ w.grownBy w' (some F)

set_option maxRecDepth 100000 in
set_option maxHeartbeats 40000000 in
theorem FPut_any (Fs : List Nat) (p : List St) (hp : okP p) (hok : ∀ s ∈ p, okC s.cls) (s : List UInt8) (t : ByteArray) (fs : List Nat) (F b off cp : Nat) (A : Option Addr) (ca : Nat) (w : World) (h : FdE Fs p s fs F b off cp A ca w) (hFs : ∀ f ∈ Fs, f < w.heap.size) (hl : s.length + t.size ≤ 400) :
    Calls Try.prog 35 #[.pointer (some ⟨F, 0, none⟩), .string t] w (PutIs Fs p (s ++ t.data.toList) F b off cp w) := by
  have hcl : ∃ fs A ca, FdE Fs p (s ++ t.data.toList.take 0) fs F b off cp A ca w := ⟨fs, A, ca, by simpa using h⟩
  have c2 := h.bx.cell 2
  simp only [List.getElem?_toArray, List.getElem?_cons_succ, List.getElem?_cons_zero] at c2
  have d1 : decide ((400 : Int) - (s.length : Int) < (t.size : Int)) = false := by simp; omega
  have hs4 : s.length ≤ 400 := by omega
  have ht4 : t.size ≤ 400 := by omega
  have HFS := Lib.hid hFs
  have HCL := Lib.hid hcl
  have HP := Lib.hid hp
  have HOK := Lib.hid hok
  have htl : t.data.toList.length = t.size := by simp
  have HTL := Lib.hid htl
  have hFw := h.bx.lt
  clear h hFs hcl hp hok htl
  go_enter Try.func35, Try.ntmps35
  go_wp2_with fail
  go_loopw [17] (fun v17 wr => ∃ k : Nat, k ≤ t.size ∧ v17 = .int .i64 (k : Int) ∧ Hid (∃ fs A ca, FdE Fs p (s ++ t.data.toList.take k) fs F b off cp A ca wr) ∧ Hid (w.grownBy wr (some F))) (fun i _ => t.size - (intOf i).toNat)
  case atStart => exact ⟨0, by omega, rfl, HCL, Lib.hid (fd_below (Below.refl _ _) _)⟩
  case round =>
    clear c2 HCL
    obtain ⟨k, hk, rfl, HE, HG⟩ := hrel
    by_cases hlt : k < t.size
    · obtain ⟨fs1, A1, ca1, he1⟩ := HE.out
      obtain ⟨s1, hs1⟩ : ∃ X, X = s ++ t.data.toList.take k := ⟨_, rfl⟩
      have HS1 := Lib.hid hs1
      have HL1 : Hid (s1.length = s.length + k) := Lib.hid (by rw [hs1]; have := HTL.out; simp; omega)
      rw [← hs1] at he1
      have HE1 := Lib.hid he1
      have hb1 : s1.length ≤ 400 := by have := HL1.out; omega
      have hFr : F < wr.heap.size := he1.bx.lt
      have hi1 : (k : Int) < (t.size : Int) := by omega
      have hi0 : (0 : Int) ≤ (k : Int) := by omega
      have hbyte : t[k].toNat < 256 := t[k].toNat_lt
      have c1 : wr.cell? ⟨F, 1, none⟩ = some (.slice A1 fs1.length ca1) := he1.bx.cell 1
      have hR : ∀ w', (Below wr.heap.size wr w' ∨ ∃ w0 u, w' = World.setCell w0 ⟨F, 1, none⟩ u ∧ Below wr.heap.size wr w0) →
          RdS w' (.slice (some ⟨b, off, none⟩) p.length cp) p ∧ Rd1 w' (.slice A1 fs1.length ca1) (natVals fs1) ∧ w'.cell? ⟨F, 0, none⟩ = some (.slice (some ⟨b, off, none⟩) p.length cp) ∧ w'.cell? ⟨F, 2, none⟩ = some (.int .i64 (s1.length : Int)) := by
        rintro w' (hb | ⟨w0, u, rfl, hb⟩)
        · have hk := he1.below hb
          exact ⟨hk.rp, hk.ra, hk.bx.cell 0, hk.bx.cell 2⟩
        · have hk := he1.below hb
          refine ⟨Rd.grown hk.rp (fd_set w0 F 1 u) (fun a ha e => by cases ha; cases e; exact hk.hb hk.hF), Rd.grown hk.ra (fd_set w0 F 1 u) (fun a ha e => by cases e; exact hk.ha a ha hk.hF), ?_, ?_⟩
          · exact (World.cell?_setCell_other _ _ _ _ (by simp)).trans (hk.bx.cell 0)
          · exact (World.cell?_setCell_other _ _ _ _ (by simp)).trans (hk.bx.cell 2)
      have HR := Lib.hid hR
      have HS : Hid (∀ w', Hid (Below wr.heap.size wr w' ∨ ∃ w0 u, w' = World.setCell w0 ⟨F, 1, none⟩ u ∧ Below wr.heap.size wr w0) →
          (w'.cell? ⟨F, 0, none⟩ = some (.slice (some ⟨b, off, none⟩) p.length cp) ∧ w'.cell? ⟨F, 2, none⟩ = some (.int .i64 (s1.length : Int)) ∧ Hid (Below wr.heap.size wr w' ∨ ∃ w0 u, w' = World.setCell w0 ⟨F, 1, none⟩ u ∧ Below wr.heap.size wr w0))) := Lib.hid (fun w' hh => ⟨(hR w' hh.out).2.2.1, (hR w' hh.out).2.2.2, hh⟩)
      have HSP : Hid (∀ w', Hid (Below wr.heap.size wr w' ∨ ∃ w0 u, w' = World.setCell w0 ⟨F, 1, none⟩ u ∧ Below wr.heap.size wr w0) → Calls Try.prog 61 #[.slice (some ⟨b, off, none⟩) p.length cp, .slice A1 fs1.length ca1, .bool ((s1.length : Int) == 0), .bool false] w' (SpreadIs p ((s1.length : Int) == 0) false fs1 w')) := Lib.hid (fun w' hh =>
        Spread_any p HP.out _ _ fs1 (he1.fed.lt HP.out) _ false w' (hR w' hh.out).1 (hR w' hh.out).2.1)
      have HA0 : Hid (Below wr.heap.size wr wr.drew ∨ ∃ w0 u, wr.drew = World.setCell w0 ⟨F, 1, none⟩ u ∧ Below wr.heap.size wr w0) := Lib.hid (.inl (Below.refl _ _).drew)
      have hgk : t.data.toList[k]? = some t[k] := by
        have : t.data.toList[k]? = t.data[k]? := by simp
        rw [this]
        exact Array.getElem?_eq_getElem _
      have HGK := Lib.hid hgk
      obtain ⟨_, _, q0, q2⟩ := HR.out _ HA0.out
      have p0 : wr.cell? ⟨F, 0, none⟩ = some (.slice (some ⟨b, off, none⟩) p.length cp) := he1.bx.cell 0
      have p2 : wr.cell? ⟨F, 2, none⟩ = some (.int .i64 (s1.length : Int)) := he1.bx.cell 2
      clear he1 hR hs1 hgk HE
      -- HAND
      go_wp2_with fail
      refine wp_region_held_drew (S := (fun w' => w'.cell? ⟨F, 0, none⟩ = some (.slice (some ⟨b, off, none⟩) p.length cp) ∧ w'.cell? ⟨F, 2, none⟩ = some (.int .i64 (s1.length : Int)) ∧ Hid (Below wr.heap.size wr w' ∨ ∃ w0 u, w' = World.setCell w0 ⟨F, 1, none⟩ u ∧ Below wr.heap.size wr w0))) (by kernel_rfl) (HS.out _ HA0) (fun hHeld => ?_)
      refine wpAnyH_take (i := 0) (v := ?vv0) rfl (by kernel_rfl) (by kernel_rfl) (by kernel_rfl) (fun _ _ _ h => h) (Or.inl ⟨by rfl, ?hy0⟩) (by assumption) ?rest0
      case hy0 => ((intro w hSw; (try dsimp only at hSw); go_simp) <;> with_reducible rfl)
      try simp only [Act.put, List.setIfInBounds_toArray, List.set_cons_zero, List.set_cons_succ, List.getElem_toArray, List.getElem_cons_succ, List.getElem_cons_zero]
      refine wpAnyH_take (i := 1) (v := ?vv1) rfl (by kernel_rfl) (by kernel_rfl) (by kernel_rfl) (fun _ _ _ h => h) (Or.inl ⟨by rfl, ?hy1⟩) (by assumption) ?rest1
      case hy1 => ((intro w hSw; (try dsimp only at hSw); go_simp) <;> with_reducible rfl)
      try simp only [Act.put, List.setIfInBounds_toArray, List.set_cons_zero, List.set_cons_succ, List.getElem_toArray, List.getElem_cons_succ, List.getElem_cons_zero]
      refine wpAnyH_take (i := 2) (v := ?vv2) rfl (by kernel_rfl) (by kernel_rfl) (by kernel_rfl) (fun _ _ _ h => h) (Or.inl ⟨by rfl, ?hy2⟩) (by assumption) ?rest2
      case hy2 => ((intro w hSw; (try dsimp only at hSw); go_simp) <;> with_reducible rfl)
      try simp only [Act.put, List.setIfInBounds_toArray, List.set_cons_zero, List.set_cons_succ, List.getElem_toArray, List.getElem_cons_succ, List.getElem_cons_zero]
      refine wpAnyH_take (i := 3) (v := ?vv3) rfl (by kernel_rfl) (by kernel_rfl) (by kernel_rfl) (fun _ _ _ h => h) (Or.inl ⟨by rfl, ?hy3⟩) (by assumption) ?rest3
      case hy3 => ((intro w hSw; (try dsimp only at hSw); go_simp) <;> with_reducible rfl)
      try simp only [Act.put, List.setIfInBounds_toArray, List.set_cons_zero, List.set_cons_succ, List.getElem_toArray, List.getElem_cons_succ, List.getElem_cons_zero]
      refine wpAnyH_take (i := 4) (v := ?vv4) rfl (by kernel_rfl) (by kernel_rfl) (by kernel_rfl) (fun _ _ _ h => h) (Or.inl ⟨by rfl, ?hy4⟩) (by assumption) ?rest4
      case hy4 => ((intro w hSw; (try dsimp only at hSw); go_simp) <;> with_reducible rfl)
      try simp only [Act.put, List.setIfInBounds_toArray, List.set_cons_zero, List.set_cons_succ, List.getElem_toArray, List.getElem_cons_succ, List.getElem_cons_zero]
      refine wpAnyH_take (i := 5) (v := ?vv5) rfl (by kernel_rfl) (by kernel_rfl) (by kernel_rfl) (fun _ _ _ h => h) (Or.inl ⟨by rfl, ?hy5⟩) (by assumption) ?rest5
      case hy5 => ((intro w hSw; (try dsimp only at hSw); go_simp) <;> with_reducible rfl)
      try simp only [Act.put, List.setIfInBounds_toArray, List.set_cons_zero, List.set_cons_succ, List.getElem_toArray, List.getElem_cons_succ, List.getElem_cons_zero]
      refine wpAnyH_take (i := 6) (v := ?vv6) rfl (by kernel_rfl) (by kernel_rfl) (by kernel_rfl) (fun _ _ _ h => h) (Or.inl ⟨by rfl, ?hy6⟩) (by assumption) ?rest6
      case hy6 => ((intro w hSw; (try dsimp only at hSw); go_simp) <;> with_reducible rfl)
      try simp only [Act.put, List.setIfInBounds_toArray, List.set_cons_zero, List.set_cons_succ, List.getElem_toArray, List.getElem_cons_succ, List.getElem_cons_zero]
      refine wpAnyH_take (i := 7) (v := ?vv7) rfl (by kernel_rfl) (by kernel_rfl) (by kernel_rfl) (fun _ _ _ h => h) (Or.inl ⟨by rfl, ?hy7⟩) (by assumption) ?rest7
      case hy7 => ((intro w hSw; (try dsimp only at hSw); go_simp) <;> with_reducible rfl)
      try simp only [Act.put, List.setIfInBounds_toArray, List.set_cons_zero, List.set_cons_succ, List.getElem_toArray, List.getElem_cons_succ, List.getElem_cons_zero]
      refine wpAnyH_take (i := 9) (v := ?vv9) rfl (by kernel_rfl) (by kernel_rfl) (by kernel_rfl) (fun _ _ _ h => h) (Or.inl ⟨by rfl, ?hy9⟩) (by assumption) ?rest9
      case hy9 => ((intro w hSw; (try dsimp only at hSw); go_simp) <;> with_reducible rfl)
      try simp only [Act.put, List.setIfInBounds_toArray, List.set_cons_zero, List.set_cons_succ, List.getElem_toArray, List.getElem_cons_succ, List.getElem_cons_zero]
      refine wpAnyH_take (i := 10) (v := ?vv10) rfl (by kernel_rfl) (by kernel_rfl) (by kernel_rfl) (fun _ _ _ h => h) (Or.inl ⟨by rfl, ?hy10⟩) (by assumption) ?rest10
      case hy10 => ((intro w hSw; (try dsimp only at hSw); go_simp) <;> with_reducible rfl)
      try simp only [Act.put, List.setIfInBounds_toArray, List.set_cons_zero, List.set_cons_succ, List.getElem_toArray, List.getElem_cons_succ, List.getElem_cons_zero]
      refine wpAnyH_take (i := 11) (v := ?vv11) rfl (by kernel_rfl) (by kernel_rfl) (by kernel_rfl) (fun _ _ _ h => h) (Or.inl ⟨by rfl, ?hy11⟩) (by assumption) ?rest11
      case hy11 => ((intro w hSw; (try dsimp only at hSw); go_simp) <;> with_reducible rfl)
      try simp only [Act.put, List.setIfInBounds_toArray, List.set_cons_zero, List.set_cons_succ, List.getElem_toArray, List.getElem_cons_succ, List.getElem_cons_zero]
      refine wpAnyH_take (i := 12) (v := ?vv12) rfl (by kernel_rfl) (by kernel_rfl) (by kernel_rfl) (fun _ _ _ h => h) (Or.inl ⟨by rfl, ?hy12⟩) (by assumption) ?rest12
      case hy12 => ((intro w hSw; (try dsimp only at hSw); go_simp) <;> with_reducible rfl)
      try simp only [Act.put, List.setIfInBounds_toArray, List.set_cons_zero, List.set_cons_succ, List.getElem_toArray, List.getElem_cons_succ, List.getElem_cons_zero]
      refine wpAnyH_take (i := 13) (v := ?vv13) rfl (by kernel_rfl) (by kernel_rfl) (by kernel_rfl) (fun _ _ _ h => h) (Or.inl ⟨by rfl, ?hy13⟩) (by assumption) ?rest13
      case hy13 => ((intro w hSw; (try dsimp only at hSw); go_simp) <;> with_reducible rfl)
      try simp only [Act.put, List.setIfInBounds_toArray, List.set_cons_zero, List.set_cons_succ, List.getElem_toArray, List.getElem_cons_succ, List.getElem_cons_zero]
      refine wpAnyH_take (i := 15) (v := ?vv15) rfl (by kernel_rfl) (by kernel_rfl) (by kernel_rfl) (fun _ _ _ h => h) (Or.inl ⟨by rfl, ?hy15⟩) (by assumption) ?rest15
      case hy15 => ((intro w hSw; (try dsimp only at hSw); go_simp) <;> with_reducible rfl)
      try simp only [Act.put, List.setIfInBounds_toArray, List.set_cons_zero, List.set_cons_succ, List.getElem_toArray, List.getElem_cons_succ, List.getElem_cons_zero]
      refine wpAnyH_take (i := 16) (v := ?vv16) rfl (by kernel_rfl) (by kernel_rfl) (by kernel_rfl) (fun _ _ _ h => h) (Or.inl ⟨by rfl, ?hy16⟩) (by assumption) ?rest16
      case hy16 => ((intro w hSw; (try dsimp only at hSw); go_simp) <;> with_reducible rfl)
      try simp only [Act.put, List.setIfInBounds_toArray, List.set_cons_zero, List.set_cons_succ, List.getElem_toArray, List.getElem_cons_succ, List.getElem_cons_zero]
      refine wpAnyH_take (i := 17) (v := ?vv17) rfl (by kernel_rfl) (by kernel_rfl) (by kernel_rfl) (fun _ _ _ h => h) (Or.inl ⟨by rfl, ?hy17⟩) (by assumption) ?rest17
      case hy17 => ((intro w hSw; (try dsimp only at hSw); go_simp) <;> with_reducible rfl)
      try simp only [Act.put, List.setIfInBounds_toArray, List.set_cons_zero, List.set_cons_succ, List.getElem_toArray, List.getElem_cons_succ, List.getElem_cons_zero]
      refine wpAnyH_take (i := 18) (v := ?vv18) rfl (by kernel_rfl) (by kernel_rfl) (by kernel_rfl) (fun _ _ _ h => h) (Or.inl ⟨by rfl, ?hy18⟩) (by assumption) ?rest18
      case hy18 => ((intro w hSw; (try dsimp only at hSw); go_simp) <;> with_reducible rfl)
      try simp only [Act.put, List.setIfInBounds_toArray, List.set_cons_zero, List.set_cons_succ, List.getElem_toArray, List.getElem_cons_succ, List.getElem_cons_zero]
      refine wpAnyH_take (i := 19) (v := ?vv19) rfl (by kernel_rfl) (by kernel_rfl) (by kernel_rfl) (fun _ _ _ h => h) (Or.inl ⟨by rfl, ?hy19⟩) (by assumption) ?rest19
      case hy19 => ((intro w hSw; (try dsimp only at hSw); go_simp) <;> with_reducible rfl)
      try simp only [Act.put, List.setIfInBounds_toArray, List.set_cons_zero, List.set_cons_succ, List.getElem_toArray, List.getElem_cons_succ, List.getElem_cons_zero]
      refine wpAnyH_take (i := 20) (v := ?vv20) rfl (by kernel_rfl) (by kernel_rfl) (by kernel_rfl) (fun _ _ _ h => h) (Or.inl ⟨by rfl, ?hy20⟩) (by assumption) ?rest20
      case hy20 => ((intro w hSw; (try dsimp only at hSw); go_simp) <;> with_reducible rfl)
      try simp only [Act.put, List.setIfInBounds_toArray, List.set_cons_zero, List.set_cons_succ, List.getElem_toArray, List.getElem_cons_succ, List.getElem_cons_zero]
      refine wpAnyH_take (i := 21) (v := ?vv21) rfl (by kernel_rfl) (by kernel_rfl) (by kernel_rfl) (fun _ _ _ h => h) (Or.inl ⟨by rfl, ?hy21⟩) (by assumption) ?rest21
      case hy21 => ((intro w hSw; (try dsimp only at hSw); go_simp) <;> with_reducible rfl)
      try simp only [Act.put, List.setIfInBounds_toArray, List.set_cons_zero, List.set_cons_succ, List.getElem_toArray, List.getElem_cons_succ, List.getElem_cons_zero]
      have HS0 := Lib.hid hHeld
      refine wpAnyH_ready (rs := [8]) (by kernel_rfl) (by simp) ?_
      refine AllReadyH.cons rfl (fun K hK => ?_) AllReadyH.nil
      go_simp
      refine hK.out _ _ HS0.out (fun hHeld => ?_)
      clear hK K
      try simp only [Act.put, List.setIfInBounds_toArray, List.set_cons_zero, List.set_cons_succ, List.getElem_toArray, List.getElem_cons_succ, List.getElem_cons_zero]
      refine wpAnyH_ready (rs := [14]) (by kernel_rfl) (by simp) ?_
      refine AllReadyH.cons rfl (fun K hK => ?_) AllReadyH.nil
      go_simp
      go_at_call 61
      refine (HSP.out wr.drew HA0).mono ?_
      rintro e w2 ⟨A2, cap2, L, d, rfl, hfr, hown2, hb2⟩
      have HB2 : Hid (Below wr.heap.size wr w2) := Lib.hid ((Below.refl _ wr).drew.trans hb2)
      have HA2 : Hid (Below wr.heap.size wr w2 ∨ ∃ w0 u, w2 = World.setCell w0 ⟨F, 1, none⟩ u ∧ Below wr.heap.size wr w0) := Lib.hid (.inl HB2.out)
      have HFR := Lib.hid hfr
      have HO2 := Lib.hid hown2
      clear hfr hown2 hb2
      go_wp2_with fail
      refine hK.out _ _ (HS.out _ HA2) (fun hHeld => ?_)
      clear hK K
      try simp only [Act.put, List.setIfInBounds_toArray, List.set_cons_zero, List.set_cons_succ, List.getElem_toArray, List.getElem_cons_succ, List.getElem_cons_zero]
      refine wpAnyH_ready (rs := [22]) (by kernel_rfl) (by simp) ?_
      refine AllReadyH.cons rfl (fun K hK => ?_) AllReadyH.nil
      go_simp
      go_at_call 62
      refine (Go_any p HOK.out (fun st hst => op_x0 HP.out st hst) _ A2 cap2 L d (front_lt HP.out HFR.out).2 (front_lt HP.out HFR.out).1 t[k].toNat hbyte w2 (HR.out _ HA2.out).1 (Rd.of_own HO2.out)).mono ?_
      rintro e w3 ⟨A3, cap3, rfl, hown3, hb3⟩
      have HB3 : Hid (Below wr.heap.size wr w3) := Lib.hid (HB2.out.trans (hb3.mono HB2.out.size))
      have HA3 : Hid (Below wr.heap.size wr w3 ∨ ∃ w0 u, w3 = World.setCell w0 ⟨F, 1, none⟩ u ∧ Below wr.heap.size wr w0) := Lib.hid (.inl HB3.out)
      have hk3 := HE1.out.below HB3.out
      have k1 : w3.cell? ⟨F, 1, none⟩ = some (.slice A1 fs1.length ca1) := hk3.bx.cell 1
      have z1 := hk3.bx.frozen 1
      have HO3 := Lib.hid hown3
      clear hown3 hb3 hk3
      go_wp2_with fail
      refine hK.out _ _ (HS.out _ HA3) (fun hHeld => ?_)
      clear hK K
      try simp only [Act.put, List.setIfInBounds_toArray, List.set_cons_zero, List.set_cons_succ, List.getElem_toArray, List.getElem_cons_succ, List.getElem_cons_zero]
      refine wpAnyH_take (i := 23) (v := ?vv23) rfl (by kernel_rfl) (by kernel_rfl) (by kernel_rfl) (fun _ _ _ h => h) (Or.inl ⟨by rfl, ?hy23⟩) (by assumption) ?rest23
      case hy23 => ((intro w hSw; (try dsimp only at hSw); go_simp) <;> with_reducible rfl)
      try simp only [Act.put, List.setIfInBounds_toArray, List.set_cons_zero, List.set_cons_succ, List.getElem_toArray, List.getElem_cons_succ, List.getElem_cons_zero]
      refine wpAnyH_take (i := 24) (v := ?vv24) rfl (by kernel_rfl) (by kernel_rfl) (by kernel_rfl) (fun _ _ _ h => h) (Or.inl ⟨by rfl, ?hy24⟩) (by assumption) ?rest24
      case hy24 => ((intro w hSw; (try dsimp only at hSw); go_simp) <;> with_reducible rfl)
      try simp only [Act.put, List.setIfInBounds_toArray, List.set_cons_zero, List.set_cons_succ, List.getElem_toArray, List.getElem_cons_succ, List.getElem_cons_zero]
      refine wpAnyH_ready (rs := [25]) (by kernel_rfl) (by simp) ?_
      refine AllReadyH.cons rfl (fun K hK => ?_) AllReadyH.nil
      go_simp
      refine hK.out _ _ (HS.out _ (Lib.hid (.inr ⟨_, _, rfl, HB3.out⟩))) (fun hHeld => ?_)
      clear hK K
      refine wpAnyH_done (by kernel_rfl) ?_ _
      all_goals (
        have hk3 := HE1.out.below HB3.out
        have e2 : w3.cell? ⟨F, 2, none⟩ = some (.int .i64 (s1.length : Int)) := hk3.bx.cell 2
        have f2 := hk3.bx.frozen 2
        have hnx := HE1.out.fed.byte HP.out (b := t[k]) (by have := HFR.out; rw [show ((s1.length : Int) == 0) = (s1.length == 0) from int_beq s1.length 0] at this; exact this)
        have hsx : s1 ++ [t[k]] = s ++ t.data.toList.take (k + 1) := by rw [HS1.out, take_snoc HGK.out, List.append_assoc]
        rw [hsx] at hnx
        have hno : ∀ a, A3 = some a → a.block ∉ Fs := fun a ha hq => by
          have h1 := HFS.out _ hq
          have h2 := (HO3.out.lt a.block (by rw [ha]; rfl)).1
          have h3 := HB2.out.size
          have h4 := HG.out.size
          omega
        have henv := hk3.put (Rd.of_own HO3.out) hno hnx ((s1.length : Int) + 1) (by rw [← hsx]; simp)
        have HENV := Lib.hid henv
        have HGR := Lib.hid (fd_trans HG.out (fd_trans (fd_below HB3.out (some F)) (fd_trans (fd_set w3 F 1 (.slice A3 (goL p t[k].toNat L).length cap3)) (fd_set _ F 2 (.int .i64 ((s1.length : Int) + 1))))))
        clear henv hno hnx hsx hk3
        go_wp2_with fail
        go_round
        case rel => exact ⟨k + 1, by omega, by go_num, Lib.hid ⟨_, _, _, HENV.out⟩, HGR⟩
        case measure => simp [intOf]; omega)
    · obtain rfl : k = t.size := by omega
      have hfin : t.data.toList.take t.size = t.data.toList := by rw [← HTL.out, List.take_length]
      have HFIN := Lib.hid hfin
      clear hfin
      go_wp2_with fail
      go_ret
      refine ⟨rfl, ?_, HG.out⟩
      have := HE.out
      rw [HFIN.out] at this
      exact this

end Go.Proofs.Ythcahjnniendnaa
