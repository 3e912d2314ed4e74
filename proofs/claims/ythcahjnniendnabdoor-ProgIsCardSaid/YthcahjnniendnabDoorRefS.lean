/-
  The walk of the document's StepsFault.
-/
import Derived.Test.YthcahjnniendnabDoorGRef
import Derived.Test.YthcahjnniendnabDoorGStep
namespace Go.Proofs.YthcahjnniendnabDoor
open Go.RowKit Wf

def RSFaultIs (l : List St) (w : World) (e : Ending) (w' : World) : Prop := e = .returned (.int .i64 (chkP l)) ∧ Below w.heap.size w w'
theorem cntR_zc : cntR zc 256 = 0 := by
  have h := cntR_pos zc okC_zc
  have h2 : ¬ (0 < cntR zc 256) := fun hh => h.1 hh rfl
  omega

set_option maxRecDepth 100000 in
set_option maxHeartbeats 16000000 in
theorem RSFault_any (l : List St) (v : Value) (w : World) (hr : RdS w v l) (hlen : l.length ≤ 9223372036854775807) (hok : ∀ s ∈ l, okC s.cls) : Calls Tryd.prog 41 #[v] w (RSFaultIs l w) := by
  obtain ⟨A, cap, rfl, hcap, hcap2, hmem⟩ := hr.open_
  have HM := Lib.hid hmem
  have HOK := Lib.hid hok
  clear hmem hr hok
  unfold RSFaultIs
  by_cases hbig : 200 < l.length
  · have hc : chkP l = 3 := by unfold chkP; rw [if_pos hbig]
    have d1 : decide ((200 : Int) < (l.length : Int)) = true := by simp; omega
    have d2 : decide (200 < l.length) = true := by simp; omega
    rw [hc]
    go_enter Tryd.func41, Tryd.ntmps41
    go_wp2
    go_ret
    exact ⟨rfl, Below.refl _ _⟩
  · have d1 : decide ((200 : Int) < (l.length : Int)) = false := by simp; omega
    have d2 : decide (200 < l.length) = false := by simp; omega
    by_cases h0 : l.length = 0
    · have hc : chkP l = 4 := by unfold chkP; rw [if_neg hbig, if_pos h0]
      rw [hc]
      have d3 : ((l.length : Int) == 0) = true := beq_iff_eq.2 (by omega)
      clear h0
      go_enter Tryd.func41, Tryd.ntmps41
      go_wp2
      go_ret
      exact ⟨rfl, Below.refl _ _⟩
    · have hc : chkP l = chkPL l.length l := by unfold chkP; rw [if_neg hbig, if_neg h0]
      rw [hc]
      have d3 : ((l.length : Int) == 0) = false := beq_eq_false_iff_ne.2 (by omega)
      obtain ⟨b, off, rfl, hbl, hcells⟩ := HM.out (by omega)
      have HC := Lib.hid hcells
      clear h0 hcells hc HM
      go_enter Tryd.func41, Tryd.ntmps41
      go_wp2
      go_loopw [3] (fun v3 wr => ∃ k : Nat, k ≤ l.length ∧ v3 = .int .i64 (k : Int) ∧ Hid (chkPL l.length l = chkPL l.length (l.drop k)) ∧ Hid (Below w.heap.size w wr)) (fun i _ => l.length - (intOf i).toNat)
      case atStart => exact ⟨0, by omega, rfl, Lib.hid (by rw [List.drop_zero]), Lib.hid (Below.refl _ _)⟩
      case round =>
        obtain ⟨k, hk, rfl, HD, HB⟩ := hrel
        by_cases hlt : k < l.length
        · have hs : l[k]? = some (l[k]'hlt) := List.getElem?_eq_getElem hlt
          generalize l[k]'hlt = s at hs
          obtain ⟨q0, q1, q2, q3, q4, q5, q6⟩ := HC.out wr (fun o => HB.out.cell (p := ⟨b, o, none⟩) hbl) k s hs
          have hat := chkPL_at (many := l.length) hs
          have hcok := HOK.out s (List.mem_of_getElem? hs)
          obtain ⟨op, ⟨c0, c1, c2, c3⟩, x, y⟩ := s
          dsimp only at q0 q1 q2 q3 q4 q5 q6 hcok
          have HAT := Lib.hid hat
          have HCN := Lib.hid (fun W => RCount_any c0 c1 c2 c3 W hcok)
          unfold RCountIs at HCN
          have HPOS := Lib.hid (cntR_pos (c0, c1, c2, c3) hcok)
          have hk1 : (k : Int) < (l.length : Int) := by omega
          have HB2 : Hid (∀ o, Below w.heap.size w (wr.alloc o)) := Lib.hid fun o => HB.out.alloc HB.out.size _
          clear hs hat hcok
          have hop : op < 1 ∨ 5 < op ∨ op = 1 ∨ op = 2 ∨ op = 3 ∨ op = 4 ∨ op = 5 := by omega
          rcases hop with h | h | rfl | rfl | rfl | rfl | rfl
          · have d4 : decide (op < 1) = true := by simpa using h
            have HN : Hid (chkPL l.length l = 1) := Lib.hid (by rw [HD.out, HAT.out]; have ho : oneP ⟨op, (c0, c1, c2, c3), x, y⟩ l.length = 1 := (by unfold oneP; simp; omega); rw [ho]; simp)
            clear HAT HPOS h
            go_wp2_with fail
            go_ret
            exact ⟨by rw [HN.out]; rfl, (Lib.hid (HB2.out _)).out⟩
          · have d4 : decide (op < 1) = false := by simp; omega
            have d5 : decide (5 < op) = true := by simpa using h
            have HN : Hid (chkPL l.length l = 1) := Lib.hid (by rw [HD.out, HAT.out]; have ho : oneP ⟨op, (c0, c1, c2, c3), x, y⟩ l.length = 1 := (by unfold oneP; simp; omega); rw [ho]; simp)
            clear HAT HPOS h
            go_wp2_with fail
            go_ret
            exact ⟨by rw [HN.out]; rfl, (Lib.hid (HB2.out _)).out⟩
          · skip
            by_cases hxa : x < 0
            · have dxa : decide (x < 0) = true := by simpa using hxa
              have HN : Hid (chkPL l.length l = 1) := Lib.hid (by rw [HD.out, HAT.out]; have ho : oneP ⟨1, (c0, c1, c2, c3), x, y⟩ l.length = 1 := (by unfold oneP; simp [show ¬ (0 ≤ x) by omega]); rw [ho]; simp)
              clear HAT HPOS hxa 
              go_wp2_with fail
              go_ret
              exact ⟨by rw [HN.out]; rfl, (Lib.hid (HB2.out _)).out⟩
            · have dxa : decide (x < 0) = false := by simp; omega
              by_cases hxb : (l.length : Int) ≤ x
              · have dxb : decide ((l.length : Int) ≤ x) = true := by simpa using hxb
                have HN : Hid (chkPL l.length l = 1) := Lib.hid (by rw [HD.out, HAT.out]; have ho : oneP ⟨1, (c0, c1, c2, c3), x, y⟩ l.length = 1 := (by unfold oneP; simp [show ¬ (x < (l.length : Int)) by omega]); rw [ho]; simp)
                clear HAT HPOS hxa hxb 
                go_wp2_with fail
                go_ret
                exact ⟨by rw [HN.out]; rfl, (Lib.hid (HB2.out _)).out⟩
              · have dxb : decide ((l.length : Int) ≤ x) = false := by simp; omega
                by_cases hy : y = 0
                · subst hy
                  have HN : Hid (chkPL l.length l = chkPL l.length (l.drop (k + 1))) := Lib.hid (by rw [HD.out, HAT.out]; have ho : oneP ⟨1, (c0, c1, c2, c3), x, 0⟩ l.length = 0 := (by unfold oneP; simp [show 0 ≤ x by omega, show x < (l.length : Int) by omega]); rw [ho]; simp)
                  clear HAT HPOS hxa hxb 
                  go_wp2_with fail
                  go_roundw
                  case rel => exact ⟨k + 1, by omega, by go_num, HN, (Lib.hid (HB2.out _))⟩
                  case measure => simp [intOf]; omega
                · have dy : (y != 0) = true := by simpa using hy
                  have HN : Hid (chkPL l.length l = 2) := Lib.hid (by rw [HD.out, HAT.out]; have ho : oneP ⟨1, (c0, c1, c2, c3), x, y⟩ l.length = 2 := (by unfold oneP; simp [hy, show 0 ≤ x by omega, show x < (l.length : Int) by omega]); rw [ho]; simp)
                  clear HAT HPOS hy hxa hxb 
                  go_wp2_with fail
                  go_ret
                  exact ⟨by rw [HN.out]; rfl, (Lib.hid (HB2.out _)).out⟩
          · skip
            by_cases hxa : x < 0
            · have dxa : decide (x < 0) = true := by simpa using hxa
              have HN : Hid (chkPL l.length l = 1) := Lib.hid (by rw [HD.out, HAT.out]; have ho : oneP ⟨2, (c0, c1, c2, c3), x, y⟩ l.length = 1 := (by unfold oneP; simp [show ¬ (0 ≤ x) by omega]); rw [ho]; simp)
              clear HAT HPOS hxa 
              go_wp2_with fail
              go_ret
              exact ⟨by rw [HN.out]; rfl, (Lib.hid (HB2.out _)).out⟩
            · have dxa : decide (x < 0) = false := by simp; omega
              by_cases hxb : (l.length : Int) ≤ x
              · have dxb : decide ((l.length : Int) ≤ x) = true := by simpa using hxb
                have HN : Hid (chkPL l.length l = 1) := Lib.hid (by rw [HD.out, HAT.out]; have ho : oneP ⟨2, (c0, c1, c2, c3), x, y⟩ l.length = 1 := (by unfold oneP; simp [show ¬ (x < (l.length : Int)) by omega]); rw [ho]; simp)
                clear HAT HPOS hxa hxb 
                go_wp2_with fail
                go_ret
                exact ⟨by rw [HN.out]; rfl, (Lib.hid (HB2.out _)).out⟩
              · have dxb : decide ((l.length : Int) ≤ x) = false := by simp; omega
                by_cases hya : y < 0
                · have dya : decide (y < 0) = true := by simpa using hya
                  have HN : Hid (chkPL l.length l = 1) := Lib.hid (by rw [HD.out, HAT.out]; have ho : oneP ⟨2, (c0, c1, c2, c3), x, y⟩ l.length = 1 := (by unfold oneP; simp [show ¬ (0 ≤ y) by omega, show 0 ≤ x by omega, show x < (l.length : Int) by omega]); rw [ho]; simp)
                  clear HAT HPOS hya hxa hxb 
                  go_wp2_with fail
                  go_ret
                  exact ⟨by rw [HN.out]; rfl, (Lib.hid (HB2.out _)).out⟩
                · have dya : decide (y < 0) = false := by simp; omega
                  by_cases hyb : (l.length : Int) ≤ y
                  · have dyb : decide ((l.length : Int) ≤ y) = true := by simpa using hyb
                    have HN : Hid (chkPL l.length l = 1) := Lib.hid (by rw [HD.out, HAT.out]; have ho : oneP ⟨2, (c0, c1, c2, c3), x, y⟩ l.length = 1 := (by unfold oneP; simp [show ¬ (y < (l.length : Int)) by omega, show 0 ≤ x by omega, show x < (l.length : Int) by omega]); rw [ho]; simp)
                    clear HAT HPOS hya hyb hxa hxb 
                    go_wp2_with fail
                    go_ret
                    exact ⟨by rw [HN.out]; rfl, (Lib.hid (HB2.out _)).out⟩
                  · have dyb : decide ((l.length : Int) ≤ y) = false := by simp; omega
                    by_cases hC : (c0, c1, c2, c3) = zc
                    · rw [hC, cntR_zc, show ((0 : Nat) : Int) = 0 from rfl] at HCN
                      have HN : Hid (chkPL l.length l = chkPL l.length (l.drop (k + 1))) := Lib.hid (by rw [HD.out, HAT.out]; have ho : oneP ⟨2, (c0, c1, c2, c3), x, y⟩ l.length = 0 := (by unfold oneP; simp [hC, show 0 ≤ y by omega, show y < (l.length : Int) by omega, show 0 ≤ x by omega, show x < (l.length : Int) by omega]); rw [ho]; simp)
                      clear HAT HPOS hC hya hyb hxa hxb 
                      go_wp2_with (go_at_call 32; refine (HCN.out _).mono ?_; rintro e w1 ⟨rfl, hb1⟩; have HB1 := Lib.hid ((HB2.out _).trans (hb1.mono (HB2.out _).size)); have hbk : Blk w1 wr.heap.size 77 #[.int .i64 2, .int .u64 (c0 : Int), .int .u64 (c1 : Int), .int .u64 (c2 : Int), .int .u64 (c3 : Int), .int .i64 x, .int .i64 y] := (Blk.new wr 77 #[.int .i64 2, .int .u64 (c0 : Int), .int .u64 (c1 : Int), .int .u64 (c2 : Int), .int .u64 (c3 : Int), .int .i64 x, .int .i64 y]).kept hb1; have k0 : w1.cell? ⟨wr.heap.size, 0, none⟩ = some (.int .i64 2) := hbk.cell 0; have k5 : w1.cell? ⟨wr.heap.size, 5, none⟩ = some (.int .i64 x) := hbk.cell 5; have k6 : w1.cell? ⟨wr.heap.size, 6, none⟩ = some (.int .i64 y) := hbk.cell 6; clear hb1 hbk)
                      go_roundw
                      case rel => exact ⟨k + 1, by omega, by go_num, HN, HB1⟩
                      case measure => simp [intOf]; omega
                    · have hm := HPOS.out.2 hC
                      generalize cntR (c0, c1, c2, c3) 256 = m at *
                      have dm : decide ((0 : Int) < (m : Int)) = true := by simp; omega
                      have dn : decide (0 < m) = true := by simp; omega
                      have HN : Hid (chkPL l.length l = 2) := Lib.hid (by rw [HD.out, HAT.out]; have ho : oneP ⟨2, (c0, c1, c2, c3), x, y⟩ l.length = 2 := (by unfold oneP; simp [hC, show 0 ≤ y by omega, show y < (l.length : Int) by omega, show 0 ≤ x by omega, show x < (l.length : Int) by omega]); rw [ho]; simp)
                      clear HAT HPOS hC hm hya hyb hxa hxb 
                      go_wp2_with (go_at_call 32; refine (HCN.out _).mono ?_; rintro e w1 ⟨rfl, hb1⟩; have HB1 := Lib.hid ((HB2.out _).trans (hb1.mono (HB2.out _).size)); have hbk : Blk w1 wr.heap.size 77 #[.int .i64 2, .int .u64 (c0 : Int), .int .u64 (c1 : Int), .int .u64 (c2 : Int), .int .u64 (c3 : Int), .int .i64 x, .int .i64 y] := (Blk.new wr 77 #[.int .i64 2, .int .u64 (c0 : Int), .int .u64 (c1 : Int), .int .u64 (c2 : Int), .int .u64 (c3 : Int), .int .i64 x, .int .i64 y]).kept hb1; have k0 : w1.cell? ⟨wr.heap.size, 0, none⟩ = some (.int .i64 2) := hbk.cell 0; have k5 : w1.cell? ⟨wr.heap.size, 5, none⟩ = some (.int .i64 x) := hbk.cell 5; have k6 : w1.cell? ⟨wr.heap.size, 6, none⟩ = some (.int .i64 y) := hbk.cell 6; clear hb1 hbk)
                      go_ret
                      exact ⟨by rw [HN.out]; rfl, HB1.out⟩
          · skip
            by_cases hxa : x < 0
            · have dxa : decide (x < 0) = true := by simpa using hxa
              have HN : Hid (chkPL l.length l = 1) := Lib.hid (by rw [HD.out, HAT.out]; have ho : oneP ⟨3, (c0, c1, c2, c3), x, y⟩ l.length = 1 := (by unfold oneP; simp [show ¬ (0 ≤ x) by omega]); rw [ho]; simp)
              clear HAT HPOS hxa 
              go_wp2_with fail
              go_ret
              exact ⟨by rw [HN.out]; rfl, (Lib.hid (HB2.out _)).out⟩
            · have dxa : decide (x < 0) = false := by simp; omega
              by_cases hxb : (l.length : Int) ≤ x
              · have dxb : decide ((l.length : Int) ≤ x) = true := by simpa using hxb
                have HN : Hid (chkPL l.length l = 1) := Lib.hid (by rw [HD.out, HAT.out]; have ho : oneP ⟨3, (c0, c1, c2, c3), x, y⟩ l.length = 1 := (by unfold oneP; simp [show ¬ (x < (l.length : Int)) by omega]); rw [ho]; simp)
                clear HAT HPOS hxa hxb 
                go_wp2_with fail
                go_ret
                exact ⟨by rw [HN.out]; rfl, (Lib.hid (HB2.out _)).out⟩
              · have dxb : decide ((l.length : Int) ≤ x) = false := by simp; omega
                by_cases hC : (c0, c1, c2, c3) = zc
                · rw [hC, cntR_zc, show ((0 : Nat) : Int) = 0 from rfl] at HCN
                  by_cases hy : y = 0
                  · subst hy
                    have HN : Hid (chkPL l.length l = chkPL l.length (l.drop (k + 1))) := Lib.hid (by rw [HD.out, HAT.out]; have ho : oneP ⟨3, (c0, c1, c2, c3), x, 0⟩ l.length = 0 := (by unfold oneP; simp [hC, show 0 ≤ x by omega, show x < (l.length : Int) by omega]); rw [ho]; simp)
                    clear HAT HPOS hC hxa hxb 
                    go_wp2_with (go_at_call 32; refine (HCN.out _).mono ?_; rintro e w1 ⟨rfl, hb1⟩; have HB1 := Lib.hid ((HB2.out _).trans (hb1.mono (HB2.out _).size)); have hbk : Blk w1 wr.heap.size 77 #[.int .i64 3, .int .u64 (c0 : Int), .int .u64 (c1 : Int), .int .u64 (c2 : Int), .int .u64 (c3 : Int), .int .i64 x, .int .i64 0] := (Blk.new wr 77 #[.int .i64 3, .int .u64 (c0 : Int), .int .u64 (c1 : Int), .int .u64 (c2 : Int), .int .u64 (c3 : Int), .int .i64 x, .int .i64 0]).kept hb1; have k0 : w1.cell? ⟨wr.heap.size, 0, none⟩ = some (.int .i64 3) := hbk.cell 0; have k5 : w1.cell? ⟨wr.heap.size, 5, none⟩ = some (.int .i64 x) := hbk.cell 5; have k6 : w1.cell? ⟨wr.heap.size, 6, none⟩ = some (.int .i64 0) := hbk.cell 6; clear hb1 hbk)
                    go_roundw
                    case rel => exact ⟨k + 1, by omega, by go_num, HN, HB1⟩
                    case measure => simp [intOf]; omega
                  · have dy : (y != 0) = true := by simpa using hy
                    have HN : Hid (chkPL l.length l = 2) := Lib.hid (by rw [HD.out, HAT.out]; have ho : oneP ⟨3, (c0, c1, c2, c3), x, y⟩ l.length = 2 := (by unfold oneP; simp [hy, hC, show 0 ≤ x by omega, show x < (l.length : Int) by omega]); rw [ho]; simp)
                    clear HAT HPOS hy hC hxa hxb 
                    go_wp2_with (go_at_call 32; refine (HCN.out _).mono ?_; rintro e w1 ⟨rfl, hb1⟩; have HB1 := Lib.hid ((HB2.out _).trans (hb1.mono (HB2.out _).size)); have hbk : Blk w1 wr.heap.size 77 #[.int .i64 3, .int .u64 (c0 : Int), .int .u64 (c1 : Int), .int .u64 (c2 : Int), .int .u64 (c3 : Int), .int .i64 x, .int .i64 y] := (Blk.new wr 77 #[.int .i64 3, .int .u64 (c0 : Int), .int .u64 (c1 : Int), .int .u64 (c2 : Int), .int .u64 (c3 : Int), .int .i64 x, .int .i64 y]).kept hb1; have k0 : w1.cell? ⟨wr.heap.size, 0, none⟩ = some (.int .i64 3) := hbk.cell 0; have k5 : w1.cell? ⟨wr.heap.size, 5, none⟩ = some (.int .i64 x) := hbk.cell 5; have k6 : w1.cell? ⟨wr.heap.size, 6, none⟩ = some (.int .i64 y) := hbk.cell 6; clear hb1 hbk)
                    go_ret
                    exact ⟨by rw [HN.out]; rfl, HB1.out⟩
                · have hm := HPOS.out.2 hC
                  generalize cntR (c0, c1, c2, c3) 256 = m at *
                  have dm : decide ((0 : Int) < (m : Int)) = true := by simp; omega
                  have dn : decide (0 < m) = true := by simp; omega
                  have HN : Hid (chkPL l.length l = 2) := Lib.hid (by rw [HD.out, HAT.out]; have ho : oneP ⟨3, (c0, c1, c2, c3), x, y⟩ l.length = 2 := (by unfold oneP; simp [hC, show 0 ≤ x by omega, show x < (l.length : Int) by omega]); rw [ho]; simp)
                  clear HAT HPOS hC hm hxa hxb 
                  go_wp2_with (go_at_call 32; refine (HCN.out _).mono ?_; rintro e w1 ⟨rfl, hb1⟩; have HB1 := Lib.hid ((HB2.out _).trans (hb1.mono (HB2.out _).size)); have hbk : Blk w1 wr.heap.size 77 #[.int .i64 3, .int .u64 (c0 : Int), .int .u64 (c1 : Int), .int .u64 (c2 : Int), .int .u64 (c3 : Int), .int .i64 x, .int .i64 y] := (Blk.new wr 77 #[.int .i64 3, .int .u64 (c0 : Int), .int .u64 (c1 : Int), .int .u64 (c2 : Int), .int .u64 (c3 : Int), .int .i64 x, .int .i64 y]).kept hb1; have k0 : w1.cell? ⟨wr.heap.size, 0, none⟩ = some (.int .i64 3) := hbk.cell 0; have k5 : w1.cell? ⟨wr.heap.size, 5, none⟩ = some (.int .i64 x) := hbk.cell 5; have k6 : w1.cell? ⟨wr.heap.size, 6, none⟩ = some (.int .i64 y) := hbk.cell 6; clear hb1 hbk)
                  go_ret
                  exact ⟨by rw [HN.out]; rfl, HB1.out⟩
          · skip
            by_cases hxa : x < 0
            · have dxa : decide (x < 0) = true := by simpa using hxa
              have HN : Hid (chkPL l.length l = 1) := Lib.hid (by rw [HD.out, HAT.out]; have ho : oneP ⟨4, (c0, c1, c2, c3), x, y⟩ l.length = 1 := (by unfold oneP; simp [show ¬ (0 ≤ x) by omega]); rw [ho]; simp)
              clear HAT HPOS hxa 
              go_wp2_with fail
              go_ret
              exact ⟨by rw [HN.out]; rfl, (Lib.hid (HB2.out _)).out⟩
            · have dxa : decide (x < 0) = false := by simp; omega
              by_cases hxb : (l.length : Int) ≤ x
              · have dxb : decide ((l.length : Int) ≤ x) = true := by simpa using hxb
                have HN : Hid (chkPL l.length l = 1) := Lib.hid (by rw [HD.out, HAT.out]; have ho : oneP ⟨4, (c0, c1, c2, c3), x, y⟩ l.length = 1 := (by unfold oneP; simp [show ¬ (x < (l.length : Int)) by omega]); rw [ho]; simp)
                clear HAT HPOS hxa hxb 
                go_wp2_with fail
                go_ret
                exact ⟨by rw [HN.out]; rfl, (Lib.hid (HB2.out _)).out⟩
              · have dxb : decide ((l.length : Int) ≤ x) = false := by simp; omega
                by_cases hC : (c0, c1, c2, c3) = zc
                · rw [hC, cntR_zc, show ((0 : Nat) : Int) = 0 from rfl] at HCN
                  by_cases hy : y = 0
                  · subst hy
                    have HN : Hid (chkPL l.length l = chkPL l.length (l.drop (k + 1))) := Lib.hid (by rw [HD.out, HAT.out]; have ho : oneP ⟨4, (c0, c1, c2, c3), x, 0⟩ l.length = 0 := (by unfold oneP; simp [hC, show 0 ≤ x by omega, show x < (l.length : Int) by omega]); rw [ho]; simp)
                    clear HAT HPOS hC hxa hxb 
                    go_wp2_with (go_at_call 32; refine (HCN.out _).mono ?_; rintro e w1 ⟨rfl, hb1⟩; have HB1 := Lib.hid ((HB2.out _).trans (hb1.mono (HB2.out _).size)); have hbk : Blk w1 wr.heap.size 77 #[.int .i64 4, .int .u64 (c0 : Int), .int .u64 (c1 : Int), .int .u64 (c2 : Int), .int .u64 (c3 : Int), .int .i64 x, .int .i64 0] := (Blk.new wr 77 #[.int .i64 4, .int .u64 (c0 : Int), .int .u64 (c1 : Int), .int .u64 (c2 : Int), .int .u64 (c3 : Int), .int .i64 x, .int .i64 0]).kept hb1; have k0 : w1.cell? ⟨wr.heap.size, 0, none⟩ = some (.int .i64 4) := hbk.cell 0; have k5 : w1.cell? ⟨wr.heap.size, 5, none⟩ = some (.int .i64 x) := hbk.cell 5; have k6 : w1.cell? ⟨wr.heap.size, 6, none⟩ = some (.int .i64 0) := hbk.cell 6; clear hb1 hbk)
                    go_roundw
                    case rel => exact ⟨k + 1, by omega, by go_num, HN, HB1⟩
                    case measure => simp [intOf]; omega
                  · have dy : (y != 0) = true := by simpa using hy
                    have HN : Hid (chkPL l.length l = 2) := Lib.hid (by rw [HD.out, HAT.out]; have ho : oneP ⟨4, (c0, c1, c2, c3), x, y⟩ l.length = 2 := (by unfold oneP; simp [hy, hC, show 0 ≤ x by omega, show x < (l.length : Int) by omega]); rw [ho]; simp)
                    clear HAT HPOS hy hC hxa hxb 
                    go_wp2_with (go_at_call 32; refine (HCN.out _).mono ?_; rintro e w1 ⟨rfl, hb1⟩; have HB1 := Lib.hid ((HB2.out _).trans (hb1.mono (HB2.out _).size)); have hbk : Blk w1 wr.heap.size 77 #[.int .i64 4, .int .u64 (c0 : Int), .int .u64 (c1 : Int), .int .u64 (c2 : Int), .int .u64 (c3 : Int), .int .i64 x, .int .i64 y] := (Blk.new wr 77 #[.int .i64 4, .int .u64 (c0 : Int), .int .u64 (c1 : Int), .int .u64 (c2 : Int), .int .u64 (c3 : Int), .int .i64 x, .int .i64 y]).kept hb1; have k0 : w1.cell? ⟨wr.heap.size, 0, none⟩ = some (.int .i64 4) := hbk.cell 0; have k5 : w1.cell? ⟨wr.heap.size, 5, none⟩ = some (.int .i64 x) := hbk.cell 5; have k6 : w1.cell? ⟨wr.heap.size, 6, none⟩ = some (.int .i64 y) := hbk.cell 6; clear hb1 hbk)
                    go_ret
                    exact ⟨by rw [HN.out]; rfl, HB1.out⟩
                · have hm := HPOS.out.2 hC
                  generalize cntR (c0, c1, c2, c3) 256 = m at *
                  have dm : decide ((0 : Int) < (m : Int)) = true := by simp; omega
                  have dn : decide (0 < m) = true := by simp; omega
                  have HN : Hid (chkPL l.length l = 2) := Lib.hid (by rw [HD.out, HAT.out]; have ho : oneP ⟨4, (c0, c1, c2, c3), x, y⟩ l.length = 2 := (by unfold oneP; simp [hC, show 0 ≤ x by omega, show x < (l.length : Int) by omega]); rw [ho]; simp)
                  clear HAT HPOS hC hm hxa hxb 
                  go_wp2_with (go_at_call 32; refine (HCN.out _).mono ?_; rintro e w1 ⟨rfl, hb1⟩; have HB1 := Lib.hid ((HB2.out _).trans (hb1.mono (HB2.out _).size)); have hbk : Blk w1 wr.heap.size 77 #[.int .i64 4, .int .u64 (c0 : Int), .int .u64 (c1 : Int), .int .u64 (c2 : Int), .int .u64 (c3 : Int), .int .i64 x, .int .i64 y] := (Blk.new wr 77 #[.int .i64 4, .int .u64 (c0 : Int), .int .u64 (c1 : Int), .int .u64 (c2 : Int), .int .u64 (c3 : Int), .int .i64 x, .int .i64 y]).kept hb1; have k0 : w1.cell? ⟨wr.heap.size, 0, none⟩ = some (.int .i64 4) := hbk.cell 0; have k5 : w1.cell? ⟨wr.heap.size, 5, none⟩ = some (.int .i64 x) := hbk.cell 5; have k6 : w1.cell? ⟨wr.heap.size, 6, none⟩ = some (.int .i64 y) := hbk.cell 6; clear hb1 hbk)
                  go_ret
                  exact ⟨by rw [HN.out]; rfl, HB1.out⟩
          · skip
            by_cases hC : (c0, c1, c2, c3) = zc
            · rw [hC, cntR_zc, show ((0 : Nat) : Int) = 0 from rfl] at HCN
              by_cases hy : y = 0
              · subst hy
                by_cases hx : x = 0
                · subst hx
                  have HN : Hid (chkPL l.length l = chkPL l.length (l.drop (k + 1))) := Lib.hid (by rw [HD.out, HAT.out]; have ho : oneP ⟨5, (c0, c1, c2, c3), 0, 0⟩ l.length = 0 := (by unfold oneP; simp [hC]); rw [ho]; simp)
                  clear HAT HPOS hC 
                  go_wp2_with (go_at_call 32; refine (HCN.out _).mono ?_; rintro e w1 ⟨rfl, hb1⟩; have HB1 := Lib.hid ((HB2.out _).trans (hb1.mono (HB2.out _).size)); have hbk : Blk w1 wr.heap.size 77 #[.int .i64 5, .int .u64 (c0 : Int), .int .u64 (c1 : Int), .int .u64 (c2 : Int), .int .u64 (c3 : Int), .int .i64 0, .int .i64 0] := (Blk.new wr 77 #[.int .i64 5, .int .u64 (c0 : Int), .int .u64 (c1 : Int), .int .u64 (c2 : Int), .int .u64 (c3 : Int), .int .i64 0, .int .i64 0]).kept hb1; have k0 : w1.cell? ⟨wr.heap.size, 0, none⟩ = some (.int .i64 5) := hbk.cell 0; have k5 : w1.cell? ⟨wr.heap.size, 5, none⟩ = some (.int .i64 0) := hbk.cell 5; have k6 : w1.cell? ⟨wr.heap.size, 6, none⟩ = some (.int .i64 0) := hbk.cell 6; clear hb1 hbk)
                  go_roundw
                  case rel => exact ⟨k + 1, by omega, by go_num, HN, HB1⟩
                  case measure => simp [intOf]; omega
                · have dx : (x != 0) = true := by simpa using hx
                  have HN : Hid (chkPL l.length l = 2) := Lib.hid (by rw [HD.out, HAT.out]; have ho : oneP ⟨5, (c0, c1, c2, c3), x, 0⟩ l.length = 2 := (by unfold oneP; simp [hx, hC]); rw [ho]; simp)
                  clear HAT HPOS hx hC 
                  go_wp2_with (go_at_call 32; refine (HCN.out _).mono ?_; rintro e w1 ⟨rfl, hb1⟩; have HB1 := Lib.hid ((HB2.out _).trans (hb1.mono (HB2.out _).size)); have hbk : Blk w1 wr.heap.size 77 #[.int .i64 5, .int .u64 (c0 : Int), .int .u64 (c1 : Int), .int .u64 (c2 : Int), .int .u64 (c3 : Int), .int .i64 x, .int .i64 0] := (Blk.new wr 77 #[.int .i64 5, .int .u64 (c0 : Int), .int .u64 (c1 : Int), .int .u64 (c2 : Int), .int .u64 (c3 : Int), .int .i64 x, .int .i64 0]).kept hb1; have k0 : w1.cell? ⟨wr.heap.size, 0, none⟩ = some (.int .i64 5) := hbk.cell 0; have k5 : w1.cell? ⟨wr.heap.size, 5, none⟩ = some (.int .i64 x) := hbk.cell 5; have k6 : w1.cell? ⟨wr.heap.size, 6, none⟩ = some (.int .i64 0) := hbk.cell 6; clear hb1 hbk)
                  go_ret
                  exact ⟨by rw [HN.out]; rfl, HB1.out⟩
              · have dy : (y != 0) = true := by simpa using hy
                have HN : Hid (chkPL l.length l = 2) := Lib.hid (by rw [HD.out, HAT.out]; have ho : oneP ⟨5, (c0, c1, c2, c3), x, y⟩ l.length = 2 := (by unfold oneP; simp [hy, hC]); rw [ho]; simp)
                clear HAT HPOS hy hC 
                go_wp2_with (go_at_call 32; refine (HCN.out _).mono ?_; rintro e w1 ⟨rfl, hb1⟩; have HB1 := Lib.hid ((HB2.out _).trans (hb1.mono (HB2.out _).size)); have hbk : Blk w1 wr.heap.size 77 #[.int .i64 5, .int .u64 (c0 : Int), .int .u64 (c1 : Int), .int .u64 (c2 : Int), .int .u64 (c3 : Int), .int .i64 x, .int .i64 y] := (Blk.new wr 77 #[.int .i64 5, .int .u64 (c0 : Int), .int .u64 (c1 : Int), .int .u64 (c2 : Int), .int .u64 (c3 : Int), .int .i64 x, .int .i64 y]).kept hb1; have k0 : w1.cell? ⟨wr.heap.size, 0, none⟩ = some (.int .i64 5) := hbk.cell 0; have k5 : w1.cell? ⟨wr.heap.size, 5, none⟩ = some (.int .i64 x) := hbk.cell 5; have k6 : w1.cell? ⟨wr.heap.size, 6, none⟩ = some (.int .i64 y) := hbk.cell 6; clear hb1 hbk)
                go_ret
                exact ⟨by rw [HN.out]; rfl, HB1.out⟩
            · have hm := HPOS.out.2 hC
              generalize cntR (c0, c1, c2, c3) 256 = m at *
              have dm : decide ((0 : Int) < (m : Int)) = true := by simp; omega
              have dn : decide (0 < m) = true := by simp; omega
              have HN : Hid (chkPL l.length l = 2) := Lib.hid (by rw [HD.out, HAT.out]; have ho : oneP ⟨5, (c0, c1, c2, c3), x, y⟩ l.length = 2 := (by unfold oneP; simp [hC]); rw [ho]; simp)
              clear HAT HPOS hC hm 
              go_wp2_with (go_at_call 32; refine (HCN.out _).mono ?_; rintro e w1 ⟨rfl, hb1⟩; have HB1 := Lib.hid ((HB2.out _).trans (hb1.mono (HB2.out _).size)); have hbk : Blk w1 wr.heap.size 77 #[.int .i64 5, .int .u64 (c0 : Int), .int .u64 (c1 : Int), .int .u64 (c2 : Int), .int .u64 (c3 : Int), .int .i64 x, .int .i64 y] := (Blk.new wr 77 #[.int .i64 5, .int .u64 (c0 : Int), .int .u64 (c1 : Int), .int .u64 (c2 : Int), .int .u64 (c3 : Int), .int .i64 x, .int .i64 y]).kept hb1; have k0 : w1.cell? ⟨wr.heap.size, 0, none⟩ = some (.int .i64 5) := hbk.cell 0; have k5 : w1.cell? ⟨wr.heap.size, 5, none⟩ = some (.int .i64 x) := hbk.cell 5; have k6 : w1.cell? ⟨wr.heap.size, 6, none⟩ = some (.int .i64 y) := hbk.cell 6; clear hb1 hbk)
              go_ret
              exact ⟨by rw [HN.out]; rfl, HB1.out⟩
        · obtain rfl : k = l.length := by omega
          have HF : Hid (chkPL l.length l = 0) := Lib.hid (by rw [HD.out, List.drop_length]; rfl)
          have d4 : decide (l.length < l.length) = false := by simp
          clear HD
          go_wp2
          go_ret
          exact ⟨by rw [HF.out]; rfl, HB.out⟩

end Go.Proofs.YthcahjnniendnabDoor
