/-
  Walks of package sim: Spread, Front.Go.
-/
import Derived.Test.YthcahjnniendnaaDoorSimB
import Derived.Test.YthcahjnniendnaaDoorInts
namespace Go.Proofs.YthcahjnniendnaaDoor
open Go.RowKit Wf

@[go_sem] theorem run_store_fn {P : Program} (w : World) (a : Addr) (fn : Fn) (ts bs : Array Value) (m : Mode) : (store a (.func fn ts bs) m).run P w = stored P w a (.func fn ts bs) m := run_store P w a _ m rfl

theorem blk_at (W : World) (k : Nat) (hk : W.heap.size = k) (t : TypeId) (cs : Array Value) : Blk (W.alloc (.cells cs t)) k t cs := by subst hk; exact Blk.new _ _ _
theorem seenA_none (n : Nat) : repA n (.bool false) = seenA n (fun _ => false) := by
  unfold repA seenA
  congr 1
  rw [List.map_const']
  simp

theorem SEnv.new (w : World) (n : Nat) (pv : Value) (f l : Bool) :
    SEnv w n pv f l (fun _ => false) [] false (.slice none 0 0) ((((((((w.alloc (.cells #[pv] 22)).alloc (.cells #[.bool f] 4)).alloc (.cells #[.bool l] 4)).alloc (.cells #[.slice none 0 0, .bool false] 70)).alloc (.cells #[.slice none 0 0, .bool false] 70)).alloc (.cells (repA n (.bool false)) 4)).alloc (.cells #[.slice (some ⟨w.heap.size + 5, 0, none⟩) n n] 54)).alloc (.cells #[walkV w.heap.size] 77)) ∧
    Blk ((((((((w.alloc (.cells #[pv] 22)).alloc (.cells #[.bool f] 4)).alloc (.cells #[.bool l] 4)).alloc (.cells #[.slice none 0 0, .bool false] 70)).alloc (.cells #[.slice none 0 0, .bool false] 70)).alloc (.cells (repA n (.bool false)) 4)).alloc (.cells #[.slice (some ⟨w.heap.size + 5, 0, none⟩) n n] 54)).alloc (.cells #[walkV w.heap.size] 77)) (w.heap.size + 3) 70 #[.slice none 0 0, .bool false] := by
  refine ⟨⟨?_, ?_, ?_, ?_, World.ownsRow_nil _ _ _ _, ?_, ?_, ?_, ?_⟩, ?_⟩
  · exact (((((((blk_at _ _ (by simp) _ _).alloc _).alloc _).alloc _).alloc _).alloc _).alloc _).alloc _
  · exact ((((((blk_at _ _ (by simp) _ _).alloc _).alloc _).alloc _).alloc _).alloc _).alloc _
  · exact (((((blk_at _ _ (by simp) _ _).alloc _).alloc _).alloc _).alloc _).alloc _
  · exact (((blk_at _ _ (by simp) _ _).alloc _).alloc _).alloc _
  · rw [← seenA_none]; exact ((blk_at _ _ (by simp) _ _).alloc _).alloc _
  · exact (blk_at _ _ (by simp) _ _).alloc _
  · exact blk_at _ _ (by simp) _ _
  · exact (((((((((Below.refl _ _).alloc (Nat.le_refl _) _).alloc (by simp) _).alloc (by simp; omega) _).alloc (by simp; omega) _).alloc (by simp; omega) _).alloc (by simp; omega) _).alloc (by simp; omega) _).alloc (by simp; omega) _)
  · exact ((((blk_at _ _ (by simp) _ _).alloc _).alloc _).alloc _).alloc _

theorem own_base {w : World} {base base' size n : Nat} {e : TypeId} {v : Value} {xs : List Value} (h : w.ownsRow base e size v n xs) (hb : base' ≤ base) : w.ownsRow base' e size v n xs := by
  refine ⟨h.1, ?_⟩
  rcases h.2 with hn | ⟨g, cap, cur, hv, h1, rest⟩
  · exact .inl hn
  · exact .inr ⟨g, cap, cur, hv, Nat.le_trans hb h1, rest⟩

def SpreadIs (p : List St) (f l : Bool) (fs : List Nat) (w : World) (e : Ending) (w' : World) : Prop :=
  ∃ (A : Option Addr) (cap : Nat) (L : List Nat) (d : Bool), e = .returned (.agg #[.slice A L.length cap, .bool d]) ∧ Front p f l fs L d ∧ w'.ownsRow w.heap.size 3 1 (.slice A L.length cap) L.length (natVals L) ∧ Below w.heap.size w w'

set_option maxRecDepth 100000 in
set_option maxHeartbeats 8000000 in
theorem Spread_any (p : List St) (hp : okP p) (pv fv : Value) (fs : List Nat) (hfs : ∀ i ∈ fs, i < p.length) (f l : Bool) (w : World) (hr : RdS w pv p) (hf : Rd1 w fv (natVals fs)) :
    Calls Tryd.prog 31 #[pv, fv, .bool f, .bool l] w (SpreadIs p f l fs w) := by
  have hn200 : p.length ≤ 200 := hp.2.1
  have hpos : 0 < p.length := hp.1
  obtain ⟨A, cap, rfl, hcap, hcap2, hmem⟩ := hr.open_
  obtain ⟨b, off, rfl, hbl, hcells⟩ := hmem hpos
  rw [show Rd1 w fv (natVals fs) = RdI w fv (toInts fs) by rw [natVals_ints]; rfl] at hf
  obtain ⟨F, capf, rfl, hcf, hcf2, hmf⟩ := hf.open_
  have HW := Lib.hid (walk_all w p hp b off cap hcap hcap2 f l (fun w' hb k n hk => hcells w' (fun o => hb.cell (p := ⟨b, o, none⟩) hbl) k n hk))
  have HMF := Lib.hid hmf
  have HNEW := Lib.hid (SEnv.new w p.length (.slice (some ⟨b, off, none⟩) p.length cap) f l)
  have hmk := fun W => mk_bools p.length (by omega) W
  have hfl : (toInts fs).length = fs.length := toInts_len fs
  have hzl : (toInts fs).length ≤ 9223372036854775807 := by omega
  rw [hfl] at hcf hmf
  have HFS := Lib.hid hfs
  have HZ : Hid (∀ k x, (toInts fs)[k]? = some x → ∃ i : Nat, fs[k]? = some i ∧ x = (i : Int) ∧ i < p.length) := Lib.hid (by
    intro k x hx
    rw [toInts_get] at hx
    cases hq : fs[k]? with
    | none => rw [hq] at hx; cases hx
    | some i => rw [hq] at hx; simp at hx; exact ⟨i, hq, hx.symm, hfs i (List.mem_of_getElem? hq)⟩)
  have HFL := Lib.hid hfl
  have HP := Lib.hid hp
  clear hcells hmem hmf hr hf hfs hp hfl
  generalize hzs : toInts fs = zs at *
  clear hzs
  go_enter Tryd.func31, Tryd.ntmps31
  go_wp2_with fail
  go_loopw [20] (fun v20 wr => ∃ (k : Nat) (S : Nat → Bool) (L : List Nat) (d : Bool) (D : Prop) (v : Value), k ≤ zs.length ∧ v20 = .int .i64 (k : Int) ∧ Hid (Acc p f l (fs.take k) (fun j => S j = true) L D) ∧ Hid (d = true ↔ D) ∧ Hid (SEnv w p.length (.slice (some ⟨b, off, none⟩) p.length cap) f l S L d v wr) ∧ L.length + cnt S p.length ≤ 1000 ∧ Hid (Blk wr (w.heap.size + 3) 70 #[.slice none 0 0, .bool false])) (fun i _ => zs.length - (intOf i).toNat)
  case atStart => exact ⟨0, fun _ => false, [], false, False, .slice none 0 0, by omega, rfl, Lib.hid (by simpa using Acc.start p f l), Lib.hid (by simp), Lib.hid HNEW.out.1, by have := cnt_le (fun _ => false) p.length; simp; omega, Lib.hid HNEW.out.2⟩
  case round =>
    clear HNEW hmk
    obtain ⟨k, S, L, d, D, v, hk, rfl, HACC, HD, HENV, hcn, HRES⟩ := hrel
    by_cases hlt : k < zs.length
    · obtain ⟨bf, of, rfl, hbf, hcf'⟩ := HMF.out (by omega)
      obtain ⟨x, hx⟩ := getD_get hlt
      obtain ⟨i, hi, rfl, hin⟩ := HZ.out k x hx
      have g0 := hcf' wr (fun o => HENV.out.bel.cell (p := ⟨bf, o, none⟩) hbf) k (i : Int) hx
      have w0 : wr.cell? ⟨w.heap.size + 1 + 1 + 1 + 1 + 1 + 1 + 1, 0, none⟩ = some (walkV w.heap.size) := HENV.out.wb.cell 0
      unfold walkV at w0
      have hk1 : (k : Int) < (zs.length : Int) := by omega
      have HI := Lib.hid hi
      clear hx hi hcf'
      go_wp2_with fail
      refine (HW.out (cnt S p.length) S L d v wr i (Nat.le_refl _) hin hcn HENV.out).mono ?_
      rintro e w1 ⟨rfl, S1, L1, d1, D1, v1, hw1, hd1, henv1, hfk1, hb1⟩
      have HW1 := Lib.hid hw1
      have HD1 : Hid (d1 = true ↔ D ∨ D1) := Lib.hid (by rw [hd1, HD.out])
      have HENV1 := Lib.hid henv1
      have hsz7 := HENV.out.wb.lt
      have HRES1 := Lib.hid (Blk.fk (B := w.heap.size) HRES.out hfk1 (by decide) (by omega) (by omega))
      clear hw1 hd1 henv1 hfk1 w0 g0
      go_wp2_with fail
      go_roundw
      case rel => exact ⟨k + 1, S1, L ++ L1, d1, D ∨ D1, v1, by omega, by go_num, Lib.hid (by rw [take_snoc HI.out]; exact HACC.out.step HW1.out), HD1, HENV1, hb1, HRES1⟩
      case measure => simp [intOf]; omega
    · obtain rfl : k = zs.length := by omega
      have HACC2 : Hid (Acc p f l fs (fun j => S j = true) L D) := Lib.hid (by have := HACC.out; rw [HFL.out, List.take_length] at this; exact this)
      obtain ⟨VA, vn, vcap, rfl, _, _, hvl, _⟩ := Rd.of_own HENV.out.own
      obtain rfl : vn = L.length := by simp [natVals] at hvl; omega
      have f0 : wr.cell? ⟨w.heap.size + 1 + 1 + 1 + 1, 0, none⟩ = some (.slice VA L.length vcap) := HENV.out.fr.cell 0
      have f1 : wr.cell? ⟨w.heap.size + 1 + 1 + 1 + 1, 1, none⟩ = some (.bool d) := HENV.out.fr.cell 1
      have r0 : wr.cell? ⟨w.heap.size + 1 + 1 + 1, 0, none⟩ = some (.slice none 0 0) := HRES.out.cell 0
      have r1 : wr.cell? ⟨w.heap.size + 1 + 1 + 1, 1, none⟩ = some (.bool false) := HRES.out.cell 1
      have z0 : wr.frozen? ⟨w.heap.size + 1 + 1 + 1, 0, none⟩ = false := HRES.out.frozen 0
      have z1 : wr.frozen? ⟨w.heap.size + 1 + 1 + 1, 1, none⟩ = false := HRES.out.frozen 1
      clear HACC hvl
      go_wp2
      have hk := (HRES.out.set_ 0 (.slice VA L.length vcap)).set_ 1 (.bool d)
      refine bodyPost_ret (v := .agg #[.slice VA L.length vcap, .bool d]) ?_ rfl ⟨VA, vcap, L, d, rfl, HACC2.out.front HD.out, ?_, ?_⟩
      · have k0 : (((wr.setCell ⟨w.heap.size + 1 + 1 + 1, 0, none⟩ (.slice VA L.length vcap)).setCell ⟨w.heap.size + 1 + 1 + 1, 1, none⟩ (.bool d))).cell? ⟨w.heap.size + 1 + 1 + 1, 0, none⟩ = some (.slice VA L.length vcap) := hk.cell 0
        have k1 : (((wr.setCell ⟨w.heap.size + 1 + 1 + 1, 0, none⟩ (.slice VA L.length vcap)).setCell ⟨w.heap.size + 1 + 1 + 1, 1, none⟩ (.bool d))).cell? ⟨w.heap.size + 1 + 1 + 1, 1, none⟩ = some (.bool d) := hk.cell 1
        simp [results, Tryd.results31, go_sem, k0, k1]
      · have hlt := fun q hq => HENV.out.own.lt q hq
        have hg : wr.grownBy ((wr.setCell ⟨w.heap.size + 1 + 1 + 1, 0, none⟩ (.slice VA L.length vcap)).setCell ⟨w.heap.size + 1 + 1 + 1, 1, none⟩ (.bool d)) (some (w.heap.size + 3)) := ⟨rfl, rfl, rfl, by simp, fun q hq hne => by
          rw [Below.heap_setCell _ _ _ q (fun e => hne (by rw [e])), Below.heap_setCell _ _ _ q (fun e => hne (by rw [e]))]⟩
        refine own_base (HENV.out.own.kept hg ?_) (Nat.le_add_right _ _)
        cases hv : (Value.slice VA L.length vcap).ownBlock with
        | none => exact .inl rfl
        | some q => exact .inr (fun e => by have := (hlt q hv).1; simp at e; omega)
      · exact (HENV.out.bel.setCell (by show w.heap.size ≤ w.heap.size + 3; omega) _).setCell (by show w.heap.size ≤ w.heap.size + 3; omega) _

end Go.Proofs.YthcahjnniendnaaDoor
