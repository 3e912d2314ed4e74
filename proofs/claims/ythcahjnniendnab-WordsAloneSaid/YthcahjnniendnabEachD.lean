/-
  words.All: the walk.
-/
import Derived.Test.YthcahjnniendnabEachC
import Derived.Test.YthcahjnniendnabWordA
namespace Go.Proofs.Ythcahjnniendnab
open Go.RowKit Wf

def hitOf (ws : List (List UInt8)) (p : Nat × Nat) : Nat × Nat × Nat := (p.1, p.2 - (ws.getD p.1 []).length, p.2)
theorem all_hits (ws : List (List UInt8)) (s : ByteArray) : (toldTo ws s.data.toList s.size).map (hitOf ws) = hitsL ws s.data.toList := by
  unfold hitsL
  rw [← told_hits]
  have : s.data.toList.length = s.size := by simp
  rw [this]
  rfl

def WAllIs (S : List (Nat × Nat × Nat)) (w : World) (e : Ending) (w' : World) : Prop :=
  ∃ A cap, e = .returned (.tuple #[.slice A S.length cap, .nilIface]) ∧ w'.ownsRow w.heap.size 48 3 (.slice A S.length cap) S.length (S.flatMap hitCells) ∧ Below w.heap.size w w'
def WAllNo (n : Int) (w : World) (e : Ending) (w' : World) : Prop := e = .returned (.tuple #[.slice none 0 0, errV n]) ∧ Below w.heap.size w w'

set_option maxRecDepth 100000 in
set_option maxHeartbeats 4000000 in
theorem All_bad (l : List ByteArray) (lv : Value) (s : ByteArray) (w : World) (hr : Rd1 w lv (strVals l)) (hlen : l.length ≤ 9223372036854775807) (hsz : ∀ s ∈ l, s.size ≤ 9223372036854775807) (hc : chkW l ≠ 0) : Calls Try.prog 12 #[lv, .string s] w (WAllNo (chkW l) w) := by
  obtain ⟨A, cap, rfl, _, _, _⟩ := str_open hr
  have hb1 : Below w.heap.size w (w.alloc (.cells #[.slice A l.length cap] 41)) := (Below.refl _ _).alloc (Nat.le_refl _) _
  have HC : Hid (Calls Try.prog 24 #[.slice A l.length cap] (w.alloc (.cells #[.slice A l.length cap] 41)) (fun e w' => e = .returned (.iface 64 (.int .i64 (chkW l))) ∧ Below w.heap.size w w')) := Lib.hid (by
    refine (WCheck_any l _ _ (Rd.below hr hb1) hlen hsz).mono ?_
    rintro e w' ⟨rfl, hb⟩
    exact ⟨by rw [errV_ne hc], hb1.trans (hb.mono hb1.size)⟩)
  have c0 : (w.alloc (.cells #[.slice A l.length cap] 41)).cell? ⟨w.heap.size, 0, none⟩ = some (.slice A l.length cap) := (Blk.new w 41 #[.slice A l.length cap]).cell 0
  have HE := Lib.hid (errV_ne hc)
  generalize chkW l = n at *
  clear hr hb1 hc hlen hsz
  unfold WAllNo
  go_enter Try.func12, Try.ntmps12
  go_wp2_with (go_at_call 24; refine HC.out.mono ?_; rintro e w1 ⟨rfl, hb2⟩)
  go_ret2
  exact ⟨by rw [HE.out]; rfl, hb2⟩
set_option maxRecDepth 100000 in
set_option maxHeartbeats 4000000 in
theorem All_long (l : List ByteArray) (lv : Value) (s : ByteArray) (w : World) (hr : Rd1 w lv (strVals l)) (hok : okW l) (hs : 400 < s.size) : Calls Try.prog 12 #[lv, .string s] w (WAllNo 3 w) := by
  obtain ⟨A, cap, rfl, _, _, _⟩ := str_open hr
  have h20 := hok.1
  have hb1 : Below w.heap.size w (w.alloc (.cells #[.slice A l.length cap] 41)) := (Below.refl _ _).alloc (Nat.le_refl _) _
  have HC : Hid (Calls Try.prog 24 #[.slice A l.length cap] (w.alloc (.cells #[.slice A l.length cap] 41)) (fun e w' => e = .returned .nilIface ∧ Below w.heap.size w w')) := Lib.hid (by
    refine (WCheck_any l _ _ (Rd.below hr hb1) (by omega) (fun x hx => by have := (hok.2.1 x hx).2; omega)).mono ?_
    rintro e w' ⟨rfl, hb⟩
    exact ⟨by rw [chkW_ok.2 hok]; rfl, hb1.trans (hb.mono hb1.size)⟩)
  have c0 : (w.alloc (.cells #[.slice A l.length cap] 41)).cell? ⟨w.heap.size, 0, none⟩ = some (.slice A l.length cap) := (Blk.new w 41 #[.slice A l.length cap]).cell 0
  have hd : decide ((400 : Int) < (s.size : Int)) = true := by simp; omega
  have HE : Hid (errV 3 = .iface 64 (.int .i64 3)) := Lib.hid (errV_ne (by decide))
  clear hr hb1 hok
  unfold WAllNo
  go_enter Try.func12, Try.ntmps12
  go_wp2_with (go_at_call 24; refine HC.out.mono ?_; rintro e w1 ⟨rfl, hb2⟩)
  go_ret2
  exact ⟨by rw [HE.out]; rfl, hb2⟩

theorem Tied.below {w0 w w' : World} {Nb : Nat} {wv : Value} {root : Kn} {ws : List (List UInt8)} {Ks : List Kn} {bk ev : Kn → Value} {ch : Kn → List (Nat × Value)} (h : Tied w0 Nb wv root ws Ks ch bk ev w) (hb : Below w.heap.size w w') : Tied w0 Nb wv root ws Ks ch bk ev w' := h.hk (HK.below hb)

theorem words_facts {l : List ByteArray} (hok : okW l) {ws : List (List UInt8)} (hws : ws = l.map (fun s => s.data.toList)) : ws.length = l.length ∧ ∀ x ∈ ws, x ≠ [] ∧ x.length ≤ 20 := by
  refine ⟨by rw [hws]; simp, fun x hx => ?_⟩
  rw [hws] at hx
  obtain ⟨s, hs, rfl⟩ := List.mem_map.1 hx
  have h1 := hok.2.1 s hs
  have h2 : s.data.toList.length = s.size := by simp
  refine ⟨fun e => ?_, by omega⟩
  rw [e] at h2
  simp at h2
  omega

def IsTied (w0 : World) (Nb : Nat) (lv : Value) (ws : List (List UInt8)) (w : World) : Prop := ∃ (root : Kn) (Ks : List Kn) (ch : Kn → List (Nat × Value)) (bk ev : Kn → Value), Tied w0 Nb lv root ws Ks ch bk ev w

theorem new_tied (l : List ByteArray) (lv : Value) (w : World) (hr : Rd1 w lv (strVals l)) (hok : okW l) (ws : List (List UInt8)) (hws : ws = l.map (fun s => s.data.toList)) :
    Calls Try.prog 25 #[lv] w (fun e w' => e = .returned (.pointer (some ⟨w.heap.size + 2, 0, none⟩)) ∧ IsTied w (w.heap.size + 2) lv ws w') := by
  obtain ⟨hlen, hx⟩ := words_facts hok hws
  refine New_c l lv w hr hok ws hws (fun Nb w' => IsTied w Nb lv ws w') (fun Ks ev ch W hN => ?_)
  refine (tie_c w W (w.heap.size + 2) lv _ ws Ks ev ch hN (by rw [hlen]; exact hok.1) hx).mono ?_
  rintro e w' ⟨rfl, bk, ev', ht⟩
  exact ⟨rfl, _, Ks, ch, bk, ev', ht⟩

theorem each_hits (l : List ByteArray) (lv : Value) (hok : okW l) (ws : List (List UInt8)) (hws : ws = l.map (fun s => s.data.toList)) (s : ByteArray) (hs : s.size ≤ 400) (w0 w : World) (Nb Wb : Nat) (hT : IsTied w0 Nb lv ws w) (v : Value) (hH : HitAt w0 Wb lv l [] v w) :
    Calls Try.prog 26 #[.pointer (some ⟨Nb, 0, none⟩), .string s, .func (.func 27) #[] #[.pointer (some ⟨w0.heap.size, 0, none⟩), .pointer (some ⟨Wb, 0, none⟩)]] w (fun e w' => e = .returned (.tuple #[]) ∧ ∃ v, HitAt w0 Wb lv l (hitsL ws s.data.toList) v w') := by
  obtain ⟨hlen, hx⟩ := words_facts hok hws
  obtain ⟨root, Ks, ch, bk, ev, ht⟩ := hT
  have h20 := hok.1
  refine (Each_c w0 Nb lv root ws Ks ch bk ev (by omega) s hs _ _ (fun done W => Tied w0 Nb lv root ws Ks ch bk ev W ∧ ∃ v, HitAt w0 Wb lv l (done.map (hitOf ws)) v W) (fun _ _ h => h.1) ⟨fun done W W' h hb => ⟨h.1.below hb, ?_⟩, fun done W i e h hle he hd => ?_⟩ w ⟨ht, v, hH⟩).mono ?_
  · obtain ⟨v', hv'⟩ := h.2
    exact ⟨v', hv'.below hb⟩
  · obtain ⟨x, hxi, hxl⟩ := hle
    obtain ⟨v', hv'⟩ := h.2
    rw [hws, List.getElem?_map] at hxi
    cases hli : l[i]? with
    | none => rw [hli] at hxi; cases hxi
    | some sx =>
      rw [hli] at hxi
      have hxe : sx.data.toList = x := by simpa using hxi
      have hsz : sx.size = x.length := by rw [← hxe]; simp
      have hdl : done.length ≤ 8000 := by
        have : ws.length * s.size ≤ 20 * 400 := Nat.mul_le_mul (by omega) hs
        omega
      have hwx : ws.getD i [] = x := by
        rw [hws, List.getD, List.getElem?_map, hli]
        simpa using hxe
      refine (Do_c w0 Wb lv l _ v' W hv' i e sx hli (by omega) (by omega) h20 (by simpa using hdl)).mono ?_
      rintro en w' ⟨rfl, v2, hv2, hk⟩
      refine ⟨rfl, ⟨h.1.hk hk, v2, ?_⟩, hk.ints⟩
      rw [List.map_append]
      have : [(i, e)].map (hitOf ws) = [(i, e - sx.size, e)] := by
        show [(i, e - (ws.getD i []).length, e)] = _
        rw [hwx, hsz]
      rw [this]
      exact hv2
  · rintro e w' ⟨rfl, _, v2, hv2⟩
    rw [all_hits] at hv2
    exact ⟨rfl, v2, hv2⟩

set_option maxRecDepth 100000 in
set_option maxHeartbeats 8000000 in
theorem All_ok (l : List ByteArray) (lv : Value) (s : ByteArray) (w : World) (hr : Rd1 w lv (strVals l)) (hok : okW l) (hs : s.size ≤ 400) (ws : List (List UInt8)) (hws : ws = l.map (fun s => s.data.toList)) :
    Calls Try.prog 12 #[lv, .string s] w (WAllIs (hitsL ws s.data.toList) w) := by
  obtain ⟨A, cap, rfl, _, _, _⟩ := str_open hr
  have h20 := hok.1
  have hlen : ws.length = l.length := by rw [hws]; simp
  have hb1 : Below w.heap.size w (w.alloc (.cells #[.slice A l.length cap] 41)) := (Below.refl _ _).alloc (Nat.le_refl _) _
  have HC : Hid (Calls Try.prog 24 #[.slice A l.length cap] (w.alloc (.cells #[.slice A l.length cap] 41)) (fun e w' => e = .returned .nilIface ∧ Below (w.alloc (.cells #[.slice A l.length cap] 41)).heap.size (w.alloc (.cells #[.slice A l.length cap] 41)) w')) := Lib.hid (by
    refine (WCheck_any l _ _ (Rd.below hr hb1) (by omega) (fun x hx => by have := (hok.2.1 x hx).2; omega)).mono ?_
    rintro e w' ⟨rfl, hb⟩
    exact ⟨by rw [chkW_ok.2 hok]; rfl, hb⟩)
  have c0 : (w.alloc (.cells #[.slice A l.length cap] 41)).cell? ⟨w.heap.size, 0, none⟩ = some (.slice A l.length cap) := (Blk.new w 41 #[.slice A l.length cap]).cell 0
  have hd : decide ((400 : Int) < (s.size : Int)) = false := by simp; omega
  have hmf : ∀ (fn : Fn) (first cap : Array Value) (w : World), (Instr.makeFunc fn first cap).run Try.prog w = .ok (.func fn first cap) w := fun _ _ _ _ => rfl
  have HB1 := Lib.hid hb1
  have HR := Lib.hid (Rd.below hr hb1)
  have HOK := Lib.hid hok
  have HWS := Lib.hid hws
  have HLEN := Lib.hid hlen
  have HWB := Lib.hid (Blk.new w 41 #[.slice A l.length cap])
  have hwl : w.heap.size < (w.alloc (.cells #[.slice A l.length cap] 41)).heap.size := by simp
  clear hr hb1 hok hws hlen
  have HNEW : Hid (∀ w1, Below (w.alloc (.cells #[.slice A l.length cap] 41)).heap.size (w.alloc (.cells #[.slice A l.length cap] 41)) w1 → Calls Try.prog 25 #[.slice A l.length cap] (w1.alloc (.cells #[.slice none 0 0] 42)) (fun e w' => e = .returned (.pointer (some ⟨w1.heap.size + 1 + 2, 0, none⟩)) ∧ IsTied w1 (w1.heap.size + 1 + 2) (.slice A l.length cap) ws w' ∧ HitAt w1 w.heap.size (.slice A l.length cap) l [] (.slice none 0 0) w')) := Lib.hid (fun w1 hb => by
    have hba : Below w1.heap.size w1 (w1.alloc (.cells #[.slice none 0 0] 42)) := (Below.refl _ _).alloc (Nat.le_refl _) _
    have hr1 := Rd.below HR.out hb
    have hh : HitAt w1 w.heap.size (.slice A l.length cap) l [] (.slice none 0 0) (w1.alloc (.cells #[.slice none 0 0] 42)) := ⟨Blk.new w1 _ _, World.ownsRow_nil _ _ _ _, HWB.out.below hb hwl, hr1, hba⟩
    have hs1 : (w1.alloc (.cells #[.slice none 0 0] 42)).heap.size = w1.heap.size + 1 := by simp
    refine (new_tied l _ _ (Rd.below hr1 hba) HOK.out ws HWS.out).mono ?_
    rintro e w' ⟨rfl, ht⟩
    rw [hs1] at ht
    obtain ⟨root, Ks, ch, bk, ev, ht⟩ := ht
    have hbw := ht.net.keep
    refine ⟨by rw [hs1], ⟨root, Ks, ch, bk, ev, ht.older (by simp) (hba.trans (hbw.mono (by simp)))⟩, hh.below hbw⟩)
  obtain ⟨N, hN⟩ : ∃ N, N = (hitsL ws s.data.toList).length := ⟨_, rfl⟩
  have HEACH : Hid (∀ (w1 w3 : World) (Nb : Nat), IsTied w1 Nb (.slice A l.length cap) ws w3 → HitAt w1 w.heap.size (.slice A l.length cap) l [] (.slice none 0 0) w3 → Calls Try.prog 26 #[.pointer (some ⟨Nb, 0, none⟩), .string s, .func (.func 27) #[] #[.pointer (some ⟨w1.heap.size, 0, none⟩), .pointer (some ⟨w.heap.size, 0, none⟩)]] w3 (fun e w' => e = .returned (.tuple #[]) ∧ ∃ VA vc, HitAt w1 w.heap.size (.slice A l.length cap) l (hitsL ws s.data.toList) (.slice VA N vc) w')) := Lib.hid (fun w1 w3 Nb ht hh => by
    refine (each_hits l _ HOK.out ws HWS.out s hs w1 w3 Nb w.heap.size ht _ hh).mono ?_
    rintro e w' ⟨rfl, v, hv⟩
    obtain ⟨VA, vn, vc, rfl, _, _, hvl, _⟩ := Rd.of_own hv.own
    have hvn : vn = N := by rw [hits_len] at hvl; omega
    subst hvn
    exact ⟨rfl, VA, vc, hv⟩)
  have HNN := Lib.hid hN
  unfold WAllIs
  rw [← hN]
  clear hN
  go_enter Try.func12, Try.ntmps12
  go_wp2_with (first
    | (go_at_call 24; refine HC.out.mono ?_; rintro e w1 ⟨rfl, hb2⟩; have HB2 := Lib.hid hb2; have c1 : (w1.alloc (.cells #[.slice none 0 0] 42)).cell? ⟨w.heap.size, 0, none⟩ = some (.slice A l.length cap) := ((HWB.out.below hb2 hwl).alloc _).cell 0; clear hb2)
    | (go_at_call 25; refine (HNEW.out w1 HB2.out).mono ?_; rintro e w3 ⟨rfl, ht, hh⟩; have HTI := Lib.hid ht; have HHI := Lib.hid hh; clear ht hh)
    | (go_at_call 26; refine (HEACH.out w1 w3 _ HTI.out HHI.out).mono ?_; rintro e w4 ⟨rfl, VA, vc, hv⟩; have o1 : w4.cell? ⟨w1.heap.size, 0, none⟩ = some (.slice VA N vc) := hv.box.cell 0; have HV := Lib.hid hv; clear hv))
  go_ret2
  have hsz1 : w.heap.size ≤ w1.heap.size := Nat.le_trans (Nat.le_of_lt hwl) HB2.out.size
  refine ⟨VA, vc, rfl, ?_, (HB1.out.trans (HB2.out.mono (Nat.le_of_lt hwl))).trans (HV.out.bel.mono hsz1)⟩
  have ho := HV.out.own
  rw [← HNN.out] at ho
  refine ⟨ho.1, ?_⟩
  rcases ho.2 with q | ⟨g, cp, cur, q1, q2, q3⟩
  · exact .inl q
  · exact .inr ⟨g, cp, cur, q1, by omega, q3⟩
end Go.Proofs.Ythcahjnniendnab
