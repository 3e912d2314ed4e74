/-
  The net's step: from a knot by a byte.
-/
import Derived.Test.YthcahjnniendnabKnotA
import Derived.LaidEqlPtr
import Derived.Lib.Builder
namespace Go.Proofs.Ythcahjnniendnab
open Go.RowKit Wf

theorem byte_keyW : KeyK Try.prog 5 byteW := byte_key Try.underlying5
theorem zero_knot (w : World) : (zeroValue 90).run Try.prog w = .ok (.pointer none) w := by kernel_rfl

theorem knot_info : ∃ j, Try.prog.info? 93 = some j ∧ j.size ≠ 0 := by
  have h : (Try.prog.info? 93).map (fun i => i.size) = some 3 := by kernel_rfl
  cases hi : Try.prog.info? 93 with
  | none => rw [hi] at h; cases h
  | some j =>
    rw [hi] at h
    have h' : j.size = 3 := Option.some.inj h
    exact ⟨j, rfl, by omega⟩
theorem knot_same (a : Addr) (w : World) : (binOp .neq 90 (.pointer (some a)) (.pointer (some a))).run Try.prog w = .ok (.bool false) w := by
  obtain ⟨j, hj, _⟩ := knot_info
  exact Lib.run_neq_ptr_same w a Try.underlying90 hj
theorem knot_other {a b : Addr} {ca cb : Array Value} {ta tb : TypeId} (w : World) (hne : a ≠ b) (ha : w.heap[a.block]? = some (.cells ca ta (0, 0))) (hb : w.heap[b.block]? = some (.cells cb tb (0, 0))) :
    (binOp .neq 90 (.pointer (some a)) (.pointer (some b))).run Try.prog w = .ok (.bool true) w := by
  obtain ⟨j, hj, hsz⟩ := knot_info
  have h : ∀ d : Nat, (Op.equalIn (d + 1) 90 (.pointer (some a)) (.pointer (some b))).run Try.prog w = .ok false w := fun d => by
    simp [Op.equalIn, run_underlying Try.underlying90, sizeOf, typeInfo, hj, hsz, run_sameAddr_other w hne ha hb]
  simp only [binOp]
  simp [Op.equal, Op.maxDepth, h 9999]

/-- Knots whose way back is laid. -/
structure Tie (ws : List (List UInt8)) (Ks : List Kn) (bk : Kn → Value) (Td : Kn → Prop) : Prop where
  knots : ∀ u, Knot ws u ↔ ∃ k ∈ Ks, k.u = u
  back : ∀ s ∈ Ks, Td s → ∃ t ∈ Ks, Td t ∧ bk s = kptr t.b ∧ Bk ws s.u t.u

def StepIs (ws : List (List UInt8)) (Ks : List Kn) (k : Kn) (t : List UInt8) (c : Nat) (w : World) (e : Ending) (w' : World) : Prop :=
  ∃ r : Kn, e = .returned (kptr r.b) ∧ r ∈ Ks ∧ LongSuf ws (t ++ [UInt8.ofNat c]) r.u ∧ r.u.length ≤ k.u.length + 1 ∧ w = w'

variable {w0 w : World} {Nb : Nat} {wv : Value} {root k : Kn} {Ks : List Kn} {bk ev : Kn → Value} {ch : Kn → List (Nat × Value)} {ws : List (List UInt8)} {Td : Kn → Prop}

set_option maxRecDepth 100000 in
set_option maxHeartbeats 4000000 in
theorem step_c (h : Net w0 Nb wv root Ks bk ev ch w) (ht : Tie ws Ks bk Td) (hk : k ∈ Ks) (hd : Td k) (t : List UInt8) (hl : LongSuf ws t k.u) (c : Nat) (hc : c < 256) :
    Calls Try.prog 37 #[.pointer (some ⟨Nb, 0, none⟩), .pointer (some ⟨k.b, 0, none⟩), .int .u8 (c : Int)] w (StepIs ws Ks k t c w) := by
  have HN := Lib.hid h
  have HT := Lib.hid ht
  have n0 : w.cell? ⟨Nb, 0, none⟩ = some (.pointer (some ⟨root.b, 0, none⟩)) := h.net.cell 0
  have HSTART : Hid (k ∈ Ks ∧ Td k ∧ InStep (ws := ws) t (UInt8.ofNat c) k.u) := Lib.hid ⟨hk, hd, hl.step _⟩
  clear h ht hk hd hl
  unfold StepIs
  go_enter Try.func37, Try.ntmps37
  go_wp2
  go_loopg [1] (k.u.length + 1) (fun gk v1 wr => ∃ s : Kn, v1 = .pointer (some ⟨s.b, 0, none⟩) ∧ s.u.length ≤ k.u.length ∧ Hid (s ∈ Ks ∧ Td s ∧ InStep (ws := ws) t (UInt8.ofNat c) s.u) ∧ Hid (w = wr) ∧ Hid (s.u.length < gk))
  case atStart => exact ⟨k, rfl, Nat.le_refl _, HSTART, Lib.hid rfl, Lib.hid (Nat.lt_succ_self _)⟩
  case round =>
    obtain ⟨s, rfl, hle, HS, HW, HG⟩ := hrel
    obtain ⟨hsk, hst, hin⟩ := HS.out
    have hNr : Net w0 Nb wv root Ks bk ev ch wr := by rw [← HW.out]; exact HN.out
    have n0 : wr.cell? ⟨Nb, 0, none⟩ = some (.pointer (some ⟨root.b, 0, none⟩)) := hNr.net.cell 0
    have x0 : wr.cell? ⟨s.b, 0, none⟩ = some (.map (some s.m)) := (hNr.blk s hsk).cell 0
    have hmp := hNr.mp s hsk
    cases hg : getL (ch s) c with
    | some v =>
      have hlk := hmp.look_some byte_keyW Try.underlying91 hg false
      obtain ⟨r, hr, rfl, _, hru⟩ := hNr.kids s hsk c v hg
      have HR : Hid (r ∈ Ks ∧ LongSuf ws (t ++ [UInt8.ofNat c]) r.u ∧ r.u.length ≤ k.u.length + 1) := Lib.hid ⟨hr, by rw [hru]; exact hin.done ((HT.out.knots _).2 ⟨r, hr, hru⟩), by rw [hru]; simp; omega⟩
      unfold kptr byteW at hlk
      simp only [Bool.false_eq_true, if_false] at hlk
      clear hg hr hru hmp hNr hsk hst hin hle
      go_wp2
      go_ret
      exact ⟨r, rfl, HR.out.1, HR.out.2.1, HR.out.2.2, HW.out⟩
    | none =>
      have hlk := hmp.look_none byte_keyW Try.underlying91 (zero_knot wr) hg false
      have hnk : ¬ Knot ws (s.u ++ [UInt8.ofNat c]) := fun hkn => by
        obtain ⟨r, hr, hru⟩ := (HT.out.knots _).1 hkn
        have := hNr.all s hsk r hr c hc hru
        rw [hg] at this
        cases this
      unfold byteW at hlk
      simp only [Bool.false_eq_true, if_false] at hlk
      by_cases hrt : s = root
      · subst hrt
        have HR : Hid (s ∈ Ks ∧ LongSuf ws (t ++ [UInt8.ofNat c]) s.u ∧ s.u.length ≤ k.u.length + 1) := Lib.hid ⟨hsk, by
          rw [hNr.ru] at hin hnk ⊢
          exact hin.none hnk, by omega⟩
        have hpe := knot_same ⟨s.b, 0, none⟩ wr
        clear hg hmp hNr hsk hst hin hle hnk
        go_wp2
        go_ret
        exact ⟨s, rfl, HR.out.1, HR.out.2.1, HR.out.2.2, HW.out⟩
      · have hbne : s.b ≠ root.b := fun e => hrt (hNr.ib s hsk root hNr.rt e)
        obtain ⟨r, hr, hrd, hbk, hB⟩ := HT.out.back s hsk hst
        have x1 : wr.cell? ⟨s.b, 1, none⟩ = some (.pointer (some ⟨r.b, 0, none⟩)) := by
          have := (hNr.blk s hsk).cell 1
          rw [hbk] at this
          exact this
        have hun : s.u ≠ [] := fun e => hrt (hNr.iu s hsk root hNr.rt (e.trans hNr.ru.symm))
        have hlt := hB.lt hun
        have HR : Hid (r ∈ Ks ∧ Td r ∧ InStep (ws := ws) t (UInt8.ofNat c) r.u) := Lib.hid ⟨hr, hrd, hin.back hnk hB⟩
        have hrl : r.u.length ≤ k.u.length := by omega
        have HGR : Hid (r.u.length < gk - 1) := Lib.hid (by have := HG.out; omega)
        have hg0 : 0 < gk := by have := HG.out; omega
        have hpe := knot_other (a := ⟨s.b, 0, none⟩) (b := ⟨root.b, 0, none⟩) wr (fun e => hbne (congrArg Addr.block e)) (hNr.blk s hsk) (hNr.blk root hNr.rt)
        clear hg hmp hNr hsk hst hin hle hnk hrt hun hlt hr hrd hbk hB
        go_wp2
        go_roundg (gk - 1)
        case rel => exact ⟨r, rfl, hrl, HR, HW, HGR⟩
        all_goals omega
end Go.Proofs.Ythcahjnniendnab
