/-
  Proved: winnowfanlaw1.ClassIs returns true for every two classes, text and bytes, and changes nothing that was there.
-/
import Derived.Test.YthcahjnniendnabDoorAs
import Derived.Test.YthcahjnniendnabDoorClsR
import Derived.Test.YthcahjnniendnabDoorEmptyNo
import Derived.Test.YthcahjnniendnabDoorGCls
import Derived.Test.YthcahjnniendnabDoorLaid
import Derived.Test.YthcahjnniendnabDoorLaw
import Derived.Test.YthcahjnniendnabDoorOpen
import Derived.Test.YthcahjnniendnabDoorRefU
import Derived.Test.YthcahjnniendnabDoorTie
import Derived.Test.YthcahjnniendnabDoorCards
import Derived.Lib.SlicesS
import Derived.Deep.RegionHeld3
namespace Go.Proofs.YthcahjnniendnabDoor.classIs
open Go.ChangeShapes Go.WideShapes Go.ChangeAt Go.RowKit Wf
open Go.ChangeMaps (open_string shut_string)
open law (own laidOut LawIs laidL laidWorld laidWorld_met handle_of_laid)
set_option linter.unusedVariables false

/-- A class that is told, in a world that is kept. -/
def Told (d0 d1 d2 d3 : Nat) (w : World) (e : Ending) (w' : World) : Prop := e = .returned (.agg #[.int .u64 (d0 : Int), .int .u64 (d1 : Int), .int .u64 (d2 : Int), .int .u64 (d3 : Int)]) ∧ Below w.heap.size w w'
theorem told {c : Cls} {d0 d1 d2 d3 : Nat} (hc : (d0, d1, d2, d3) = c) {w : World} {e : Ending} {w' : World} (h : ClsIs c w e w') : Told d0 d1 d2 d3 w e w' := by
  obtain ⟨k0, k1, k2, k3, h1, h2, h3⟩ := h
  subst hc
  simp only [Prod.mk.injEq] at h2
  obtain ⟨rfl, rfl, rfl, rfl⟩ := h2
  exact ⟨h1, h3⟩
theorem ex_text (l : List UInt8) : ∃ t : ByteArray, t.data.toList = l := ⟨⟨l.toArray⟩, by simp⟩
theorem ex_cls (c : Cls) : ∃ n0 n1 n2 n3 : Nat, (n0, n1, n2, n3) = c := ⟨c.1, c.2.1, c.2.2.1, c.2.2.2, rfl⟩
theorem ex_nat (n : Nat) : ∃ p, p = n := ⟨n, rfl⟩
theorem bytes_ext {s t : ByteArray} (h : s.data.toList = t.data.toList) : s = t := by
  cases s; cases t
  simp at h
  simp [h]

/-- The world of the law: the classes in blocks of their own. -/
def CEnv (w : World) (C : Nat) (a0 a1 a2 a3 b0 b1 b2 b3 r0 r1 r2 r3 : Nat) (w' : World) : Prop :=
  Blk w' w.heap.size 54 #[.int .u64 (a0 : Int), .int .u64 (a1 : Int), .int .u64 (a2 : Int), .int .u64 (a3 : Int)] ∧ Blk w' (w.heap.size + 1) 54 #[.int .u64 (b0 : Int), .int .u64 (b1 : Int), .int .u64 (b2 : Int), .int .u64 (b3 : Int)] ∧ Blk w' (w.heap.size + 1 + 1) 54 #[.int .u64 (r0 : Int), .int .u64 (r1 : Int), .int .u64 (r2 : Int), .int .u64 (r3 : Int)] ∧ Blk w' C 54 #[.int .u64 (r0 : Int), .int .u64 (r1 : Int), .int .u64 (r2 : Int), .int .u64 (r3 : Int)] ∧ Below w.heap.size w w'
theorem CEnv.kept {w w1 w2 : World} {C a0 a1 a2 a3 b0 b1 b2 b3 r0 r1 r2 r3 : Nat} (h : CEnv w C a0 a1 a2 a3 b0 b1 b2 b3 r0 r1 r2 r3 w1) (hb : Below w1.heap.size w1 w2) : CEnv w C a0 a1 a2 a3 b0 b1 b2 b3 r0 r1 r2 r3 w2 :=
  ⟨h.1.kept hb, h.2.1.kept hb, h.2.2.1.kept hb, h.2.2.2.1.kept hb, h.2.2.2.2.trans (hb.mono h.2.2.2.2.size)⟩
/-- While the range is made: the two classes and what is made. -/
def WEnv (w : World) (a0 a1 a2 a3 b0 b1 b2 b3 r0 r1 r2 r3 : Nat) (w' : World) : Prop :=
  Blk w' w.heap.size 54 #[.int .u64 (a0 : Int), .int .u64 (a1 : Int), .int .u64 (a2 : Int), .int .u64 (a3 : Int)] ∧ Blk w' (w.heap.size + 1) 54 #[.int .u64 (b0 : Int), .int .u64 (b1 : Int), .int .u64 (b2 : Int), .int .u64 (b3 : Int)] ∧ Blk w' (w.heap.size + 1 + 1) 54 #[.int .u64 (r0 : Int), .int .u64 (r1 : Int), .int .u64 (r2 : Int), .int .u64 (r3 : Int)] ∧ Below w.heap.size w w'
theorem WEnv.kept {w w1 w2 : World} {a0 a1 a2 a3 b0 b1 b2 b3 r0 r1 r2 r3 : Nat} (h : WEnv w a0 a1 a2 a3 b0 b1 b2 b3 r0 r1 r2 r3 w1) (hb : Below w1.heap.size w1 w2) : WEnv w a0 a1 a2 a3 b0 b1 b2 b3 r0 r1 r2 r3 w2 :=
  ⟨h.1.kept hb, h.2.1.kept hb, h.2.2.1.kept hb, h.2.2.2.trans (hb.mono h.2.2.2.size)⟩
theorem WEnv.new (w : World) (a0 a1 a2 a3 b0 b1 b2 b3 : Nat) : WEnv w a0 a1 a2 a3 b0 b1 b2 b3 0 0 0 0 (((w.alloc (.cells #[.int .u64 (a0 : Int), .int .u64 (a1 : Int), .int .u64 (a2 : Int), .int .u64 (a3 : Int)] 54)).alloc (.cells #[.int .u64 (b0 : Int), .int .u64 (b1 : Int), .int .u64 (b2 : Int), .int .u64 (b3 : Int)] 54)).alloc (.cells #[.int .u64 0, .int .u64 0, .int .u64 0, .int .u64 0] 54)) := by
  have h1 := Blk.new (w.alloc (.cells #[.int .u64 (a0 : Int), .int .u64 (a1 : Int), .int .u64 (a2 : Int), .int .u64 (a3 : Int)] 54)) 54 #[.int .u64 (b0 : Int), .int .u64 (b1 : Int), .int .u64 (b2 : Int), .int .u64 (b3 : Int)]
  have h2 := Blk.new ((w.alloc (.cells #[.int .u64 (a0 : Int), .int .u64 (a1 : Int), .int .u64 (a2 : Int), .int .u64 (a3 : Int)] 54)).alloc (.cells #[.int .u64 (b0 : Int), .int .u64 (b1 : Int), .int .u64 (b2 : Int), .int .u64 (b3 : Int)] 54)) 54 #[.int .u64 0, .int .u64 0, .int .u64 0, .int .u64 0]
  rw [World.size_alloc] at h1
  rw [World.size_alloc, World.size_alloc] at h2
  exact ⟨((Blk.new w _ _).alloc _).alloc _, h1.alloc _, h2, (((Below.refl _ _).alloc (Nat.le_refl _) _).alloc (by simp) _).alloc (by simp; omega) _⟩
theorem WEnv.put {w w1 : World} {a0 a1 a2 a3 b0 b1 b2 b3 r0 r1 r2 r3 e0 e1 e2 e3 : Nat} (h : WEnv w a0 a1 a2 a3 b0 b1 b2 b3 r0 r1 r2 r3 w1) : WEnv w a0 a1 a2 a3 b0 b1 b2 b3 e0 e1 e2 e3 ((((w1.setCell ⟨w.heap.size + 1 + 1, 0, none⟩ (.int .u64 (e0 : Int))).setCell ⟨w.heap.size + 1 + 1, 1, none⟩ (.int .u64 (e1 : Int))).setCell ⟨w.heap.size + 1 + 1, 2, none⟩ (.int .u64 (e2 : Int))).setCell ⟨w.heap.size + 1 + 1, 3, none⟩ (.int .u64 (e3 : Int))) :=
  ⟨(((h.1.far (by simp; omega) _).far (by simp; omega) _).far (by simp; omega) _).far (by simp; omega) _, (((h.2.1.far (by simp) _).far (by simp) _).far (by simp) _).far (by simp) _, Blk4_set h.2.2.1 _ _ _ _,
    (((h.2.2.2.setCell (by simp; omega) _).setCell (by simp; omega) _).setCell (by simp; omega) _).setCell (by simp; omega) _⟩

/-- While both and either are made. -/
def DEnv (w : World) (P : Nat) (a0 a1 a2 a3 b0 b1 b2 b3 p0 p1 p2 p3 q0 q1 q2 q3 : Nat) (w' : World) : Prop :=
  Blk w' w.heap.size 54 #[.int .u64 (a0 : Int), .int .u64 (a1 : Int), .int .u64 (a2 : Int), .int .u64 (a3 : Int)] ∧ Blk w' (w.heap.size + 1) 54 #[.int .u64 (b0 : Int), .int .u64 (b1 : Int), .int .u64 (b2 : Int), .int .u64 (b3 : Int)] ∧ Blk w' P 54 #[.int .u64 (p0 : Int), .int .u64 (p1 : Int), .int .u64 (p2 : Int), .int .u64 (p3 : Int)] ∧ Blk w' (P + 1) 54 #[.int .u64 (q0 : Int), .int .u64 (q1 : Int), .int .u64 (q2 : Int), .int .u64 (q3 : Int)] ∧ w.heap.size + 1 < P ∧ Below w.heap.size w w'
theorem DEnv.kept {w w1 w2 : World} {P a0 a1 a2 a3 b0 b1 b2 b3 p0 p1 p2 p3 q0 q1 q2 q3 : Nat} (h : DEnv w P a0 a1 a2 a3 b0 b1 b2 b3 p0 p1 p2 p3 q0 q1 q2 q3 w1) (hb : Below w1.heap.size w1 w2) : DEnv w P a0 a1 a2 a3 b0 b1 b2 b3 p0 p1 p2 p3 q0 q1 q2 q3 w2 :=
  ⟨h.1.kept hb, h.2.1.kept hb, h.2.2.1.kept hb, h.2.2.2.1.kept hb, h.2.2.2.2.1, h.2.2.2.2.2.trans (hb.mono h.2.2.2.2.2.size)⟩
theorem DEnv.putP {w w1 : World} {P a0 a1 a2 a3 b0 b1 b2 b3 p0 p1 p2 p3 q0 q1 q2 q3 e0 e1 e2 e3 : Nat} (h : DEnv w P a0 a1 a2 a3 b0 b1 b2 b3 p0 p1 p2 p3 q0 q1 q2 q3 w1) : DEnv w P a0 a1 a2 a3 b0 b1 b2 b3 e0 e1 e2 e3 q0 q1 q2 q3 ((((w1.setCell ⟨P, 0, none⟩ (.int .u64 (e0 : Int))).setCell ⟨P, 1, none⟩ (.int .u64 (e1 : Int))).setCell ⟨P, 2, none⟩ (.int .u64 (e2 : Int))).setCell ⟨P, 3, none⟩ (.int .u64 (e3 : Int))) := by
  obtain ⟨h1, h2, h3, h4, h5, h6⟩ := h
  exact ⟨(((h1.far (by simp; omega) _).far (by simp; omega) _).far (by simp; omega) _).far (by simp; omega) _, (((h2.far (by simp; omega) _).far (by simp; omega) _).far (by simp; omega) _).far (by simp; omega) _, Blk4_set h3 _ _ _ _, (((h4.far (by simp) _).far (by simp) _).far (by simp) _).far (by simp) _, h5,
    (((h6.setCell (by simp; omega) _).setCell (by simp; omega) _).setCell (by simp; omega) _).setCell (by simp; omega) _⟩
theorem DEnv.putQ {w w1 : World} {P a0 a1 a2 a3 b0 b1 b2 b3 p0 p1 p2 p3 q0 q1 q2 q3 e0 e1 e2 e3 : Nat} (h : DEnv w P a0 a1 a2 a3 b0 b1 b2 b3 p0 p1 p2 p3 q0 q1 q2 q3 w1) : DEnv w P a0 a1 a2 a3 b0 b1 b2 b3 p0 p1 p2 p3 e0 e1 e2 e3 ((((w1.setCell ⟨P + 1, 0, none⟩ (.int .u64 (e0 : Int))).setCell ⟨P + 1, 1, none⟩ (.int .u64 (e1 : Int))).setCell ⟨P + 1, 2, none⟩ (.int .u64 (e2 : Int))).setCell ⟨P + 1, 3, none⟩ (.int .u64 (e3 : Int))) := by
  obtain ⟨h1, h2, h3, h4, h5, h6⟩ := h
  exact ⟨(((h1.far (by simp; omega) _).far (by simp; omega) _).far (by simp; omega) _).far (by simp; omega) _, (((h2.far (by simp; omega) _).far (by simp; omega) _).far (by simp; omega) _).far (by simp; omega) _, (((h3.far (by simp) _).far (by simp) _).far (by simp) _).far (by simp) _, Blk4_set h4 _ _ _ _, h5,
    (((h6.setCell (by simp; omega) _).setCell (by simp; omega) _).setCell (by simp; omega) _).setCell (by simp; omega) _⟩

set_option maxRecDepth 100000 in
set_option maxHeartbeats 16000000 in
theorem walk (a0 a1 a2 a3 b0 b1 b2 b3 : Nat) (s : ByteArray) (lo hi : Nat) (w : World) (ha : okC (a0, a1, a2, a3)) (hb : okC (b0, b1, b2, b3)) (hs : s.size ≤ 9223372036854775807) (hlo : lo < 256) (hhi : hi < 256) (hg : ErrT w) :
    Calls Tryd.prog 6 #[.agg #[.int .u64 (a0 : Int), .int .u64 (a1 : Int), .int .u64 (a2 : Int), .int .u64 (a3 : Int)], .agg #[.int .u64 (b0 : Int), .int .u64 (b1 : Int), .int .u64 (b2 : Int), .int .u64 (b3 : Int)], .string s, .int .u8 (lo : Int), .int .u8 (hi : Int)] w (LawIs w) := by
  obtain ⟨o0, o1, o2, o3, ho⟩ : ∃ n0 n1 n2 n3 : Nat, (n0, n1, n2, n3) = ofL s.data.toList zc := ex_cls _
  obtain ⟨n0, n1, n2, n3, hn⟩ : ∃ n0 n1 n2 n3 : Nat, (n0, n1, n2, n3) = notC (a0, a1, a2, a3) := ex_cls _
  obtain ⟨m, hm⟩ : ∃ p, p = cntC (a0, a1, a2, a3) := ex_nat _
  obtain ⟨t, ht⟩ : ∃ t : ByteArray, t.data.toList = textC (a0, a1, a2, a3) := ex_text _
  have hml : m ≤ 256 := by rw [hm]; exact cntC_le _
  have HOF : Hid (∀ W, Calls Tryd.prog 27 #[.string s] W (Told o0 o1 o2 o3 W)) := Lib.hid fun W => (Of_any s W hs).mono fun e w' h => told ho h
  have HOT : Hid (∀ W, Calls Tryd.prog 28 #[.string s] W (Told o0 o1 o2 o3 W)) := Lib.hid fun W => (ROfText_any s W hs).mono fun e w' h => told ho h
  have HNA : Hid (∀ W, Calls Tryd.prog 29 #[.agg #[.int .u64 (a0 : Int), .int .u64 (a1 : Int), .int .u64 (a2 : Int), .int .u64 (a3 : Int)]] W (Told n0 n1 n2 n3 W)) := Lib.hid fun W => (Not_any a0 a1 a2 a3 W ha).mono fun e w' h => told hn h
  have HNO : Hid (∀ W, Calls Tryd.prog 30 #[.agg #[.int .u64 (a0 : Int), .int .u64 (a1 : Int), .int .u64 (a2 : Int), .int .u64 (a3 : Int)]] W (Told n0 n1 n2 n3 W)) := Lib.hid fun W => (ROthers_any a0 a1 a2 a3 W ha).mono fun e w' h => told hn h
  have HMA : Hid (∀ W, Calls Tryd.prog 31 #[.agg #[.int .u64 (a0 : Int), .int .u64 (a1 : Int), .int .u64 (a2 : Int), .int .u64 (a3 : Int)]] W (fun e w' => e = .returned (.int .i64 (m : Int)) ∧ Below W.heap.size W w')) := Lib.hid fun W => (Many_any a0 a1 a2 a3 W ha).mono fun e w' ⟨k, h1, h2, h3⟩ => ⟨by rw [h1, h2, hm], h3⟩
  have HCN : Hid (∀ W, Calls Tryd.prog 32 #[.agg #[.int .u64 (a0 : Int), .int .u64 (a1 : Int), .int .u64 (a2 : Int), .int .u64 (a3 : Int)]] W (fun e w' => e = .returned (.int .i64 (m : Int)) ∧ Below W.heap.size W w')) := Lib.hid fun W => (RCount_any a0 a1 a2 a3 W ha).mono fun e w' ⟨h1, h3⟩ => ⟨by rw [h1, hm, cntR_C], h3⟩
  have HTA : Hid (∀ W, Calls Tryd.prog 33 #[.agg #[.int .u64 (a0 : Int), .int .u64 (a1 : Int), .int .u64 (a2 : Int), .int .u64 (a3 : Int)]] W (fun e w' => e = .returned (.string t) ∧ Below W.heap.size W w')) := Lib.hid fun W => (Text_any a0 a1 a2 a3 W ha).mono fun e w' ⟨k, h1, h2, h3⟩ => ⟨by rw [h1, bytes_ext (h2.trans ht.symm)], h3⟩
  have HTC : Hid (∀ W, Calls Tryd.prog 34 #[.agg #[.int .u64 (a0 : Int), .int .u64 (a1 : Int), .int .u64 (a2 : Int), .int .u64 (a3 : Int)]] W (fun e w' => e = .returned (.string t) ∧ Below W.heap.size W w')) := Lib.hid fun W => (RClassText_any a0 a1 a2 a3 W ha).mono fun e w' ⟨k, h1, h2, h3⟩ => ⟨by rw [h1, bytes_ext (h2.trans ht.symm)], h3⟩
  have HIA := Lib.hid (fun (k : Nat) (hk : k < 256) (W : World) => RIn_any a0 a1 a2 a3 k W ha hk)
  have HIB := Lib.hid (fun (k : Nat) (hk : k < 256) (W : World) => RIn_any b0 b1 b2 b3 k W hb hk)
  have HHA := Lib.hid (fun (k : Nat) (hk : k < 256) (W : World) => Has_any a0 a1 a2 a3 k W ha hk)
  have HOKA := Lib.hid ha
  have HOKB := Lib.hid hb
  have HBO := Lib.hid (fun W => Both_any a0 a1 a2 a3 b0 b1 b2 b3 W ha hb)
  have HEI := Lib.hid (fun W => Either_any a0 a1 a2 a3 b0 b1 b2 b3 W ha hb)
  have heo : cls4 o0 o1 o2 o3 o0 o1 o2 o3 = true := by rw [cls4_iff]
  have hen : cls4 n0 n1 n2 n3 n0 n1 n2 n3 = true := by rw [cls4_iff]
  have HG := Lib.hid hg
  have HW0 := Lib.hid (WEnv.new w a0 a1 a2 a3 b0 b1 b2 b3)
  clear ha hb ho hn hm ht hg hs
  by_cases hlh : hi < lo
  · have hdl : decide (hi < lo) = true := by simpa using hlh
    have HRN := Lib.hid (fun W => Range_no lo hi W hlh)
    unfold RangeNo at HRN
    have her : cls4 0 0 0 0 0 0 0 0 = true := by decide
    clear hlh
    go_enter Tryd.func6, Tryd.ntmps6
    go_wp2_with fail
    refine (HRN.out _).mono ?_
    rintro e w2 ⟨rfl, hb2⟩
    have HE2 := Lib.hid (HW0.out.kept hb2)
    clear hb2 HW0 HRN
    go_wp2_with fail
    have hCE : CEnv w w2.heap.size a0 a1 a2 a3 b0 b1 b2 b3 0 0 0 0 (w2.alloc (.cells #[.int .u64 0, .int .u64 0, .int .u64 0, .int .u64 0] 54)) := ⟨HE2.out.1.alloc _, HE2.out.2.1.alloc _, HE2.out.2.2.1.alloc _, Blk.new _ _ _, HE2.out.2.2.2.trans ((Below.refl _ _).alloc HE2.out.2.2.2.size _)⟩
    have HC := Lib.hid hCE
    clear hCE HE2
    generalize w2.heap.size = C at *
    obtain ⟨W3, hW3⟩ : ∃ W, W = (w2.alloc (.cells #[.int .u64 0, .int .u64 0, .int .u64 0, .int .u64 0] 54)) := ⟨_, rfl⟩
    rw [← hW3] at HC ⊢
    clear hW3
    have HS : Hid (∀ w', Hid (CEnv w C a0 a1 a2 a3 b0 b1 b2 b3 0 0 0 0 w') → (w'.cell? ⟨C, 0, none⟩ = some (.int .u64 0) ∧ w'.cell? ⟨C, 1, none⟩ = some (.int .u64 0) ∧ w'.cell? ⟨C, 2, none⟩ = some (.int .u64 0) ∧ w'.cell? ⟨C, 3, none⟩ = some (.int .u64 0) ∧ w'.cell? ⟨w.heap.size + 1 + 1, 0, none⟩ = some (.int .u64 0) ∧ w'.cell? ⟨w.heap.size + 1 + 1, 1, none⟩ = some (.int .u64 0) ∧ w'.cell? ⟨w.heap.size + 1 + 1, 2, none⟩ = some (.int .u64 0) ∧ w'.cell? ⟨w.heap.size + 1 + 1, 3, none⟩ = some (.int .u64 0) ∧ w'.cell? ⟨w.heap.size, 0, none⟩ = some (.int .u64 (a0 : Int)) ∧ w'.cell? ⟨w.heap.size, 1, none⟩ = some (.int .u64 (a1 : Int)) ∧ w'.cell? ⟨w.heap.size, 2, none⟩ = some (.int .u64 (a2 : Int)) ∧ w'.cell? ⟨w.heap.size, 3, none⟩ = some (.int .u64 (a3 : Int)) ∧ Hid (CEnv w C a0 a1 a2 a3 b0 b1 b2 b3 0 0 0 0 w'))) := Lib.hid (fun w' h => by
      have q1 := (Blk4 h.out.2.2.2.1).1
      have q2 := (Blk4 h.out.2.2.1).1
      have q3 := (Blk4 h.out.1).1
      exact ⟨q1.1, q1.2.1, q1.2.2.1, q1.2.2.2, q2.1, q2.2.1, q2.2.2.1, q2.2.2.2, q3.1, q3.2.1, q3.2.2.1, q3.2.2.2, h⟩)
    have HK : Hid (∀ w1 w2, Hid (CEnv w C a0 a1 a2 a3 b0 b1 b2 b3 0 0 0 0 w1) → Below w1.heap.size w1 w2 → Hid (CEnv w C a0 a1 a2 a3 b0 b1 b2 b3 0 0 0 0 w2)) := Lib.hid fun w1 w2 h1 h2 => Lib.hid (h1.out.kept h2)
    have hse := SErr_any 1 1 W3 (HG.out.below HC.out.2.2.2.2)
    refine hse.mono ?_
    clear hse
    rintro e w4 ⟨rr, rfl, hrr, hb4⟩
    obtain rfl : rr = true := hrr.2 rfl
    have HC4 := HK.out _ _ HC hb4
    clear hrr hb4 HC
    go_wp2_with fail
    have HCD : Hid (CEnv w C a0 a1 a2 a3 b0 b1 b2 b3 0 0 0 0 w4.drew) := HK.out _ _ HC4 (Below.refl _ _).drew
    go_region_held3 (fun w' => w'.cell? ⟨C, 0, none⟩ = some (.int .u64 0) ∧ w'.cell? ⟨C, 1, none⟩ = some (.int .u64 0) ∧ w'.cell? ⟨C, 2, none⟩ = some (.int .u64 0) ∧ w'.cell? ⟨C, 3, none⟩ = some (.int .u64 0) ∧ w'.cell? ⟨w.heap.size + 1 + 1, 0, none⟩ = some (.int .u64 0) ∧ w'.cell? ⟨w.heap.size + 1 + 1, 1, none⟩ = some (.int .u64 0) ∧ w'.cell? ⟨w.heap.size + 1 + 1, 2, none⟩ = some (.int .u64 0) ∧ w'.cell? ⟨w.heap.size + 1 + 1, 3, none⟩ = some (.int .u64 0) ∧ w'.cell? ⟨w.heap.size, 0, none⟩ = some (.int .u64 (a0 : Int)) ∧ w'.cell? ⟨w.heap.size, 1, none⟩ = some (.int .u64 (a1 : Int)) ∧ w'.cell? ⟨w.heap.size, 2, none⟩ = some (.int .u64 (a2 : Int)) ∧ w'.cell? ⟨w.heap.size, 3, none⟩ = some (.int .u64 (a3 : Int)) ∧ Hid (CEnv w C a0 a1 a2 a3 b0 b1 b2 b3 0 0 0 0 w'))
      (exact HS.out _ (by assumption))
      (first
        | (go_at_call 27; refine (HOF.out _).mono ?_; rintro e w5 ⟨rfl, hb5⟩; have hl5 := HK.out _ _ (by assumption) hb5)
        | (go_at_call 28; refine (HOT.out _).mono ?_; rintro e w5 ⟨rfl, hb5⟩; have hl5 := HK.out _ _ (by assumption) hb5)
        | (go_at_call 29; refine (HNA.out _).mono ?_; rintro e w5 ⟨rfl, hb5⟩; have hl5 := HK.out _ _ (by assumption) hb5)
        | (go_at_call 30; refine (HNO.out _).mono ?_; rintro e w5 ⟨rfl, hb5⟩; have hl5 := HK.out _ _ (by assumption) hb5)
        | (go_at_call 31; refine (HMA.out _).mono ?_; rintro e w5 ⟨rfl, hb5⟩; have hl5 := HK.out _ _ (by assumption) hb5)
        | (go_at_call 32; refine (HCN.out _).mono ?_; rintro e w5 ⟨rfl, hb5⟩; have hl5 := HK.out _ _ (by assumption) hb5)
        | (go_at_call 33; refine (HTA.out _).mono ?_; rintro e w5 ⟨rfl, hb5⟩; have hl5 := HK.out _ _ (by assumption) hb5)
        | (go_at_call 34; refine (HTC.out _).mono ?_; rintro e w5 ⟨rfl, hb5⟩; have hl5 := HK.out _ _ (by assumption) hb5))
    have HL5 := hl5
    clear hl5 hb5 HCD HC4 HOF HOT HNA HNO HMA HCN HTA HTC HS HK
    have hDE : DEnv w w5.heap.size a0 a1 a2 a3 b0 b1 b2 b3 0 0 0 0 0 0 0 0 ((w5.alloc (.cells #[.int .u64 0, .int .u64 0, .int .u64 0, .int .u64 0] 54)).alloc (.cells #[.int .u64 0, .int .u64 0, .int .u64 0, .int .u64 0] 54)) := by
      have h2 := Blk.new (w5.alloc (.cells #[.int .u64 0, .int .u64 0, .int .u64 0, .int .u64 0] 54)) 54 #[.int .u64 0, .int .u64 0, .int .u64 0, .int .u64 0]
      rw [World.size_alloc] at h2
      exact ⟨(HL5.out.1.alloc _).alloc _, (HL5.out.2.1.alloc _).alloc _, (Blk.new w5 _ _).alloc _, h2, Nat.lt_of_le_of_lt (by omega) HL5.out.2.2.1.lt, ((HL5.out.2.2.2.2.alloc HL5.out.2.2.2.2.size _).alloc (by have := HL5.out.2.2.2.2.size; simp; omega) _)⟩
    have HD0 := Lib.hid hDE
    clear hDE HL5
    go_wp2_with fail
    generalize w5.heap.size = P at *
    go_loopw [19] (fun v19 wr => ∃ (k p0 p1 p2 p3 q0 q1 q2 q3 : Nat), k ≤ 256 ∧ v19 = .int .i64 (k : Int) ∧ Hid ((p0, p1, p2, p3) = selC (fun j => has (a0, a1, a2, a3) j && has (b0, b1, b2, b3) j) k) ∧ Hid ((q0, q1, q2, q3) = selC (fun j => has (a0, a1, a2, a3) j || has (b0, b1, b2, b3) j) k) ∧ Hid (DEnv w P a0 a1 a2 a3 b0 b1 b2 b3 p0 p1 p2 p3 q0 q1 q2 q3 wr)) (fun i _ => 256 - (intOf i).toNat)
    case atStart => exact ⟨0, 0, 0, 0, 0, 0, 0, 0, 0, by omega, rfl, Lib.hid rfl, Lib.hid rfl, HD0⟩
    case round =>
      clear HD0
      obtain ⟨k, p0, p1, p2, p3, q0, q1, q2, q3, hk, rfl, hP, hQ, hE⟩ := hrel
      obtain ⟨⟨x0, x1, x2, x3⟩, _⟩ := Blk4 hE.out.1
      by_cases hlt : k < 256
      · have hk0 : (0 : Int) ≤ (k : Int) := by omega
        have hk1 : (k : Int) < 256 := by omega
        have HIAk := Lib.hid (HIA.out k hlt)
        have HIBk := Lib.hid (HIB.out k hlt)
        have HHAk := Lib.hid (HHA.out k hlt)
        unfold RInIs at HIAk HIBk
        unfold HasIs at HHAk
        have hsP : selC (fun j => has (a0, a1, a2, a3) j && has (b0, b1, b2, b3) j) (k + 1) = if (has (a0, a1, a2, a3) k && has (b0, b1, b2, b3) k) = true then withB (p0, p1, p2, p3) k else (p0, p1, p2, p3) := by rw [hP.out]; simp [selC]
        have hsQ : selC (fun j => has (a0, a1, a2, a3) j || has (b0, b1, b2, b3) j) (k + 1) = if (has (a0, a1, a2, a3) k || has (b0, b1, b2, b3) k) = true then withB (q0, q1, q2, q3) k else (q0, q1, q2, q3) := by rw [hQ.out]; simp [selC]
        have hokP : okC (p0, p1, p2, p3) := by rw [hP.out]; exact okC_sel _ _
        have hokQ : okC (q0, q1, q2, q3) := by rw [hQ.out]; exact okC_sel _ _
        have HWP := Lib.hid (fun W => RWith_any p0 p1 p2 p3 k W hokP hlt)
        have HWQ := Lib.hid (fun W => RWith_any q0 q1 q2 q3 k W hokQ hlt)
        unfold ClsIs at HWP HWQ
        clear hokP hokQ hP hQ
        cases hxa : has (a0, a1, a2, a3) k <;> cases hxb : has (b0, b1, b2, b3) k
        · rw [hxa] at HIAk HHAk
          rw [hxb] at HIBk
          rw [hxa, hxb] at hsP hsQ
          simp only [Bool.and_self, Bool.or_self, Bool.and_true, Bool.true_and, Bool.or_true, Bool.true_or, Bool.and_false, Bool.false_and, Bool.or_false, Bool.false_or, if_true, if_false, Bool.false_eq_true] at hsP hsQ
          have HSP := Lib.hid hsP
          have HSQ := Lib.hid hsQ
          clear hxa hxb hsP hsQ
          go_wp2_with fail
          refine (HIAk.out _).mono ?_
          rintro e w6 ⟨rfl, hb6⟩
          have HE6 := Lib.hid (hE.out.kept hb6)
          obtain ⟨⟨x0, x1, x2, x3⟩, _⟩ := Blk4 HE6.out.2.1
          clear hb6 hE
          go_wp2_with fail
          refine (HIBk.out _).mono ?_
          rintro e w7 ⟨rfl, hb7⟩
          have HE7 := Lib.hid (HE6.out.kept hb7)
          obtain ⟨⟨x0, x1, x2, x3⟩, _⟩ := Blk4 HE7.out.1
          clear hb7 HE6
          go_wp2_with fail
          refine (HHAk.out _).mono ?_
          rintro e w8 ⟨rfl, hb8⟩
          have HE8 := Lib.hid (HE7.out.kept hb8)
          clear hb8 HE7 x0 x1 x2 x3
          go_wp2_with fail
          go_roundw
          case rel => exact ⟨k + 1, p0, p1, p2, p3, q0, q1, q2, q3, by omega, by go_num, Lib.hid (by rw [HSP.out]), Lib.hid (by rw [HSQ.out]), HE8⟩
          case measure => simp [intOf]; omega
        · rw [hxa] at HIAk HHAk
          rw [hxb] at HIBk
          rw [hxa, hxb] at hsP hsQ
          simp only [Bool.and_self, Bool.or_self, Bool.and_true, Bool.true_and, Bool.or_true, Bool.true_or, Bool.and_false, Bool.false_and, Bool.or_false, Bool.false_or, if_true, if_false, Bool.false_eq_true] at hsP hsQ
          have HSP := Lib.hid hsP
          have HSQ := Lib.hid hsQ
          clear hxa hxb hsP hsQ
          go_wp2_with fail
          refine (HIAk.out _).mono ?_
          rintro e w6 ⟨rfl, hb6⟩
          have HE6 := Lib.hid (hE.out.kept hb6)
          obtain ⟨⟨x0, x1, x2, x3⟩, _⟩ := Blk4 HE6.out.2.1
          clear hb6 hE
          go_wp2_with fail
          refine (HIBk.out _).mono ?_
          rintro e w7 ⟨rfl, hb7⟩
          have HE7 := Lib.hid (HE6.out.kept hb7)
          obtain ⟨⟨x0, x1, x2, x3⟩, _⟩ := Blk4 HE7.out.1
          clear hb7 HE6
          go_wp2_with fail
          refine (HHAk.out _).mono ?_
          rintro e w8 ⟨rfl, hb8⟩
          have HE8 := Lib.hid (HE7.out.kept hb8)
          clear hb8 HE7 x0 x1 x2 x3
          obtain ⟨⟨x0, x1, x2, x3⟩, _⟩ := Blk4 HE8.out.2.2.2.1
          go_wp2_with fail
          refine (HWQ.out _).mono ?_
          rintro e wA ⟨f0, f1, f2, f3, rfl, hf, hbA⟩
          have HFF := Lib.hid hf
          have HEB := Lib.hid (HE8.out.kept hbA)
          obtain ⟨_, z0, z1, z2, z3⟩ := Blk4 HEB.out.2.2.2.1
          clear hbA hf x0 x1 x2 x3
          have HEC := Lib.hid (HEB.out.putQ (e0 := f0) (e1 := f1) (e2 := f2) (e3 := f3))
          go_wp2_with fail
          go_roundw
          case rel => exact ⟨k + 1, p0, p1, p2, p3, f0, f1, f2, f3, by omega, by go_num, Lib.hid (by rw [HSP.out]), Lib.hid (by rw [HSQ.out, HFF.out]), HEC⟩
          case measure => simp [intOf]; omega
        · rw [hxa] at HIAk HHAk
          rw [hxb] at HIBk
          rw [hxa, hxb] at hsP hsQ
          simp only [Bool.and_self, Bool.or_self, Bool.and_true, Bool.true_and, Bool.or_true, Bool.true_or, Bool.and_false, Bool.false_and, Bool.or_false, Bool.false_or, if_true, if_false, Bool.false_eq_true] at hsP hsQ
          have HSP := Lib.hid hsP
          have HSQ := Lib.hid hsQ
          clear hxa hxb hsP hsQ
          go_wp2_with fail
          refine (HIAk.out _).mono ?_
          rintro e w6 ⟨rfl, hb6⟩
          have HE6 := Lib.hid (hE.out.kept hb6)
          obtain ⟨⟨x0, x1, x2, x3⟩, _⟩ := Blk4 HE6.out.2.1
          clear hb6 hE
          go_wp2_with fail
          refine (HIBk.out _).mono ?_
          rintro e w7 ⟨rfl, hb7⟩
          have HE7 := Lib.hid (HE6.out.kept hb7)
          obtain ⟨⟨x0, x1, x2, x3⟩, _⟩ := Blk4 HE7.out.1
          clear hb7 HE6
          go_wp2_with fail
          refine (HHAk.out _).mono ?_
          rintro e w8 ⟨rfl, hb8⟩
          have HE8 := Lib.hid (HE7.out.kept hb8)
          clear hb8 HE7 x0 x1 x2 x3
          obtain ⟨⟨x0, x1, x2, x3⟩, _⟩ := Blk4 HE8.out.2.2.2.1
          go_wp2_with fail
          refine (HWQ.out _).mono ?_
          rintro e wA ⟨f0, f1, f2, f3, rfl, hf, hbA⟩
          have HFF := Lib.hid hf
          have HEB := Lib.hid (HE8.out.kept hbA)
          obtain ⟨_, z0, z1, z2, z3⟩ := Blk4 HEB.out.2.2.2.1
          clear hbA hf x0 x1 x2 x3
          have HEC := Lib.hid (HEB.out.putQ (e0 := f0) (e1 := f1) (e2 := f2) (e3 := f3))
          go_wp2_with fail
          go_roundw
          case rel => exact ⟨k + 1, p0, p1, p2, p3, f0, f1, f2, f3, by omega, by go_num, Lib.hid (by rw [HSP.out]), Lib.hid (by rw [HSQ.out, HFF.out]), HEC⟩
          case measure => simp [intOf]; omega
        · rw [hxa] at HIAk HHAk
          rw [hxb] at HIBk
          rw [hxa, hxb] at hsP hsQ
          simp only [Bool.and_self, Bool.or_self, Bool.and_true, Bool.true_and, Bool.or_true, Bool.true_or, Bool.and_false, Bool.false_and, Bool.or_false, Bool.false_or, if_true, if_false, Bool.false_eq_true] at hsP hsQ
          have HSP := Lib.hid hsP
          have HSQ := Lib.hid hsQ
          clear hxa hxb hsP hsQ
          go_wp2_with fail
          refine (HIAk.out _).mono ?_
          rintro e w6 ⟨rfl, hb6⟩
          have HE6 := Lib.hid (hE.out.kept hb6)
          obtain ⟨⟨x0, x1, x2, x3⟩, _⟩ := Blk4 HE6.out.2.1
          clear hb6 hE
          go_wp2_with fail
          refine (HIBk.out _).mono ?_
          rintro e w7 ⟨rfl, hb7⟩
          have HE7 := Lib.hid (HE6.out.kept hb7)
          obtain ⟨⟨x0, x1, x2, x3⟩, _⟩ := Blk4 HE7.out.1
          clear hb7 HE6
          go_wp2_with fail
          refine (HHAk.out _).mono ?_
          rintro e w8 ⟨rfl, hb8⟩
          have HE8 := Lib.hid (HE7.out.kept hb8)
          clear hb8 HE7 x0 x1 x2 x3
          obtain ⟨⟨x0, x1, x2, x3⟩, _⟩ := Blk4 HE8.out.2.2.1
          go_wp2_with fail
          refine (HWP.out _).mono ?_
          rintro e w9 ⟨e0, e1, e2, e3, rfl, he, hb9⟩
          have HEE := Lib.hid he
          have HE9 := Lib.hid (HE8.out.kept hb9)
          obtain ⟨_, z0, z1, z2, z3⟩ := Blk4 HE9.out.2.2.1
          clear hb9 HE8 he x0 x1 x2 x3
          have HEA := Lib.hid (HE9.out.putP (e0 := e0) (e1 := e1) (e2 := e2) (e3 := e3))
          obtain ⟨⟨x0, x1, x2, x3⟩, _⟩ := Blk4 HEA.out.2.2.2.1
          go_wp2_with fail
          refine (HWQ.out _).mono ?_
          rintro e wA ⟨f0, f1, f2, f3, rfl, hf, hbA⟩
          have HFF := Lib.hid hf
          have HEB := Lib.hid (HEA.out.kept hbA)
          obtain ⟨_, z0, z1, z2, z3⟩ := Blk4 HEB.out.2.2.2.1
          clear hbA hf x0 x1 x2 x3
          have HEC := Lib.hid (HEB.out.putQ (e0 := f0) (e1 := f1) (e2 := f2) (e3 := f3))
          go_wp2_with fail
          go_roundw
          case rel => exact ⟨k + 1, e0, e1, e2, e3, f0, f1, f2, f3, by omega, by go_num, Lib.hid (by rw [HSP.out, HEE.out]), Lib.hid (by rw [HSQ.out, HFF.out]), HEC⟩
          case measure => simp [intOf]; omega
      · obtain rfl : k = 256 := by omega
        have hp : (p0, p1, p2, p3) = bothC (a0, a1, a2, a3) (b0, b1, b2, b3) := by rw [hP.out, sel_both HOKA.out]
        have hq : (q0, q1, q2, q3) = eitherC (a0, a1, a2, a3) (b0, b1, b2, b3) := by rw [hQ.out, sel_either HOKA.out HOKB.out]
        have HB2 : Hid (∀ W, Calls Tryd.prog 37 #[.agg #[.int .u64 (a0 : Int), .int .u64 (a1 : Int), .int .u64 (a2 : Int), .int .u64 (a3 : Int)], .agg #[.int .u64 (b0 : Int), .int .u64 (b1 : Int), .int .u64 (b2 : Int), .int .u64 (b3 : Int)]] W (Told p0 p1 p2 p3 W)) := Lib.hid fun W => (HBO.out W).mono fun e w' h => told hp h
        have HE2 : Hid (∀ W, Calls Tryd.prog 38 #[.agg #[.int .u64 (a0 : Int), .int .u64 (a1 : Int), .int .u64 (a2 : Int), .int .u64 (a3 : Int)], .agg #[.int .u64 (b0 : Int), .int .u64 (b1 : Int), .int .u64 (b2 : Int), .int .u64 (b3 : Int)]] W (Told q0 q1 q2 q3 W)) := Lib.hid fun W => (HEI.out W).mono fun e w' h => told hq h
        have hep : cls4 p0 p1 p2 p3 p0 p1 p2 p3 = true := by rw [cls4_iff]
        have heq : cls4 q0 q1 q2 q3 q0 q1 q2 q3 = true := by rw [cls4_iff]
        have HS : Hid (∀ w', Hid (DEnv w P a0 a1 a2 a3 b0 b1 b2 b3 p0 p1 p2 p3 q0 q1 q2 q3 w') → (w'.cell? ⟨w.heap.size, 0, none⟩ = some (.int .u64 (a0 : Int)) ∧ w'.cell? ⟨w.heap.size, 1, none⟩ = some (.int .u64 (a1 : Int)) ∧ w'.cell? ⟨w.heap.size, 2, none⟩ = some (.int .u64 (a2 : Int)) ∧ w'.cell? ⟨w.heap.size, 3, none⟩ = some (.int .u64 (a3 : Int)) ∧ w'.cell? ⟨w.heap.size + 1, 0, none⟩ = some (.int .u64 (b0 : Int)) ∧ w'.cell? ⟨w.heap.size + 1, 1, none⟩ = some (.int .u64 (b1 : Int)) ∧ w'.cell? ⟨w.heap.size + 1, 2, none⟩ = some (.int .u64 (b2 : Int)) ∧ w'.cell? ⟨w.heap.size + 1, 3, none⟩ = some (.int .u64 (b3 : Int)) ∧ w'.cell? ⟨P, 0, none⟩ = some (.int .u64 (p0 : Int)) ∧ w'.cell? ⟨P, 1, none⟩ = some (.int .u64 (p1 : Int)) ∧ w'.cell? ⟨P, 2, none⟩ = some (.int .u64 (p2 : Int)) ∧ w'.cell? ⟨P, 3, none⟩ = some (.int .u64 (p3 : Int)) ∧ w'.cell? ⟨P + 1, 0, none⟩ = some (.int .u64 (q0 : Int)) ∧ w'.cell? ⟨P + 1, 1, none⟩ = some (.int .u64 (q1 : Int)) ∧ w'.cell? ⟨P + 1, 2, none⟩ = some (.int .u64 (q2 : Int)) ∧ w'.cell? ⟨P + 1, 3, none⟩ = some (.int .u64 (q3 : Int)) ∧ Hid (DEnv w P a0 a1 a2 a3 b0 b1 b2 b3 p0 p1 p2 p3 q0 q1 q2 q3 w'))) := Lib.hid (fun w' h => by
          have q1' := (Blk4 h.out.1).1
          have q2' := (Blk4 h.out.2.1).1
          have q3' := (Blk4 h.out.2.2.1).1
          have q4' := (Blk4 h.out.2.2.2.1).1
          exact ⟨q1'.1, q1'.2.1, q1'.2.2.1, q1'.2.2.2, q2'.1, q2'.2.1, q2'.2.2.1, q2'.2.2.2, q3'.1, q3'.2.1, q3'.2.2.1, q3'.2.2.2, q4'.1, q4'.2.1, q4'.2.2.1, q4'.2.2.2, h⟩)
        have HK : Hid (∀ w1 w2, Hid (DEnv w P a0 a1 a2 a3 b0 b1 b2 b3 p0 p1 p2 p3 q0 q1 q2 q3 w1) → Below w1.heap.size w1 w2 → Hid (DEnv w P a0 a1 a2 a3 b0 b1 b2 b3 p0 p1 p2 p3 q0 q1 q2 q3 w2)) := Lib.hid fun w1 w2 h1 h2 => Lib.hid (h1.out.kept h2)
        have HCD : Hid (DEnv w P a0 a1 a2 a3 b0 b1 b2 b3 p0 p1 p2 p3 q0 q1 q2 q3 wr.drew) := HK.out _ _ hE (Below.refl _ _).drew
        clear hp hq hP hQ HBO HEI x0 x1 x2 x3
        go_wp2_with fail
        go_region_held3 (fun w' => w'.cell? ⟨w.heap.size, 0, none⟩ = some (.int .u64 (a0 : Int)) ∧ w'.cell? ⟨w.heap.size, 1, none⟩ = some (.int .u64 (a1 : Int)) ∧ w'.cell? ⟨w.heap.size, 2, none⟩ = some (.int .u64 (a2 : Int)) ∧ w'.cell? ⟨w.heap.size, 3, none⟩ = some (.int .u64 (a3 : Int)) ∧ w'.cell? ⟨w.heap.size + 1, 0, none⟩ = some (.int .u64 (b0 : Int)) ∧ w'.cell? ⟨w.heap.size + 1, 1, none⟩ = some (.int .u64 (b1 : Int)) ∧ w'.cell? ⟨w.heap.size + 1, 2, none⟩ = some (.int .u64 (b2 : Int)) ∧ w'.cell? ⟨w.heap.size + 1, 3, none⟩ = some (.int .u64 (b3 : Int)) ∧ w'.cell? ⟨P, 0, none⟩ = some (.int .u64 (p0 : Int)) ∧ w'.cell? ⟨P, 1, none⟩ = some (.int .u64 (p1 : Int)) ∧ w'.cell? ⟨P, 2, none⟩ = some (.int .u64 (p2 : Int)) ∧ w'.cell? ⟨P, 3, none⟩ = some (.int .u64 (p3 : Int)) ∧ w'.cell? ⟨P + 1, 0, none⟩ = some (.int .u64 (q0 : Int)) ∧ w'.cell? ⟨P + 1, 1, none⟩ = some (.int .u64 (q1 : Int)) ∧ w'.cell? ⟨P + 1, 2, none⟩ = some (.int .u64 (q2 : Int)) ∧ w'.cell? ⟨P + 1, 3, none⟩ = some (.int .u64 (q3 : Int)) ∧ Hid (DEnv w P a0 a1 a2 a3 b0 b1 b2 b3 p0 p1 p2 p3 q0 q1 q2 q3 w'))
          (exact HS.out _ (by assumption))
          (first
            | (go_at_call 37; refine (HB2.out _).mono ?_; rintro e w9 ⟨rfl, hb9⟩; have hl9 := HK.out _ _ (by assumption) hb9)
            | (go_at_call 38; refine (HE2.out _).mono ?_; rintro e w9 ⟨rfl, hb9⟩; have hl9 := HK.out _ _ (by assumption) hb9))
        have HL9 := hl9
        clear hl9 hb9
        go_wp2_with fail
        go_ret
        exact ⟨by rfl, HL9.out.2.2.2.2.2⟩

  · have hdl : decide (hi < lo) = false := by simp; omega
    have HRG := Lib.hid (fun W => Range_ok lo hi W (by omega) hhi)
    unfold RangeIs at HRG
    have i1 : (0 : Int) ≤ (lo : Int) := by omega
    have i2 : (lo : Int) < 256 := by omega
    have i3 : (0 : Int) ≤ (hi : Int) := by omega
    have i4 : (hi : Int) < 256 := by omega
    go_enter Tryd.func6, Tryd.ntmps6
    go_wp2_with fail
    go_loopw [13] (fun v13 wr => ∃ (k : Nat) (r0 r1 r2 r3 : Nat), lo ≤ k ∧ k ≤ hi + 1 ∧ v13 = .int .i64 (k : Int) ∧ Hid ((r0, r1, r2, r3) = rngC lo (k - lo)) ∧ Hid (WEnv w a0 a1 a2 a3 b0 b1 b2 b3 r0 r1 r2 r3 wr)) (fun i _ => hi + 1 - (intOf i).toNat)
    case atStart => exact ⟨lo, 0, 0, 0, 0, by omega, by omega, by go_num, Lib.hid (by rw [Nat.sub_self]; rfl), HW0⟩
    case round =>
      clear HW0
      obtain ⟨k, r0, r1, r2, r3, hk, hk2, rfl, hc, hE⟩ := hrel
      obtain ⟨⟨x0, x1, x2, x3⟩, _⟩ := Blk4 hE.out.2.2.1
      by_cases hlt : k < hi + 1
      · have hd2 : decide ((k : Int) ≤ (hi : Int)) = true := by simp; omega
        have hk0 : (0 : Int) ≤ (k : Int) := by omega
        have hk1 : (k : Int) < 256 := by omega
        have hokr : okC (r0, r1, r2, r3) := by rw [hc.out]; exact okC_rng _ _
        have hnext : withB (r0, r1, r2, r3) k = rngC lo (k + 1 - lo) := by
          rw [show k + 1 - lo = (k - lo) + 1 by omega]
          simp only [rngC]
          rw [← hc.out, show lo + (k - lo) = k by omega]
        have HN := Lib.hid hnext
        have HWT := Lib.hid (fun W => RWith_any r0 r1 r2 r3 k W hokr (by omega))
        unfold ClsIs at HWT
        clear hnext hokr hc
        go_wp2_with fail
        refine (HWT.out _).mono ?_
        rintro e w1 ⟨d0, d1, d2, d3, rfl, hd3, hb1⟩
        have HD := Lib.hid hd3
        have HE1 := Lib.hid (hE.out.kept hb1)
        obtain ⟨_, z0, z1, z2, z3⟩ := Blk4 HE1.out.2.2.1
        clear hd3 hb1 x0 x1 x2 x3 hE
        go_wp2_with fail
        go_roundw
        case rel => exact ⟨k + 1, d0, d1, d2, d3, by omega, by omega, by go_num, Lib.hid (by rw [HD.out, HN.out]), Lib.hid HE1.out.put⟩
        case measure => simp [intOf]; omega
      · obtain rfl : k = hi + 1 := by omega
        have hd2 : decide (((hi + 1 : Nat) : Int) ≤ (hi : Int)) = false := by simp; omega
        have HR := Lib.hid hc.out
        have her : cls4 r0 r1 r2 r3 r0 r1 r2 r3 = true := by rw [cls4_iff]
        clear hc x0 x1 x2 x3
        go_wp2_with fail
        refine (HRG.out _).mono ?_
        rintro e w2 ⟨d0, d1, d2, d3, rfl, hd3, hb2⟩
        obtain ⟨rfl, rfl, rfl, rfl⟩ : d0 = r0 ∧ d1 = r1 ∧ d2 = r2 ∧ d3 = r3 := by
          have := hd3.trans HR.out.symm
          simpa using this
        have HE2 := Lib.hid (hE.out.kept hb2)
        clear hd3 hb2 hE HRG
        go_wp2_with fail
        have hCE : CEnv w w2.heap.size a0 a1 a2 a3 b0 b1 b2 b3 d0 d1 d2 d3 (w2.alloc (.cells #[.int .u64 (d0 : Int), .int .u64 (d1 : Int), .int .u64 (d2 : Int), .int .u64 (d3 : Int)] 54)) := ⟨HE2.out.1.alloc _, HE2.out.2.1.alloc _, HE2.out.2.2.1.alloc _, Blk.new _ _ _, HE2.out.2.2.2.trans ((Below.refl _ _).alloc HE2.out.2.2.2.size _)⟩
        have HC := Lib.hid hCE
        clear hCE HE2
        generalize w2.heap.size = C at *
        obtain ⟨W3, hW3⟩ : ∃ W, W = (w2.alloc (.cells #[.int .u64 (d0 : Int), .int .u64 (d1 : Int), .int .u64 (d2 : Int), .int .u64 (d3 : Int)] 54)) := ⟨_, rfl⟩
        rw [← hW3] at HC ⊢
        clear hW3
        have HS : Hid (∀ w', Hid (CEnv w C a0 a1 a2 a3 b0 b1 b2 b3 d0 d1 d2 d3 w') → (w'.cell? ⟨C, 0, none⟩ = some (.int .u64 (d0 : Int)) ∧ w'.cell? ⟨C, 1, none⟩ = some (.int .u64 (d1 : Int)) ∧ w'.cell? ⟨C, 2, none⟩ = some (.int .u64 (d2 : Int)) ∧ w'.cell? ⟨C, 3, none⟩ = some (.int .u64 (d3 : Int)) ∧ w'.cell? ⟨w.heap.size + 1 + 1, 0, none⟩ = some (.int .u64 (d0 : Int)) ∧ w'.cell? ⟨w.heap.size + 1 + 1, 1, none⟩ = some (.int .u64 (d1 : Int)) ∧ w'.cell? ⟨w.heap.size + 1 + 1, 2, none⟩ = some (.int .u64 (d2 : Int)) ∧ w'.cell? ⟨w.heap.size + 1 + 1, 3, none⟩ = some (.int .u64 (d3 : Int)) ∧ w'.cell? ⟨w.heap.size, 0, none⟩ = some (.int .u64 (a0 : Int)) ∧ w'.cell? ⟨w.heap.size, 1, none⟩ = some (.int .u64 (a1 : Int)) ∧ w'.cell? ⟨w.heap.size, 2, none⟩ = some (.int .u64 (a2 : Int)) ∧ w'.cell? ⟨w.heap.size, 3, none⟩ = some (.int .u64 (a3 : Int)) ∧ Hid (CEnv w C a0 a1 a2 a3 b0 b1 b2 b3 d0 d1 d2 d3 w'))) := Lib.hid (fun w' h => by
          have q1 := (Blk4 h.out.2.2.2.1).1
          have q2 := (Blk4 h.out.2.2.1).1
          have q3 := (Blk4 h.out.1).1
          exact ⟨q1.1, q1.2.1, q1.2.2.1, q1.2.2.2, q2.1, q2.2.1, q2.2.2.1, q2.2.2.2, q3.1, q3.2.1, q3.2.2.1, q3.2.2.2, h⟩)
        have HK : Hid (∀ w1 w2, Hid (CEnv w C a0 a1 a2 a3 b0 b1 b2 b3 d0 d1 d2 d3 w1) → Below w1.heap.size w1 w2 → Hid (CEnv w C a0 a1 a2 a3 b0 b1 b2 b3 d0 d1 d2 d3 w2)) := Lib.hid fun w1 w2 h1 h2 => Lib.hid (h1.out.kept h2)
        have hse := SErr_any 0 0 W3 (HG.out.below HC.out.2.2.2.2)
        rw [errV_zero] at hse
        refine hse.mono ?_
        clear hse
        rintro e w4 ⟨rr, rfl, hrr, hb4⟩
        obtain rfl : rr = true := hrr.2 rfl
        have HC4 := HK.out _ _ HC hb4
        clear hrr hb4 HC
        go_wp2_with fail
        have HCD : Hid (CEnv w C a0 a1 a2 a3 b0 b1 b2 b3 d0 d1 d2 d3 w4.drew) := HK.out _ _ HC4 (Below.refl _ _).drew
        go_region_held3 (fun w' => w'.cell? ⟨C, 0, none⟩ = some (.int .u64 (d0 : Int)) ∧ w'.cell? ⟨C, 1, none⟩ = some (.int .u64 (d1 : Int)) ∧ w'.cell? ⟨C, 2, none⟩ = some (.int .u64 (d2 : Int)) ∧ w'.cell? ⟨C, 3, none⟩ = some (.int .u64 (d3 : Int)) ∧ w'.cell? ⟨w.heap.size + 1 + 1, 0, none⟩ = some (.int .u64 (d0 : Int)) ∧ w'.cell? ⟨w.heap.size + 1 + 1, 1, none⟩ = some (.int .u64 (d1 : Int)) ∧ w'.cell? ⟨w.heap.size + 1 + 1, 2, none⟩ = some (.int .u64 (d2 : Int)) ∧ w'.cell? ⟨w.heap.size + 1 + 1, 3, none⟩ = some (.int .u64 (d3 : Int)) ∧ w'.cell? ⟨w.heap.size, 0, none⟩ = some (.int .u64 (a0 : Int)) ∧ w'.cell? ⟨w.heap.size, 1, none⟩ = some (.int .u64 (a1 : Int)) ∧ w'.cell? ⟨w.heap.size, 2, none⟩ = some (.int .u64 (a2 : Int)) ∧ w'.cell? ⟨w.heap.size, 3, none⟩ = some (.int .u64 (a3 : Int)) ∧ Hid (CEnv w C a0 a1 a2 a3 b0 b1 b2 b3 d0 d1 d2 d3 w'))
          (exact HS.out _ (by assumption))
          (first
            | (go_at_call 27; refine (HOF.out _).mono ?_; rintro e w5 ⟨rfl, hb5⟩; have hl5 := HK.out _ _ (by assumption) hb5)
            | (go_at_call 28; refine (HOT.out _).mono ?_; rintro e w5 ⟨rfl, hb5⟩; have hl5 := HK.out _ _ (by assumption) hb5)
            | (go_at_call 29; refine (HNA.out _).mono ?_; rintro e w5 ⟨rfl, hb5⟩; have hl5 := HK.out _ _ (by assumption) hb5)
            | (go_at_call 30; refine (HNO.out _).mono ?_; rintro e w5 ⟨rfl, hb5⟩; have hl5 := HK.out _ _ (by assumption) hb5)
            | (go_at_call 31; refine (HMA.out _).mono ?_; rintro e w5 ⟨rfl, hb5⟩; have hl5 := HK.out _ _ (by assumption) hb5)
            | (go_at_call 32; refine (HCN.out _).mono ?_; rintro e w5 ⟨rfl, hb5⟩; have hl5 := HK.out _ _ (by assumption) hb5)
            | (go_at_call 33; refine (HTA.out _).mono ?_; rintro e w5 ⟨rfl, hb5⟩; have hl5 := HK.out _ _ (by assumption) hb5)
            | (go_at_call 34; refine (HTC.out _).mono ?_; rintro e w5 ⟨rfl, hb5⟩; have hl5 := HK.out _ _ (by assumption) hb5))
        have HL5 := hl5
        clear hl5 hb5 HCD HC4 HOF HOT HNA HNO HMA HCN HTA HTC HS HK
        have hDE : DEnv w w5.heap.size a0 a1 a2 a3 b0 b1 b2 b3 0 0 0 0 0 0 0 0 ((w5.alloc (.cells #[.int .u64 0, .int .u64 0, .int .u64 0, .int .u64 0] 54)).alloc (.cells #[.int .u64 0, .int .u64 0, .int .u64 0, .int .u64 0] 54)) := by
          have h2 := Blk.new (w5.alloc (.cells #[.int .u64 0, .int .u64 0, .int .u64 0, .int .u64 0] 54)) 54 #[.int .u64 0, .int .u64 0, .int .u64 0, .int .u64 0]
          rw [World.size_alloc] at h2
          exact ⟨(HL5.out.1.alloc _).alloc _, (HL5.out.2.1.alloc _).alloc _, (Blk.new w5 _ _).alloc _, h2, Nat.lt_of_le_of_lt (by omega) HL5.out.2.2.1.lt, ((HL5.out.2.2.2.2.alloc HL5.out.2.2.2.2.size _).alloc (by have := HL5.out.2.2.2.2.size; simp; omega) _)⟩
        have HD0 := Lib.hid hDE
        clear hDE HL5
        go_wp2_with fail
        generalize w5.heap.size = P at *
        go_loopw [19] (fun v19 wr => ∃ (k p0 p1 p2 p3 q0 q1 q2 q3 : Nat), k ≤ 256 ∧ v19 = .int .i64 (k : Int) ∧ Hid ((p0, p1, p2, p3) = selC (fun j => has (a0, a1, a2, a3) j && has (b0, b1, b2, b3) j) k) ∧ Hid ((q0, q1, q2, q3) = selC (fun j => has (a0, a1, a2, a3) j || has (b0, b1, b2, b3) j) k) ∧ Hid (DEnv w P a0 a1 a2 a3 b0 b1 b2 b3 p0 p1 p2 p3 q0 q1 q2 q3 wr)) (fun i _ => 256 - (intOf i).toNat)
        case atStart => exact ⟨0, 0, 0, 0, 0, 0, 0, 0, 0, by omega, rfl, Lib.hid rfl, Lib.hid rfl, HD0⟩
        case round =>
          clear HD0
          obtain ⟨k, p0, p1, p2, p3, q0, q1, q2, q3, hk, rfl, hP, hQ, hE⟩ := hrel
          obtain ⟨⟨x0, x1, x2, x3⟩, _⟩ := Blk4 hE.out.1
          by_cases hlt : k < 256
          · have hk0 : (0 : Int) ≤ (k : Int) := by omega
            have hk1 : (k : Int) < 256 := by omega
            have HIAk := Lib.hid (HIA.out k hlt)
            have HIBk := Lib.hid (HIB.out k hlt)
            have HHAk := Lib.hid (HHA.out k hlt)
            unfold RInIs at HIAk HIBk
            unfold HasIs at HHAk
            have hsP : selC (fun j => has (a0, a1, a2, a3) j && has (b0, b1, b2, b3) j) (k + 1) = if (has (a0, a1, a2, a3) k && has (b0, b1, b2, b3) k) = true then withB (p0, p1, p2, p3) k else (p0, p1, p2, p3) := by rw [hP.out]; simp [selC]
            have hsQ : selC (fun j => has (a0, a1, a2, a3) j || has (b0, b1, b2, b3) j) (k + 1) = if (has (a0, a1, a2, a3) k || has (b0, b1, b2, b3) k) = true then withB (q0, q1, q2, q3) k else (q0, q1, q2, q3) := by rw [hQ.out]; simp [selC]
            have hokP : okC (p0, p1, p2, p3) := by rw [hP.out]; exact okC_sel _ _
            have hokQ : okC (q0, q1, q2, q3) := by rw [hQ.out]; exact okC_sel _ _
            have HWP := Lib.hid (fun W => RWith_any p0 p1 p2 p3 k W hokP hlt)
            have HWQ := Lib.hid (fun W => RWith_any q0 q1 q2 q3 k W hokQ hlt)
            unfold ClsIs at HWP HWQ
            clear hokP hokQ hP hQ
            cases hxa : has (a0, a1, a2, a3) k <;> cases hxb : has (b0, b1, b2, b3) k
            · rw [hxa] at HIAk HHAk
              rw [hxb] at HIBk
              rw [hxa, hxb] at hsP hsQ
              simp only [Bool.and_self, Bool.or_self, Bool.and_true, Bool.true_and, Bool.or_true, Bool.true_or, Bool.and_false, Bool.false_and, Bool.or_false, Bool.false_or, if_true, if_false, Bool.false_eq_true] at hsP hsQ
              have HSP := Lib.hid hsP
              have HSQ := Lib.hid hsQ
              clear hxa hxb hsP hsQ
              go_wp2_with fail
              refine (HIAk.out _).mono ?_
              rintro e w6 ⟨rfl, hb6⟩
              have HE6 := Lib.hid (hE.out.kept hb6)
              obtain ⟨⟨x0, x1, x2, x3⟩, _⟩ := Blk4 HE6.out.2.1
              clear hb6 hE
              go_wp2_with fail
              refine (HIBk.out _).mono ?_
              rintro e w7 ⟨rfl, hb7⟩
              have HE7 := Lib.hid (HE6.out.kept hb7)
              obtain ⟨⟨x0, x1, x2, x3⟩, _⟩ := Blk4 HE7.out.1
              clear hb7 HE6
              go_wp2_with fail
              refine (HHAk.out _).mono ?_
              rintro e w8 ⟨rfl, hb8⟩
              have HE8 := Lib.hid (HE7.out.kept hb8)
              clear hb8 HE7 x0 x1 x2 x3
              go_wp2_with fail
              go_roundw
              case rel => exact ⟨k + 1, p0, p1, p2, p3, q0, q1, q2, q3, by omega, by go_num, Lib.hid (by rw [HSP.out]), Lib.hid (by rw [HSQ.out]), HE8⟩
              case measure => simp [intOf]; omega
            · rw [hxa] at HIAk HHAk
              rw [hxb] at HIBk
              rw [hxa, hxb] at hsP hsQ
              simp only [Bool.and_self, Bool.or_self, Bool.and_true, Bool.true_and, Bool.or_true, Bool.true_or, Bool.and_false, Bool.false_and, Bool.or_false, Bool.false_or, if_true, if_false, Bool.false_eq_true] at hsP hsQ
              have HSP := Lib.hid hsP
              have HSQ := Lib.hid hsQ
              clear hxa hxb hsP hsQ
              go_wp2_with fail
              refine (HIAk.out _).mono ?_
              rintro e w6 ⟨rfl, hb6⟩
              have HE6 := Lib.hid (hE.out.kept hb6)
              obtain ⟨⟨x0, x1, x2, x3⟩, _⟩ := Blk4 HE6.out.2.1
              clear hb6 hE
              go_wp2_with fail
              refine (HIBk.out _).mono ?_
              rintro e w7 ⟨rfl, hb7⟩
              have HE7 := Lib.hid (HE6.out.kept hb7)
              obtain ⟨⟨x0, x1, x2, x3⟩, _⟩ := Blk4 HE7.out.1
              clear hb7 HE6
              go_wp2_with fail
              refine (HHAk.out _).mono ?_
              rintro e w8 ⟨rfl, hb8⟩
              have HE8 := Lib.hid (HE7.out.kept hb8)
              clear hb8 HE7 x0 x1 x2 x3
              obtain ⟨⟨x0, x1, x2, x3⟩, _⟩ := Blk4 HE8.out.2.2.2.1
              go_wp2_with fail
              refine (HWQ.out _).mono ?_
              rintro e wA ⟨f0, f1, f2, f3, rfl, hf, hbA⟩
              have HFF := Lib.hid hf
              have HEB := Lib.hid (HE8.out.kept hbA)
              obtain ⟨_, z0, z1, z2, z3⟩ := Blk4 HEB.out.2.2.2.1
              clear hbA hf x0 x1 x2 x3
              have HEC := Lib.hid (HEB.out.putQ (e0 := f0) (e1 := f1) (e2 := f2) (e3 := f3))
              go_wp2_with fail
              go_roundw
              case rel => exact ⟨k + 1, p0, p1, p2, p3, f0, f1, f2, f3, by omega, by go_num, Lib.hid (by rw [HSP.out]), Lib.hid (by rw [HSQ.out, HFF.out]), HEC⟩
              case measure => simp [intOf]; omega
            · rw [hxa] at HIAk HHAk
              rw [hxb] at HIBk
              rw [hxa, hxb] at hsP hsQ
              simp only [Bool.and_self, Bool.or_self, Bool.and_true, Bool.true_and, Bool.or_true, Bool.true_or, Bool.and_false, Bool.false_and, Bool.or_false, Bool.false_or, if_true, if_false, Bool.false_eq_true] at hsP hsQ
              have HSP := Lib.hid hsP
              have HSQ := Lib.hid hsQ
              clear hxa hxb hsP hsQ
              go_wp2_with fail
              refine (HIAk.out _).mono ?_
              rintro e w6 ⟨rfl, hb6⟩
              have HE6 := Lib.hid (hE.out.kept hb6)
              obtain ⟨⟨x0, x1, x2, x3⟩, _⟩ := Blk4 HE6.out.2.1
              clear hb6 hE
              go_wp2_with fail
              refine (HIBk.out _).mono ?_
              rintro e w7 ⟨rfl, hb7⟩
              have HE7 := Lib.hid (HE6.out.kept hb7)
              obtain ⟨⟨x0, x1, x2, x3⟩, _⟩ := Blk4 HE7.out.1
              clear hb7 HE6
              go_wp2_with fail
              refine (HHAk.out _).mono ?_
              rintro e w8 ⟨rfl, hb8⟩
              have HE8 := Lib.hid (HE7.out.kept hb8)
              clear hb8 HE7 x0 x1 x2 x3
              obtain ⟨⟨x0, x1, x2, x3⟩, _⟩ := Blk4 HE8.out.2.2.2.1
              go_wp2_with fail
              refine (HWQ.out _).mono ?_
              rintro e wA ⟨f0, f1, f2, f3, rfl, hf, hbA⟩
              have HFF := Lib.hid hf
              have HEB := Lib.hid (HE8.out.kept hbA)
              obtain ⟨_, z0, z1, z2, z3⟩ := Blk4 HEB.out.2.2.2.1
              clear hbA hf x0 x1 x2 x3
              have HEC := Lib.hid (HEB.out.putQ (e0 := f0) (e1 := f1) (e2 := f2) (e3 := f3))
              go_wp2_with fail
              go_roundw
              case rel => exact ⟨k + 1, p0, p1, p2, p3, f0, f1, f2, f3, by omega, by go_num, Lib.hid (by rw [HSP.out]), Lib.hid (by rw [HSQ.out, HFF.out]), HEC⟩
              case measure => simp [intOf]; omega
            · rw [hxa] at HIAk HHAk
              rw [hxb] at HIBk
              rw [hxa, hxb] at hsP hsQ
              simp only [Bool.and_self, Bool.or_self, Bool.and_true, Bool.true_and, Bool.or_true, Bool.true_or, Bool.and_false, Bool.false_and, Bool.or_false, Bool.false_or, if_true, if_false, Bool.false_eq_true] at hsP hsQ
              have HSP := Lib.hid hsP
              have HSQ := Lib.hid hsQ
              clear hxa hxb hsP hsQ
              go_wp2_with fail
              refine (HIAk.out _).mono ?_
              rintro e w6 ⟨rfl, hb6⟩
              have HE6 := Lib.hid (hE.out.kept hb6)
              obtain ⟨⟨x0, x1, x2, x3⟩, _⟩ := Blk4 HE6.out.2.1
              clear hb6 hE
              go_wp2_with fail
              refine (HIBk.out _).mono ?_
              rintro e w7 ⟨rfl, hb7⟩
              have HE7 := Lib.hid (HE6.out.kept hb7)
              obtain ⟨⟨x0, x1, x2, x3⟩, _⟩ := Blk4 HE7.out.1
              clear hb7 HE6
              go_wp2_with fail
              refine (HHAk.out _).mono ?_
              rintro e w8 ⟨rfl, hb8⟩
              have HE8 := Lib.hid (HE7.out.kept hb8)
              clear hb8 HE7 x0 x1 x2 x3
              obtain ⟨⟨x0, x1, x2, x3⟩, _⟩ := Blk4 HE8.out.2.2.1
              go_wp2_with fail
              refine (HWP.out _).mono ?_
              rintro e w9 ⟨e0, e1, e2, e3, rfl, he, hb9⟩
              have HEE := Lib.hid he
              have HE9 := Lib.hid (HE8.out.kept hb9)
              obtain ⟨_, z0, z1, z2, z3⟩ := Blk4 HE9.out.2.2.1
              clear hb9 HE8 he x0 x1 x2 x3
              have HEA := Lib.hid (HE9.out.putP (e0 := e0) (e1 := e1) (e2 := e2) (e3 := e3))
              obtain ⟨⟨x0, x1, x2, x3⟩, _⟩ := Blk4 HEA.out.2.2.2.1
              go_wp2_with fail
              refine (HWQ.out _).mono ?_
              rintro e wA ⟨f0, f1, f2, f3, rfl, hf, hbA⟩
              have HFF := Lib.hid hf
              have HEB := Lib.hid (HEA.out.kept hbA)
              obtain ⟨_, z0, z1, z2, z3⟩ := Blk4 HEB.out.2.2.2.1
              clear hbA hf x0 x1 x2 x3
              have HEC := Lib.hid (HEB.out.putQ (e0 := f0) (e1 := f1) (e2 := f2) (e3 := f3))
              go_wp2_with fail
              go_roundw
              case rel => exact ⟨k + 1, e0, e1, e2, e3, f0, f1, f2, f3, by omega, by go_num, Lib.hid (by rw [HSP.out, HEE.out]), Lib.hid (by rw [HSQ.out, HFF.out]), HEC⟩
              case measure => simp [intOf]; omega
          · obtain rfl : k = 256 := by omega
            have hp : (p0, p1, p2, p3) = bothC (a0, a1, a2, a3) (b0, b1, b2, b3) := by rw [hP.out, sel_both HOKA.out]
            have hq : (q0, q1, q2, q3) = eitherC (a0, a1, a2, a3) (b0, b1, b2, b3) := by rw [hQ.out, sel_either HOKA.out HOKB.out]
            have HB2 : Hid (∀ W, Calls Tryd.prog 37 #[.agg #[.int .u64 (a0 : Int), .int .u64 (a1 : Int), .int .u64 (a2 : Int), .int .u64 (a3 : Int)], .agg #[.int .u64 (b0 : Int), .int .u64 (b1 : Int), .int .u64 (b2 : Int), .int .u64 (b3 : Int)]] W (Told p0 p1 p2 p3 W)) := Lib.hid fun W => (HBO.out W).mono fun e w' h => told hp h
            have HE2 : Hid (∀ W, Calls Tryd.prog 38 #[.agg #[.int .u64 (a0 : Int), .int .u64 (a1 : Int), .int .u64 (a2 : Int), .int .u64 (a3 : Int)], .agg #[.int .u64 (b0 : Int), .int .u64 (b1 : Int), .int .u64 (b2 : Int), .int .u64 (b3 : Int)]] W (Told q0 q1 q2 q3 W)) := Lib.hid fun W => (HEI.out W).mono fun e w' h => told hq h
            have hep : cls4 p0 p1 p2 p3 p0 p1 p2 p3 = true := by rw [cls4_iff]
            have heq : cls4 q0 q1 q2 q3 q0 q1 q2 q3 = true := by rw [cls4_iff]
            have HS : Hid (∀ w', Hid (DEnv w P a0 a1 a2 a3 b0 b1 b2 b3 p0 p1 p2 p3 q0 q1 q2 q3 w') → (w'.cell? ⟨w.heap.size, 0, none⟩ = some (.int .u64 (a0 : Int)) ∧ w'.cell? ⟨w.heap.size, 1, none⟩ = some (.int .u64 (a1 : Int)) ∧ w'.cell? ⟨w.heap.size, 2, none⟩ = some (.int .u64 (a2 : Int)) ∧ w'.cell? ⟨w.heap.size, 3, none⟩ = some (.int .u64 (a3 : Int)) ∧ w'.cell? ⟨w.heap.size + 1, 0, none⟩ = some (.int .u64 (b0 : Int)) ∧ w'.cell? ⟨w.heap.size + 1, 1, none⟩ = some (.int .u64 (b1 : Int)) ∧ w'.cell? ⟨w.heap.size + 1, 2, none⟩ = some (.int .u64 (b2 : Int)) ∧ w'.cell? ⟨w.heap.size + 1, 3, none⟩ = some (.int .u64 (b3 : Int)) ∧ w'.cell? ⟨P, 0, none⟩ = some (.int .u64 (p0 : Int)) ∧ w'.cell? ⟨P, 1, none⟩ = some (.int .u64 (p1 : Int)) ∧ w'.cell? ⟨P, 2, none⟩ = some (.int .u64 (p2 : Int)) ∧ w'.cell? ⟨P, 3, none⟩ = some (.int .u64 (p3 : Int)) ∧ w'.cell? ⟨P + 1, 0, none⟩ = some (.int .u64 (q0 : Int)) ∧ w'.cell? ⟨P + 1, 1, none⟩ = some (.int .u64 (q1 : Int)) ∧ w'.cell? ⟨P + 1, 2, none⟩ = some (.int .u64 (q2 : Int)) ∧ w'.cell? ⟨P + 1, 3, none⟩ = some (.int .u64 (q3 : Int)) ∧ Hid (DEnv w P a0 a1 a2 a3 b0 b1 b2 b3 p0 p1 p2 p3 q0 q1 q2 q3 w'))) := Lib.hid (fun w' h => by
              have q1' := (Blk4 h.out.1).1
              have q2' := (Blk4 h.out.2.1).1
              have q3' := (Blk4 h.out.2.2.1).1
              have q4' := (Blk4 h.out.2.2.2.1).1
              exact ⟨q1'.1, q1'.2.1, q1'.2.2.1, q1'.2.2.2, q2'.1, q2'.2.1, q2'.2.2.1, q2'.2.2.2, q3'.1, q3'.2.1, q3'.2.2.1, q3'.2.2.2, q4'.1, q4'.2.1, q4'.2.2.1, q4'.2.2.2, h⟩)
            have HK : Hid (∀ w1 w2, Hid (DEnv w P a0 a1 a2 a3 b0 b1 b2 b3 p0 p1 p2 p3 q0 q1 q2 q3 w1) → Below w1.heap.size w1 w2 → Hid (DEnv w P a0 a1 a2 a3 b0 b1 b2 b3 p0 p1 p2 p3 q0 q1 q2 q3 w2)) := Lib.hid fun w1 w2 h1 h2 => Lib.hid (h1.out.kept h2)
            have HCD : Hid (DEnv w P a0 a1 a2 a3 b0 b1 b2 b3 p0 p1 p2 p3 q0 q1 q2 q3 wr.drew) := HK.out _ _ hE (Below.refl _ _).drew
            clear hp hq hP hQ HBO HEI x0 x1 x2 x3
            go_wp2_with fail
            go_region_held3 (fun w' => w'.cell? ⟨w.heap.size, 0, none⟩ = some (.int .u64 (a0 : Int)) ∧ w'.cell? ⟨w.heap.size, 1, none⟩ = some (.int .u64 (a1 : Int)) ∧ w'.cell? ⟨w.heap.size, 2, none⟩ = some (.int .u64 (a2 : Int)) ∧ w'.cell? ⟨w.heap.size, 3, none⟩ = some (.int .u64 (a3 : Int)) ∧ w'.cell? ⟨w.heap.size + 1, 0, none⟩ = some (.int .u64 (b0 : Int)) ∧ w'.cell? ⟨w.heap.size + 1, 1, none⟩ = some (.int .u64 (b1 : Int)) ∧ w'.cell? ⟨w.heap.size + 1, 2, none⟩ = some (.int .u64 (b2 : Int)) ∧ w'.cell? ⟨w.heap.size + 1, 3, none⟩ = some (.int .u64 (b3 : Int)) ∧ w'.cell? ⟨P, 0, none⟩ = some (.int .u64 (p0 : Int)) ∧ w'.cell? ⟨P, 1, none⟩ = some (.int .u64 (p1 : Int)) ∧ w'.cell? ⟨P, 2, none⟩ = some (.int .u64 (p2 : Int)) ∧ w'.cell? ⟨P, 3, none⟩ = some (.int .u64 (p3 : Int)) ∧ w'.cell? ⟨P + 1, 0, none⟩ = some (.int .u64 (q0 : Int)) ∧ w'.cell? ⟨P + 1, 1, none⟩ = some (.int .u64 (q1 : Int)) ∧ w'.cell? ⟨P + 1, 2, none⟩ = some (.int .u64 (q2 : Int)) ∧ w'.cell? ⟨P + 1, 3, none⟩ = some (.int .u64 (q3 : Int)) ∧ Hid (DEnv w P a0 a1 a2 a3 b0 b1 b2 b3 p0 p1 p2 p3 q0 q1 q2 q3 w'))
              (exact HS.out _ (by assumption))
              (first
                | (go_at_call 37; refine (HB2.out _).mono ?_; rintro e w9 ⟨rfl, hb9⟩; have hl9 := HK.out _ _ (by assumption) hb9)
                | (go_at_call 38; refine (HE2.out _).mono ?_; rintro e w9 ⟨rfl, hb9⟩; have hl9 := HK.out _ _ (by assumption) hb9))
            have HL9 := hl9
            clear hl9 hb9
            go_wp2_with fail
            go_ret
            exact ⟨by rfl, HL9.out.2.2.2.2.2⟩


theorem byte_nat {x : Int} (h : (Lit.int .u8 x).wf = true) : ∃ n : Nat, x = (n : Int) ∧ n < 256 := by
  have h1 : IntKind.u8.min = 0 := by decide
  have h2 : IntKind.u8.max = 255 := by decide
  simp only [Lit.wf, h1, h2, Bool.and_eq_true, decide_eq_true_eq] at h
  exact ⟨x.toNat, by omega, by omega⟩
theorem walkI (a b : Cls) (s : ByteArray) (x y : Int) (w : World) (ha : okC a) (hb : okC b) (hs : s.size ≤ maxLen) (hx : (Lit.int .u8 x).wf = true) (hy : (Lit.int .u8 y).wf = true) (hg : ErrT w) :
    Calls Tryd.prog 6 #[.agg #[.int .u64 (a.1 : Int), .int .u64 (a.2.1 : Int), .int .u64 (a.2.2.1 : Int), .int .u64 (a.2.2.2 : Int)], .agg #[.int .u64 (b.1 : Int), .int .u64 (b.2.1 : Int), .int .u64 (b.2.2.1 : Int), .int .u64 (b.2.2.2 : Int)], .string s, .int .u8 x, .int .u8 y] w (LawIs w) := by
  obtain ⟨n, rfl, hn⟩ := byte_nat hx
  obtain ⟨m, rfl, hm⟩ := byte_nat hy
  obtain ⟨a0, a1, a2, a3⟩ := a
  obtain ⟨b0, b1, b2, b3⟩ := b
  exact walk a0 a1 a2 a3 b0 b1 b2 b3 s n m w ha hb (by unfold maxLen at hs; exact hs) hn hm hg

/-! ### THE ROW's STEP -/
set_option maxRecDepth 100000 in
theorem lifted (os : Os) (started : os.Started) (H : Type) (enc : TypeId × Value → H) :
    ReturnsInHanded {} Tryd.checked os 6 .any (fun w args => (Rows.classIsSpec.pre enc Tryd.prog Tryd.f6 [] false w args ∧ laidMetH Tryd.prog laidL w) ∧ sizedMet enc Tryd.prog Tryd.f6 (OpenSpec.ofChange Rows.classIsSpec) false w args)
      (Rows.classIsSpec.post enc Tryd.prog Tryd.f6 false true false false) := by
  refine returnsInHanded_of_change_and (C := Tryd.checked) (X := fun w _ => laidMetH Tryd.prog laidL w) (fun _ _ _ hh h => h.of_heap hh) own started (by kernel_rfl) Tryd.func6
    (ChangeSpec.witness_at (enc := enc) (C := Tryd.checked) (os := os) (X := fun w _ => laidMetH Tryd.prog laidL w) false (laidWorld os) #[.agg #[.int .u64 0, .int .u64 0, .int .u64 0, .int .u64 0], .agg #[.int .u64 0, .int .u64 0, .int .u64 0, .int .u64 0], .string ByteArray.empty, .int .u8 0, .int .u8 0] 8 rfl (by kernel_rfl) (by kernel_rfl) (by kernel_rfl) (by kernel_rfl) (by kernel_rfl) (laidWorld_met os _)) ?_
  intro W base args ds gs before hval0 hW hcnd _ hL _
  have hval : ∀ (j : Nat) t v, Tryd.f6.params[j]? = some t → args[j]? = some v → Value.okWide Tryd.prog W .any base t v := hval0
  have hW' := hW
  obtain ⟨p, q, hA0, hV, rfl, hfz, hnd⟩ := hW
  have hA : DataW.TrodAll enc Tryd.prog W 0 (fun _ => true) true Tryd.f6.params.toList args.toList ds p := hA0
  rw [Tryd.params6] at hA hval
  obtain ⟨v0, vs0, d0, ds0, p0, q0, hargs, rfl, rfl, h0, r0⟩ := trodAll_cons hA
  obtain ⟨v1, vs1, d1, ds1, p1, q1, rfl, rfl, rfl, h1, r1⟩ := trodAll_cons r0
  obtain ⟨v2, vs2, d2, ds2, p2, q2, rfl, rfl, rfl, h2, r2⟩ := trodAll_cons r1
  obtain ⟨v3, vs3, d3, ds3, p3, q3, rfl, rfl, rfl, h3, r3⟩ := trodAll_cons r2
  obtain ⟨v4, vs4, d4, ds4, p4, q4, rfl, rfl, rfl, h4, r4⟩ := trodAll_cons r3
  obtain ⟨rfl, rfl, rfl⟩ := trodAll_nil r4
  obtain rfl : args = #[v0, v1, v2, v3, v4] := by cases args; simp_all
  obtain ⟨rfl, rfl⟩ := trodVars_none hV
  have hg := handle_of_laid hL
  obtain ⟨cs0, rfl, _⟩ := okWide_array Tryd.underlying54 (hval 0 54 v0 rfl rfl)
  have k0 := h0
  have lt0 : ∀ x ∈ p0, x.block < W.heap.size := by obtain ⟨m, hm⟩ := k0; exact DataW.trod_lt m _ _ _ hm
  obtain ⟨c0, ok0, rfl⟩ : ∃ c : Cls, okC c ∧ cs0 = #[.int .u64 (c.1 : Int), .int .u64 (c.2.1 : Int), .int .u64 (c.2.2.1 : Int), .int .u64 (c.2.2.2 : Int)] := by obtain ⟨fuel, hf⟩ := h0; obtain ⟨c, h1, h2⟩ := open_cls hf; exact ⟨c, h1, by cases cs0; simpa [Value.cells] using h2⟩
  obtain ⟨cs1, rfl, _⟩ := okWide_array Tryd.underlying54 (hval 1 54 v1 rfl rfl)
  have k1 := h1
  have lt1 : ∀ x ∈ p1, x.block < W.heap.size := by obtain ⟨m, hm⟩ := k1; exact DataW.trod_lt m _ _ _ hm
  obtain ⟨c1, ok1, rfl⟩ : ∃ c : Cls, okC c ∧ cs1 = #[.int .u64 (c.1 : Int), .int .u64 (c.2.1 : Int), .int .u64 (c.2.2.1 : Int), .int .u64 (c.2.2.2 : Int)] := by obtain ⟨fuel, hf⟩ := h1; obtain ⟨c, h1, h2⟩ := open_cls hf; exact ⟨c, h1, by cases cs1; simpa [Value.cells] using h2⟩
  have k2 := h2
  have lt2 : ∀ x ∈ p2, x.block < W.heap.size := by obtain ⟨m, hm⟩ := k2; exact DataW.trod_lt m _ _ _ hm
  obtain ⟨s2, rfl, rfl, rfl, ws2⟩ := open_string Tryd.underlying9 (hval 2 9 v2 rfl rfl) h2
  have k3 := h3
  have lt3 : ∀ x ∈ p3, x.block < W.heap.size := by obtain ⟨m, hm⟩ := k3; exact DataW.trod_lt m _ _ _ hm
  obtain ⟨x3, rfl, rfl, rfl, wx3⟩ := open_int Tryd.underlying5 (hval 3 5 v3 rfl rfl) h3
  have k4 := h4
  have lt4 : ∀ x ∈ p4, x.block < W.heap.size := by obtain ⟨m, hm⟩ := k4; exact DataW.trod_lt m _ _ _ hm
  obtain ⟨x4, rfl, rfl, rfl, wx4⟩ := open_int Tryd.underlying5 (hval 4 5 v4 rfl rfl) h4
  clear hA0 hval0
  refine (walkI c0 c1 s2 x3 x4 W ok0 ok1 ws2 wx3 wx4 hg).mono fun e W' ⟨he, bel⟩ => ?_
  subst he
  exact ⟨_, rfl, _, _, _, [], _, [], hW', trodAll_mk1 (shut_bool Tryd.underlying4 _), (trodAll_cons_mk (Below.trod laidOut (by kernel_rfl) (of_decide_eq_true (by kernel_rfl)) k0 bel lt0) (trodAll_cons_mk (Below.trod laidOut (by kernel_rfl) (of_decide_eq_true (by kernel_rfl)) k1 bel lt1) (trodAll_cons_mk (shut_string Tryd.underlying9 ws2) (trodAll_cons_mk (shut_int Tryd.underlying5 wx3) (trodAll_cons_mk (shut_int Tryd.underlying5 wx4) trodAll_mk0))))), rfl, bel.frame _, fun h => by cases h⟩

theorem over : Rows.classIsRow.holds Tryd.pinned (OpenSpec.ofChange Rows.classIsSpec) :=
  OpenClaim.holds_of_wide 6 Tryd.f6 rfl rfl rfl rfl rfl rfl rfl ⟨rfl, rfl, rfl, rfl, rfl⟩ rfl rfl rfl rfl rfl (by kernel_rfl) Tryd.func6 (by kernel_rfl)
    (of_decide_eq_true (by kernel_rfl)) (by unfold Func.isWrapper; first | (rw [if_pos (by decide +kernel)]; kernel_rfl) | (rw [if_neg (by decide +kernel)]; exact ⟨rfl, rfl⟩))
    (fun os started H enc _ => lifted os started H enc)

/-- THE STATEMENT: the tied card. -/
theorem proved : Rows.ClassIsCardSaid :=
  Claim7.holds_tied_plain_at .later [] [.handle] true (true, "f45a1604785a151641de101bbe54cc07bb79ece424cdf2959cfd764ef295316a") true
    over (fun _ h => by cases h) (by kernel_rfl) (fun _ h => by cases h) classIs_row_tie rfl ⟨rfl, rfl⟩ (by kernel_rfl) rfl
    (fun f fn hf hfn => by
      obtain rfl : f = 6 := Option.some.inj ((show Tryd.prog.funcNamed "winnowfan/winnowfanlaw1.ClassIs" = some 6 by kernel_rfl).symm.trans hf) |>.symm
      obtain rfl : fn = Tryd.f6 := (Option.some.inj (Tryd.func6.symm.trans hfn)).symm
      exact ⟨by kernel_rfl, fun j t ht => by
        rw [Tryd.params6] at ht
        match j, ht with
        | 0, ht =>
          have e : t = 54 := by simpa using ht.symm
          subst e
          exact (show Tryd.prog.wantsStandIn 54 = false by kernel_rfl)
        | 1, ht =>
          have e : t = 54 := by simpa using ht.symm
          subst e
          exact (show Tryd.prog.wantsStandIn 54 = false by kernel_rfl)
        | 2, ht =>
          have e : t = 9 := by simpa using ht.symm
          subst e
          exact (show Tryd.prog.wantsStandIn 9 = false by kernel_rfl)
        | 3, ht =>
          have e : t = 5 := by simpa using ht.symm
          subst e
          exact (show Tryd.prog.wantsStandIn 5 = false by kernel_rfl)
        | 4, ht =>
          have e : t = 5 := by simpa using ht.symm
          subst e
          exact (show Tryd.prog.wantsStandIn 5 = false by kernel_rfl)
        | j + 5, ht => simp at ht⟩)
    (by kernel_rfl)


end Go.Proofs.YthcahjnniendnabDoor.classIs
