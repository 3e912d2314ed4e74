/-
  Proved: winnowfanlaw1.ClassLaws returns true for every two classes, and changes nothing that was there. No condition beyond the row's own.
  (The frame behind the walk is the kit's proof-skeleton's.)
-/
import Derived.Test.YthcahjnniendnaaClsT
import Derived.Test.YthcahjnniendnaaOpen
import Derived.Below
import Derived.ChangeOld
import Derived.ShutString
import Derived.Lib.SlicesS
namespace Go.Proofs.Ythcahjnniendnaa.classLaws
open Go.ChangeShapes Go.WideShapes Go.ChangeAt Go.RowKit Wf
open Go.ChangeMaps (open_string shut_string)
set_option linter.unusedVariables false

theorem own : ownKnob Try.prog.godebug = none := by kernel_rfl
theorem laidOut : laidOutB Try.prog = true := by kernel_rfl

def LawIs (w : World) (e : Ending) (w' : World) : Prop := e = .returned (.bool true) ∧ Below w.heap.size w w'

theorem fact : textC (ofL [97, 98, 99, 120] zc) = [91, 97, 45, 99, 120, 93] := by
  rw [textC_eq _ (by decide +kernel) (by decide +kernel)]
  decide +kernel

/-- The world of the law: four classes in blocks of their own. -/
def LEnv (w : World) (X Y : Nat) (a0 a1 a2 a3 b0 b1 b2 b3 x0 x1 x2 x3 y0 y1 y2 y3 : Nat) (w' : World) : Prop :=
  Blk w' w.heap.size 32 #[.int .u64 (a0 : Int), .int .u64 (a1 : Int), .int .u64 (a2 : Int), .int .u64 (a3 : Int)] ∧ Blk w' (w.heap.size + 1) 32 #[.int .u64 (b0 : Int), .int .u64 (b1 : Int), .int .u64 (b2 : Int), .int .u64 (b3 : Int)] ∧ Blk w' X 32 #[.int .u64 (x0 : Int), .int .u64 (x1 : Int), .int .u64 (x2 : Int), .int .u64 (x3 : Int)] ∧ Blk w' Y 32 #[.int .u64 (y0 : Int), .int .u64 (y1 : Int), .int .u64 (y2 : Int), .int .u64 (y3 : Int)] ∧ Below w.heap.size w w'
theorem LEnv.kept {w w1 w2 : World} {X Y a0 a1 a2 a3 b0 b1 b2 b3 x0 x1 x2 x3 y0 y1 y2 y3 : Nat} (h : LEnv w X Y a0 a1 a2 a3 b0 b1 b2 b3 x0 x1 x2 x3 y0 y1 y2 y3 w1) (hb : Below w1.heap.size w1 w2) : LEnv w X Y a0 a1 a2 a3 b0 b1 b2 b3 x0 x1 x2 x3 y0 y1 y2 y3 w2 :=
  ⟨h.1.kept hb, h.2.1.kept hb, h.2.2.1.kept hb, h.2.2.2.1.kept hb, h.2.2.2.2.trans (hb.mono h.2.2.2.2.size)⟩
def AEnv (w : World) (a0 a1 a2 a3 b0 b1 b2 b3 : Nat) (w' : World) : Prop := Blk w' w.heap.size 32 #[.int .u64 (a0 : Int), .int .u64 (a1 : Int), .int .u64 (a2 : Int), .int .u64 (a3 : Int)] ∧ Blk w' (w.heap.size + 1) 32 #[.int .u64 (b0 : Int), .int .u64 (b1 : Int), .int .u64 (b2 : Int), .int .u64 (b3 : Int)] ∧ Below w.heap.size w w'
theorem AEnv.kept {w w1 w2 : World} {a0 a1 a2 a3 b0 b1 b2 b3 : Nat} (h : AEnv w a0 a1 a2 a3 b0 b1 b2 b3 w1) (hb : Below w1.heap.size w1 w2) : AEnv w a0 a1 a2 a3 b0 b1 b2 b3 w2 := ⟨h.1.kept hb, h.2.1.kept hb, h.2.2.trans (hb.mono h.2.2.size)⟩
theorem AEnv.new (w : World) (a0 a1 a2 a3 b0 b1 b2 b3 : Nat) : AEnv w a0 a1 a2 a3 b0 b1 b2 b3 ((w.alloc (.cells #[.int .u64 (a0 : Int), .int .u64 (a1 : Int), .int .u64 (a2 : Int), .int .u64 (a3 : Int)] 32)).alloc (.cells #[.int .u64 (b0 : Int), .int .u64 (b1 : Int), .int .u64 (b2 : Int), .int .u64 (b3 : Int)] 32)) :=
  ⟨(Blk.new _ _ _).alloc _, Blk.new2 _ _ _ _, below2 _ _ _⟩

/-- A class that is told, in a world that is kept. -/
def Told (d0 d1 d2 d3 : Nat) (w : World) (e : Ending) (w' : World) : Prop := e = .returned (.agg #[.int .u64 (d0 : Int), .int .u64 (d1 : Int), .int .u64 (d2 : Int), .int .u64 (d3 : Int)]) ∧ Below w.heap.size w w'
theorem told {c : Cls} {d0 d1 d2 d3 : Nat} (hc : (d0, d1, d2, d3) = c) {w : World} {e : Ending} {w' : World} (h : ClsIs c w e w') : Told d0 d1 d2 d3 w e w' := by
  obtain ⟨k0, k1, k2, k3, h1, h2, h3⟩ := h
  subst hc
  simp only [Prod.mk.injEq] at h2
  obtain ⟨rfl, rfl, rfl, rfl⟩ := h2
  exact ⟨h1, h3⟩

theorem ex_text (l : List UInt8) : ∃ t : ByteArray, t.data.toList = l := ⟨⟨l.toArray⟩, by simp⟩
theorem ex_cls (c : Cls) : ∃ n0 n1 n2 n3 : Nat, (n0, n1, n2, n3) = c := ⟨c.1, c.2.1, c.2.2.1, c.2.2.2, rfl⟩
theorem ex_nat (n : Nat) : ∃ p, p = n := ⟨n, rfl⟩
theorem bytes_ext {s t : ByteArray} (h : s.data.toList = t.data.toList) : s = t := by
  cases s; cases t
  simp at h
  simp [h]

set_option maxRecDepth 100000 in
set_option maxHeartbeats 16000000 in
theorem walk (a b : Cls) (w : World) (ha : okC a) (hb : okC b) : Calls Try.prog 5 #[clsV a, clsV b] w (LawIs w) := by
  obtain ⟨na0, na1, na2, na3, hna⟩ : ∃ n0 n1 n2 n3 : Nat, (n0, n1, n2, n3) = notC a := ex_cls _
  obtain ⟨nb0, nb1, nb2, nb3, hnb⟩ : ∃ n0 n1 n2 n3 : Nat, (n0, n1, n2, n3) = notC b := ex_cls _
  obtain ⟨x0, x1, x2, x3, hx⟩ : ∃ n0 n1 n2 n3 : Nat, (n0, n1, n2, n3) = bothC a b := ex_cls _
  obtain ⟨y0, y1, y2, y3, hy⟩ : ∃ n0 n1 n2 n3 : Nat, (n0, n1, n2, n3) = eitherC a b := ex_cls _
  obtain ⟨nx0, nx1, nx2, nx3, hnx⟩ : ∃ n0 n1 n2 n3 : Nat, (n0, n1, n2, n3) = notC (bothC a b) := ex_cls _
  obtain ⟨pa, hpa⟩ : ∃ p, p = cnt a := ex_nat _
  obtain ⟨pb, hpb⟩ : ∃ p, p = cnt b := ex_nat _
  obtain ⟨px, hpx⟩ : ∃ p, p = cnt (bothC a b) := ex_nat _
  obtain ⟨py, hpy⟩ : ∃ p, p = cnt (eitherC a b) := ex_nat _
  obtain ⟨pn, hpn⟩ : ∃ p, p = cnt (notC a) := ex_nat _
  have l1 : px + py = pa + pb := by rw [hpa, hpb, hpx, hpy]; exact cnt_and_or a b
  have l2 : pa + pn = 256 := by rw [hpa, hpn]; exact cnt_not ha
  have lx : px ≤ 256 := by rw [hpx]; exact cnt_le _
  have ly : py ≤ 256 := by rw [hpy]; exact cnt_le _
  have lb : pb ≤ 256 := by rw [hpb]; exact cnt_le _
  obtain ⟨r, hr⟩ : ∃ r : Bool, r = true ↔ a = b := ⟨decide (a = b), by simp⟩
  obtain ⟨ta, hta⟩ : ∃ t : ByteArray, t.data.toList = textC a := ex_text _
  obtain ⟨tb, htb⟩ : ∃ t : ByteArray, t.data.toList = textC b := ex_text _
  have htr : (ta = tb) ↔ r = true := by
    rw [hr]
    exact ⟨fun h => textC_inj ha hb (by rw [← hta, ← htb, h]), fun h => bytes_ext (by rw [hta, htb, h])⟩
  have hFT := fact
  obtain ⟨f0, f1, f2, f3, hf⟩ : ∃ n0 n1 n2 n3 : Nat, (n0, n1, n2, n3) = ofL [97, 98, 99, 120] zc := ex_cls _
  rw [← hf] at hFT
  have hfok : okC (f0, f1, f2, f3) := by rw [hf]; exact okC_ofL _ _ okC_zc
  have hxok : okC (x0, x1, x2, x3) := by rw [hx]; exact okC_both ha
  have hyok : okC (y0, y1, y2, y3) := by rw [hy]; exact okC_either ha hb
  have hnaok : okC (na0, na1, na2, na3) := by rw [hna]; exact okC_not _
  have hnbok : okC (nb0, nb1, nb2, nb3) := by rw [hnb]; exact okC_not _
  obtain ⟨a0, a1, a2, a3⟩ := a
  obtain ⟨b0, b1, b2, b3⟩ := b
  have hcr : cls4 a0 a1 a2 a3 b0 b1 b2 b3 = r := by rw [Bool.eq_iff_iff, cls4_iff, hr]
  have hcn : cls4 nx0 nx1 nx2 nx3 nx0 nx1 nx2 nx3 = true := by rw [cls4_iff]
  have hca : cls4 a0 a1 a2 a3 a0 a1 a2 a3 = true := by rw [cls4_iff]
  have text_is : ∀ (c0 c1 c2 c3 : Nat) (t : ByteArray) (W : World), okC (c0, c1, c2, c3) → t.data.toList = textC (c0, c1, c2, c3) → Calls Try.prog 16 #[.agg #[.int .u64 (c0 : Int), .int .u64 (c1 : Int), .int .u64 (c2 : Int), .int .u64 (c3 : Int)]] W (fun e w' => e = .returned (.string t) ∧ Below W.heap.size W w') := by
    intro c0 c1 c2 c3 t W hok ht
    refine (Text_any c0 c1 c2 c3 W hok).mono ?_
    rintro e w' ⟨s, h1, h2, h3⟩
    have : s = t := bytes_ext (by rw [h2, ht])
    exact ⟨by rw [h1, this], h3⟩
  have many_is : ∀ (c0 c1 c2 c3 p : Nat) (W : World), okC (c0, c1, c2, c3) → p = cnt (c0, c1, c2, c3) → Calls Try.prog 21 #[.agg #[.int .u64 (c0 : Int), .int .u64 (c1 : Int), .int .u64 (c2 : Int), .int .u64 (c3 : Int)]] W (fun e w' => e = .returned (.int .i64 (p : Int)) ∧ Below W.heap.size W w') := by
    intro c0 c1 c2 c3 p W hok hp
    refine (Many_any c0 c1 c2 c3 W hok).mono ?_
    rintro e w' ⟨m, h1, h2, h3⟩
    exact ⟨by rw [h1, h2, hp], h3⟩
  have HOF : Hid (∀ W, Calls Try.prog 17 #[.string ⟨#[97, 98, 99, 120]⟩] W (Told f0 f1 f2 f3 W)) := Lib.hid fun W => (Of_any ⟨#[97, 98, 99, 120]⟩ W (by decide)).mono fun e w' h => told hf h
  have HTF : Hid (∀ W, Calls Try.prog 16 #[.agg #[.int .u64 (f0 : Int), .int .u64 (f1 : Int), .int .u64 (f2 : Int), .int .u64 (f3 : Int)]] W (fun e w' => e = .returned (.string ⟨#[91, 97, 45, 99, 120, 93]⟩) ∧ Below W.heap.size W w')) := Lib.hid fun W => text_is f0 f1 f2 f3 _ W hfok (by rw [hFT])
  have HTA : Hid (∀ W, Calls Try.prog 16 #[.agg #[.int .u64 (a0 : Int), .int .u64 (a1 : Int), .int .u64 (a2 : Int), .int .u64 (a3 : Int)]] W (fun e w' => e = .returned (.string ta) ∧ Below W.heap.size W w')) := Lib.hid fun W => text_is a0 a1 a2 a3 _ W ha hta
  have HTB : Hid (∀ W, Calls Try.prog 16 #[.agg #[.int .u64 (b0 : Int), .int .u64 (b1 : Int), .int .u64 (b2 : Int), .int .u64 (b3 : Int)]] W (fun e w' => e = .returned (.string tb) ∧ Below W.heap.size W w')) := Lib.hid fun W => text_is b0 b1 b2 b3 _ W hb htb
  have HBO : Hid (∀ W, Calls Try.prog 18 #[.agg #[.int .u64 (a0 : Int), .int .u64 (a1 : Int), .int .u64 (a2 : Int), .int .u64 (a3 : Int)], .agg #[.int .u64 (b0 : Int), .int .u64 (b1 : Int), .int .u64 (b2 : Int), .int .u64 (b3 : Int)]] W (Told x0 x1 x2 x3 W)) := Lib.hid fun W => (Both_any a0 a1 a2 a3 b0 b1 b2 b3 W ha hb).mono fun e w' h => told hx h
  have HEI : Hid (∀ W, Calls Try.prog 19 #[.agg #[.int .u64 (a0 : Int), .int .u64 (a1 : Int), .int .u64 (a2 : Int), .int .u64 (a3 : Int)], .agg #[.int .u64 (b0 : Int), .int .u64 (b1 : Int), .int .u64 (b2 : Int), .int .u64 (b3 : Int)]] W (Told y0 y1 y2 y3 W)) := Lib.hid fun W => (Either_any a0 a1 a2 a3 b0 b1 b2 b3 W ha hb).mono fun e w' h => told hy h
  have HNX : Hid (∀ W, Calls Try.prog 20 #[.agg #[.int .u64 (x0 : Int), .int .u64 (x1 : Int), .int .u64 (x2 : Int), .int .u64 (x3 : Int)]] W (Told nx0 nx1 nx2 nx3 W)) := Lib.hid fun W => (Not_any x0 x1 x2 x3 W hxok).mono fun e w' h => told (by rw [hnx, hx]) h
  have HNA : Hid (∀ W, Calls Try.prog 20 #[.agg #[.int .u64 (a0 : Int), .int .u64 (a1 : Int), .int .u64 (a2 : Int), .int .u64 (a3 : Int)]] W (Told na0 na1 na2 na3 W)) := Lib.hid fun W => (Not_any a0 a1 a2 a3 W ha).mono fun e w' h => told hna h
  have HNB : Hid (∀ W, Calls Try.prog 20 #[.agg #[.int .u64 (b0 : Int), .int .u64 (b1 : Int), .int .u64 (b2 : Int), .int .u64 (b3 : Int)]] W (Told nb0 nb1 nb2 nb3 W)) := Lib.hid fun W => (Not_any b0 b1 b2 b3 W hb).mono fun e w' h => told hnb h
  have HEN : Hid (∀ W, Calls Try.prog 19 #[.agg #[.int .u64 (na0 : Int), .int .u64 (na1 : Int), .int .u64 (na2 : Int), .int .u64 (na3 : Int)], .agg #[.int .u64 (nb0 : Int), .int .u64 (nb1 : Int), .int .u64 (nb2 : Int), .int .u64 (nb3 : Int)]] W (Told nx0 nx1 nx2 nx3 W)) := Lib.hid fun W => (Either_any na0 na1 na2 na3 nb0 nb1 nb2 nb3 W hnaok hnbok).mono fun e w' h => told (by rw [hnx, hna, hnb, not_both ha hb]) h
  have HNN : Hid (∀ W, Calls Try.prog 20 #[.agg #[.int .u64 (na0 : Int), .int .u64 (na1 : Int), .int .u64 (na2 : Int), .int .u64 (na3 : Int)]] W (Told a0 a1 a2 a3 W)) := Lib.hid fun W => (Not_any na0 na1 na2 na3 W hnaok).mono fun e w' h => told (by rw [hna, Wf.not_not ha]) h
  have HMX : Hid (∀ W, Calls Try.prog 21 #[.agg #[.int .u64 (x0 : Int), .int .u64 (x1 : Int), .int .u64 (x2 : Int), .int .u64 (x3 : Int)]] W (fun e w' => e = .returned (.int .i64 (px : Int)) ∧ Below W.heap.size W w')) := Lib.hid fun W => many_is x0 x1 x2 x3 px W hxok (by rw [hpx, hx])
  have HMY : Hid (∀ W, Calls Try.prog 21 #[.agg #[.int .u64 (y0 : Int), .int .u64 (y1 : Int), .int .u64 (y2 : Int), .int .u64 (y3 : Int)]] W (fun e w' => e = .returned (.int .i64 (py : Int)) ∧ Below W.heap.size W w')) := Lib.hid fun W => many_is y0 y1 y2 y3 py W hyok (by rw [hpy, hy])
  have HMA : Hid (∀ W, Calls Try.prog 21 #[.agg #[.int .u64 (a0 : Int), .int .u64 (a1 : Int), .int .u64 (a2 : Int), .int .u64 (a3 : Int)]] W (fun e w' => e = .returned (.int .i64 (pa : Int)) ∧ Below W.heap.size W w')) := Lib.hid fun W => many_is a0 a1 a2 a3 pa W ha hpa
  have HMB : Hid (∀ W, Calls Try.prog 21 #[.agg #[.int .u64 (b0 : Int), .int .u64 (b1 : Int), .int .u64 (b2 : Int), .int .u64 (b3 : Int)]] W (fun e w' => e = .returned (.int .i64 (pb : Int)) ∧ Below W.heap.size W w')) := Lib.hid fun W => many_is b0 b1 b2 b3 pb W hb hpb
  have HMN : Hid (∀ W, Calls Try.prog 21 #[.agg #[.int .u64 (na0 : Int), .int .u64 (na1 : Int), .int .u64 (na2 : Int), .int .u64 (na3 : Int)]] W (fun e w' => e = .returned (.int .i64 (pn : Int)) ∧ Below W.heap.size W w')) := Lib.hid fun W => many_is na0 na1 na2 na3 pn W hnaok (by rw [hpn, hna])
  have hsum : (IntKind.i64.wrap ((px : Int) + (py : Int)) != IntKind.i64.wrap ((pa : Int) + (pb : Int))) = false := by rw [show (px : Int) + (py : Int) = (pa : Int) + (pb : Int) by omega]; exact bne_self_eq_false _
  have hsum2 : (IntKind.i64.wrap ((pa : Int) + (pn : Int)) != 256) = false := by rw [show (pa : Int) + (pn : Int) = 256 by omega]; decide
  have la : pa ≤ 256 := by omega
  have ln : pn ≤ 256 := by omega
  clear hna hnb hx hy hnx hpa hpb hpx hpy hpn l1 l2 hr hta htb hFT hf hfok hxok hyok hnaok hnbok text_is many_is ha hb
  have HA := Lib.hid (AEnv.new w a0 a1 a2 a3 b0 b1 b2 b3)
  unfold clsV
  go_enter Try.func5, Try.ntmps5
  go_wp2_with (first
    | (go_at_call 17; refine (HOF.out _).mono ?_; rintro e w1 ⟨rfl, hb1⟩; have HA1 := Lib.hid (HA.out.kept hb1); clear hb1)
    | (go_at_call 16; refine (HTF.out _).mono ?_; rintro e w2 ⟨rfl, hb2⟩; have HA2 := Lib.hid (HA1.out.kept hb2); clear hb2; obtain ⟨⟨u0, u1, u2, u3⟩, _⟩ := Blk4 HA2.out.1; obtain ⟨⟨v0, v1, v2, v3⟩, _⟩ := Blk4 HA2.out.2.1))
  go_at_call 18
  refine (HBO.out _).mono ?_
  rintro e w3 ⟨rfl, hb3⟩
  have HA3 := Lib.hid (HA2.out.kept hb3)
  clear hb3 u0 u1 u2 u3 v0 v1 v2 v3
  have hu : ∀ o : Obj, AEnv w a0 a1 a2 a3 b0 b1 b2 b3 (w3.alloc o) := fun o => HA3.out.kept ((Below.refl _ _).alloc (Nat.le_refl _) _)
  have u0 := fun o => (Blk4 (hu o).1).1.1
  have u1 := fun o => (Blk4 (hu o).1).1.2.1
  have u2 := fun o => (Blk4 (hu o).1).1.2.2.1
  have u3 := fun o => (Blk4 (hu o).1).1.2.2.2
  have v0 := fun o => (Blk4 (hu o).2.1).1.1
  have v1 := fun o => (Blk4 (hu o).2.1).1.2.1
  have v2 := fun o => (Blk4 (hu o).2.1).1.2.2.1
  have v3 := fun o => (Blk4 (hu o).2.1).1.2.2.2
  have HU := Lib.hid hu
  clear hu
  go_wp2_with fail
  go_at_call 19
  refine (HEI.out _).mono ?_
  rintro e w4 ⟨rfl, hb4⟩
  have HA4 := Lib.hid ((HU.out _).kept hb4)
  have HX4 := Lib.hid ((Blk.new w3 32 #[.int .u64 (x0 : Int), .int .u64 (x1 : Int), .int .u64 (x2 : Int), .int .u64 (x3 : Int)]).kept hb4)
  have HL : Hid (LEnv w w3.heap.size w4.heap.size a0 a1 a2 a3 b0 b1 b2 b3 x0 x1 x2 x3 y0 y1 y2 y3 (w4.alloc (.cells #[.int .u64 (y0 : Int), .int .u64 (y1 : Int), .int .u64 (y2 : Int), .int .u64 (y3 : Int)] 32))) := Lib.hid ⟨HA4.out.1.alloc _, HA4.out.2.1.alloc _, HX4.out.alloc _, Blk.new _ _ _, HA4.out.2.2.trans ((Below.refl _ _).alloc HA4.out.2.2.size _)⟩
  clear hb4 u0 u1 u2 u3 v0 v1 v2 v3 HU HA4 HX4 HA3 HA2 HA1 HA
  go_wp2_with fail
  generalize w3.heap.size = X at *
  generalize w4.heap.size = Y at *
  obtain ⟨W, hW⟩ : ∃ W, W = (w4.alloc (.cells #[.int .u64 (y0 : Int), .int .u64 (y1 : Int), .int .u64 (y2 : Int), .int .u64 (y3 : Int)] 32)) := ⟨_, rfl⟩
  rw [← hW] at HL ⊢
  clear hW
  have hS : ∀ w', Hid (LEnv w X Y a0 a1 a2 a3 b0 b1 b2 b3 x0 x1 x2 x3 y0 y1 y2 y3 w') → (w'.cell? ⟨w.heap.size, 0, none⟩ = some (.int .u64 (a0 : Int)) ∧ w'.cell? ⟨w.heap.size, 1, none⟩ = some (.int .u64 (a1 : Int)) ∧ w'.cell? ⟨w.heap.size, 2, none⟩ = some (.int .u64 (a2 : Int)) ∧ w'.cell? ⟨w.heap.size, 3, none⟩ = some (.int .u64 (a3 : Int)) ∧ w'.cell? ⟨w.heap.size + 1, 0, none⟩ = some (.int .u64 (b0 : Int)) ∧ w'.cell? ⟨w.heap.size + 1, 1, none⟩ = some (.int .u64 (b1 : Int)) ∧ w'.cell? ⟨w.heap.size + 1, 2, none⟩ = some (.int .u64 (b2 : Int)) ∧ w'.cell? ⟨w.heap.size + 1, 3, none⟩ = some (.int .u64 (b3 : Int)) ∧ w'.cell? ⟨X, 0, none⟩ = some (.int .u64 (x0 : Int)) ∧ w'.cell? ⟨X, 1, none⟩ = some (.int .u64 (x1 : Int)) ∧ w'.cell? ⟨X, 2, none⟩ = some (.int .u64 (x2 : Int)) ∧ w'.cell? ⟨X, 3, none⟩ = some (.int .u64 (x3 : Int)) ∧ w'.cell? ⟨Y, 0, none⟩ = some (.int .u64 (y0 : Int)) ∧ w'.cell? ⟨Y, 1, none⟩ = some (.int .u64 (y1 : Int)) ∧ w'.cell? ⟨Y, 2, none⟩ = some (.int .u64 (y2 : Int)) ∧ w'.cell? ⟨Y, 3, none⟩ = some (.int .u64 (y3 : Int)) ∧ Hid (LEnv w X Y a0 a1 a2 a3 b0 b1 b2 b3 x0 x1 x2 x3 y0 y1 y2 y3 w')) := fun w' h => by
    have q1 := (Blk4 h.out.1).1
    have q2 := (Blk4 h.out.2.1).1
    have q3 := (Blk4 h.out.2.2.1).1
    have q4 := (Blk4 h.out.2.2.2.1).1
    exact ⟨q1.1, q1.2.1, q1.2.2.1, q1.2.2.2, q2.1, q2.2.1, q2.2.2.1, q2.2.2.2, q3.1, q3.2.1, q3.2.2.1, q3.2.2.2, q4.1, q4.2.1, q4.2.2.1, q4.2.2.2, h⟩
  have HS := Lib.hid hS
  clear hS
  have HK : Hid (∀ w1 w2, Hid (LEnv w X Y a0 a1 a2 a3 b0 b1 b2 b3 x0 x1 x2 x3 y0 y1 y2 y3 w1) → Below w1.heap.size w1 w2 → Hid (LEnv w X Y a0 a1 a2 a3 b0 b1 b2 b3 x0 x1 x2 x3 y0 y1 y2 y3 w2)) := Lib.hid fun w1 w2 h1 h2 => Lib.hid (h1.out.kept h2)
  have HLD : Hid (LEnv w X Y a0 a1 a2 a3 b0 b1 b2 b3 x0 x1 x2 x3 y0 y1 y2 y3 W.drew) := HK.out _ _ HL (Below.refl _ _).drew
  go_region_held3 (fun w' => w'.cell? ⟨w.heap.size, 0, none⟩ = some (.int .u64 (a0 : Int)) ∧ w'.cell? ⟨w.heap.size, 1, none⟩ = some (.int .u64 (a1 : Int)) ∧ w'.cell? ⟨w.heap.size, 2, none⟩ = some (.int .u64 (a2 : Int)) ∧ w'.cell? ⟨w.heap.size, 3, none⟩ = some (.int .u64 (a3 : Int)) ∧ w'.cell? ⟨w.heap.size + 1, 0, none⟩ = some (.int .u64 (b0 : Int)) ∧ w'.cell? ⟨w.heap.size + 1, 1, none⟩ = some (.int .u64 (b1 : Int)) ∧ w'.cell? ⟨w.heap.size + 1, 2, none⟩ = some (.int .u64 (b2 : Int)) ∧ w'.cell? ⟨w.heap.size + 1, 3, none⟩ = some (.int .u64 (b3 : Int)) ∧ w'.cell? ⟨X, 0, none⟩ = some (.int .u64 (x0 : Int)) ∧ w'.cell? ⟨X, 1, none⟩ = some (.int .u64 (x1 : Int)) ∧ w'.cell? ⟨X, 2, none⟩ = some (.int .u64 (x2 : Int)) ∧ w'.cell? ⟨X, 3, none⟩ = some (.int .u64 (x3 : Int)) ∧ w'.cell? ⟨Y, 0, none⟩ = some (.int .u64 (y0 : Int)) ∧ w'.cell? ⟨Y, 1, none⟩ = some (.int .u64 (y1 : Int)) ∧ w'.cell? ⟨Y, 2, none⟩ = some (.int .u64 (y2 : Int)) ∧ w'.cell? ⟨Y, 3, none⟩ = some (.int .u64 (y3 : Int)) ∧ Hid (LEnv w X Y a0 a1 a2 a3 b0 b1 b2 b3 x0 x1 x2 x3 y0 y1 y2 y3 w'))
    (exact HS.out _ (by assumption))
    (first
      | (go_at_call_of 20 (Value.agg #[.int .u64 (x0 : Int), .int .u64 (x1 : Int), .int .u64 (x2 : Int), .int .u64 (x3 : Int)]); refine (HNX.out _).mono ?_; rintro e w5 ⟨rfl, hb5⟩; have hl5 := HK.out _ _ (by assumption) hb5)
      | (go_at_call_of 20 (Value.agg #[.int .u64 (a0 : Int), .int .u64 (a1 : Int), .int .u64 (a2 : Int), .int .u64 (a3 : Int)]); refine (HNA.out _).mono ?_; rintro e w5 ⟨rfl, hb5⟩; have hl5 := HK.out _ _ (by assumption) hb5)
      | (go_at_call_of 20 (Value.agg #[.int .u64 (b0 : Int), .int .u64 (b1 : Int), .int .u64 (b2 : Int), .int .u64 (b3 : Int)]); refine (HNB.out _).mono ?_; rintro e w5 ⟨rfl, hb5⟩; have hl5 := HK.out _ _ (by assumption) hb5)
      | (go_at_call_of 20 (Value.agg #[.int .u64 (na0 : Int), .int .u64 (na1 : Int), .int .u64 (na2 : Int), .int .u64 (na3 : Int)]); refine (HNN.out _).mono ?_; rintro e w5 ⟨rfl, hb5⟩; have hl5 := HK.out _ _ (by assumption) hb5)
      | (go_at_call 19; refine (HEN.out _).mono ?_; rintro e w5 ⟨rfl, hb5⟩; have hl5 := HK.out _ _ (by assumption) hb5))
  clear HNX HNB HEN HNN HOF HTF HBO HEI
  have HL5 := hl5
  clear hl5 hb5
  go_wp2_with fail
  have HLD5 : Hid (LEnv w X Y a0 a1 a2 a3 b0 b1 b2 b3 x0 x1 x2 x3 y0 y1 y2 y3 w5.drew) := HK.out _ _ HL5 (Below.refl _ _).drew
  go_region_held3 (fun w' => w'.cell? ⟨w.heap.size, 0, none⟩ = some (.int .u64 (a0 : Int)) ∧ w'.cell? ⟨w.heap.size, 1, none⟩ = some (.int .u64 (a1 : Int)) ∧ w'.cell? ⟨w.heap.size, 2, none⟩ = some (.int .u64 (a2 : Int)) ∧ w'.cell? ⟨w.heap.size, 3, none⟩ = some (.int .u64 (a3 : Int)) ∧ w'.cell? ⟨w.heap.size + 1, 0, none⟩ = some (.int .u64 (b0 : Int)) ∧ w'.cell? ⟨w.heap.size + 1, 1, none⟩ = some (.int .u64 (b1 : Int)) ∧ w'.cell? ⟨w.heap.size + 1, 2, none⟩ = some (.int .u64 (b2 : Int)) ∧ w'.cell? ⟨w.heap.size + 1, 3, none⟩ = some (.int .u64 (b3 : Int)) ∧ w'.cell? ⟨X, 0, none⟩ = some (.int .u64 (x0 : Int)) ∧ w'.cell? ⟨X, 1, none⟩ = some (.int .u64 (x1 : Int)) ∧ w'.cell? ⟨X, 2, none⟩ = some (.int .u64 (x2 : Int)) ∧ w'.cell? ⟨X, 3, none⟩ = some (.int .u64 (x3 : Int)) ∧ w'.cell? ⟨Y, 0, none⟩ = some (.int .u64 (y0 : Int)) ∧ w'.cell? ⟨Y, 1, none⟩ = some (.int .u64 (y1 : Int)) ∧ w'.cell? ⟨Y, 2, none⟩ = some (.int .u64 (y2 : Int)) ∧ w'.cell? ⟨Y, 3, none⟩ = some (.int .u64 (y3 : Int)) ∧ Hid (LEnv w X Y a0 a1 a2 a3 b0 b1 b2 b3 x0 x1 x2 x3 y0 y1 y2 y3 w'))
    (exact HS.out _ (by assumption))
    (first
      | (go_at_call_of 21 (Value.agg #[.int .u64 (x0 : Int), .int .u64 (x1 : Int), .int .u64 (x2 : Int), .int .u64 (x3 : Int)]); refine (HMX.out _).mono ?_; rintro e w7 ⟨rfl, hb7⟩; have hl7 := HK.out _ _ (by assumption) hb7)
      | (go_at_call_of 21 (Value.agg #[.int .u64 (y0 : Int), .int .u64 (y1 : Int), .int .u64 (y2 : Int), .int .u64 (y3 : Int)]); refine (HMY.out _).mono ?_; rintro e w7 ⟨rfl, hb7⟩; have hl7 := HK.out _ _ (by assumption) hb7)
      | (go_at_call_of 21 (Value.agg #[.int .u64 (a0 : Int), .int .u64 (a1 : Int), .int .u64 (a2 : Int), .int .u64 (a3 : Int)]); refine (HMA.out _).mono ?_; rintro e w7 ⟨rfl, hb7⟩; have hl7 := HK.out _ _ (by assumption) hb7)
      | (go_at_call_of 21 (Value.agg #[.int .u64 (b0 : Int), .int .u64 (b1 : Int), .int .u64 (b2 : Int), .int .u64 (b3 : Int)]); refine (HMB.out _).mono ?_; rintro e w7 ⟨rfl, hb7⟩; have hl7 := HK.out _ _ (by assumption) hb7)
      | (go_at_call_of 21 (Value.agg #[.int .u64 (na0 : Int), .int .u64 (na1 : Int), .int .u64 (na2 : Int), .int .u64 (na3 : Int)]); refine (HMN.out _).mono ?_; rintro e w7 ⟨rfl, hb7⟩; have hl7 := HK.out _ _ (by assumption) hb7)
      | (go_at_call_of 20 (Value.agg #[.int .u64 (a0 : Int), .int .u64 (a1 : Int), .int .u64 (a2 : Int), .int .u64 (a3 : Int)]); refine (HNA.out _).mono ?_; rintro e w7 ⟨rfl, hb7⟩; have hl7 := HK.out _ _ (by assumption) hb7))
  go_wp2_with fail
  have HLD7 : Hid (LEnv w X Y a0 a1 a2 a3 b0 b1 b2 b3 x0 x1 x2 x3 y0 y1 y2 y3 w7.drew) := HK.out _ _ hl7 (Below.refl _ _).drew
  go_region_held3 (fun w' => w'.cell? ⟨w.heap.size, 0, none⟩ = some (.int .u64 (a0 : Int)) ∧ w'.cell? ⟨w.heap.size, 1, none⟩ = some (.int .u64 (a1 : Int)) ∧ w'.cell? ⟨w.heap.size, 2, none⟩ = some (.int .u64 (a2 : Int)) ∧ w'.cell? ⟨w.heap.size, 3, none⟩ = some (.int .u64 (a3 : Int)) ∧ w'.cell? ⟨w.heap.size + 1, 0, none⟩ = some (.int .u64 (b0 : Int)) ∧ w'.cell? ⟨w.heap.size + 1, 1, none⟩ = some (.int .u64 (b1 : Int)) ∧ w'.cell? ⟨w.heap.size + 1, 2, none⟩ = some (.int .u64 (b2 : Int)) ∧ w'.cell? ⟨w.heap.size + 1, 3, none⟩ = some (.int .u64 (b3 : Int)) ∧ w'.cell? ⟨X, 0, none⟩ = some (.int .u64 (x0 : Int)) ∧ w'.cell? ⟨X, 1, none⟩ = some (.int .u64 (x1 : Int)) ∧ w'.cell? ⟨X, 2, none⟩ = some (.int .u64 (x2 : Int)) ∧ w'.cell? ⟨X, 3, none⟩ = some (.int .u64 (x3 : Int)) ∧ w'.cell? ⟨Y, 0, none⟩ = some (.int .u64 (y0 : Int)) ∧ w'.cell? ⟨Y, 1, none⟩ = some (.int .u64 (y1 : Int)) ∧ w'.cell? ⟨Y, 2, none⟩ = some (.int .u64 (y2 : Int)) ∧ w'.cell? ⟨Y, 3, none⟩ = some (.int .u64 (y3 : Int)) ∧ Hid (LEnv w X Y a0 a1 a2 a3 b0 b1 b2 b3 x0 x1 x2 x3 y0 y1 y2 y3 w'))
    (exact HS.out _ (by assumption))
    (first
      | (go_at_call_of 16 (Value.agg #[.int .u64 (a0 : Int), .int .u64 (a1 : Int), .int .u64 (a2 : Int), .int .u64 (a3 : Int)]); refine (HTA.out _).mono ?_; rintro e w8 ⟨rfl, hb8⟩; have hl8 := HK.out _ _ (by assumption) hb8)
      | (go_at_call_of 16 (Value.agg #[.int .u64 (b0 : Int), .int .u64 (b1 : Int), .int .u64 (b2 : Int), .int .u64 (b3 : Int)]); refine (HTB.out _).mono ?_; rintro e w8 ⟨rfl, hb8⟩; have hl8 := HK.out _ _ (by assumption) hb8))
  go_wp2_with fail
  have hbt : (ta.toList == tb.toList) = r := by rw [Bool.eq_iff_iff, Lib.bytes_beq_iff, htr]
  refine bodyPost_ret (v := .bool true) ?_ rfl ⟨rfl, hl8.out.2.2.2.2⟩
  simp [results, Try.results5, go_sem, hbt]

/-! ### THE ROW's STEP -/
set_option maxRecDepth 100000 in
theorem lifted (os : Os) (started : os.Started) (H : Type) (enc : TypeId × Value → H) :
    ReturnsInHanded {} Try.checked os 5 .any (Rows.classLawsSpec.pre6 enc Try.prog Try.f5 Rows.classLawsRow.domain false) (Rows.classLawsSpec.post enc Try.prog Try.f5 false true false false) := by
  refine returnsInHanded_of_change (C := Try.checked) own started (by kernel_rfl) Try.func5
    (ChangeSpec.witness6 (enc := enc) (C := Try.checked) false ⟨#[], #[.agg #[.int .u64 0, .int .u64 0, .int .u64 0, .int .u64 0], .agg #[.int .u64 0, .int .u64 0, .int .u64 0, .int .u64 0]], []⟩ 8 (by kernel_rfl) (by kernel_rfl) (by kernel_rfl) (by kernel_rfl)) ?_
  intro W base args ds gs before hval0 hW hcnd _
  have hval : ∀ (j : Nat) t v, Try.f5.params[j]? = some t → args[j]? = some v → Value.okWide Try.prog W .any base t v := hval0
  have hW' := hW
  obtain ⟨p, q, hA0, hV, rfl, hfz, hnd⟩ := hW
  have hA : DataW.TrodAll enc Try.prog W 0 (fun _ => true) true Try.f5.params.toList args.toList ds p := hA0
  rw [Try.params5] at hA hval
  obtain ⟨v0, vs0, d0, ds0, p0, q0, hargs, rfl, rfl, h0, r0⟩ := trodAll_cons hA
  obtain ⟨v1, vs1, d1, ds1, p1, q1, rfl, rfl, rfl, h1, r1⟩ := trodAll_cons r0
  obtain ⟨rfl, rfl, rfl⟩ := trodAll_nil r1
  obtain rfl : args = #[v0, v1] := by cases args; simp_all
  obtain ⟨rfl, rfl⟩ := trodVars_none hV
  obtain ⟨cs0, rfl, _⟩ := okWide_array Try.underlying32 (hval 0 32 v0 rfl rfl)
  have k0 := h0
  have lt0 : ∀ x ∈ p0, x.block < W.heap.size := by obtain ⟨m, hm⟩ := k0; exact DataW.trod_lt m _ _ _ hm
  obtain ⟨c0, ok0, rfl⟩ : ∃ c : Cls, okC c ∧ cs0 = #[.int .u64 (c.1 : Int), .int .u64 (c.2.1 : Int), .int .u64 (c.2.2.1 : Int), .int .u64 (c.2.2.2 : Int)] := by obtain ⟨fuel, hf⟩ := h0; obtain ⟨c, h1, h2⟩ := open_cls hf; exact ⟨c, h1, by cases cs0; simpa [Value.cells] using h2⟩
  obtain ⟨cs1, rfl, _⟩ := okWide_array Try.underlying32 (hval 1 32 v1 rfl rfl)
  have k1 := h1
  have lt1 : ∀ x ∈ p1, x.block < W.heap.size := by obtain ⟨m, hm⟩ := k1; exact DataW.trod_lt m _ _ _ hm
  obtain ⟨c1, ok1, rfl⟩ : ∃ c : Cls, okC c ∧ cs1 = #[.int .u64 (c.1 : Int), .int .u64 (c.2.1 : Int), .int .u64 (c.2.2.1 : Int), .int .u64 (c.2.2.2 : Int)] := by obtain ⟨fuel, hf⟩ := h1; obtain ⟨c, h1, h2⟩ := open_cls hf; exact ⟨c, h1, by cases cs1; simpa [Value.cells] using h2⟩
  clear hA0 hval0
  refine (walk c0 c1 W ok0 ok1).mono fun e W' ⟨he, bel⟩ => ?_
  subst he
  exact ⟨_, rfl, _, _, _, [], _, [], hW', trodAll_mk1 (shut_bool Try.underlying4 _), (trodAll_cons_mk (Below.trod laidOut (by kernel_rfl) (of_decide_eq_true (by kernel_rfl)) k0 bel lt0) (trodAll_cons_mk (Below.trod laidOut (by kernel_rfl) (of_decide_eq_true (by kernel_rfl)) k1 bel lt1) trodAll_mk0)), rfl, bel.frame _, fun h => by cases h⟩

theorem over : Rows.classLawsRow.holds Try.pinned (OpenSpec.ofChange Rows.classLawsSpec) :=
  OpenClaim.holds_of_wide 5 Try.f5 rfl rfl rfl rfl rfl rfl rfl ⟨rfl, rfl, rfl, rfl, rfl⟩ rfl rfl rfl rfl rfl (by kernel_rfl) Try.func5 (by kernel_rfl)
    (of_decide_eq_true (by kernel_rfl)) (by unfold Func.isWrapper; first | (rw [if_pos (by decide +kernel)]; kernel_rfl) | (rw [if_neg (by decide +kernel)]; exact ⟨rfl, rfl⟩))
    (fun os started H enc _ => lifted os started H enc)

/-- THE STATEMENT -/
theorem proved : Rows.ClassLawsSaid := over


end Go.Proofs.Ythcahjnniendnaa.classLaws
