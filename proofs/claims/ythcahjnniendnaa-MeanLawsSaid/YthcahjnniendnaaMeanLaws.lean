/-
  Proved: winnowfanlaw1.MeanLaws returns true for every three patterns, text and place, and changes nothing that was there. No condition beyond the row's own.
  (The frame behind the walk is the kit's proof-skeleton's.)
-/
import Derived.Test.YthcahjnniendnaaMeanTurns
import Derived.Test.YthcahjnniendnaaTwo
namespace Go.Proofs.Ythcahjnniendnaa.meanLaws
open Go.ChangeShapes Go.WideShapes Go.ChangeAt Go.RowKit Wf
open Go.ChangeMaps (open_string shut_string)
open meanEmpty (own laidOut LawIs mErr_zero)
set_option linter.unusedVariables false

theorem endsL_congr {s : List UInt8} {x y : Rx} {i : Nat} (h : ∀ j, Fits s x i j ↔ Fits s y i j) : endsL s x i = endsL s y i := upTo_iff fun k _ => h k

theorem star_plus {R : Nat → Nat → Prop} {i j : Nat} (h : Star R i j) : j = i ∨ ∃ k, R i k ∧ Star R k j := by
  induction h with
  | refl => exact .inl rfl
  | tail _ hab ih =>
    rcases ih with rfl | ⟨k, h1, h2⟩
    · exact .inr ⟨_, hab, .refl _⟩
    · exact .inr ⟨k, h1, .tail h2 hab⟩

theorem law1 (s : List UInt8) (a b : Rx) (i : Nat) : endsL s (.alt a b) i = endsL s (.alt b a) i := endsL_congr fun j => by simp only [Fits]; exact Or.comm
theorem law2 (s : List UInt8) (a : Rx) (i : Nat) : endsL s (.star a) i = endsL s (.alt .empty (.cat a (.star a))) i := endsL_congr fun j => by
  simp only [Fits]
  constructor
  · intro h; exact star_plus h
  · rintro (rfl | ⟨k, h1, h2⟩)
    · exact .refl _
    · exact .head h1 h2
theorem law3 (s : List UInt8) (a : Rx) (i : Nat) : endsL s (.star a) i = endsL s (.opt (.plus a)) i := endsL_congr fun j => by
  simp only [Fits]
  constructor
  · intro h; exact star_plus h
  · rintro (rfl | ⟨k, h1, h2⟩)
    · exact .refl _
    · exact .head h1 h2
theorem law4 (s : List UInt8) (a : Rx) (i : Nat) : endsL s (.plus a) i = endsL s (.cat a (.star a)) i := endsL_congr fun j => by simp only [Fits]
theorem law5 (s : List UInt8) (a b c : Rx) (i : Nat) : endsL s (.cat a (.alt b c)) i = endsL s (.alt (.cat a b) (.cat a c)) i := endsL_congr fun j => by
  simp only [Fits]
  constructor
  · rintro ⟨k, h1, h2 | h2⟩
    · exact .inl ⟨k, h1, h2⟩
    · exact .inr ⟨k, h1, h2⟩
  · rintro (⟨k, h1, h2⟩ | ⟨k, h1, h2⟩)
    · exact ⟨k, h1, .inl h2⟩
    · exact ⟨k, h1, .inr h2⟩
theorem law6 (s : List UInt8) (a : Rx) (i : Nat) : endsL s (.star (.star a)) i = endsL s (.star a) i := endsL_congr fun j => by
  simp only [Fits]
  constructor
  · intro h
    induction h with
    | refl => exact .refl _
    | tail _ hab ih => exact Star.trans ih hab
  · intro h; exact Star.one h

theorem fact_ends (c : Cls) (hc : c = ofL [97] zc) : toInts (endsL (ByteArray.mk #[97, 97, 98]).data.toList (.star (.byte c)) 0) = [0, 1, 2] := by
  subst hc
  have h97 : has (ofL [97] zc) 97 = true := by rw [has_ofL _ _ _ (by decide)]; decide
  have h98 : has (ofL [97] zc) 98 = false := by rw [has_ofL _ _ _ (by decide)]; decide
  have hr : ∀ j, Fits [97, 97, 98] (.star (.byte (ofL [97] zc))) 0 j ↔ j ≤ 2 := by
    intro j
    simp only [Fits]
    constructor
    · intro h
      refine Star.inv (P := fun x => x ≤ 2) h (by omega) fun x y hx hxy => ?_
      obtain ⟨rfl, b, hb, hh⟩ := hxy
      match x, hx, hb with
      | 0, _, _ => omega
      | 1, _, _ => omega
      | 2, _, hb =>
        simp at hb
        subst hb
        rw [show (98 : UInt8).toNat = 98 from rfl, h98] at hh
        cases hh
    · intro h
      have s1 : Star (fun i j => j = i + 1 ∧ ∃ b : UInt8, ([97, 97, 98] : List UInt8)[i]? = some b ∧ has (ofL [97] zc) b.toNat = true) 0 1 := Star.one ⟨rfl, 97, rfl, h97⟩
      match j, h with
      | 0, _ => exact .refl _
      | 1, _ => exact s1
      | 2, _ => exact .tail s1 ⟨rfl, 97, rfl, h97⟩
  have e : endsL (ByteArray.mk #[97, 97, 98]).data.toList (.star (.byte (ofL [97] zc))) 0 = upTo_ (fun j => j ≤ 2) 4 := upTo_iff fun k _ => hr k
  rw [e, upTo_no (P := fun j => j ≤ 2) (by simp), upTo_yes (P := fun j => j ≤ 2) (by simp), upTo_yes (P := fun j => j ≤ 2) (by simp), upTo_yes (P := fun j => j ≤ 2) (by simp), upTo_zero]
  rfl

theorem fact_rd (w : World) (B : Nat) (hB : w.heap.size = B) (a0 a1 a2 a3 : Nat) : RdN (w.alloc (.cells #[.int .i64 5, .int .u64 0, .int .u64 0, .int .u64 0, .int .u64 0, .int .i64 1, .int .u64 (a0 : Int), .int .u64 (a1 : Int), .int .u64 (a2 : Int), .int .u64 (a3 : Int)] 34)) (.slice (some ⟨B, 0, none⟩) 2 2) [⟨5, zc⟩, ⟨1, (a0, a1, a2, a3)⟩] := by
  subst hB
  refine ⟨_, 2, 2, rfl, by omega, by omega, rfl, fun _ => ⟨_, 0, rfl, fun j u hu => ?_⟩⟩
  rw [Nat.zero_add, World.cell?_alloc_new, ← hu]
  simp [ndCells, zc]

theorem fact_ints (w : World) (B : Nat) (hB : w.heap.size = B) : RdI (w.alloc (.cells #[.int .i64 0, .int .i64 1, .int .i64 2] 3)) (.slice (some ⟨B, 0, none⟩) 3 3) [0, 1, 2] := by
  subst hB
  refine ⟨_, 3, 3, rfl, by omega, by omega, rfl, fun _ => ⟨_, 0, rfl, fun j u hu => ?_⟩⟩
  rw [Nat.zero_add, World.cell?_alloc_new, ← hu]
  simp [intVals]

/-- Values that read as patterns. -/
def All (w : World) (ps : List (Value × List Nd)) : Prop := ∀ p ∈ ps, RdN w p.1 p.2
theorem All.below {w w' : World} {ps : List (Value × List Nd)} (h : All w ps) (hb : Below w.heap.size w w') : All w' ps := fun p hp => Rd.below (h p hp) hb
theorem All.cons {w : World} {ps : List (Value × List Nd)} {v : Value} {l : List Nd} (h : RdN w v l) (hs : All w ps) : All w ((v, l) :: ps) := fun p hp => by
  rcases List.mem_cons.1 hp with rfl | hp
  · exact h
  · exact hs p hp

/-- A pair of patterns that fit the same. -/
def PairAt (W : World) (s : ByteArray) (at_ : Nat) (B k : Nat) : Prop :=
  ∃ (x y : Rx) (g1 c1 g2 c2 : Nat), W.cell? ⟨B, k * 2, none⟩ = some (.slice (some ⟨g1, 0, none⟩) (flat x).length c1) ∧ W.cell? ⟨B, k * 2 + 1, none⟩ = some (.slice (some ⟨g2, 0, none⟩) (flat y).length c2) ∧
    RdN W (.slice (some ⟨g1, 0, none⟩) (flat x).length c1) (flat x) ∧ RdN W (.slice (some ⟨g2, 0, none⟩) (flat y).length c2) (flat y) ∧ (flat x).length ≤ 60 ∧ (flat y).length ≤ 60 ∧
    (∀ n ∈ flat x, okC n.cls) ∧ (∀ n ∈ flat y, okC n.cls) ∧ endsL s.data.toList x at_ = endsL s.data.toList y at_

theorem ok1 {op : Int} {a : List Nd} (h : ∀ n ∈ a, okC n.cls) : ∀ n ∈ (⟨op, zc⟩ :: a : List Nd), okC n.cls := by
  intro n hn
  rcases List.mem_cons.1 hn with rfl | hn
  · exact okC_zc
  · exact h n hn
theorem ok2 {op : Int} {a b : List Nd} (h : ∀ n ∈ a, okC n.cls) (h2 : ∀ n ∈ b, okC n.cls) : ∀ n ∈ (⟨op, zc⟩ :: (a ++ b) : List Nd), okC n.cls := by
  refine ok1 fun n hn => ?_
  rcases List.mem_append.1 hn with hn | hn
  · exact h n hn
  · exact h2 n hn

set_option maxRecDepth 100000 in
set_option maxHeartbeats 32000000 in
theorem walk (a b c : List Nd) (va vb vc : Value) (s : ByteArray) (f : Int) (w : World) (hra : RdN w va a) (hrb : RdN w vb b) (hrc : RdN w vc c) (oka : ∀ n ∈ a, okNd n) (okb : ∀ n ∈ b, okNd n) (okc : ∀ n ∈ c, okNd n) :
    Calls Try.prog 6 #[va, vb, vc, .string s, .int .i64 f] w (LawIs w) := by
  have hra0 := hra
  have hrb0 := hrb
  have hrc0 := hrc
  obtain ⟨Aa, ca, rfl, _, _, _⟩ := hra.open_
  obtain ⟨Ab, cb, rfl, _, _, _⟩ := hrb.open_
  obtain ⟨Ac, cc, rfl, _, _, _⟩ := hrc.open_
  have ka : ∀ n ∈ a, okC n.cls := fun n hn => (oka n hn).2.2
  have kb : ∀ n ∈ b, okC n.cls := fun n hn => (okb n hn).2.2
  have kc : ∀ n ∈ c, okC n.cls := fun n hn => (okc n hn).2.2
  have HKa := Lib.hid ka
  have HKb := Lib.hid kb
  have HKc := Lib.hid kc
  have HX0 : Hid (All w [((.slice Aa a.length ca), a), ((.slice Ab b.length cb), b), ((.slice Ac c.length cc), c)]) := Lib.hid (All.cons hra (All.cons hrb (All.cons hrc (fun p hp => by cases hp))))
  clear hra hrb hrc oka okb okc ka kb kc hra0 hrb0 hrc0
  go_enter Try.func6, Try.ntmps6
  go_wp2_with fail
  refine (Of_any _ _ (by decide)).mono ?_
  rintro e w1 ⟨a0, a1, a2, a3, rfl, hcl, hb1⟩
  have HCL := Lib.hid hcl
  have HB1 := Lib.hid hb1
  have HOK : Hid (∀ n ∈ ([⟨5, zc⟩, ⟨1, (a0, a1, a2, a3)⟩] : List Nd), okC n.cls) := Lib.hid (by
    intro n hn
    simp only [List.mem_cons, List.not_mem_nil, or_false] at hn
    rcases hn with rfl | rfl
    · exact okC_zc
    · show okC (a0, a1, a2, a3)
      rw [HCL.out]; exact okC_ofL _ _ okC_zc)
  have HFE := Lib.hid (fact_ends _ hcl)
  clear hcl hb1
  go_wp2_with fail
  refine (MEnds_ok [⟨5, zc⟩, ⟨1, (a0, a1, a2, a3)⟩] (.star (.byte (a0, a1, a2, a3))) rfl HOK.out _ _ 0 _ (by simp) (fact_rd _ _ (by simp) a0 a1 a2 a3) (by decide) (by omega)).mono ?_
  rintro e w2 ⟨v2, rfl, hv2, hb2⟩
  rw [natVals_ints, HFE.out] at hv2
  have hv2' : RdI w2 v2 [0, 1, 2] := hv2
  have HV2 := Lib.hid (hv2'.below ((Below.refl _ _).alloc (Nat.le_refl _) (.cells #[.int .i64 0, .int .i64 1, .int .i64 2] 3)))
  have HB2 := Lib.hid ((HB1.out.alloc HB1.out.size _).trans (hb2.mono (Nat.le_trans HB1.out.size (by simp))))
  clear hv2 hv2' hb2
  go_wp2_with fail
  refine (Ints_any [0, 1, 2] [0, 1, 2] _ _ _ HV2.out (fact_ints _ _ rfl)).mono ?_
  rintro e w3 ⟨r3, rfl, hr3, hb3⟩
  obtain rfl : r3 = true := hr3.2 rfl
  have HB3 := Lib.hid ((HB2.out.alloc HB2.out.size _).trans (hb3.mono (Nat.le_trans HB2.out.size (by simp))))
  have HX3 := Lib.hid (HX0.out.below HB3.out)
  clear hr3 hb3
  go_wp2_with fail
  refine (Check_any a _ _ (HX3.out ((.slice Aa a.length ca), a) (by simp))).mono ?_
  rintro e w4 ⟨rfl, hb4⟩
  have HB4 := Lib.hid (HB3.out.trans (hb4.mono HB3.out.size))
  have HX4 := Lib.hid (HX3.out.below hb4)
  clear hb4
  by_cases za : chk a = 0
  rotate_left
  · rw [errV_ne za]
    clear za
    go_wp2_with fail
    go_ret
    exact ⟨rfl, HB4.out⟩
  rw [za, errV_zero]
  obtain ⟨hal, ta, hta⟩ := chk_tree za
  have HTA := Lib.hid hta
  clear za hta
  go_wp2_with fail
  refine (Check_any b _ _ (HX4.out ((.slice Ab b.length cb), b) (by simp))).mono ?_
  rintro e w5 ⟨rfl, hb5⟩
  have HB5 := Lib.hid (HB4.out.trans (hb5.mono HB4.out.size))
  have HX5 := Lib.hid (HX4.out.below hb5)
  clear hb5
  by_cases zb : chk b = 0
  rotate_left
  · rw [errV_ne zb]
    clear zb
    go_wp2_with fail
    go_ret
    exact ⟨rfl, HB5.out⟩
  rw [zb, errV_zero]
  obtain ⟨hbl, tb, htb⟩ := chk_tree zb
  have HTB := Lib.hid htb
  clear zb htb
  go_wp2_with fail
  refine (Check_any c _ _ (HX5.out ((.slice Ac c.length cc), c) (by simp))).mono ?_
  rintro e w6 ⟨rfl, hb6⟩
  have HB6 := Lib.hid (HB5.out.trans (hb6.mono HB5.out.size))
  have HX6 := Lib.hid (HX5.out.below hb6)
  clear hb6
  by_cases zc0 : chk c = 0
  rotate_left
  · rw [errV_ne zc0]
    clear zc0
    go_wp2_with fail
    go_ret
    exact ⟨rfl, HB6.out⟩
  rw [zc0, errV_zero]
  obtain ⟨hcl, tc, htc⟩ := chk_tree zc0
  have HTC := Lib.hid htc
  clear zc0 htc
  by_cases hsum : 2 * a.length + b.length + c.length + 4 ≤ 60
  rotate_left
  · have hd : decide ((60 : Int) < 2 * (a.length : Int) + (b.length : Int) + (c.length : Int) + 4) = true := by simp; omega
    go_wp2_with fail
    go_ret
    exact ⟨rfl, HB6.out⟩
  have hd : decide ((60 : Int) < 2 * (a.length : Int) + (b.length : Int) + (c.length : Int) + 4) = false := by simp; omega
  by_cases hs : s.size ≤ 400
  rotate_left
  · have hd2 : decide ((400 : Int) < (s.size : Int)) = true := by simp; omega
    go_wp2_with fail
    go_ret
    exact ⟨rfl, HB6.out⟩
  have hd2 : decide ((400 : Int) < (s.size : Int)) = false := by simp; omega
  by_cases hf0 : f < 0
  · have hd3 : decide (f < 0) = true := by simp [hf0]
    go_wp2_with fail
    go_ret
    exact ⟨rfl, HB6.out⟩
  have hd3 : decide (f < 0) = false := by simp; omega
  by_cases hf1 : (s.size : Int) < f
  · have hd4 : decide ((s.size : Int) < f) = true := by simp [hf1]
    go_wp2_with fail
    go_ret
    exact ⟨rfl, HB6.out⟩
  have hd4 : decide ((s.size : Int) < f) = false := by simp; omega
  obtain ⟨at_, rfl⟩ : ∃ n : Nat, f = (n : Int) := ⟨f.toNat, by omega⟩
  have hat : at_ ≤ s.size := by omega
  have ha0 : 0 < a.length := by rw [HTA.out]; exact flat_pos ta
  have hb0 : 0 < b.length := by rw [HTB.out]; exact flat_pos tb
  have hc0 : 0 < c.length := by rw [HTC.out]; exact flat_pos tc
  have ea := HTA.out
  have eb := HTB.out
  have ec := HTC.out
  have ka := HKa.out
  have kb := HKb.out
  have kc := HKc.out
  have kE : ∀ n ∈ ([⟨2, zc⟩] : List Nd), okC n.cls := ok1 (fun n hn => by cases hn)
  obtain ⟨S, eS⟩ : ∃ L, L = flat (.star ta) := ⟨_, rfl⟩
  have qS : (⟨5, zc⟩ :: a : List Nd) = S := by rw [eS]; simp [flat, *]
  have kS : ∀ n ∈ S, okC n.cls := by rw [← qS]; exact ok1 ka
  have lS : S.length = 1 + a.length := by rw [← qS]; simp <;> omega
  obtain ⟨P, eP⟩ : ∃ L, L = flat (.plus ta) := ⟨_, rfl⟩
  have qP : (⟨6, zc⟩ :: a : List Nd) = P := by rw [eP]; simp [flat, *]
  have kP : ∀ n ∈ P, okC n.cls := by rw [← qP]; exact ok1 ka
  have lP : P.length = 1 + a.length := by rw [← qP]; simp <;> omega
  obtain ⟨X1, eX1⟩ : ∃ L, L = flat (.alt ta tb) := ⟨_, rfl⟩
  have qX1 : (⟨4, zc⟩ :: (a ++ b) : List Nd) = X1 := by rw [eX1]; simp [flat, *]
  have kX1 : ∀ n ∈ X1, okC n.cls := by rw [← qX1]; exact ok2 ka kb
  have lX1 : X1.length = 1 + a.length + b.length := by rw [← qX1]; simp <;> omega
  obtain ⟨Y1, eY1⟩ : ∃ L, L = flat (.alt tb ta) := ⟨_, rfl⟩
  have qY1 : (⟨4, zc⟩ :: (b ++ a) : List Nd) = Y1 := by rw [eY1]; simp [flat, *]
  have kY1 : ∀ n ∈ Y1, okC n.cls := by rw [← qY1]; exact ok2 kb ka
  have lY1 : Y1.length = 1 + b.length + a.length := by rw [← qY1]; simp <;> omega
  obtain ⟨CS, eCS⟩ : ∃ L, L = flat (.cat ta (.star ta)) := ⟨_, rfl⟩
  have qCS : (⟨3, zc⟩ :: (a ++ S) : List Nd) = CS := by rw [eCS]; simp [flat, *]
  have kCS : ∀ n ∈ CS, okC n.cls := by rw [← qCS]; exact ok2 ka kS
  have lCS : CS.length = 1 + a.length + S.length := by rw [← qCS]; simp <;> omega
  obtain ⟨Y2, eY2⟩ : ∃ L, L = flat (.alt .empty (.cat ta (.star ta))) := ⟨_, rfl⟩
  have qY2 : (⟨4, zc⟩ :: (([⟨2, zc⟩] : List Nd) ++ CS) : List Nd) = Y2 := by rw [eY2]; simp [flat, *]
  have kY2 : ∀ n ∈ Y2, okC n.cls := by rw [← qY2]; exact ok2 kE kCS
  have lY2 : Y2.length = 1 + ([⟨2, zc⟩] : List Nd).length + CS.length := by rw [← qY2]; simp <;> omega
  obtain ⟨Y3, eY3⟩ : ∃ L, L = flat (.opt (.plus ta)) := ⟨_, rfl⟩
  have qY3 : (⟨7, zc⟩ :: P : List Nd) = Y3 := by rw [eY3]; simp [flat, *]
  have kY3 : ∀ n ∈ Y3, okC n.cls := by rw [← qY3]; exact ok1 kP
  have lY3 : Y3.length = 1 + P.length := by rw [← qY3]; simp <;> omega
  obtain ⟨BC, eBC⟩ : ∃ L, L = flat (.alt tb tc) := ⟨_, rfl⟩
  have qBC : (⟨4, zc⟩ :: (b ++ c) : List Nd) = BC := by rw [eBC]; simp [flat, *]
  have kBC : ∀ n ∈ BC, okC n.cls := by rw [← qBC]; exact ok2 kb kc
  have lBC : BC.length = 1 + b.length + c.length := by rw [← qBC]; simp <;> omega
  obtain ⟨X5, eX5⟩ : ∃ L, L = flat (.cat ta (.alt tb tc)) := ⟨_, rfl⟩
  have qX5 : (⟨3, zc⟩ :: (a ++ BC) : List Nd) = X5 := by rw [eX5]; simp [flat, *]
  have kX5 : ∀ n ∈ X5, okC n.cls := by rw [← qX5]; exact ok2 ka kBC
  have lX5 : X5.length = 1 + a.length + BC.length := by rw [← qX5]; simp <;> omega
  obtain ⟨AB, eAB⟩ : ∃ L, L = flat (.cat ta tb) := ⟨_, rfl⟩
  have qAB : (⟨3, zc⟩ :: (a ++ b) : List Nd) = AB := by rw [eAB]; simp [flat, *]
  have kAB : ∀ n ∈ AB, okC n.cls := by rw [← qAB]; exact ok2 ka kb
  have lAB : AB.length = 1 + a.length + b.length := by rw [← qAB]; simp <;> omega
  obtain ⟨AC, eAC⟩ : ∃ L, L = flat (.cat ta tc) := ⟨_, rfl⟩
  have qAC : (⟨3, zc⟩ :: (a ++ c) : List Nd) = AC := by rw [eAC]; simp [flat, *]
  have kAC : ∀ n ∈ AC, okC n.cls := by rw [← qAC]; exact ok2 ka kc
  have lAC : AC.length = 1 + a.length + c.length := by rw [← qAC]; simp <;> omega
  obtain ⟨Y5, eY5⟩ : ∃ L, L = flat (.alt (.cat ta tb) (.cat ta tc)) := ⟨_, rfl⟩
  have qY5 : (⟨4, zc⟩ :: (AB ++ AC) : List Nd) = Y5 := by rw [eY5]; simp [flat, *]
  have kY5 : ∀ n ∈ Y5, okC n.cls := by rw [← qY5]; exact ok2 kAB kAC
  have lY5 : Y5.length = 1 + AB.length + AC.length := by rw [← qY5]; simp <;> omega
  obtain ⟨X6, eX6⟩ : ∃ L, L = flat (.star (.star ta)) := ⟨_, rfl⟩
  have qX6 : (⟨5, zc⟩ :: S : List Nd) = X6 := by rw [eX6]; simp [flat, *]
  have kX6 : ∀ n ∈ X6, okC n.cls := by rw [← qX6]; exact ok1 kS
  have lX6 : X6.length = 1 + S.length := by rw [← qX6]; simp <;> omega
  have HES := Lib.hid eS
  have HQS := Lib.hid qS
  have HKS := Lib.hid kS
  have HLS : Hid (0 < S.length ∧ S.length ≤ 60) := Lib.hid (by have := lS; simp only [List.length_cons, List.length_nil] at *; omega)
  have HEP := Lib.hid eP
  have HQP := Lib.hid qP
  have HKP := Lib.hid kP
  have HLP : Hid (0 < P.length ∧ P.length ≤ 60) := Lib.hid (by have := lP; simp only [List.length_cons, List.length_nil] at *; omega)
  have HEX1 := Lib.hid eX1
  have HQX1 := Lib.hid qX1
  have HKX1 := Lib.hid kX1
  have HLX1 : Hid (0 < X1.length ∧ X1.length ≤ 60) := Lib.hid (by have := lX1; simp only [List.length_cons, List.length_nil] at *; omega)
  have HEY1 := Lib.hid eY1
  have HQY1 := Lib.hid qY1
  have HKY1 := Lib.hid kY1
  have HLY1 : Hid (0 < Y1.length ∧ Y1.length ≤ 60) := Lib.hid (by have := lY1; simp only [List.length_cons, List.length_nil] at *; omega)
  have HECS := Lib.hid eCS
  have HQCS := Lib.hid qCS
  have HKCS := Lib.hid kCS
  have HLCS : Hid (0 < CS.length ∧ CS.length ≤ 60) := Lib.hid (by have := lCS; simp only [List.length_cons, List.length_nil] at *; omega)
  have HEY2 := Lib.hid eY2
  have HQY2 := Lib.hid qY2
  have HKY2 := Lib.hid kY2
  have HLY2 : Hid (0 < Y2.length ∧ Y2.length ≤ 60) := Lib.hid (by have := lY2; simp only [List.length_cons, List.length_nil] at *; omega)
  have HEY3 := Lib.hid eY3
  have HQY3 := Lib.hid qY3
  have HKY3 := Lib.hid kY3
  have HLY3 : Hid (0 < Y3.length ∧ Y3.length ≤ 60) := Lib.hid (by have := lY3; simp only [List.length_cons, List.length_nil] at *; omega)
  have HEBC := Lib.hid eBC
  have HQBC := Lib.hid qBC
  have HKBC := Lib.hid kBC
  have HLBC : Hid (0 < BC.length ∧ BC.length ≤ 60) := Lib.hid (by have := lBC; simp only [List.length_cons, List.length_nil] at *; omega)
  have HEX5 := Lib.hid eX5
  have HQX5 := Lib.hid qX5
  have HKX5 := Lib.hid kX5
  have HLX5 : Hid (0 < X5.length ∧ X5.length ≤ 60) := Lib.hid (by have := lX5; simp only [List.length_cons, List.length_nil] at *; omega)
  have HEAB := Lib.hid eAB
  have HQAB := Lib.hid qAB
  have HKAB := Lib.hid kAB
  have HLAB : Hid (0 < AB.length ∧ AB.length ≤ 60) := Lib.hid (by have := lAB; simp only [List.length_cons, List.length_nil] at *; omega)
  have HEAC := Lib.hid eAC
  have HQAC := Lib.hid qAC
  have HKAC := Lib.hid kAC
  have HLAC : Hid (0 < AC.length ∧ AC.length ≤ 60) := Lib.hid (by have := lAC; simp only [List.length_cons, List.length_nil] at *; omega)
  have HEY5 := Lib.hid eY5
  have HQY5 := Lib.hid qY5
  have HKY5 := Lib.hid kY5
  have HLY5 : Hid (0 < Y5.length ∧ Y5.length ≤ 60) := Lib.hid (by have := lY5; simp only [List.length_cons, List.length_nil] at *; omega)
  have HEX6 := Lib.hid eX6
  have HQX6 := Lib.hid qX6
  have HKX6 := Lib.hid kX6
  have HLX6 : Hid (0 < X6.length ∧ X6.length ≤ 60) := Lib.hid (by have := lX6; simp only [List.length_cons, List.length_nil] at *; omega)
  clear eS qS kS lS eP qP kP lP eX1 qX1 kX1 lX1 eY1 qY1 kY1 lY1 eCS qCS kCS lCS eY2 qY2 kY2 lY2 eY3 qY3 kY3 lY3 eBC qBC kBC lBC eX5 qX5 kX5 lX5 eAB qAB kAB lAB eAC qAC kAC lAC eY5 qY5 kY5 lY5 eX6 qX6 kX6 lX6
  have HX7 := HX6
  have HB7 := HB6
  clear ea eb ec ka kb kc kE hf0 hf1 hsum
  go_wp2_with fail
  refine (under_any 5 a (.slice Aa a.length ca) _ ha0 (Nat.le_trans hal (by decide)) (HX7.out ((.slice Aa a.length ca), a) (by simp))).mono ?_
  rintro e w8 ⟨gS, cS, rfl, hown, hb⟩
  rw [HQS.out] at hown ⊢
  have HX8 := Lib.hid (All.cons hown.rd (HX7.out.below hb))
  have HB8 := Lib.hid (HB7.out.trans (hb.mono HB7.out.size))
  clear hown hb
  go_wp2_with fail
  refine (under_any 6 a (.slice Aa a.length ca) _ ha0 (Nat.le_trans hal (by decide)) (HX8.out ((.slice Aa a.length ca), a) (by simp))).mono ?_
  rintro e w9 ⟨gP, cP, rfl, hown, hb⟩
  rw [HQP.out] at hown ⊢
  have HX9 := Lib.hid (All.cons hown.rd (HX8.out.below hb))
  have HB9 := Lib.hid (HB8.out.trans (hb.mono HB8.out.size))
  clear hown hb
  go_wp2_with fail
  have hal9 : Below w9.heap.size w9 (w9.alloc (.cells #[.int .i64 2, .int .u64 0, .int .u64 0, .int .u64 0, .int .u64 0] 34)) := (Below.refl _ _).alloc (Nat.le_refl _) _
  have HX9E := Lib.hid (All.cons (rd_lit w9 w9.heap.size rfl 2 0 0 0 0) (HX9.out.below hal9))
  have HB9E := Lib.hid (HB9.out.trans (hal9.mono HB9.out.size))
  clear hal9
  refine (two_any 4 a b (.slice Aa a.length ca) (.slice Ab b.length cb) _ ha0 (Nat.le_trans hal (by decide)) hb0 (Nat.le_trans hbl (by decide)) (HX9E.out ((.slice Aa a.length ca), a) (by simp)) (HX9E.out ((.slice Ab b.length cb), b) (by simp))).mono ?_
  rintro e w10 ⟨gX1, cX1, rfl, hown, hb⟩
  rw [HQX1.out] at hown ⊢
  have HX10 := Lib.hid (All.cons hown.rd (HX9E.out.below hb))
  have HB10 := Lib.hid (HB9E.out.trans (hb.mono HB9E.out.size))
  clear hown hb
  go_wp2_with fail
  refine (two_any 4 b a (.slice Ab b.length cb) (.slice Aa a.length ca) _ hb0 (Nat.le_trans hbl (by decide)) ha0 (Nat.le_trans hal (by decide)) (HX10.out ((.slice Ab b.length cb), b) (by simp)) (HX10.out ((.slice Aa a.length ca), a) (by simp))).mono ?_
  rintro e w11 ⟨gY1, cY1, rfl, hown, hb⟩
  rw [HQY1.out] at hown ⊢
  have HX11 := Lib.hid (All.cons hown.rd (HX10.out.below hb))
  have HB11 := Lib.hid (HB10.out.trans (hb.mono HB10.out.size))
  clear hown hb
  go_wp2_with fail
  refine (two_any 3 a S (.slice Aa a.length ca) (.slice (some ⟨gS, 0, none⟩) S.length cS) _ ha0 (Nat.le_trans hal (by decide)) HLS.out.1 (Nat.le_trans HLS.out.2 (by decide)) (HX11.out ((.slice Aa a.length ca), a) (by simp)) (HX11.out ((.slice (some ⟨gS, 0, none⟩) S.length cS), S) (by simp))).mono ?_
  rintro e w12 ⟨gCS, cCS, rfl, hown, hb⟩
  rw [HQCS.out] at hown ⊢
  have HX12 := Lib.hid (All.cons hown.rd (HX11.out.below hb))
  have HB12 := Lib.hid (HB11.out.trans (hb.mono HB11.out.size))
  clear hown hb
  go_wp2_with fail
  refine (two_any 4 ([⟨2, zc⟩] : List Nd) CS (.slice (some ⟨w9.heap.size, 0, none⟩) 1 1) (.slice (some ⟨gCS, 0, none⟩) CS.length cCS) _ (by simp) (by simp) HLCS.out.1 (Nat.le_trans HLCS.out.2 (by decide)) (HX12.out ((.slice (some ⟨w9.heap.size, 0, none⟩) 1 1), ([⟨2, zc⟩] : List Nd)) (by simp [zc])) (HX12.out ((.slice (some ⟨gCS, 0, none⟩) CS.length cCS), CS) (by simp))).mono ?_
  rintro e w13 ⟨gY2, cY2, rfl, hown, hb⟩
  rw [HQY2.out] at hown ⊢
  have HX13 := Lib.hid (All.cons hown.rd (HX12.out.below hb))
  have HB13 := Lib.hid (HB12.out.trans (hb.mono HB12.out.size))
  clear hown hb
  go_wp2_with fail
  refine (under_any 7 P (.slice (some ⟨gP, 0, none⟩) P.length cP) _ HLP.out.1 (Nat.le_trans HLP.out.2 (by decide)) (HX13.out ((.slice (some ⟨gP, 0, none⟩) P.length cP), P) (by simp))).mono ?_
  rintro e w14 ⟨gY3, cY3, rfl, hown, hb⟩
  rw [HQY3.out] at hown ⊢
  have HX14 := Lib.hid (All.cons hown.rd (HX13.out.below hb))
  have HB14 := Lib.hid (HB13.out.trans (hb.mono HB13.out.size))
  clear hown hb
  go_wp2_with fail
  refine (two_any 3 a S (.slice Aa a.length ca) (.slice (some ⟨gS, 0, none⟩) S.length cS) _ ha0 (Nat.le_trans hal (by decide)) HLS.out.1 (Nat.le_trans HLS.out.2 (by decide)) (HX14.out ((.slice Aa a.length ca), a) (by simp)) (HX14.out ((.slice (some ⟨gS, 0, none⟩) S.length cS), S) (by simp))).mono ?_
  rintro e w15 ⟨gY4, cY4, rfl, hown, hb⟩
  rw [HQCS.out] at hown ⊢
  have HX15 := Lib.hid (All.cons hown.rd (HX14.out.below hb))
  have HB15 := Lib.hid (HB14.out.trans (hb.mono HB14.out.size))
  clear hown hb
  go_wp2_with fail
  refine (two_any 4 b c (.slice Ab b.length cb) (.slice Ac c.length cc) _ hb0 (Nat.le_trans hbl (by decide)) hc0 (Nat.le_trans hcl (by decide)) (HX15.out ((.slice Ab b.length cb), b) (by simp)) (HX15.out ((.slice Ac c.length cc), c) (by simp))).mono ?_
  rintro e w16 ⟨gBC, cBC, rfl, hown, hb⟩
  rw [HQBC.out] at hown ⊢
  have HX16 := Lib.hid (All.cons hown.rd (HX15.out.below hb))
  have HB16 := Lib.hid (HB15.out.trans (hb.mono HB15.out.size))
  clear hown hb
  go_wp2_with fail
  refine (two_any 3 a BC (.slice Aa a.length ca) (.slice (some ⟨gBC, 0, none⟩) BC.length cBC) _ ha0 (Nat.le_trans hal (by decide)) HLBC.out.1 (Nat.le_trans HLBC.out.2 (by decide)) (HX16.out ((.slice Aa a.length ca), a) (by simp)) (HX16.out ((.slice (some ⟨gBC, 0, none⟩) BC.length cBC), BC) (by simp))).mono ?_
  rintro e w17 ⟨gX5, cX5, rfl, hown, hb⟩
  rw [HQX5.out] at hown ⊢
  have HX17 := Lib.hid (All.cons hown.rd (HX16.out.below hb))
  have HB17 := Lib.hid (HB16.out.trans (hb.mono HB16.out.size))
  clear hown hb
  go_wp2_with fail
  refine (two_any 3 a b (.slice Aa a.length ca) (.slice Ab b.length cb) _ ha0 (Nat.le_trans hal (by decide)) hb0 (Nat.le_trans hbl (by decide)) (HX17.out ((.slice Aa a.length ca), a) (by simp)) (HX17.out ((.slice Ab b.length cb), b) (by simp))).mono ?_
  rintro e w18 ⟨gAB, cAB, rfl, hown, hb⟩
  rw [HQAB.out] at hown ⊢
  have HX18 := Lib.hid (All.cons hown.rd (HX17.out.below hb))
  have HB18 := Lib.hid (HB17.out.trans (hb.mono HB17.out.size))
  clear hown hb
  go_wp2_with fail
  refine (two_any 3 a c (.slice Aa a.length ca) (.slice Ac c.length cc) _ ha0 (Nat.le_trans hal (by decide)) hc0 (Nat.le_trans hcl (by decide)) (HX18.out ((.slice Aa a.length ca), a) (by simp)) (HX18.out ((.slice Ac c.length cc), c) (by simp))).mono ?_
  rintro e w19 ⟨gAC, cAC, rfl, hown, hb⟩
  rw [HQAC.out] at hown ⊢
  have HX19 := Lib.hid (All.cons hown.rd (HX18.out.below hb))
  have HB19 := Lib.hid (HB18.out.trans (hb.mono HB18.out.size))
  clear hown hb
  go_wp2_with fail
  refine (two_any 4 AB AC (.slice (some ⟨gAB, 0, none⟩) AB.length cAB) (.slice (some ⟨gAC, 0, none⟩) AC.length cAC) _ HLAB.out.1 (Nat.le_trans HLAB.out.2 (by decide)) HLAC.out.1 (Nat.le_trans HLAC.out.2 (by decide)) (HX19.out ((.slice (some ⟨gAB, 0, none⟩) AB.length cAB), AB) (by simp)) (HX19.out ((.slice (some ⟨gAC, 0, none⟩) AC.length cAC), AC) (by simp))).mono ?_
  rintro e w20 ⟨gY5, cY5, rfl, hown, hb⟩
  rw [HQY5.out] at hown ⊢
  have HX20 := Lib.hid (All.cons hown.rd (HX19.out.below hb))
  have HB20 := Lib.hid (HB19.out.trans (hb.mono HB19.out.size))
  clear hown hb
  go_wp2_with fail
  refine (under_any 5 S (.slice (some ⟨gS, 0, none⟩) S.length cS) _ HLS.out.1 (Nat.le_trans HLS.out.2 (by decide)) (HX20.out ((.slice (some ⟨gS, 0, none⟩) S.length cS), S) (by simp))).mono ?_
  rintro e w21 ⟨gX6, cX6, rfl, hown, hb⟩
  rw [HQX6.out] at hown ⊢
  have HX21 := Lib.hid (All.cons hown.rd (HX20.out.below hb))
  have HB21 := Lib.hid (HB20.out.trans (hb.mono HB20.out.size))
  clear hown hb
  go_wp2_with fail
  have hblk := Blk.new w21 52 #[(.slice (some ⟨gX1, 0, none⟩) X1.length cX1), (.slice (some ⟨gY1, 0, none⟩) Y1.length cY1), (.slice (some ⟨gS, 0, none⟩) S.length cS), (.slice (some ⟨gY2, 0, none⟩) Y2.length cY2), (.slice (some ⟨gS, 0, none⟩) S.length cS), (.slice (some ⟨gY3, 0, none⟩) Y3.length cY3), (.slice (some ⟨gP, 0, none⟩) P.length cP), (.slice (some ⟨gY4, 0, none⟩) CS.length cY4), (.slice (some ⟨gX5, 0, none⟩) X5.length cX5), (.slice (some ⟨gY5, 0, none⟩) Y5.length cY5), (.slice (some ⟨gX6, 0, none⟩) X6.length cX6), (.slice (some ⟨gS, 0, none⟩) S.length cS)]
  have hall := HX21.out.below ((Below.refl w21.heap.size w21).alloc (Nat.le_refl _) (.cells #[(.slice (some ⟨gX1, 0, none⟩) X1.length cX1), (.slice (some ⟨gY1, 0, none⟩) Y1.length cY1), (.slice (some ⟨gS, 0, none⟩) S.length cS), (.slice (some ⟨gY2, 0, none⟩) Y2.length cY2), (.slice (some ⟨gS, 0, none⟩) S.length cS), (.slice (some ⟨gY3, 0, none⟩) Y3.length cY3), (.slice (some ⟨gP, 0, none⟩) P.length cP), (.slice (some ⟨gY4, 0, none⟩) CS.length cY4), (.slice (some ⟨gX5, 0, none⟩) X5.length cX5), (.slice (some ⟨gY5, 0, none⟩) Y5.length cY5), (.slice (some ⟨gX6, 0, none⟩) X6.length cX6), (.slice (some ⟨gS, 0, none⟩) S.length cS)] 52))
  have HBW := Lib.hid (HB21.out.trans (((Below.refl w21.heap.size w21).alloc (Nat.le_refl _) (.cells #[(.slice (some ⟨gX1, 0, none⟩) X1.length cX1), (.slice (some ⟨gY1, 0, none⟩) Y1.length cY1), (.slice (some ⟨gS, 0, none⟩) S.length cS), (.slice (some ⟨gY2, 0, none⟩) Y2.length cY2), (.slice (some ⟨gS, 0, none⟩) S.length cS), (.slice (some ⟨gY3, 0, none⟩) Y3.length cY3), (.slice (some ⟨gP, 0, none⟩) P.length cP), (.slice (some ⟨gY4, 0, none⟩) CS.length cY4), (.slice (some ⟨gX5, 0, none⟩) X5.length cX5), (.slice (some ⟨gY5, 0, none⟩) Y5.length cY5), (.slice (some ⟨gX6, 0, none⟩) X6.length cX6), (.slice (some ⟨gS, 0, none⟩) S.length cS)] 52)).mono HB21.out.size))
  obtain ⟨W, hW⟩ : ∃ W, W = w21.alloc (.cells #[(.slice (some ⟨gX1, 0, none⟩) X1.length cX1), (.slice (some ⟨gY1, 0, none⟩) Y1.length cY1), (.slice (some ⟨gS, 0, none⟩) S.length cS), (.slice (some ⟨gY2, 0, none⟩) Y2.length cY2), (.slice (some ⟨gS, 0, none⟩) S.length cS), (.slice (some ⟨gY3, 0, none⟩) Y3.length cY3), (.slice (some ⟨gP, 0, none⟩) P.length cP), (.slice (some ⟨gY4, 0, none⟩) CS.length cY4), (.slice (some ⟨gX5, 0, none⟩) X5.length cX5), (.slice (some ⟨gY5, 0, none⟩) Y5.length cY5), (.slice (some ⟨gX6, 0, none⟩) X6.length cX6), (.slice (some ⟨gS, 0, none⟩) S.length cS)] 52) := ⟨_, rfl⟩
  rw [← hW] at hblk hall HBW ⊢
  have hlt : w21.heap.size < W.heap.size := by rw [hW]; simp
  obtain ⟨B, hB⟩ : ∃ B, B = w21.heap.size := ⟨_, rfl⟩
  rw [← hB] at hblk hlt ⊢
  have hpair : ∀ k, k < 6 → PairAt W s at_ B k := fun k hk => match k, hk with
    | 0, _ => by
      have c0 := hblk.cell (0 * 2)
      have c1 := hblk.cell (0 * 2 + 1)
      have r0 := hall ((.slice (some ⟨gX1, 0, none⟩) X1.length cX1), X1) (by simp)
      have r1 := hall ((.slice (some ⟨gY1, 0, none⟩) Y1.length cY1), Y1) (by simp)
      have l0 := HLX1.out.2
      have l1 := HLY1.out.2
      have o0 := HKX1.out
      have o1 := HKY1.out
      rw [HEX1.out] at c0 r0 l0 o0
      rw [HEY1.out] at c1 r1 l1 o1
      exact ⟨.alt ta tb, .alt tb ta, gX1, cX1, gY1, cY1, c0, c1, r0, r1, l0, l1, o0, o1, law1 _ ta tb _⟩
    | 1, _ => by
      have c0 := hblk.cell (1 * 2)
      have c1 := hblk.cell (1 * 2 + 1)
      have r0 := hall ((.slice (some ⟨gS, 0, none⟩) S.length cS), S) (by simp)
      have r1 := hall ((.slice (some ⟨gY2, 0, none⟩) Y2.length cY2), Y2) (by simp)
      have l0 := HLS.out.2
      have l1 := HLY2.out.2
      have o0 := HKS.out
      have o1 := HKY2.out
      rw [HES.out] at c0 r0 l0 o0
      rw [HEY2.out] at c1 r1 l1 o1
      exact ⟨.star ta, .alt .empty (.cat ta (.star ta)), gS, cS, gY2, cY2, c0, c1, r0, r1, l0, l1, o0, o1, law2 _ ta _⟩
    | 2, _ => by
      have c0 := hblk.cell (2 * 2)
      have c1 := hblk.cell (2 * 2 + 1)
      have r0 := hall ((.slice (some ⟨gS, 0, none⟩) S.length cS), S) (by simp)
      have r1 := hall ((.slice (some ⟨gY3, 0, none⟩) Y3.length cY3), Y3) (by simp)
      have l0 := HLS.out.2
      have l1 := HLY3.out.2
      have o0 := HKS.out
      have o1 := HKY3.out
      rw [HES.out] at c0 r0 l0 o0
      rw [HEY3.out] at c1 r1 l1 o1
      exact ⟨.star ta, .opt (.plus ta), gS, cS, gY3, cY3, c0, c1, r0, r1, l0, l1, o0, o1, law3 _ ta _⟩
    | 3, _ => by
      have c0 := hblk.cell (3 * 2)
      have c1 := hblk.cell (3 * 2 + 1)
      have r0 := hall ((.slice (some ⟨gP, 0, none⟩) P.length cP), P) (by simp)
      have r1 := hall ((.slice (some ⟨gY4, 0, none⟩) CS.length cY4), CS) (by simp)
      have l0 := HLP.out.2
      have l1 := HLCS.out.2
      have o0 := HKP.out
      have o1 := HKCS.out
      rw [HEP.out] at c0 r0 l0 o0
      rw [HECS.out] at c1 r1 l1 o1
      exact ⟨.plus ta, .cat ta (.star ta), gP, cP, gY4, cY4, c0, c1, r0, r1, l0, l1, o0, o1, law4 _ ta _⟩
    | 4, _ => by
      have c0 := hblk.cell (4 * 2)
      have c1 := hblk.cell (4 * 2 + 1)
      have r0 := hall ((.slice (some ⟨gX5, 0, none⟩) X5.length cX5), X5) (by simp)
      have r1 := hall ((.slice (some ⟨gY5, 0, none⟩) Y5.length cY5), Y5) (by simp)
      have l0 := HLX5.out.2
      have l1 := HLY5.out.2
      have o0 := HKX5.out
      have o1 := HKY5.out
      rw [HEX5.out] at c0 r0 l0 o0
      rw [HEY5.out] at c1 r1 l1 o1
      exact ⟨.cat ta (.alt tb tc), .alt (.cat ta tb) (.cat ta tc), gX5, cX5, gY5, cY5, c0, c1, r0, r1, l0, l1, o0, o1, law5 _ ta tb tc _⟩
    | 5, _ => by
      have c0 := hblk.cell (5 * 2)
      have c1 := hblk.cell (5 * 2 + 1)
      have r0 := hall ((.slice (some ⟨gX6, 0, none⟩) X6.length cX6), X6) (by simp)
      have r1 := hall ((.slice (some ⟨gS, 0, none⟩) S.length cS), S) (by simp)
      have l0 := HLX6.out.2
      have l1 := HLS.out.2
      have o0 := HKX6.out
      have o1 := HKS.out
      rw [HEX6.out] at c0 r0 l0 o0
      rw [HES.out] at c1 r1 l1 o1
      exact ⟨.star (.star ta), .star ta, gX6, cX6, gS, cS, c0, c1, r0, r1, l0, l1, o0, o1, law6 _ ta _⟩
  have HP := Lib.hid hpair
  clear hblk hall hpair hW hB
  have HE := Lib.hid (fun (x : Rx) (h : ∀ n ∈ flat x, okC n.cls) (g c : Nat) (W : World) (hl : (flat x).length ≤ 60) (hr : RdN W (.slice (some ⟨g, 0, none⟩) (flat x).length c) (flat x)) => MEnds_ok (flat x) x rfl h (.slice (some ⟨g, 0, none⟩) (flat x).length c) s at_ W hl hr hs hat)
  go_wp2_with fail
  go_loopw [19] (fun v19 wr => ∃ k : Nat, k ≤ 6 ∧ v19 = .int .i64 k ∧ Hid (Below W.heap.size W wr)) (fun i _ => 6 - (intOf i).toNat)
  case atStart => exact ⟨0, by omega, rfl, Lib.hid (Below.refl _ _)⟩
  case round =>
    obtain ⟨k, hk, rfl, hbel⟩ := hrel
    by_cases hlt6 : k < 6
    · obtain ⟨x, y, g1, c1, g2, c2, q1, q2, r1, r2, l1, l2, o1, o2, heq⟩ := HP.out k hlt6
      have q1' : wr.cell? ⟨B, k * 2, none⟩ = _ := (hbel.out.cell (p := ⟨B, k * 2, none⟩) hlt).trans q1
      have hk6 : (k : Int) < 6 := by omega
      have HR1 := Lib.hid r1
      have HR2 := Lib.hid r2
      have HO1 := Lib.hid o1
      have HO2 := Lib.hid o2
      have HEQ := Lib.hid heq
      have HQ2 := Lib.hid q2
      clear q1 q2 r1 r2 o1 o2 heq
      go_wp2_with fail
      refine (HE.out x HO1.out g1 c1 wr l1 (HR1.out.below hbel.out)).mono ?_
      rintro e u1 ⟨v1, rfl, hv1, hu1⟩
      rw [natVals_ints, HEQ.out] at hv1
      have HV1 := Lib.hid (show RdI u1 v1 _ from hv1)
      have HU1 := Lib.hid (hbel.out.trans (hu1.mono hbel.out.size))
      have q2' : u1.cell? ⟨B, k * 2 + 1, none⟩ = _ := (HU1.out.cell (p := ⟨B, k * 2 + 1, none⟩) hlt).trans HQ2.out
      clear hv1 hu1 q1'
      go_wp2_with fail
      refine (HE.out y HO2.out g2 c2 u1 l2 (HR2.out.below HU1.out)).mono ?_
      rintro e u2 ⟨v2, rfl, hv2, hu2⟩
      rw [natVals_ints] at hv2
      have HV2 := Lib.hid (show RdI u2 v2 _ from hv2)
      have HV12 := Lib.hid (HV1.out.below hu2)
      have HU2 := Lib.hid (HU1.out.trans (hu2.mono HU1.out.size))
      clear hv2 hu2 q2'
      go_wp2_with fail
      refine (Ints_any _ _ _ _ _ HV12.out HV2.out).mono ?_
      rintro e u3 ⟨r3, rfl, hr3, hu3⟩
      obtain rfl : r3 = true := hr3.2 rfl
      have HU3 := Lib.hid (HU2.out.trans (hu3.mono HU2.out.size))
      clear hr3 hu3
      go_wp2_with fail
      go_roundw
      case rel => exact ⟨k + 1, by omega, by go_num, HU3⟩
      case measure => simp [intOf]; omega
    · obtain rfl : k = 6 := by omega
      go_wp2_with fail
      go_ret
      exact ⟨rfl, HBW.out.trans (hbel.out.mono HBW.out.size)⟩

/-! ### THE ROW's STEP -/
set_option maxRecDepth 100000 in
theorem lifted (os : Os) (started : os.Started) (H : Type) (enc : TypeId × Value → H) :
    ReturnsInHanded {} Try.checked os 6 .any (Rows.meanLawsSpec.pre6 enc Try.prog Try.f6 Rows.meanLawsRow.domain false) (Rows.meanLawsSpec.post enc Try.prog Try.f6 false true false false) := by
  refine returnsInHanded_of_change (C := Try.checked) own started (by kernel_rfl) Try.func6
    (ChangeSpec.witness6 (enc := enc) (C := Try.checked) false ⟨#[], #[.slice none 0 0, .slice none 0 0, .slice none 0 0, .string ByteArray.empty, .int .i64 0], []⟩ 8 (by kernel_rfl) (by kernel_rfl) (by kernel_rfl) (by kernel_rfl)) ?_
  intro W base args ds gs before hval0 hW hcnd _
  have hval : ∀ (j : Nat) t v, Try.f6.params[j]? = some t → args[j]? = some v → Value.okWide Try.prog W .any base t v := hval0
  have hW' := hW
  obtain ⟨p, q, hA0, hV, rfl, hfz, hnd⟩ := hW
  have hA : DataW.TrodAll enc Try.prog W 0 (fun _ => true) true Try.f6.params.toList args.toList ds p := hA0
  rw [Try.params6] at hA hval
  obtain ⟨v0, vs0, d0, ds0, p0, q0, hargs, rfl, rfl, h0, r0⟩ := trodAll_cons hA
  obtain ⟨v1, vs1, d1, ds1, p1, q1, rfl, rfl, rfl, h1, r1⟩ := trodAll_cons r0
  obtain ⟨v2, vs2, d2, ds2, p2, q2, rfl, rfl, rfl, h2, r2⟩ := trodAll_cons r1
  obtain ⟨v3, vs3, d3, ds3, p3, q3, rfl, rfl, rfl, h3, r3⟩ := trodAll_cons r2
  obtain ⟨v4, vs4, d4, ds4, p4, q4, rfl, rfl, rfl, h4, r4⟩ := trodAll_cons r3
  obtain ⟨rfl, rfl, rfl⟩ := trodAll_nil r4
  obtain rfl : args = #[v0, v1, v2, v3, v4] := by cases args; simp_all
  obtain ⟨rfl, rfl⟩ := trodVars_none hV
  obtain ⟨a0, len0, cap0, rfl⟩ := okWide_slice Try.underlying25 (hval 0 25 v0 rfl rfl)
  have k0 := h0
  have lt0 : ∀ x ∈ p0, x.block < W.heap.size := by obtain ⟨m, hm⟩ := k0; exact DataW.trod_lt m _ _ _ hm
  obtain ⟨z0, w0, ok0⟩ : ∃ l, RdN W (.slice a0 len0 cap0) l ∧ ∀ nd ∈ l, okNd nd := by obtain ⟨fuel, hf⟩ := h0; exact open_nodes (by simpa [Value.cells] using hf)
  obtain ⟨a1, len1, cap1, rfl⟩ := okWide_slice Try.underlying25 (hval 1 25 v1 rfl rfl)
  have k1 := h1
  have lt1 : ∀ x ∈ p1, x.block < W.heap.size := by obtain ⟨m, hm⟩ := k1; exact DataW.trod_lt m _ _ _ hm
  obtain ⟨z1, w1, ok1⟩ : ∃ l, RdN W (.slice a1 len1 cap1) l ∧ ∀ nd ∈ l, okNd nd := by obtain ⟨fuel, hf⟩ := h1; exact open_nodes (by simpa [Value.cells] using hf)
  obtain ⟨a2, len2, cap2, rfl⟩ := okWide_slice Try.underlying25 (hval 2 25 v2 rfl rfl)
  have k2 := h2
  have lt2 : ∀ x ∈ p2, x.block < W.heap.size := by obtain ⟨m, hm⟩ := k2; exact DataW.trod_lt m _ _ _ hm
  obtain ⟨z2, w2, ok2⟩ : ∃ l, RdN W (.slice a2 len2 cap2) l ∧ ∀ nd ∈ l, okNd nd := by obtain ⟨fuel, hf⟩ := h2; exact open_nodes (by simpa [Value.cells] using hf)
  have k3 := h3
  have lt3 : ∀ x ∈ p3, x.block < W.heap.size := by obtain ⟨m, hm⟩ := k3; exact DataW.trod_lt m _ _ _ hm
  obtain ⟨s3, rfl, rfl, rfl, ws3⟩ := open_string Try.underlying9 (hval 3 9 v3 rfl rfl) h3
  have k4 := h4
  have lt4 : ∀ x ∈ p4, x.block < W.heap.size := by obtain ⟨m, hm⟩ := k4; exact DataW.trod_lt m _ _ _ hm
  obtain ⟨x4, rfl, rfl, rfl, wx4⟩ := open_int Try.underlying3 (hval 4 3 v4 rfl rfl) h4
  clear hA0 hval0
  refine (walk z0 z1 z2 _ _ _ s3 x4 W w0 w1 w2 ok0 ok1 ok2).mono fun e W' ⟨he, bel⟩ => ?_
  subst he
  exact ⟨_, rfl, _, _, _, [], _, [], hW', trodAll_mk1 (shut_bool Try.underlying4 _), (trodAll_cons_mk (Below.trod laidOut (by kernel_rfl) (of_decide_eq_true (by kernel_rfl)) k0 bel lt0) (trodAll_cons_mk (Below.trod laidOut (by kernel_rfl) (of_decide_eq_true (by kernel_rfl)) k1 bel lt1) (trodAll_cons_mk (Below.trod laidOut (by kernel_rfl) (of_decide_eq_true (by kernel_rfl)) k2 bel lt2) (trodAll_cons_mk (shut_string Try.underlying9 ws3) (trodAll_cons_mk (shut_int Try.underlying3 wx4) trodAll_mk0))))), rfl, bel.frame _, fun h => by cases h⟩

theorem over : Rows.meanLawsRow.holds Try.pinned (OpenSpec.ofChange Rows.meanLawsSpec) :=
  OpenClaim.holds_of_wide 6 Try.f6 rfl rfl rfl rfl rfl rfl rfl ⟨rfl, rfl, rfl, rfl, rfl⟩ rfl rfl rfl rfl rfl (by kernel_rfl) Try.func6 (by kernel_rfl)
    (of_decide_eq_true (by kernel_rfl)) (by unfold Func.isWrapper; first | (rw [if_pos (by decide +kernel)]; kernel_rfl) | (rw [if_neg (by decide +kernel)]; exact ⟨rfl, rfl⟩))
    (fun os started H enc _ => lifted os started H enc)

/-- THE STATEMENT -/
theorem proved : Rows.MeanLawsSaid := over


end Go.Proofs.Ythcahjnniendnaa.meanLaws
