/-
  Walks of the document's answers: EmptyOf. And rex.End.
-/
import Derived.Test.YthcahjnniendnaaDoorRefB
namespace Go.Proofs.YthcahjnniendnaaDoor
open Go.RowKit Wf

set_option maxRecDepth 100000 in
set_option maxHeartbeats 4000000 in
theorem REmpty_all (l : List Nd) (hg : ∀ n ∈ l, good n) (hlen : l.length ≤ 60) (b off cap : Nat) (w : World) (hr : RdN w (.slice (some ⟨b, off, none⟩) l.length cap) l) : ∀ (u : Rx) (i : Nat), At l i u →
    Calls Tryd.prog 13 #[.slice (some ⟨b, off, none⟩) l.length cap, .int .i64 (i : Int)] w (fun e w' => e = .returned (.bool (may u)) ∧ w = w') := by
  obtain ⟨A', cap', hv, hcap, hcap2, hmem⟩ := hr.open_
  injection hv with e1 _ e2
  subst e2
  have HM : Hid (∀ k n, l[k]? = some n → w.cell? ⟨b, off + k * 5, none⟩ = some (.int .i64 n.op)) := Lib.hid (fun k n hk => by
    obtain ⟨b', off', hA, _, hc⟩ := hmem (by have := (List.getElem?_eq_some_iff.1 hk).1; omega)
    rw [hA] at e1
    cases e1
    exact (hc w (fun _ => rfl) k n hk).1)
  have HEND := Lib.hid (fun (i : Nat) (hi : i ≤ l.length) => REnd_all l hg hlen (some ⟨b, off, none⟩) cap l.length i w (by omega) hi hr)
  clear hmem hr hg e1
  intro u
  induction u with
  | byte c =>
    intro i hat
    have q0 := HM.out i _ hat.byte
    have hlt := hat.lt
    have hi1 : (i : Int) < (l.length : Int) := by have := flat_pos (.byte c); omega
    dsimp only at q0
    clear hat
    go_enter Tryd.func13, Tryd.ntmps13
    go_wp2
    go_ret
    exact ⟨rfl, rfl⟩
  | empty =>
    intro i hat
    have q0 := HM.out i _ hat.empty
    have hlt := hat.lt
    have hi1 : (i : Int) < (l.length : Int) := by have := flat_pos .empty; omega
    dsimp only at q0
    clear hat
    go_enter Tryd.func13, Tryd.ntmps13
    go_wp2
    go_ret
    exact ⟨rfl, rfl⟩
  | bgn =>
    intro i hat
    have q0 := HM.out i _ hat.bgn
    have hlt := hat.lt
    have hi1 : (i : Int) < (l.length : Int) := by have := flat_pos .bgn; omega
    dsimp only at q0
    clear hat
    go_enter Tryd.func13, Tryd.ntmps13
    go_wp2
    go_ret
    exact ⟨rfl, rfl⟩
  | fin =>
    intro i hat
    have q0 := HM.out i _ hat.fin
    have hlt := hat.lt
    have hi1 : (i : Int) < (l.length : Int) := by have := flat_pos .fin; omega
    dsimp only at q0
    clear hat
    go_enter Tryd.func13, Tryd.ntmps13
    go_wp2
    go_ret
    exact ⟨rfl, rfl⟩
  | star a iha =>
    intro i hat
    have q0 := HM.out i _ hat.star.1
    have hlt := hat.lt
    have hi1 : (i : Int) < (l.length : Int) := by have := flat_pos (.star a); omega
    dsimp only at q0
    clear hat iha
    go_enter Tryd.func13, Tryd.ntmps13
    go_wp2
    go_ret
    exact ⟨rfl, rfl⟩
  | opt a iha =>
    intro i hat
    have q0 := HM.out i _ hat.opt.1
    have hlt := hat.lt
    have hi1 : (i : Int) < (l.length : Int) := by have := flat_pos (.opt a); omega
    dsimp only at q0
    clear hat iha
    go_enter Tryd.func13, Tryd.ntmps13
    go_wp2
    go_ret
    exact ⟨rfl, rfl⟩
  | cat a b' iha ihb =>
    intro i hat
    obtain ⟨hn, ha, hb⟩ := hat.cat
    have q0 := HM.out i _ hn
    have hlt := hat.lt
    have hpos := flat_pos (.cat a b')
    have hi1 : (i : Int) < (l.length : Int) := by omega
    have HA := Lib.hid (iha (i + 1) ha)
    have HB := Lib.hid (ihb (i + 1 + (flat a).length) hb)
    have hee := eo_at ha
    have HE := Lib.hid (HEND.out (i + 1) (by omega))
    rw [hee] at HE
    dsimp only at q0
    clear hat hn ha hb iha ihb hee
    generalize hma : may a = ma at *
    generalize hmb : may b' = mb at *
    have HRES : Hid (may (.cat a b') = (ma && mb)) := Lib.hid (by simp [may, hma, hmb])
    generalize may (.cat a b') = res at *
    clear hma hmb
    go_enter Tryd.func13, Tryd.ntmps13
    go_wp2_with fail
    refine HA.out.mono ?_
    rintro e w1 ⟨rfl, rfl⟩
    go_wp2_with fail
    refine HE.out.mono ?_
    rintro e w2 ⟨rfl, rfl⟩
    go_wp2_with fail
    refine HB.out.mono ?_
    rintro e w3 ⟨rfl, rfl⟩
    cases ma <;> (
      go_wp2_with fail
      go_ret
      exact ⟨by rw [HRES.out]; rfl, rfl⟩)
  | alt a b' iha ihb =>
    intro i hat
    obtain ⟨hn, ha, hb⟩ := hat.alt
    have q0 := HM.out i _ hn
    have hlt := hat.lt
    have hpos := flat_pos (.alt a b')
    have hi1 : (i : Int) < (l.length : Int) := by omega
    have HA := Lib.hid (iha (i + 1) ha)
    have HB := Lib.hid (ihb (i + 1 + (flat a).length) hb)
    have hee := eo_at ha
    have HE := Lib.hid (HEND.out (i + 1) (by omega))
    rw [hee] at HE
    dsimp only at q0
    clear hat hn ha hb iha ihb hee
    generalize hma : may a = ma at *
    generalize hmb : may b' = mb at *
    have HRES : Hid (may (.alt a b') = (ma || mb)) := Lib.hid (by simp [may, hma, hmb])
    generalize may (.alt a b') = res at *
    clear hma hmb
    go_enter Tryd.func13, Tryd.ntmps13
    go_wp2_with fail
    refine HA.out.mono ?_
    rintro e w1 ⟨rfl, rfl⟩
    go_wp2_with fail
    refine HE.out.mono ?_
    rintro e w2 ⟨rfl, rfl⟩
    go_wp2_with fail
    refine HB.out.mono ?_
    rintro e w3 ⟨rfl, rfl⟩
    cases ma <;> (
      go_wp2_with fail
      go_ret
      exact ⟨by rw [HRES.out]; rfl, rfl⟩)
  | plus a iha =>
    intro i hat
    obtain ⟨hn, ha⟩ := hat.plus
    have q0 := HM.out i _ hn
    have hlt := hat.lt
    have hpos := flat_pos (.plus a)
    have hi1 : (i : Int) < (l.length : Int) := by omega
    have HA := Lib.hid (iha (i + 1) ha)
    dsimp only at q0
    clear hat hn ha iha
    have HRES : Hid (may (.plus a) = may a) := Lib.hid rfl
    generalize may (.plus a) = res at *
    generalize may a = ma at *
    go_enter Tryd.func13, Tryd.ntmps13
    go_wp2_with fail
    refine HA.out.mono ?_
    rintro e w1 ⟨rfl, rfl⟩
    go_wp2_with fail
    go_ret
    exact ⟨by rw [HRES.out]; rfl, rfl⟩

def RXEndIs (r n : Int) (w : World) (e : Ending) (w' : World) : Prop := e = .returned (.tuple #[.int .i64 r, errV n]) ∧ Below w.heap.size w w'
/-- What rex.End's error is. -/
def endErr (l : List Nd) (i : Int) : Int := if chk l ≠ 0 then chk l else if i < 0 ∨ (l.length : Int) ≤ i then 1 else 0
set_option maxRecDepth 100000 in
set_option maxHeartbeats 4000000 in
theorem RXEnd_any (l : List Nd) (v : Value) (i : Int) (w : World) (hr : RdN w v l) : Calls Tryd.prog 19 #[v, .int .i64 i] w (RXEndIs (if endErr l i = 0 then eo l i.toNat else 0) (endErr l i) w) := by
  obtain ⟨A, cap, rfl, hcap, hcap2, hmem⟩ := hr.open_
  have HCK := Lib.hid (Check_any l (.slice A l.length cap) w hr)
  by_cases hc : chk l = 0
  · obtain ⟨hlen, t, ht⟩ := chk_tree hc
    have HC := Lib.hid hc
    have hE : endErr l i = if i < 0 ∨ (l.length : Int) ≤ i then 1 else 0 := by unfold endErr; rw [if_neg (by simpa using hc)]
    by_cases hin : i < 0 ∨ (l.length : Int) ≤ i
    · rw [if_pos hin] at hE
      rw [hE, if_neg (by omega)]
      clear hE hmem hr hc ht
      by_cases h1 : i < 0
      · have d1 : decide (i < 0) = true := by simpa using h1
        go_enter Tryd.func19, Tryd.ntmps19
        go_wp2_with fail
        refine HCK.out.mono ?_
        rintro e w1 ⟨rfl, hb1⟩
        rw [HC.out, errV_zero]
        go_wp2_with fail
        go_ret2
        exact ⟨rfl, hb1⟩
      · have d1 : decide (i < 0) = false := by simpa using h1
        have d2 : decide ((l.length : Int) ≤ i) = true := by simp; omega
        go_enter Tryd.func19, Tryd.ntmps19
        go_wp2_with fail
        refine HCK.out.mono ?_
        rintro e w1 ⟨rfl, hb1⟩
        rw [HC.out, errV_zero]
        go_wp2_with fail
        go_ret2
        exact ⟨rfl, hb1⟩
    · rw [if_neg hin] at hE
      obtain ⟨k, rfl⟩ : ∃ n : Nat, i = (n : Int) := ⟨i.toNat, by omega⟩
      have hk : k < l.length := by omega
      obtain ⟨u, hu⟩ := at_each t k (by rw [← ht]; exact hk)
      rw [← ht] at hu
      have heo : eo l k = ((k + (flat u).length : Nat) : Int) := eo_at hu
      rw [hE, if_pos rfl, Int.toNat_natCast, heo]
      have HEN := Lib.hid (fun (W : World) (h : RdN W (.slice A l.length cap) l) => Ends_any l t ht _ W hlen h)
      have HR := Lib.hid hr
      have HU := Lib.hid hu
      have d1 : decide ((k : Int) < 0) = false := by simp
      have d2 : decide ((l.length : Int) ≤ (k : Int)) = false := by simp; omega
      have d3 : decide (l.length ≤ k) = false := by simp; omega
      have i1 : (k : Int) < (l.length : Int) := by omega
      clear hE hmem hr hu heo hin hc ht
      go_enter Tryd.func19, Tryd.ntmps19
      go_wp2_with fail
      refine HCK.out.mono ?_
      rintro e w1 ⟨rfl, hb1⟩
      rw [HC.out, errV_zero]
      go_wp2_with fail
      refine (HEN.out _ (HR.out.below hb1)).mono ?_
      rintro e w2 ⟨g, xs, rfl, hx, hg1, hg2, hxc, hb2⟩
      have q0 := hxc k _ (hx.2 k u HU.out)
      have HB := Lib.hid (hb1.trans (hb2.mono hb1.size))
      clear hx hxc hb1 hb2
      go_wp2_with fail
      go_ret2
      exact ⟨rfl, HB.out⟩
  · have hE : endErr l i = chk l := by unfold endErr; rw [if_pos hc]
    rw [hE, if_neg hc]
    have HE := Lib.hid (errV_ne hc)
    clear hE hmem hr hc
    go_enter Tryd.func19, Tryd.ntmps19
    go_wp2_with fail
    refine HCK.out.mono ?_
    rintro e w1 ⟨rfl, hb1⟩
    rw [HE.out]
    go_wp2_with fail
    go_ret2
    exact ⟨by rw [HE.out]; rfl, hb1⟩

end Go.Proofs.YthcahjnniendnaaDoor
