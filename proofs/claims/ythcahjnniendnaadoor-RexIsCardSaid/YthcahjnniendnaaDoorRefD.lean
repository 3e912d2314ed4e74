/-
  The walk of the document's TurnOf.
-/
import Derived.Test.YthcahjnniendnaaDoorRefC
import Derived.Test.YthcahjnniendnaaDoorTurn
namespace Go.Proofs.YthcahjnniendnaaDoor
open Go.RowKit Wf

def RTurnIs (u : Rx) (w : World) (e : Ending) (w' : World) : Prop :=
  ∃ g cap, e = .returned (.slice (some ⟨g, 0, none⟩) (flat (turnT u)).length cap) ∧ w'.ownsRow w.heap.size 61 5 (.slice (some ⟨g, 0, none⟩) (flat (turnT u)).length cap) (flat (turnT u)).length ((flat (turnT u)).flatMap ndCells) ∧ Below w.heap.size w w'

theorem own_src {w : World} {base g cap : Nat} {l : List Nd} (h : w.ownsRow base 61 5 (.slice (some ⟨g, 0, none⟩) l.length cap) l.length (l.flatMap ndCells)) (hl : 0 < l.length) :
    ∀ (j : Nat) (u : Value), (l.flatMap ndCells)[j]? = some u → w.cell? ((⟨g, 0, none⟩ : Addr).add j) = some u := by
  intro j u hu
  rcases h.2 with ⟨h0, _⟩ | ⟨g', cap', cur, hv, h1, h2, h3, h4, h5, h6⟩
  · cases h0
  · injection hv with e1 e2 e3
    injection e1 with e1
    injection e1 with e1
    subst e1
    rw [add_mk, Nat.zero_add, (show Blk w g _ cur from h2).cell, ← Array.getElem?_toList]
    rw [← h6, List.getElem?_take] at hu
    split at hu
    · exact hu
    · cases hu
theorem own_of_below {B base base' size n : Nat} {w w' : World} {e : TypeId} {v : Value} {xs : List Value} (h : w.ownsRow base e size v n xs) (hb : base' ≤ base) : w.ownsRow base' e size v n xs := by
  refine ⟨h.1, ?_⟩
  rcases h.2 with hn | ⟨g, cap, cur, hv, h1, rest⟩
  · exact .inl hn
  · exact .inr ⟨g, cap, cur, hv, Nat.le_trans hb h1, rest⟩

theorem src_grown {w w' : World} {row : Option Nat} {g : Nat} (hg : w.grownBy w' row) (hlt : g < w.heap.size) (hne : row ≠ some g) (j : Nat) : w'.cell? ((⟨g, 0, none⟩ : Addr).add j) = w.cell? ((⟨g, 0, none⟩ : Addr).add j) := by
  rw [add_mk]
  exact World.cell?_of_block (hg.block g hlt (fun e => hne e.symm))

set_option maxRecDepth 100000 in
set_option maxHeartbeats 8000000 in
theorem RTurn_all (l : List Nd) (hg : ∀ n ∈ l, good n) (hlen : l.length ≤ 60) (b off cap : Nat) : ∀ (u : Rx) (i : Nat) (w : World), At l i u → RdN w (.slice (some ⟨b, off, none⟩) l.length cap) l →
    Calls Tryd.prog 14 #[.slice (some ⟨b, off, none⟩) l.length cap, .int .i64 (i : Int)] w (RTurnIs u w) := by
  obtain ⟨i0, hi0, hz0, hz1, hz2⟩ := info_parts info_node
  have HM : Hid (∀ (w : World), RdN w (.slice (some ⟨b, off, none⟩) l.length cap) l → ∀ k n, l[k]? = some n →
      w.cell? ⟨b, off + k * 5, none⟩ = some (.int .i64 n.op) ∧ w.cell? ⟨b, off + k * 5 + 1, none⟩ = some (.int .u64 (n.cls.1 : Int)) ∧ w.cell? ⟨b, off + k * 5 + 2, none⟩ = some (.int .u64 (n.cls.2.1 : Int)) ∧
      w.cell? ⟨b, off + k * 5 + 3, none⟩ = some (.int .u64 (n.cls.2.2.1 : Int)) ∧ w.cell? ⟨b, off + k * 5 + 4, none⟩ = some (.int .u64 (n.cls.2.2.2 : Int))) := Lib.hid (fun w hr k n hk => by
    obtain ⟨A', cap', hv, hcap, hcap2, hmem⟩ := hr.open_
    injection hv with e1 _ e2
    obtain ⟨b', off', hA, _, hc⟩ := hmem (by have := (List.getElem?_eq_some_iff.1 hk).1; omega)
    rw [hA] at e1
    cases e1
    exact hc w (fun _ => rfl) k n hk)
  have HEND := Lib.hid (fun (i : Nat) (hi : i ≤ l.length) (w : World) (hr : RdN w (.slice (some ⟨b, off, none⟩) l.length cap) l) => REnd_all l hg hlen (some ⟨b, off, none⟩) cap l.length i w (by omega) hi hr)
  clear hg
  intro u
  induction u with
  | byte c =>
    intro i w hat hr
    obtain ⟨c0, c1, c2, c3⟩ := c
    obtain ⟨q0, q1, q2, q3, q4⟩ := HM.out w hr i _ hat.byte
    have hlt := hat.lt
    have hpos := flat_pos (.byte (c0, c1, c2, c3))
    have hi1 : (i : Int) < (l.length : Int) := by omega
    dsimp only at q0 q1 q2 q3 q4
    have HPT := Lib.hid (fun W => RParts_any 1 W)
    rw [show parts 1 = 0 from by simp [parts]] at HPT
    clear hat hr
    go_enter Tryd.func14, Tryd.ntmps14
    go_wp2_with (go_at_call 26; refine (HPT.out _).mono ?_; rintro e w' ⟨rfl, rfl⟩)
    go_ret
    exact ⟨_, 1, rfl, own_lit _ _ (by simp) _ (by simp <;> omega) 1 c0 c1 c2 c3, (((Below.refl _ _).alloc (Nat.le_refl _) _).alloc (by simp <;> omega) _)⟩
  | empty =>
    intro i w hat hr
    obtain ⟨q0, q1, q2, q3, q4⟩ := HM.out w hr i _ hat.empty
    have hlt := hat.lt
    have hpos := flat_pos .empty
    have hi1 : (i : Int) < (l.length : Int) := by omega
    dsimp only [zc] at q0 q1 q2 q3 q4
    have HPT := Lib.hid (fun W => RParts_any 2 W)
    rw [show parts 2 = 0 from by simp [parts]] at HPT
    clear hat hr
    go_enter Tryd.func14, Tryd.ntmps14
    go_wp2_with (go_at_call 26; refine (HPT.out _).mono ?_; rintro e w' ⟨rfl, rfl⟩)
    go_ret
    exact ⟨_, 1, rfl, own_lit _ _ (by simp) _ (by simp <;> omega) 2 0 0 0 0, (((Below.refl _ _).alloc (Nat.le_refl _) _).alloc (by simp <;> omega) _)⟩
  | bgn =>
    intro i w hat hr
    obtain ⟨q0, q1, q2, q3, q4⟩ := HM.out w hr i _ hat.bgn
    have hlt := hat.lt
    have hpos := flat_pos .bgn
    have hi1 : (i : Int) < (l.length : Int) := by omega
    dsimp only [zc] at q0 q1 q2 q3 q4
    have HPT := Lib.hid (fun W => RParts_any 9 W)
    rw [show parts 9 = 0 from by simp [parts]] at HPT
    clear hat hr
    go_enter Tryd.func14, Tryd.ntmps14
    go_wp2_with (go_at_call 26; refine (HPT.out _).mono ?_; rintro e w' ⟨rfl, rfl⟩)
    go_ret
    exact ⟨_, 1, rfl, own_lit _ _ (by simp) _ (by simp <;> omega) 9 0 0 0 0, (((Below.refl _ _).alloc (Nat.le_refl _) _).alloc (by simp <;> omega) _)⟩
  | fin =>
    intro i w hat hr
    obtain ⟨q0, q1, q2, q3, q4⟩ := HM.out w hr i _ hat.fin
    have hlt := hat.lt
    have hpos := flat_pos .fin
    have hi1 : (i : Int) < (l.length : Int) := by omega
    dsimp only [zc] at q0 q1 q2 q3 q4
    have HPT := Lib.hid (fun W => RParts_any 8 W)
    rw [show parts 8 = 0 from by simp [parts]] at HPT
    clear hat hr
    go_enter Tryd.func14, Tryd.ntmps14
    go_wp2_with (go_at_call 26; refine (HPT.out _).mono ?_; rintro e w' ⟨rfl, rfl⟩)
    go_ret
    exact ⟨_, 1, rfl, own_lit _ _ (by simp) _ (by simp <;> omega) 8 0 0 0 0, (((Below.refl _ _).alloc (Nat.le_refl _) _).alloc (by simp <;> omega) _)⟩
  | star a iha =>
    intro i w hat hr
    obtain ⟨q0, q1, q2, q3, q4⟩ := HM.out w hr i _ hat.star.1
    have hlt := hat.lt
    have hpos := flat_pos (.star a)
    have hi1 : (i : Int) < (l.length : Int) := by omega
    dsimp only [zc] at q0 q1 q2 q3 q4
    have HPT := Lib.hid (fun W => RParts_any 5 W)
    rw [show parts 5 = 1 from by simp [parts]] at HPT
    have HA := Lib.hid (fun W h => iha (i + 1) W hat.star.2 h)
    have HR := Lib.hid hr
    have hpa := flat_pos (turnT a)
    have hla := turn_len a
    have hal := hat.star.2.lt
    have hsmall : (flat (turnT a)).length ≤ 60 := by omega
    have hflat : flat (turnT (.star a)) = ⟨5, zc⟩ :: flat (turnT a) := rfl
    have HFL := Lib.hid hflat
    have HNL := Lib.hid (flatMap_len (flat (turnT a)))
    have HONE := Lib.hid (ndCells_one (flat (turnT a)))
    have HBW : Hid (∀ o1 o2, Below w.heap.size w ((w.alloc o1).alloc o2)) := Lib.hid (fun o1 o2 => ((Below.refl _ _).alloc (Nat.le_refl _) _).alloc (by simp <;> omega) _)
    clear hat hr iha hla hal hflat
    go_enter Tryd.func14, Tryd.ntmps14
    go_wp2_with (go_at_call 26; refine (HPT.out _).mono ?_; rintro e w' ⟨rfl, rfl⟩)
    refine (HA.out _ (HR.out.below (HBW.out _ _))).mono ?_
    rintro e w1 ⟨g1, cap1, rfl, hown1, hb1⟩
    have hown := own_below (own_lit (w.alloc (.cells #[.int .i64 5, .int .u64 0, .int .u64 0, .int .u64 0, .int .u64 0] 61)) (w.heap.size + 1) (by simp) w.heap.size (by simp <;> omega) 5 0 0 0 0) hb1
    have HSRC := Lib.hid (own_src hown1 hpa)
    have HBB := Lib.hid ((HBW.out _ _).trans (hb1.mono (by simp <;> omega)))
    have hbase := HBB.out.size
    have HOWN := Lib.hid hown
    clear hown hown1 hb1
    go_wp2_with (at_builtin; refine wpList_append_lies _ rfl (.tmp 28) (.tmp 32) _ rfl w.heap.size 61 i0 _ 5 40 Tryd.underlying36 hi0 hz0 hz1 hz2 rfl (by omega) _ 1 _ rfl HOWN.out ⟨g1, 0, none⟩ (flat (turnT a)).length _ ((flat (turnT a)).flatMap ndCells) rfl HNL.out HSRC.out HONE.out hpa (by unfold maxLen; omega) (by omega) hbase _ rfl ?_; intro g2 cap2 w2 hown2 hgrow2 hat2 hlt2)
    have hlen : (flat (turnT (.star a))).length = 1 + (flat (turnT a)).length := by rw [HFL.out]; simp; omega
    go_ret
    refine ⟨g2, cap2, by rw [hlen]; rfl, ?_, HBB.out.grown hgrow2 hbase fun q hq => (HOWN.out.lt q hq).1⟩
    rw [hlen, HFL.out]
    exact hown2
  | plus a iha =>
    intro i w hat hr
    obtain ⟨q0, q1, q2, q3, q4⟩ := HM.out w hr i _ hat.plus.1
    have hlt := hat.lt
    have hpos := flat_pos (.plus a)
    have hi1 : (i : Int) < (l.length : Int) := by omega
    dsimp only [zc] at q0 q1 q2 q3 q4
    have HPT := Lib.hid (fun W => RParts_any 6 W)
    rw [show parts 6 = 1 from by simp [parts]] at HPT
    have HA := Lib.hid (fun W h => iha (i + 1) W hat.plus.2 h)
    have HR := Lib.hid hr
    have hpa := flat_pos (turnT a)
    have hla := turn_len a
    have hal := hat.plus.2.lt
    have hsmall : (flat (turnT a)).length ≤ 60 := by omega
    have hflat : flat (turnT (.plus a)) = ⟨6, zc⟩ :: flat (turnT a) := rfl
    have HFL := Lib.hid hflat
    have HNL := Lib.hid (flatMap_len (flat (turnT a)))
    have HONE := Lib.hid (ndCells_one (flat (turnT a)))
    have HBW : Hid (∀ o1 o2, Below w.heap.size w ((w.alloc o1).alloc o2)) := Lib.hid (fun o1 o2 => ((Below.refl _ _).alloc (Nat.le_refl _) _).alloc (by simp <;> omega) _)
    clear hat hr iha hla hal hflat
    go_enter Tryd.func14, Tryd.ntmps14
    go_wp2_with (go_at_call 26; refine (HPT.out _).mono ?_; rintro e w' ⟨rfl, rfl⟩)
    refine (HA.out _ (HR.out.below (HBW.out _ _))).mono ?_
    rintro e w1 ⟨g1, cap1, rfl, hown1, hb1⟩
    have hown := own_below (own_lit (w.alloc (.cells #[.int .i64 6, .int .u64 0, .int .u64 0, .int .u64 0, .int .u64 0] 61)) (w.heap.size + 1) (by simp) w.heap.size (by simp <;> omega) 6 0 0 0 0) hb1
    have HSRC := Lib.hid (own_src hown1 hpa)
    have HBB := Lib.hid ((HBW.out _ _).trans (hb1.mono (by simp <;> omega)))
    have hbase := HBB.out.size
    have HOWN := Lib.hid hown
    clear hown hown1 hb1
    go_wp2_with (at_builtin; refine wpList_append_lies _ rfl (.tmp 28) (.tmp 32) _ rfl w.heap.size 61 i0 _ 5 40 Tryd.underlying36 hi0 hz0 hz1 hz2 rfl (by omega) _ 1 _ rfl HOWN.out ⟨g1, 0, none⟩ (flat (turnT a)).length _ ((flat (turnT a)).flatMap ndCells) rfl HNL.out HSRC.out HONE.out hpa (by unfold maxLen; omega) (by omega) hbase _ rfl ?_; intro g2 cap2 w2 hown2 hgrow2 hat2 hlt2)
    have hlen : (flat (turnT (.plus a))).length = 1 + (flat (turnT a)).length := by rw [HFL.out]; simp; omega
    go_ret
    refine ⟨g2, cap2, by rw [hlen]; rfl, ?_, HBB.out.grown hgrow2 hbase fun q hq => (HOWN.out.lt q hq).1⟩
    rw [hlen, HFL.out]
    exact hown2
  | opt a iha =>
    intro i w hat hr
    obtain ⟨q0, q1, q2, q3, q4⟩ := HM.out w hr i _ hat.opt.1
    have hlt := hat.lt
    have hpos := flat_pos (.opt a)
    have hi1 : (i : Int) < (l.length : Int) := by omega
    dsimp only [zc] at q0 q1 q2 q3 q4
    have HPT := Lib.hid (fun W => RParts_any 7 W)
    rw [show parts 7 = 1 from by simp [parts]] at HPT
    have HA := Lib.hid (fun W h => iha (i + 1) W hat.opt.2 h)
    have HR := Lib.hid hr
    have hpa := flat_pos (turnT a)
    have hla := turn_len a
    have hal := hat.opt.2.lt
    have hsmall : (flat (turnT a)).length ≤ 60 := by omega
    have hflat : flat (turnT (.opt a)) = ⟨7, zc⟩ :: flat (turnT a) := rfl
    have HFL := Lib.hid hflat
    have HNL := Lib.hid (flatMap_len (flat (turnT a)))
    have HONE := Lib.hid (ndCells_one (flat (turnT a)))
    have HBW : Hid (∀ o1 o2, Below w.heap.size w ((w.alloc o1).alloc o2)) := Lib.hid (fun o1 o2 => ((Below.refl _ _).alloc (Nat.le_refl _) _).alloc (by simp <;> omega) _)
    clear hat hr iha hla hal hflat
    go_enter Tryd.func14, Tryd.ntmps14
    go_wp2_with (go_at_call 26; refine (HPT.out _).mono ?_; rintro e w' ⟨rfl, rfl⟩)
    refine (HA.out _ (HR.out.below (HBW.out _ _))).mono ?_
    rintro e w1 ⟨g1, cap1, rfl, hown1, hb1⟩
    have hown := own_below (own_lit (w.alloc (.cells #[.int .i64 7, .int .u64 0, .int .u64 0, .int .u64 0, .int .u64 0] 61)) (w.heap.size + 1) (by simp) w.heap.size (by simp <;> omega) 7 0 0 0 0) hb1
    have HSRC := Lib.hid (own_src hown1 hpa)
    have HBB := Lib.hid ((HBW.out _ _).trans (hb1.mono (by simp <;> omega)))
    have hbase := HBB.out.size
    have HOWN := Lib.hid hown
    clear hown hown1 hb1
    go_wp2_with (at_builtin; refine wpList_append_lies _ rfl (.tmp 28) (.tmp 32) _ rfl w.heap.size 61 i0 _ 5 40 Tryd.underlying36 hi0 hz0 hz1 hz2 rfl (by omega) _ 1 _ rfl HOWN.out ⟨g1, 0, none⟩ (flat (turnT a)).length _ ((flat (turnT a)).flatMap ndCells) rfl HNL.out HSRC.out HONE.out hpa (by unfold maxLen; omega) (by omega) hbase _ rfl ?_; intro g2 cap2 w2 hown2 hgrow2 hat2 hlt2)
    have hlen : (flat (turnT (.opt a))).length = 1 + (flat (turnT a)).length := by rw [HFL.out]; simp; omega
    go_ret
    refine ⟨g2, cap2, by rw [hlen]; rfl, ?_, HBB.out.grown hgrow2 hbase fun q hq => (HOWN.out.lt q hq).1⟩
    rw [hlen, HFL.out]
    exact hown2
  | cat a c iha ihc =>
    intro i w hat hr
    obtain ⟨q0, q1, q2, q3, q4⟩ := HM.out w hr i _ hat.cat.1
    have hlt := hat.lt
    have hpos := flat_pos (.cat a c)
    have hi1 : (i : Int) < (l.length : Int) := by omega
    dsimp only [zc] at q0 q1 q2 q3 q4
    have HPT := Lib.hid (fun W => RParts_any 3 W)
    rw [show parts 3 = 2 from by simp [parts]] at HPT
    obtain ⟨_, hata, hatc⟩ := hat.cat
    have HA := Lib.hid (fun W h => iha (i + 1) W hata h)
    have HC := Lib.hid (fun W h => ihc (i + 1 + (flat a).length) W hatc h)
    have HR := Lib.hid hr
    have hla := turn_len a
    have hlc := turn_len c
    have hal := hata.lt
    have hcl := hatc.lt
    have hpa := flat_pos (turnT a)
    have hpc := flat_pos (turnT c)
    have hsa : (flat (turnT a)).length ≤ 60 := by omega
    have hsc : (flat (turnT c)).length ≤ 60 := by omega
    have HE := Lib.hid (fun W h => HEND.out (i + 1) (by omega) W h)
    rw [eo_at hata] at HE
    have hi0' : (0 : Int) ≤ (i : Int) + 1 := by omega
    have hi1' : (i : Int) + 1 < (l.length : Int) := by omega
    have hflat : flat (turnT (.cat a c)) = ⟨3, zc⟩ :: (flat (turnT c) ++ flat (turnT a)) := rfl
    have HFL := Lib.hid hflat
    have HNLX := Lib.hid (flatMap_len (flat (turnT c)))
    have HONEX := Lib.hid (ndCells_one (flat (turnT c)))
    have HNLY := Lib.hid (flatMap_len (flat (turnT a)))
    have HONEY := Lib.hid (ndCells_one (flat (turnT a)))
    have HBW : Hid (∀ o1 o2, Below w.heap.size w ((w.alloc o1).alloc o2)) := Lib.hid (fun o1 o2 => ((Below.refl _ _).alloc (Nat.le_refl _) _).alloc (by simp <;> omega) _)
    generalize i + 1 + (flat a).length = e2 at *
    clear hat hr iha ihc hla hlc hal hcl hflat hata hatc
    go_enter Tryd.func14, Tryd.ntmps14
    go_wp2_with (go_at_call 26; refine (HPT.out _).mono ?_; rintro e w' ⟨rfl, rfl⟩)
    obtain ⟨W, hW⟩ : ∃ W : World, W = ((w.alloc (.cells #[.int .i64 3, .int .u64 0, .int .u64 0, .int .u64 0, .int .u64 0] 61)).alloc (.cells #[.int .i64 3, .int .u64 0, .int .u64 0, .int .u64 0, .int .u64 0] 61)) := ⟨_, rfl⟩
    have hWb : Below w.heap.size w W := by rw [hW]; exact HBW.out _ _
    have hWs : W.heap.size = w.heap.size + 2 := by rw [hW]; simp
    have hW0 : W.cell? ⟨w.heap.size, 0, none⟩ = some (.int .i64 3) := by rw [hW]; simp [World.cell?_alloc_some]
    have hWo : W.ownsRow w.heap.size 61 5 (.slice (some ⟨w.heap.size + 1, 0, none⟩) 1 1) 1 (ndCells ⟨3, zc⟩) := by rw [hW]; exact own_lit _ _ (by simp) _ (by simp <;> omega) 3 0 0 0 0
    rw [← hW]
    have hWs1 : W.heap.size ≤ w.heap.size + 2 := by omega
    have hWs2 : w.heap.size + 2 ≤ W.heap.size := by omega
    have HWO := Lib.hid hWo
    have HW0 := Lib.hid hW0
    have HWB := Lib.hid hWb
    clear hW hWo hW0 hWb hWs
    refine (HA.out _ (HR.out.below HWB.out)).mono ?_
    rintro e w1 ⟨g1, cap1, rfl, hown1, hb1⟩
    have HO1 := Lib.hid hown1
    have HB1 := Lib.hid hb1
    have HWB1 := Lib.hid (HWB.out.trans (hb1.mono (by omega)))
    have hs1 := hb1.size
    clear hown1 hb1
    go_wp2_with fail
    refine (HE.out _ (HR.out.below HWB1.out)).mono ?_
    rintro e w1' ⟨rfl, rfl⟩
    go_wp2_with fail
    refine (HC.out _ (HR.out.below HWB1.out)).mono ?_
    rintro e w2 ⟨g2, cap2, rfl, hown2, hb2⟩
    have HB2 := Lib.hid (HB1.out.trans (hb2.mono hs1))
    have HWB2 := Lib.hid (HWB1.out.trans (hb2.mono (by omega)))
    have hn2 : w2.cell? ⟨w.heap.size, 0, none⟩ = some (.int .i64 3) := by rw [HB2.out.cell (p := ⟨w.heap.size, 0, none⟩) (by simp; omega)]; exact HW0.out
    have hs2 := hb2.size
    have HO2 := Lib.hid hown2
    have HO1' := Lib.hid (own_below HO1.out hb2)
    have HOUT := Lib.hid (own_below HWO.out HB2.out)
    have hg1 := HO1'.out.lt g1 rfl
    have hg2 := HO2.out.lt g2 rfl
    have HS1 := Lib.hid (own_src HO1'.out hpa)
    have HS2 := Lib.hid (own_src HO2.out hpc)
    have hbase : w.heap.size ≤ w2.heap.size := by omega
    clear hown2 hb2
    go_wp2_with (first
      | (at_builtin; refine wpList_append_lies _ rfl (.tmp 49) (.tmp 50) _ rfl w.heap.size 61 i0 _ 5 40 Tryd.underlying36 hi0 hz0 hz1 hz2 rfl (by omega) _ 1 _ rfl HOUT.out ⟨g2, 0, none⟩ (flat (turnT c)).length _ ((flat (turnT c)).flatMap ndCells) rfl HNLX.out HS2.out HONEX.out hpc (by unfold maxLen; omega) (by omega) hbase _ rfl ?_; intro g3 cap3 w3 hown3 hgrow3 hat3 hlt3; have HGR := Lib.hid hgrow3; have HOUT3 := Lib.hid hown3; have hs3 := hgrow3.size; have HSY : Hid (∀ (j : Nat) (u : Value), ((flat (turnT a)).flatMap ndCells)[j]? = some u → w3.cell? ((⟨g1, 0, none⟩ : Addr).add j) = some u) := Lib.hid (fun j u hu => (src_grown HGR.out (by omega) (fun e => absurd (show w.heap.size + 1 = g1 from Option.some.inj e) (by omega)) j).trans (HS1.out j u hu)); have hbase3 : w.heap.size ≤ w3.heap.size := (by omega); clear hown3 hgrow3 hat3)
      | (at_builtin; refine wpList_append_lies _ rfl (.tmp 52) (.tmp 53) _ rfl w.heap.size 61 i0 _ 5 40 Tryd.underlying36 hi0 hz0 hz1 hz2 rfl (by omega) _ (1 + (flat (turnT c)).length) _ rfl HOUT3.out ⟨g1, 0, none⟩ (flat (turnT a)).length _ ((flat (turnT a)).flatMap ndCells) rfl HNLY.out HSY.out HONEY.out hpa (by unfold maxLen; omega) (by omega) hbase3 _ rfl ?_; intro g4 cap4 w4 hown4 hgrow4 hat4 hlt4))
    have hlen : (flat (turnT (.cat a c))).length = 1 + (flat (turnT c)).length + (flat (turnT a)).length := by rw [HFL.out]; simp; omega
    go_ret
    refine ⟨g4, cap4, by rw [hlen]; rfl, ?_, (HWB2.out.grown HGR.out hbase fun q hq => (HOUT.out.lt q hq).1).grown hgrow4 hbase3 fun q hq => (HOUT3.out.lt q hq).1⟩
    rw [hlen, HFL.out, List.flatMap_cons, List.flatMap_append, ← List.append_assoc]
    exact hown4
  | alt a c iha ihc =>
    intro i w hat hr
    obtain ⟨q0, q1, q2, q3, q4⟩ := HM.out w hr i _ hat.alt.1
    have hlt := hat.lt
    have hpos := flat_pos (.alt a c)
    have hi1 : (i : Int) < (l.length : Int) := by omega
    dsimp only [zc] at q0 q1 q2 q3 q4
    have HPT := Lib.hid (fun W => RParts_any 4 W)
    rw [show parts 4 = 2 from by simp [parts]] at HPT
    obtain ⟨_, hata, hatc⟩ := hat.alt
    have HA := Lib.hid (fun W h => iha (i + 1) W hata h)
    have HC := Lib.hid (fun W h => ihc (i + 1 + (flat a).length) W hatc h)
    have HR := Lib.hid hr
    have hla := turn_len a
    have hlc := turn_len c
    have hal := hata.lt
    have hcl := hatc.lt
    have hpa := flat_pos (turnT a)
    have hpc := flat_pos (turnT c)
    have hsa : (flat (turnT a)).length ≤ 60 := by omega
    have hsc : (flat (turnT c)).length ≤ 60 := by omega
    have HE := Lib.hid (fun W h => HEND.out (i + 1) (by omega) W h)
    rw [eo_at hata] at HE
    have hi0' : (0 : Int) ≤ (i : Int) + 1 := by omega
    have hi1' : (i : Int) + 1 < (l.length : Int) := by omega
    have hflat : flat (turnT (.alt a c)) = ⟨4, zc⟩ :: (flat (turnT a) ++ flat (turnT c)) := rfl
    have HFL := Lib.hid hflat
    have HNLX := Lib.hid (flatMap_len (flat (turnT a)))
    have HONEX := Lib.hid (ndCells_one (flat (turnT a)))
    have HNLY := Lib.hid (flatMap_len (flat (turnT c)))
    have HONEY := Lib.hid (ndCells_one (flat (turnT c)))
    have HBW : Hid (∀ o1 o2, Below w.heap.size w ((w.alloc o1).alloc o2)) := Lib.hid (fun o1 o2 => ((Below.refl _ _).alloc (Nat.le_refl _) _).alloc (by simp <;> omega) _)
    generalize i + 1 + (flat a).length = e2 at *
    clear hat hr iha ihc hla hlc hal hcl hflat hata hatc
    go_enter Tryd.func14, Tryd.ntmps14
    go_wp2_with (go_at_call 26; refine (HPT.out _).mono ?_; rintro e w' ⟨rfl, rfl⟩)
    obtain ⟨W, hW⟩ : ∃ W : World, W = ((w.alloc (.cells #[.int .i64 4, .int .u64 0, .int .u64 0, .int .u64 0, .int .u64 0] 61)).alloc (.cells #[.int .i64 4, .int .u64 0, .int .u64 0, .int .u64 0, .int .u64 0] 61)) := ⟨_, rfl⟩
    have hWb : Below w.heap.size w W := by rw [hW]; exact HBW.out _ _
    have hWs : W.heap.size = w.heap.size + 2 := by rw [hW]; simp
    have hW0 : W.cell? ⟨w.heap.size, 0, none⟩ = some (.int .i64 4) := by rw [hW]; simp [World.cell?_alloc_some]
    have hWo : W.ownsRow w.heap.size 61 5 (.slice (some ⟨w.heap.size + 1, 0, none⟩) 1 1) 1 (ndCells ⟨4, zc⟩) := by rw [hW]; exact own_lit _ _ (by simp) _ (by simp <;> omega) 4 0 0 0 0
    rw [← hW]
    have hWs1 : W.heap.size ≤ w.heap.size + 2 := by omega
    have hWs2 : w.heap.size + 2 ≤ W.heap.size := by omega
    have HWO := Lib.hid hWo
    have HW0 := Lib.hid hW0
    have HWB := Lib.hid hWb
    clear hW hWo hW0 hWb hWs
    refine (HA.out _ (HR.out.below HWB.out)).mono ?_
    rintro e w1 ⟨g1, cap1, rfl, hown1, hb1⟩
    have HO1 := Lib.hid hown1
    have HB1 := Lib.hid hb1
    have HWB1 := Lib.hid (HWB.out.trans (hb1.mono (by omega)))
    have hs1 := hb1.size
    clear hown1 hb1
    go_wp2_with fail
    refine (HE.out _ (HR.out.below HWB1.out)).mono ?_
    rintro e w1' ⟨rfl, rfl⟩
    go_wp2_with fail
    refine (HC.out _ (HR.out.below HWB1.out)).mono ?_
    rintro e w2 ⟨g2, cap2, rfl, hown2, hb2⟩
    have HB2 := Lib.hid (HB1.out.trans (hb2.mono hs1))
    have HWB2 := Lib.hid (HWB1.out.trans (hb2.mono (by omega)))
    have hn2 : w2.cell? ⟨w.heap.size, 0, none⟩ = some (.int .i64 4) := by rw [HB2.out.cell (p := ⟨w.heap.size, 0, none⟩) (by simp; omega)]; exact HW0.out
    have hs2 := hb2.size
    have HO2 := Lib.hid hown2
    have HO1' := Lib.hid (own_below HO1.out hb2)
    have HOUT := Lib.hid (own_below HWO.out HB2.out)
    have hg1 := HO1'.out.lt g1 rfl
    have hg2 := HO2.out.lt g2 rfl
    have HS1 := Lib.hid (own_src HO1'.out hpa)
    have HS2 := Lib.hid (own_src HO2.out hpc)
    have hbase : w.heap.size ≤ w2.heap.size := by omega
    clear hown2 hb2
    go_wp2_with (first
      | (at_builtin; refine wpList_append_lies _ rfl (.tmp 55) (.tmp 56) _ rfl w.heap.size 61 i0 _ 5 40 Tryd.underlying36 hi0 hz0 hz1 hz2 rfl (by omega) _ 1 _ rfl HOUT.out ⟨g1, 0, none⟩ (flat (turnT a)).length _ ((flat (turnT a)).flatMap ndCells) rfl HNLX.out HS1.out HONEX.out hpa (by unfold maxLen; omega) (by omega) hbase _ rfl ?_; intro g3 cap3 w3 hown3 hgrow3 hat3 hlt3; have HGR := Lib.hid hgrow3; have HOUT3 := Lib.hid hown3; have hs3 := hgrow3.size; have HSY : Hid (∀ (j : Nat) (u : Value), ((flat (turnT c)).flatMap ndCells)[j]? = some u → w3.cell? ((⟨g2, 0, none⟩ : Addr).add j) = some u) := Lib.hid (fun j u hu => (src_grown HGR.out (by omega) (fun e => absurd (show w.heap.size + 1 = g2 from Option.some.inj e) (by omega)) j).trans (HS2.out j u hu)); have hbase3 : w.heap.size ≤ w3.heap.size := (by omega); clear hown3 hgrow3 hat3)
      | (at_builtin; refine wpList_append_lies _ rfl (.tmp 58) (.tmp 59) _ rfl w.heap.size 61 i0 _ 5 40 Tryd.underlying36 hi0 hz0 hz1 hz2 rfl (by omega) _ (1 + (flat (turnT a)).length) _ rfl HOUT3.out ⟨g2, 0, none⟩ (flat (turnT c)).length _ ((flat (turnT c)).flatMap ndCells) rfl HNLY.out HSY.out HONEY.out hpc (by unfold maxLen; omega) (by omega) hbase3 _ rfl ?_; intro g4 cap4 w4 hown4 hgrow4 hat4 hlt4))
    have hlen : (flat (turnT (.alt a c))).length = 1 + (flat (turnT a)).length + (flat (turnT c)).length := by rw [HFL.out]; simp; omega
    go_ret
    refine ⟨g4, cap4, by rw [hlen]; rfl, ?_, (HWB2.out.grown HGR.out hbase fun q hq => (HOUT.out.lt q hq).1).grown hgrow4 hbase3 fun q hq => (HOUT3.out.lt q hq).1⟩
    rw [hlen, HFL.out, List.flatMap_cons, List.flatMap_append, ← List.append_assoc]
    exact hown4

end Go.Proofs.YthcahjnniendnaaDoor
