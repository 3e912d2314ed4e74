/-
  RunY, Bld, RunZ.
-/
import Derived.Test.YthhcpbfgoofppaaGreatDoorGPrt
import Derived.Test.YthhcpbfgoofppaaGreatDoorGRx
import Derived.Test.YthhcpbfgoofppaaGreatDoorGSh
import Derived.Deep.RegionHeld3
set_option linter.unusedVariables false
set_option linter.unusedSimpArgs false
set_option maxRecDepth 100000
set_option maxHeartbeats 8000000
open Go.Lib (hid)
namespace Go.Proofs.YthhcpbfgoofppaaGreatDoor.setW
open Go.RowKit Wf
set_option linter.unusedVariables false
theorem line_list (B b : Nat) (m : SS) (ml : List Mr) (A : Value)  (w : World) (h : SetAt B b m ml A w) (hl : LibE B w) (hsm : m.small 3000) :
 Calls Tryz.prog 10 #[.agg #[.pointer (some ⟨b,0,none⟩)],.string ⟨#[108,105,115,116]⟩] w (LineTo (orNoneW (wordsW (m.ms.map itemW))) B b (m) w):=by
 have hmf:=mkf
 have HL0:=hid (LnE.start h hl)
 have hhB:=h.hBw
 unfold LineTo
 have HKP : Hid (∀ w1 w2,Hid (LnE B b m w w1) → Below w1.heap.size w1 w2 → Hid (LnE B b m w w2)):=hid fun w1 w2 a b => hid (a.out.below b)
 have hlast:=hsm.last
 have HLs : Hid (∀ W,Hid (LnE B b m w W) → Calls Tryz.prog 17 #[.pointer (some ⟨b,0,none⟩)] W (fun e w' => ∃ v : Value,e = .returned v ∧ Rd w' 2 v (m.ms.flatMap itCells) ∧ Below W.heap.size W w')):=hid fun W hW => by
  obtain ⟨ml',A',hs⟩:=hW.out.set
  refine (List_set B b m ml' A' W hs).mono ?_
  rintro e w' ⟨v,rfl,ho,hb⟩
  exact ⟨v,rfl,Rd.of_own ho,hb⟩
 have hlen : m.ms.length ≤ 4812:=by have:=h.ok.len;omega
 have hpos:=h.ok.pos
 have HW : Hid (∀ W v,Hid (LnE B b m w W) → Hid (Rd W 2 v (m.ms.flatMap itCells)) → Calls Tryz.prog 16 #[v,.func (.func 18) #[.agg #[.pointer (some ⟨b,0,none⟩)]] #[]] W (fun e w' => ∃ t : ByteArray,e = .returned (.string t) ∧ t.data.toList = orNoneW (wordsW (m.ms.map itemW)) ∧ Below W.heap.size W w')):=hid fun W v hW hr => words_items m.ms hlen 205 (by omega) itemW (fun x hx => ⟨by simp [itemW];omega,itemW_len (by have:=(hpos x hx).2;omega)⟩) b v W hr.out (hid fun k x hk W' hW' => by
  obtain ⟨ml',A',hs⟩:=(hW.out.below hW').set
  exact item_c B b m ml' A' W' hs (hW.out.below hW').lib (by omega) k x hk)
 have HS : Hid (∀ w',Hid (LnE B b m w w' ∨ ∃ (w0 : World) (t : ByteArray),w' = w0.setCell ⟨w.heap.size + 1,0,none⟩ (.string t) ∧ LnE B b m w w0) → (w'.cell? ⟨w.heap.size,0,none⟩ = some (.pointer (some ⟨b,0,none⟩)) ∧ Hid (LnE B b m w w' ∨ ∃ (w0 : World) (t : ByteArray),w' = w0.setCell ⟨w.heap.size + 1,0,none⟩ (.string t) ∧ LnE B b m w w0))):=hid fun w' hw => ⟨by
  rcases hw.out with h1 | ⟨w0,t,rfl,h1⟩
  ·exact h1.cellS
  ·have:=(h1.ses.far (p:=⟨w.heap.size + 1,0,none⟩) (show w.heap.size ≠ w.heap.size + 1 by omega) (.string t)).cell 0
   simpa using this,hw⟩
 generalize orNoneW (wordsW (m.ms.map itemW)) = R at *
 have HL1:=HL0
 have HLD:=HKP.out _ _ HL0 (Below.refl _ _).drew
 clear h hl hsm hlen hpos
 go_enter_defers Tryz.func10,Tryz.ntmps10
 go_wp2_with fail
 go_region_held3 (fun w' => w'.cell? ⟨w.heap.size,0,none⟩ = some (.pointer (some ⟨b,0,none⟩)) ∧ Hid (LnE B b m w w' ∨ ∃ (w0 : World) (t : ByteArray),w' = w0.setCell ⟨w.heap.size + 1,0,none⟩ (.string t) ∧ LnE B b m w w0))
  (exact HS.out _ (by first | exact hid (.inl (Hid.out (by assumption))) | exact hid (.inr ⟨_,_,rfl,Hid.out (by assumption)⟩)))
  (first
    | (go_at_call 17;refine (HLs.out _ (by assumption)).mono ?_;rintro e w5 ⟨v,rfl,hr,hb5⟩;have hl5:=HKP.out _ _ (by assumption) hb5;have hr5:=hid hr)
    | (go_at_call 16;refine (HW.out _ _ (by assumption) (by assumption)).mono ?_;rintro e w6 ⟨t,rfl,ht,hb6⟩;have hl6:=HKP.out _ _ (by assumption) hb6;have ht6:=hid ht;have c6:=hl6.out.cell;have z6:=hl6.out.frozen))
 all_goals
  go_wp2_with fail
  refine leaves_cons (f:=15) (args:=#[.pointer (some ⟨w.heap.size + 1,0,none⟩)]) (by simp) (by simp [go_sem]) ?_
  refine (lcatch_idle _ _).mono ?_
  rintro e u' w9 ⟨rfl,rfl,hb9⟩
  obtain ⟨c9,ml9,A9,hs9,hk9⟩:=hl6.out.fin t w9 hb9
  simp [Leaves,settle,results,Tryz.results10,go_sem,c9]
  exact ⟨ht6.out,⟨ml9,A9,hs9⟩,hk9⟩
theorem line_remove (B b : Nat) (m : SS) (ml : List Mr) (A : Value) (s : ByteArray) (nl : NL s) (rb : ByteArray) (hc : cutAt 32 s.data.toList = some ((⟨#[114,101,109,111,118,101]⟩ : ByteArray).data.toList,rb.data.toList)) (n : Nat) (hn : numS rb.data.toList = some n) (w : World) (h : SetAt B b m ml A w) (hl : LibE B w) (hsm : m.small 3000) :
 Calls Tryz.prog 10 #[.agg #[.pointer (some ⟨b,0,none⟩)],.string s] w (LineTo (toldW okyW 0 (m.removed (n : Int)).toNat) B b (m.remove (n : Int)) w):=by
 have hmf:=mkf
 have HL0:=hid (LnE.start h hl)
 have hhB:=h.hBw
 unfold LineTo
 obtain ⟨hs,e1,e2,e3,e4⟩:=nl.at
 clear nl
 have hz:=cut_sz hc
 have HC:=hid fun W => Cut_some s _ rb hs hc W
 clear hc
 have HKP : Hid (∀ w1 w2,Hid (LnE B b m w w1) → Below w1.heap.size w1 w2 → Hid (LnE B b m w w2)):=hid fun w1 w2 a b => hid (a.out.below b)
 have HN : Hid (∀ W,Hid (LnE B b m w W) → Calls Tryz.prog 25 #[.string rb] W (fun e w' => e = .returned (.int .i64 (n : Int)) ∧ Below W.heap.size W w')):=hid fun W hW => number_some rb (by omega) n hn W hW.out.lib.tab
 have hrm : 0 ≤ m.removed (n : Int) ∧ m.removed (n : Int) ≤ 6:=by unfold SS.removed;split <;> decide
 have hen : m.removed (n : Int) = (((m.removed (n : Int)).toNat : Nat) : Int):=by omega
 have hen2 : (m.removed (n : Int)).toNat ≤ 6:=by omega
 have HR : Hid (∀ W,Hid (LnE B b m w W) → Calls Tryz.prog 24 #[.pointer (some ⟨b,0,none⟩),.int .i64 (n : Int)] W (fun e w' => e = .returned (errV (m.removed (n : Int))) ∧ LnE B b (m.remove (n : Int)) w w')):=hid fun W hW => by
  obtain ⟨ml',A',hs⟩:=hW.out.set
  refine (Remove_set B b m ml' A' (n : Int) W hs).mono ?_
  rintro e w' ⟨rfl,ml2,A2,hs2,hk⟩
  exact ⟨rfl,hW.out.next ⟨ml2,A2,hs2⟩ hk⟩
 rw [hen] at HR
 have HTO : Hid (∀ W,Hid (LnE B b (m.remove (n : Int)) w W) → Calls Tryz.prog 23 #[.string ⟨#[111,107]⟩,.int .i64 0,errV (((m.removed (n : Int)).toNat : Nat) : Int)] W (fun e w' => ∃ t : ByteArray,e = .returned (.string t) ∧ t.data.toList = toldW okyW 0 (m.removed (n : Int)).toNat ∧ Below W.heap.size W w')):=hid fun W hW => told_c ⟨#[111,107]⟩ 0 (m.removed (n : Int)).toNat hen2 (by omega) W hW.out.lib.err hW.out.lib.tab
 generalize toldW okyW 0 (m.removed (n : Int)).toNat = R at *
 generalize errV (((m.removed (n : Int)).toNat : Nat) : Int) = EV at *
 generalize m.remove (n : Int) = m2 at *
 have HKP2 : Hid (∀ w1 w2,Hid (LnE B b m2 w w1) → Below w1.heap.size w1 w2 → Hid (LnE B b m2 w w2)):=hid fun w1 w2 a b => hid (a.out.below b)
 have HS : Hid (∀ w',Hid (LnE B b m w w' ∨ LnE B b m2 w w' ∨ ∃ (w0 : World) (t : ByteArray),w' = w0.setCell ⟨w.heap.size + 1,0,none⟩ (.string t) ∧ LnE B b m2 w w0) → (w'.cell? ⟨w.heap.size,0,none⟩ = some (.pointer (some ⟨b,0,none⟩)) ∧ Hid (LnE B b m w w' ∨ LnE B b m2 w w' ∨ ∃ (w0 : World) (t : ByteArray),w' = w0.setCell ⟨w.heap.size + 1,0,none⟩ (.string t) ∧ LnE B b m2 w w0))):=hid fun w' hw => ⟨by
  rcases hw.out with h1 | h1 | ⟨w0,t,rfl,h1⟩
  ·exact h1.cellS
  ·exact h1.cellS
  ·have:=(h1.ses.far (p:=⟨w.heap.size + 1,0,none⟩) (show w.heap.size ≠ w.heap.size + 1 by omega) (.string t)).cell 0
   simpa using this,hw⟩
 clear h hl hsm hrm hen hen2 hn
 go_enter_defers Tryz.func10,Tryz.ntmps10
 go_wp2_with fail
 refine (HC.out _).mono ?_
 rintro e w1 ⟨rfl,hb1⟩
 have HL1:=hid (HL0.out.below hb1)
 have c1:=HL1.out.cell
 have z1:=HL1.out.frozen
 have s1:=HL1.out.cellS
 clear hb1
 go_wp2_with fail
 have HLD:=HKP.out _ _ HL1 (Below.refl _ _).drew
 clear c1 z1 s1
 go_region_held3 (fun w' => w'.cell? ⟨w.heap.size,0,none⟩ = some (.pointer (some ⟨b,0,none⟩)) ∧ Hid (LnE B b m w w' ∨ LnE B b m2 w w' ∨ ∃ (w0 : World) (t : ByteArray),w' = w0.setCell ⟨w.heap.size + 1,0,none⟩ (.string t) ∧ LnE B b m2 w w0))
  (exact HS.out _ (by first | exact hid (.inl (Hid.out (by assumption))) | exact hid (.inr (.inl (Hid.out (by assumption)))) | exact hid (.inr (.inr ⟨_,_,rfl,Hid.out (by assumption)⟩))))
  (first
    | (go_at_call 25;refine (HN.out _ (by assumption)).mono ?_;rintro e w5 ⟨rfl,hb5⟩;have hl5:=HKP.out _ _ (by assumption) hb5)
    | (go_at_call 24;refine (HR.out _ (by assumption)).mono ?_;rintro e w6 ⟨rfl,hl6'⟩;have hl6:=hid hl6';clear hl6')
    | (go_at_call 23;refine (HTO.out _ (by assumption)).mono ?_;rintro e w7 ⟨t,rfl,ht,hb7⟩;have hl7:=HKP2.out _ _ (by assumption) hb7;have ht7:=hid ht;have c7:=hl7.out.cell;have z7:=hl7.out.frozen))
 all_goals
  go_wp2_with fail
  refine leaves_cons (f:=15) (args:=#[.pointer (some ⟨w.heap.size + 1,0,none⟩)]) (by simp) (by simp [go_sem]) ?_
  refine (lcatch_idle _ _).mono ?_
  rintro e u' w9 ⟨rfl,rfl,hb9⟩
  obtain ⟨c9,ml9,A9,hs9,hk9⟩:=hl7.out.fin t w9 hb9
  simp [Leaves,settle,results,Tryz.results10,go_sem,c9]
  exact ⟨ht7.out,⟨ml9,A9,hs9⟩,hk9⟩
theorem line_removeno (B b : Nat) (m : SS) (ml : List Mr) (A : Value) (s : ByteArray) (nl : NL s) (rb : ByteArray) (hc : cutAt 32 s.data.toList = some ((⟨#[114,101,109,111,118,101]⟩ : ByteArray).data.toList,rb.data.toList)) (hn : numS rb.data.toList = none) (w : World) (h : SetAt B b m ml A w) (hl : LibE B w) (hsm : m.small 3000) :
 Calls Tryz.prog 10 #[.agg #[.pointer (some ⟨b,0,none⟩)],.string s] w (LineTo (badW) B b (m) w):=by
 have hmf:=mkf
 have HL0:=hid (LnE.start h hl)
 have hhB:=h.hBw
 unfold LineTo
 obtain ⟨hs,e1,e2,e3,e4⟩:=nl.at
 clear nl
 have hz:=cut_sz hc
 have HC:=hid fun W => Cut_some s _ rb hs hc W
 clear hc
 have HN : Hid (∀ W,LnE B b m w W → Calls Tryz.prog 25 #[.string rb] W (fun e w' => e = .panicked [{ v:=unreadV,recovered:=false }] ∧ Below W.heap.size W w')):=hid fun W hW => by
  obtain ⟨ev,hev⟩:=hW.lib.syn
  obtain ⟨rv,hrv⟩:=hW.lib.rng
  exact number_none rb (by omega) hn W hW.lib.tab hev hrv
 have HBAD:=hid fun (W W2 : World) (h0 : Below w.heap.size w W) (hb : Below (w.heap.size + 1) W W2) => LnE.bad h h0 W2 hb
 have HB0 : Hid (Below w.heap.size w ((w.alloc (.cells #[.pointer (some ⟨b,0,none⟩)] 28)).alloc (.cells #[.string ⟨#[]⟩] 9))):=hid (((Below.refl _ _).alloc (Nat.le_refl _) _).alloc (by simp) _)
 clear h hl hsm hn
 go_enter_defers Tryz.func10,Tryz.ntmps10
 go_wp2_with fail
 refine (HC.out _).mono ?_
 rintro e w1 ⟨rfl,hb1⟩
 have HL1:=hid (HL0.out.below hb1)
 have c1:=HL1.out.cell
 have z1:=HL1.out.frozen
 have s1:=HL1.out.cellS
 have HB1:=hid (HB0.out.trans (hb1.mono HB0.out.size))
 clear hb1
 go_wp2_with fail
 have HP0:=hid (HL1.out.below (Below.refl _ _).drew)
 have HPB:=hid (HB1.out.trans ((Below.refl _ _).drew.mono HB1.out.size))
 have s2:=HP0.out.cellS
 clear c1 z1 s1
 refine wp_region_any (by kernel_rfl) ?_
 change wpAny _ _ _ _ _ _ _ (World.drew _)
 refine wpAny_ready (rs:=[0,2]) (by kernel_rfl) (by simp) ?_
 refine AllReady.cons rfl (fun K hK => ?_) (AllReady.cons rfl (fun K hK => ?_) AllReady.nil)
 ·go_simp
  refine hK _ _ ?_
  clear hK K
  refine wpAny_ready (rs:=[1,2]) (by kernel_rfl) (by simp) ?_
  refine AllReady.cons rfl (fun K hK => ?_) (AllReady.cons rfl (fun K hK => ?_) AllReady.nil)
  ·go_simp
   refine hK _ _ ?_
   clear hK K
   refine wpAny_ready (rs:=[2]) (by kernel_rfl) (by simp) ?_
   refine AllReady.cons rfl (fun K hK => ?_) AllReady.nil
   ·go_simp
    refine hK _ _ ?_
    clear hK K
    refine wpAny_ready (rs:=[3]) (by kernel_rfl) (by simp) ?_
    refine AllReady.cons rfl (fun K hK => ?_) AllReady.nil
    ·go_simp
     go_wp2_with (go_at_call 25;refine (HN.out _ HP0.out).mono ?_;rintro e w3 ⟨rfl,hb3⟩)
     have HOUT:=(HP0.out.below hb3).out
     refine leaves_cons (f:=15) (args:=#[.pointer (some ⟨w.heap.size + 1,0,none⟩)]) (by simp) (by simp [go_sem]) ?_
     refine (lcatch_unread (w.heap.size + 1) _ _ HOUT).mono ?_
     rintro e u' w9 ⟨rfl,rfl,hb9,hw9⟩
     have c9:=hb9.cell 0
     simp only [List.getElem?_toArray,List.getElem?_cons_zero] at c9
     obtain ⟨ml9,A9,hs9,hk9⟩:=HBAD.out _ w9 (HPB.out.trans (hb3.mono HPB.out.size)) hw9
     simp [Leaves,settle,results,Tryz.results10,go_sem,c9]
     exact ⟨rfl,⟨ml9,A9,hs9⟩,hk9⟩
  ·go_simp
   refine hK _ _ ?_
   clear hK K
   refine wpAny_ready (rs:=[1,3]) (by kernel_rfl) (by simp) ?_
   refine AllReady.cons rfl (fun K hK => ?_) (AllReady.cons rfl (fun K hK => ?_) AllReady.nil)
   ·go_simp
    refine hK _ _ ?_
    clear hK K
    refine wpAny_ready (rs:=[3]) (by kernel_rfl) (by simp) ?_
    refine AllReady.cons rfl (fun K hK => ?_) AllReady.nil
    ·go_simp
     go_wp2_with (go_at_call 25;refine (HN.out _ HP0.out).mono ?_;rintro e w3 ⟨rfl,hb3⟩)
     have HOUT:=(HP0.out.below hb3).out
     refine leaves_cons (f:=15) (args:=#[.pointer (some ⟨w.heap.size + 1,0,none⟩)]) (by simp) (by simp [go_sem]) ?_
     refine (lcatch_unread (w.heap.size + 1) _ _ HOUT).mono ?_
     rintro e u' w9 ⟨rfl,rfl,hb9,hw9⟩
     have c9:=hb9.cell 0
     simp only [List.getElem?_toArray,List.getElem?_cons_zero] at c9
     obtain ⟨ml9,A9,hs9,hk9⟩:=HBAD.out _ w9 (HPB.out.trans (hb3.mono HPB.out.size)) hw9
     simp [Leaves,settle,results,Tryz.results10,go_sem,c9]
     exact ⟨rfl,⟨ml9,A9,hs9⟩,hk9⟩
   ·go_simp
    go_wp2_with (go_at_call 25;refine (HN.out _ HP0.out).mono ?_;rintro e w3 ⟨rfl,hb3⟩)
    have HOUT:=(HP0.out.below hb3).out
    refine leaves_cons (f:=15) (args:=#[.pointer (some ⟨w.heap.size + 1,0,none⟩)]) (by simp) (by simp [go_sem]) ?_
    refine (lcatch_unread (w.heap.size + 1) _ _ HOUT).mono ?_
    rintro e u' w9 ⟨rfl,rfl,hb9,hw9⟩
    have c9:=hb9.cell 0
    simp only [List.getElem?_toArray,List.getElem?_cons_zero] at c9
    obtain ⟨ml9,A9,hs9,hk9⟩:=HBAD.out _ w9 (HPB.out.trans (hb3.mono HPB.out.size)) hw9
    simp [Leaves,settle,results,Tryz.results10,go_sem,c9]
    exact ⟨rfl,⟨ml9,A9,hs9⟩,hk9⟩
 ·go_simp
  refine hK _ _ ?_
  clear hK K
  refine wpAny_ready (rs:=[0,3]) (by kernel_rfl) (by simp) ?_
  refine AllReady.cons rfl (fun K hK => ?_) (AllReady.cons rfl (fun K hK => ?_) AllReady.nil)
  ·go_simp
   refine hK _ _ ?_
   clear hK K
   refine wpAny_ready (rs:=[1,3]) (by kernel_rfl) (by simp) ?_
   refine AllReady.cons rfl (fun K hK => ?_) (AllReady.cons rfl (fun K hK => ?_) AllReady.nil)
   ·go_simp
    refine hK _ _ ?_
    clear hK K
    refine wpAny_ready (rs:=[3]) (by kernel_rfl) (by simp) ?_
    refine AllReady.cons rfl (fun K hK => ?_) AllReady.nil
    ·go_simp
     go_wp2_with (go_at_call 25;refine (HN.out _ HP0.out).mono ?_;rintro e w3 ⟨rfl,hb3⟩)
     have HOUT:=(HP0.out.below hb3).out
     refine leaves_cons (f:=15) (args:=#[.pointer (some ⟨w.heap.size + 1,0,none⟩)]) (by simp) (by simp [go_sem]) ?_
     refine (lcatch_unread (w.heap.size + 1) _ _ HOUT).mono ?_
     rintro e u' w9 ⟨rfl,rfl,hb9,hw9⟩
     have c9:=hb9.cell 0
     simp only [List.getElem?_toArray,List.getElem?_cons_zero] at c9
     obtain ⟨ml9,A9,hs9,hk9⟩:=HBAD.out _ w9 (HPB.out.trans (hb3.mono HPB.out.size)) hw9
     simp [Leaves,settle,results,Tryz.results10,go_sem,c9]
     exact ⟨rfl,⟨ml9,A9,hs9⟩,hk9⟩
   ·go_simp
    go_wp2_with (go_at_call 25;refine (HN.out _ HP0.out).mono ?_;rintro e w3 ⟨rfl,hb3⟩)
    have HOUT:=(HP0.out.below hb3).out
    refine leaves_cons (f:=15) (args:=#[.pointer (some ⟨w.heap.size + 1,0,none⟩)]) (by simp) (by simp [go_sem]) ?_
    refine (lcatch_unread (w.heap.size + 1) _ _ HOUT).mono ?_
    rintro e u' w9 ⟨rfl,rfl,hb9,hw9⟩
    have c9:=hb9.cell 0
    simp only [List.getElem?_toArray,List.getElem?_cons_zero] at c9
    obtain ⟨ml9,A9,hs9,hk9⟩:=HBAD.out _ w9 (HPB.out.trans (hb3.mono HPB.out.size)) hw9
    simp [Leaves,settle,results,Tryz.results10,go_sem,c9]
    exact ⟨rfl,⟨ml9,A9,hs9⟩,hk9⟩
  ·go_simp
   go_wp2_with (go_at_call 25;refine (HN.out _ HP0.out).mono ?_;rintro e w3 ⟨rfl,hb3⟩)
   have HOUT:=(HP0.out.below hb3).out
   refine leaves_cons (f:=15) (args:=#[.pointer (some ⟨w.heap.size + 1,0,none⟩)]) (by simp) (by simp [go_sem]) ?_
   refine (lcatch_unread (w.heap.size + 1) _ _ HOUT).mono ?_
   rintro e u' w9 ⟨rfl,rfl,hb9,hw9⟩
   have c9:=hb9.cell 0
   simp only [List.getElem?_toArray,List.getElem?_cons_zero] at c9
   obtain ⟨ml9,A9,hs9,hk9⟩:=HBAD.out _ w9 (HPB.out.trans (hb3.mono HPB.out.size)) hw9
   simp [Leaves,settle,results,Tryz.results10,go_sem,c9]
   exact ⟨rfl,⟨ml9,A9,hs9⟩,hk9⟩
theorem line_putno (B b : Nat) (m : SS) (ml : List Mr) (A : Value) (s : ByteArray) (nl : NL s) (rb : ByteArray) (hc : cutAt 32 s.data.toList = some ((⟨#[112,117,116]⟩ : ByteArray).data.toList,rb.data.toList)) (hc2 : cutAt 32 rb.data.toList = none) (w : World) (h : SetAt B b m ml A w) (hl : LibE B w) (hsm : m.small 3000) :
 Calls Tryz.prog 10 #[.agg #[.pointer (some ⟨b,0,none⟩)],.string s] w (LineTo (badW) B b (m) w):=by
 have hmf:=mkf
 have HL0:=hid (LnE.start h hl)
 have hhB:=h.hBw
 unfold LineTo
 obtain ⟨hs,e1,e2,e3,e4⟩:=nl.at
 clear nl
 have hz:=cut_sz hc
 have HC:=hid fun W => Cut_some s _ rb hs hc W
 clear hc
 have HC2:=hid fun W => Cut_none rb (by omega) hc2 W
 clear h hl hsm hc2
 go_enter_defers Tryz.func10,Tryz.ntmps10
 go_wp2_with fail
 refine (HC.out _).mono ?_
 rintro e w1 ⟨rfl,hb1⟩
 have HL1:=hid (HL0.out.below hb1)
 have c1:=HL1.out.cell
 have z1:=HL1.out.frozen
 have s1:=HL1.out.cellS
 clear hb1
 go_wp2_with fail
 refine (HC2.out _).mono ?_
 rintro e w2 ⟨rfl,hb2⟩
 have HL2:=hid (HL1.out.below hb2)
 have c2:=HL2.out.cell
 have z2:=HL2.out.frozen
 clear hb2 c1 z1 s1
 go_wp2_with fail
 refine leaves_cons (f:=15) (args:=#[.pointer (some ⟨w.heap.size + 1,0,none⟩)]) (by simp) (by simp [go_sem]) ?_
 refine (lcatch_idle _ _).mono ?_
 rintro e u' w9 ⟨rfl,rfl,hb9⟩
 obtain ⟨c9,ml9,A9,hs9,hk9⟩:=HL2.out.fin ⟨#[98,97,100]⟩ w9 hb9
 simp [Leaves,settle,results,Tryz.results10,go_sem,c9]
 exact ⟨rfl,⟨ml9,A9,hs9⟩,hk9⟩
theorem line_putbad (B b : Nat) (m : SS) (ml : List Mr) (A : Value) (s : ByteArray) (nl : NL s) (rb : ByteArray) (hc : cutAt 32 s.data.toList = some ((⟨#[112,117,116]⟩ : ByteArray).data.toList,rb.data.toList)) (na tx : ByteArray) (hc2 : cutAt 32 rb.data.toList = some (na.data.toList,tx.data.toList)) (hn : numS na.data.toList = none) (w : World) (h : SetAt B b m ml A w) (hl : LibE B w) (hsm : m.small 3000) :
 Calls Tryz.prog 10 #[.agg #[.pointer (some ⟨b,0,none⟩)],.string s] w (LineTo (badW) B b (m) w):=by
 have hmf:=mkf
 have HL0:=hid (LnE.start h hl)
 have hhB:=h.hBw
 unfold LineTo
 obtain ⟨hs,e1,e2,e3,e4⟩:=nl.at
 clear nl
 have hz:=cut_sz hc
 have HC:=hid fun W => Cut_some s _ rb hs hc W
 clear hc
 have hz2:=cut_sz hc2
 have hz3 : na.size < rb.size:=by
  have:=cut_len hc2
  have h1 : rb.data.toList.length = rb.size:=by simp
  have h2 : na.data.toList.length = na.size:=by simp
  omega
 have HC2:=hid fun W => Cut_some rb na tx (by omega) hc2 W
 clear hc2
 have HN : Hid (∀ W,LnE B b m w W → Calls Tryz.prog 25 #[.string na] W (fun e w' => e = .panicked [{ v:=unreadV,recovered:=false }] ∧ Below W.heap.size W w')):=hid fun W hW => by
  obtain ⟨ev,hev⟩:=hW.lib.syn
  obtain ⟨rv,hrv⟩:=hW.lib.rng
  exact number_none na (by omega) hn W hW.lib.tab hev hrv
 have HBAD:=hid fun (W W2 : World) (h0 : Below w.heap.size w W) (hb : Below (w.heap.size + 1) W W2) => LnE.bad h h0 W2 hb
 have HB0 : Hid (Below w.heap.size w ((w.alloc (.cells #[.pointer (some ⟨b,0,none⟩)] 28)).alloc (.cells #[.string ⟨#[]⟩] 9))):=hid (((Below.refl _ _).alloc (Nat.le_refl _) _).alloc (by simp) _)
 clear h hl hsm hn
 go_enter_defers Tryz.func10,Tryz.ntmps10
 go_wp2_with fail
 refine (HC.out _).mono ?_
 rintro e w1 ⟨rfl,hb1⟩
 have HL1:=hid (HL0.out.below hb1)
 have c1:=HL1.out.cell
 have z1:=HL1.out.frozen
 have s1:=HL1.out.cellS
 have HB1:=hid (HB0.out.trans (hb1.mono HB0.out.size))
 clear hb1
 go_wp2_with fail
 refine (HC2.out _).mono ?_
 rintro e w2 ⟨rfl,hb2⟩
 have HL2:=hid (HL1.out.below hb2)
 clear c1 z1 s1
 have c1:=HL2.out.cell
 have z1:=HL2.out.frozen
 have s1:=HL2.out.cellS
 have HB2:=hid (HB1.out.trans (hb2.mono HB1.out.size))
 clear hb2
 go_wp2_with fail
 have HP0:=hid (HL2.out.below (Below.refl _ _).drew)
 have HPB:=hid (HB2.out.trans ((Below.refl _ _).drew.mono HB2.out.size))
 have s2:=HP0.out.cellS
 clear c1 z1 s1
 refine wp_region_any (by kernel_rfl) ?_
 change wpAny _ _ _ _ _ _ _ (World.drew _)
 refine wpAny_ready (rs:=[0,2]) (by kernel_rfl) (by simp) ?_
 refine AllReady.cons rfl (fun K hK => ?_) (AllReady.cons rfl (fun K hK => ?_) AllReady.nil)
 ·go_simp
  refine hK _ _ ?_
  clear hK K
  refine wpAny_ready (rs:=[1,2]) (by kernel_rfl) (by simp) ?_
  refine AllReady.cons rfl (fun K hK => ?_) (AllReady.cons rfl (fun K hK => ?_) AllReady.nil)
  ·go_simp
   refine hK _ _ ?_
   clear hK K
   refine wpAny_ready (rs:=[2]) (by kernel_rfl) (by simp) ?_
   refine AllReady.cons rfl (fun K hK => ?_) AllReady.nil
   ·go_simp
    refine hK _ _ ?_
    clear hK K
    refine wpAny_ready (rs:=[3]) (by kernel_rfl) (by simp) ?_
    refine AllReady.cons rfl (fun K hK => ?_) AllReady.nil
    ·go_simp
     go_wp2_with (go_at_call 25;refine (HN.out _ HP0.out).mono ?_;rintro e w3 ⟨rfl,hb3⟩)
     have HOUT:=(HP0.out.below hb3).out
     refine leaves_cons (f:=15) (args:=#[.pointer (some ⟨w.heap.size + 1,0,none⟩)]) (by simp) (by simp [go_sem]) ?_
     refine (lcatch_unread (w.heap.size + 1) _ _ HOUT).mono ?_
     rintro e u' w9 ⟨rfl,rfl,hb9,hw9⟩
     have c9:=hb9.cell 0
     simp only [List.getElem?_toArray,List.getElem?_cons_zero] at c9
     obtain ⟨ml9,A9,hs9,hk9⟩:=HBAD.out _ w9 (HPB.out.trans (hb3.mono HPB.out.size)) hw9
     simp [Leaves,settle,results,Tryz.results10,go_sem,c9]
     exact ⟨rfl,⟨ml9,A9,hs9⟩,hk9⟩
  ·go_simp
   refine hK _ _ ?_
   clear hK K
   refine wpAny_ready (rs:=[1,3]) (by kernel_rfl) (by simp) ?_
   refine AllReady.cons rfl (fun K hK => ?_) (AllReady.cons rfl (fun K hK => ?_) AllReady.nil)
   ·go_simp
    refine hK _ _ ?_
    clear hK K
    refine wpAny_ready (rs:=[3]) (by kernel_rfl) (by simp) ?_
    refine AllReady.cons rfl (fun K hK => ?_) AllReady.nil
    ·go_simp
     go_wp2_with (go_at_call 25;refine (HN.out _ HP0.out).mono ?_;rintro e w3 ⟨rfl,hb3⟩)
     have HOUT:=(HP0.out.below hb3).out
     refine leaves_cons (f:=15) (args:=#[.pointer (some ⟨w.heap.size + 1,0,none⟩)]) (by simp) (by simp [go_sem]) ?_
     refine (lcatch_unread (w.heap.size + 1) _ _ HOUT).mono ?_
     rintro e u' w9 ⟨rfl,rfl,hb9,hw9⟩
     have c9:=hb9.cell 0
     simp only [List.getElem?_toArray,List.getElem?_cons_zero] at c9
     obtain ⟨ml9,A9,hs9,hk9⟩:=HBAD.out _ w9 (HPB.out.trans (hb3.mono HPB.out.size)) hw9
     simp [Leaves,settle,results,Tryz.results10,go_sem,c9]
     exact ⟨rfl,⟨ml9,A9,hs9⟩,hk9⟩
   ·go_simp
    go_wp2_with (go_at_call 25;refine (HN.out _ HP0.out).mono ?_;rintro e w3 ⟨rfl,hb3⟩)
    have HOUT:=(HP0.out.below hb3).out
    refine leaves_cons (f:=15) (args:=#[.pointer (some ⟨w.heap.size + 1,0,none⟩)]) (by simp) (by simp [go_sem]) ?_
    refine (lcatch_unread (w.heap.size + 1) _ _ HOUT).mono ?_
    rintro e u' w9 ⟨rfl,rfl,hb9,hw9⟩
    have c9:=hb9.cell 0
    simp only [List.getElem?_toArray,List.getElem?_cons_zero] at c9
    obtain ⟨ml9,A9,hs9,hk9⟩:=HBAD.out _ w9 (HPB.out.trans (hb3.mono HPB.out.size)) hw9
    simp [Leaves,settle,results,Tryz.results10,go_sem,c9]
    exact ⟨rfl,⟨ml9,A9,hs9⟩,hk9⟩
 ·go_simp
  refine hK _ _ ?_
  clear hK K
  refine wpAny_ready (rs:=[0,3]) (by kernel_rfl) (by simp) ?_
  refine AllReady.cons rfl (fun K hK => ?_) (AllReady.cons rfl (fun K hK => ?_) AllReady.nil)
  ·go_simp
   refine hK _ _ ?_
   clear hK K
   refine wpAny_ready (rs:=[1,3]) (by kernel_rfl) (by simp) ?_
   refine AllReady.cons rfl (fun K hK => ?_) (AllReady.cons rfl (fun K hK => ?_) AllReady.nil)
   ·go_simp
    refine hK _ _ ?_
    clear hK K
    refine wpAny_ready (rs:=[3]) (by kernel_rfl) (by simp) ?_
    refine AllReady.cons rfl (fun K hK => ?_) AllReady.nil
    ·go_simp
     go_wp2_with (go_at_call 25;refine (HN.out _ HP0.out).mono ?_;rintro e w3 ⟨rfl,hb3⟩)
     have HOUT:=(HP0.out.below hb3).out
     refine leaves_cons (f:=15) (args:=#[.pointer (some ⟨w.heap.size + 1,0,none⟩)]) (by simp) (by simp [go_sem]) ?_
     refine (lcatch_unread (w.heap.size + 1) _ _ HOUT).mono ?_
     rintro e u' w9 ⟨rfl,rfl,hb9,hw9⟩
     have c9:=hb9.cell 0
     simp only [List.getElem?_toArray,List.getElem?_cons_zero] at c9
     obtain ⟨ml9,A9,hs9,hk9⟩:=HBAD.out _ w9 (HPB.out.trans (hb3.mono HPB.out.size)) hw9
     simp [Leaves,settle,results,Tryz.results10,go_sem,c9]
     exact ⟨rfl,⟨ml9,A9,hs9⟩,hk9⟩
   ·go_simp
    go_wp2_with (go_at_call 25;refine (HN.out _ HP0.out).mono ?_;rintro e w3 ⟨rfl,hb3⟩)
    have HOUT:=(HP0.out.below hb3).out
    refine leaves_cons (f:=15) (args:=#[.pointer (some ⟨w.heap.size + 1,0,none⟩)]) (by simp) (by simp [go_sem]) ?_
    refine (lcatch_unread (w.heap.size + 1) _ _ HOUT).mono ?_
    rintro e u' w9 ⟨rfl,rfl,hb9,hw9⟩
    have c9:=hb9.cell 0
    simp only [List.getElem?_toArray,List.getElem?_cons_zero] at c9
    obtain ⟨ml9,A9,hs9,hk9⟩:=HBAD.out _ w9 (HPB.out.trans (hb3.mono HPB.out.size)) hw9
    simp [Leaves,settle,results,Tryz.results10,go_sem,c9]
    exact ⟨rfl,⟨ml9,A9,hs9⟩,hk9⟩
  ·go_simp
   go_wp2_with (go_at_call 25;refine (HN.out _ HP0.out).mono ?_;rintro e w3 ⟨rfl,hb3⟩)
   have HOUT:=(HP0.out.below hb3).out
   refine leaves_cons (f:=15) (args:=#[.pointer (some ⟨w.heap.size + 1,0,none⟩)]) (by simp) (by simp [go_sem]) ?_
   refine (lcatch_unread (w.heap.size + 1) _ _ HOUT).mono ?_
   rintro e u' w9 ⟨rfl,rfl,hb9,hw9⟩
   have c9:=hb9.cell 0
   simp only [List.getElem?_toArray,List.getElem?_cons_zero] at c9
   obtain ⟨ml9,A9,hs9,hk9⟩:=HBAD.out _ w9 (HPB.out.trans (hb3.mono HPB.out.size)) hw9
   simp [Leaves,settle,results,Tryz.results10,go_sem,c9]
   exact ⟨rfl,⟨ml9,A9,hs9⟩,hk9⟩
theorem line_putnone (B b : Nat) (m : SS) (ml : List Mr) (A : Value) (s : ByteArray) (nl : NL s) (rb : ByteArray) (hc : cutAt 32 s.data.toList = some ((⟨#[112,117,116]⟩ : ByteArray).data.toList,rb.data.toList)) (na tx : ByteArray) (hc2 : cutAt 32 rb.data.toList = some (na.data.toList,tx.data.toList)) (n : Nat) (hn : numS na.data.toList = some n) (hp : m.place (n : Int) = none) (w : World) (h : SetAt B b m ml A w) (hl : LibE B w) (hsm : m.small 3000) :
 Calls Tryz.prog 10 #[.agg #[.pointer (some ⟨b,0,none⟩)],.string s] w (LineTo (errT 4) B b (m) w):=by
 have hmf:=mkf
 have HL0:=hid (LnE.start h hl)
 have hhB:=h.hBw
 unfold LineTo
 obtain ⟨hs,e1,e2,e3,e4⟩:=nl.at
 clear nl
 have hz:=cut_sz hc
 have HC:=hid fun W => Cut_some s _ rb hs hc W
 clear hc
 have hz2:=cut_sz hc2
 have hz3 : na.size < rb.size:=by
  have:=cut_len hc2
  have h1 : rb.data.toList.length = rb.size:=by simp
  have h2 : na.data.toList.length = na.size:=by simp
  omega
 have HC2:=hid fun W => Cut_some rb na tx (by omega) hc2 W
 clear hc2
 have HKP : Hid (∀ w1 w2,Hid (LnE B b m w w1) → Below w1.heap.size w1 w2 → Hid (LnE B b m w w2)):=hid fun w1 w2 a b => hid (a.out.below b)
 have HN : Hid (∀ W,Hid (LnE B b m w W) → Calls Tryz.prog 25 #[.string na] W (fun e w' => e = .returned (.int .i64 (n : Int)) ∧ Below W.heap.size W w')):=hid fun W hW => number_some na (by omega) n hn W hW.out.lib.tab
 have HS : Hid (∀ w',Hid (LnE B b m w w') → (w'.cell? ⟨w.heap.size,0,none⟩ = some (.pointer (some ⟨b,0,none⟩)) ∧ Hid (LnE B b m w w'))):=hid fun w' hw => ⟨hw.out.cellS,hw⟩
 have HPT : Hid (∀ W,Hid (LnE B b m w W) → Calls Tryz.prog 29 #[.pointer (some ⟨b,0,none⟩),.int .i64 (n : Int)] W (fun e w' => e = .returned (.tuple #[.slice none 0 0,.iface 81 (.int .i64 4)]) ∧ Below W.heap.size W w')):=hid fun W hW => by
  obtain ⟨ml',A',hs⟩:=hW.out.set
  refine (Pattern_set B b m ml' A' (n : Int) W hs).mono ?_
  rintro e w' ⟨hb,⟨_,rfl⟩ | ⟨k,q,_,_,h1,_⟩⟩
  ·exact ⟨rfl,hb⟩
  ·rw [hp] at h1;cases h1
 have HTO : Hid (∀ W,LnE B b m w W → Calls Tryz.prog 23 #[.string ⟨#[]⟩,.int .i64 0,.iface 81 (.int .i64 4)] W (ToldTo (errT 4) W)):=hid fun W hW => told_c ⟨#[]⟩ 0 4 (by omega) (by omega) W hW.lib.err hW.lib.tab
 unfold ToldTo at HTO
 clear h hl hsm hn hp
 go_enter_defers Tryz.func10,Tryz.ntmps10
 go_wp2_with fail
 refine (HC.out _).mono ?_
 rintro e w1 ⟨rfl,hb1⟩
 have HL1:=hid (HL0.out.below hb1)
 have c1:=HL1.out.cell
 have z1:=HL1.out.frozen
 have s1:=HL1.out.cellS
 clear hb1
 go_wp2_with fail
 refine (HC2.out _).mono ?_
 rintro e w2 ⟨rfl,hb2⟩
 have HL2:=hid (HL1.out.below hb2)
 clear c1 z1 s1
 have c1:=HL2.out.cell
 have z1:=HL2.out.frozen
 have s1:=HL2.out.cellS
 clear hb2
 go_wp2_with fail
 have HLD:=HKP.out _ _ HL2 (Below.refl _ _).drew
 clear c1 z1 s1
 go_region_held3 (fun w' => w'.cell? ⟨w.heap.size,0,none⟩ = some (.pointer (some ⟨b,0,none⟩)) ∧ Hid (LnE B b m w w'))
  (exact HS.out _ (by assumption))
  (first
    | (go_at_call 25;refine (HN.out _ (by assumption)).mono ?_;rintro e w5 ⟨rfl,hb5⟩;have hl5:=HKP.out _ _ (by assumption) hb5)
    | (go_at_call 29;refine (HPT.out _ (by assumption)).mono ?_;rintro e w6 ⟨rfl,hb6⟩;have hl6:=HKP.out _ _ (by assumption) hb6))
 all_goals
  go_wp2_with fail
  refine (HTO.out _ hl6.out).mono ?_
  rintro e w7 ⟨t,rfl,ht,hb7⟩
  have HT:=hid ht
  have HL7:=hid (hl6.out.below hb7)
  have c7:=HL7.out.cell
  have z7:=HL7.out.frozen
  clear ht hb7
  go_wp2_with fail
  refine leaves_cons (f:=15) (args:=#[.pointer (some ⟨w.heap.size + 1,0,none⟩)]) (by simp) (by simp [go_sem]) ?_
  refine (lcatch_idle _ _).mono ?_
  rintro e u' w9 ⟨rfl,rfl,hb9⟩
  obtain ⟨c9,ml9,A9,hs9,hk9⟩:=HL7.out.fin t w9 hb9
  simp [Leaves,settle,results,Tryz.results10,go_sem,c9]
  exact ⟨HT.out,⟨ml9,A9,hs9⟩,hk9⟩
theorem line_put (B b : Nat) (m : SS) (ml : List Mr) (A : Value) (s : ByteArray) (nl : NL s) (rb : ByteArray) (hc : cutAt 32 s.data.toList = some ((⟨#[112,117,116]⟩ : ByteArray).data.toList,rb.data.toList)) (na tx : ByteArray) (hc2 : cutAt 32 rb.data.toList = some (na.data.toList,tx.data.toList)) (n : Nat) (hn : numS na.data.toList = some n) (k : Nat) (x : Mb) (hp : m.place (n : Int) = some k) (hx : m.ms[k]? = some x) (w : World) (h : SetAt B b m ml A w) (hl : LibE B w) (hsm : m.small 3000) :
 Calls Tryz.prog 10 #[.agg #[.pointer (some ⟨b,0,none⟩)],.string s] w (LineTo (putA x tx.data.toList) B b (m) w):=by
 have hmf:=mkf
 have HL0:=hid (LnE.start h hl)
 have hhB:=h.hBw
 unfold LineTo
 obtain ⟨hs,e1,e2,e3,e4⟩:=nl.at
 clear nl
 have hz:=cut_sz hc
 have HC:=hid fun W => Cut_some s _ rb hs hc W
 clear hc
 have hz2:=cut_sz hc2
 have hz3 : na.size < rb.size:=by
  have:=cut_len hc2
  have h1 : rb.data.toList.length = rb.size:=by simp
  have h2 : na.data.toList.length = na.size:=by simp
  omega
 have HC2:=hid fun W => Cut_some rb na tx (by omega) hc2 W
 clear hc2
 have HKP : Hid (∀ w1 w2,Hid (LnE B b m w w1) → Below w1.heap.size w1 w2 → Hid (LnE B b m w w2)):=hid fun w1 w2 a b => hid (a.out.below b)
 have HN : Hid (∀ W,Hid (LnE B b m w W) → Calls Tryz.prog 25 #[.string na] W (fun e w' => e = .returned (.int .i64 (n : Int)) ∧ Below W.heap.size W w')):=hid fun W hW => number_some na (by omega) n hn W hW.out.lib.tab
 have HS : Hid (∀ w',Hid (LnE B b m w w') → (w'.cell? ⟨w.heap.size,0,none⟩ = some (.pointer (some ⟨b,0,none⟩)) ∧ Hid (LnE B b m w w'))):=hid fun w' hw => ⟨hw.out.cellS,hw⟩
 obtain ⟨_,_,hf60,hokt,_⟩:=parseE_some (h.ok.read x (List.mem_of_getElem? hx))
 have HPT : Hid (∀ W,Hid (LnE B b m w W) → Calls Tryz.prog 29 #[.pointer (some ⟨b,0,none⟩),.int .i64 (n : Int)] W (fun e w' => ∃ (VA : Option Addr) (cap N : Nat),e = .returned (.tuple #[.slice VA N cap,.nilIface]) ∧ RdN w' (.slice VA N cap) (flat x.t) ∧ Below W.heap.size W w')):=hid fun W hW => by
  obtain ⟨ml',A',hs⟩:=hW.out.set
  refine (Pattern_set B b m ml' A' (n : Int) W hs).mono ?_
  rintro e w' ⟨hb,⟨h1,rfl⟩ | ⟨k',q,VA,cap,h1,h2,he,hr⟩⟩
  ·rw [hp] at h1;cases h1
  ·rw [hp] at h1
   cases h1
   rw [hx] at h2
   cases h2
   exact ⟨VA,cap,_,he,hr,hb⟩
 obtain ⟨X,ne,hX,hne,hput⟩ : ∃ (X : ByteArray) (ne : Nat),(∀ W v,RdN W v (flat x.t) → Calls Tryz.prog 30 #[v,.string tx,.string ⟨#[95]⟩] W (fun e w' => e = .returned (.tuple #[.string X,errV (ne : Int)]) ∧ Below W.heap.size W w')) ∧ ne ≤ 6 ∧ toldW X.data.toList 0 ne = putA x tx.data.toList:=by
  have htxl : tx.data.toList.length = tx.size:=by simp
  by_cases h4 : 400 < tx.size
  ·refine ⟨⟨#[]⟩,3,fun W v hr => ?_,by omega,?_⟩
   ·refine (repl_long (flat x.t) tx ⟨#[95]⟩ (by omega) h4 (chk_flat _ hf60) v W hr).mono ?_
    rintro e w' ⟨rfl,hb⟩
    exact ⟨rfl,hb⟩
   ·unfold putA
    rw [if_pos (by omega)]
    rfl
  ·have hput : putA x tx.data.toList = toldW (swapO tx ⟨#[95]⟩ (spansO tx.data.toList x.t 0)).1 0 (swapO tx ⟨#[95]⟩ (spansO tx.data.toList x.t 0)).2.toNat:=by
    unfold putA
    rw [if_neg (by omega)]
   have h95 : ¬ 400 < (⟨#[95]⟩ : ByteArray).size:=by decide
   by_cases h5 : 400 < (swapR tx ⟨#[95]⟩ (spansO tx.data.toList x.t 0)).length
   ·have hsw : swapO tx ⟨#[95]⟩ (spansO tx.data.toList x.t 0) = ([],3):=by unfold swapO;rw [if_neg h95,if_pos h5]
    refine ⟨⟨#[]⟩,3,fun W v hr => ?_,by omega,by rw [hput,hsw];rfl⟩
    refine (repl_any (flat x.t) x.t rfl hf60 hokt tx ⟨#[95]⟩ (by omega) (by decide) v W hr).mono ?_
    rintro e w' (⟨hq,_⟩ | ⟨_,rfl,hb⟩)
    ·exfalso
     unfold chkSw at hq
     rw [if_neg h95,if_pos (show 400 < (swapL tx ⟨#[95]⟩ (spansO tx.data.toList x.t 0)).length from h5)] at hq
     split at hq <;> omega
    ·exact ⟨rfl,hb⟩
   ·have hsw : swapO tx ⟨#[95]⟩ (spansO tx.data.toList x.t 0) = (swapR tx ⟨#[95]⟩ (spansO tx.data.toList x.t 0),0):=by unfold swapO;rw [if_neg h95,if_neg h5]
    refine ⟨⟨(swapR tx ⟨#[95]⟩ (spansO tx.data.toList x.t 0)).toArray⟩,0,fun W v hr => ?_,by omega,by rw [hput,hsw];rfl⟩
    refine (repl_any (flat x.t) x.t rfl hf60 hokt tx ⟨#[95]⟩ (by omega) (by decide) v W hr).mono ?_
    rintro e w' (⟨_,rfl,hb⟩ | ⟨hq,_⟩)
    ·exact ⟨rfl,hb⟩
    ·exfalso
     unfold chkSw at hq
     rw [if_neg h95,if_neg (show ¬ 400 < (swapL tx ⟨#[95]⟩ (spansO tx.data.toList x.t 0)).length from h5)] at hq
     unfold chkF at hq
     rw [chk_flat _ hf60,if_neg (show ¬ ((0 : Int) ≠ 0) by simp),if_neg h4] at hq
     simp at hq
 have HRE:=hid hX
 have HTO : Hid (∀ W,LnE B b m w W → Calls Tryz.prog 23 #[.string X,.int .i64 0,errV (ne : Int)] W (fun e w' => ∃ t : ByteArray,e = .returned (.string t) ∧ t.data.toList = putA x tx.data.toList ∧ Below W.heap.size W w')):=hid fun W hW => by
  have:=told_c X 0 ne hne (by omega) W hW.lib.err hW.lib.tab
  rw [hput] at this
  exact this
 clear h hl hsm hn hp hx hf60 hokt hX hne hput
 generalize putA x tx.data.toList = R at *
 generalize errV (ne : Int) = EV at *
 generalize flat x.t = F at *
 go_enter_defers Tryz.func10,Tryz.ntmps10
 go_wp2_with fail
 refine (HC.out _).mono ?_
 rintro e w1 ⟨rfl,hb1⟩
 have HL1:=hid (HL0.out.below hb1)
 have c1:=HL1.out.cell
 have z1:=HL1.out.frozen
 have s1:=HL1.out.cellS
 clear hb1
 go_wp2_with fail
 refine (HC2.out _).mono ?_
 rintro e w2 ⟨rfl,hb2⟩
 have HL2:=hid (HL1.out.below hb2)
 clear c1 z1 s1
 have c1:=HL2.out.cell
 have z1:=HL2.out.frozen
 have s1:=HL2.out.cellS
 clear hb2
 go_wp2_with fail
 have HLD:=HKP.out _ _ HL2 (Below.refl _ _).drew
 clear c1 z1 s1
 go_region_held3 (fun w' => w'.cell? ⟨w.heap.size,0,none⟩ = some (.pointer (some ⟨b,0,none⟩)) ∧ Hid (LnE B b m w w'))
  (exact HS.out _ (by assumption))
  (first
    | (go_at_call 25;refine (HN.out _ (by assumption)).mono ?_;rintro e w5 ⟨rfl,hb5⟩;have hl5:=HKP.out _ _ (by assumption) hb5)
    | (go_at_call 29;refine (HPT.out _ (by assumption)).mono ?_;rintro e w6 ⟨VA,cap,N,rfl,hr,hb6⟩;have hr6:=hid hr;have hl6:=HKP.out _ _ (by assumption) hb6))
 all_goals
  go_wp2_with fail
  refine (HRE.out _ _ hr6.out).mono ?_
  rintro e w8 ⟨rfl,hb8⟩
  have HL8:=hid (hl6.out.below hb8)
  clear hb8
  go_wp2_with fail
  refine (HTO.out _ HL8.out).mono ?_
  rintro e w7 ⟨t,rfl,ht,hb7⟩
  have HT:=hid ht
  have HL7:=hid (HL8.out.below hb7)
  have c7:=HL7.out.cell
  have z7:=HL7.out.frozen
  clear ht hb7
  go_wp2_with fail
  refine leaves_cons (f:=15) (args:=#[.pointer (some ⟨w.heap.size + 1,0,none⟩)]) (by simp) (by simp [go_sem]) ?_
  refine (lcatch_idle _ _).mono ?_
  rintro e u' w9 ⟨rfl,rfl,hb9⟩
  obtain ⟨c9,ml9,A9,hs9,hk9⟩:=HL7.out.fin t w9 hb9
  simp [Leaves,settle,results,Tryz.results10,go_sem,c9]
  exact ⟨HT.out,⟨ml9,A9,hs9⟩,hk9⟩
end Go.Proofs.YthhcpbfgoofppaaGreatDoor.setW
namespace Go.Proofs.YthhcpbfgoofppaaGreatDoor
open Go.RowKit Wf
set_option linter.unusedVariables false
structure Bd (B b : Nat) (p : Value) (l : List UInt8) (v : Value) (w : World) : Prop where
 hB : B ≤ b
 blk : Blk w b 32 #[p,v]
 own : w.ownsRow B 5 1 v l.length (Lib.byteCells l)
 ne : v.ownBlock ≠ some b
 nil : l = [] → v = .slice none 0 0
section
variable {B b : Nat} {p v : Value} {l : List UInt8} {w : World}
theorem Bd.form (h : Bd B b p l v w) : ∃ A cap,v = .slice A l.length cap:=by
 rcases h.own.2 with ⟨hv,h0⟩ | ⟨g,cap,cur,hv,_⟩
 ·exact ⟨none,0,by rw [hv,h0]⟩
 ·exact ⟨_,_,hv⟩
theorem Bd.lt (h : Bd B b p l v w) : b < w.heap.size:=h.blk.lt
theorem Bd.set0 (h : Bd B b p l v w) (q : Value) : Bd B b q l v (w.setCell ⟨b,0,none⟩ q) :=
 ⟨h.hB,by have:=h.blk.set_ 0 q;simpa using this,h.own.kept (grown_setW w b 0 q) (by have:=h.ne;exact .inr this),h.ne,h.nil⟩
theorem Bd.below {w' : World} (h : Bd B b p l v w) (hb : Below w.heap.size w w') : Bd B b p l v w' :=
 ⟨h.hB,h.blk.kept hb,World.ownsRow.kept (row:=none) h.own ⟨hb.os,hb.tape,hb.output,hb.size,fun i hi _ => hb.block i hi⟩ (by cases hv : v.ownBlock <;> simp),h.ne,h.nil⟩
theorem Bd.is (h : Bd B b p l v w) (hp : IsP b p) : Lib.IsBuilder 32 5 B b (Lib.byteCells l) w:=by
 have hl : (Lib.byteCells l).length = l.length:=by simp [Lib.byteCells]
 have key : Lib.BuilderAt 32 5 B b p (Lib.byteCells l) w:=⟨h.hB,v,h.blk,by rw [hl];exact h.own,h.ne⟩
 rcases hp with rfl | rfl
 ·exact .inl key
 ·exact .inr key
end
theorem bd_lies : liesAt Tryz.prog Tryz.prog.depth 32 (2 / Tryz.prog.cellsOf 32) 0 32 1 = true:=by kernel_rfl
def BChk (B b : Nat) (l : List UInt8) (v : Value) (w : World) (e : Ending) (w' : World) : Prop :=
 e = .returned (.tuple #[]) ∧ Bd B b (.pointer (some ⟨b,0,none⟩)) l v w' ∧ WK B b w w'
def BWrote (ret : Value) (B b : Nat) (l : List UInt8) (w : World) (e : Ending) (w' : World) : Prop :=
 e = .returned ret ∧ ∃ v',Bd B b (.pointer (some ⟨b,0,none⟩)) l v' w' ∧ WK B b w w'
theorem bld_check (B b : Nat) (p v : Value) (l : List UInt8) (w : World) (h : Bd B b p l v w) (hp : IsP b p) :
 Calls Tryz.prog 14 #[.pointer (some ⟨b,0,none⟩)] w (BChk B b l v w):=by
 obtain ⟨j,hj,hjs⟩:=wr_info
 rcases hp with rfl | rfl
 ·have h0 : w.cell? ⟨b,0,none⟩ = some (.pointer none):=h.blk.cell 0
  have hsh : w.shape? b = some (32,2):=by have:=h.blk;unfold Blk at this;simp [World.shape?,this]
  have hfz:=h.blk.frozen 0
  have H:=hid h
  clear h
  go_enter Tryz.func14,Tryz.ntmps14
  go_wp2
  rw [Lib.run_to_unsafe w ⟨b,0,none⟩ Tryz.underlying29 Tryz.underlying92 hj (by rw [hjs];decide) hsh (Nat.zero_lt_succ 1)]
  simp only [Result.andThen]
  rw [Oper.upon_value]
  go_wp2
  rw [run_callFunc_extern Tryz.func43 (by kernel_rfl) (by kernel_rfl) (by kernel_rfl) (e:=Extern.AbiNoEscape.same) (by kernel_rfl)]
  rw [Lib.run_noEscape]
  simp only [Result.andThen]
  rw [Oper.upon_value]
  go_wp2
  rw [Lib.run_from_unsafe w ⟨b,0,none⟩ Tryz.underlying92 Tryz.underlying29 hj hsh bd_lies]
  simp only [Result.andThen]
  rw [Oper.upon_value]
  go_wp2
  go_end0
  exact ⟨rfl,H.out.set0 _,WK.set H.out.hB w 0 _⟩
 ·have h0 : w.cell? ⟨b,0,none⟩ = some (.pointer (some ⟨b,0,none⟩)):=h.blk.cell 0
  have H:=hid h
  clear h
  go_enter Tryz.func14,Tryz.ntmps14
  go_wp2
  rw [Lib.run_neq_ptr_same w _ Tryz.underlying29 hj]
  go_wp2
  go_end0
  exact ⟨rfl,H.out,WK.refl _ _ _⟩
theorem bld_str (B b : Nat) (s : ByteArray) (h0 : 0 < s.size) (p v : Value) (l : List UInt8) (w : World) (h : Bd B b p l v w) (hp : IsP b p) (hlen : l.length + s.size ≤ 1000000000) :
 Calls Tryz.prog 9 #[.pointer (some ⟨b,0,none⟩),.string s] w (BWrote (.tuple #[.int .i64 (s.size : Int),.nilIface]) B b (l ++ s.data.toList) w):=by
 obtain ⟨i0,hi,hz0,hz1,hz2⟩:=info_parts info_u8
 have hBw : B ≤ w.heap.size:=by have:=h.hB;have:=h.lt;omega
 have HCK:=hid (bld_check B b p v l w h hp)
 have hcz : Lib.byteCells (l ++ s.data.toList) = Lib.byteCells l ++ Lib.strCells s:=by simp [Lib.byteCells,Lib.strCells]
 have HCZ:=hid hcz
 unfold BChk at HCK
 clear h hp hcz
 go_enter Tryz.func9,Tryz.ntmps9
 go_wp2_with fail
 refine HCK.out.mono ?_
 rintro e w1 ⟨rfl,h1,hk1⟩
 obtain ⟨A1,cap1,rfl⟩:=h1.form
 have H1:=hid h1
 have HK1:=hid hk1
 have c1 : w1.cell? ⟨b,1,none⟩ = some (.slice A1 l.length cap1):=h1.blk.cell 1
 have hs1 : B ≤ w1.heap.size:=Nat.le_trans hBw hk1.bel.size
 clear h1 hk1 HCK
 go_wp2_with (at_builtin;refine Lib.wpList_append_own_string _ rfl _ _ 30 9 rfl B 5 i0 Tryz.underlying30 Tryz.underlying9 hi hz0 hz1 hz2 _ _ _ rfl H1.out.own s rfl ?c3 ?c4 ?c5 ?_)
 case c3 => unfold maxLen;omega
 case c4 => omega
 case c5 => omega
 intro v' w2 hown' hgrow _
 have hb2 : Blk w2 b 32 #[.pointer (some ⟨b,0,none⟩),.slice A1 l.length cap1]:=by
  have:=H1.out.blk
  have hlt:=H1.out.lt
  refine (hgrow.block b (by omega) (fun e => H1.out.ne e.symm)).trans ?_
  exact this
 have d0 : w2.cell? ⟨b,0,none⟩ = some (.pointer (some ⟨b,0,none⟩)):=hb2.cell 0
 have d1 : w2.cell? ⟨b,1,none⟩ = some (.slice A1 l.length cap1):=hb2.cell 1
 have f1 : w2.frozen? ⟨b,1,none⟩ = false:=hb2.frozen 1
 obtain ⟨g,cap,rfl⟩ : ∃ g cap,v' = .slice (some ⟨g,0,none⟩) (l.length + s.size) cap:=by
  rcases hown'.2 with ⟨_,h0⟩ | ⟨g,cap,cur,hv,_⟩
  ·omega
  ·exact ⟨g,cap,hv⟩
 have hne : (Value.slice (some ⟨g,0,none⟩) (l.length + s.size) cap).ownBlock ≠ some b:=fun e => by
  rcases hown'.2 with ⟨_,h0⟩ | ⟨g',cap',cur,hv,_,hgg,_⟩
  ·omega
  ·injection hv with hv1
   injection hv1 with hv1
   injection hv1 with hv1
   have e' : g = b:=Option.some.inj e
   rw [← hv1,e'] at hgg
   have hb2' : w2.heap[b]? = some (.cells #[.pointer (some ⟨b,0,none⟩),.slice A1 l.length cap1] 32 (0,0)):=hb2
   rw [hb2'] at hgg
   injection hgg with hgg
   injection hgg with _ hgg _
   exact absurd hgg (by decide)
 have hK:=(HK1.out.trans (WK.grown (b:=b) hs1 H1.out.own hgrow)).trans (WK.set H1.out.hB w2 1 (.slice (some ⟨g,0,none⟩) (l.length + s.size) cap))
 have hW : Bd B b (.pointer (some ⟨b,0,none⟩)) (l ++ s.data.toList) (.slice (some ⟨g,0,none⟩) (l.length + s.size) cap) (w2.setCell ⟨b,1,none⟩ (.slice (some ⟨g,0,none⟩) (l.length + s.size) cap)) :=
  ⟨H1.out.hB,by have:=hb2.set_ 1 (.slice (some ⟨g,0,none⟩) (l.length + s.size) cap);simpa using this,by
    have:=hown'.kept (grown_setW w2 b 1 (.slice (some ⟨g,0,none⟩) (l.length + s.size) cap)) (.inr hne)
    rw [HCZ.out,List.length_append,show s.data.toList.length = s.size by simp]
    exact this,hne,fun h => by have h2:=congrArg List.length h;rw [List.length_append,show s.data.toList.length = s.size by simp,List.length_nil] at h2;omega⟩
 have HKK:=hid hK
 have HWW:=hid hW
 clear hK hW hgrow hown' hne hb2
 go_wp2
 go_ret2
 exact ⟨rfl,_,HWW.out,HKK.out⟩
end Go.Proofs.YthhcpbfgoofppaaGreatDoor
namespace Go.Proofs.YthhcpbfgoofppaaGreatDoor.setW
open Go.RowKit Wf
set_option linter.unusedVariables false
theorem ba_eq {s : ByteArray} {l : List UInt8} (h : s.data.toList = l) : s = ⟨l.toArray⟩:=ByteArray.ext (Array.toList_inj.1 h)
theorem line_c (B b : Nat) (m : SS) (ml : List Mr) (A : Value) (s : ByteArray) (hs : s.size ≤ 3000) (w : World) (h : SetAt B b m ml A w) (hl : LibE B w) (hsm : m.small 3000) :
 Calls Tryz.prog 10 #[.agg #[.pointer (some ⟨b,0,none⟩)],.string s] w (LineTo (lineS m s.data.toList).1 B b (lineS m s.data.toList).2 w):=by
 by_cases q2 : s.data.toList = [111,110]
 ·rw [q2,ba_eq q2,show lineS m [111,110] = (okyW,{ m with on:=true }) from by unfold lineS;rw [if_pos rfl]]
  exact line_on B b m ml A w h hl hsm
 by_cases q3 : s.data.toList = [111,102,102]
 ·rw [q3,ba_eq q3,show lineS m [111,102,102] = (okyW,{ m with on:=false }) from by unfold lineS;rw [if_neg (by decide),if_pos rfl]]
  exact line_off B b m ml A w h hl hsm
 by_cases q4 : s.data.toList = [116,114,105,101,100]
 ·rw [q4,ba_eq q4,show lineS m [116,114,105,101,100] = (Lib.decDigits m.tried,m) from by unfold lineS;rw [if_neg (by decide),if_neg (by decide),if_pos rfl]]
  exact line_tried B b m ml A w h hl hsm
 by_cases q1 : s.data.toList = [108,105,115,116]
 ·rw [q1,ba_eq q1,show lineS m [108,105,115,116] = (orNoneW (wordsW (m.ms.map itemW)),m) from by unfold lineS;rw [if_neg (by decide),if_neg (by decide),if_neg (by decide),if_pos rfl]]
  exact line_list B b m ml A w h hl hsm
 unfold lineS
 rw [if_neg q2,if_neg q3,if_neg q4,if_neg q1]
 cases hc : cutAt 32 s.data.toList with
 | none => exact line_nocut B b m ml A s ⟨hs,q1,q2,q3,q4⟩ hc w h hl hsm
 | some p =>
   obtain ⟨wd,r⟩:=p
   dsimp only
   have hz:=cut_len hc
   have hsl : s.data.toList.length = s.size:=by simp
   have hrs : (⟨r.toArray⟩ : ByteArray).size = r.length:=by simp [ByteArray.size]
   by_cases r1 : wd = [97,100,100]
   ·subst r1
    rw [if_pos rfl]
    exact line_add B b m ml A s ⟨hs,q1,q2,q3,q4⟩ ⟨r.toArray⟩ hc w h hl hsm
   rw [if_neg r1]
   by_cases r2 : wd = [114,101,109,111,118,101]
   ·subst r2
    rw [if_pos rfl]
    cases hn : numS r with
    | none => exact line_removeno B b m ml A s ⟨hs,q1,q2,q3,q4⟩ ⟨r.toArray⟩ hc hn w h hl hsm
    | some n => exact line_remove B b m ml A s ⟨hs,q1,q2,q3,q4⟩ ⟨r.toArray⟩ hc n hn w h hl hsm
   rw [if_neg r2]
   by_cases r3 : wd = [115,99,97,110]
   ·subst r3
    rw [if_pos rfl]
    by_cases h4 : 400 < r.length
    ·rw [if_pos h4]
     exact line_scan B b m ml A s ⟨hs,q1,q2,q3,q4⟩ ⟨r.toArray⟩ hc [] (by simp) (fun q hq => by cases hq) (errV 3) 3 (by omega) rfl m w h hl hsm fun W hW => by
      obtain ⟨ml',A',hs'⟩:=hW.set
      refine (Scan_long B b m ml' A' ⟨r.toArray⟩ W hs' (by omega)).mono ?_
      rintro e w' ⟨rfl,rfl⟩
      exact ⟨_,rfl,Rd.nil _ 3,hW⟩
    ·rw [if_neg h4]
     have:=line_scan B b m ml A s ⟨hs,q1,q2,q3,q4⟩ ⟨r.toArray⟩ hc (m.hits r) (Wf.hits_len h.ok (by omega)) (hits_small hsm (by omega) (by omega)) .nilIface 0 (by omega) errV_zero.symm (m.scan r) w h hl hsm fun W hW => by
      obtain ⟨ml',A',hs'⟩:=hW.set
      refine (Scan_ok B b m ml' A' ⟨r.toArray⟩ W hs' (by omega)).mono ?_
      rintro e w' ⟨v,ml2,A2,rfl,ho,hs2,hk⟩
      exact ⟨v,rfl,Rd.of_own ho,hW.next ⟨ml2,A2,hs2⟩ hk⟩
     exact this
   rw [if_neg r3]
   by_cases r4 : wd = [112,117,116]
   ·subst r4
    rw [if_pos rfl]
    cases hc2 : cutAt 32 r with
    | none => exact line_putno B b m ml A s ⟨hs,q1,q2,q3,q4⟩ ⟨r.toArray⟩ hc hc2 w h hl hsm
    | some p =>
      obtain ⟨na,tx⟩:=p
      dsimp only
      cases hn : numS na with
      | none => exact line_putbad B b m ml A s ⟨hs,q1,q2,q3,q4⟩ ⟨r.toArray⟩ hc ⟨na.toArray⟩ ⟨tx.toArray⟩ hc2 hn w h hl hsm
      | some n =>
        dsimp only
        cases hp : m.place (n : Int) with
        | none => exact line_putnone B b m ml A s ⟨hs,q1,q2,q3,q4⟩ ⟨r.toArray⟩ hc ⟨na.toArray⟩ ⟨tx.toArray⟩ hc2 n hn hp w h hl hsm
        | some k =>
          have hk:=place_lt hp
          have hx : m.ms[k]? = some (m.ms[k]'hk):=List.getElem?_eq_getElem hk
          rw [Option.bind_some,hx]
          exact line_put B b m ml A s ⟨hs,q1,q2,q3,q4⟩ ⟨r.toArray⟩ hc ⟨na.toArray⟩ ⟨tx.toArray⟩ hc2 n hn k _ hp hx w h hl hsm
   rw [if_neg r4]
   exact line_other B b m ml A s ⟨hs,q1,q2,q3,q4⟩ ⟨wd.toArray⟩ ⟨r.toArray⟩ hc r1 r2 r3 r4 w h hl hsm
theorem own_wk {B b base n size : Nat} {e : TypeId} {w w' : World} {v : Value} {xs : List Value} (h : w.ownsRow base e size v n xs) (hk : WK B b w w') (he : e ≠ 5) (hb : v.ownBlock ≠ some b) : w'.ownsRow base e size v n xs:=by
 refine ⟨h.1,?_⟩
 rcases h.2 with hn | ⟨g,cap,cur,rfl,hbg,hgg,rest⟩
 ·exact .inl hn
 ·refine .inr ⟨g,cap,cur,rfl,hbg,?_,rest⟩
  exact hk.keep g cur e (fun e => hb (by rw [e];rfl)) he hgg
theorem SetAt.wk {B b C c : Nat} {m : SS} {ml : List Mr} {A : Value} {W W' : World} {t : TypeId} {cs : Array Value} (h : SetAt B b m ml A W) (hk : WK C c W W') (hc : Blk W c t cs) (h1 : b ≠ c) (h2 : t ≠ 97) (h3 : t ≠ 114) : SetAt B b m ml A W' :=
 ⟨h.hB,h.ms,hk.keep _ _ _ h1 (by decide) h.blk,own_wk h.own hk (by decide) (own_not h.own hc h2),fun q hq => ⟨own_wk (h.mem q hq).1 hk (by decide) (own_not (h.mem q hq).1 hc h3),(h.mem q hq).2⟩,h.ok,h.lastb⟩
theorem Bd.sk {B b C c : Nat} {p v : Value} {l : List UInt8} {W W' : World} (h : Bd C c p l v W) (hk : SK B b W W') (hb : b < C) : Bd C c p l v W' :=
 ⟨h.hB,hk.keep _ _ _ (by have:=h.hB;omega) (by decide) h.blk,own_sk h.own hk (by decide) (fun e => by have:=(h.own.lt b e).1;omega),h.ne,h.nil⟩
theorem Bd.new (w : World) (c : Nat) (hc : c = w.heap.size) : Bd c c (.pointer none) [] (.slice none 0 0) (w.alloc (.cells #[.pointer none,.slice none 0 0] 32)):=by
 subst hc
 exact ⟨Nat.le_refl _,Blk.new _ _ _,⟨by simp [Lib.byteCells],.inl ⟨rfl,rfl⟩⟩,by simp [Value.ownBlock],fun _ => rfl⟩
structure RnE (B sb : Nat) (m : SS) (out : List UInt8) (W : World) : Prop where
 set : ∃ ml A,SetAt B B m ml A W
 bd : ∃ p v,Bd (sb + 1) (sb + 1) p out v W ∧ IsP (sb + 1) p
 ses : Blk W sb 28 #[.pointer (some ⟨B,0,none⟩)]
 lib : LibE B W
 lt : B < sb
section
variable {B sb : Nat} {m m' : SS} {out : List UInt8} {W W' : World}
theorem RnE.below (h : RnE B sb m out W) (hb : Below W.heap.size W W') : RnE B sb m out W':=by
 obtain ⟨ml,A,hs⟩:=h.set
 obtain ⟨p,v,hd,hp⟩:=h.bd
 exact ⟨⟨ml,A,hs.below hb⟩,⟨p,v,hd.below hb,hp⟩,h.ses.kept hb,h.lib.next (hb.mono hs.hBw),h.lt⟩
theorem RnE.line (h : RnE B sb m out W) (hs : ∃ ml A,SetAt B B m' ml A W') (hk : SK B B W W') : RnE B sb m' out W':=by
 obtain ⟨p,v,hd,hp⟩:=h.bd
 have:=h.lt
 exact ⟨hs,⟨p,v,Bd.sk hd hk (by omega),hp⟩,hk.keep _ _ _ (by omega) (by decide) h.ses,h.lib.next hk.bel,h.lt⟩
theorem RnE.wrote {out' : List UInt8} {v : Value} (h : RnE B sb m out W) (hd : Bd (sb + 1) (sb + 1) (.pointer (some ⟨sb + 1,0,none⟩)) out' v W') (hk : WK (sb + 1) (sb + 1) W W') : RnE B sb m out' W':=by
 obtain ⟨ml,A,hs⟩:=h.set
 obtain ⟨p,v',hd0,hp⟩:=h.bd
 have:=h.lt
 exact ⟨⟨ml,A,SetAt.wk hs hk hd0.blk (by omega) (by decide) (by decide)⟩,⟨_,_,hd,.inr rfl⟩,hk.keep _ _ _ (by omega) (by decide) h.ses,h.lib.next (hk.bel.mono (by omega)),h.lt⟩
theorem RnE.cell (h : RnE B sb m out W) : W.cell? ⟨sb,0,none⟩ = some (.pointer (some ⟨B,0,none⟩)):=by have:=h.ses.cell 0;simpa using this
end
theorem RnE.write {B sb : Nat} {m : SS} {out : List UInt8} {W : World} (h : RnE B sb m out W) (t : ByteArray) (hl : out.length + t.size ≤ 900000000) :
 Calls Tryz.prog 9 #[.pointer (some ⟨sb + 1,0,none⟩),.string (t ++ ⟨#[10]⟩)] W (fun e w' => e = .returned (.tuple #[.int .i64 ((t ++ (⟨#[10]⟩ : ByteArray)).size : Int),.nilIface]) ∧ RnE B sb m (out ++ (t.data.toList ++ [10])) w' ∧ Below B W w'):=by
 obtain ⟨p,v,hd,hp⟩:=h.bd
 have h10 : (⟨#[10]⟩ : ByteArray).size = 1:=rfl
 have hz : (t ++ (⟨#[10]⟩ : ByteArray)).size = t.size + 1:=by rw [ByteArray.size_append,h10]
 have hdd : (t ++ (⟨#[10]⟩ : ByteArray)).data.toList = t.data.toList ++ [10]:=by rw [data_app]
 have:=bld_str (sb + 1) (sb + 1) (t ++ ⟨#[10]⟩) (by omega) p v out W hd hp (by omega)
 rw [hdd] at this
 refine this.mono fun e w' hh => ?_
 obtain ⟨he,v',hd2,hk⟩:=hh
 exact ⟨he,h.wrote hd2 hk,hk.bel.mono (by have:=h.lt;omega)⟩
theorem small_mono {m : SS} {n k : Nat} (h : m.small n) (hk : n ≤ k) : m.small k:=⟨h.ok,by have:=h.last;omega,h.tried⟩
def strSz : Value → Nat
 | .string s => s.size
 | _ => 0
theorem cut_line (s : ByteArray) (hs : s.size ≤ 3000) (h0 : 0 < s.size) : ∃ (a b : ByteArray) (f : Bool),linesOf s.data.toList = a.data.toList :: linesOf b.data.toList ∧ a.size + b.size ≤ s.size ∧ b.size < s.size ∧
 ∀ W,Calls Tryz.prog 8 #[.string s,.string ⟨#[10]⟩] W (fun e w' => e = .returned (.tuple #[.string a,.string b,.bool f]) ∧ Below W.heap.size W w'):=by
 have hsl : s.data.toList.length = s.size:=by simp
 cases hc : cutAt 10 s.data.toList with
 | none => exact ⟨s,⟨#[]⟩,false,by rw [lines_of_none hc (by intro e;rw [e] at hsl;simp at hsl;omega)];rfl,by show s.size + 0 ≤ _;omega,by show 0 < _;omega,Cut_none s hs hc⟩
 | some p =>
   obtain ⟨a,b⟩:=p
   have hz:=cut_len hc
   have h1 : (⟨a.toArray⟩ : ByteArray).size = a.length:=by simp [ByteArray.size]
   have h2 : (⟨b.toArray⟩ : ByteArray).size = b.length:=by simp [ByteArray.size]
   exact ⟨⟨a.toArray⟩,⟨b.toArray⟩,true,lines_of_cut hc,by omega,by omega,Cut_some s _ _ hs hc⟩
theorem Run_c (s : ByteArray) (hmax : s.size ≤ 9223372036854775807) (w : World) (hl : LibE w.heap.size w) :
 Calls Tryz.prog 5 #[.string s] w (fun e w' => ∃ t : ByteArray,e = .returned (.string t) ∧ t.data.toList = runS s.data.toList ∧ Below w.heap.size w w'):=by
 have hsl : s.data.toList.length = s.size:=by simp
 by_cases h3 : 3000 < s.size
 ·have HR : Hid (runS s.data.toList = tooW):=hid (by unfold runS;rw [if_pos (by omega)])
  have d : decide ((3000 : Int) < (s.size : Int)) = true:=decide_eq_true (by omega)
  clear hl hsl h3
  go_enter Tryz.func5,Tryz.ntmps5
  go_wp2_with fail
  go_ret
  exact ⟨_,rfl,by rw [HR.out];rfl,Below.refl _ _⟩
 ·have HR : Hid (runS s.data.toList = linesS SS.zero (linesOf s.data.toList)):=hid (by unfold runS;rw [if_neg (by omega)])
  have d : decide ((3000 : Int) < (s.size : Int)) = false:=decide_eq_false (by omega)
  have hs3 : s.size ≤ 3000:=by omega
  have HN:=hid (New_set w)
  unfold NewSet at HN
  have HL:=hid hl
  clear hl hsl h3
  go_enter Tryz.func5,Tryz.ntmps5
  go_wp2_with fail
  refine HN.out.mono ?_
  rintro e w1 ⟨rfl,hset,hb1⟩
  have h0 : RnE w.heap.size w1.heap.size SS.zero [] ((w1.alloc (.cells #[.pointer (some ⟨w.heap.size,0,none⟩)] 28)).alloc (.cells #[.pointer none,.slice none 0 0] 32)) :=
   ⟨⟨_,_,(hset.below ((Below.refl _ _).alloc (Nat.le_refl _) _)).below ((Below.refl _ _).alloc (Nat.le_refl _) _)⟩,⟨_,_,Bd.new _ _ (by simp),.inl rfl⟩,(Blk.new w1 _ _).alloc _,HL.out.next (hb1.trans (((Below.refl _ _).alloc hb1.size _).alloc (by have:=hb1.size;simp;omega) _)),hset.lt⟩
  have HB0:=hid (hb1.trans (((Below.refl _ _).alloc hb1.size (.cells #[.pointer (some ⟨w.heap.size,0,none⟩)] 28)).alloc (by have:=hb1.size;simp;omega) (.cells #[.pointer none,.slice none 0 0] 32)))
  have H0:=hid h0
  have hlt:=h0.lt
  clear hset hb1 h0
  go_wp2_with fail
  generalize w1.heap.size = sb at *
  go_loopw [0] (fun v0 wr => ∃ (rest : ByteArray) (m : SS) (out : List UInt8),v0 = .string rest ∧ rest.size ≤ s.size ∧ out.length ≤ 80001 * (s.size - rest.size) ∧ Hid (linesS SS.zero (linesOf s.data.toList) = out ++ linesS m (linesOf rest.data.toList)) ∧ Hid (m.small (s.size - rest.size)) ∧ Hid (RnE w.heap.size sb m out wr) ∧ Hid (Below w.heap.size w wr)) (fun v _ => strSz v)
  case atStart => exact ⟨s,SS.zero,[],rfl,by omega,by simp,hid rfl,hid (by rw [Nat.sub_self];exact SS.small_zero),H0,HB0⟩
  case round =>
   clear H0 HB0
   obtain ⟨rest,m,out,rfl,hrs,hol,HQ,HM,HE,HB⟩:=hrel
   by_cases h0 : rest.size = 0
   ·have hre : rest = ⟨#[]⟩:=ByteArray.ext (Array.eq_empty_of_size_eq_zero h0)
    subst hre
    obtain ⟨p,v,hd,hp⟩:=HE.out.bd
    have HS:=hid (BString_c (sb + 1) (sb + 1) out wr (Bd.is hd hp) (by have:=hd.lt;omega))
    have HFIN : Hid ((⟨out.toArray⟩ : ByteArray).data.toList = runS s.data.toList):=hid (by
     rw [HR.out,HQ.out]
     show out = out ++ linesS m (linesOf [])
     simp [linesOf,linesS])
    clear hd hp h0 HQ
    go_wp2_with fail
    refine HS.out.mono ?_
    rintro e w2 ⟨rfl,hb2⟩
    have HB2:=hid (HB.out.trans (hb2.mono (by omega)))
    clear hb2
    go_wp2_with fail
    go_ret
    exact ⟨_,rfl,HFIN.out,HB2.out⟩
   ·obtain ⟨a,b,f,hlin,hab,hbl,hcut⟩:=cut_line rest (by omega) (by omega)
    have e0 : (rest.toList == []) = false:=eq_lits (fun e => by
     have h1 : rest.data.toList.length = rest.size:=by simp
     rw [e] at h1
     simp at h1
     omega)
    have e1 : rest.toList.isEmpty = false:=by
     cases hq : rest.toList with
     | nil => simp [hq] at e0
     | cons x r => rfl
    have e2 : ¬ rest.toList = []:=by intro e;rw [e] at e1;cases e1
    have HC:=hid hcut
    have hasl : a.data.toList.length = a.size:=by simp
    have HM2 : Hid ((lineS m a.data.toList).2.small (s.size - b.size)):=hid (small_mono (HM.out.line a.data.toList) (by rw [hasl];omega))
    have hlen:=lineS_len HM.out (by omega) a.data.toList
    have HQ2 : Hid (linesS SS.zero (linesOf s.data.toList) = (out ++ ((lineS m a.data.toList).1 ++ [10])) ++ linesS (lineS m a.data.toList).2 (linesOf b.data.toList)):=hid (by
     rw [HQ.out,hlin]
     simp [linesS])
    have HLN : Hid (∀ W,RnE w.heap.size sb m out W → Calls Tryz.prog 10 #[.agg #[.pointer (some ⟨w.heap.size,0,none⟩)],.string a] W (fun e w' => ∃ t : ByteArray,e = .returned (.string t) ∧ t.data.toList = (lineS m a.data.toList).1 ∧ RnE w.heap.size sb (lineS m a.data.toList).2 out w' ∧ Below w.heap.size W w')):=hid fun W hW => by
     obtain ⟨ml,A,hs⟩:=hW.set
     refine (line_c _ _ m ml A a (by omega) W hs hW.lib (small_mono HM.out (by omega))).mono ?_
     rintro e w' ⟨t,ml2,A2,rfl,ht,hs2,hk⟩
     exact ⟨t,rfl,ht,hW.line ⟨ml2,A2,hs2⟩ hk,hk.bel⟩
    have HWR : Hid (∀ (W : World) (t : ByteArray),t.data.toList = (lineS m a.data.toList).1 → RnE w.heap.size sb (lineS m a.data.toList).2 out W → Calls Tryz.prog 9 #[.pointer (some ⟨sb + 1,0,none⟩),.string (t ++ ⟨#[10]⟩)] W (fun e w' => e = .returned (.tuple #[.int .i64 ((t ++ (⟨#[10]⟩ : ByteArray)).size : Int),.nilIface]) ∧ RnE w.heap.size sb (lineS m a.data.toList).2 (out ++ ((lineS m a.data.toList).1 ++ [10])) w' ∧ Below w.heap.size W w')):=hid fun W t ht hW => by
     rw [← ht]
     have htl : t.data.toList.length = t.size:=by simp
     rw [ht] at htl
     exact hW.write t (by
      have : 80001 * (s.size - rest.size) ≤ 80001 * 3000:=Nat.mul_le_mul_left _ (by omega)
      omega)
    have hol2 : (out ++ ((lineS m a.data.toList).1 ++ [10])).length ≤ 80001 * (s.size - b.size):=by
     simp only [List.length_append,List.length_cons,List.length_nil]
     have : 80001 * (s.size - rest.size) + 80001 ≤ 80001 * (s.size - b.size):=by
      rw [show 80001 * (s.size - rest.size) + 80001 = 80001 * (s.size - rest.size + 1) by omega]
      exact Nat.mul_le_mul_left _ (by omega)
     omega
    have HOL:=hid hol2
    have HTZ : Hid (∀ t : ByteArray,t.data.toList = (lineS m a.data.toList).1 → t.size ≤ 80000):=hid fun t ht => by
     have htl : t.data.toList.length = t.size:=by simp
     rw [ht] at htl
     omega
    generalize (lineS m a.data.toList).1 = R at *
    generalize (lineS m a.data.toList).2 = m2 at *
    clear hlin hcut hasl hlen hol hol2 HQ HM
    go_wp2_with fail
    refine (HC.out _).mono ?_
    rintro e w2 ⟨rfl,hb2⟩
    have HE2:=hid (HE.out.below hb2)
    have HB2:=hid (HB.out.trans (hb2.mono HB.out.size))
    have c2:=HE2.out.cell
    clear hb2
    go_wp2_with fail
    refine (HLN.out _ HE2.out).mono ?_
    rintro e w3 ⟨t,rfl,ht,he3,hb3⟩
    have HE3:=hid he3
    have HB3:=hid (HB2.out.trans hb3)
    have HT:=hid ht
    have htz:=HTZ.out t ht
    clear he3 hb3 ht c2
    go_wp2_with fail
    refine (HWR.out _ t HT.out HE3.out).mono ?_
    rintro e w4 ⟨rfl,he4,hb4⟩
    have HE4:=hid he4
    have HB4:=hid (HB3.out.trans hb4)
    clear he4 hb4
    go_wp2_with fail
    go_roundw
    case rel => exact ⟨b,m2,_,rfl,by omega,HOL.out,HQ2,HM2,HE4,HB4⟩
    case measure => simp [strSz];omega
end Go.Proofs.YthhcpbfgoofppaaGreatDoor.setW
