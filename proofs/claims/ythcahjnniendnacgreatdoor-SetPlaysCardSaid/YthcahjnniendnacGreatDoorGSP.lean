/-
  SetK, SetPlaysA, SetPlays.
-/
import Derived.Test.YthcahjnniendnacGreatDoorGAll
import Derived.Test.YthcahjnniendnacGreatDoorGDsD
import Derived.Test.YthcahjnniendnacGreatDoorGLd
import Derived.Test.YthcahjnniendnacGreatDoorGLit
import Derived.Test.YthcahjnniendnacGreatDoorGOp
import Derived.Test.YthcahjnniendnacGreatDoorGSetI
import Derived.BigQuiet
import Derived.Deep.CutBlock
import Derived.Deep.CutRange
import Derived.Deep.DeepCutAuto
import Derived.Test.YthcahjnniendnacGreatDoorTie
import Derived.Test.YthcahjnniendnacGreatDoorCards
set_option linter.unusedVariables false
set_option linter.unusedSimpArgs false
set_option maxRecDepth 100000
set_option maxHeartbeats 16000000
open Go.Lib (hid)
namespace Wf
structure Stp where
 what : Int
 text : ByteArray
 n : Int
def SS.step (m : SS) (x : Stp) : SS :=
 if x.what = 0 ∨ x.what = 1 ∨ x.what = 2 then m.add x.text else if x.what = 3 then m.remove x.n else if x.what = 4 then { m with on:=decide (x.n.tmod 2 = 0) } else m.scan x.text.data.toList
theorem SS.ok.step {m : SS} (h : m.ok) (x : Stp) : (m.step x).ok:=by
 unfold SS.step
 split
 ·exact h.add _
 ·split
  ·exact h.remove _
  ·split
   ·exact h.tried _ _
   ·exact h.scan _
end Wf
namespace Go.Proofs.YthcahjnniendnacGreatDoor.setW
open Go.RowKit Wf
open Go.ChangeShapes Go.WideShapes Go.ChangeAt Go.Deep
set_option linter.unusedVariables false
def stpCells (x : Stp) : List Value:=[.int .i64 x.what,.string x.text,.int .i64 x.n]
def okStp (x : Stp) : Prop:=(Lit.int .i64 x.what).wf = true ∧ x.text.size ≤ maxLen ∧ (Lit.int .i64 x.n).wf = true
theorem cellsOf_stp : Tryz.prog.cellsOf 73 = 3:=by kernel_rfl
abbrev RdT (w : World) (v : Value) (l : List Stp) : Prop:=Rd w 3 v (l.flatMap stpCells)
theorem stps_len (l : List Stp) : (l.flatMap stpCells).length = l.length * 3:=flat_len stpCells 3 (fun _ => rfl) l
theorem stps_get (l : List Stp) : ∀ (k j : Nat) (h : Stp),l[k]? = some h → j < 3 → (l.flatMap stpCells)[k * 3 + j]? = (stpCells h)[j]?:=by
 induction l with
 | nil => intro k j x h;simp at h
 | cons m r ih =>
   intro k j x h hj
   rcases k with _ | k
   ·simp at h
    subst h
    simp only [List.flatMap_cons,Nat.zero_mul,Nat.zero_add]
    rw [List.getElem?_append_left (by simpa [stpCells] using hj)]
   ·simp only [List.flatMap_cons]
    rw [List.getElem?_append_right (by simp [stpCells];omega)]
    have e : (k + 1) * 3 + j - (stpCells m).length = k * 3 + j:=by simp [stpCells];omega
    rw [e]
    exact ih k j x (by simpa using h) hj
theorem stp_open {w : World} {v : Value} {l : List Stp} (h : RdT w v l) : ∃ (A : Option Addr) (cap : Nat),v = .slice A l.length cap ∧ l.length ≤ cap ∧ cap ≤ 9223372036854775807 ∧
 (0 < l.length → ∃ b off,A = some ⟨b,off,none⟩ ∧ b < w.heap.size ∧ ∀ (w' : World),(∀ o,w'.cell? ⟨b,o,none⟩ = w.cell? ⟨b,o,none⟩) → ∀ (k : Nat) (x : Stp),l[k]? = some x → w'.cell? ⟨b,off + k * 3,none⟩ = some (.int .i64 x.what) ∧ w'.cell? ⟨b,off + k * 3 + 1,none⟩ = some (.string x.text) ∧ w'.cell? ⟨b,off + k * 3 + 2,none⟩ = some (.int .i64 x.n)):=by
 obtain ⟨A,n,cap,rfl,h1,h2,h3,h4⟩:=h
 rw [stps_len] at h3
 obtain rfl : n = l.length:=by omega
 refine ⟨A,cap,rfl,h1,h2,fun hn => ?_⟩
 obtain ⟨b,off,rfl,hc⟩:=h4 hn
 have hget : ∀ (k : Nat) (x : Stp),l[k]? = some x → ∀ j u,j < 3 → (stpCells x)[j]? = some u → w.cell? ⟨b,off + (k * 3 + j),none⟩ = some u:=by
  intro k x hk j u hj hu
  exact hc _ _ (by rw [stps_get l k j _ hk hj];exact hu)
 have hlt : b < w.heap.size:=by
  have hl : l[0]? = some (l[0]'hn):=List.getElem?_eq_getElem hn
  exact World.block_lt_of_cell? w _ (hget 0 _ hl 0 _ (by omega) rfl)
 refine ⟨b,off,rfl,hlt,fun w' hw k x hk => ?_⟩
 simp only [hw]
 exact ⟨hget k x hk 0 _ (by omega) rfl,hget k x hk 1 _ (by omega) rfl,hget k x hk 2 _ (by omega) rfl⟩
section
variable {H : Type} {enc : TypeId × Value → H} {w : World} {base : Nat} {spare : Nat → Bool} {held : Bool}
set_option maxRecDepth 10000
theorem open_stp {fuel : Nat} {cs : List Value} {x : DataW H × List MemPlace} (h : DataW.trod enc Tryz.prog w base spare held fuel 73 cs = some x) :
 ∃ s : Stp,okStp s ∧ cs = stpCells s:=by
 obtain ⟨xs,m,_,_,hl,hxl,hg⟩:=DataW.trod_struct Tryz.underlying73 h
 rw [cellsOf_stp] at hl
 obtain ⟨c0,c1,c2,rfl⟩ : ∃ a b c,cs = [a,b,c]:=by
  match cs,hl with
  | [a,b,c],_ => exact ⟨a,b,c,rfl⟩
 have h0:=hg 0 _ rfl
 have h1:=hg 1 _ rfl
 have h2:=hg 2 _ rfl
 have hx0 : xs[0]? = some (xs[0]'(by rw [hxl];decide)):=List.getElem?_eq_getElem _
 have hx1 : xs[1]? = some (xs[1]'(by rw [hxl];decide)):=List.getElem?_eq_getElem _
 have hx2 : xs[2]? = some (xs[2]'(by rw [hxl];decide)):=List.getElem?_eq_getElem _
 rw [hx0] at h0
 rw [hx1] at h1
 rw [hx2] at h2
 obtain ⟨a,e0,_,wa⟩:=DataW.trod_int Tryz.underlying3 h0
 obtain ⟨b,e1,_,wb⟩:=DataW.trod_string Tryz.underlying9 h1
 obtain ⟨c,e2,_,wc⟩:=DataW.trod_int Tryz.underlying3 h2
 simp [cellsOf_int] at e0
 simp [show Tryz.prog.cellsOf 9 = 1 by kernel_rfl] at e1
 simp [cellsOf_int] at e2
 subst e0
 subst e1
 subst e2
 exact ⟨⟨a,b,c⟩,⟨wa,wb,wc⟩,rfl⟩
theorem open_stps {fuel : Nat} {A : Option Addr} {n cap : Nat} {x : DataW H × List MemPlace} (h : DataW.trod enc Tryz.prog w base spare held fuel 44 [.slice A n cap] = some x) :
 ∃ l : List Stp,RdT w (.slice A n cap) l ∧ ∀ s ∈ l,okStp s:=by
 obtain ⟨l,h1,h2,h3⟩:=open_row stpCells okStp 3 (by omega) (fun _ => rfl) Tryz.underlying44 cellsOf_stp (fun {fuel} {cs} {x} hd => open_stp hd) h
 exact ⟨l,h1,h3⟩
end
end Go.Proofs.YthcahjnniendnacGreatDoor.setW
namespace Go.Proofs.YthcahjnniendnacGreatDoor.setPlays
open Go.RowKit Wf setW
open law (own laidOut LawIs)
set_option linter.unusedVariables false
theorem walk {ev : Value} (l : List Stp) (v : Value) (w : World) (hr : setW.RdT w v l) (hok : ∀ x ∈ l,okStp x) (hg : ErrT w) (hev : SynE ev w) :
 Calls Tryz.prog 7 #[v] w (LawIs w):=by
 have HG:=hid hg
 have HEV:=hid hev
 have HER : Hid (∀ (c : Int) W,Below w.heap.size w W → Calls Tryz.prog 11 #[errV c,.int .i64 c] W (fun e w' => e = .returned (.bool true) ∧ Below W.heap.size W w')):=hid fun c W hW => (SErr_any c c W (hg.below hW)).mono fun e w' hh => by
  obtain ⟨r,h1,h2,h3⟩:=hh
  rw [h2.2 rfl] at h1
  exact ⟨h1,h3⟩
 have HE0 : Hid (∀ W,Below w.heap.size w W → Calls Tryz.prog 11 #[.nilIface,.int .i64 0] W (fun e w' => e = .returned (.bool true) ∧ Below W.heap.size W w')):=hid fun W hW => HER.out 0 W hW
 have HE3 : Hid (∀ W,Below w.heap.size w W → Calls Tryz.prog 11 #[.iface 23 (.int .i64 3),.int .i64 3] W (fun e w' => e = .returned (.bool true) ∧ Below W.heap.size W w')):=hid fun W hW => HER.out 3 W hW
 have HHS : Hid (∀ (S : List (Nat × Nat × Nat)) va vb W,Rd W 3 va (S.flatMap hitCells) → Rd W 3 vb (S.flatMap hitCells) → Calls Tryz.prog 24 #[va,vb] W (fun e w' => e = .returned (.bool true) ∧ Below W.heap.size W w')):=hid fun S va vb W h1 h2 => (Hits_any S S va vb W h1 h2).mono fun e w' hh => by
  obtain ⟨r,g1,g2,g3⟩:=hh
  rw [g2.2 rfl] at g1
  exact ⟨g1,g3⟩
 obtain ⟨Ao,cap,rfl,hc1,hc2,hmem⟩:=stp_open hr
 have HM:=hid hmem
 have HOK:=hid hok
 clear hmem hr hok hg hev
 unfold LawIs
 go_enter Tryz.func7,Tryz.ntmps7
 go_wp2_with fail
 refine (New_set w).mono ?_
 rintro e w1 ⟨rfl,hs1,hb1⟩
 have hlt1:=hs1.lt
 have hbA : Below w1.heap.size w1 (w1.alloc (.cells #[.slice none 0 0,.slice none 0 0,.int .i64 0,.bool false,.int .i64 0] 71)):=(Below.refl _ _).alloc (Nat.le_refl _) _
 have HS0:=hid (hs1.below hbA)
 have HB0:=hid (hb1.trans (hbA.mono hb1.size))
 have HD0 : Hid (DAt w.heap.size w1.heap.size SS.zero (.slice none 0 0) (.slice none 0 0) [] (w1.alloc (.cells #[.slice none 0 0,.slice none 0 0,.int .i64 0,.bool false,.int .i64 0] 71))):=hid ⟨by omega,Blk.new _ _ _,⟨by simp [SS.zero],.inl ⟨rfl,rfl⟩⟩,⟨by simp [SS.zero],.inl ⟨rfl,rfl⟩⟩,by simpa [SS.zero] using RowsAt.nil _ _,SS.ok_zero,by decide⟩
 clear hs1 hb1 hbA
 go_wp2_with fail
 obtain ⟨b2,hb2⟩ : ∃ b2,b2 = w1.heap.size:=⟨_,rfl⟩
 rw [← hb2] at HD0 hlt1 ⊢
 clear hb2
 go_loopw [5] (fun v5 wx => ∃ (k : Nat) (m : SS) (ml : List Mr) (A AI AP : Value) (vs : List Value),k ≤ l.length ∧ k ≤ 30 ∧ v5 = .int .i64 (k : Int) ∧ m.last ≤ k ∧ Hid (SetAt w.heap.size w.heap.size m ml A wx) ∧ Hid (DAt w.heap.size b2 m AI AP vs wx) ∧ Hid (Below w.heap.size w wx)) (fun v _ => 30 - (intOf v).toNat)
 case atStart => exact ⟨0,SS.zero,[],_,_,_,[],by omega,by omega,by go_num,by simp [SS.zero],HS0,HD0,HB0⟩
 case round =>
  clear HS0 HD0 HB0
  obtain ⟨k,m,ml,A,AI,AP,vs,hk,hk30,rfl,hml,HS,HD,HB⟩:=hrel
  by_cases hlk : k < l.length
  ·by_cases h30 : k < 30
   ·obtain ⟨g,off,rfl,hg,hcs⟩:=HM.out (by omega)
    have hget : l[k]? = some (l[k]'hlk):=List.getElem?_eq_getElem hlk
    generalize l[k]'hlk = q at hget
    obtain ⟨m0,m1,m2⟩:=hcs wr (fun o => HB.out.cell (p:=⟨g,o,none⟩) hg) k q hget
    have hwf:=HOK.out q (List.mem_of_getElem? hget)
    obtain ⟨what,text,nn⟩:=q
    obtain ⟨hw1,htx,hw2⟩:=hwf
    dsimp only at m0 m1 m2 hw1 hw2 htx
    have k0 : (0 : Int) ≤ (k : Int):=by omega
    have k1 : (k : Int) < (l.length : Int):=by omega
    have k2 : decide ((k : Int) < (l.length : Int)) = true:=by simp;omega
    have k3 : decide ((k : Int) < 30) = true:=by simp;omega
    have hbx:=(Below.refl wr.heap.size wr).alloc (Nat.le_refl _) (.cells #[.int .i64 what,.string text,.int .i64 nn] 73)
    have HSx:=hid (HS.out.below hbx)
    have HDx:=hid (HD.out.below hbx)
    have HBx:=hid (HB.out.trans (hbx.mono HB.out.size))
    have HXB:=hid (Blk.new wr 73 #[.int .i64 what,.string text,.int .i64 nn])
    have hb2w:=HD.out.lt
    have hww:=HB.out.size
    clear hget hcs hbx
    go_upto_block 2 with fail
    go_cut [7,8,9,10,11,12,13,14,15,16,17,18,19,20] from 25 to 154 (fun v7 v8 v9 v10 v11 v12 v13 v14 v15 v16 v17 v18 v19 v20 wx => v7 = .bool true ∧ v8 = .bool true ∧ ∃ (mE : SS) (mlE : List Mr) (AE AIE APE : Value) (vsE : List Value),mE.last ≤ k + 1 ∧ Hid (SetAt w.heap.size w.heap.size mE mlE AE wx) ∧ Hid (DAt w.heap.size b2 mE AIE APE vsE wx) ∧ Hid (Below w.heap.size w wx))
    case first =>
     by_cases e0 : what = 0
     ·subst e0
      have HC1:=hid (RAdd_c w.heap.size b2 m AI AP vs text _ HDx.out htx (by omega))
      unfold DTo raddV at HC1
      go_wp2_with fail
      refine (HC1.out).mono ?_
      rintro e w3 ⟨rfl,AI3,AP3,vs3,h3⟩
      have hk3:=h3.2
      have HD3:=hid h3.1
      have HS3:=hid (SetAt.dk HSx.out hk3 HDx.out.blk)
      have HB3:=hid (HBx.out.trans hk3.bel)
      have hx3:=hk3.keep _ _ _ (show wr.heap.size ≠ b2 by omega) (by decide) (by decide) HXB.out
      have x1 : w3.cell? ⟨wr.heap.size,1,none⟩ = some (.string text):=hx3.cell 1
      have x2 : w3.cell? ⟨wr.heap.size,2,none⟩ = some (.int .i64 nn):=hx3.cell 2
      have HEV3:=hid (HEV.out.below HB3.out)
      clear h3 hk3 hx3
      have HC2:=hid (Add_set w.heap.size w.heap.size m ml A text w3 HS3.out HEV3.out (by omega))
      unfold SetTo addV at HC2
      obtain ⟨⟨a1,a2,a3⟩,hR⟩ : ∃ R,R = m.added text:=⟨_,rfl⟩
      rw [← hR] at HC2 ⊢
      dsimp only at HC2 ⊢
      clear hR
      go_wp2_with fail
      refine (HC2.out).mono ?_
      rintro e w4 ⟨rfl,ml4,A4,h4⟩
      have HS4:=hid h4.1
      have HD4:=hid (DAt.sk HD3.out h4.2 HS3.out.blk)
      have HB4:=hid (HB3.out.trans h4.2.bel)
      clear h4
      go_wp2_with fail
      refine (HER.out a3 _ HB4.out).mono ?_
      rintro e w5 ⟨rfl,hbe⟩
      have HS5:=hid (HS4.out.below hbe)
      have HD5:=hid (HD4.out.below hbe)
      have HB5:=hid (HB4.out.trans (hbe.mono HB4.out.size))
      clear hbe
      go_wp2_with fail
      go_meet
      exact ⟨rfl,rfl,m.add text,_,_,_,_,vs3,by (have:=m.last_add text;omega),HS5,HD5,HB5⟩
     ·by_cases e1 : what = 1
      ·subst e1
       clear e0
       have HC1:=hid (RAdd_c w.heap.size b2 m AI AP vs text _ HDx.out htx (by omega))
       unfold DTo raddV at HC1
       go_wp2_with fail
       refine (HC1.out).mono ?_
       rintro e w3 ⟨rfl,AI3,AP3,vs3,h3⟩
       have hk3:=h3.2
       have HD3:=hid h3.1
       have HS3:=hid (SetAt.dk HSx.out hk3 HDx.out.blk)
       have HB3:=hid (HBx.out.trans hk3.bel)
       have hx3:=hk3.keep _ _ _ (show wr.heap.size ≠ b2 by omega) (by decide) (by decide) HXB.out
       have x1 : w3.cell? ⟨wr.heap.size,1,none⟩ = some (.string text):=hx3.cell 1
       have x2 : w3.cell? ⟨wr.heap.size,2,none⟩ = some (.int .i64 nn):=hx3.cell 2
       have HEV3:=hid (HEV.out.below HB3.out)
       clear h3 hk3 hx3
       have HC2:=hid (Add_set w.heap.size w.heap.size m ml A text w3 HS3.out HEV3.out (by omega))
       unfold SetTo addV at HC2
       obtain ⟨⟨a1,a2,a3⟩,hR⟩ : ∃ R,R = m.added text:=⟨_,rfl⟩
       rw [← hR] at HC2 ⊢
       dsimp only at HC2 ⊢
       clear hR
       go_wp2_with fail
       refine (HC2.out).mono ?_
       rintro e w4 ⟨rfl,ml4,A4,h4⟩
       have HS4:=hid h4.1
       have HD4:=hid (DAt.sk HD3.out h4.2 HS3.out.blk)
       have HB4:=hid (HB3.out.trans h4.2.bel)
       clear h4
       go_wp2_with fail
       refine (HER.out a3 _ HB4.out).mono ?_
       rintro e w5 ⟨rfl,hbe⟩
       have HS5:=hid (HS4.out.below hbe)
       have HD5:=hid (HD4.out.below hbe)
       have HB5:=hid (HB4.out.trans (hbe.mono HB4.out.size))
       clear hbe
       go_wp2_with fail
       go_meet
       exact ⟨rfl,rfl,m.add text,_,_,_,_,vs3,by (have:=m.last_add text;omega),HS5,HD5,HB5⟩
      ·by_cases e2 : what = 2
       ·subst e2
        clear e0 e1
        have HC1:=hid (RAdd_c w.heap.size b2 m AI AP vs text _ HDx.out htx (by omega))
        unfold DTo raddV at HC1
        go_wp2_with fail
        refine (HC1.out).mono ?_
        rintro e w3 ⟨rfl,AI3,AP3,vs3,h3⟩
        have hk3:=h3.2
        have HD3:=hid h3.1
        have HS3:=hid (SetAt.dk HSx.out hk3 HDx.out.blk)
        have HB3:=hid (HBx.out.trans hk3.bel)
        have hx3:=hk3.keep _ _ _ (show wr.heap.size ≠ b2 by omega) (by decide) (by decide) HXB.out
        have x1 : w3.cell? ⟨wr.heap.size,1,none⟩ = some (.string text):=hx3.cell 1
        have x2 : w3.cell? ⟨wr.heap.size,2,none⟩ = some (.int .i64 nn):=hx3.cell 2
        have HEV3:=hid (HEV.out.below HB3.out)
        clear h3 hk3 hx3
        have HC2:=hid (Add_set w.heap.size w.heap.size m ml A text w3 HS3.out HEV3.out (by omega))
        unfold SetTo addV at HC2
        obtain ⟨⟨a1,a2,a3⟩,hR⟩ : ∃ R,R = m.added text:=⟨_,rfl⟩
        rw [← hR] at HC2 ⊢
        dsimp only at HC2 ⊢
        clear hR
        go_wp2_with fail
        refine (HC2.out).mono ?_
        rintro e w4 ⟨rfl,ml4,A4,h4⟩
        have HS4:=hid h4.1
        have HD4:=hid (DAt.sk HD3.out h4.2 HS3.out.blk)
        have HB4:=hid (HB3.out.trans h4.2.bel)
        clear h4
        go_wp2_with fail
        refine (HER.out a3 _ HB4.out).mono ?_
        rintro e w5 ⟨rfl,hbe⟩
        have HS5:=hid (HS4.out.below hbe)
        have HD5:=hid (HD4.out.below hbe)
        have HB5:=hid (HB4.out.trans (hbe.mono HB4.out.size))
        clear hbe
        go_wp2_with fail
        go_meet
        exact ⟨rfl,rfl,m.add text,_,_,_,_,vs3,by (have:=m.last_add text;omega),HS5,HD5,HB5⟩
       ·by_cases e3 : what = 3
        ·subst e3
         clear e0 e1 e2
         have HC1:=hid (RRemove_c w.heap.size b2 m AI AP vs nn _ HDx.out)
         unfold DTo at HC1
         go_wp2_with fail
         refine (HC1.out).mono ?_
         rintro e w3 ⟨rfl,AI3,AP3,vs3,h3⟩
         have hk3:=h3.2
         have HD3:=hid h3.1
         have HS3:=hid (SetAt.dk HSx.out hk3 HDx.out.blk)
         have HB3:=hid (HBx.out.trans hk3.bel)
         have hx3:=hk3.keep _ _ _ (show wr.heap.size ≠ b2 by omega) (by decide) (by decide) HXB.out
         have x1 : w3.cell? ⟨wr.heap.size,1,none⟩ = some (.string text):=hx3.cell 1
         have x2 : w3.cell? ⟨wr.heap.size,2,none⟩ = some (.int .i64 nn):=hx3.cell 2
         have HEV3:=hid (HEV.out.below HB3.out)
         clear h3 hk3 hx3
         have HC2:=hid (Remove_set w.heap.size w.heap.size m ml A nn w3 HS3.out)
         unfold SetTo at HC2
         obtain ⟨a3,hR⟩ : ∃ R,R = m.removed nn:=⟨_,rfl⟩
         rw [← hR] at HC2 ⊢
         clear hR
         go_wp2_with fail
         refine (HC2.out).mono ?_
         rintro e w4 ⟨rfl,ml4,A4,h4⟩
         have HS4:=hid h4.1
         have HD4:=hid (DAt.sk HD3.out h4.2 HS3.out.blk)
         have HB4:=hid (HB3.out.trans h4.2.bel)
         clear h4
         go_wp2_with fail
         refine (HER.out a3 _ HB4.out).mono ?_
         rintro e w5 ⟨rfl,hbe⟩
         have HS5:=hid (HS4.out.below hbe)
         have HD5:=hid (HD4.out.below hbe)
         have HB5:=hid (HB4.out.trans (hbe.mono HB4.out.size))
         clear hbe
         go_wp2_with fail
         go_meet
         exact ⟨rfl,rfl,m.remove nn,_,_,_,_,vs3,by (rw [m.last_remove];omega),HS5,HD5,HB5⟩
        ·by_cases e4 : what = 4
         ·subst e4
          clear e0 e1 e2 e3
          obtain ⟨on,hon⟩ : ∃ on : Bool,on = (nn.tmod 2 == 0):=⟨_,rfl⟩
          have HON:=hid hon
          clear hon
          have HF : Hid (∀ W,SetAt w.heap.size w.heap.size m ml A W → Calls Tryz.prog 22 #[.pointer (some ⟨w.heap.size,0,none⟩),.bool on] W (SetIs (.tuple #[]) w.heap.size w.heap.size { m with on:=on } W)):=hid fun W hW => Filter_set w.heap.size w.heap.size m ml A _ W hW
          unfold SetIs at HF
          have o3' : wr.cell? ⟨b2,3,none⟩ = some (.bool m.on):=HD.out.blk.cell 3
          have z3' : wr.frozen? ⟨b2,3,none⟩ = false:=HD.out.blk.frozen 3
          have hbS : Below (wr.setCell ⟨b2,3,none⟩ (.bool on)).heap.size (wr.setCell ⟨b2,3,none⟩ (.bool on)) ((wr.setCell ⟨b2,3,none⟩ (.bool on)).alloc (.cells #[.int .i64 4,.string text,.int .i64 nn] 73)):=(Below.refl _ _).alloc (Nat.le_refl _) _
          have HD3:=hid ((HD.out.put { m with on:=on } rfl ⟨HD.out.ok.len,HD.out.ok.up,HD.out.ok.pos,HD.out.ok.read⟩ HD.out.lastb 3 (.bool on) (by simp)).below hbS)
          have HS3:=hid ((SetAt.dk HS.out (DK.set HD.out.hB wr 3 (.bool on)) HD.out.blk).below hbS)
          have HB3:=hid ((HB.out.trans (DK.set HD.out.hB wr 3 (.bool on)).bel).trans (hbS.mono (by simpa using HB.out.size)))
          clear hbS
          go_wp2_with fail
          rw [← HON.out]
          refine (HF.out _ HS3.out).mono ?_
          rintro e w4 ⟨rfl,ml4,A4,h4⟩
          have HS4:=hid h4.1
          have HD4:=hid (DAt.sk HD3.out h4.2 HS3.out.blk)
          have HB4:=hid (HB3.out.trans h4.2.bel)
          clear h4 o3' z3'
          go_wp2_with fail
          go_meet
          exact ⟨rfl,rfl,{ m with on:=on },_,_,_,_,vs,by (show m.last ≤ k + 1;omega),HS4,HD4,HB4⟩
         ·have f0 : (what == (0 : Int)) = false:=by rw [beq_eq_false_iff_ne];exact e0
          have f1 : (what == (1 : Int)) = false:=by rw [beq_eq_false_iff_ne];exact e1
          have f2 : (what == (2 : Int)) = false:=by rw [beq_eq_false_iff_ne];exact e2
          have f3 : (what == (3 : Int)) = false:=by rw [beq_eq_false_iff_ne];exact e3
          have f4 : (what == (4 : Int)) = false:=by rw [beq_eq_false_iff_ne];exact e4
          clear e0 e1 e2 e3 e4
          by_cases hsz : text.size ≤ 400
          ·have HC1:=hid (RScan_c w.heap.size b2 m AI AP vs text _ HDx.out hsz)
           unfold RScanIs at HC1
           have t4 : wr.cell? ⟨b2,4,none⟩ = some (.int .i64 (m.tried : Int)):=HD.out.blk.cell 4
           go_wp2_with fail
           refine (HC1.out).mono ?_
           rintro e w3 ⟨HA,hc,rfl,hho,h3⟩
           have hk3:=h3.2
           have HD3:=hid h3.1
           have HS3:=hid (SetAt.dk HSx.out hk3 HDx.out.blk)
           have HB3:=hid (HBx.out.trans hk3.bel)
           have hx3:=hk3.keep _ _ _ (show wr.heap.size ≠ b2 by omega) (by decide) (by decide) HXB.out
           have x1 : w3.cell? ⟨wr.heap.size,1,none⟩ = some (.string text):=hx3.cell 1
           have x2 : w3.cell? ⟨wr.heap.size,2,none⟩ = some (.int .i64 nn):=hx3.cell 2
           have HEV3:=hid (HEV.out.below HB3.out)
           have HHO:=hid hho
           clear h3 hk3 hx3 hho t4
           have HC2:=hid (Scan_ok w.heap.size w.heap.size m ml A text w3 HS3.out hsz)
           unfold ScanIs at HC2
           go_wp2_with fail
           refine (HC2.out).mono ?_
           rintro e w4 ⟨v4,ml4,A4,rfl,hh4,h4⟩
           have HS4:=hid h4.1
           have HD4:=hid (DAt.sk HD3.out h4.2 HS3.out.blk)
           have HB4:=hid (HB3.out.trans h4.2.bel)
           have HH3:=hid (Rd.of_own (own_sk HHO.out h4.2 (by decide) (own_not HHO.out HS3.out.blk (by decide))))
           have HH4:=hid (Rd.of_own hh4)
           obtain ⟨A5,c5,rfl⟩:=hits_form hh4
           clear h4 hh4 HHO
           go_wp2_with fail
           refine (HE0.out _ HB4.out).mono ?_
           rintro e w5 ⟨rfl,hbe⟩
           have HS5:=hid (HS4.out.below hbe)
           have HD5:=hid (HD4.out.below hbe)
           have HB5:=hid (HB4.out.trans (hbe.mono HB4.out.size))
           have HH5:=hid (HH3.out.below hbe)
           have HH6:=hid (HH4.out.below hbe)
           clear hbe
           go_wp2_with fail
           refine (HHS.out _ _ _ w5 HH6.out HH5.out).mono ?_
           rintro e w6 ⟨rfl,hbe⟩
           have HS6:=hid (HS5.out.below hbe)
           have HD6:=hid (HD5.out.below hbe)
           have HB6:=hid (HB5.out.trans (hbe.mono HB5.out.size))
           clear hbe
           go_wp2_with fail
           go_meet
           exact ⟨rfl,rfl,m.scan text.data.toList,_,_,_,_,vs,by (rw [m.last_scan];omega),HS6,HD6,HB6⟩
          ·have HC1:=hid (RScan_long b2 text (wr.alloc (.cells #[.int .i64 what,.string text,.int .i64 nn] 73)) (by omega))
           have HC2 : Hid (∀ W,SetAt w.heap.size w.heap.size m ml A W → Calls Tryz.prog 18 #[.pointer (some ⟨w.heap.size,0,none⟩),.string text] W (fun e w' => e = .returned (.tuple #[.slice none 0 0,errV 3]) ∧ W = w')):=hid fun W hW => Scan_long w.heap.size w.heap.size m ml A text W hW (by omega)
           have t4 : wr.cell? ⟨b2,4,none⟩ = some (.int .i64 (m.tried : Int)):=HD.out.blk.cell 4
           have z4 : wr.frozen? ⟨b2,4,none⟩ = false:=HD.out.blk.frozen 4
           have hbS : Below (wr.setCell ⟨b2,4,none⟩ (.int .i64 (m.tried : Int))).heap.size (wr.setCell ⟨b2,4,none⟩ (.int .i64 (m.tried : Int))) ((wr.setCell ⟨b2,4,none⟩ (.int .i64 (m.tried : Int))).alloc (.cells #[.int .i64 what,.string text,.int .i64 nn] 73)):=(Below.refl _ _).alloc (Nat.le_refl _) _
           have HD3:=hid ((HD.out.put m rfl ⟨HD.out.ok.len,HD.out.ok.up,HD.out.ok.pos,HD.out.ok.read⟩ HD.out.lastb 4 (.int .i64 (m.tried : Int)) (by simp)).below hbS)
           have HS3:=hid ((SetAt.dk HS.out (DK.set HD.out.hB wr 4 (.int .i64 (m.tried : Int))) HD.out.blk).below hbS)
           have HB3:=hid ((HB.out.trans (DK.set HD.out.hB wr 4 (.int .i64 (m.tried : Int))).bel).trans (hbS.mono (by simpa using HB.out.size)))
           clear hbS
           have HHN : Hid (∀ W,Calls Tryz.prog 24 #[.slice none 0 0,.slice none 0 0] W (fun e w' => e = .returned (.bool true) ∧ Below W.heap.size W w')):=hid fun W => HHS.out [] _ _ W (Rd.nil _ 3) (Rd.nil _ 3)
           have hx1 : (wr.alloc (.cells #[.int .i64 what,.string text,.int .i64 nn] 73)).cell? ⟨wr.heap.size,1,none⟩ = some (.string text):=HXB.out.cell 1
           go_wp2_with fail
           refine (HC1.out).mono ?_
           rintro e w3 ⟨rfl,hw3⟩
           subst hw3
           go_wp2_with fail
           refine (HC2.out _ HS3.out).mono ?_
           rintro e w4 ⟨rfl,hw4⟩
           subst hw4
           rw [errV_ne (by decide : (3 : Int) ≠ 0)]
           go_wp2_with fail
           refine (HE3.out _ HB3.out).mono ?_
           rintro e w5 ⟨rfl,hbe⟩
           have HS5:=hid (HS3.out.below hbe)
           have HD5:=hid (HD3.out.below hbe)
           have HB5:=hid (HB3.out.trans (hbe.mono HB3.out.size))
           clear hbe
           go_wp2_with fail
           refine (HHN.out w5).mono ?_
           rintro e w6 ⟨rfl,hbe⟩
           have HS6:=hid (HS5.out.below hbe)
           have HD6:=hid (HD5.out.below hbe)
           have HB6:=hid (HB5.out.trans (hbe.mono HB5.out.size))
           clear hbe t4 z4 hx1
           go_wp2_with fail
           go_meet
           exact ⟨rfl,rfl,m,_,_,_,_,vs,by omega,HS6,HD6,HB6⟩
    case rest =>
     rename World => wE
     obtain ⟨rfl,rfl,mE,mlE,AE,AIE,APE,vsE,hlE,HSE,HDE,HBE⟩:=hcut
     clear HS HD HB HSx HDx HBx HXB m0 m1 m2
     have HTR : Hid (∀ W,Below wE.heap.size wE W → Calls Tryz.prog 23 #[.pointer (some ⟨w.heap.size,0,none⟩)] W (fun e w' => e = .returned (.int .i64 (mE.tried : Int)) ∧ W = w')):=hid fun W hW => Tried_set w.heap.size w.heap.size mE _ _ W (HSE.out.below hW)
     have HLI : Hid (∀ W,Below wE.heap.size wE W → Calls Tryz.prog 20 #[.pointer (some ⟨w.heap.size,0,none⟩)] W (ItemsAre mE W)):=hid fun W hW => List_set w.heap.size w.heap.size mE _ _ W (HSE.out.below hW)
     have HIT : Hid (∀ W va vb,Rd W 2 va (mE.ms.flatMap itCells) → Rd W 2 vb (mE.ms.flatMap itCells) → Calls Tryz.prog 29 #[va,vb] W (fun e w' => e = .returned (.bool true) ∧ Below W.heap.size W w')):=hid fun W va vb h1 h2 => Items_same mE.ms va vb W h1 h2
     obtain ⟨A1,k1,A2,k2,rfl,rfl⟩:=HDE.out.form
     have HDD : Hid (∀ W,Below wE.heap.size wE W → W.cell? ⟨b2,0,none⟩ = some (.slice A1 mE.ms.length k1) ∧ W.cell? ⟨b2,4,none⟩ = some (.int .i64 (mE.tried : Int)) ∧ Rd W 2 (.slice A1 mE.ms.length k1) (mE.ms.flatMap itCells)):=hid fun W hW => ⟨(HDE.out.below hW).blk.cell 0,(HDE.out.below hW).blk.cell 4,Rd.of_own (HDE.out.below hW).its⟩
     obtain ⟨d0,_,_⟩:=HDD.out wE (Below.refl _ _)
     have HXE : Hid (∀ W,Below wE.heap.size wE W → Below w.heap.size w W):=hid fun W hW => HBE.out.trans (hW.mono HBE.out.size)
     unfold ItemsAre at HLI
     go_wp2_with fail
     go_region_with (first
      | (go_at_call 20;refine (HLI.out _ ((Below.refl _ _).drew)).mono ?_;rintro e wL ⟨vL,rfl,ho,hb⟩;obtain ⟨LA,lc,rfl⟩:=items_form ho;have hbE : Below wE.heap.size wE wL:=((Below.refl wE.heap.size wE).drew).trans hb;have HLO:=hid (Rd.of_own ho);have HBL:=hid hbE;obtain ⟨l0,l4,lr⟩:=HDD.out wL hbE;have HLR:=hid lr;clear ho hb hbE lr)
      | (go_at_call 29;refine (HIT.out wL _ _ HLO.out HLR.out).mono ?_;rintro e wM ⟨rfl,hbM⟩;have HBM:=hid (HBL.out.trans (hbM.mono HBL.out.size));clear hbM))
     all_goals (
      obtain ⟨n0,n4,mr⟩:=HDD.out wM HBM.out
      clear mr
      go_wp2_with fail
      go_quiet (first | (go_at_call 23;refine (HTR.out _ (below_drewN HBM.out _)).mono ?_;rintro e w1' ⟨rfl,rfl⟩;exact ⟨rfl,_,rfl⟩))
      go_wp2_with fail
      go_roundw
      case rel => exact ⟨k + 1,mE,_,_,_,_,vsE,by omega,by omega,by go_num,by omega,hid (HSE.out.below (below_drewN HBM.out _)),hid (HDE.out.below (below_drewN HBM.out _)),hid (HXE.out _ (below_drewN HBM.out _))⟩
      case measure => simp [intOf];omega)
   ·have k2 : decide ((k : Int) < (l.length : Int)) = true:=by simp;omega
    have k3 : decide ((k : Int) < 30) = false:=by simp;omega
    go_wp2_with fail
    go_ret
    exact ⟨rfl,HB.out⟩
  ·have k2 : decide ((k : Int) < (l.length : Int)) = false:=by simp;omega
   go_wp2_with fail
   go_ret
   exact ⟨rfl,HB.out⟩
end Go.Proofs.YthcahjnniendnacGreatDoor.setPlays
namespace Go.Proofs.YthcahjnniendnacGreatDoor.setPlays
open Go.ChangeShapes Go.WideShapes Go.ChangeAt Go.RowKit Wf
open Go.ChangeMaps (open_string shut_string)
open law (own laidOut LawIs)
open lawS (laidL laidWorld laidWorld_met handle_of_laid syn_of_laid)
set_option linter.unusedVariables false
theorem lifted (os : Os) (started : os.Started) (H : Type) (enc : TypeId × Value → H) :
 ReturnsInHanded {} Tryz.checked os 7 .any (fun w args => (Rows.setPlaysSpec.pre enc Tryz.prog Tryz.f7 [] false w args ∧ laidMetH Tryz.prog laidL w) ∧ sizedMet enc Tryz.prog Tryz.f7 (OpenSpec.ofChange Rows.setPlaysSpec) false w args)
  (Rows.setPlaysSpec.post enc Tryz.prog Tryz.f7 false true false false):=by
 refine returnsInHanded_of_change_and (C:=Tryz.checked) (X:=fun w _ => laidMetH Tryz.prog laidL w) (fun _ _ _ hh h => h.of_heap hh) own started (by kernel_rfl) Tryz.func7
  (ChangeSpec.witness_at (enc:=enc) (C:=Tryz.checked) (os:=os) (X:=fun w _ => laidMetH Tryz.prog laidL w) false (laidWorld os) #[.slice none 0 0] 8 rfl (by kernel_rfl) (by kernel_rfl) (by kernel_rfl) (by kernel_rfl) (by kernel_rfl) (laidWorld_met os _)) ?_
 intro W base args ds gs before hval0 hW hcnd _ hL _
 have hval : ∀ (j : Nat) t v,Tryz.f7.params[j]? = some t → args[j]? = some v → Value.okWide Tryz.prog W .any base t v:=hval0
 have hW':=hW
 obtain ⟨p,q,hA0,hV,rfl,hfz,hnd⟩:=hW
 have hA : DataW.TrodAll enc Tryz.prog W 0 (fun _ => true) true Tryz.f7.params.toList args.toList ds p:=hA0
 rw [Tryz.params7] at hA hval
 obtain ⟨v0,vs0,d0,ds0,p0,q0,hargs,rfl,rfl,h0,r0⟩:=trodAll_cons hA
 obtain ⟨rfl,rfl,rfl⟩:=trodAll_nil r0
 obtain rfl : args = #[v0]:=by cases args;simp_all
 obtain ⟨rfl,rfl⟩:=trodVars_none hV
 have hg:=handle_of_laid hL
 obtain ⟨ev,hev⟩:=syn_of_laid hL
 obtain ⟨a0,len0,cap0,rfl⟩:=okWide_slice Tryz.underlying44 (hval 0 44 v0 rfl rfl)
 have k0:=h0
 have lt0 : ∀ x ∈ p0,x.block < W.heap.size:=by obtain ⟨m,hm⟩:=k0;exact DataW.trod_lt m _ _ _ hm
 obtain ⟨z0,w0,ok0⟩ : ∃ l,setW.RdT W (.slice a0 len0 cap0) l ∧ ∀ nd ∈ l,setW.okStp nd:=by obtain ⟨fuel,hf⟩:=h0;exact setW.open_stps (by simpa [Value.cells] using hf)
 clear hA0 hval0
 refine (walk z0 _ W w0 ok0 hg hev).mono fun e W' ⟨he,bel⟩ => ?_
 subst he
 exact ⟨_,rfl,_,_,_,[],_,[],hW',trodAll_mk1 (shut_bool Tryz.underlying4 _),(trodAll_cons_mk (Below.trod laidOut (by kernel_rfl) (of_decide_eq_true (by kernel_rfl)) k0 bel lt0) trodAll_mk0),rfl,bel.frame _,fun h => by cases h⟩
theorem over : Rows.setPlaysRow.holds Tryz.pinned (OpenSpec.ofChange Rows.setPlaysSpec) :=
 OpenClaim.holds_of_wide 7 Tryz.f7 rfl rfl rfl rfl rfl rfl rfl ⟨rfl,rfl,rfl,rfl,rfl⟩ rfl rfl rfl rfl rfl (by kernel_rfl) Tryz.func7 (by kernel_rfl)
  (of_decide_eq_true (by kernel_rfl)) (by unfold Func.isWrapper;first | (rw [if_pos (by decide +kernel)];kernel_rfl) | (rw [if_neg (by decide +kernel)];exact ⟨rfl,rfl⟩))
  (fun os started H enc _ => lifted os started H enc)
theorem proved : Rows.SetPlaysCardSaid :=
 Claim7.holds_tied_plain_at .later [] [.data, .data, .data, .handle, .sentinel, .sentinel] true (true, "651e00b2deefa1991a41a8c2797c43b85c0bc0588a6a2a0a6da6037fac751392") true
  over (fun _ h => by cases h) (by kernel_rfl) (fun _ h => by cases h) setPlays_row_tie rfl ⟨rfl,rfl⟩ (by kernel_rfl) rfl
  (fun f fn hf hfn => by
    obtain rfl : f = 7 := Option.some.inj ((show Tryz.prog.funcNamed "winnowfan/winnowfanlaw3.SetPlays" = some 7 by kernel_rfl).symm.trans hf) |>.symm
    obtain rfl : fn = Tryz.f7:=(Option.some.inj (Tryz.func7.symm.trans hfn)).symm
    exact ⟨by kernel_rfl,fun j t ht => by
     rw [Tryz.params7] at ht
     match j,ht with
     | 0,ht =>
       have e : t = 44:=by simpa using ht.symm
       subst e
       exact (show Tryz.prog.wantsStandIn 44 = false by kernel_rfl)
     | j + 1,ht => simp at ht⟩)
  (by kernel_rfl)
end Go.Proofs.YthcahjnniendnacGreatDoor.setPlays
