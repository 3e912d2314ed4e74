/-
  Pv, PgText, RunD, RunT, MeanA, SwapR, RunS, Prb, RunP.
-/
import Derived.Test.YthhcpbfgoofppaaGreatDoorGAll
import Derived.Test.YthhcpbfgoofppaaGreatDoorGCls
import Derived.Test.YthhcpbfgoofppaaGreatDoorGLib
import Derived.Test.YthhcpbfgoofppaaGreatDoorGPh
import Derived.Test.YthhcpbfgoofppaaGreatDoorGPl
import Derived.Test.YthhcpbfgoofppaaGreatDoorGPu
import Derived.Test.YthhcpbfgoofppaaGreatDoorGQ
import Derived.Test.YthhcpbfgoofppaaGreatDoorGRdrA
import Derived.Test.YthhcpbfgoofppaaGreatDoorGReach
import Derived.Test.YthhcpbfgoofppaaGreatDoorGRex
import Derived.Test.YthhcpbfgoofppaaGreatDoorGSim
import Derived.Test.YthhcpbfgoofppaaGreatDoorGStep
import Derived.Test.YthhcpbfgoofppaaGreatDoorGWd
import Derived.Test.YthhcpbfgoofppaaGreatDoorMemS
import Derived.Test.YthhcpbfgoofppaaGreatDoorQueue
import Derived.Test.YthhcpbfgoofppaaGreatDoorSpot
import Derived.Test.YthhcpbfgoofppaaGreatDoorStrs
import Derived.Lib.ItoaNum
import Derived.Deep.CutBlock
import Derived.Deep.CutRange
import Derived.Deep.RegionHeld3
import Derived.Carry
import Derived.BigQuiet
import Derived.Deep.AppendLies
set_option linter.unusedVariables false
set_option linter.unusedSimpArgs false
set_option maxRecDepth 100000
open Go.Lib (hid)
namespace Wf
theorem textC_len (c : Cls) : (textC c).length ≤ 2400:=by
 unfold textC
 have h1:=(byteT_len (least c 0)).1
 have h2:=runsT_len c 0
 split
 ·omega
 ·split
  ·simp
  ·simp;omega
theorem dec_len {n : Nat} (h : n < 1000) : (Go.Lib.decDigits n).length ≤ 3:=by
 rw [Go.Lib.decDigits]
 split
 ·simp
 ·rw [Go.Lib.decDigits]
  split
  ·simp
  ·rw [Go.Lib.decDigits,dif_pos (by omega)]
   simp
end Wf
namespace Go.Proofs.YthhcpbfgoofppaaGreatDoor
open Go.RowKit Wf
theorem Bld.strB {B : Nat} {l : List UInt8} {w : World} (s : ByteArray) (h : Bld B l w) (hl : l.length ≤ 1000000) (hs : s.size ≤ 1000000) :
 Calls Tryz.prog 9 #[.pointer (some ⟨B,0,none⟩),.string s] w (fun e w' => e = .returned (.tuple #[.int .i64 s.size,.nilIface]) ∧ Bld B (l ++ s.data.toList) w' ∧ Below B w w'):=by
 refine (WriteString_c B B (Lib.byteCells l) s w h (by simp [Lib.byteCells];omega) (by have:=h.lt;omega)).mono ?_
 rintro e w' ⟨h1,h2,h3⟩
 refine ⟨h1,.inr ?_,h3⟩
 have : Lib.byteCells (l ++ s.data.toList) = Lib.byteCells l ++ Lib.strCells s:=by simp [Lib.byteCells,Lib.strCells]
 rw [this];exact h2
theorem Bld.byteB {B : Nat} {l : List UInt8} {w : World} (c : Nat) (hc : c < 256) (h : Bld B l w) (hl : l.length ≤ 1000000) :
 Calls Tryz.prog 105 #[.pointer (some ⟨B,0,none⟩),.int .u8 (c : Int)] w (fun e w' => e = .returned .nilIface ∧ Bld B (l ++ [UInt8.ofNat c]) w' ∧ Below B w w'):=by
 refine (WriteByte_c B B (Lib.byteCells l) (c : Int) w h (by simp [Lib.byteCells];omega) (by have:=h.lt;omega)).mono ?_
 rintro e w' ⟨h1,h2,h3⟩
 refine ⟨h1,.inr ?_,h3⟩
 have : Lib.byteCells (l ++ [UInt8.ofNat c]) = Lib.byteCells l ++ [.int .u8 (c : Int)]:=by simp [Lib.byteCells,Nat.mod_eq_of_lt hc]
 rw [this];exact h2
structure TEn (w0 : World) (B : Nat) (acc : List UInt8) (w : World) : Prop where
 bld : Bld B acc w
 base : w0.heap.size ≤ B
 keep : Below w0.heap.size w0 w
theorem TEn.kept {w0 w w' : World} {B : Nat} {acc : List UInt8} (h : TEn w0 B acc w) (hb : Below w.heap.size w w') : TEn w0 B acc w':=⟨h.bld.kept hb,h.base,h.keep.trans (hb.mono h.keep.size)⟩
theorem TEn.put {w0 w w' : World} {B : Nat} {acc acc' : List UInt8} (h : TEn w0 B acc w) (hn : Bld B acc' w') (hb : Below B w w') : TEn w0 B acc' w':=⟨hn,h.base,h.keep.trans (hb.mono h.base)⟩
theorem TEn.alloc {w0 w : World} {B : Nat} {acc : List UInt8} (h : TEn w0 B acc w) (o : Obj) : TEn w0 B acc (w.alloc o):=h.kept ((Below.refl _ _).alloc (Nat.le_refl _) o)
theorem TEn.drew {w0 w : World} {B : Nat} {acc : List UInt8} (h : TEn w0 B acc w) : TEn w0 B acc w.drew:=h.kept (Below.refl _ _).drew
theorem TEn.str {w0 w : World} {B : Nat} {acc T : List UInt8} (h : TEn w0 B acc w) (s : ByteArray) (hT : s.data.toList = T) (hl : acc.length ≤ 500000) (hs : s.size ≤ 2499) :
 Calls Tryz.prog 9 #[.pointer (some ⟨B,0,none⟩),.string s] w (fun e w' => e = .returned (.tuple #[.int .i64 s.size,.nilIface]) ∧ Hid (TEn w0 B (acc ++ T) w') ∧ T.length ≤ 2499):=by
 refine (Bld.strB s h.bld (by omega) (by omega)).mono ?_
 rintro e w' ⟨h1,h2,h3⟩
 rw [sz_list,hT] at hs
 rw [hT] at h2
 exact ⟨h1,hid (h.put h2 h3),hs⟩
theorem TEn.byte {w0 w : World} {B : Nat} {acc : List UInt8} (h : TEn w0 B acc w) (hl : acc.length ≤ 600000) :
 Calls Tryz.prog 105 #[.pointer (some ⟨B,0,none⟩),.int .u8 10] w (fun e w' => e = .returned .nilIface ∧ Hid (TEn w0 B (acc ++ [10]) w')):=by
 refine (Bld.byteB 10 (by omega) h.bld (by omega)).mono ?_
 rintro e w' ⟨h1,h2,h3⟩
 exact ⟨h1,hid (h.put h2 h3)⟩
end Go.Proofs.YthhcpbfgoofppaaGreatDoor
namespace Wf
def digN : List UInt8 → Nat → Option Nat
 | [],n => some n
 | c :: l,n => if c < 48 ∨ 57 < c then none else digN l (n * 10 + (c.toNat - 48))
def numS (s : List UInt8) : Option Nat:=if s.length < 1 ∨ 4 < s.length ∨ (1 < s.length ∧ s[0]? = some 48) then none else digN s 0
def putW (s w : List UInt8) : List UInt8:=(if 0 < s.length then s ++ [32] else s) ++ w
def orNoneW (s : List UInt8) : List UInt8:=if s.length = 0 then [45] else s
theorem dec_len4 {n : Nat} (h : n < 10000) : (Go.Lib.decDigits n).length ≤ 4:=by
 rw [Go.Lib.decDigits]
 split
 ·simp
 ·have:=dec_len (n:=n / 10) (by omega)
  simp;omega
theorem decN_len {n : Nat} (h : n < 100000) : (Go.Lib.decDigits n).length ≤ 5:=by
 rw [Go.Lib.decDigits]
 split
 ·simp
 ·have:=dec_len4 (n:=n / 10) (by omega)
  simp;omega
end Wf
namespace Go.Proofs.YthhcpbfgoofppaaGreatDoor
open Go.RowKit Wf
theorem get_atR {s : ByteArray} {i : Nat} (h : i < s.size) : s.data.toList[i]? = some s[i]:=by
 rw [List.getElem?_eq_getElem (by rw [← sz_list];exact h)]
 simp [ByteArray.getElem_eq_getElem_data]
end Go.Proofs.YthhcpbfgoofppaaGreatDoor
namespace Wf
def errT (e : Nat) : List UInt8 :=
 if e = 0 then "OK".toUTF8.data.toList else if e = 1 then "ErrRange".toUTF8.data.toList else if e = 2 then "ErrShape".toUTF8.data.toList else if e = 3 then "ErrFull".toUTF8.data.toList else if e = 4 then "ErrNone".toUTF8.data.toList else if e = 5 then "ErrSyntax".toUTF8.data.toList else if e = 6 then "ErrClash".toUTF8.data.toList else "Errno".toUTF8.data.toList
def toldW (s : List UInt8) (place e : Nat) : List UInt8:=if e = 0 then s else if e = 5 then errT e ++ [32] ++ Go.Lib.decDigits place else errT e
end Wf
namespace Go.Proofs.YthhcpbfgoofppaaGreatDoor
open Go.RowKit Wf
theorem Err_c (e : Nat) (he : e ≤ 6) (w : World) : Calls Tryz.prog 50 #[.int .i64 (e : Int)] w (fun f w' => ∃ t : ByteArray,f = .returned (.string t) ∧ t.data.toList = errT e ∧ t.size ≤ 9 ∧ w' = w):=by
 have h : e = 0 ∨ e = 1 ∨ e = 2 ∨ e = 3 ∨ e = 4 ∨ e = 5 ∨ e = 6:=by omega
 rcases h with rfl | rfl | rfl | rfl | rfl | rfl | rfl
 all_goals
  go_enter Tryz.func50,Tryz.ntmps50
  go_wp2
  go_ret
  exact ⟨_,rfl,by decide +kernel,by decide +kernel,rfl⟩
def Pl (w : World) (g n : Nat) (P : Nat → Prop) : Prop:=∃ cs : Array Value,Blk w g 4 cs ∧ cs.size = n + 1 ∧ ∀ k,k ≤ n → ∃ b : Bool,cs[k]? = some (.bool b) ∧ (b = true ↔ P k)
theorem Pl.lt {w : World} {g n : Nat} {P : Nat → Prop} (h : Pl w g n P) : g < w.heap.size:=by
 obtain ⟨cs,hb,_⟩:=h
 exact hb.lt
theorem Pl.kept {w w' : World} {g n : Nat} {P : Nat → Prop} {row : Option Nat} (h : Pl w g n P) (hg : w.grownBy w' row) (hne : some g ≠ row) : Pl w' g n P:=by
 obtain ⟨cs,hb,h2⟩:=h
 exact ⟨cs,(hg.block g hb.lt hne).trans hb,h2⟩
theorem Pl.below {w w' : World} {g n : Nat} {P : Nat → Prop} (h : Pl w g n P) (hb : Below w.heap.size w w') : Pl w' g n P:=by
 obtain ⟨cs,hk,h2⟩:=h
 exact ⟨cs,hk.kept hb,h2⟩
theorem Pl.iff {w : World} {g n : Nat} {P Q : Nat → Prop} (h : Pl w g n P) (hpq : ∀ k,k ≤ n → (P k ↔ Q k)) : Pl w g n Q:=by
 obtain ⟨cs,hb,hs,hc⟩:=h
 refine ⟨cs,hb,hs,fun k hk => ?_⟩
 obtain ⟨b,h1,h2⟩:=hc k hk
 exact ⟨b,h1,h2.trans (hpq k hk)⟩
theorem Pl.cell {w : World} {g n : Nat} {P : Nat → Prop} (h : Pl w g n P) (k : Nat) (hk : k ≤ n) : ∃ b : Bool,w.cell? ⟨g,k,none⟩ = some (.bool b) ∧ (b = true ↔ P k):=by
 obtain ⟨cs,hb,_,hc⟩:=h
 obtain ⟨b,h1,h2⟩:=hc k hk
 exact ⟨b,by rw [hb.cell];exact h1,h2⟩
theorem Pl.frozen {w : World} {g n : Nat} {P : Nat → Prop} (h : Pl w g n P) (k : Nat) : w.frozen? ⟨g,k,none⟩ = false:=by
 obtain ⟨cs,hb,_⟩:=h
 exact hb.frozen k
theorem Pl.set_ {w : World} {g n : Nat} {P : Nat → Prop} (h : Pl w g n P) (k : Nat) (b : Bool) : Pl (w.setCell ⟨g,k,none⟩ (.bool b)) g n (fun j => if j = k then b = true else P j):=by
 obtain ⟨cs,hb,hs,hc⟩:=h
 refine ⟨_,hb.set_ k (.bool b),by simpa using hs,fun j hj => ?_⟩
 rw [Array.getElem?_setIfInBounds]
 by_cases e : k = j
 ·subst e
  rw [if_pos rfl,if_pos (by omega)]
  exact ⟨b,rfl,by simp⟩
 ·rw [if_neg e]
  obtain ⟨b',h1,h2⟩:=hc j hj
  exact ⟨b',h1,by show _ ↔ (if j = k then b = true else P j);rw [if_neg (fun h => e h.symm)];exact h2⟩
section
variable (l : List Nd) (s : ByteArray) (b off cap ge F M : Nat)
end
section
variable {l : List Nd} {s : ByteArray} {b off cap ge F M : Nat} {O : Nat → Prop} {w w' : World}
theorem TEnv.grown {l : List Nd} {b off cap g p : Nat} {w w' : World} (h : TEnv l b off cap g w) (hg : w.grownBy w' (some p)) (hb : p ≠ b) (hge : p ≠ g) : TEnv l b off cap g w':=by
 have hbb : w'.heap[b]? = w.heap[b]?:=hg.block b h.hb (fun e => hb (Option.some.inj e).symm)
 have hgg : w'.heap[g]? = w.heap[g]?:=hg.block g h.hg (fun e => hge (Option.some.inj e).symm)
 refine ⟨?_,Nat.lt_of_lt_of_le h.hb hg.size,Nat.lt_of_lt_of_le h.hg hg.size,fun i u hu => ?_⟩
 ·obtain ⟨A,n,cap',hv,h1,h2,h3,h4⟩:=h.hr
  refine ⟨A,n,cap',hv,h1,h2,h3,fun hn => ?_⟩
  obtain ⟨b',off',hA,hc⟩:=h4 hn
  refine ⟨b',off',hA,fun j u hu => ?_⟩
  have e : b' = b:=by
   rw [hA] at hv
   cases hv
   rfl
  subst e
  rw [World.cell?_of_block (w:=w) (a:=⟨b',off' + j,none⟩) hbb]
  exact hc j u hu
 ·rw [World.cell?_of_block (w:=w) (a:=⟨g,i,none⟩) hgg]
  exact h.hx i u hu
end
def swapR (tx bx : ByteArray) (sp : List (Nat × Nat)) : List UInt8:=Go.Lib.join ((piecesB tx sp).map (·.data.toList)) bx.data.toList
def swapO (tx bx : ByteArray) (sp : List (Nat × Nat)) : List UInt8 × Int:=if 400 < bx.size then ([],3) else if 400 < (swapR tx bx sp).length then ([],3) else (swapR tx bx sp,0)
end Go.Proofs.YthhcpbfgoofppaaGreatDoor
namespace Wf
open Go.Proofs.YthhcpbfgoofppaaGreatDoor (swapO)
def cutAt (c : UInt8) (s : List UInt8) : Option (List UInt8 × List UInt8):=match s.findIdx? (· == c) with
 | none => none
 | some k => some (s.take k,s.drop (k + 1))
def wordsW (l : List (List UInt8)) : List UInt8:=l.foldl putW []
def hitW (h : Nat × Nat × Nat) : List UInt8:=Go.Lib.decDigits h.1 ++ [58] ++ Go.Lib.decDigits h.2.1 ++ [45] ++ Go.Lib.decDigits h.2.2
def itemW (x : Mb) : List UInt8:=Go.Lib.decDigits x.id ++ [58] ++ (if (textT x.t).length ≤ 200 then textT x.t else errT 3)
def badW : List UInt8:=[98,97,100]
def okyW : List UInt8:=[111,107]
noncomputable def putA (x : Mb) (t : List UInt8) : List UInt8 :=
 if 400 < t.length then errT 3 else toldW (swapO ⟨t.toArray⟩ ⟨#[95]⟩ (spansO t x.t 0)).1 0 (swapO ⟨t.toArray⟩ ⟨#[95]⟩ (spansO t x.t 0)).2.toNat
noncomputable def lineS (m : SS) (s : List UInt8) : List UInt8 × SS :=
 if s = [111,110] then (okyW,{ m with on:=true })
 else if s = [111,102,102] then (okyW,{ m with on:=false })
 else if s = [116,114,105,101,100] then (Go.Lib.decDigits m.tried,m)
 else if s = [108,105,115,116] then (orNoneW (wordsW (m.ms.map itemW)),m)
 else match cutAt 32 s with
 | none => (badW,m)
 | some (w,r) =>
   if w = [97,100,100] then (toldW (Go.Lib.decDigits (m.added ⟨r.toArray⟩).1) (m.added ⟨r.toArray⟩).2.1 (m.added ⟨r.toArray⟩).2.2.toNat,m.add ⟨r.toArray⟩)
   else if w = [114,101,109,111,118,101] then
    match numS r with
    | none => (badW,m)
    | some n => (toldW okyW 0 (m.removed n).toNat,m.remove n)
   else if w = [115,99,97,110] then if 400 < r.length then (errT 3,m) else (orNoneW (wordsW ((m.hits r).map hitW)),m.scan r)
   else if w = [112,117,116] then
    match cutAt 32 r with
    | none => (badW,m)
    | some (a,t) =>
      match numS a with
      | none => (badW,m)
      | some n =>
        match (m.place n).bind fun k => m.ms[k]? with
        | none => (errT 4,m)
        | some x => (putA x t,m)
   else (badW,m)
noncomputable def linesS : SS → List (List UInt8) → List UInt8
 | _,[] => []
 | m,s :: l => (lineS m s).1 ++ [10] ++ linesS (lineS m s).2 l
end Wf
namespace Wf
theorem hexS_badle {s : List UInt8} {i k : Nat} (hi : i ≤ s.length) (h : hexS s i = .bad k) : k ≤ s.length:=by
 unfold hexS at h
 split at h
 ·cases h;omega
 ·split at h
  ·cases h;omega
  ·split at h
   ·cases h;omega
   ·split at h
    ·cases h;omega
    ·cases h
theorem oneS_badle {s : List UInt8} {i k : Nat} (hi : i ≤ s.length) (h : oneS s i = .bad k) : k ≤ s.length:=by
 unfold oneS at h
 split at h
 ·cases h;omega
 ·split at h
  ·split at h
   ·cases h;omega
   ·split at h
    ·exact hexS_badle hi h
    ·split at h
     ·cases h
     ·cases h;omega
  ·split at h
   ·cases h;omega
   ·cases h
theorem itemS_badle {s : List UInt8} {i k : Nat} (hi : i ≤ s.length) (h : itemS s i = .bad k) : k ≤ s.length:=by
 unfold itemS at h
 split at h
 ·rename_i k' e
  cases h
  exact oneS_badle hi e
 ·rename_i lo j e
  have h1:=oneS_ok e
  split at h
  ·rename_i e45
   have:=getE_lt e45
   split at h
   ·rename_i k' e2
    cases h
    exact oneS_badle (by omega) e2
   ·split at h
    ·cases h;omega
    ·cases h
  ·cases h
theorem itemsS_badle {s : List UInt8} : ∀ (n i : Nat) (c : Cls) (k : Nat),s.length - i ≤ n → i ≤ s.length → itemsS s i c = .bad k → k ≤ s.length:=by
 intro n
 induction n with
 | zero =>
   intro i c k hn hi h
   by_cases h1 : s[i]? = some 93
   ·rw [itemsS_end c h1] at h;cases h
   ·cases ht : itemS s i with
    | bad k' => rw [itemsS_bad c h1 ht] at h;cases h;exact itemS_badle hi ht
    | ok p j => have:=itemS_ok ht;omega
 | succ n ih =>
   intro i c k hn hi h
   by_cases h1 : s[i]? = some 93
   ·rw [itemsS_end c h1] at h;cases h
   ·cases ht : itemS s i with
    | bad k' => rw [itemsS_bad c h1 ht] at h;cases h;exact itemS_badle hi ht
    | ok p j =>
      have:=itemS_ok ht
      rw [itemsS_more c h1 ht] at h
      exact ih j _ k (by omega) this.2.1 h
theorem bracketS_badle {s : List UInt8} {i k : Nat} (hi : i ≤ s.length) (h : bracketS s i = .bad k) : k ≤ s.length:=by
 unfold bracketS at h
 split at h
 ·rename_i e
  have:=getE_lt e
  split at h
  ·rename_i k' e2
   cases h
   exact itemsS_badle _ _ _ _ (Nat.le_refl _) (by omega) e2
  ·cases h
 ·exact itemsS_badle _ _ _ _ (Nat.le_refl _) hi h
theorem read_badle {s : List UInt8} : ∀ (n i : Nat),s.length - i ≤ n → i ≤ s.length →
 (∀ k,atomS s i = .bad k → k ≤ s.length) ∧ (∀ k,catS s i = .bad k → k ≤ s.length) ∧ (∀ k,orS s i = .bad k → k ≤ s.length):=by
 intro n
 induction n with
 | zero =>
   intro i hn hi
   obtain rfl : i = s.length:=by omega
   have hst : stopS s s.length = true:=by unfold stopS;simp
   have hC : catS s s.length = .ok .empty s.length:=by rw [catS,if_pos hst]
   refine ⟨fun k h => ?_,fun k h => ?_,fun k h => ?_⟩
   ·rw [atomS,dif_neg (by omega)] at h;cases h;omega
   ·rw [hC] at h;cases h
   ·rw [orS,hC] at h;simp at h
 | succ n ih =>
   intro i hn hi
   have hA : ∀ k,atomS s i = .bad k → k ≤ s.length:=by
    intro k h
    rw [atomS] at h
    split at h
    ·rename_i hlt
     split at h
     ·split at h
      ·rename_i k' e
       cases h
       exact (ih (i + 1) (by omega) (by omega)).2.2 _ e
      ·rename_i t j e
       have:=(read_ok _ (i + 1) (Nat.le_refl _) (by omega)).2.2 _ _ e
       split at h
       ·cases h
       ·cases h;exact this.2.1
     ·split at h
      ·split at h
       ·rename_i k' e;cases h;exact bracketS_badle (by omega) e
       ·cases h
      ·split at h
       ·cases h
       ·split at h
        ·cases h
        ·split at h
         ·cases h
         ·split at h
          ·rename_i k' e;cases h;exact oneS_badle hi e
          ·cases h
    ·cases h;omega
   have hC : ∀ k,catS s i = .bad k → k ≤ s.length:=by
    intro k h
    rw [catS] at h
    split at h
    ·cases h
    ·split at h
     ·rename_i k' e;cases h;exact hA _ e
     ·rename_i t j e
      have h1:=(read_ok _ i (Nat.le_refl _) hi).1 _ _ e
      have h2:=signsS_ok _ j t (Nat.le_refl _) h1.2.1 h1.2.2.1
      split at h
      ·cases h
      ·split at h
       ·split at h
        ·rename_i k' e2;cases h;exact (ih _ (by omega) h2.2.1).2.1 _ e2
        ·cases h
       ·cases h;omega
   refine ⟨hA,hC,fun k h => ?_⟩
   rw [orS] at h
   split at h
   ·rename_i k' e;cases h;exact hC _ e
   ·rename_i t j e
    have h1:=(read_ok _ i (Nat.le_refl _) hi).2.1 _ _ e
    split at h
    ·rename_i e2
     have:=getE_lt e2
     split at h
     ·split at h
      ·rename_i k' e3;cases h;exact (ih (j + 1) (by omega) (by omega)).2.2 _ e3
      ·cases h
     ·cases h;omega
    ·cases h
theorem orS_badle {s : List UInt8} {k : Nat} (h : orS s 0 = .bad k) : k ≤ s.length:=(read_badle _ 0 (Nat.le_refl _) (by omega)).2.2 k h
end Wf
namespace Wf
open Go.Proofs.YthhcpbfgoofppaaGreatDoor (swapO swapR)
def linesOf : List UInt8 → List (List UInt8)
 | [] => []
 | c :: r => if c = 10 then [] :: linesOf r else match linesOf r with
   | [] => [[c]]
   | h :: t => (c :: h) :: t
theorem lines_cut {h : List UInt8} (r : List UInt8) (hh : ∀ c ∈ h,c ≠ 10) : linesOf (h ++ 10 :: r) = h :: linesOf r:=by
 induction h with
 | nil => simp [linesOf]
 | cons c h ih =>
   have h1:=ih (fun d hd => hh d (List.mem_cons_of_mem _ hd))
   have h2:=hh c List.mem_cons_self
   rw [List.cons_append,linesOf,if_neg h2,h1]
theorem lines_one {h : List UInt8} (hh : ∀ c ∈ h,c ≠ 10) (h0 : h ≠ []) : linesOf h = [h]:=by
 induction h with
 | nil => exact absurd rfl h0
 | cons c h ih =>
   have h2:=hh c List.mem_cons_self
   rw [linesOf,if_neg h2]
   cases h with
   | nil => rfl
   | cons d h => rw [ih (fun x hx => hh x (List.mem_cons_of_mem _ hx)) (by simp)]
theorem lines_ne {s : List UInt8} (h : s ≠ []) : linesOf s ≠ []:=by
 cases s with
 | nil => exact absurd rfl h
 | cons c r =>
   rw [linesOf]
   split
   ·simp
   ·split <;> simp
theorem lines_app (p q : List UInt8) (h : p = [] ∨ ∃ p',p = p' ++ [10]) : linesOf (p ++ q) = linesOf p ++ linesOf q:=by
 induction p with
 | nil => simp [linesOf]
 | cons c p ih =>
   have key : c = 10 ∧ p = [] ∨ ∃ p',p = p' ++ [10]:=by
    rcases h with h | ⟨p',h⟩
    ·cases h
    ·cases p' with
     | nil => simp at h;exact .inl h
     | cons d p' => simp at h;exact .inr ⟨p',h.2⟩
   by_cases hc : c = 10
   ·subst hc
    have : p = [] ∨ ∃ p',p = p' ++ [10]:=by
     rcases key with h | h
     ·exact .inl h.2
     ·exact .inr h
    rw [List.cons_append,linesOf,linesOf,if_pos rfl,if_pos rfl,ih this];rfl
   ·rcases key with h | hp
    ·exact absurd h.1 hc
    ·have hne : p ≠ []:=by obtain ⟨p',rfl⟩:=hp;simp
     rw [List.cons_append,linesOf,if_neg hc,ih (.inr hp),linesOf,if_neg hc]
     cases hl : linesOf p with
     | nil => exact absurd hl (lines_ne hne)
     | cons x y => rfl
noncomputable def afterS : SS → List (List UInt8) → SS
 | m,[] => m
 | m,s :: l => afterS (lineS m s).2 l
theorem linesS_app (l1 l2 : List (List UInt8)) : ∀ m,linesS m (l1 ++ l2) = linesS m l1 ++ linesS (afterS m l1) l2:=by
 induction l1 with
 | nil => intro m;simp [linesS,afterS]
 | cons x l ih => intro m;simp only [List.cons_append,linesS,afterS,ih,List.append_assoc]
def tooW : List UInt8:=[116,111,111,32,108,111,110,103,10]
noncomputable def runS (s : List UInt8) : List UInt8:=if 3000 < s.length then tooW else linesS SS.zero (linesOf s)
theorem run_begins {s : List UInt8} {k : Nat} (h3 : s.length ≤ 3000) (h : k = 0 ∨ ∃ j,k = j + 1 ∧ s[j]? = some 10) : ∃ q,runS s = runS (s.take k) ++ q:=by
 unfold runS
 rw [if_neg (by omega),if_neg (by rw [List.length_take];omega)]
 have hp : s.take k = [] ∨ ∃ p',s.take k = p' ++ [10]:=by
  rcases h with rfl | ⟨j,rfl,hj⟩
  ·exact .inl rfl
  ·obtain ⟨hlt,hv⟩:=List.getElem?_eq_some_iff.1 hj
   exact .inr ⟨s.take j,by rw [List.take_succ_eq_append_getElem hlt,hv]⟩
 have:=lines_app (s.take k) (s.drop k) hp
 rw [List.take_append_drop] at this
 rw [this,linesS_app]
 exact ⟨_,rfl⟩
structure SS.small (m : SS) (n : Nat) : Prop where
 ok : m.ok
 last : 4 * m.last ≤ n
 tried : m.tried ≤ 12
theorem SS.small_zero : SS.zero.small 0:=⟨SS.ok_zero,by decide,by decide⟩
theorem SS.add_tried (m : SS) (s : ByteArray) : (m.add s).tried = m.tried:=by unfold SS.add;split;rfl;split <;> rfl
theorem SS.remove_tried (m : SS) (id : Int) : (m.remove id).tried = m.tried:=by unfold SS.remove;split <;> rfl
theorem cut_len {c : UInt8} {s a b : List UInt8} (h : cutAt c s = some (a,b)) : s.length = a.length + 1 + b.length:=by
 unfold cutAt at h
 split at h
 ·cases h
 ·rename_i k hk
  have:=(List.findIdx?_eq_some_iff_getElem.1 hk).1
  injection h with h
  injection h with h1 h2
  subst h1
  subst h2
  simp
  omega
theorem SS.small.line {m : SS} {n : Nat} (h : m.small n) (s : List UInt8) : (lineS m s).2.small (n + s.length):=by
 have h0 : m.small (n + s.length):=⟨h.ok,by have:=h.last;omega,h.tried⟩
 unfold lineS
 split
 ·exact ⟨h.ok.tried true m.tried,h0.last,h.tried⟩
 split
 ·exact ⟨h.ok.tried false m.tried,h0.last,h.tried⟩
 split
 ·exact h0
 split
 ·exact h0
 split
 ·exact h0
 rename_i w r hc
 have hcl:=cut_len hc
 split
 ·rename_i hw
  refine ⟨h.ok.add _,?_,by rw [SS.add_tried];exact h.tried⟩
  have h1:=(SS.last_add m ⟨r.toArray⟩).2
  have h2:=h.last
  have h3 : w.length = 3:=by rw [hw];rfl
  show 4 * (m.add ⟨r.toArray⟩).last ≤ _
  omega
 split
 ·split
  ·exact h0
  ·exact ⟨h.ok.remove _,by show 4 * (m.remove _).last ≤ _;rw [SS.last_remove];exact h0.last,by show (m.remove _).tried ≤ _;rw [SS.remove_tried];exact h.tried⟩
 split
 ·split
  ·exact h0
  ·rename_i h4
   refine ⟨h.ok.scan r,by show 4 * (m.scan r).last ≤ _;rw [SS.last_scan];exact h0.last,?_⟩
   show (m.scan r).tried ≤ 12
   unfold SS.scan
   rw [if_pos (by omega)]
   show (m.tries r).length ≤ 12
   have:=tries_le m r
   have:=h.ok.len
   omega
 split
 ·split
  ·exact h0
  ·split
   ·exact h0
   ·split <;> exact h0
 ·exact h0
theorem put_len (s w : List UInt8) : (putW s w).length ≤ s.length + 1 + w.length:=by
 unfold putW
 split <;> simp <;> omega
theorem words_len_aux {K : Nat} (l : List (List UInt8)) (h : ∀ x ∈ l,x.length ≤ K) : ∀ s : List UInt8,(l.foldl putW s).length ≤ s.length + l.length * (K + 1):=by
 induction l with
 | nil => intro s;simp
 | cons x l ih =>
   intro s
   have h1:=ih (fun y hy => h y (List.mem_cons_of_mem _ hy)) (putW s x)
   have h2:=put_len s x
   have h3:=h x List.mem_cons_self
   rw [List.foldl_cons,List.length_cons,Nat.add_mul]
   omega
theorem words_len {K : Nat} (l : List (List UInt8)) (h : ∀ x ∈ l,x.length ≤ K) : (wordsW l).length ≤ l.length * (K + 1):=by
 have:=words_len_aux l h []
 simpa [wordsW] using this
theorem orNone_len (s : List UInt8) : (orNoneW s).length ≤ s.length + 1:=by
 unfold orNoneW
 split <;> simp
theorem hits_len {m : SS} (h : m.ok) {s : List UInt8} (hs : s.length ≤ 400) : (m.hits s).length ≤ 4812:=by
 have h1:=h.len
 unfold SS.hits
 have key : ∀ l : List Mb,(l.flatMap (hitsOf s)).length ≤ l.length * 401:=by
  intro l
  induction l with
  | nil => simp
  | cons x l ih =>
    have h2:=allO_len (long_behind s x.t) 0
    have h3 : (hitsOf s x).length ≤ 401:=by
     unfold hitsOf spansO
     rw [List.length_map]
     omega
    rw [List.flatMap_cons,List.length_append,List.length_cons,Nat.add_mul]
    omega
 have:=key m.ms
 omega
theorem hits_small {m : SS} {n : Nat} (h : m.small n) (hn : n ≤ 3000) {s : List UInt8} (hs : s.length ≤ 400) : ∀ q ∈ m.hits s,q.1 ≤ 750 ∧ q.2.1 ≤ 400 ∧ q.2.2 ≤ 400:=by
 intro q hq
 unfold SS.hits at hq
 obtain ⟨x,hx,hq⟩:=List.mem_flatMap.1 hq
 unfold hitsOf at hq
 obtain ⟨p,hp,rfl⟩:=List.mem_map.1 hq
 have h1:=(h.ok.pos x hx).2
 have h2:=h.last
 obtain ⟨_,h4,h5,_⟩:=allO_in (long_behind s x.t) 0 p hp
 refine ⟨by show x.id ≤ 750;omega,by show p.1 ≤ 400;omega,by show p.2 ≤ 400;omega⟩
theorem hitW_len {q : Nat × Nat × Nat} (h1 : q.1 ≤ 750) (h2 : q.2.1 ≤ 400) (h3 : q.2.2 ≤ 400) : (hitW q).length ≤ 14:=by
 have a:=dec_len4 (n:=q.1) (by omega)
 have b:=dec_len4 (n:=q.2.1) (by omega)
 have c:=dec_len4 (n:=q.2.2) (by omega)
 simp [hitW]
 omega
theorem errT_len (e : Nat) : (errT e).length ≤ 9:=by
 unfold errT
 repeat' split
 all_goals decide +kernel
theorem itemW_len {x : Mb} (h : x.id ≤ 750) : (itemW x).length ≤ 205:=by
 have a:=dec_len4 (n:=x.id) (by omega)
 have b:=errT_len 3
 unfold itemW
 split <;> simp <;> omega
theorem told_len {s : List UInt8} {K p e : Nat} (hs : s.length ≤ K) (hp : p ≤ 1000) : (toldW s p e).length ≤ K + 15:=by
 have a:=dec_len4 (n:=p) (by omega)
 have b:=errT_len e
 unfold toldW
 split
 ·omega
 ·split
  ·rw [List.length_append,List.length_append]
   simp
   omega
  ·omega
theorem swapO_len (tx bx : ByteArray) (sp : List (Nat × Nat)) : (swapO tx bx sp).1.length ≤ 400:=by
 unfold swapO
 split
 ·simp
 ·split
  ·simp
  ·show (swapR tx bx sp).length ≤ 400;omega
theorem parseE_place (s : ByteArray) : (parseE s).2.1 ≤ 200 ∧ 0 ≤ (parseE s).1 ∧ (parseE s).1 ≤ 6:=by
 unfold parseE
 split
 ·simp
 ·rename_i hs
  have hsz : s.data.toList.length = s.size:=by simp
  split
  ·rename_i k hr
   have:=orS_badle (s:=s.data.toList) hr
   simp
   omega
  ·rename_i t j hr
   obtain ⟨_,h2,_⟩:=(read_ok (s:=s.data.toList) _ 0 (Nat.le_refl _) (Nat.zero_le _)).2.2 _ _ hr
   split
   ·split <;> simp
   ·simp
    omega
theorem added_small {m : SS} {n : Nat} (h : m.small n) (hn : n ≤ 3000) (s : ByteArray) : (m.added s).1 ≤ 751 ∧ (m.added s).2.1 ≤ 200 ∧ 0 ≤ (m.added s).2.2 ∧ (m.added s).2.2 ≤ 6:=by
 have hp:=parseE_place s
 have hl:=h.last
 unfold SS.added
 split
 ·refine ⟨by simp,hp.1,hp.2⟩
 ·split
  ·refine ⟨by show m.last + 1 ≤ 751;omega,by simp,by simp,by simp⟩
  ·exact ⟨by simp,by simp,by simp,by simp⟩
theorem lineS_len {m : SS} {n : Nat} (h : m.small n) (hn : n ≤ 3000) (s : List UInt8) : (lineS m s).1.length ≤ 80000:=by
 have hbad : badW.length ≤ 80000:=by decide
 have hokw : okyW.length ≤ 80000:=by decide
 unfold lineS
 split
 ·exact hokw
 split
 ·exact hokw
 split
 ·have:=dec_len4 (n:=m.tried) (by have:=h.tried;omega)
  show (Go.Lib.decDigits m.tried).length ≤ _
  omega
 split
 ·show (orNoneW (wordsW (m.ms.map itemW))).length ≤ _
  have h1:=words_len (K:=205) (m.ms.map itemW) (fun y hy => by
   obtain ⟨x,hx,rfl⟩:=List.mem_map.1 hy
   have:=(h.ok.pos x hx).2
   have:=h.last
   exact itemW_len (by omega))
  have h2:=orNone_len (wordsW (m.ms.map itemW))
  have h3:=h.ok.len
  rw [List.length_map] at h1
  omega
 split
 ·exact hbad
 rename_i w r hc
 split
 ·obtain ⟨h1,h2,h3,h4⟩:=added_small h hn ⟨r.toArray⟩
  have:=dec_len4 (n:=(m.added ⟨r.toArray⟩).1) (by omega)
  have:=told_len (s:=Go.Lib.decDigits (m.added ⟨r.toArray⟩).1) (K:=4) (p:=(m.added ⟨r.toArray⟩).2.1) (e:=(m.added ⟨r.toArray⟩).2.2.toNat) (by omega) (by omega)
  show (toldW _ _ _).length ≤ _
  omega
 split
 ·split
  ·exact hbad
  ·show (toldW okyW 0 (m.removed _).toNat).length ≤ _
   exact Nat.le_trans (told_len (K:=2) (by decide) (by omega)) (by omega)
 split
 ·split
  ·have:=errT_len 3
   show (errT 3).length ≤ _
   omega
  ·rename_i h4
   show (orNoneW (wordsW ((m.hits r).map hitW))).length ≤ _
   have h1:=words_len (K:=14) ((m.hits r).map hitW) (fun y hy => by
    obtain ⟨q,hq,rfl⟩:=List.mem_map.1 hy
    obtain ⟨a,b,c⟩:=hits_small h hn (by omega) q hq
    exact hitW_len a b c)
   have h2:=orNone_len (wordsW ((m.hits r).map hitW))
   have h3:=hits_len h.ok (s:=r) (by omega)
   rw [List.length_map] at h1
   omega
 split
 ·split
  ·exact hbad
  ·split
   ·exact hbad
   ·split
    ·have:=errT_len 4
     show (errT 4).length ≤ _
     omega
    ·show (putA _ _).length ≤ _
     unfold putA
     split
     ·have:=errT_len 3
      omega
     ·exact Nat.le_trans (told_len (K:=400) (swapO_len _ _ _) (by omega)) (by omega)
 ·exact hbad
theorem dec_one : Go.Lib.decDigits 1 = [49]:=by decide +kernel
theorem run_fact : runS [97,100,100,32,97,43,10,115,99,97,110,32,98,97,97,10,112,117,116,32,49,32,98,97,97,10,102,108,121] = [49,10,49,58,49,45,51,10,98,95,10,98,97,100,10]:=by
 have hl : linesOf [97,100,100,32,97,43,10,115,99,97,110,32,98,97,97,10,112,117,116,32,49,32,98,97,97,10,102,108,121] = [[97,100,100,32,97,43],[115,99,97,110,32,98,97,97],[112,117,116,32,49,32,98,97,97],[102,108,121]]:=by decide
 have l1 : lineS SS.zero [97,100,100,32,97,43] = ([49],oneM bAp tAp false 0):=by
  unfold lineS
  rw [if_neg (by decide),if_neg (by decide),if_neg (by decide),if_neg (by decide),show cutAt 32 [97,100,100,32,97,43] = some ([97,100,100],[97,43]) from by decide]
  dsimp only
  rw [if_pos rfl]
  obtain ⟨h1,h2⟩:=zero_add parse_ap
  show (toldW (Go.Lib.decDigits (SS.zero.added bAp).1) (SS.zero.added bAp).2.1 (SS.zero.added bAp).2.2.toNat,SS.zero.add bAp) = _
  rw [h1,h2]
  show (toldW (Go.Lib.decDigits 1) 0 0,_) = _
  rw [dec_one]
  rfl
 have l2 : ∃ n,lineS (oneM bAp tAp false 0) [115,99,97,110,32,98,97,97] = ([49,58,49,45,51],oneM bAp tAp false n):=by
  unfold lineS
  rw [if_neg (by decide),if_neg (by decide),if_neg (by decide),if_neg (by decide),show cutAt 32 [115,99,97,110,32,98,97,97] = some ([115,99,97,110],[98,97,97]) from by decide]
  dsimp only
  rw [if_neg (by decide),if_neg (by decide),if_pos rfl,if_neg (by decide),ap_hits]
  refine ⟨1,?_⟩
  refine Prod.ext ?_ ?_
  ·decide +kernel
  ·show (oneM bAp tAp false 0).scan [98,97,97] = _
   unfold SS.scan
   rw [if_pos (by decide),tries_off _ _ rfl]
   rfl
 obtain ⟨n,l2⟩:=l2
 have l3 : lineS (oneM bAp tAp false n) [112,117,116,32,49,32,98,97,97] = ([98,95],oneM bAp tAp false n):=by
  unfold lineS
  rw [if_neg (by decide),if_neg (by decide),if_neg (by decide),if_neg (by decide),show cutAt 32 [112,117,116,32,49,32,98,97,97] = some ([112,117,116],[49,32,98,97,97]) from by decide]
  dsimp only
  rw [if_neg (by decide),if_neg (by decide),if_neg (by decide),if_pos rfl,show cutAt 32 [49,32,98,97,97] = some ([49],[98,97,97]) from by decide]
  dsimp only
  rw [show numS [49] = some 1 from by decide]
  dsimp only
  rw [show ((oneM bAp tAp false n).place ((1 : Nat) : Int)).bind (fun k => (oneM bAp tAp false n).ms[k]?) = some ⟨1,bAp,tAp⟩ from rfl]
  dsimp only
  refine Prod.ext ?_ rfl
  show putA ⟨1,bAp,tAp⟩ [98,97,97] = [98,95]
  unfold putA
  rw [if_neg (by decide)]
  show toldW (swapO ⟨#[98,97,97]⟩ ⟨#[95]⟩ (spansO [98,97,97] tAp 0)).1 0 (swapO ⟨#[98,97,97]⟩ ⟨#[95]⟩ (spansO [98,97,97] tAp 0)).2.toNat = _
  rw [ap_spans]
  decide +kernel
 have l4 : (lineS (oneM bAp tAp false n) [102,108,121]).1 = [98,97,100]:=by
  unfold lineS
  rw [if_neg (by decide),if_neg (by decide),if_neg (by decide),if_neg (by decide),show cutAt 32 [102,108,121] = none from by decide]
  rfl
 unfold runS
 rw [if_neg (by decide),hl]
 simp only [linesS,l1,l2,l3,l4]
 rfl
end Wf
