/-
  Prd, Pre, RdrA.
-/
import Derived.Test.YthhcpbfgoofppaaGreatDoorGCls
import Derived.Test.YthhcpbfgoofppaaGreatDoorGPy
import Derived.Test.YthhcpbfgoofppaaGreatDoorRefW
import Derived.BigQuiet
set_option linter.unusedVariables false
set_option linter.unusedSimpArgs false
namespace Wf
def catLs : List Rx → Rx
 | [] => .empty
 | [t] => t
 | t :: u :: r => .cat t (catLs (u :: r))
def altLs : List Rx → Rx
 | [] => .empty
 | [t] => t
 | t :: u :: r => .alt t (altLs (u :: r))
def PR.pre {α : Type} (a : List α) : PR (List α) → PR (List α)
 | .bad k => .bad k
 | .ok l k => .ok (a ++ l) k
def PR.to {α β : Type} (f : α → β) : PR α → PR β
 | .bad k => .bad k
 | .ok l k => .ok (f l) k
theorem PR.pre_nil {α : Type} (r : PR (List α)) : r.pre [] = r:=by cases r <;> simp [PR.pre]
theorem PR.pre_pre {α : Type} (a b : List α) (r : PR (List α)) : (r.pre b).pre a = r.pre (a ++ b):=by cases r <;> simp [PR.pre]
def atomsS (s : List UInt8) (i : Nat) : PR (List Rx) :=
 if stopS s i = true then .ok [] i
 else match atomS s i with
  | .bad k => .bad k
  | .ok t j => if i < (signsS s j t).2 ∧ i ≤ s.length then (atomsS s (signsS s j t).2).pre [(signsS s j t).1] else .bad 0
termination_by s.length + 1 - i
def sidesS (s : List UInt8) (i : Nat) : PR (List Rx) :=
 match catS s i with
 | .bad k => .bad k
 | .ok t j => if s[j]? = some 124 then (if i ≤ j ∧ i ≤ s.length then (sidesS s (j + 1)).pre [t] else .bad 0) else .ok [t] j
termination_by s.length + 1 - i
theorem atomsS_stop {s : List UInt8} {i : Nat} (h : stopS s i = true) : atomsS s i = .ok [] i:=by rw [atomsS,if_pos h]
theorem atomsS_bad {s : List UInt8} {i k : Nat} (h : stopS s i = false) (ha : atomS s i = .bad k) : atomsS s i = .bad k:=by rw [atomsS,if_neg (by simp [h]),ha]
theorem atomsS_more {s : List UInt8} {i j : Nat} {t : Rx} (h : stopS s i = false) (ha : atomS s i = .ok t j) : atomsS s i = (atomsS s (signsS s j t).2).pre [(signsS s j t).1]:=by
 have hi:=stopS_no h
 obtain ⟨g1,g2,g3,_⟩:=(read_ok _ i (Nat.le_refl _) (by omega)).1 _ _ ha
 obtain ⟨k1,_⟩:=signsS_ok _ j t (Nat.le_refl _) g2 g3
 rw [atomsS,if_neg (by simp [h]),ha]
 dsimp only
 rw [if_pos (by omega)]
theorem sidesS_bad {s : List UInt8} {i k : Nat} (h : catS s i = .bad k) : sidesS s i = .bad k:=by rw [sidesS,h]
theorem sidesS_one {s : List UInt8} {i j : Nat} {t : Rx} (h : catS s i = .ok t j) (hj : s[j]? ≠ some 124) : sidesS s i = .ok [t] j:=by
 rw [sidesS,h]
 dsimp only
 rw [if_neg hj]
theorem sidesS_more {s : List UInt8} {i j : Nat} {t : Rx} (hi : i ≤ s.length) (h : catS s i = .ok t j) (hj : s[j]? = some 124) : sidesS s i = (sidesS s (j + 1)).pre [t]:=by
 obtain ⟨g1,_⟩:=(read_ok _ i (Nat.le_refl _) hi).2.1 _ _ h
 rw [sidesS,h]
 dsimp only
 rw [if_pos hj,if_pos ⟨g1,hi⟩]
theorem atomsS_ne {s : List UInt8} {i j : Nat} {l : List Rx} (h : stopS s i = false) (ha : atomsS s i = .ok l j) : l ≠ []:=by
 cases hA : atomS s i with
 | bad k => rw [atomsS_bad h hA] at ha;cases ha
 | ok t k =>
   rw [atomsS_more h hA] at ha
   cases hB : atomsS s (signsS s k t).2 with
   | bad m => rw [hB] at ha;cases ha
   | ok l' m => rw [hB] at ha;cases ha;simp
theorem catS_atoms {s : List UInt8} : ∀ (n i : Nat),s.length - i ≤ n → i ≤ s.length → catS s i = (atomsS s i).to catLs:=by
 intro n
 induction n with
 | zero =>
   intro i hn hi
   have hst : stopS s i = true:=by
    cases h : stopS s i with
    | true => rfl
    | false => have:=stopS_no h;omega
   rw [catS_end hst,atomsS_stop hst];rfl
 | succ n ih =>
   intro i hn hi
   cases h : stopS s i with
   | true => rw [catS_end h,atomsS_stop h];rfl
   | false =>
     cases hA : atomS s i with
     | bad k => rw [catS_bad h hA,atomsS_bad h hA];rfl
     | ok t j =>
       obtain ⟨g1,g2,g3,_⟩:=(read_ok _ i (Nat.le_refl _) hi).1 _ _ hA
       obtain ⟨k1,k2,_⟩:=signsS_ok _ j t (Nat.le_refl _) g2 g3
       rw [atomsS_more h hA]
       cases h2 : stopS s (signsS s j t).2 with
       | true =>
         rw [catS_one h hA h2,atomsS_stop h2]
         rfl
       | false =>
         rw [catS_more h hA h2,ih _ (by omega) k2]
         cases hB : atomsS s (signsS s j t).2 with
         | bad m => rfl
         | ok l m =>
           have hne:=atomsS_ne h2 hB
           cases l with
           | nil => exact absurd rfl hne
           | cons u r => rfl
theorem sidesS_ne {s : List UInt8} {i j : Nat} {l : List Rx} (hi : i ≤ s.length) (h : sidesS s i = .ok l j) : l ≠ []:=by
 cases hC : catS s i with
 | bad k => rw [sidesS_bad hC] at h;cases h
 | ok t k =>
   by_cases hk : s[k]? = some 124
   ·rw [sidesS_more hi hC hk] at h
    cases hB : sidesS s (k + 1) with
    | bad m => rw [hB] at h;cases h
    | ok l' m => rw [hB] at h;cases h;simp
   ·rw [sidesS_one hC hk] at h;cases h;simp
theorem orS_sides {s : List UInt8} : ∀ (n i : Nat),s.length - i ≤ n → i ≤ s.length → orS s i = (sidesS s i).to altLs:=by
 intro n
 induction n with
 | zero =>
   intro i hn hi
   cases hC : catS s i with
   | bad k => rw [orS_bad hC,sidesS_bad hC];rfl
   | ok t j =>
     obtain ⟨g1,_⟩:=(read_ok _ i (Nat.le_refl _) hi).2.1 _ _ hC
     have hj : s[j]? ≠ some 124:=fun h => by have:=getE_lt h;omega
     rw [orS_one hC hj,sidesS_one hC hj];rfl
 | succ n ih =>
   intro i hn hi
   cases hC : catS s i with
   | bad k => rw [orS_bad hC,sidesS_bad hC];rfl
   | ok t j =>
     obtain ⟨g1,_⟩:=(read_ok _ i (Nat.le_refl _) hi).2.1 _ _ hC
     by_cases hj : s[j]? = some 124
     ·have:=getE_lt hj
      rw [orS_more hi hC hj,sidesS_more hi hC hj,ih (j + 1) (by omega) (by omega)]
      cases hB : sidesS s (j + 1) with
      | bad m => rfl
      | ok l m =>
        have hne:=sidesS_ne (by omega) hB
        cases l with
        | nil => exact absurd rfl hne
        | cons u r => rfl
     ·rw [orS_one hC hj,sidesS_one hC hj];rfl
theorem orS_all (s : List UInt8) (i : Nat) (hi : i ≤ s.length) : orS s i = (sidesS s i).to altLs:=orS_sides _ i (Nat.le_refl _) hi
theorem catS_all (s : List UInt8) (i : Nat) (hi : i ≤ s.length) : catS s i = (atomsS s i).to catLs:=catS_atoms _ i (Nat.le_refl _) hi
def joinN (op : Int) (e : List Nd) : List (List Nd) → List Nd
 | [] => e
 | [x] => x
 | x :: y :: r => ⟨op,zc⟩ :: (x ++ joinN op e (y :: r))
def sumN : List (List Nd) → Nat
 | [] => 0
 | x :: r => x.length + 1 + sumN r
theorem sumN_app (a b : List (List Nd)) : sumN (a ++ b) = sumN a + sumN b:=by
 induction a with
 | nil => simp [sumN]
 | cons x r ih => simp [sumN,ih];omega
theorem joinN_le (op : Int) (e : List Nd) : ∀ l : List (List Nd),l ≠ [] → (joinN op e l).length + 1 ≤ sumN l
 | [],h => absurd rfl h
 | [x],_ => by simp [joinN,sumN]
 | x :: y :: r,_ => by
   have:=joinN_le op e (y :: r) (by simp)
   simp only [joinN,sumN,List.length_cons,List.length_append] at this ⊢
   omega
theorem joinN_pos (op : Int) (e : List Nd) (l : List (List Nd)) (h : ∀ x ∈ l,0 < x.length) (he : l = [] → 0 < e.length) : 0 < (joinN op e l).length:=by
 cases l with
 | nil => exact he rfl
 | cons x r =>
   cases r with
   | nil => exact h x (by simp)
   | cons y r => simp only [joinN,List.length_cons];omega
theorem joinN_cat : ∀ ts : List Rx,joinN 3 [⟨2,zc⟩] (ts.map flat) = flat (catLs ts)
 | [] => rfl
 | [t] => rfl
 | t :: u :: r => by
   have:=joinN_cat (u :: r)
   simp only [List.map_cons] at this ⊢
   rw [joinN,this]
   rfl
theorem joinN_alt : ∀ ts : List Rx,ts ≠ [] → joinN 4 [] (ts.map flat) = flat (altLs ts)
 | [],h => absurd rfl h
 | [t],_ => rfl
 | t :: u :: r,_ => by
   have:=joinN_alt (u :: r) (by simp)
   simp only [List.map_cons] at this ⊢
   rw [joinN,this]
   rfl
def AtomsIn (s : List UInt8) (i j : Nat) (bad : Option Nat) (rows : List (List Nd)) : Prop :=
 (∀ x ∈ rows,0 < x.length) ∧ i ≤ s.length ∧ match bad with
 | none => ∃ ts,rows = ts.map flat ∧ atomsS s i = (atomsS s j).pre ts ∧ i ≤ j ∧ j ≤ s.length ∧ sumN rows + 2 * i ≤ 2 * j
 | some k => atomsS s i = .bad k ∧ rows ≠ [] ∧ sumN rows + 2 * i ≤ 2 * s.length + 1 ∧ j + i ≤ 2 * s.length + 3
def atomR (s : List UInt8) (i : Nat) : PR Rx:=match atomS s i with
 | .bad k => .bad k
 | .ok t j => .ok (signsS s j t).1 (signsS s j t).2
def OutIs (r : PR Rx) (s : List UInt8) (i m : Nat) (j : Nat) (bad : Option Nat) (l : List Nd) : Prop :=
 0 < l.length ∧ match bad with
 | none => ∃ t,r = .ok t j ∧ l = flat t ∧ i ≤ j ∧ j ≤ s.length ∧ l.length + 2 * i ≤ 2 * j + m
 | some k => r = .bad k ∧ l.length + 2 * i ≤ 2 * s.length + m ∧ j + i ≤ 2 * s.length + 3
theorem AtomsIn.start {s : List UInt8} {i : Nat} (h : i ≤ s.length) : AtomsIn s i i none [] :=
 ⟨by simp,h,[],rfl,(PR.pre_nil _).symm,Nat.le_refl _,h,by simp [sumN]⟩
theorem atomR_ok {s : List UInt8} {i j : Nat} {t : Rx} (hi : i ≤ s.length) (h : atomR s i = .ok t j) : i < j ∧ j ≤ s.length ∧ okT t ∧ (flat t).length + 1 + 2 * i ≤ 2 * j:=by
 unfold atomR at h
 cases hA : atomS s i with
 | bad k => rw [hA] at h;cases h
 | ok u k =>
   rw [hA] at h
   cases h
   obtain ⟨g1,g2,g3,g4⟩:=(read_ok _ i (Nat.le_refl _) hi).1 _ _ hA
   obtain ⟨k1,k2,k3,k4,_⟩:=signsS_ok _ k u (Nat.le_refl _) g2 g3
   exact ⟨by omega,k2,k3,by omega⟩
theorem AtomsIn.more {s : List UInt8} {i j j' : Nat} {rows : List (List Nd)} {bad : Option Nat} {l : List Nd} (h : AtomsIn s i j none rows) (hst : stopS s j = false) (ho : OutIs (atomR s j) s j 0 j' bad l) :
 AtomsIn s i j' bad (rows ++ [l]):=by
 obtain ⟨hp,hi,ts,hr,ha,h1,h2,h3⟩:=h
 obtain ⟨hl,ho⟩:=ho
 have hp2 : ∀ x ∈ rows ++ [l],0 < x.length:=by
  intro x hx
  rcases List.mem_append.1 hx with hx | hx
  ·exact hp x hx
  ·obtain rfl : x = l:=by simpa using hx
   exact hl
 have hs : sumN (rows ++ [l]) = sumN rows + (l.length + 1):=by rw [sumN_app];simp [sumN]
 cases bad with
 | none =>
   obtain ⟨t,hA,rfl,g1,g2,g3⟩:=ho
   have hok:=atomR_ok h2 hA
   refine ⟨hp2,hi,ts ++ [t],by simp [hr],?_,by omega,g2,by rw [hs];omega⟩
   unfold atomR at hA
   cases hB : atomS s j with
   | bad k => rw [hB] at hA;cases hA
   | ok u k =>
     rw [hB] at hA
     cases hA
     rw [ha,atomsS_more hst hB,PR.pre_pre]
 | some k =>
   obtain ⟨hA,g1,g2⟩:=ho
   refine ⟨hp2,hi,?_,by simp,by rw [hs];omega,by omega⟩
   unfold atomR at hA
   cases hB : atomS s j with
   | bad k' => rw [hB] at hA;cases hA;rw [ha,atomsS_bad hst hB];rfl
   | ok u k' => rw [hB] at hA;cases hA
theorem AtomsIn.row {s : List UInt8} {i j : Nat} {rows : List (List Nd)} {bad : Option Nat} (h : AtomsIn s i j bad rows) (hst : bad = none → stopS s j = true) :
 OutIs (catS s i) s i 1 j bad (joinN 3 [⟨2,zc⟩] rows):=by
 obtain ⟨hp,hi,h⟩:=h
 refine ⟨joinN_pos _ _ _ hp (fun _ => by simp),?_⟩
 cases bad with
 | none =>
   obtain ⟨ts,hr,ha,h1,h2,h3⟩:=h
   have hc : catS s i = .ok (catLs ts) j:=by
    rw [catS_all s i hi,ha,atomsS_stop (hst rfl)]
    simp [PR.pre,PR.to]
   refine ⟨catLs ts,hc,by rw [hr,joinN_cat],h1,h2,?_⟩
   have:=((read_ok _ i (Nat.le_refl _) hi).2.1 _ _ hc).2.2.2.1
   rw [hr,joinN_cat]
   exact this
 | some k =>
   obtain ⟨ha,hne,h1,h2⟩:=h
   refine ⟨by rw [catS_all s i hi,ha];rfl,?_,h2⟩
   have:=joinN_le 3 [⟨2,zc⟩] rows hne
   omega
def SidesIn (s : List UInt8) (i j : Nat) (rows : List (List Nd)) : Prop :=
 (∀ x ∈ rows,0 < x.length) ∧ i ≤ s.length ∧ ∃ ts,rows = ts.map flat ∧ sidesS s i = (sidesS s j).pre ts ∧ i ≤ j ∧ j ≤ s.length ∧ sumN rows + 2 * i ≤ 2 * j
def SidesOut (s : List UInt8) (i j : Nat) (bad : Option Nat) (rows : List (List Nd)) : Prop :=
 (∀ x ∈ rows,0 < x.length) ∧ i ≤ s.length ∧ rows ≠ [] ∧ match bad with
 | none => ∃ ts,rows = ts.map flat ∧ sidesS s i = .ok ts j ∧ i ≤ j ∧ j ≤ s.length ∧ sumN rows + 2 * i ≤ 2 * j + 2
 | some k => sidesS s i = .bad k ∧ sumN rows + 2 * i ≤ 2 * s.length + 2 ∧ j + i ≤ 2 * s.length + 3
theorem SidesIn.start {s : List UInt8} {i : Nat} (h : i ≤ s.length) : SidesIn s i i [] :=
 ⟨by simp,h,[],rfl,(PR.pre_nil _).symm,Nat.le_refl _,h,by simp [sumN]⟩
theorem pos_snoc {rows : List (List Nd)} {l : List Nd} (hp : ∀ x ∈ rows,0 < x.length) (hl : 0 < l.length) : ∀ x ∈ rows ++ [l],0 < x.length:=by
 intro x hx
 rcases List.mem_append.1 hx with hx | hx
 ·exact hp x hx
 ·obtain rfl : x = l:=by simpa using hx
  exact hl
theorem SidesIn.more {s : List UInt8} {i j j' : Nat} {rows : List (List Nd)} {l : List Nd} (h : SidesIn s i j rows) (ho : OutIs (catS s j) s j 1 j' none l) (hb : s[j']? = some 124) : SidesIn s i (j' + 1) (rows ++ [l]):=by
 obtain ⟨hp,hi,ts,hr,ha,h1,h2,h3⟩:=h
 obtain ⟨hl,t,hc,rfl,g1,g2,g3⟩:=ho
 have hs : sumN (rows ++ [flat t]) = sumN rows + ((flat t).length + 1):=by rw [sumN_app];simp [sumN]
 have:=getE_lt hb
 exact ⟨pos_snoc hp hl,hi,ts ++ [t],by simp [hr],by rw [ha,sidesS_more h2 hc hb,PR.pre_pre],by omega,by omega,by rw [hs];omega⟩
theorem SidesIn.last {s : List UInt8} {i j j' : Nat} {rows : List (List Nd)} {bad : Option Nat} {l : List Nd} (h : SidesIn s i j rows) (ho : OutIs (catS s j) s j 1 j' bad l) (hb : bad = none → s[j']? ≠ some 124) : SidesOut s i j' bad (rows ++ [l]):=by
 obtain ⟨hp,hi,ts,hr,ha,h1,h2,h3⟩:=h
 obtain ⟨hl,ho⟩:=ho
 have hs : sumN (rows ++ [l]) = sumN rows + (l.length + 1):=by rw [sumN_app];simp [sumN]
 refine ⟨pos_snoc hp hl,hi,by simp,?_⟩
 cases bad with
 | none =>
   obtain ⟨t,hc,rfl,g1,g2,g3⟩:=ho
   exact ⟨ts ++ [t],by simp [hr],by rw [ha,sidesS_one hc (hb rfl)];rfl,by omega,g2,by rw [hs];omega⟩
 | some k =>
   obtain ⟨hc,g1,g2⟩:=ho
   exact ⟨by rw [ha,sidesS_bad hc];rfl,by rw [hs];omega,by omega⟩
theorem SidesOut.all {s : List UInt8} {i j : Nat} {rows : List (List Nd)} {bad : Option Nat} (h : SidesOut s i j bad rows) : OutIs (orS s i) s i 1 j bad (joinN 4 [] rows):=by
 obtain ⟨hp,hi,hne,h⟩:=h
 refine ⟨joinN_pos _ _ _ hp (fun e => absurd e hne),?_⟩
 have hle:=joinN_le 4 [] rows hne
 cases bad with
 | none =>
   obtain ⟨ts,hr,ha,h1,h2,h3⟩:=h
   have ht : ts ≠ []:=fun e => hne (by rw [hr,e];rfl)
   exact ⟨altLs ts,by rw [orS_all s i hi,ha];rfl,by rw [hr,joinN_alt ts ht],h1,h2,by omega⟩
 | some k =>
   obtain ⟨ha,h1,h2⟩:=h
   exact ⟨by rw [orS_all s i hi,ha];rfl,by omega,h2⟩
end Wf
namespace Go.Proofs.YthhcpbfgoofppaaGreatDoor
open Go.RowKit Wf
def badI : Option Nat → Int
 | none => -1
 | some k => (k : Int)
structure RW (w0 : World) (rb : Nat) (s : ByteArray) (i : Nat) (bad : Option Nat) (w : World) : Prop where
 par : Blk w rb 172 #[.string s,.int .i64 (i : Int),.int .i64 (badI bad)]
 grow : w0.grownBy w (some rb)
 lt : rb < w0.heap.size
section
variable {w0 w w' : World} {rb i j : Nat} {bad bad' : Option Nat} {s : ByteArray}
theorem RW.start (h : Blk w rb 172 #[.string s,.int .i64 (i : Int),.int .i64 (badI bad)]) : RW w rb s i bad w:=⟨h,⟨rfl,rfl,rfl,Nat.le_refl _,fun _ _ _ => rfl⟩,h.lt⟩
theorem RW.trans (h : RW w0 rb s i bad w) (h' : RW w rb s j bad' w') : RW w0 rb s j bad' w':=⟨h'.par,h.grow.trans h'.grow,h.lt⟩
theorem RW.here (h : RW w0 rb s i bad w) : RW w rb s i bad w:=RW.start h.par
theorem RW.below (h : RW w0 rb s i bad w) (hb : Below w.heap.size w w') : RW w0 rb s i bad w':=⟨h.par.kept hb,h.grow.trans ⟨hb.os,hb.tape,hb.output,hb.size,fun q hq _ => hb.block q hq⟩,h.lt⟩
theorem RW.at (h : RW w0 rb s i bad w) (j : Nat) : RW w0 rb s j bad (w.setCell ⟨rb,1,none⟩ (.int .i64 (j : Int))) :=
 ⟨h.par.set_ 1 _,h.grow.trans ⟨rfl,rfl,rfl,by simp,fun q _ hn => Below.heap_setCell w _ _ q (fun e => hn (by rw [e]))⟩,h.lt⟩
theorem RW.c0 (h : RW w0 rb s i bad w) : w.cell? ⟨rb,0,none⟩ = some (.string s):=h.par.cell 0
theorem RW.c1 (h : RW w0 rb s i bad w) : w.cell? ⟨rb,1,none⟩ = some (.int .i64 (i : Int)):=h.par.cell 1
theorem RW.f1 (h : RW w0 rb s i bad w) : w.frozen? ⟨rb,1,none⟩ = false:=h.par.frozen 1
end
end Go.Proofs.YthhcpbfgoofppaaGreatDoor
