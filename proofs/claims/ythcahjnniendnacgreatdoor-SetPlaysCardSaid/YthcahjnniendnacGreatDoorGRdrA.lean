/-
  Prd, Pre, RdrA, RdrB, RdrC.
-/
import Derived.Test.YthcahjnniendnacGreatDoorGPy
import Derived.Test.YthcahjnniendnacGreatDoorGRw
import Derived.BigQuiet
set_option linter.unusedVariables false
set_option linter.unusedSimpArgs false
set_option maxRecDepth 100000
set_option maxHeartbeats 8000000
open Go.Lib (hid)
namespace Wf
def catLs : List Rx → Rx
 | [] => .empty
 | [t] => t
 | t :: u :: r => .cat t (catLs (u :: r))
def altLs : List Rx → Rx
 | [] => .empty
 | [t] => t
 | t :: u :: r => .alt t (altLs (u :: r))
def PR.pre {α : Type} (a : List α) : PR (List α) → PR (List α)
 | .bad k => .bad k
 | .ok l k => .ok (a ++ l) k
def PR.to {α β : Type} (f : α → β) : PR α → PR β
 | .bad k => .bad k
 | .ok l k => .ok (f l) k
theorem PR.pre_nil {α : Type} (r : PR (List α)) : r.pre [] = r:=by cases r <;> simp [PR.pre]
theorem PR.pre_pre {α : Type} (a b : List α) (r : PR (List α)) : (r.pre b).pre a = r.pre (a ++ b):=by cases r <;> simp [PR.pre]
def atomsS (s : List UInt8) (i : Nat) : PR (List Rx) :=
 if stopS s i = true then .ok [] i
 else match atomS s i with
  | .bad k => .bad k
  | .ok t j => if i < (signsS s j t).2 ∧ i ≤ s.length then (atomsS s (signsS s j t).2).pre [(signsS s j t).1] else .bad 0
termination_by s.length + 1 - i
def sidesS (s : List UInt8) (i : Nat) : PR (List Rx) :=
 match catS s i with
 | .bad k => .bad k
 | .ok t j => if s[j]? = some 124 then (if i ≤ j ∧ i ≤ s.length then (sidesS s (j + 1)).pre [t] else .bad 0) else .ok [t] j
termination_by s.length + 1 - i
theorem atomsS_stop {s : List UInt8} {i : Nat} (h : stopS s i = true) : atomsS s i = .ok [] i:=by rw [atomsS,if_pos h]
theorem atomsS_bad {s : List UInt8} {i k : Nat} (h : stopS s i = false) (ha : atomS s i = .bad k) : atomsS s i = .bad k:=by rw [atomsS,if_neg (by simp [h]),ha]
theorem atomsS_more {s : List UInt8} {i j : Nat} {t : Rx} (h : stopS s i = false) (ha : atomS s i = .ok t j) : atomsS s i = (atomsS s (signsS s j t).2).pre [(signsS s j t).1]:=by
 have hi:=stopS_no h
 obtain ⟨g1,g2,g3,_⟩:=(read_ok _ i (Nat.le_refl _) (by omega)).1 _ _ ha
 obtain ⟨k1,_⟩:=signsS_ok _ j t (Nat.le_refl _) g2 g3
 rw [atomsS,if_neg (by simp [h]),ha]
 dsimp only
 rw [if_pos (by omega)]
theorem sidesS_bad {s : List UInt8} {i k : Nat} (h : catS s i = .bad k) : sidesS s i = .bad k:=by rw [sidesS,h]
theorem sidesS_one {s : List UInt8} {i j : Nat} {t : Rx} (h : catS s i = .ok t j) (hj : s[j]? ≠ some 124) : sidesS s i = .ok [t] j:=by
 rw [sidesS,h]
 dsimp only
 rw [if_neg hj]
theorem sidesS_more {s : List UInt8} {i j : Nat} {t : Rx} (hi : i ≤ s.length) (h : catS s i = .ok t j) (hj : s[j]? = some 124) : sidesS s i = (sidesS s (j + 1)).pre [t]:=by
 obtain ⟨g1,_⟩:=(read_ok _ i (Nat.le_refl _) hi).2.1 _ _ h
 rw [sidesS,h]
 dsimp only
 rw [if_pos hj,if_pos ⟨g1,hi⟩]
theorem atomsS_ne {s : List UInt8} {i j : Nat} {l : List Rx} (h : stopS s i = false) (ha : atomsS s i = .ok l j) : l ≠ []:=by
 cases hA : atomS s i with
 | bad k => rw [atomsS_bad h hA] at ha;cases ha
 | ok t k =>
   rw [atomsS_more h hA] at ha
   cases hB : atomsS s (signsS s k t).2 with
   | bad m => rw [hB] at ha;cases ha
   | ok l' m => rw [hB] at ha;cases ha;simp
theorem catS_atoms {s : List UInt8} : ∀ (n i : Nat),s.length - i ≤ n → i ≤ s.length → catS s i = (atomsS s i).to catLs:=by
 intro n
 induction n with
 | zero =>
   intro i hn hi
   have hst : stopS s i = true:=by
    cases h : stopS s i with
    | true => rfl
    | false => have:=stopS_no h;omega
   rw [catS_end hst,atomsS_stop hst];rfl
 | succ n ih =>
   intro i hn hi
   cases h : stopS s i with
   | true => rw [catS_end h,atomsS_stop h];rfl
   | false =>
     cases hA : atomS s i with
     | bad k => rw [catS_bad h hA,atomsS_bad h hA];rfl
     | ok t j =>
       obtain ⟨g1,g2,g3,_⟩:=(read_ok _ i (Nat.le_refl _) hi).1 _ _ hA
       obtain ⟨k1,k2,_⟩:=signsS_ok _ j t (Nat.le_refl _) g2 g3
       rw [atomsS_more h hA]
       cases h2 : stopS s (signsS s j t).2 with
       | true =>
         rw [catS_one h hA h2,atomsS_stop h2]
         rfl
       | false =>
         rw [catS_more h hA h2,ih _ (by omega) k2]
         cases hB : atomsS s (signsS s j t).2 with
         | bad m => rfl
         | ok l m =>
           have hne:=atomsS_ne h2 hB
           cases l with
           | nil => exact absurd rfl hne
           | cons u r => rfl
theorem sidesS_ne {s : List UInt8} {i j : Nat} {l : List Rx} (hi : i ≤ s.length) (h : sidesS s i = .ok l j) : l ≠ []:=by
 cases hC : catS s i with
 | bad k => rw [sidesS_bad hC] at h;cases h
 | ok t k =>
   by_cases hk : s[k]? = some 124
   ·rw [sidesS_more hi hC hk] at h
    cases hB : sidesS s (k + 1) with
    | bad m => rw [hB] at h;cases h
    | ok l' m => rw [hB] at h;cases h;simp
   ·rw [sidesS_one hC hk] at h;cases h;simp
theorem orS_sides {s : List UInt8} : ∀ (n i : Nat),s.length - i ≤ n → i ≤ s.length → orS s i = (sidesS s i).to altLs:=by
 intro n
 induction n with
 | zero =>
   intro i hn hi
   cases hC : catS s i with
   | bad k => rw [orS_bad hC,sidesS_bad hC];rfl
   | ok t j =>
     obtain ⟨g1,_⟩:=(read_ok _ i (Nat.le_refl _) hi).2.1 _ _ hC
     have hj : s[j]? ≠ some 124:=fun h => by have:=getE_lt h;omega
     rw [orS_one hC hj,sidesS_one hC hj];rfl
 | succ n ih =>
   intro i hn hi
   cases hC : catS s i with
   | bad k => rw [orS_bad hC,sidesS_bad hC];rfl
   | ok t j =>
     obtain ⟨g1,_⟩:=(read_ok _ i (Nat.le_refl _) hi).2.1 _ _ hC
     by_cases hj : s[j]? = some 124
     ·have:=getE_lt hj
      rw [orS_more hi hC hj,sidesS_more hi hC hj,ih (j + 1) (by omega) (by omega)]
      cases hB : sidesS s (j + 1) with
      | bad m => rfl
      | ok l m =>
        have hne:=sidesS_ne (by omega) hB
        cases l with
        | nil => exact absurd rfl hne
        | cons u r => rfl
     ·rw [orS_one hC hj,sidesS_one hC hj];rfl
theorem orS_all (s : List UInt8) (i : Nat) (hi : i ≤ s.length) : orS s i = (sidesS s i).to altLs:=orS_sides _ i (Nat.le_refl _) hi
theorem catS_all (s : List UInt8) (i : Nat) (hi : i ≤ s.length) : catS s i = (atomsS s i).to catLs:=catS_atoms _ i (Nat.le_refl _) hi
def joinN (op : Int) (e : List Nd) : List (List Nd) → List Nd
 | [] => e
 | [x] => x
 | x :: y :: r => ⟨op,zc⟩ :: (x ++ joinN op e (y :: r))
def sumN : List (List Nd) → Nat
 | [] => 0
 | x :: r => x.length + 1 + sumN r
theorem sumN_app (a b : List (List Nd)) : sumN (a ++ b) = sumN a + sumN b:=by
 induction a with
 | nil => simp [sumN]
 | cons x r ih => simp [sumN,ih];omega
theorem sumN_drop (l : List (List Nd)) (k : Nat) : sumN (l.drop k) ≤ sumN l:=by
 induction l generalizing k with
 | nil => simp [sumN]
 | cons x r ih =>
   cases k with
   | zero => exact Nat.le_refl _
   | succ k => have:=ih k;simp only [List.drop_succ_cons,sumN];omega
theorem sumN_len (l : List (List Nd)) : l.length ≤ sumN l:=by
 induction l with
 | nil => simp
 | cons x r ih => simp only [List.length_cons,sumN];omega
theorem sumN_get (l : List (List Nd)) : ∀ (k : Nat) (x : List Nd),l[k]? = some x → x.length + 1 ≤ sumN l:=by
 induction l with
 | nil => intro k x h;simp at h
 | cons y r ih =>
   intro k x h
   cases k with
   | zero => simp at h;subst h;simp only [sumN];omega
   | succ k => have:=ih k x (by simpa using h);simp only [sumN];omega
theorem joinN_len (op : Int) (e : List Nd) : ∀ l : List (List Nd),(joinN op e l).length ≤ e.length + sumN l
 | [] => by simp [joinN]
 | [x] => by simp [joinN,sumN];omega
 | x :: y :: r => by
   have:=joinN_len op e (y :: r)
   simp only [joinN,sumN,List.length_cons,List.length_append] at this ⊢
   omega
theorem joinN_le (op : Int) (e : List Nd) : ∀ l : List (List Nd),l ≠ [] → (joinN op e l).length + 1 ≤ sumN l
 | [],h => absurd rfl h
 | [x],_ => by simp [joinN,sumN]
 | x :: y :: r,_ => by
   have:=joinN_le op e (y :: r) (by simp)
   simp only [joinN,sumN,List.length_cons,List.length_append] at this ⊢
   omega
theorem joinN_pos (op : Int) (e : List Nd) (l : List (List Nd)) (h : ∀ x ∈ l,0 < x.length) (he : l = [] → 0 < e.length) : 0 < (joinN op e l).length:=by
 cases l with
 | nil => exact he rfl
 | cons x r =>
   cases r with
   | nil => exact h x (by simp)
   | cons y r => simp only [joinN,List.length_cons];omega
theorem joinN_last (op : Int) (e : List Nd) {l : List (List Nd)} {k : Nat} {x : List Nd} (h : l[k]? = some x) (hk : k + 1 = l.length) : joinN op e (l.drop k) = x:=by
 obtain ⟨hlt,hx⟩:=List.getElem?_eq_some_iff.1 h
 rw [List.drop_eq_getElem_cons hlt,hx,hk,List.drop_length]
 rfl
theorem joinN_step (op : Int) (e : List Nd) {l : List (List Nd)} {k : Nat} {x : List Nd} (h : l[k]? = some x) (hk : k + 1 < l.length) : joinN op e (l.drop k) = ⟨op,zc⟩ :: (x ++ joinN op e (l.drop (k + 1))):=by
 obtain ⟨hlt,hx⟩:=List.getElem?_eq_some_iff.1 h
 rw [List.drop_eq_getElem_cons hlt,hx,List.drop_eq_getElem_cons hk]
 rfl
theorem joinN_cat : ∀ ts : List Rx,joinN 3 [⟨2,zc⟩] (ts.map flat) = flat (catLs ts)
 | [] => rfl
 | [t] => rfl
 | t :: u :: r => by
   have:=joinN_cat (u :: r)
   simp only [List.map_cons] at this ⊢
   rw [joinN,this]
   rfl
theorem joinN_alt : ∀ ts : List Rx,ts ≠ [] → joinN 4 [] (ts.map flat) = flat (altLs ts)
 | [],h => absurd rfl h
 | [t],_ => rfl
 | t :: u :: r,_ => by
   have:=joinN_alt (u :: r) (by simp)
   simp only [List.map_cons] at this ⊢
   rw [joinN,this]
   rfl
def AtomsIn (s : List UInt8) (i j : Nat) (bad : Option Nat) (rows : List (List Nd)) : Prop :=
 (∀ x ∈ rows,0 < x.length) ∧ i ≤ s.length ∧ match bad with
 | none => ∃ ts,rows = ts.map flat ∧ atomsS s i = (atomsS s j).pre ts ∧ i ≤ j ∧ j ≤ s.length ∧ sumN rows + 2 * i ≤ 2 * j
 | some k => atomsS s i = .bad k ∧ rows ≠ [] ∧ sumN rows + 2 * i ≤ 2 * s.length + 1 ∧ j + i ≤ 2 * s.length + 3
def atomR (s : List UInt8) (i : Nat) : PR Rx:=match atomS s i with
 | .bad k => .bad k
 | .ok t j => .ok (signsS s j t).1 (signsS s j t).2
def OutIs (r : PR Rx) (s : List UInt8) (i m : Nat) (j : Nat) (bad : Option Nat) (l : List Nd) : Prop :=
 0 < l.length ∧ match bad with
 | none => ∃ t,r = .ok t j ∧ l = flat t ∧ i ≤ j ∧ j ≤ s.length ∧ l.length + 2 * i ≤ 2 * j + m
 | some k => r = .bad k ∧ l.length + 2 * i ≤ 2 * s.length + m ∧ j + i ≤ 2 * s.length + 3
theorem AtomsIn.start {s : List UInt8} {i : Nat} (h : i ≤ s.length) : AtomsIn s i i none [] :=
 ⟨by simp,h,[],rfl,(PR.pre_nil _).symm,Nat.le_refl _,h,by simp [sumN]⟩
theorem atomR_ok {s : List UInt8} {i j : Nat} {t : Rx} (hi : i ≤ s.length) (h : atomR s i = .ok t j) : i < j ∧ j ≤ s.length ∧ okT t ∧ (flat t).length + 1 + 2 * i ≤ 2 * j:=by
 unfold atomR at h
 cases hA : atomS s i with
 | bad k => rw [hA] at h;cases h
 | ok u k =>
   rw [hA] at h
   cases h
   obtain ⟨g1,g2,g3,g4⟩:=(read_ok _ i (Nat.le_refl _) hi).1 _ _ hA
   obtain ⟨k1,k2,k3,k4,_⟩:=signsS_ok _ k u (Nat.le_refl _) g2 g3
   exact ⟨by omega,k2,k3,by omega⟩
theorem AtomsIn.more {s : List UInt8} {i j j' : Nat} {rows : List (List Nd)} {bad : Option Nat} {l : List Nd} (h : AtomsIn s i j none rows) (hst : stopS s j = false) (ho : OutIs (atomR s j) s j 0 j' bad l) :
 AtomsIn s i j' bad (rows ++ [l]):=by
 obtain ⟨hp,hi,ts,hr,ha,h1,h2,h3⟩:=h
 obtain ⟨hl,ho⟩:=ho
 have hp2 : ∀ x ∈ rows ++ [l],0 < x.length:=by
  intro x hx
  rcases List.mem_append.1 hx with hx | hx
  ·exact hp x hx
  ·obtain rfl : x = l:=by simpa using hx
   exact hl
 have hs : sumN (rows ++ [l]) = sumN rows + (l.length + 1):=by rw [sumN_app];simp [sumN]
 cases bad with
 | none =>
   obtain ⟨t,hA,rfl,g1,g2,g3⟩:=ho
   have hok:=atomR_ok h2 hA
   refine ⟨hp2,hi,ts ++ [t],by simp [hr],?_,by omega,g2,by rw [hs];omega⟩
   unfold atomR at hA
   cases hB : atomS s j with
   | bad k => rw [hB] at hA;cases hA
   | ok u k =>
     rw [hB] at hA
     cases hA
     rw [ha,atomsS_more hst hB,PR.pre_pre]
 | some k =>
   obtain ⟨hA,g1,g2⟩:=ho
   refine ⟨hp2,hi,?_,by simp,by rw [hs];omega,by omega⟩
   unfold atomR at hA
   cases hB : atomS s j with
   | bad k' => rw [hB] at hA;cases hA;rw [ha,atomsS_bad hst hB];rfl
   | ok u k' => rw [hB] at hA;cases hA
theorem AtomsIn.row {s : List UInt8} {i j : Nat} {rows : List (List Nd)} {bad : Option Nat} (h : AtomsIn s i j bad rows) (hst : bad = none → stopS s j = true) :
 OutIs (catS s i) s i 1 j bad (joinN 3 [⟨2,zc⟩] rows):=by
 obtain ⟨hp,hi,h⟩:=h
 refine ⟨joinN_pos _ _ _ hp (fun _ => by simp),?_⟩
 cases bad with
 | none =>
   obtain ⟨ts,hr,ha,h1,h2,h3⟩:=h
   have hc : catS s i = .ok (catLs ts) j:=by
    rw [catS_all s i hi,ha,atomsS_stop (hst rfl)]
    simp [PR.pre,PR.to]
   refine ⟨catLs ts,hc,by rw [hr,joinN_cat],h1,h2,?_⟩
   have:=((read_ok _ i (Nat.le_refl _) hi).2.1 _ _ hc).2.2.2.1
   rw [hr,joinN_cat]
   exact this
 | some k =>
   obtain ⟨ha,hne,h1,h2⟩:=h
   refine ⟨by rw [catS_all s i hi,ha];rfl,?_,h2⟩
   have:=joinN_le 3 [⟨2,zc⟩] rows hne
   omega
def SidesIn (s : List UInt8) (i j : Nat) (rows : List (List Nd)) : Prop :=
 (∀ x ∈ rows,0 < x.length) ∧ i ≤ s.length ∧ ∃ ts,rows = ts.map flat ∧ sidesS s i = (sidesS s j).pre ts ∧ i ≤ j ∧ j ≤ s.length ∧ sumN rows + 2 * i ≤ 2 * j
def SidesOut (s : List UInt8) (i j : Nat) (bad : Option Nat) (rows : List (List Nd)) : Prop :=
 (∀ x ∈ rows,0 < x.length) ∧ i ≤ s.length ∧ rows ≠ [] ∧ match bad with
 | none => ∃ ts,rows = ts.map flat ∧ sidesS s i = .ok ts j ∧ i ≤ j ∧ j ≤ s.length ∧ sumN rows + 2 * i ≤ 2 * j + 2
 | some k => sidesS s i = .bad k ∧ sumN rows + 2 * i ≤ 2 * s.length + 2 ∧ j + i ≤ 2 * s.length + 3
theorem SidesIn.start {s : List UInt8} {i : Nat} (h : i ≤ s.length) : SidesIn s i i [] :=
 ⟨by simp,h,[],rfl,(PR.pre_nil _).symm,Nat.le_refl _,h,by simp [sumN]⟩
theorem pos_snoc {rows : List (List Nd)} {l : List Nd} (hp : ∀ x ∈ rows,0 < x.length) (hl : 0 < l.length) : ∀ x ∈ rows ++ [l],0 < x.length:=by
 intro x hx
 rcases List.mem_append.1 hx with hx | hx
 ·exact hp x hx
 ·obtain rfl : x = l:=by simpa using hx
  exact hl
theorem SidesIn.more {s : List UInt8} {i j j' : Nat} {rows : List (List Nd)} {l : List Nd} (h : SidesIn s i j rows) (ho : OutIs (catS s j) s j 1 j' none l) (hb : s[j']? = some 124) : SidesIn s i (j' + 1) (rows ++ [l]):=by
 obtain ⟨hp,hi,ts,hr,ha,h1,h2,h3⟩:=h
 obtain ⟨hl,t,hc,rfl,g1,g2,g3⟩:=ho
 have hs : sumN (rows ++ [flat t]) = sumN rows + ((flat t).length + 1):=by rw [sumN_app];simp [sumN]
 have:=getE_lt hb
 exact ⟨pos_snoc hp hl,hi,ts ++ [t],by simp [hr],by rw [ha,sidesS_more h2 hc hb,PR.pre_pre],by omega,by omega,by rw [hs];omega⟩
theorem SidesIn.last {s : List UInt8} {i j j' : Nat} {rows : List (List Nd)} {bad : Option Nat} {l : List Nd} (h : SidesIn s i j rows) (ho : OutIs (catS s j) s j 1 j' bad l) (hb : bad = none → s[j']? ≠ some 124) : SidesOut s i j' bad (rows ++ [l]):=by
 obtain ⟨hp,hi,ts,hr,ha,h1,h2,h3⟩:=h
 obtain ⟨hl,ho⟩:=ho
 have hs : sumN (rows ++ [l]) = sumN rows + (l.length + 1):=by rw [sumN_app];simp [sumN]
 refine ⟨pos_snoc hp hl,hi,by simp,?_⟩
 cases bad with
 | none =>
   obtain ⟨t,hc,rfl,g1,g2,g3⟩:=ho
   exact ⟨ts ++ [t],by simp [hr],by rw [ha,sidesS_one hc (hb rfl)];rfl,by omega,g2,by rw [hs];omega⟩
 | some k =>
   obtain ⟨hc,g1,g2⟩:=ho
   exact ⟨by rw [ha,sidesS_bad hc];rfl,by rw [hs];omega,by omega⟩
theorem SidesOut.all {s : List UInt8} {i j : Nat} {rows : List (List Nd)} {bad : Option Nat} (h : SidesOut s i j bad rows) : OutIs (orS s i) s i 1 j bad (joinN 4 [] rows):=by
 obtain ⟨hp,hi,hne,h⟩:=h
 refine ⟨joinN_pos _ _ _ hp (fun e => absurd e hne),?_⟩
 have hle:=joinN_le 4 [] rows hne
 cases bad with
 | none =>
   obtain ⟨ts,hr,ha,h1,h2,h3⟩:=h
   have ht : ts ≠ []:=fun e => hne (by rw [hr,e];rfl)
   exact ⟨altLs ts,by rw [orS_all s i hi,ha];rfl,by rw [hr,joinN_alt ts ht],h1,h2,by omega⟩
 | some k =>
   obtain ⟨ha,h1,h2⟩:=h
   exact ⟨by rw [orS_all s i hi,ha];rfl,by omega,h2⟩
def hexI (b : Nat) : Int:=match hexV (UInt8.ofNat b) with
 | some a => (a : Int)
 | none => -1
theorem hex_tab : ∀ (b : Fin 256) (i : Fin 16),((((⟨#[48,49,50,51,52,53,54,55,56,57,97,98,99,100,101,102]⟩ : ByteArray)[i.val]'i.isLt).toNat = b.val) ↔ hexV (UInt8.ofNat b.val) = some i.val):=by decide +kernel
theorem hexI_some {b i : Nat} (hb : b < 256) (hi : i < 16) (h : (((⟨#[48,49,50,51,52,53,54,55,56,57,97,98,99,100,101,102]⟩ : ByteArray)[i]'hi).toNat = b)) : hexI b = (i : Int):=by
 unfold hexI
 rw [(hex_tab ⟨b,hb⟩ ⟨i,hi⟩).1 h]
theorem hexI_none {b : Nat} (hb : b < 256) (h : ∀ i,∀ hi : i < 16,(((⟨#[48,49,50,51,52,53,54,55,56,57,97,98,99,100,101,102]⟩ : ByteArray)[i]'hi).toNat ≠ b)) : hexI b = -1:=by
 unfold hexI
 cases hx : hexV (UInt8.ofNat b) with
 | none => rfl
 | some a => exact absurd ((hex_tab ⟨b,hb⟩ ⟨a,hexV_lt hx⟩).2 hx) (h a (hexV_lt hx))
end Wf
namespace Go.Proofs.YthcahjnniendnacGreatDoor
open Go.RowKit Wf
def badI : Option Nat → Int
 | none => -1
 | some k => (k : Int)
structure RW (w0 : World) (rb : Nat) (s : ByteArray) (i : Nat) (bad : Option Nat) (w : World) : Prop where
 par : Blk w rb 98 #[.string s,.int .i64 (i : Int),.int .i64 (badI bad)]
 grow : w0.grownBy w (some rb)
 lt : rb < w0.heap.size
section
variable {w0 w w' : World} {rb i j : Nat} {bad bad' : Option Nat} {s : ByteArray}
theorem RW.start (h : Blk w rb 98 #[.string s,.int .i64 (i : Int),.int .i64 (badI bad)]) : RW w rb s i bad w:=⟨h,⟨rfl,rfl,rfl,Nat.le_refl _,fun _ _ _ => rfl⟩,h.lt⟩
theorem RW.trans (h : RW w0 rb s i bad w) (h' : RW w rb s j bad' w') : RW w0 rb s j bad' w':=⟨h'.par,h.grow.trans h'.grow,h.lt⟩
theorem RW.here (h : RW w0 rb s i bad w) : RW w rb s i bad w:=RW.start h.par
theorem RW.below (h : RW w0 rb s i bad w) (hb : Below w.heap.size w w') : RW w0 rb s i bad w':=⟨h.par.kept hb,h.grow.trans ⟨hb.os,hb.tape,hb.output,hb.size,fun q hq _ => hb.block q hq⟩,h.lt⟩
theorem RW.at (h : RW w0 rb s i bad w) (j : Nat) : RW w0 rb s j bad (w.setCell ⟨rb,1,none⟩ (.int .i64 (j : Int))) :=
 ⟨h.par.set_ 1 _,h.grow.trans ⟨rfl,rfl,rfl,by simp,fun q _ hn => Below.heap_setCell w _ _ q (fun e => hn (by rw [e]))⟩,h.lt⟩
theorem RW.fails (h : RW w0 rb s i bad w) (k : Nat) : RW w0 rb s i (some k) (w.setCell ⟨rb,2,none⟩ (.int .i64 (k : Int))) :=
 ⟨h.par.set_ 2 _,h.grow.trans ⟨rfl,rfl,rfl,by simp,fun q _ hn => Below.heap_setCell w _ _ q (fun e => hn (by rw [e]))⟩,h.lt⟩
theorem RW.c0 (h : RW w0 rb s i bad w) : w.cell? ⟨rb,0,none⟩ = some (.string s):=h.par.cell 0
theorem RW.c1 (h : RW w0 rb s i bad w) : w.cell? ⟨rb,1,none⟩ = some (.int .i64 (i : Int)):=h.par.cell 1
theorem RW.c2 (h : RW w0 rb s i bad w) : w.cell? ⟨rb,2,none⟩ = some (.int .i64 (badI bad)):=h.par.cell 2
theorem RW.f1 (h : RW w0 rb s i bad w) : w.frozen? ⟨rb,1,none⟩ = false:=h.par.frozen 1
theorem RW.f2 (h : RW w0 rb s i bad w) : w.frozen? ⟨rb,2,none⟩ = false:=h.par.frozen 2
end
theorem at_getR {s : ByteArray} {i : Nat} {c : UInt8} (h : s.data.toList[i]? = some c) : ∃ hi : i < s.size,s[i] = c:=by
 obtain ⟨hi,he⟩:=List.getElem?_eq_some_iff.1 h
 have hs : i < s.size:=by simpa using hi
 exact ⟨hs,by rw [← he];simp [ByteArray.getElem_eq_getElem_data]⟩
theorem at_noneR {s : ByteArray} {i : Nat} (h : s.data.toList[i]? = none) : s.size ≤ i:=by
 have:=List.getElem?_eq_none_iff.1 h
 simpa using this
def RFailIs (rb : Nat) (s : ByteArray) (i : Nat) (bad : Option Nat) (w : World) (e : Ending) (w' : World) : Prop:=e = .returned (.tuple #[]) ∧ RW w rb s i bad w'
theorem rfail_good {rb : Nat} {s : ByteArray} {i : Nat} (w : World) (h : RW w rb s i none w) (k : Nat) :
 Calls Tryz.prog 40 #[.pointer (some ⟨rb,0,none⟩),.int .i64 (k : Int)] w (RFailIs rb s i (some k) w):=by
 have c2 : w.cell? ⟨rb,2,none⟩ = some (.int .i64 (-1)):=h.c2
 have f2:=h.f2
 have H:=hid (h.fails k)
 clear h
 unfold RFailIs
 go_enter Tryz.func40,Tryz.ntmps40
 go_wp2
 go_end0
 exact ⟨rfl,H.out⟩
theorem rfail_bad {rb : Nat} {s : ByteArray} {i k0 : Nat} (w : World) (h : RW w rb s i (some k0) w) (k : Nat) :
 Calls Tryz.prog 40 #[.pointer (some ⟨rb,0,none⟩),.int .i64 (k : Int)] w (RFailIs rb s i (some k0) w):=by
 have c2 : w.cell? ⟨rb,2,none⟩ = some (.int .i64 (k0 : Int)):=h.c2
 have d : decide ((k0 : Int) < 0) = false:=by simp
 have H:=hid h
 clear h
 unfold RFailIs
 go_enter Tryz.func40,Tryz.ntmps40
 go_wp2
 go_end0
 exact ⟨rfl,H.out⟩
def RSeesIs (b : Bool) (w : World) (e : Ending) (w' : World) : Prop:=e = .returned (.bool b) ∧ Below w.heap.size w w'
theorem rsees_yes {rb : Nat} {s : ByteArray} {i : Nat} {c : UInt8} (w : World) (h : RW w rb s i none w) (hs : s.size ≤ 200) (hc : s.data.toList[i]? = some c) :
 Calls Tryz.prog 64 #[.pointer (some ⟨rb,0,none⟩),.int .u8 (c.toNat : Int)] w (RSeesIs true w):=by
 obtain ⟨hi,he⟩:=at_getR hc
 have c0:=h.c0
 have c1:=h.c1
 have c2 : w.cell? ⟨rb,2,none⟩ = some (.int .i64 (-1)):=h.c2
 have hcond : decide ((i : Int) < (s.size : Int)) = true:=by simp;omega
 have hz : (0 : Int) ≤ (i : Int):=by omega
 have hn : i < s.size:=hi
 have hq : ((s[i].toNat : Int) == (c.toNat : Int)) = true:=by rw [he];simp
 clear h hc he
 unfold RSeesIs
 go_enter Tryz.func64,Tryz.ntmps64
 go_wp2
 go_quiet (fail)
 go_wp2
 go_ret
 exact ⟨rfl,below_drewN (Below.refl _ _) _⟩
theorem rsees_no {rb : Nat} {s : ByteArray} {i : Nat} {c : UInt8} (w : World) (h : RW w rb s i none w) (hs : s.size ≤ 200) (hi2 : i ≤ s.size) (hc : s.data.toList[i]? ≠ some c) :
 Calls Tryz.prog 64 #[.pointer (some ⟨rb,0,none⟩),.int .u8 (c.toNat : Int)] w (RSeesIs false w):=by
 have c0:=h.c0
 have c1:=h.c1
 have c2 : w.cell? ⟨rb,2,none⟩ = some (.int .i64 (-1)):=h.c2
 unfold RSeesIs
 cases hg : s.data.toList[i]? with
 | none =>
   have hi:=at_noneR hg
   have hcond : decide ((i : Int) < (s.size : Int)) = false:=by simp;omega
   have hcond2 : decide (i < s.size) = false:=by simp;omega
   clear h hc hg
   go_enter Tryz.func64,Tryz.ntmps64
   go_wp2
   go_quiet (fail)
   go_wp2
   go_ret
   exact ⟨rfl,below_drewN (Below.refl _ _) _⟩
 | some d =>
   obtain ⟨hi,he⟩:=at_getR hg
   have hne : d.toNat ≠ c.toNat:=fun e => hc (by rw [hg,UInt8.toNat_inj.1 e])
   have hcond : decide ((i : Int) < (s.size : Int)) = true:=by simp;omega
   have hz : (0 : Int) ≤ (i : Int):=by omega
   have hn : i < s.size:=hi
   have hq : ((s[i].toNat : Int) == (c.toNat : Int)) = false:=by rw [he];simp;omega
   clear h hc hg he
   go_enter Tryz.func64,Tryz.ntmps64
   go_wp2
   go_quiet (fail)
   go_wp2
   go_ret
   exact ⟨rfl,below_drewN (Below.refl _ _) _⟩
theorem rsees_bad {rb : Nat} {s : ByteArray} {i k : Nat} (c : Nat) (w : World) (h : RW w rb s i (some k) w) :
 Calls Tryz.prog 64 #[.pointer (some ⟨rb,0,none⟩),.int .u8 (c : Int)] w (RSeesIs false w):=by
 have c0:=h.c0
 have c1:=h.c1
 have c2 : w.cell? ⟨rb,2,none⟩ = some (.int .i64 (k : Int)):=h.c2
 have d : decide ((k : Int) < 0) = false:=by simp
 unfold RSeesIs
 clear h
 go_enter Tryz.func64,Tryz.ntmps64
 go_wp2
 go_quiet (fail)
 go_wp2
 go_ret
 exact ⟨rfl,below_drewN (Below.refl _ _) _⟩
theorem rhex_any (b : Nat) (hb : b < 256) (w : World) : Calls Tryz.prog 120 #[.int .u8 (b : Int)] w (fun e w' => e = .returned (.int .i64 (hexI b)) ∧ w' = w):=by
 have HSP : Hid (∀ i : Nat,∀ hi : i < 16,(((⟨#[48,49,50,51,52,53,54,55,56,57,97,98,99,100,101,102]⟩ : ByteArray)[i]'hi).toNat = b) → hexI b = (i : Int)):=hid fun i hi h => hexI_some hb hi h
 have HNO : Hid ((∀ i : Nat,∀ hi : i < 16,(((⟨#[48,49,50,51,52,53,54,55,56,57,97,98,99,100,101,102]⟩ : ByteArray)[i]'hi).toNat ≠ b)) → hexI b = -1):=hid (hexI_none hb)
 obtain ⟨q,hq⟩ : ∃ q,q = hexI b:=⟨_,rfl⟩
 rw [← hq] at HSP HNO ⊢
 clear hq
 go_enter Tryz.func120,Tryz.ntmps120
 go_wp2
 go_loopw [3] (fun v3 wr => ∃ k : Nat,k ≤ 16 ∧ v3 = .int .i64 (k : Int) ∧ Hid (∀ j : Nat,j < k → ∀ h : j < 16,(((⟨#[48,49,50,51,52,53,54,55,56,57,97,98,99,100,101,102]⟩ : ByteArray)[j]'h).toNat ≠ b)) ∧ wr = w) (fun i _ => 16 - (intOf i).toNat)
 case atStart => exact ⟨0,by omega,rfl,hid (fun j hj => by omega),by first | rfl | trivial⟩
 case round =>
  obtain ⟨k,hk,rfl,hN,rfl⟩:=hrel
  by_cases hlt : k < 16
  ·have hk0 : (0 : Int) ≤ (k : Int):=by omega
   have hk1 : (k : Int) < 16:=by omega
   by_cases hc : (((⟨#[48,49,50,51,52,53,54,55,56,57,97,98,99,100,101,102]⟩ : ByteArray)[k]'hlt).toNat = b)
   ·have hd : ((((⟨#[48,49,50,51,52,53,54,55,56,57,97,98,99,100,101,102]⟩ : ByteArray)[k]'hlt).toNat : Int) = (b : Int)):=by omega
    have HQ:=hid (HSP.out k hlt hc)
    clear hc
    go_wp2
    go_ret
    exact ⟨by rw [HQ.out];rfl,rfl⟩
   ·have hd : ¬ ((((⟨#[48,49,50,51,52,53,54,55,56,57,97,98,99,100,101,102]⟩ : ByteArray)[k]'hlt).toNat : Int) = (b : Int)):=by omega
    have HNN:=hid hc
    clear hc
    go_wp2
    go_roundw
    case rel => exact ⟨k + 1,by omega,by go_num,hid (fun j hj h => by
     by_cases e : j = k
     ·subst e;exact HNN.out
     ·exact hN.out j (by omega) h),trivial⟩
    case measure => simp [intOf];omega
  ·obtain rfl : k = 16:=by omega
   have HQ:=hid (HNO.out (fun j hj => hN.out j hj hj))
   go_wp2
   go_ret
   exact ⟨by rw [HQ.out];rfl,rfl⟩
def ROneAt (rb : Nat) (s : ByteArray) (j a : Nat) (bad : Option Nat) (w : World) (e : Ending) (w' : World) : Prop:=e = .returned (.int .i64 (a : Int)) ∧ RW w rb s j bad w'
def ROneIs (r : PR Nat) (rb : Nat) (s : ByteArray) (i : Nat) (w : World) (e : Ending) (w' : World) : Prop :=
 (∃ a j,r = .ok a j ∧ a < 256 ∧ i < j ∧ j ≤ s.size ∧ ROneAt rb s j a none w e w') ∨ (∃ k a j,r = .bad k ∧ a < 256 ∧ i ≤ j ∧ j ≤ i + 1 ∧ ROneAt rb s j a (some k) w e w')
def HexIn (s : List UInt8) (i m n : Nat) : Prop:=(m = 2 ∧ n = 0) ∨ (m = 3 ∧ n < 16 ∧ ∃ h,s[i + 2]? = some h ∧ hexV h = some n) ∨ (m = 4 ∧ n < 256 ∧ hexS s i = .ok n (i + 4))
theorem HexIn.lt {s : List UInt8} {i m n : Nat} (h : HexIn s i m n) : 2 ≤ m ∧ m ≤ 4 ∧ n < 256 ∧ (m < 4 → n < 16):=by
 rcases h with ⟨h1,h2⟩ | ⟨h1,h2,_⟩ | ⟨h1,h2,_⟩ <;> omega
theorem HexIn.none {s : List UInt8} {i m n : Nat} (h : HexIn s i m n) (h4 : m < 4) (hg : s[i + m]? = none) : hexS s i = .bad s.length:=by
 rcases h with ⟨h1,h2⟩ | ⟨h1,h2,x,h3,h5⟩ | ⟨h1,h2,_⟩
 ·subst h1;unfold hexS;rw [hg]
 ·subst h1;unfold hexS;rw [h3];simp only [h5];rw [hg]
 ·omega
theorem HexIn.bad {s : List UInt8} {i m n : Nat} (h : HexIn s i m n) (h4 : m < 4) {c : UInt8} (hg : s[i + m]? = some c) (hc : hexV c = .none) : hexS s i = .bad i:=by
 rcases h with ⟨h1,h2⟩ | ⟨h1,h2,x,h3,h5⟩ | ⟨h1,h2,_⟩
 ·subst h1;unfold hexS;rw [hg];simp only [hc]
 ·subst h1;unfold hexS;rw [h3];simp only [h5];rw [hg];simp only [hc]
 ·omega
theorem HexIn.next {s : List UInt8} {i m n a : Nat} (h : HexIn s i m n) (h4 : m < 4) {c : UInt8} (hg : s[i + m]? = some c) (hc : hexV c = some a) : HexIn s i (m + 1) (n * 16 + a):=by
 have ha:=hexV_lt hc
 rcases h with ⟨h1,h2⟩ | ⟨h1,h2,x,h3,h5⟩ | ⟨h1,h2,_⟩
 ·subst h1;subst h2;exact .inr (.inl ⟨rfl,by omega,c,hg,by rw [hc];congr 1;omega⟩)
 ·subst h1;exact .inr (.inr ⟨rfl,by omega,by unfold hexS;rw [h3];simp only [h5];rw [hg];simp only [hc]⟩)
 ·omega
theorem hexI_toNat (c : UInt8) : hexI c.toNat = match hexV c with
 | some a => (a : Int)
 | .none => -1:=by
 unfold hexI
 rw [show UInt8.ofNat c.toNat = c by simp]
 all_goals (cases hexV c <;> rfl)
theorem RW.drew {w0 w : World} {rb i : Nat} {bad : Option Nat} {s : ByteArray} (h : RW w0 rb s i bad w) : RW w0 rb s i bad w.drew:=h.below (Below.refl _ _).drew
theorem RW.failing {w0 : World} {rb i : Nat} {s : ByteArray} (k : Nat) : Hid (∀ W,RW w0 rb s i none W → Calls Tryz.prog 40 #[.pointer (some ⟨rb,0,none⟩),.int .i64 (k : Int)] W (RFailIs rb s i (some k) w0)) :=
 hid fun W hW => (rfail_good W hW.here k).mono fun e w' hh => ⟨hh.1,hW.trans hh.2⟩
theorem rone_none {rb : Nat} {s : ByteArray} {i : Nat} (w : World) (h : RW w rb s i none w) (hs : s.size ≤ 200) (hi : s.size = i) :
 Calls Tryz.prog 94 #[.pointer (some ⟨rb,0,none⟩)] w (ROneAt rb s i 0 (some s.size) w):=by
 have a0:=h.c0
 have a1:=h.c1
 have HF:=RW.failing (w0:=w) (rb:=rb) (i:=i) (s:=s) s.size
 have H0:=hid h
 have d : decide ((s.size : Int) ≤ (i : Int)) = true:=by simp;omega
 have d2 : decide (s.size ≤ i) = true:=by simp;omega
 clear h hi
 unfold ROneAt RFailIs at *
 go_enter Tryz.func94,Tryz.ntmps94
 go_wp2_with fail
 go_region
 go_wp2_with fail
 refine (HF.out _ H0.out.drew).mono ?_
 rintro e w1 ⟨rfl,h1⟩
 have b2 : w1.cell? ⟨rb,2,none⟩ = some (.int .i64 (s.size : Int)):=h1.c2
 have d3 : decide ((0 : Int) ≤ (s.size : Int)) = true:=by simp
 have H1:=hid h1
 clear h1
 go_wp2_with fail
 go_ret
 exact ⟨rfl,H1.out⟩
theorem rone_low {rb : Nat} {s : ByteArray} {i : Nat} (w : World) (h : RW w rb s i none w) (hs : s.size ≤ 200) {c : UInt8} (hc : s.data.toList[i]? = some c) (h92 : c ≠ 92) (hb0 : decide ((c.toNat : Int) < 32) = true) :
 Calls Tryz.prog 94 #[.pointer (some ⟨rb,0,none⟩)] w (ROneAt rb s (i + 1) c.toNat (some i) w):=by
 have a0:=h.c0
 have a1:=h.c1
 have a2 : w.cell? ⟨rb,2,none⟩ = some (.int .i64 (-1)):=h.c2
 obtain ⟨hi,he⟩:=at_getR hc
 have hn : i < s.size:=hi
 have hz : (0 : Int) ≤ (i : Int):=by omega
 have hlt : (i : Int) < (s.size : Int):=by omega
 have d : decide ((s.size : Int) ≤ (i : Int)) = false:=by simp;omega
 have d2 : decide (s.size ≤ i) = false:=by simp;omega
 have hb1 : ((c.toNat : Int) != 92) = true:=by
  have : c.toNat ≠ 92:=fun e => h92 (UInt8.toNat_inj.1 e)
  simp;omega
 have HSG : Hid (∀ W,Calls Tryz.prog 80 #[.int .u8 (c.toNat : Int)] W (fun e w' => e = .returned (.bool (decide (c ∈ specialL))) ∧ w' = W)):=hid fun W => by
  have:=RSigned_any c.toNat c.toNat_lt W
  rwa [show UInt8.ofNat c.toNat = c by simp] at this
 have HF:=RW.failing (w0:=w) (rb:=rb) (i:=i) (s:=s) i
 have H0:=hid h
 have hm:=c.toNat_lt
 have hE : (s[i].toNat : Int) = (c.toNat : Int):=by rw [he]
 clear h hc h92 he
 generalize decide (c ∈ specialL) = sg at *
 generalize c.toNat = n at *
 unfold ROneAt at *
 unfold RFailIs at *
 go_enter Tryz.func94,Tryz.ntmps94
 go_wp2_with fail
 go_region
 go_wp2_with fail
 go_region
 go_wp2_with fail
 refine (HSG.out _).mono ?_
 rintro e w1 ⟨rfl,rfl⟩
 go_wp2_with fail
 refine (HF.out _ H0.out.drew.drew).mono ?_
 rintro e w1 ⟨rfl,h1⟩
 have b1:=h1.c1
 have bf:=h1.f1
 have H1:=hid (h1.at (i + 1))
 clear h1
 go_wp2_with fail
 go_ret
 exact ⟨rfl,by have:=H1.out;push_cast at this;exact this⟩
theorem rone_high {rb : Nat} {s : ByteArray} {i : Nat} (w : World) (h : RW w rb s i none w) (hs : s.size ≤ 200) {c : UInt8} (hc : s.data.toList[i]? = some c) (h92 : c ≠ 92) (hb0 : decide ((c.toNat : Int) < 32) = false) (hb1 : decide ((126 : Int) < (c.toNat : Int)) = true) :
 Calls Tryz.prog 94 #[.pointer (some ⟨rb,0,none⟩)] w (ROneAt rb s (i + 1) c.toNat (some i) w):=by
 have a0:=h.c0
 have a1:=h.c1
 have a2 : w.cell? ⟨rb,2,none⟩ = some (.int .i64 (-1)):=h.c2
 obtain ⟨hi,he⟩:=at_getR hc
 have hn : i < s.size:=hi
 have hz : (0 : Int) ≤ (i : Int):=by omega
 have hlt : (i : Int) < (s.size : Int):=by omega
 have d : decide ((s.size : Int) ≤ (i : Int)) = false:=by simp;omega
 have d2 : decide (s.size ≤ i) = false:=by simp;omega
 have hb1 : ((c.toNat : Int) != 92) = true:=by
  have : c.toNat ≠ 92:=fun e => h92 (UInt8.toNat_inj.1 e)
  simp;omega
 have HSG : Hid (∀ W,Calls Tryz.prog 80 #[.int .u8 (c.toNat : Int)] W (fun e w' => e = .returned (.bool (decide (c ∈ specialL))) ∧ w' = W)):=hid fun W => by
  have:=RSigned_any c.toNat c.toNat_lt W
  rwa [show UInt8.ofNat c.toNat = c by simp] at this
 have HF:=RW.failing (w0:=w) (rb:=rb) (i:=i) (s:=s) i
 have H0:=hid h
 have hm:=c.toNat_lt
 have hE : (s[i].toNat : Int) = (c.toNat : Int):=by rw [he]
 clear h hc h92 he
 generalize decide (c ∈ specialL) = sg at *
 generalize c.toNat = n at *
 unfold ROneAt at *
 unfold RFailIs at *
 go_enter Tryz.func94,Tryz.ntmps94
 go_wp2_with fail
 go_region
 go_wp2_with fail
 go_region
 go_wp2_with fail
 refine (HSG.out _).mono ?_
 rintro e w1 ⟨rfl,rfl⟩
 go_wp2_with fail
 refine (HF.out _ H0.out.drew.drew).mono ?_
 rintro e w1 ⟨rfl,h1⟩
 have b1:=h1.c1
 have bf:=h1.f1
 have H1:=hid (h1.at (i + 1))
 clear h1
 go_wp2_with fail
 go_ret
 exact ⟨rfl,by have:=H1.out;push_cast at this;exact this⟩
theorem rone_special {rb : Nat} {s : ByteArray} {i : Nat} (w : World) (h : RW w rb s i none w) (hs : s.size ≤ 200) {c : UInt8} (hc : s.data.toList[i]? = some c) (h92 : c ≠ 92) (hb0 : decide ((c.toNat : Int) < 32) = false) (hb1 : decide ((126 : Int) < (c.toNat : Int)) = false) (hb2 : decide (c ∈ specialL) = true) :
 Calls Tryz.prog 94 #[.pointer (some ⟨rb,0,none⟩)] w (ROneAt rb s (i + 1) c.toNat (some i) w):=by
 have a0:=h.c0
 have a1:=h.c1
 have a2 : w.cell? ⟨rb,2,none⟩ = some (.int .i64 (-1)):=h.c2
 obtain ⟨hi,he⟩:=at_getR hc
 have hn : i < s.size:=hi
 have hz : (0 : Int) ≤ (i : Int):=by omega
 have hlt : (i : Int) < (s.size : Int):=by omega
 have d : decide ((s.size : Int) ≤ (i : Int)) = false:=by simp;omega
 have d2 : decide (s.size ≤ i) = false:=by simp;omega
 have hb1 : ((c.toNat : Int) != 92) = true:=by
  have : c.toNat ≠ 92:=fun e => h92 (UInt8.toNat_inj.1 e)
  simp;omega
 have HSG : Hid (∀ W,Calls Tryz.prog 80 #[.int .u8 (c.toNat : Int)] W (fun e w' => e = .returned (.bool (decide (c ∈ specialL))) ∧ w' = W)):=hid fun W => by
  have:=RSigned_any c.toNat c.toNat_lt W
  rwa [show UInt8.ofNat c.toNat = c by simp] at this
 have HF:=RW.failing (w0:=w) (rb:=rb) (i:=i) (s:=s) i
 have H0:=hid h
 have hm:=c.toNat_lt
 have hE : (s[i].toNat : Int) = (c.toNat : Int):=by rw [he]
 clear h hc h92 he
 rw [hb2] at HSG
 clear hb2
 generalize c.toNat = n at *
 unfold ROneAt at *
 unfold RFailIs at *
 go_enter Tryz.func94,Tryz.ntmps94
 go_wp2_with fail
 go_region
 go_wp2_with fail
 go_region
 go_wp2_with fail
 refine (HSG.out _).mono ?_
 rintro e w1 ⟨rfl,rfl⟩
 go_wp2_with fail
 refine (HF.out _ H0.out.drew.drew).mono ?_
 rintro e w1 ⟨rfl,h1⟩
 have b1:=h1.c1
 have bf:=h1.f1
 have H1:=hid (h1.at (i + 1))
 clear h1
 go_wp2_with fail
 go_ret
 exact ⟨rfl,by have:=H1.out;push_cast at this;exact this⟩
theorem rone_plain {rb : Nat} {s : ByteArray} {i : Nat} (w : World) (h : RW w rb s i none w) (hs : s.size ≤ 200) {c : UInt8} (hc : s.data.toList[i]? = some c) (h92 : c ≠ 92) (hb0 : decide ((c.toNat : Int) < 32) = false) (hb1 : decide ((126 : Int) < (c.toNat : Int)) = false) (hb2 : decide (c ∈ specialL) = false) :
 Calls Tryz.prog 94 #[.pointer (some ⟨rb,0,none⟩)] w (ROneAt rb s (i + 1) c.toNat none w):=by
 have a0:=h.c0
 have a1:=h.c1
 have a2 : w.cell? ⟨rb,2,none⟩ = some (.int .i64 (-1)):=h.c2
 obtain ⟨hi,he⟩:=at_getR hc
 have hn : i < s.size:=hi
 have hz : (0 : Int) ≤ (i : Int):=by omega
 have hlt : (i : Int) < (s.size : Int):=by omega
 have d : decide ((s.size : Int) ≤ (i : Int)) = false:=by simp;omega
 have d2 : decide (s.size ≤ i) = false:=by simp;omega
 have hb1 : ((c.toNat : Int) != 92) = true:=by
  have : c.toNat ≠ 92:=fun e => h92 (UInt8.toNat_inj.1 e)
  simp;omega
 have HSG : Hid (∀ W,Calls Tryz.prog 80 #[.int .u8 (c.toNat : Int)] W (fun e w' => e = .returned (.bool (decide (c ∈ specialL))) ∧ w' = W)):=hid fun W => by
  have:=RSigned_any c.toNat c.toNat_lt W
  rwa [show UInt8.ofNat c.toNat = c by simp] at this
 have H0:=hid h
 have f1:=h.f1
 have hm:=c.toNat_lt
 have hE : (s[i].toNat : Int) = (c.toNat : Int):=by rw [he]
 clear h hc h92 he
 rw [hb2] at HSG
 clear hb2
 generalize c.toNat = n at *
 unfold ROneAt at *
 go_enter Tryz.func94,Tryz.ntmps94
 go_wp2_with fail
 go_region
 go_wp2_with fail
 go_region
 go_wp2_with fail
 refine (HSG.out _).mono ?_
 rintro e w1 ⟨rfl,rfl⟩
 go_wp2_with fail
 go_ret
 exact ⟨rfl,by have:=H0.out.drew.drew.at (i + 1);push_cast at this;exact this⟩
theorem rone_b_none {rb : Nat} {s : ByteArray} {i : Nat} (w : World) (h : RW w rb s i none w) (hs : s.size ≤ 200) (hc : s.data.toList[i]? = some 92) (hd : s.size = i + 1) :
 Calls Tryz.prog 94 #[.pointer (some ⟨rb,0,none⟩)] w (ROneAt rb s i 0 (some s.size) w):=by
 have a0:=h.c0
 have a1:=h.c1
 have a2 : w.cell? ⟨rb,2,none⟩ = some (.int .i64 (-1)):=h.c2
 obtain ⟨hi,he⟩:=at_getR hc
 have hn : i < s.size:=hi
 have hz : (0 : Int) ≤ (i : Int):=by omega
 have hlt : (i : Int) < (s.size : Int):=by omega
 have d : decide ((s.size : Int) ≤ (i : Int)) = false:=by simp;omega
 have d2 : decide (s.size ≤ i) = false:=by simp;omega
 have hb1 : ((92 : Int) != 92) = false:=by decide
 have HSG : Hid (∀ W,Calls Tryz.prog 80 #[.int .u8 92] W (fun e w' => e = .returned (.bool true) ∧ w' = W)):=hid fun W => RSigned_any 92 (by omega) W
 have hE : (s[i].toNat : Int) = 92:=by rw [he];rfl
 have HF:=RW.failing (w0:=w) (rb:=rb) (i:=i) (s:=s) s.size
 have H0:=hid h
 have d3 : decide ((s.size : Int) ≤ (i : Int) + 1) = true:=by simp;omega
 have d4 : decide (s.size ≤ i + 1) = true:=by simp;omega
 clear h hc he hd
 unfold ROneAt RFailIs at *
 go_enter Tryz.func94,Tryz.ntmps94
 go_wp2_with fail
 go_region
 go_wp2_with fail
 go_region
 go_wp2_with fail
 refine (HSG.out _).mono ?_
 rintro e w1 ⟨rfl,rfl⟩
 go_wp2_with fail
 go_region
 go_wp2_with fail
 refine (HF.out _ H0.out.drew.drew.drew).mono ?_
 rintro e w1 ⟨rfl,h1⟩
 have H1:=hid h1
 clear h1
 go_wp2_with fail
 go_ret
 exact ⟨rfl,H1.out⟩
theorem rone_b_special {rb : Nat} {s : ByteArray} {i : Nat} (w : World) (h : RW w rb s i none w) (hs : s.size ≤ 200) (hc : s.data.toList[i]? = some 92) {x : UInt8} (hd : s.data.toList[i + 1]? = some x) (hx : decide (x ∈ specialL) = true) :
 Calls Tryz.prog 94 #[.pointer (some ⟨rb,0,none⟩)] w (ROneAt rb s (i + 2) x.toNat none w):=by
 have a0:=h.c0
 have a1:=h.c1
 have a2 : w.cell? ⟨rb,2,none⟩ = some (.int .i64 (-1)):=h.c2
 obtain ⟨hi,he⟩:=at_getR hc
 have hn : i < s.size:=hi
 have hz : (0 : Int) ≤ (i : Int):=by omega
 have hlt : (i : Int) < (s.size : Int):=by omega
 have d : decide ((s.size : Int) ≤ (i : Int)) = false:=by simp;omega
 have d2 : decide (s.size ≤ i) = false:=by simp;omega
 have hb1 : ((92 : Int) != 92) = false:=by decide
 have HSG : Hid (∀ W,Calls Tryz.prog 80 #[.int .u8 92] W (fun e w' => e = .returned (.bool true) ∧ w' = W)):=hid fun W => RSigned_any 92 (by omega) W
 have hE : (s[i].toNat : Int) = 92:=by rw [he];rfl
 obtain ⟨hi1,hf⟩:=at_getR hd
 have hn1 : i + 1 < s.size:=hi1
 have hlt1 : (i : Int) + 1 < (s.size : Int):=by omega
 have hz1 : (0 : Int) ≤ (i : Int) + 1:=by omega
 have d3 : decide ((s.size : Int) ≤ (i : Int) + 1) = false:=by simp;omega
 have d4 : decide (s.size ≤ i + 1) = false:=by simp;omega
 have hm:=x.toNat_lt
 have hG : (s[i + 1].toNat : Int) = (x.toNat : Int):=by rw [hf]
 have H0:=hid h
 have HS2 : Hid (∀ W,Calls Tryz.prog 80 #[.int .u8 (x.toNat : Int)] W (fun e w' => e = .returned (.bool true) ∧ w' = W)):=hid fun W => by
  have:=RSigned_any x.toNat x.toNat_lt W
  rw [show UInt8.ofNat x.toNat = x by simp] at this
  rwa [hx] at this
 have f1:=h.f1
 clear h hc he hd hf hx
 generalize x.toNat = n at *
 unfold ROneAt at *
 go_enter Tryz.func94,Tryz.ntmps94
 go_wp2_with fail
 go_region
 go_wp2_with fail
 go_region
 go_wp2_with fail
 refine (HSG.out _).mono ?_
 rintro e w1 ⟨rfl,rfl⟩
 go_wp2_with fail
 go_region
 go_wp2_with fail
 go_region
 go_wp2_with fail
 refine (HS2.out _).mono ?_
 rintro e w1 ⟨rfl,rfl⟩
 go_wp2_with fail
 go_ret
 exact ⟨rfl,by have:=H0.out.drew.drew.drew.drew.at (i + 2);push_cast at this;exact this⟩
theorem rone_b_bad {rb : Nat} {s : ByteArray} {i : Nat} (w : World) (h : RW w rb s i none w) (hs : s.size ≤ 200) (hc : s.data.toList[i]? = some 92) {x : UInt8} (hd : s.data.toList[i + 1]? = some x) (hx : decide (x ∈ specialL) = false) (h120 : x ≠ 120) :
 Calls Tryz.prog 94 #[.pointer (some ⟨rb,0,none⟩)] w (ROneAt rb s i 0 (some i) w):=by
 have a0:=h.c0
 have a1:=h.c1
 have a2 : w.cell? ⟨rb,2,none⟩ = some (.int .i64 (-1)):=h.c2
 obtain ⟨hi,he⟩:=at_getR hc
 have hn : i < s.size:=hi
 have hz : (0 : Int) ≤ (i : Int):=by omega
 have hlt : (i : Int) < (s.size : Int):=by omega
 have d : decide ((s.size : Int) ≤ (i : Int)) = false:=by simp;omega
 have d2 : decide (s.size ≤ i) = false:=by simp;omega
 have hb1 : ((92 : Int) != 92) = false:=by decide
 have HSG : Hid (∀ W,Calls Tryz.prog 80 #[.int .u8 92] W (fun e w' => e = .returned (.bool true) ∧ w' = W)):=hid fun W => RSigned_any 92 (by omega) W
 have hE : (s[i].toNat : Int) = 92:=by rw [he];rfl
 obtain ⟨hi1,hf⟩:=at_getR hd
 have hn1 : i + 1 < s.size:=hi1
 have hlt1 : (i : Int) + 1 < (s.size : Int):=by omega
 have hz1 : (0 : Int) ≤ (i : Int) + 1:=by omega
 have d3 : decide ((s.size : Int) ≤ (i : Int) + 1) = false:=by simp;omega
 have d4 : decide (s.size ≤ i + 1) = false:=by simp;omega
 have hm:=x.toNat_lt
 have hG : (s[i + 1].toNat : Int) = (x.toNat : Int):=by rw [hf]
 have H0:=hid h
 have HS2 : Hid (∀ W,Calls Tryz.prog 80 #[.int .u8 (x.toNat : Int)] W (fun e w' => e = .returned (.bool false) ∧ w' = W)):=hid fun W => by
  have:=RSigned_any x.toNat x.toNat_lt W
  rw [show UInt8.ofNat x.toNat = x by simp] at this
  rwa [hx] at this
 have HF:=RW.failing (w0:=w) (rb:=rb) (i:=i) (s:=s) i
 have hb2 : ((x.toNat : Int) != 120) = true:=by
  have : x.toNat ≠ 120:=fun e => h120 (UInt8.toNat_inj.1 e)
  simp;omega
 clear h hc he hd hf hx h120
 generalize x.toNat = n at *
 unfold ROneAt RFailIs at *
 go_enter Tryz.func94,Tryz.ntmps94
 go_wp2_with fail
 go_region
 go_wp2_with fail
 go_region
 go_wp2_with fail
 refine (HSG.out _).mono ?_
 rintro e w1 ⟨rfl,rfl⟩
 go_wp2_with fail
 go_region
 go_wp2_with fail
 go_region
 go_wp2_with fail
 refine (HS2.out _).mono ?_
 rintro e w1 ⟨rfl,rfl⟩
 go_wp2_with fail
 refine (HF.out _ H0.out.drew.drew.drew.drew).mono ?_
 rintro e w1 ⟨rfl,h1⟩
 have H1:=hid h1
 clear h1
 go_wp2_with fail
 go_ret
 exact ⟨rfl,H1.out⟩
theorem rone_hex {rb : Nat} {s : ByteArray} {i : Nat} (w : World) (h : RW w rb s i none w) (hs : s.size ≤ 200) (hc : s.data.toList[i]? = some 92) (hd : s.data.toList[i + 1]? = some 120) :
 Calls Tryz.prog 94 #[.pointer (some ⟨rb,0,none⟩)] w (ROneIs (hexS s.data.toList i) rb s i w):=by
 have a0:=h.c0
 have a1:=h.c1
 have a2 : w.cell? ⟨rb,2,none⟩ = some (.int .i64 (-1)):=h.c2
 obtain ⟨hi,he⟩:=at_getR hc
 have hn : i < s.size:=hi
 have hz : (0 : Int) ≤ (i : Int):=by omega
 have hlt : (i : Int) < (s.size : Int):=by omega
 have d : decide ((s.size : Int) ≤ (i : Int)) = false:=by simp;omega
 have d2 : decide (s.size ≤ i) = false:=by simp;omega
 have hb1 : ((92 : Int) != 92) = false:=by decide
 have HSG : Hid (∀ W,Calls Tryz.prog 80 #[.int .u8 92] W (fun e w' => e = .returned (.bool true) ∧ w' = W)):=hid fun W => RSigned_any 92 (by omega) W
 have hE : (s[i].toNat : Int) = 92:=by rw [he];rfl
 obtain ⟨hi1,hf⟩:=at_getR hd
 have hn1 : i + 1 < s.size:=hi1
 have hlt1 : (i : Int) + 1 < (s.size : Int):=by omega
 have hz1 : (0 : Int) ≤ (i : Int) + 1:=by omega
 have d3 : decide ((s.size : Int) ≤ (i : Int) + 1) = false:=by simp;omega
 have d4 : decide (s.size ≤ i + 1) = false:=by simp;omega
 have hG : (s[i + 1].toNat : Int) = 120:=by rw [hf];rfl
 have H0:=hid h
 have HS2 : Hid (∀ W,Calls Tryz.prog 80 #[.int .u8 120] W (fun e w' => e = .returned (.bool false) ∧ w' = W)):=hid fun W => RSigned_any 120 (by omega) W
 have hb2 : ((120 : Int) != 120) = false:=by decide
 clear h hc he hd hf
 obtain ⟨L,hL⟩ : ∃ L,L = s.data.toList:=⟨_,rfl⟩
 have HLZ : Hid (L.length = s.size):=hid (by rw [hL];simp)
 have HGL : Hid (∀ k c,L[k]? = some c → ∃ hk : k < s.size,s[k] = c):=hid (by rw [hL];exact fun k c => at_getR)
 rw [← hL]
 clear hL
 unfold ROneIs ROneAt at *
 go_enter Tryz.func94,Tryz.ntmps94
 go_wp2_with fail
 go_region
 go_wp2_with fail
 go_region
 go_wp2_with fail
 refine (HSG.out _).mono ?_
 rintro e w1 ⟨rfl,rfl⟩
 go_wp2_with fail
 go_region
 go_wp2_with fail
 go_region
 go_wp2_with fail
 refine (HS2.out _).mono ?_
 rintro e w1 ⟨rfl,rfl⟩
 go_wp2_with fail
 go_loopw [7,8] (fun v7 v8 wr => ∃ (m n : Nat),v8 = .int .i64 (m : Int) ∧ v7 = .int .i64 (n : Int) ∧ Hid (HexIn L i m n) ∧ Hid (RW w rb s i none wr)) (fun _ v8 _ => 4 - (intOf v8).toNat)
 case atStart => exact ⟨2,0,rfl,rfl,hid (.inl ⟨rfl,rfl⟩),hid H0.out.drew.drew.drew.drew⟩
 case round =>
  obtain ⟨m,n,rfl,rfl,HX,HR⟩:=hrel
  obtain ⟨hm2,hm4,hn256,hn16⟩:=HX.out.lt
  have r0:=HR.out.c0
  have r1:=HR.out.c1
  by_cases hlt4 : m < 4
  ·have hn16':=hn16 hlt4
   clear hn16
   have dm : decide ((m : Int) < 4) = true:=by simp;omega
   cases hg : L[i + m]? with
   | none =>
     have hge:=List.getElem?_eq_none_iff.1 hg
     rw [HLZ.out] at hge
     have d5 : decide ((s.size : Int) ≤ (i : Int) + (m : Int)) = true:=by simp;omega
     have d6 : decide (s.size ≤ i + m) = true:=by simp;omega
     have HF:=RW.failing (w0:=w) (rb:=rb) (i:=i) (s:=s) s.size
     have HB : Hid (hexS L i = .bad s.size):=hid (by rw [HX.out.none hlt4 hg,HLZ.out])
     unfold RFailIs at HF
     clear hg hge
     go_wp2_with fail
     go_quiet (fail)
     go_wp2_with fail
     refine (HF.out _ (HR.out.below (below_drewN (Below.refl _ _) _))).mono ?_
     rintro e w1 ⟨rfl,h1⟩
     have H1:=hid h1
     clear h1
     go_wp2_with fail
     go_ret
     exact .inr ⟨s.size,0,i,HB.out,by omega,by omega,by omega,rfl,H1.out⟩
   | some c =>
     obtain ⟨hik,hek⟩:=HGL.out _ _ hg
     have hnk : i + m < s.size:=hik
     have hltk : (i : Int) + (m : Int) < (s.size : Int):=by omega
     have hzk : (0 : Int) ≤ (i : Int) + (m : Int):=by omega
     have d5 : decide ((s.size : Int) ≤ (i : Int) + (m : Int)) = false:=by simp;omega
     have d6 : decide (s.size ≤ i + m) = false:=by simp;omega
     have hGk : (s[i + m].toNat : Int) = (c.toNat : Int):=by rw [hek]
     have hcm:=c.toNat_lt
     have HHX:=hid fun W => rhex_any c.toNat hcm W
     cases hv : hexV c with
     | none =>
       have HB : Hid (hexS L i = .bad i):=hid (HX.out.bad hlt4 hg hv)
       have HF:=RW.failing (w0:=w) (rb:=rb) (i:=i) (s:=s) i
       unfold RFailIs at HF
       rw [hexI_toNat,hv] at HHX
       clear hg hek hv
       generalize c.toNat = cn at *
       go_wp2_with fail
       go_quiet (fail)
       go_wp2_with fail
       go_quiet (first | (go_at_call 120;refine (HHX.out _).mono ?_;rintro e w1 ⟨rfl,rfl⟩;exact ⟨rfl,_,rfl⟩))
       go_wp2_with fail
       refine (HF.out _ (HR.out.below (below_drewN (Below.refl _ _) _))).mono ?_
       rintro e w1 ⟨rfl,h1⟩
       have H1:=hid h1
       clear h1
       go_wp2_with fail
       go_ret
       exact .inr ⟨i,0,i,HB.out,by omega,by omega,by omega,rfl,H1.out⟩
     | some a =>
       have HN : Hid (HexIn L i (m + 1) (n * 16 + a)):=hid (HX.out.next hlt4 hg hv)
       have ha:=hexV_lt hv
       rw [hexI_toNat,hv] at HHX
       have da : decide ((a : Int) < 0) = false:=by simp
       have hmul : Go.RowKit.wrap64 ((n : Int) * 16) = (n : Int) * 16:=Go.IntWalk.wrap64_in _ (by omega)
       clear hg hek hv
       generalize c.toNat = cn at *
       go_wp2_with fail
       go_quiet (fail)
       go_wp2_with fail
       go_quiet (first | (go_at_call 120;refine (HHX.out _).mono ?_;rintro e w1 ⟨rfl,rfl⟩;exact ⟨rfl,_,rfl⟩))
       go_wp2_with fail
       go_roundw
       case rel => exact ⟨m + 1,n * 16 + a,by go_num,by go_num,HN,hid (HR.out.below (below_drewN (Below.refl _ _) _))⟩
       case measure => simp [intOf];omega
  ·obtain rfl : m = 4:=by omega
   have f1:=HR.out.f1
   have HB : Hid (hexS L i = .ok n (i + 4)):=hid (by
    rcases HX.out with ⟨h1,_⟩ | ⟨h1,_⟩ | ⟨_,_,h3⟩
    ·omega
    ·omega
    ·exact h3)
   have hfit : Hid (i + 4 ≤ s.size):=hid (by
    have:=(hexS_ok HB.out).2.1
    rw [HLZ.out] at this
    exact this)
   clear hn16
   go_wp2_with fail
   go_ret
   exact .inl ⟨n,i + 4,HB.out,hn256,by omega,hfit.out,rfl,by have:=HR.out.at (i + 4);push_cast at this;exact this⟩
theorem rone_c {rb : Nat} {s : ByteArray} {i : Nat} (w : World) (h : RW w rb s i none w) (hs : s.size ≤ 200) (hi : i ≤ s.size) :
 Calls Tryz.prog 94 #[.pointer (some ⟨rb,0,none⟩)] w (ROneIs (oneS s.data.toList i) rb s i w):=by
 have hend : s.data.toList.length = s.size:=by simp
 have good : ∀ a j,oneS s.data.toList i = .ok a j → Calls Tryz.prog 94 #[.pointer (some ⟨rb,0,none⟩)] w (ROneAt rb s j a none w) → Calls Tryz.prog 94 #[.pointer (some ⟨rb,0,none⟩)] w (ROneIs (oneS s.data.toList i) rb s i w):=fun a j h1 h2 => h2.mono fun e w' hh => .inl ⟨a,j,h1,(oneS_ok h1).2.2,(oneS_ok h1).1,by have:=(oneS_ok h1).2.1;omega,hh⟩
 have bad : ∀ k a j,oneS s.data.toList i = .bad k → a < 256 → i ≤ j → j ≤ i + 1 → Calls Tryz.prog 94 #[.pointer (some ⟨rb,0,none⟩)] w (ROneAt rb s j a (some k) w) → Calls Tryz.prog 94 #[.pointer (some ⟨rb,0,none⟩)] w (ROneIs (oneS s.data.toList i) rb s i w):=fun k a j h1 h2 h3 h4 h5 => h5.mono fun e w' hh => .inr ⟨k,a,j,h1,h2,h3,h4,hh⟩
 cases hc : s.data.toList[i]? with
 | none => exact bad _ 0 i (by unfold oneS;rw [hc,hend]) (by omega) (by omega) (by omega) (rone_none w h hs (by have:=at_noneR hc;omega))
 | some c =>
   by_cases h92 : c = 92
   ·subst h92
    obtain ⟨hi2,_⟩:=at_getR hc
    cases hd : s.data.toList[i + 1]? with
    | none => exact bad _ 0 i (by unfold oneS;rw [hc];simp only [if_true];rw [hd,hend]) (by omega) (by omega) (by omega) (rone_b_none w h hs hc (by have:=at_noneR hd;omega))
    | some d =>
      by_cases hx : d = 120
      ·subst hx
       have hone : oneS s.data.toList i = hexS s.data.toList i:=by unfold oneS;rw [hc];simp only [if_true];rw [hd];simp only [if_true]
       rw [hone]
       exact rone_hex w h hs hc hd
      ·by_cases h3 : d ∈ specialL
       ·exact good _ _ (by unfold oneS;rw [hc];simp only [if_true];rw [hd];simp only [if_neg hx,if_pos h3]) (rone_b_special w h hs hc hd (by simpa using h3))
       ·exact bad _ 0 i (by unfold oneS;rw [hc];simp only [if_true];rw [hd];simp only [if_neg hx,if_neg h3]) (by omega) (by omega) (by omega) (rone_b_bad w h hs hc hd (by simpa using h3) hx)
   ·have hm:=c.toNat_lt
    by_cases h1 : c.toNat < 32
    ·exact bad _ c.toNat (i + 1) (by unfold oneS;rw [hc];simp only [if_neg h92,if_pos (show c.toNat < 32 ∨ 126 < c.toNat ∨ c ∈ specialL from .inl h1)]) hm (by omega) (by omega) (rone_low w h hs hc h92 (by simp;omega))
    ·by_cases h2 : 126 < c.toNat
     ·exact bad _ c.toNat (i + 1) (by unfold oneS;rw [hc];simp only [if_neg h92,if_pos (show c.toNat < 32 ∨ 126 < c.toNat ∨ c ∈ specialL from .inr (.inl h2))]) hm (by omega) (by omega) (rone_high w h hs hc h92 (by simp;omega) (by simp;omega))
     ·by_cases h3 : c ∈ specialL
      ·exact bad _ c.toNat (i + 1) (by unfold oneS;rw [hc];simp only [if_neg h92,if_pos (show c.toNat < 32 ∨ 126 < c.toNat ∨ c ∈ specialL from .inr (.inr h3))]) hm (by omega) (by omega) (rone_special w h hs hc h92 (by simp;omega) (by simp;omega) (by simpa using h3))
      ·exact good _ _ (by unfold oneS;rw [hc];simp only [if_neg h92];rw [if_neg (by rintro (q | q | q);exact h1 q;exact h2 q;exact h3 q)]) (rone_plain w h hs hc h92 (by simp;omega) (by simp;omega) (by simpa using h3))
end Go.Proofs.YthcahjnniendnacGreatDoor
namespace Wf
def withs (c : Cls) (lo : Nat) : Nat → Cls
 | 0 => c
 | n + 1 => withB (withs c lo n) (lo + n)
theorem okC_withs {c : Cls} (h : okC c) (lo : Nat) : ∀ n,okC (withs c lo n)
 | 0 => h
 | n + 1 => okC_with (okC_withs h lo n) _
theorem has_withs (c : Cls) (lo x : Nat) (hx : x < 256) : ∀ n,lo + n ≤ 256 → has (withs c lo n) x = (has c x || decide (lo ≤ x ∧ x < lo + n))
 | 0,_ => by
   have : decide (lo ≤ x ∧ x < lo + 0) = false:=by simp
   rw [this];simp [withs]
 | n + 1,h => by
   rw [withs,has_with _ _ _ (by omega) hx,has_withs c lo x hx n (by omega),Bool.eq_iff_iff]
   simp
   constructor
   ·rintro ((h1 | h1) | h1)
    ·exact .inl h1
    ·exact .inr (by omega)
    ·exact .inr (by omega)
   ·rintro (h1 | h1)
    ·exact .inl (.inl h1)
    ·by_cases e : x = lo + n
     ·exact .inr e
     ·exact .inl (.inr (by omega))
theorem withs_span {c : Cls} (h : okC c) {lo hi : Nat} (h1 : lo ≤ hi) (h2 : hi < 256) : withs c lo (hi + 1 - lo) = eitherC c (spanC lo hi):=by
 refine cls_ext (okC_withs h _ _) (okC_either h (okC_span _ _)) fun x hx => ?_
 rw [has_withs c lo x hx _ (by omega),has_either,has_span h2 hx,Bool.eq_iff_iff]
 simp
 constructor
 ·rintro (h3 | h3)
  ·exact .inl h3
  ·exact .inr (by omega)
 ·rintro (h3 | h3)
  ·exact .inl h3
  ·exact .inr (by omega)
def badM (bad : Option Nat) (n : Nat) : Nat:=match bad with
 | none => n + 1
 | some _ => 0
def BrIn (s : List UInt8) (i j : Nat) (c : Cls) : Option Nat → Prop
 | none => itemsS s i zc = itemsS s j c ∧ i ≤ j ∧ j ≤ s.length
 | some k => itemsS s i zc = .bad k ∧ i ≤ j ∧ j ≤ s.length + 1
theorem badM_none (n : Nat) : badM none n = n + 1:=rfl
theorem BrIn.end_ {s : List UInt8} {i j : Nat} {c : Cls} (h : BrIn s i j c none) (hg : s[j]? = some 93) : itemsS s i zc = .ok c (j + 1):=by rw [h.1,itemsS_end c hg]
theorem itemS_bad1 {s : List UInt8} {j k : Nat} (h : oneS s j = .bad k) : itemS s j = .bad k:=by unfold itemS;rw [h]
theorem itemS_one {s : List UInt8} {j j1 a : Nat} (h : oneS s j = .ok a j1) (h45 : s[j1]? ≠ some 45) : itemS s j = .ok (a,a) j1:=by unfold itemS;rw [h];simp only [if_neg h45]
theorem itemS_bad2 {s : List UInt8} {j j1 a k : Nat} (h : oneS s j = .ok a j1) (h45 : s[j1]? = some 45) (h2 : oneS s (j1 + 1) = .bad k) : itemS s j = .bad k:=by unfold itemS;rw [h];simp only [if_pos h45];rw [h2]
theorem itemS_low {s : List UInt8} {j j1 a b j2 : Nat} (h : oneS s j = .ok a j1) (h45 : s[j1]? = some 45) (h2 : oneS s (j1 + 1) = .ok b j2) (hl : b < a) : itemS s j = .bad j:=by unfold itemS;rw [h];simp only [if_pos h45];rw [h2];simp only [if_pos hl]
theorem itemS_two {s : List UInt8} {j j1 a b j2 : Nat} (h : oneS s j = .ok a j1) (h45 : s[j1]? = some 45) (h2 : oneS s (j1 + 1) = .ok b j2) (hl : ¬ b < a) : itemS s j = .ok (a,b) j2:=by unfold itemS;rw [h];simp only [if_pos h45];rw [h2];simp only [if_neg hl]
theorem BrIn.bad {s : List UInt8} {i j j' k : Nat} {c c' : Cls} (h : BrIn s i j c none) (hg : s[j]? ≠ some 93) (hi : itemS s j = .bad k) (h1 : j ≤ j') (h2 : j' ≤ s.length + 1) : BrIn s i j' c' (some k) :=
 ⟨by rw [h.1,itemsS_bad c hg hi],by have:=h.2.1;omega,h2⟩
theorem BrIn.more {s : List UInt8} {i j j' a b : Nat} {c : Cls} (h : BrIn s i j c none) (hc : okC c) (hg : s[j]? ≠ some 93) (hi : itemS s j = .ok (a,b) j') : BrIn s i j' (withs c a (b + 1 - a)) none:=by
 obtain ⟨h1,h2,h3,h4⟩:=itemS_ok hi
 exact ⟨by rw [h.1,itemsS_more c hg hi,withs_span hc h3 h4],by have:=h.2.1;omega,h2⟩
end Wf
namespace Go.Proofs.YthcahjnniendnacGreatDoor
open Go.RowKit Wf
theorem RW.local {w0 w : World} {rb i : Nat} {bad : Option Nat} {s : ByteArray} (h : RW w0 rb s i bad w) {p : Addr} (hp : w0.heap.size ≤ p.block) (u : Value) : RW w0 rb s i bad (w.setCell p u):=by
 have hlt:=h.lt
 exact ⟨h.par.far (by omega) u,⟨h.grow.os,h.grow.tape,h.grow.output,by simpa using h.grow.size,fun q hq hn => (Below.heap_setCell w p u q (by omega)).trans (h.grow.block q hq hn)⟩,h.lt⟩
theorem Blk.grown {w w' : World} {g rb : Nat} {t : TypeId} {cs : Array Value} (h : Blk w g t cs) (hg : w.grownBy w' (some rb)) (hne : g ≠ rb) : Blk w' g t cs:=(hg.block g (Blk.lt h) (fun e => hne (Option.some.inj e))).trans h
def RBrIs (r : PR Cls) (rb : Nat) (s : ByteArray) (i : Nat) (w : World) (e : Ending) (w' : World) : Prop :=
 ∃ d0 d1 d2 d3 j : Nat,∃ bad,e = .returned (.agg #[.int .u64 (d0 : Int),.int .u64 (d1 : Int),.int .u64 (d2 : Int),.int .u64 (d3 : Int)]) ∧ okC (d0,d1,d2,d3) ∧ RW w rb s j bad w' ∧
  ((bad = none ∧ r = .ok (d0,d1,d2,d3) j ∧ i < j ∧ j ≤ s.size) ∨ (∃ k,bad = some k ∧ r = .bad k ∧ i ≤ j ∧ j ≤ s.size + 1))
structure BrAt (w : World) (rb : Nat) (s : ByteArray) (c0 c1 c2 c3 : Nat) (j : Nat) (bad : Option Nat) (wr : World) : Prop where
 rd : RW w rb s j bad wr
 b2 : Blk wr w.heap.size 39 #[.int .u64 0,.int .u64 0,.int .u64 0,.int .u64 0]
 b3 : Blk wr (w.heap.size + 1) 39 #[.int .u64 (c0 : Int),.int .u64 (c1 : Int),.int .u64 (c2 : Int),.int .u64 (c3 : Int)]
section
variable {w wr w' : World} {rb j j' c0 c1 c2 c3 : Nat} {bad bad' : Option Nat} {s : ByteArray}
theorem BrAt.call (h : BrAt w rb s c0 c1 c2 c3 j bad wr) (h' : RW wr rb s j' bad' w') : BrAt w rb s c0 c1 c2 c3 j' bad' w' :=
 ⟨h.rd.trans h',Blk.grown h.b2 h'.grow (by have:=h.rd.lt;omega),Blk.grown h.b3 h'.grow (by have:=h.rd.lt;omega)⟩
theorem BrAt.below (h : BrAt w rb s c0 c1 c2 c3 j bad wr) (hb : Below wr.heap.size wr w') : BrAt w rb s c0 c1 c2 c3 j bad w' :=
 ⟨h.rd.below hb,h.b2.kept hb,h.b3.kept hb⟩
theorem BrAt.at (h : BrAt w rb s c0 c1 c2 c3 j bad wr) (j' : Nat) : BrAt w rb s c0 c1 c2 c3 j' bad (wr.setCell ⟨rb,1,none⟩ (.int .i64 (j' : Int))) :=
 h.call (h.rd.here.at j')
theorem BrAt.put (h : BrAt w rb s c0 c1 c2 c3 j bad wr) (d0 d1 d2 d3 : Nat) : BrAt w rb s d0 d1 d2 d3 j bad ((((wr.setCell ⟨w.heap.size + 1,0,none⟩ (.int .u64 (d0 : Int))).setCell ⟨w.heap.size + 1,1,none⟩ (.int .u64 (d1 : Int))).setCell ⟨w.heap.size + 1,2,none⟩ (.int .u64 (d2 : Int))).setCell ⟨w.heap.size + 1,3,none⟩ (.int .u64 (d3 : Int))) :=
 ⟨(((h.rd.local (by simp) _).local (by simp) _).local (by simp) _).local (by simp) _,(((h.b2.far (by simp) _).far (by simp) _).far (by simp) _).far (by simp) _,Blk4_set h.b3 _ _ _ _⟩
theorem BrAt.res (h : BrAt w rb s c0 c1 c2 c3 j bad wr) (d0 d1 d2 d3 : Value) : Blk ((((wr.setCell ⟨w.heap.size,0,none⟩ d0).setCell ⟨w.heap.size,1,none⟩ d1).setCell ⟨w.heap.size,2,none⟩ d2).setCell ⟨w.heap.size,3,none⟩ d3) w.heap.size 39 #[d0,d1,d2,d3] ∧
 RW w rb s j bad ((((wr.setCell ⟨w.heap.size,0,none⟩ d0).setCell ⟨w.heap.size,1,none⟩ d1).setCell ⟨w.heap.size,2,none⟩ d2).setCell ⟨w.heap.size,3,none⟩ d3) :=
 ⟨Blk4_set h.b2 _ _ _ _,(((h.rd.local (by simp) _).local (by simp) _).local (by simp) _).local (by simp) _⟩
theorem BrAt.facts (h : BrAt w rb s c0 c1 c2 c3 j bad wr) : (wr.cell? ⟨rb,0,none⟩ = some (.string s) ∧ wr.cell? ⟨rb,1,none⟩ = some (.int .i64 (j : Int)) ∧ wr.frozen? ⟨rb,1,none⟩ = false) ∧
 (wr.cell? ⟨w.heap.size + 1,0,none⟩ = some (.int .u64 (c0 : Int)) ∧ wr.cell? ⟨w.heap.size + 1,1,none⟩ = some (.int .u64 (c1 : Int)) ∧ wr.cell? ⟨w.heap.size + 1,2,none⟩ = some (.int .u64 (c2 : Int)) ∧ wr.cell? ⟨w.heap.size + 1,3,none⟩ = some (.int .u64 (c3 : Int))) ∧
 (wr.frozen? ⟨w.heap.size + 1,0,none⟩ = false ∧ wr.frozen? ⟨w.heap.size + 1,1,none⟩ = false ∧ wr.frozen? ⟨w.heap.size + 1,2,none⟩ = false ∧ wr.frozen? ⟨w.heap.size + 1,3,none⟩ = false) ∧
 (wr.cell? ⟨w.heap.size,0,none⟩ = some (.int .u64 0) ∧ wr.cell? ⟨w.heap.size,1,none⟩ = some (.int .u64 0) ∧ wr.cell? ⟨w.heap.size,2,none⟩ = some (.int .u64 0) ∧ wr.cell? ⟨w.heap.size,3,none⟩ = some (.int .u64 0)) ∧ (wr.frozen? ⟨w.heap.size,0,none⟩ = false ∧ wr.frozen? ⟨w.heap.size,1,none⟩ = false ∧ wr.frozen? ⟨w.heap.size,2,none⟩ = false ∧ wr.frozen? ⟨w.heap.size,3,none⟩ = false) :=
 ⟨⟨h.rd.c0,h.rd.c1,h.rd.f1⟩,(Blk4 h.b3).1,(Blk4 h.b3).2,(Blk4 h.b2).1,(Blk4 h.b2).2⟩
theorem BrAt.bad2 {k : Nat} (h : BrAt w rb s c0 c1 c2 c3 j (some k) wr) : wr.cell? ⟨rb,2,none⟩ = some (.int .i64 (k : Int)):=h.rd.c2
theorem BrAt.good2 (h : BrAt w rb s c0 c1 c2 c3 j none wr) : wr.cell? ⟨rb,2,none⟩ = some (.int .i64 (-1)):=h.rd.c2
end
theorem BrAt.start {w : World} {rb i : Nat} {s : ByteArray} (h : RW w rb s i none w) : BrAt w rb s 0 0 0 0 i none ((w.alloc (.cells #[.int .u64 0,.int .u64 0,.int .u64 0,.int .u64 0] 39)).alloc (.cells #[.int .u64 0,.int .u64 0,.int .u64 0,.int .u64 0] 39)) :=
 ⟨(h.below ((Below.refl _ _).alloc (Nat.le_refl _) _)).below ((Below.refl _ _).alloc (Nat.le_refl _) _),(Blk.new _ _ _).alloc _,by have h:=Blk.new (w.alloc (.cells #[.int .u64 0,.int .u64 0,.int .u64 0,.int .u64 0] 39)) 39 #[.int .u64 0,.int .u64 0,.int .u64 0,.int .u64 0];rw [World.size_alloc] at h;exact h⟩
theorem rbr_not {rb : Nat} {s : ByteArray} {i : Nat} (w : World) (h : RW w rb s i none w) (hs : s.size ≤ 200) (hi : i ≤ s.size) (h94 : s.data.toList[i]? = some 94) :
 Calls Tryz.prog 92 #[.pointer (some ⟨rb,0,none⟩)] w (RBrIs (bracketS s.data.toList i) rb s i w):=by
 obtain ⟨L,hL⟩ : ∃ L,L = s.data.toList:=⟨_,rfl⟩
 have hLZ : L.length = s.size:=by rw [hL];simp
 have HLZ:=hid hLZ
 have HSY : Hid (∀ (c : UInt8) (j : Nat) W,L[j]? = some c → RW W rb s j none W → Calls Tryz.prog 64 #[.pointer (some ⟨rb,0,none⟩),.int .u8 (c.toNat : Int)] W (RSeesIs true W)):=hid fun c j W hc hw => rsees_yes W hw hs (by rw [← hL];exact hc)
 have HSN : Hid (∀ (c : UInt8) (j : Nat) W,j ≤ s.size → L[j]? ≠ some c → RW W rb s j none W → Calls Tryz.prog 64 #[.pointer (some ⟨rb,0,none⟩),.int .u8 (c.toNat : Int)] W (RSeesIs false W)):=hid fun c j W hj hc hw => rsees_no W hw hs hj (by rw [← hL];exact hc)
 have HSB : Hid (∀ (c j k : Nat) W,RW W rb s j (some k) W → Calls Tryz.prog 64 #[.pointer (some ⟨rb,0,none⟩),.int .u8 (c : Int)] W (RSeesIs false W)):=hid fun c j k W hw => rsees_bad c W hw
 have HON : Hid (∀ j W,j ≤ s.size → RW W rb s j none W → Calls Tryz.prog 94 #[.pointer (some ⟨rb,0,none⟩)] W (ROneIs (oneS L j) rb s j W)):=hid fun j W hj hw => by rw [hL];exact rone_c W hw hs hj
 have HFL : Hid (∀ j (k : Nat) W,RW W rb s j none W → Calls Tryz.prog 40 #[.pointer (some ⟨rb,0,none⟩),.int .i64 (k : Int)] W (RFailIs rb s j (some k) W)):=hid fun j k W hw => rfail_good W hw k
 have HWT : Hid (∀ (c0 c1 c2 c3 b : Nat) (W : World),okC (c0,c1,c2,c3) → b < 256 → Calls Tryz.prog 79 #[.agg #[.int .u64 (c0 : Int),.int .u64 (c1 : Int),.int .u64 (c2 : Int),.int .u64 (c3 : Int)],.int .i64 (b : Int)] W (ClsIs (withB (c0,c1,c2,c3) b) W)):=hid fun c0 c1 c2 c3 b W h1 h2 => RWith_any c0 c1 c2 c3 b W h1 h2
 have HOT : Hid (∀ (c0 c1 c2 c3 : Nat) (W : World),okC (c0,c1,c2,c3) → Calls Tryz.prog 55 #[.agg #[.int .u64 (c0 : Int),.int .u64 (c1 : Int),.int .u64 (c2 : Int),.int .u64 (c3 : Int)]] W (ClsIs (notC (c0,c1,c2,c3)) W)):=hid fun c0 c1 c2 c3 W h1 => ROthers_any c0 c1 c2 c3 W h1
 unfold RSeesIs at HSY HSN HSB
 unfold ROneIs ROneAt at HON
 unfold RFailIs at HFL
 unfold ClsIs at HWT HOT
 have HB0:=hid (BrAt.start h)
 have hrb:=h.lt
 have h94' : L[i]? = some 94:=by rw [hL];exact h94
 have hqo : ∀ c j,itemsS L (i + 1) zc = .ok c j → bracketS s.data.toList i = .ok (notC c) j:=by
  intro c j hq
  unfold bracketS
  rw [if_pos h94,← hL,hq]
 have hqb : ∀ k,itemsS L (i + 1) zc = .bad k → bracketS s.data.toList i = .bad k:=by
  intro k hq
  unfold bracketS
  rw [if_pos h94,← hL,hq]
 obtain ⟨Q,hQ⟩ : ∃ Q,Q = bracketS s.data.toList i:=⟨_,rfl⟩
 rw [← hQ] at hqo hqb ⊢
 obtain ⟨i0,hi0⟩ : ∃ i0,i0 = i + 1:=⟨_,rfl⟩
 have hi0s : i ≤ i0 ∧ i0 ≤ i + 1 ∧ i0 ≤ s.size:=by (have:=getE_lt h94';omega)
 have HI0:=hid hi0
 rw [← hi0] at hqo hqb
 have HQO:=hid hqo
 have HQB:=hid hqb
 have H94:=hid h94'
 obtain ⟨hi0a,hi0b,hi0c⟩:=hi0s
 clear h h94 h94' hL hLZ hQ hi0 hqo hqb
 unfold RBrIs
 go_enter Tryz.func92,Tryz.ntmps92
 go_wp2_with fail
 refine (HSY.out 94 i _ H94.out HB0.out.rd.here).mono ?_
 rintro e w1 ⟨rfl,hb1⟩
 have HB1:=hid (HB0.out.below hb1)
 clear hb1
 obtain ⟨⟨r0,r1,rf⟩,⟨x0,x1,x2,x3⟩,⟨y0,y1,y2,y3⟩,⟨p0,p1,p2,p3⟩,z0,z1,z2,z3⟩:=HB1.out.facts
 go_wp2_with fail
 clear r0 r1 rf x0 x1 x2 x3 y0 y1 y2 y3 z0 z1 z2 z3 p0 p1 p2 p3
 have HB2 : Hid (BrAt w rb s 0 0 0 0 i0 none (w1.setCell ⟨rb,1,none⟩ (.int .i64 ((i : Int) + 1)))):=hid (by rw [HI0.out];have:=HB1.out.at (i + 1);push_cast at this;exact this)
 go_loopg [5] (s.size + 2) (fun gk _ wr => ∃ (j c0 c1 c2 c3 : Nat) (bad : Option Nat),okC (c0,c1,c2,c3) ∧ Hid (BrIn L i0 j (c0,c1,c2,c3) bad) ∧ Hid (BrAt w rb s c0 c1 c2 c3 j bad wr) ∧ Hid (badM bad (s.size - j) < gk))
 case atStart => exact ⟨i0,0,0,0,0,none,okC_zc,hid ⟨rfl,Nat.le_refl _,by rw [HLZ.out];exact hi0c⟩,HB2,hid (by rw [badM_none];omega)⟩
 case round =>
  obtain ⟨j,c0,c1,c2,c3,bad,hok,HST,HB,HG⟩:=hrel
  clear HB0 HB1 HB2
  cases bad with
  | some k =>
    have q2:=HB.out.bad2
    have dk : decide ((k : Int) < 0) = false:=by simp
    have HE : Hid (Q = .bad k ∧ i ≤ j ∧ j ≤ s.size + 1):=hid ⟨HQB.out _ HST.out.1,by have:=HST.out.2.1;omega,by have:=HST.out.2.2;rw [HLZ.out] at this;exact this⟩
    clear HG HST
    obtain ⟨⟨r0,r1,rf⟩,⟨x0,x1,x2,x3⟩,⟨y0,y1,y2,y3⟩,⟨p0,p1,p2,p3⟩,z0,z1,z2,z3⟩:=HB.out.facts
    go_wp2_with fail
    refine (HOT.out c0 c1 c2 c3 _ hok).mono ?_
    rintro e wt ⟨d0,d1,d2,d3,rfl,hd,hbt⟩
    have HD:=hid hd
    have HBT:=hid (HB.out.below hbt)
    clear hd hbt
    clear r0 r1 rf x0 x1 x2 x3 y0 y1 y2 y3 z0 z1 z2 z3 p0 p1 p2 p3
    obtain ⟨⟨r0,r1,rf⟩,⟨x0,x1,x2,x3⟩,⟨y0,y1,y2,y3⟩,⟨p0,p1,p2,p3⟩,z0,z1,z2,z3⟩:=HBT.out.facts
    go_wp2_with fail
    obtain ⟨hres,hrw⟩:=HBT.out.res (.int .u64 (d0 : Int)) (.int .u64 (d1 : Int)) (.int .u64 (d2 : Int)) (.int .u64 (d3 : Int))
    refine bodyPost_ret (v:=.agg #[.int .u64 (d0 : Int),.int .u64 (d1 : Int),.int .u64 (d2 : Int),.int .u64 (d3 : Int)]) ?_ rfl ?_
    ·obtain ⟨h0,h1,h2,h3⟩:=(Blk4 hres).1
     simp [results,Tryz.results92,go_sem,h0,h1,h2,h3]
    ·exact ⟨d0,d1,d2,d3,_,_,rfl,by rw [HD.out];exact okC_not _,hrw,.inr ⟨k,rfl,HE.out.1,HE.out.2.1,HE.out.2.2⟩⟩
  | none =>
    have q2:=HB.out.good2
    have hjL:=HST.out.2.2
    have hij:=HST.out.2.1
    rw [HLZ.out] at hjL
    obtain ⟨⟨r0,r1,rf⟩,⟨x0,x1,x2,x3⟩,⟨y0,y1,y2,y3⟩,⟨p0,p1,p2,p3⟩,z0,z1,z2,z3⟩:=HB.out.facts
    by_cases hg : L[j]? = some 93
    ·have HE : Hid (Q = .ok (notC (c0,c1,c2,c3)) (j + 1)):=hid (HQO.out _ _ (HST.out.end_ hg))
     have hj1 : j + 1 ≤ s.size:=by have:=getE_lt hg;rw [HLZ.out] at this;omega
     go_wp2_with fail
     refine (HSY.out 93 j _ hg HB.out.rd.here).mono ?_
     rintro e w3 ⟨rfl,hb3⟩
     have HB3:=hid (HB.out.below hb3)
     clear hb3 q2 HG HST
     clear r0 r1 rf x0 x1 x2 x3 y0 y1 y2 y3 z0 z1 z2 z3 p0 p1 p2 p3
     obtain ⟨⟨r0,r1,rf⟩,⟨x0,x1,x2,x3⟩,⟨y0,y1,y2,y3⟩,⟨p0,p1,p2,p3⟩,z0,z1,z2,z3⟩:=HB3.out.facts
     have HB4 : Hid (BrAt w rb s c0 c1 c2 c3 (j + 1) none (w3.setCell ⟨rb,1,none⟩ (.int .i64 ((j : Int) + 1)))):=hid (by have:=HB3.out.at (j + 1);push_cast at this;exact this)
     clear r0 r1 rf x0 x1 x2 x3 y0 y1 y2 y3 z0 z1 z2 z3 p0 p1 p2 p3
     obtain ⟨⟨r0,r1,rf⟩,⟨x0,x1,x2,x3⟩,⟨y0,y1,y2,y3⟩,⟨p0,p1,p2,p3⟩,z0,z1,z2,z3⟩:=HB3.out.facts
     go_wp2_with fail
     refine (HOT.out c0 c1 c2 c3 _ hok).mono ?_
     rintro e wt ⟨d0,d1,d2,d3,rfl,hd,hbt⟩
     have HD:=hid hd
     have HBT:=hid (HB4.out.below hbt)
     clear hd hbt
     clear r0 r1 rf x0 x1 x2 x3 y0 y1 y2 y3 z0 z1 z2 z3 p0 p1 p2 p3
     obtain ⟨⟨r0,r1,rf⟩,⟨x0,x1,x2,x3⟩,⟨y0,y1,y2,y3⟩,⟨p0,p1,p2,p3⟩,z0,z1,z2,z3⟩:=HBT.out.facts
     go_wp2_with fail
     obtain ⟨hres,hrw⟩:=HBT.out.res (.int .u64 (d0 : Int)) (.int .u64 (d1 : Int)) (.int .u64 (d2 : Int)) (.int .u64 (d3 : Int))
     refine bodyPost_ret (v:=.agg #[.int .u64 (d0 : Int),.int .u64 (d1 : Int),.int .u64 (d2 : Int),.int .u64 (d3 : Int)]) ?_ rfl ?_
     ·obtain ⟨h0,h1,h2,h3⟩:=(Blk4 hres).1
      simp [results,Tryz.results92,go_sem,h0,h1,h2,h3]
     ·exact ⟨d0,d1,d2,d3,_,_,rfl,by rw [HD.out];exact okC_not _,hrw,.inl ⟨rfl,by rw [HD.out];exact HE.out,by omega,hj1⟩⟩
    ·go_wp2_with fail
     refine (HSN.out 93 j _ hjL hg HB.out.rd.here).mono ?_
     rintro e w3 ⟨rfl,hb3⟩
     have HB3:=hid (HB.out.below hb3)
     clear hb3 q2
     clear r0 r1 rf x0 x1 x2 x3 y0 y1 y2 y3 z0 z1 z2 z3 p0 p1 p2 p3
     obtain ⟨⟨r0,r1,rf⟩,⟨x0,x1,x2,x3⟩,⟨y0,y1,y2,y3⟩,⟨p0,p1,p2,p3⟩,z0,z1,z2,z3⟩:=HB3.out.facts
     go_wp2_with fail
     refine (HON.out j _ hjL HB3.out.rd.here).mono ?_
     rintro e w4 (⟨a,j1,ho,ha,hj1,hjs1,rfl,hw4⟩ | ⟨k,a,j1,ho,ha,hj1,hj2,rfl,hw4⟩)
     ·have HB4:=hid (HB3.out.call hw4)
      clear hw4
      clear r0 r1 rf x0 x1 x2 x3 y0 y1 y2 y3 z0 z1 z2 z3 p0 p1 p2 p3
      by_cases h45 : L[j1]? = some 45
      ·have hj11 : j1 + 1 ≤ s.size:=by have:=getE_lt h45;rw [HLZ.out] at this;omega
       go_wp2_with fail
       refine (HSY.out 45 j1 _ h45 HB4.out.rd.here).mono ?_
       rintro e w5 ⟨rfl,hb5⟩
       have HB5:=hid (HB4.out.below hb5)
       clear hb5
       obtain ⟨⟨r0,r1,rf⟩,⟨x0,x1,x2,x3⟩,⟨y0,y1,y2,y3⟩,⟨p0,p1,p2,p3⟩,z0,z1,z2,z3⟩:=HB5.out.facts
       have HB6 : Hid (BrAt w rb s c0 c1 c2 c3 (j1 + 1) none (w5.setCell ⟨rb,1,none⟩ (.int .i64 ((j1 : Int) + 1)))):=hid (by have:=HB5.out.at (j1 + 1);push_cast at this;exact this)
       go_wp2_with fail
       refine (HON.out (j1 + 1) _ hj11 HB6.out.rd.here).mono ?_
       rintro e w7 (⟨b,j2,ho2,hb2,hj3,hjs2,rfl,hw7⟩ | ⟨k,b,j2,ho2,hb2,hj3,hj4,rfl,hw7⟩)
       ·have HB7:=hid (HB6.out.call hw7)
        clear hw7
        clear r0 r1 rf x0 x1 x2 x3 y0 y1 y2 y3 z0 z1 z2 z3 p0 p1 p2 p3
        by_cases hlow : b < a
        ·have dg : decide ((b : Int) < (a : Int)) = true:=by simp;omega
         have q2:=HB7.out.good2
         obtain ⟨⟨r0,r1,rf⟩,⟨x0,x1,x2,x3⟩,⟨y0,y1,y2,y3⟩,⟨p0,p1,p2,p3⟩,z0,z1,z2,z3⟩:=HB7.out.facts
         go_wp2_with fail
         refine (HFL.out j2 j _ HB7.out.rd.here).mono ?_
         rintro e w8 ⟨rfl,hw8⟩
         have HB8:=hid (HB7.out.call hw8)
         clear hw8 q2
         clear r0 r1 rf x0 x1 x2 x3 y0 y1 y2 y3 z0 z1 z2 z3 p0 p1 p2 p3
         have HI : Hid (BrIn L i0 (j2) (c0,c1,c2,c3) (some (j))):=hid (HST.out.bad hg (itemS_low ho h45 ho2 hlow) (by omega) (by rw [HLZ.out];omega))
         have HG2 : Hid (0 < gk - 1):=hid (by have:=HG.out;rw [badM_none] at this;omega)
         clear HST HG
         have dk : decide ((j : Int) < 0) = false:=by simp
         have q2:=HB8.out.bad2
         obtain ⟨⟨r0,r1,rf⟩,⟨x0,x1,x2,x3⟩,⟨y0,y1,y2,y3⟩,⟨p0,p1,p2,p3⟩,z0,z1,z2,z3⟩:=HB8.out.facts
         go_wp2_with fail
         clear r0 r1 rf x0 x1 x2 x3 y0 y1 y2 y3 z0 z1 z2 z3 p0 p1 p2 p3
         clear q2
         go_loopw [10] (fun v10 wx => v10 = .int .i64 (a : Int) ∧ Hid (BrAt w rb s c0 c1 c2 c3 j2 (some (j)) wx)) (fun _ _ => 0)
         case atStart => exact ⟨rfl,HB8⟩
         case round =>
          obtain ⟨rfl,HX⟩:=hrel
          have q2:=HX.out.bad2
          obtain ⟨⟨r0,r1,rf⟩,⟨x0,x1,x2,x3⟩,⟨y0,y1,y2,y3⟩,⟨p0,p1,p2,p3⟩,z0,z1,z2,z3⟩:=HX.out.facts
          have dab : decide ((a : Int) ≤ (b : Int)) = false:=by simp;omega
          go_wp2_with fail
          go_roundg (gk - 1)
          case rel => exact ⟨j2,c0,c1,c2,c3,some (j),hok,HI,HX,HG2⟩
          all_goals (have:=HG2.out;omega)
        ·obtain ⟨⟨r0,r1,rf⟩,⟨x0,x1,x2,x3⟩,⟨y0,y1,y2,y3⟩,⟨p0,p1,p2,p3⟩,z0,z1,z2,z3⟩:=HB7.out.facts
         have q2:=HB7.out.good2
         have dg : decide ((b : Int) < (a : Int)) = false:=by simp <;> omega
         have HG2 : Hid (s.size - j2 + 1 < gk - 1):=hid (by have:=HG.out;rw [badM_none] at this;omega)
         clear HG
         go_wp2_with fail
         clear r0 r1 rf x0 x1 x2 x3 y0 y1 y2 y3 z0 z1 z2 z3 p0 p1 p2 p3
         clear q2 dg
         go_loopw [10] (fun v10 wx => ∃ (t e0 e1 e2 e3 : Nat),a ≤ t ∧ t ≤ b + 1 ∧ v10 = .int .i64 (t : Int) ∧ okC (e0,e1,e2,e3) ∧ Hid ((e0,e1,e2,e3) = withs (c0,c1,c2,c3) a (t - a)) ∧ Hid (BrAt w rb s e0 e1 e2 e3 j2 none wx)) (fun v _ => b + 1 - (intOf v).toNat)
         case atStart => exact ⟨a,c0,c1,c2,c3,by omega,by omega,by go_num,hok,hid (by rw [Nat.sub_self];rfl),HB7⟩
         case round =>
          obtain ⟨t,e0,e1,e2,e3,ht1,ht2,rfl,hoke,HE,HBE⟩:=hrel
          have q2:=HBE.out.good2
          obtain ⟨⟨r0,r1,rf⟩,⟨x0,x1,x2,x3⟩,⟨y0,y1,y2,y3⟩,⟨p0,p1,p2,p3⟩,z0,z1,z2,z3⟩:=HBE.out.facts
          by_cases hlt : t < b + 1
          ·have dt : decide ((t : Int) ≤ (b : Int)) = true:=by simp;omega
           have ht8 : t < 256:=by omega
           have HN : Hid (withB (e0,e1,e2,e3) t = withs (c0,c1,c2,c3) a (t + 1 - a)):=hid (by rw [HE.out,show t + 1 - a = (t - a) + 1 by omega,withs,show a + (t - a) = t by omega])
           go_wp2_with fail
           refine (HWT.out e0 e1 e2 e3 t _ hoke ht8).mono ?_
           rintro e wy ⟨d0,d1,d2,d3,rfl,hd,hby⟩
           have HD:=hid hd
           have HBY:=hid (HBE.out.below hby)
           clear hd hby q2
           clear r0 r1 rf x0 x1 x2 x3 y0 y1 y2 y3 z0 z1 z2 z3 p0 p1 p2 p3
           obtain ⟨⟨r0,r1,rf⟩,⟨x0,x1,x2,x3⟩,⟨y0,y1,y2,y3⟩,⟨p0,p1,p2,p3⟩,z0,z1,z2,z3⟩:=HBY.out.facts
           go_wp2_with fail
           go_roundw
           case rel =>
            have hokd : okC (d0,d1,d2,d3):=by rw [HD.out];exact okC_with hoke _
            exact ⟨t + 1,d0,d1,d2,d3,by omega,by omega,by go_num,hokd,hid (by rw [HD.out,HN.out]),hid (HBY.out.put d0 d1 d2 d3)⟩
           case measure => simp [intOf];omega
          ·obtain rfl : t = b + 1:=by omega
           have dt : decide (((b + 1 : Nat) : Int) ≤ (b : Int)) = false:=by simp <;> omega
           have HI : Hid (BrIn L i0 j2 (e0,e1,e2,e3) none):=hid (by rw [HE.out];exact HST.out.more hok hg (itemS_two ho h45 ho2 hlow))
           clear HST
           go_wp2_with fail
           go_roundg (gk - 1)
           case rel => exact ⟨j2,e0,e1,e2,e3,none,hoke,HI,HBE,hid (by rw [badM_none];exact HG2.out)⟩
           all_goals (have:=HG2.out;omega)
       ·have HB7:=hid (HB6.out.call hw7)
        clear hw7
        clear r0 r1 rf x0 x1 x2 x3 y0 y1 y2 y3 z0 z1 z2 z3 p0 p1 p2 p3
        have HI : Hid (BrIn L i0 (j2) (c0,c1,c2,c3) (some (k))):=hid (HST.out.bad hg (itemS_bad2 ho h45 ho2) (by omega) (by rw [HLZ.out];omega))
        have HG2 : Hid (0 < gk - 1):=hid (by have:=HG.out;rw [badM_none] at this;omega)
        clear HST HG
        have dk : decide ((k : Int) < 0) = false:=by simp
        have q2:=HB7.out.bad2
        obtain ⟨⟨r0,r1,rf⟩,⟨x0,x1,x2,x3⟩,⟨y0,y1,y2,y3⟩,⟨p0,p1,p2,p3⟩,z0,z1,z2,z3⟩:=HB7.out.facts
        go_wp2_with fail
        clear r0 r1 rf x0 x1 x2 x3 y0 y1 y2 y3 z0 z1 z2 z3 p0 p1 p2 p3
        clear q2
        go_loopw [10] (fun v10 wx => v10 = .int .i64 (a : Int) ∧ Hid (BrAt w rb s c0 c1 c2 c3 j2 (some (k)) wx)) (fun _ _ => 0)
        case atStart => exact ⟨rfl,HB7⟩
        case round =>
         obtain ⟨rfl,HX⟩:=hrel
         have q2:=HX.out.bad2
         obtain ⟨⟨r0,r1,rf⟩,⟨x0,x1,x2,x3⟩,⟨y0,y1,y2,y3⟩,⟨p0,p1,p2,p3⟩,z0,z1,z2,z3⟩:=HX.out.facts
         by_cases hab : a ≤ b
         ·have dab : decide ((a : Int) ≤ (b : Int)) = true:=by simp;omega
          go_wp2_with fail
          go_roundg (gk - 1)
          case rel => exact ⟨j2,c0,c1,c2,c3,some (k),hok,HI,HX,HG2⟩
          all_goals (have:=HG2.out;omega)
         ·have dab : decide ((a : Int) ≤ (b : Int)) = false:=by simp;omega
          go_wp2_with fail
          go_roundg (gk - 1)
          case rel => exact ⟨j2,c0,c1,c2,c3,some (k),hok,HI,HX,HG2⟩
          all_goals (have:=HG2.out;omega)
      ·go_wp2_with fail
       refine (HSN.out 45 j1 _ hjs1 h45 HB4.out.rd.here).mono ?_
       rintro e w5 ⟨rfl,hb5⟩
       have HB5:=hid (HB4.out.below hb5)
       clear hb5
       obtain ⟨⟨r0,r1,rf⟩,⟨x0,x1,x2,x3⟩,⟨y0,y1,y2,y3⟩,⟨p0,p1,p2,p3⟩,z0,z1,z2,z3⟩:=HB5.out.facts
       have q2:=HB5.out.good2
       have dg : decide ((a : Int) < (a : Int)) = false:=by simp <;> omega
       have HG2 : Hid (s.size - j1 + 1 < gk - 1):=hid (by have:=HG.out;rw [badM_none] at this;omega)
       clear HG
       go_wp2_with fail
       clear r0 r1 rf x0 x1 x2 x3 y0 y1 y2 y3 z0 z1 z2 z3 p0 p1 p2 p3
       clear q2 dg
       go_loopw [10] (fun v10 wx => ∃ (t e0 e1 e2 e3 : Nat),a ≤ t ∧ t ≤ a + 1 ∧ v10 = .int .i64 (t : Int) ∧ okC (e0,e1,e2,e3) ∧ Hid ((e0,e1,e2,e3) = withs (c0,c1,c2,c3) a (t - a)) ∧ Hid (BrAt w rb s e0 e1 e2 e3 j1 none wx)) (fun v _ => a + 1 - (intOf v).toNat)
       case atStart => exact ⟨a,c0,c1,c2,c3,by omega,by omega,by go_num,hok,hid (by rw [Nat.sub_self];rfl),HB5⟩
       case round =>
        obtain ⟨t,e0,e1,e2,e3,ht1,ht2,rfl,hoke,HE,HBE⟩:=hrel
        have q2:=HBE.out.good2
        obtain ⟨⟨r0,r1,rf⟩,⟨x0,x1,x2,x3⟩,⟨y0,y1,y2,y3⟩,⟨p0,p1,p2,p3⟩,z0,z1,z2,z3⟩:=HBE.out.facts
        by_cases hlt : t < a + 1
        ·have dt : decide ((t : Int) ≤ (a : Int)) = true:=by simp;omega
         have ht8 : t < 256:=by omega
         have HN : Hid (withB (e0,e1,e2,e3) t = withs (c0,c1,c2,c3) a (t + 1 - a)):=hid (by rw [HE.out,show t + 1 - a = (t - a) + 1 by omega,withs,show a + (t - a) = t by omega])
         go_wp2_with fail
         refine (HWT.out e0 e1 e2 e3 t _ hoke ht8).mono ?_
         rintro e wy ⟨d0,d1,d2,d3,rfl,hd,hby⟩
         have HD:=hid hd
         have HBY:=hid (HBE.out.below hby)
         clear hd hby q2
         clear r0 r1 rf x0 x1 x2 x3 y0 y1 y2 y3 z0 z1 z2 z3 p0 p1 p2 p3
         obtain ⟨⟨r0,r1,rf⟩,⟨x0,x1,x2,x3⟩,⟨y0,y1,y2,y3⟩,⟨p0,p1,p2,p3⟩,z0,z1,z2,z3⟩:=HBY.out.facts
         go_wp2_with fail
         go_roundw
         case rel =>
          have hokd : okC (d0,d1,d2,d3):=by rw [HD.out];exact okC_with hoke _
          exact ⟨t + 1,d0,d1,d2,d3,by omega,by omega,by go_num,hokd,hid (by rw [HD.out,HN.out]),hid (HBY.out.put d0 d1 d2 d3)⟩
         case measure => simp [intOf];omega
        ·obtain rfl : t = a + 1:=by omega
         have dt : decide (((a + 1 : Nat) : Int) ≤ (a : Int)) = false:=by simp <;> omega
         have HI : Hid (BrIn L i0 j1 (e0,e1,e2,e3) none):=hid (by rw [HE.out];exact HST.out.more hok hg (itemS_one ho h45))
         clear HST
         go_wp2_with fail
         go_roundg (gk - 1)
         case rel => exact ⟨j1,e0,e1,e2,e3,none,hoke,HI,HBE,hid (by rw [badM_none];exact HG2.out)⟩
         all_goals (have:=HG2.out;omega)
     ·have HB4:=hid (HB3.out.call hw4)
      clear hw4
      clear r0 r1 rf x0 x1 x2 x3 y0 y1 y2 y3 z0 z1 z2 z3 p0 p1 p2 p3
      go_wp2_with fail
      refine (HSB.out 45 j1 k _ HB4.out.rd.here).mono ?_
      rintro e w5 ⟨rfl,hb5⟩
      have HB5:=hid (HB4.out.below hb5)
      clear hb5
      have HI : Hid (BrIn L i0 (j1) (c0,c1,c2,c3) (some (k))):=hid (HST.out.bad hg (itemS_bad1 ho) (by omega) (by rw [HLZ.out];omega))
      have HG2 : Hid (0 < gk - 1):=hid (by have:=HG.out;rw [badM_none] at this;omega)
      clear HST HG
      have dk : decide ((k : Int) < 0) = false:=by simp
      have q2:=HB5.out.bad2
      obtain ⟨⟨r0,r1,rf⟩,⟨x0,x1,x2,x3⟩,⟨y0,y1,y2,y3⟩,⟨p0,p1,p2,p3⟩,z0,z1,z2,z3⟩:=HB5.out.facts
      go_wp2_with fail
      clear r0 r1 rf x0 x1 x2 x3 y0 y1 y2 y3 z0 z1 z2 z3 p0 p1 p2 p3
      clear q2
      go_loopw [10] (fun v10 wx => v10 = .int .i64 (a : Int) ∧ Hid (BrAt w rb s c0 c1 c2 c3 j1 (some (k)) wx)) (fun _ _ => 0)
      case atStart => exact ⟨rfl,HB5⟩
      case round =>
       obtain ⟨rfl,HX⟩:=hrel
       have q2:=HX.out.bad2
       obtain ⟨⟨r0,r1,rf⟩,⟨x0,x1,x2,x3⟩,⟨y0,y1,y2,y3⟩,⟨p0,p1,p2,p3⟩,z0,z1,z2,z3⟩:=HX.out.facts
       have dab : decide ((a : Int) ≤ (a : Int)) = true:=by simp
       go_wp2_with fail
       go_roundg (gk - 1)
       case rel => exact ⟨j1,c0,c1,c2,c3,some (k),hok,HI,HX,HG2⟩
       all_goals (have:=HG2.out;omega)
theorem rbr_is {rb : Nat} {s : ByteArray} {i : Nat} (w : World) (h : RW w rb s i none w) (hs : s.size ≤ 200) (hi : i ≤ s.size) (h94 : s.data.toList[i]? ≠ some 94) :
 Calls Tryz.prog 92 #[.pointer (some ⟨rb,0,none⟩)] w (RBrIs (bracketS s.data.toList i) rb s i w):=by
 obtain ⟨L,hL⟩ : ∃ L,L = s.data.toList:=⟨_,rfl⟩
 have hLZ : L.length = s.size:=by rw [hL];simp
 have HLZ:=hid hLZ
 have HSY : Hid (∀ (c : UInt8) (j : Nat) W,L[j]? = some c → RW W rb s j none W → Calls Tryz.prog 64 #[.pointer (some ⟨rb,0,none⟩),.int .u8 (c.toNat : Int)] W (RSeesIs true W)):=hid fun c j W hc hw => rsees_yes W hw hs (by rw [← hL];exact hc)
 have HSN : Hid (∀ (c : UInt8) (j : Nat) W,j ≤ s.size → L[j]? ≠ some c → RW W rb s j none W → Calls Tryz.prog 64 #[.pointer (some ⟨rb,0,none⟩),.int .u8 (c.toNat : Int)] W (RSeesIs false W)):=hid fun c j W hj hc hw => rsees_no W hw hs hj (by rw [← hL];exact hc)
 have HSB : Hid (∀ (c j k : Nat) W,RW W rb s j (some k) W → Calls Tryz.prog 64 #[.pointer (some ⟨rb,0,none⟩),.int .u8 (c : Int)] W (RSeesIs false W)):=hid fun c j k W hw => rsees_bad c W hw
 have HON : Hid (∀ j W,j ≤ s.size → RW W rb s j none W → Calls Tryz.prog 94 #[.pointer (some ⟨rb,0,none⟩)] W (ROneIs (oneS L j) rb s j W)):=hid fun j W hj hw => by rw [hL];exact rone_c W hw hs hj
 have HFL : Hid (∀ j (k : Nat) W,RW W rb s j none W → Calls Tryz.prog 40 #[.pointer (some ⟨rb,0,none⟩),.int .i64 (k : Int)] W (RFailIs rb s j (some k) W)):=hid fun j k W hw => rfail_good W hw k
 have HWT : Hid (∀ (c0 c1 c2 c3 b : Nat) (W : World),okC (c0,c1,c2,c3) → b < 256 → Calls Tryz.prog 79 #[.agg #[.int .u64 (c0 : Int),.int .u64 (c1 : Int),.int .u64 (c2 : Int),.int .u64 (c3 : Int)],.int .i64 (b : Int)] W (ClsIs (withB (c0,c1,c2,c3) b) W)):=hid fun c0 c1 c2 c3 b W h1 h2 => RWith_any c0 c1 c2 c3 b W h1 h2
 unfold RSeesIs at HSY HSN HSB
 unfold ROneIs ROneAt at HON
 unfold RFailIs at HFL
 unfold ClsIs at HWT
 have HB0:=hid (BrAt.start h)
 have hrb:=h.lt
 have h94' : L[i]? ≠ some 94:=by rw [hL];exact h94
 have hqo : ∀ c j,itemsS L i zc = .ok c j → bracketS s.data.toList i = .ok (c) j:=by
  intro c j hq
  unfold bracketS
  rw [if_neg h94,← hL,hq]
 have hqb : ∀ k,itemsS L i zc = .bad k → bracketS s.data.toList i = .bad k:=by
  intro k hq
  unfold bracketS
  rw [if_neg h94,← hL,hq]
 obtain ⟨Q,hQ⟩ : ∃ Q,Q = bracketS s.data.toList i:=⟨_,rfl⟩
 rw [← hQ] at hqo hqb ⊢
 obtain ⟨i0,hi0⟩ : ∃ i0,i0 = i:=⟨_,rfl⟩
 have hi0s : i ≤ i0 ∧ i0 ≤ i + 1 ∧ i0 ≤ s.size:=by omega
 have HI0:=hid hi0
 rw [← hi0] at hqo hqb
 have HQO:=hid hqo
 have HQB:=hid hqb
 have H94:=hid h94'
 obtain ⟨hi0a,hi0b,hi0c⟩:=hi0s
 clear h h94 h94' hL hLZ hQ hi0 hqo hqb
 unfold RBrIs
 go_enter Tryz.func92,Tryz.ntmps92
 go_wp2_with fail
 refine (HSN.out 94 i _ (by omega) H94.out HB0.out.rd.here).mono ?_
 rintro e w1 ⟨rfl,hb1⟩
 have HB1:=hid (HB0.out.below hb1)
 clear hb1
 go_wp2_with fail
 have HB2 : Hid (BrAt w rb s 0 0 0 0 i0 none w1):=hid (by rw [HI0.out];exact HB1.out)
 go_loopg [5] (s.size + 2) (fun gk _ wr => ∃ (j c0 c1 c2 c3 : Nat) (bad : Option Nat),okC (c0,c1,c2,c3) ∧ Hid (BrIn L i0 j (c0,c1,c2,c3) bad) ∧ Hid (BrAt w rb s c0 c1 c2 c3 j bad wr) ∧ Hid (badM bad (s.size - j) < gk))
 case atStart => exact ⟨i0,0,0,0,0,none,okC_zc,hid ⟨rfl,Nat.le_refl _,by rw [HLZ.out];exact hi0c⟩,HB2,hid (by rw [badM_none];omega)⟩
 case round =>
  obtain ⟨j,c0,c1,c2,c3,bad,hok,HST,HB,HG⟩:=hrel
  clear HB0 HB1 HB2
  cases bad with
  | some k =>
    have q2:=HB.out.bad2
    have dk : decide ((k : Int) < 0) = false:=by simp
    have HE : Hid (Q = .bad k ∧ i ≤ j ∧ j ≤ s.size + 1):=hid ⟨HQB.out _ HST.out.1,by have:=HST.out.2.1;omega,by have:=HST.out.2.2;rw [HLZ.out] at this;exact this⟩
    clear HG HST
    obtain ⟨⟨r0,r1,rf⟩,⟨x0,x1,x2,x3⟩,⟨y0,y1,y2,y3⟩,⟨p0,p1,p2,p3⟩,z0,z1,z2,z3⟩:=HB.out.facts
    go_wp2_with fail
    obtain ⟨hres,hrw⟩:=HB.out.res (.int .u64 (c0 : Int)) (.int .u64 (c1 : Int)) (.int .u64 (c2 : Int)) (.int .u64 (c3 : Int))
    refine bodyPost_ret (v:=.agg #[.int .u64 (c0 : Int),.int .u64 (c1 : Int),.int .u64 (c2 : Int),.int .u64 (c3 : Int)]) ?_ rfl ?_
    ·obtain ⟨h0,h1,h2,h3⟩:=(Blk4 hres).1
     simp [results,Tryz.results92,go_sem,h0,h1,h2,h3]
    ·exact ⟨c0,c1,c2,c3,_,_,rfl,hok,hrw,.inr ⟨k,rfl,HE.out.1,HE.out.2.1,HE.out.2.2⟩⟩
  | none =>
    have q2:=HB.out.good2
    have hjL:=HST.out.2.2
    have hij:=HST.out.2.1
    rw [HLZ.out] at hjL
    obtain ⟨⟨r0,r1,rf⟩,⟨x0,x1,x2,x3⟩,⟨y0,y1,y2,y3⟩,⟨p0,p1,p2,p3⟩,z0,z1,z2,z3⟩:=HB.out.facts
    by_cases hg : L[j]? = some 93
    ·have HE : Hid (Q = .ok ((c0,c1,c2,c3)) (j + 1)):=hid (HQO.out _ _ (HST.out.end_ hg))
     have hj1 : j + 1 ≤ s.size:=by have:=getE_lt hg;rw [HLZ.out] at this;omega
     go_wp2_with fail
     refine (HSY.out 93 j _ hg HB.out.rd.here).mono ?_
     rintro e w3 ⟨rfl,hb3⟩
     have HB3:=hid (HB.out.below hb3)
     clear hb3 q2 HG HST
     clear r0 r1 rf x0 x1 x2 x3 y0 y1 y2 y3 z0 z1 z2 z3 p0 p1 p2 p3
     obtain ⟨⟨r0,r1,rf⟩,⟨x0,x1,x2,x3⟩,⟨y0,y1,y2,y3⟩,⟨p0,p1,p2,p3⟩,z0,z1,z2,z3⟩:=HB3.out.facts
     have HB4 : Hid (BrAt w rb s c0 c1 c2 c3 (j + 1) none (w3.setCell ⟨rb,1,none⟩ (.int .i64 ((j : Int) + 1)))):=hid (by have:=HB3.out.at (j + 1);push_cast at this;exact this)
     clear r0 r1 rf x0 x1 x2 x3 y0 y1 y2 y3 z0 z1 z2 z3 p0 p1 p2 p3
     obtain ⟨⟨r0,r1,rf⟩,⟨x0,x1,x2,x3⟩,⟨y0,y1,y2,y3⟩,⟨p0,p1,p2,p3⟩,z0,z1,z2,z3⟩:=HB3.out.facts
     go_wp2_with fail
     obtain ⟨hres,hrw⟩:=HB4.out.res (.int .u64 (c0 : Int)) (.int .u64 (c1 : Int)) (.int .u64 (c2 : Int)) (.int .u64 (c3 : Int))
     refine bodyPost_ret (v:=.agg #[.int .u64 (c0 : Int),.int .u64 (c1 : Int),.int .u64 (c2 : Int),.int .u64 (c3 : Int)]) ?_ rfl ?_
     ·obtain ⟨h0,h1,h2,h3⟩:=(Blk4 hres).1
      simp [results,Tryz.results92,go_sem,h0,h1,h2,h3]
     ·exact ⟨c0,c1,c2,c3,_,_,rfl,hok,hrw,.inl ⟨rfl,by exact HE.out,by omega,hj1⟩⟩
    ·go_wp2_with fail
     refine (HSN.out 93 j _ hjL hg HB.out.rd.here).mono ?_
     rintro e w3 ⟨rfl,hb3⟩
     have HB3:=hid (HB.out.below hb3)
     clear hb3 q2
     clear r0 r1 rf x0 x1 x2 x3 y0 y1 y2 y3 z0 z1 z2 z3 p0 p1 p2 p3
     obtain ⟨⟨r0,r1,rf⟩,⟨x0,x1,x2,x3⟩,⟨y0,y1,y2,y3⟩,⟨p0,p1,p2,p3⟩,z0,z1,z2,z3⟩:=HB3.out.facts
     go_wp2_with fail
     refine (HON.out j _ hjL HB3.out.rd.here).mono ?_
     rintro e w4 (⟨a,j1,ho,ha,hj1,hjs1,rfl,hw4⟩ | ⟨k,a,j1,ho,ha,hj1,hj2,rfl,hw4⟩)
     ·have HB4:=hid (HB3.out.call hw4)
      clear hw4
      clear r0 r1 rf x0 x1 x2 x3 y0 y1 y2 y3 z0 z1 z2 z3 p0 p1 p2 p3
      by_cases h45 : L[j1]? = some 45
      ·have hj11 : j1 + 1 ≤ s.size:=by have:=getE_lt h45;rw [HLZ.out] at this;omega
       go_wp2_with fail
       refine (HSY.out 45 j1 _ h45 HB4.out.rd.here).mono ?_
       rintro e w5 ⟨rfl,hb5⟩
       have HB5:=hid (HB4.out.below hb5)
       clear hb5
       obtain ⟨⟨r0,r1,rf⟩,⟨x0,x1,x2,x3⟩,⟨y0,y1,y2,y3⟩,⟨p0,p1,p2,p3⟩,z0,z1,z2,z3⟩:=HB5.out.facts
       have HB6 : Hid (BrAt w rb s c0 c1 c2 c3 (j1 + 1) none (w5.setCell ⟨rb,1,none⟩ (.int .i64 ((j1 : Int) + 1)))):=hid (by have:=HB5.out.at (j1 + 1);push_cast at this;exact this)
       go_wp2_with fail
       refine (HON.out (j1 + 1) _ hj11 HB6.out.rd.here).mono ?_
       rintro e w7 (⟨b,j2,ho2,hb2,hj3,hjs2,rfl,hw7⟩ | ⟨k,b,j2,ho2,hb2,hj3,hj4,rfl,hw7⟩)
       ·have HB7:=hid (HB6.out.call hw7)
        clear hw7
        clear r0 r1 rf x0 x1 x2 x3 y0 y1 y2 y3 z0 z1 z2 z3 p0 p1 p2 p3
        by_cases hlow : b < a
        ·have dg : decide ((b : Int) < (a : Int)) = true:=by simp;omega
         have q2:=HB7.out.good2
         obtain ⟨⟨r0,r1,rf⟩,⟨x0,x1,x2,x3⟩,⟨y0,y1,y2,y3⟩,⟨p0,p1,p2,p3⟩,z0,z1,z2,z3⟩:=HB7.out.facts
         go_wp2_with fail
         refine (HFL.out j2 j _ HB7.out.rd.here).mono ?_
         rintro e w8 ⟨rfl,hw8⟩
         have HB8:=hid (HB7.out.call hw8)
         clear hw8 q2
         clear r0 r1 rf x0 x1 x2 x3 y0 y1 y2 y3 z0 z1 z2 z3 p0 p1 p2 p3
         have HI : Hid (BrIn L i0 (j2) (c0,c1,c2,c3) (some (j))):=hid (HST.out.bad hg (itemS_low ho h45 ho2 hlow) (by omega) (by rw [HLZ.out];omega))
         have HG2 : Hid (0 < gk - 1):=hid (by have:=HG.out;rw [badM_none] at this;omega)
         clear HST HG
         have dk : decide ((j : Int) < 0) = false:=by simp
         have q2:=HB8.out.bad2
         obtain ⟨⟨r0,r1,rf⟩,⟨x0,x1,x2,x3⟩,⟨y0,y1,y2,y3⟩,⟨p0,p1,p2,p3⟩,z0,z1,z2,z3⟩:=HB8.out.facts
         go_wp2_with fail
         clear r0 r1 rf x0 x1 x2 x3 y0 y1 y2 y3 z0 z1 z2 z3 p0 p1 p2 p3
         clear q2
         go_loopw [10] (fun v10 wx => v10 = .int .i64 (a : Int) ∧ Hid (BrAt w rb s c0 c1 c2 c3 j2 (some (j)) wx)) (fun _ _ => 0)
         case atStart => exact ⟨rfl,HB8⟩
         case round =>
          obtain ⟨rfl,HX⟩:=hrel
          have q2:=HX.out.bad2
          obtain ⟨⟨r0,r1,rf⟩,⟨x0,x1,x2,x3⟩,⟨y0,y1,y2,y3⟩,⟨p0,p1,p2,p3⟩,z0,z1,z2,z3⟩:=HX.out.facts
          have dab : decide ((a : Int) ≤ (b : Int)) = false:=by simp;omega
          go_wp2_with fail
          go_roundg (gk - 1)
          case rel => exact ⟨j2,c0,c1,c2,c3,some (j),hok,HI,HX,HG2⟩
          all_goals (have:=HG2.out;omega)
        ·obtain ⟨⟨r0,r1,rf⟩,⟨x0,x1,x2,x3⟩,⟨y0,y1,y2,y3⟩,⟨p0,p1,p2,p3⟩,z0,z1,z2,z3⟩:=HB7.out.facts
         have q2:=HB7.out.good2
         have dg : decide ((b : Int) < (a : Int)) = false:=by simp <;> omega
         have HG2 : Hid (s.size - j2 + 1 < gk - 1):=hid (by have:=HG.out;rw [badM_none] at this;omega)
         clear HG
         go_wp2_with fail
         clear r0 r1 rf x0 x1 x2 x3 y0 y1 y2 y3 z0 z1 z2 z3 p0 p1 p2 p3
         clear q2 dg
         go_loopw [10] (fun v10 wx => ∃ (t e0 e1 e2 e3 : Nat),a ≤ t ∧ t ≤ b + 1 ∧ v10 = .int .i64 (t : Int) ∧ okC (e0,e1,e2,e3) ∧ Hid ((e0,e1,e2,e3) = withs (c0,c1,c2,c3) a (t - a)) ∧ Hid (BrAt w rb s e0 e1 e2 e3 j2 none wx)) (fun v _ => b + 1 - (intOf v).toNat)
         case atStart => exact ⟨a,c0,c1,c2,c3,by omega,by omega,by go_num,hok,hid (by rw [Nat.sub_self];rfl),HB7⟩
         case round =>
          obtain ⟨t,e0,e1,e2,e3,ht1,ht2,rfl,hoke,HE,HBE⟩:=hrel
          have q2:=HBE.out.good2
          obtain ⟨⟨r0,r1,rf⟩,⟨x0,x1,x2,x3⟩,⟨y0,y1,y2,y3⟩,⟨p0,p1,p2,p3⟩,z0,z1,z2,z3⟩:=HBE.out.facts
          by_cases hlt : t < b + 1
          ·have dt : decide ((t : Int) ≤ (b : Int)) = true:=by simp;omega
           have ht8 : t < 256:=by omega
           have HN : Hid (withB (e0,e1,e2,e3) t = withs (c0,c1,c2,c3) a (t + 1 - a)):=hid (by rw [HE.out,show t + 1 - a = (t - a) + 1 by omega,withs,show a + (t - a) = t by omega])
           go_wp2_with fail
           refine (HWT.out e0 e1 e2 e3 t _ hoke ht8).mono ?_
           rintro e wy ⟨d0,d1,d2,d3,rfl,hd,hby⟩
           have HD:=hid hd
           have HBY:=hid (HBE.out.below hby)
           clear hd hby q2
           clear r0 r1 rf x0 x1 x2 x3 y0 y1 y2 y3 z0 z1 z2 z3 p0 p1 p2 p3
           obtain ⟨⟨r0,r1,rf⟩,⟨x0,x1,x2,x3⟩,⟨y0,y1,y2,y3⟩,⟨p0,p1,p2,p3⟩,z0,z1,z2,z3⟩:=HBY.out.facts
           go_wp2_with fail
           go_roundw
           case rel =>
            have hokd : okC (d0,d1,d2,d3):=by rw [HD.out];exact okC_with hoke _
            exact ⟨t + 1,d0,d1,d2,d3,by omega,by omega,by go_num,hokd,hid (by rw [HD.out,HN.out]),hid (HBY.out.put d0 d1 d2 d3)⟩
           case measure => simp [intOf];omega
          ·obtain rfl : t = b + 1:=by omega
           have dt : decide (((b + 1 : Nat) : Int) ≤ (b : Int)) = false:=by simp <;> omega
           have HI : Hid (BrIn L i0 j2 (e0,e1,e2,e3) none):=hid (by rw [HE.out];exact HST.out.more hok hg (itemS_two ho h45 ho2 hlow))
           clear HST
           go_wp2_with fail
           go_roundg (gk - 1)
           case rel => exact ⟨j2,e0,e1,e2,e3,none,hoke,HI,HBE,hid (by rw [badM_none];exact HG2.out)⟩
           all_goals (have:=HG2.out;omega)
       ·have HB7:=hid (HB6.out.call hw7)
        clear hw7
        clear r0 r1 rf x0 x1 x2 x3 y0 y1 y2 y3 z0 z1 z2 z3 p0 p1 p2 p3
        have HI : Hid (BrIn L i0 (j2) (c0,c1,c2,c3) (some (k))):=hid (HST.out.bad hg (itemS_bad2 ho h45 ho2) (by omega) (by rw [HLZ.out];omega))
        have HG2 : Hid (0 < gk - 1):=hid (by have:=HG.out;rw [badM_none] at this;omega)
        clear HST HG
        have dk : decide ((k : Int) < 0) = false:=by simp
        have q2:=HB7.out.bad2
        obtain ⟨⟨r0,r1,rf⟩,⟨x0,x1,x2,x3⟩,⟨y0,y1,y2,y3⟩,⟨p0,p1,p2,p3⟩,z0,z1,z2,z3⟩:=HB7.out.facts
        go_wp2_with fail
        clear r0 r1 rf x0 x1 x2 x3 y0 y1 y2 y3 z0 z1 z2 z3 p0 p1 p2 p3
        clear q2
        go_loopw [10] (fun v10 wx => v10 = .int .i64 (a : Int) ∧ Hid (BrAt w rb s c0 c1 c2 c3 j2 (some (k)) wx)) (fun _ _ => 0)
        case atStart => exact ⟨rfl,HB7⟩
        case round =>
         obtain ⟨rfl,HX⟩:=hrel
         have q2:=HX.out.bad2
         obtain ⟨⟨r0,r1,rf⟩,⟨x0,x1,x2,x3⟩,⟨y0,y1,y2,y3⟩,⟨p0,p1,p2,p3⟩,z0,z1,z2,z3⟩:=HX.out.facts
         by_cases hab : a ≤ b
         ·have dab : decide ((a : Int) ≤ (b : Int)) = true:=by simp;omega
          go_wp2_with fail
          go_roundg (gk - 1)
          case rel => exact ⟨j2,c0,c1,c2,c3,some (k),hok,HI,HX,HG2⟩
          all_goals (have:=HG2.out;omega)
         ·have dab : decide ((a : Int) ≤ (b : Int)) = false:=by simp;omega
          go_wp2_with fail
          go_roundg (gk - 1)
          case rel => exact ⟨j2,c0,c1,c2,c3,some (k),hok,HI,HX,HG2⟩
          all_goals (have:=HG2.out;omega)
      ·go_wp2_with fail
       refine (HSN.out 45 j1 _ hjs1 h45 HB4.out.rd.here).mono ?_
       rintro e w5 ⟨rfl,hb5⟩
       have HB5:=hid (HB4.out.below hb5)
       clear hb5
       obtain ⟨⟨r0,r1,rf⟩,⟨x0,x1,x2,x3⟩,⟨y0,y1,y2,y3⟩,⟨p0,p1,p2,p3⟩,z0,z1,z2,z3⟩:=HB5.out.facts
       have q2:=HB5.out.good2
       have dg : decide ((a : Int) < (a : Int)) = false:=by simp <;> omega
       have HG2 : Hid (s.size - j1 + 1 < gk - 1):=hid (by have:=HG.out;rw [badM_none] at this;omega)
       clear HG
       go_wp2_with fail
       clear r0 r1 rf x0 x1 x2 x3 y0 y1 y2 y3 z0 z1 z2 z3 p0 p1 p2 p3
       clear q2 dg
       go_loopw [10] (fun v10 wx => ∃ (t e0 e1 e2 e3 : Nat),a ≤ t ∧ t ≤ a + 1 ∧ v10 = .int .i64 (t : Int) ∧ okC (e0,e1,e2,e3) ∧ Hid ((e0,e1,e2,e3) = withs (c0,c1,c2,c3) a (t - a)) ∧ Hid (BrAt w rb s e0 e1 e2 e3 j1 none wx)) (fun v _ => a + 1 - (intOf v).toNat)
       case atStart => exact ⟨a,c0,c1,c2,c3,by omega,by omega,by go_num,hok,hid (by rw [Nat.sub_self];rfl),HB5⟩
       case round =>
        obtain ⟨t,e0,e1,e2,e3,ht1,ht2,rfl,hoke,HE,HBE⟩:=hrel
        have q2:=HBE.out.good2
        obtain ⟨⟨r0,r1,rf⟩,⟨x0,x1,x2,x3⟩,⟨y0,y1,y2,y3⟩,⟨p0,p1,p2,p3⟩,z0,z1,z2,z3⟩:=HBE.out.facts
        by_cases hlt : t < a + 1
        ·have dt : decide ((t : Int) ≤ (a : Int)) = true:=by simp;omega
         have ht8 : t < 256:=by omega
         have HN : Hid (withB (e0,e1,e2,e3) t = withs (c0,c1,c2,c3) a (t + 1 - a)):=hid (by rw [HE.out,show t + 1 - a = (t - a) + 1 by omega,withs,show a + (t - a) = t by omega])
         go_wp2_with fail
         refine (HWT.out e0 e1 e2 e3 t _ hoke ht8).mono ?_
         rintro e wy ⟨d0,d1,d2,d3,rfl,hd,hby⟩
         have HD:=hid hd
         have HBY:=hid (HBE.out.below hby)
         clear hd hby q2
         clear r0 r1 rf x0 x1 x2 x3 y0 y1 y2 y3 z0 z1 z2 z3 p0 p1 p2 p3
         obtain ⟨⟨r0,r1,rf⟩,⟨x0,x1,x2,x3⟩,⟨y0,y1,y2,y3⟩,⟨p0,p1,p2,p3⟩,z0,z1,z2,z3⟩:=HBY.out.facts
         go_wp2_with fail
         go_roundw
         case rel =>
          have hokd : okC (d0,d1,d2,d3):=by rw [HD.out];exact okC_with hoke _
          exact ⟨t + 1,d0,d1,d2,d3,by omega,by omega,by go_num,hokd,hid (by rw [HD.out,HN.out]),hid (HBY.out.put d0 d1 d2 d3)⟩
         case measure => simp [intOf];omega
        ·obtain rfl : t = a + 1:=by omega
         have dt : decide (((a + 1 : Nat) : Int) ≤ (a : Int)) = false:=by simp <;> omega
         have HI : Hid (BrIn L i0 j1 (e0,e1,e2,e3) none):=hid (by rw [HE.out];exact HST.out.more hok hg (itemS_one ho h45))
         clear HST
         go_wp2_with fail
         go_roundg (gk - 1)
         case rel => exact ⟨j1,e0,e1,e2,e3,none,hoke,HI,HBE,hid (by rw [badM_none];exact HG2.out)⟩
         all_goals (have:=HG2.out;omega)
     ·have HB4:=hid (HB3.out.call hw4)
      clear hw4
      clear r0 r1 rf x0 x1 x2 x3 y0 y1 y2 y3 z0 z1 z2 z3 p0 p1 p2 p3
      go_wp2_with fail
      refine (HSB.out 45 j1 k _ HB4.out.rd.here).mono ?_
      rintro e w5 ⟨rfl,hb5⟩
      have HB5:=hid (HB4.out.below hb5)
      clear hb5
      have HI : Hid (BrIn L i0 (j1) (c0,c1,c2,c3) (some (k))):=hid (HST.out.bad hg (itemS_bad1 ho) (by omega) (by rw [HLZ.out];omega))
      have HG2 : Hid (0 < gk - 1):=hid (by have:=HG.out;rw [badM_none] at this;omega)
      clear HST HG
      have dk : decide ((k : Int) < 0) = false:=by simp
      have q2:=HB5.out.bad2
      obtain ⟨⟨r0,r1,rf⟩,⟨x0,x1,x2,x3⟩,⟨y0,y1,y2,y3⟩,⟨p0,p1,p2,p3⟩,z0,z1,z2,z3⟩:=HB5.out.facts
      go_wp2_with fail
      clear r0 r1 rf x0 x1 x2 x3 y0 y1 y2 y3 z0 z1 z2 z3 p0 p1 p2 p3
      clear q2
      go_loopw [10] (fun v10 wx => v10 = .int .i64 (a : Int) ∧ Hid (BrAt w rb s c0 c1 c2 c3 j1 (some (k)) wx)) (fun _ _ => 0)
      case atStart => exact ⟨rfl,HB5⟩
      case round =>
       obtain ⟨rfl,HX⟩:=hrel
       have q2:=HX.out.bad2
       obtain ⟨⟨r0,r1,rf⟩,⟨x0,x1,x2,x3⟩,⟨y0,y1,y2,y3⟩,⟨p0,p1,p2,p3⟩,z0,z1,z2,z3⟩:=HX.out.facts
       have dab : decide ((a : Int) ≤ (a : Int)) = true:=by simp
       go_wp2_with fail
       go_roundg (gk - 1)
       case rel => exact ⟨j1,c0,c1,c2,c3,some (k),hok,HI,HX,HG2⟩
       all_goals (have:=HG2.out;omega)
theorem rbr_c {rb : Nat} {s : ByteArray} {i : Nat} (w : World) (h : RW w rb s i none w) (hs : s.size ≤ 200) (hi : i ≤ s.size) :
 Calls Tryz.prog 92 #[.pointer (some ⟨rb,0,none⟩)] w (RBrIs (bracketS s.data.toList i) rb s i w):=by
 by_cases h94 : s.data.toList[i]? = some 94
 ·exact rbr_not w h hs hi h94
 ·exact rbr_is w h hs hi h94
end Go.Proofs.YthcahjnniendnacGreatDoor
