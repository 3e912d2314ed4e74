/-
  Py, Pz, Psn.
-/
import Derived.Test.YthhcpbfgoofppaaGreatDoorGPl
set_option linter.unusedVariables false
set_option linter.unusedSimpArgs false
set_option maxHeartbeats 2000000
namespace Wf
inductive PR (α : Type) where
 | ok (a : α) (j : Nat)
 | bad (k : Nat)
def hexV (c : UInt8) : Option Nat:=if 48 ≤ c.toNat ∧ c.toNat ≤ 57 then some (c.toNat - 48) else if 97 ≤ c.toNat ∧ c.toNat ≤ 102 then some (c.toNat - 87) else none
def hexS (s : List UInt8) (i : Nat) : PR Nat :=
 match s[i + 2]? with
 | none => .bad s.length
 | some h => match hexV h with
   | none => .bad i
   | some a => match s[i + 3]? with
     | none => .bad s.length
     | some l => match hexV l with
       | none => .bad i
       | some b => .ok (a * 16 + b) (i + 4)
def oneS (s : List UInt8) (i : Nat) : PR Nat :=
 match s[i]? with
 | none => .bad s.length
 | some c =>
   if c = 92 then
    match s[i + 1]? with
    | none => .bad s.length
    | some d => if d = 120 then hexS s i else if d ∈ specialL then .ok d.toNat (i + 2) else .bad i
   else if c.toNat < 32 ∨ 126 < c.toNat ∨ c ∈ specialL then .bad i else .ok c.toNat (i + 1)
def itemS (s : List UInt8) (i : Nat) : PR (Nat × Nat) :=
 match oneS s i with
 | .bad k => .bad k
 | .ok lo j =>
   if s[j]? = some 45 then
    match oneS s (j + 1) with
    | .bad k => .bad k
    | .ok hi j' => if hi < lo then .bad i else .ok (lo,hi) j'
   else .ok (lo,lo) j
def spanC (lo hi : Nat) : Cls:=selC (fun x => decide (lo ≤ x)) (hi + 1)
def itemsS (s : List UInt8) (i : Nat) (c : Cls) : PR Cls :=
 if s[i]? = some 93 then .ok c (i + 1)
 else match itemS s i with
  | .bad k => .bad k
  | .ok p j => if i < j ∧ i < s.length then itemsS s j (eitherC c (spanC p.1 p.2)) else .bad 0
termination_by s.length - i
def bracketS (s : List UInt8) (i : Nat) : PR Cls :=
 if s[i]? = some 94 then
  match itemsS s (i + 1) zc with
  | .bad k => .bad k
  | .ok c j => .ok (notC c) j
 else itemsS s i zc
def signsS (s : List UInt8) (j : Nat) (t : Rx) : Rx × Nat :=
 if h : j < s.length then
  if s[j] = 42 then signsS s (j + 1) (.star t)
  else if s[j] = 43 then signsS s (j + 1) (.plus t)
  else if s[j] = 63 then signsS s (j + 1) (.opt t)
  else (t,j)
 else (t,j)
termination_by s.length - j
def stopS (s : List UInt8) (j : Nat) : Bool :=
 match s[j]? with
 | none => true
 | some c => c == 124 || c == 41
mutual
def atomS (s : List UInt8) (i : Nat) : PR Rx :=
 if hi : i < s.length then
  if s[i] = 40 then
   match orS s (i + 1) with
   | .bad k => .bad k
   | .ok t j => if s[j]? = some 41 then .ok t (j + 1) else .bad j
  else if s[i] = 91 then
   match bracketS s (i + 1) with
   | .bad k => .bad k
   | .ok c j => .ok (.byte c) j
  else if s[i] = 46 then .ok (.byte dotC) (i + 1)
  else if s[i] = 94 then .ok .bgn (i + 1)
  else if s[i] = 36 then .ok .fin (i + 1)
  else match oneS s i with
   | .bad k => .bad k
   | .ok b j => .ok (.byte (withB zc b)) j
 else .bad s.length
termination_by (s.length + 1 - i,0)
def catS (s : List UInt8) (i : Nat) : PR Rx :=
 if stopS s i = true then .ok .empty i
 else match atomS s i with
  | .bad k => .bad k
  | .ok t j =>
    if stopS s (signsS s j t).2 = true then .ok (signsS s j t).1 (signsS s j t).2
    else if i < (signsS s j t).2 ∧ i ≤ s.length then
     match catS s (signsS s j t).2 with
     | .bad k => .bad k
     | .ok u k => .ok (.cat (signsS s j t).1 u) k
    else .bad 0
termination_by (s.length + 1 - i,1)
def orS (s : List UInt8) (i : Nat) : PR Rx :=
 match catS s i with
 | .bad k => .bad k
 | .ok t j =>
   if s[j]? = some 124 then
    if i ≤ j ∧ i ≤ s.length then
     match orS s (j + 1) with
     | .bad k => .bad k
     | .ok u k => .ok (.alt t u) k
    else .bad 0
   else .ok t j
termination_by (s.length + 1 - i,2)
end
theorem hexV_lt {c : UInt8} {a : Nat} (h : hexV c = some a) : a < 16:=by
 unfold hexV at h
 split at h
 ·cases h;omega
 ·split at h
  ·cases h;omega
  ·cases h
theorem getE_lt {s : List UInt8} {i : Nat} {c : UInt8} (h : s[i]? = some c) : i < s.length:=(List.getElem?_eq_some_iff.1 h).1
theorem hexS_ok {s : List UInt8} {i b j : Nat} (h : hexS s i = .ok b j) : i < j ∧ j ≤ s.length ∧ b < 256:=by
 unfold hexS at h
 split at h
 ·cases h
 ·rename_i h1 e1
  split at h
  ·cases h
  ·rename_i a ea
   split at h
   ·cases h
   ·rename_i l1 e2
    split at h
    ·cases h
    ·rename_i b' eb
     cases h
     have:=getE_lt e2
     have:=hexV_lt ea
     have:=hexV_lt eb
     omega
theorem oneS_ok {s : List UInt8} {i b j : Nat} (h : oneS s i = .ok b j) : i < j ∧ j ≤ s.length ∧ b < 256:=by
 unfold oneS at h
 split at h
 ·cases h
 ·rename_i c e1
  split at h
  ·split at h
   ·cases h
   ·rename_i d e2
    split at h
    ·exact hexS_ok h
    ·split at h
     ·cases h
      have:=getE_lt e2
      have:=d.toNat_lt
      omega
     ·cases h
  ·split at h
   ·cases h
   ·cases h
    have:=getE_lt e1
    have:=c.toNat_lt
    omega
theorem itemS_ok {s : List UInt8} {i j : Nat} {p : Nat × Nat} (h : itemS s i = .ok p j) : i < j ∧ j ≤ s.length ∧ p.1 ≤ p.2 ∧ p.2 < 256:=by
 unfold itemS at h
 split at h
 ·cases h
 ·rename_i lo j1 e1
  have h1:=oneS_ok e1
  split at h
  ·split at h
   ·cases h
   ·rename_i hi j2 e2
    have h2:=oneS_ok e2
    split at h
    ·cases h
    ·cases h;simp;omega
  ·cases h;simp;omega
theorem okC_span (lo hi : Nat) : okC (spanC lo hi):=okC_sel _ _
theorem has_span {lo hi x : Nat} (h : hi < 256) (hx : x < 256) : has (spanC lo hi) x = decide (lo ≤ x ∧ x ≤ hi):=by
 unfold spanC
 rw [has_sel _ _ (by omega) x hx,Bool.eq_iff_iff]
 simp
 omega
theorem itemsS_end {s : List UInt8} {i : Nat} (c : Cls) (h : s[i]? = some 93) : itemsS s i c = .ok c (i + 1):=by rw [itemsS,if_pos h]
theorem itemsS_bad {s : List UInt8} {i k : Nat} (c : Cls) (h : s[i]? ≠ some 93) (hi : itemS s i = .bad k) : itemsS s i c = .bad k:=by rw [itemsS,if_neg h,hi]
theorem itemsS_more {s : List UInt8} {i j : Nat} {p : Nat × Nat} (c : Cls) (h : s[i]? ≠ some 93) (hi : itemS s i = .ok p j) : itemsS s i c = itemsS s j (eitherC c (spanC p.1 p.2)):=by
 have:=itemS_ok hi
 rw [itemsS,if_neg h,hi]
 simp only
 rw [if_pos (by omega)]
theorem itemsS_ok {s : List UInt8} : ∀ (n i : Nat) (c c' : Cls) (j : Nat),s.length - i ≤ n → okC c → itemsS s i c = .ok c' j → i < j ∧ j ≤ s.length ∧ okC c':=by
 intro n
 induction n with
 | zero =>
   intro i c c' j hn hc h
   by_cases h1 : s[i]? = some 93
   ·have:=getE_lt h1;omega
   ·cases hi : itemS s i with
    | bad k => rw [itemsS_bad c h1 hi] at h;cases h
    | ok p j1 => have:=itemS_ok hi;omega
 | succ n ih =>
   intro i c c' j hn hc h
   by_cases h1 : s[i]? = some 93
   ·rw [itemsS_end c h1] at h
    cases h
    have:=getE_lt h1
    exact ⟨by omega,by omega,hc⟩
   ·cases hi : itemS s i with
    | bad k => rw [itemsS_bad c h1 hi] at h;cases h
    | ok p j1 =>
      rw [itemsS_more c h1 hi] at h
      have:=itemS_ok hi
      obtain ⟨g1,g2,g3⟩:=ih j1 _ c' j (by omega) (okC_either hc (okC_span _ _)) h
      exact ⟨by omega,g2,g3⟩
theorem bracketS_ok {s : List UInt8} {i j : Nat} {c : Cls} (h : bracketS s i = .ok c j) : i < j ∧ j ≤ s.length ∧ okC c:=by
 unfold bracketS at h
 split at h
 ·split at h
  ·cases h
  ·rename_i c1 j1 e
   cases h
   obtain ⟨g1,g2,_⟩:=itemsS_ok _ _ _ _ _ (Nat.le_refl _) okC_zc e
   exact ⟨by omega,g2,okC_not _⟩
 ·exact itemsS_ok _ _ _ _ _ (Nat.le_refl _) okC_zc h
def okT (t : Rx) : Prop:=∀ n ∈ flat t,okC n.cls
theorem signsS_end {s : List UInt8} {j : Nat} (t : Rx) (h : ∀ c,s[j]? = some c → c ≠ 42 ∧ c ≠ 43 ∧ c ≠ 63) : signsS s j t = (t,j):=by
 rw [signsS]
 split
 ·rename_i hj
  obtain ⟨h1,h2,h3⟩:=h _ (List.getElem?_eq_getElem hj)
  rw [if_neg h1,if_neg h2,if_neg h3]
 ·rfl
theorem signsS_star {s : List UInt8} {j : Nat} (t : Rx) (h : s[j]? = some 42) : signsS s j t = signsS s (j + 1) (.star t):=by
 obtain ⟨hj,e⟩:=List.getElem?_eq_some_iff.1 h
 rw [signsS,dif_pos hj,if_pos e]
theorem signsS_plus {s : List UInt8} {j : Nat} (t : Rx) (h : s[j]? = some 43) : signsS s j t = signsS s (j + 1) (.plus t):=by
 obtain ⟨hj,e⟩:=List.getElem?_eq_some_iff.1 h
 rw [signsS,dif_pos hj,if_neg (by rw [e];decide),if_pos e]
theorem signsS_opt {s : List UInt8} {j : Nat} (t : Rx) (h : s[j]? = some 63) : signsS s j t = signsS s (j + 1) (.opt t):=by
 obtain ⟨hj,e⟩:=List.getElem?_eq_some_iff.1 h
 rw [signsS,dif_pos hj,if_neg (by rw [e];decide),if_neg (by rw [e];decide),if_pos e]
theorem signsS_ok {s : List UInt8} : ∀ (n j : Nat) (t : Rx),s.length - j ≤ n → j ≤ s.length → okT t → j ≤ (signsS s j t).2 ∧ (signsS s j t).2 ≤ s.length ∧ okT (signsS s j t).1 ∧ (flat (signsS s j t).1).length + j = (flat t).length + (signsS s j t).2 ∧
 ∀ c,s[(signsS s j t).2]? = some c → c ≠ 42 ∧ c ≠ 43 ∧ c ≠ 63:=by
 have kt : ∀ (u t : Rx) (op : Int),flat u = ⟨op,zc⟩ :: flat t → okT t → okT u:=by
  intro u t op e h n hn
  rw [e] at hn
  rcases List.mem_cons.1 hn with rfl | hn
  ·exact okC_zc
  ·exact h n hn
 intro n
 induction n with
 | zero =>
   intro j t hn hj ht
   have hno : ∀ c,s[j]? = some c → c ≠ 42 ∧ c ≠ 43 ∧ c ≠ 63:=fun c h => by have:=getE_lt h;omega
   rw [signsS_end t hno]
   exact ⟨Nat.le_refl _,hj,ht,rfl,hno⟩
 | succ n ih =>
   intro j t hn hj ht
   by_cases h1 : s[j]? = some 42
   ·have:=getE_lt h1
    rw [signsS_star t h1]
    obtain ⟨g1,g2,g3,g4,g5⟩:=ih (j + 1) (.star t) (by omega) (by omega) (kt _ t 5 rfl ht)
    exact ⟨by omega,g2,g3,by simp [flat] at g4 ⊢;omega,g5⟩
   ·by_cases h2 : s[j]? = some 43
    ·have:=getE_lt h2
     rw [signsS_plus t h2]
     obtain ⟨g1,g2,g3,g4,g5⟩:=ih (j + 1) (.plus t) (by omega) (by omega) (kt _ t 6 rfl ht)
     exact ⟨by omega,g2,g3,by simp [flat] at g4 ⊢;omega,g5⟩
    ·by_cases h3 : s[j]? = some 63
     ·have:=getE_lt h3
      rw [signsS_opt t h3]
      obtain ⟨g1,g2,g3,g4,g5⟩:=ih (j + 1) (.opt t) (by omega) (by omega) (kt _ t 7 rfl ht)
      exact ⟨by omega,g2,g3,by simp [flat] at g4 ⊢;omega,g5⟩
     ·have hno : ∀ c,s[j]? = some c → c ≠ 42 ∧ c ≠ 43 ∧ c ≠ 63:=fun c h => ⟨fun e => h1 (by rw [h,e]),fun e => h2 (by rw [h,e]),fun e => h3 (by rw [h,e])⟩
      rw [signsS_end t hno]
      exact ⟨Nat.le_refl _,hj,ht,rfl,hno⟩
theorem stopS_no {s : List UInt8} {i : Nat} (h : stopS s i = false) : i < s.length:=by
 unfold stopS at h
 split at h
 ·cases h
 ·rename_i c e;exact getE_lt e
theorem read_ok {s : List UInt8} : ∀ (n i : Nat),s.length - i ≤ n → i ≤ s.length →
 (∀ t j,atomS s i = .ok t j → i < j ∧ j ≤ s.length ∧ okT t ∧ (flat t).length + 1 + 2 * i ≤ 2 * j) ∧
 (∀ t j,catS s i = .ok t j → i ≤ j ∧ j ≤ s.length ∧ okT t ∧ (flat t).length + 2 * i ≤ 2 * j + 1 ∧ stopS s j = true) ∧
 (∀ t j,orS s i = .ok t j → i ≤ j ∧ j ≤ s.length ∧ okT t ∧ (flat t).length + 2 * i ≤ 2 * j + 1 ∧ stopS s j = true ∧ s[j]? ≠ some 124):=by
 have k2 : ∀ (u t t' : Rx) (op : Int),flat u = ⟨op,zc⟩ :: (flat t ++ flat t') → okT t → okT t' → okT u:=by
  intro u t t' op e h h' n hn
  rw [e] at hn
  rcases List.mem_cons.1 hn with rfl | hn
  ·exact okC_zc
  ·rcases List.mem_append.1 hn with hn | hn
   ·exact h n hn
   ·exact h' n hn
 have k0 : ∀ (u : Rx) (n : Nd),flat u = [n] → okC n.cls → okT u:=by
  intro u n e h m hm
  rw [e] at hm
  obtain rfl : m = n:=by simpa using hm
  exact h
 intro n
 induction n with
 | zero =>
   intro i hn hi
   obtain rfl : i = s.length:=by omega
   have hA : ∀ t j,atomS s s.length = .ok t j → False:=by
    intro t j h
    rw [atomS,dif_neg (by omega)] at h
    cases h
   have hst : stopS s s.length = true:=by unfold stopS;simp
   have hC : catS s s.length = .ok .empty s.length:=by rw [catS,if_pos hst]
   have hO : orS s s.length = .ok .empty s.length:=by rw [orS,hC];simp
   refine ⟨fun t j h => (hA t j h).elim,fun t j h => ?_,fun t j h => ?_⟩
   ·rw [hC] at h;cases h;exact ⟨Nat.le_refl _,Nat.le_refl _,k0 _ _ rfl okC_zc,by simp [flat];omega,hst⟩
   ·rw [hO] at h;cases h;exact ⟨Nat.le_refl _,Nat.le_refl _,k0 _ _ rfl okC_zc,by simp [flat];omega,hst,by simp⟩
 | succ n ih =>
   intro i hn hi
   have hA : ∀ t j,atomS s i = .ok t j → i < j ∧ j ≤ s.length ∧ okT t ∧ (flat t).length + 1 + 2 * i ≤ 2 * j:=by
    intro t j h
    rw [atomS] at h
    split at h
    ·rename_i hlt
     split at h
     ·split at h
      ·cases h
      ·rename_i u k e
       obtain ⟨g1,g2,g3,g4,_⟩:=(ih (i + 1) (by omega) (by omega)).2.2 _ _ e
       split at h
       ·rename_i e2
        cases h
        have:=getE_lt e2
        exact ⟨by omega,by omega,g3,by omega⟩
       ·cases h
     ·split at h
      ·split at h
       ·cases h
       ·rename_i c k e
        cases h
        obtain ⟨g1,g2,g3⟩:=bracketS_ok e
        exact ⟨by omega,g2,k0 _ _ rfl g3,by simp [flat];omega⟩
      ·split at h
       ·cases h;exact ⟨by omega,by omega,k0 _ _ rfl (okC_not _),by simp [flat];omega⟩
       ·split at h
        ·cases h;exact ⟨by omega,by omega,k0 _ _ rfl okC_zc,by simp [flat];omega⟩
        ·split at h
         ·cases h;exact ⟨by omega,by omega,k0 _ _ rfl okC_zc,by simp [flat];omega⟩
         ·split at h
          ·cases h
          ·rename_i b k e
           cases h
           obtain ⟨g1,g2,g3⟩:=oneS_ok e
           exact ⟨g1,g2,k0 _ _ rfl (okC_with okC_zc b),by simp [flat];omega⟩
    ·cases h
   have hC : ∀ t j,catS s i = .ok t j → i ≤ j ∧ j ≤ s.length ∧ okT t ∧ (flat t).length + 2 * i ≤ 2 * j + 1 ∧ stopS s j = true:=by
    intro t j h
    rw [catS] at h
    split at h
    ·rename_i hst;cases h;exact ⟨Nat.le_refl _,hi,k0 _ _ rfl okC_zc,by simp [flat];omega,hst⟩
    ·split at h
     ·cases h
     ·rename_i u k e
      obtain ⟨a1,a2,a3,a4⟩:=hA _ _ e
      obtain ⟨b1,b2,b3,b4,_⟩:=signsS_ok _ k u (Nat.le_refl _) a2 a3
      generalize hq : signsS s k u = q at *
      split at h
      ·rename_i hst
       cases h
       exact ⟨by omega,b2,b3,by omega,hst⟩
      ·split at h
       ·split at h
        ·cases h
        ·rename_i v m e2
         cases h
         obtain ⟨c1,c2,c3,c4,c5⟩:=(ih q.2 (by omega) b2).2.1 _ _ e2
         exact ⟨by omega,c2,k2 _ _ _ 3 rfl b3 c3,by simp [flat];omega,c5⟩
       ·cases h
   refine ⟨hA,hC,fun t j h => ?_⟩
   rw [orS] at h
   split at h
   ·cases h
   ·rename_i u k e
    obtain ⟨a1,a2,a3,a4,a5⟩:=hC _ _ e
    split at h
    ·rename_i e2
     have:=getE_lt e2
     split at h
     ·split at h
      ·cases h
      ·rename_i v m e3
       cases h
       obtain ⟨c1,c2,c3,c4,c5,c6⟩:=(ih (k + 1) (by omega) (by omega)).2.2 _ _ e3
       exact ⟨by omega,c2,k2 _ _ _ 4 rfl a3 c3,by simp [flat];omega,c5,c6⟩
     ·cases h
    ·rename_i e2
     cases h
     exact ⟨a1,a2,a3,a4,a5,e2⟩
theorem catS_end {s : List UInt8} {i : Nat} (h : stopS s i = true) : catS s i = .ok .empty i:=by rw [catS,if_pos h]
theorem catS_bad {s : List UInt8} {i k : Nat} (h : stopS s i = false) (ha : atomS s i = .bad k) : catS s i = .bad k:=by
 rw [catS,if_neg (by rw [h];simp),ha]
theorem catS_one {s : List UInt8} {i j : Nat} {t : Rx} (h : stopS s i = false) (ha : atomS s i = .ok t j) (hs : stopS s (signsS s j t).2 = true) : catS s i = .ok (signsS s j t).1 (signsS s j t).2:=by
 rw [catS,if_neg (by rw [h];simp),ha]
 simp only
 rw [if_pos hs]
theorem catS_more {s : List UInt8} {i j : Nat} {t : Rx} (h : stopS s i = false) (ha : atomS s i = .ok t j) (hs : stopS s (signsS s j t).2 = false) : catS s i = match catS s (signsS s j t).2 with
 | .bad k => .bad k
 | .ok u k => .ok (.cat (signsS s j t).1 u) k:=by
 have hi:=stopS_no h
 obtain ⟨g1,g2,g3,_⟩:=(read_ok _ i (Nat.le_refl _) (by omega)).1 _ _ ha
 obtain ⟨k1,_⟩:=signsS_ok _ j t (Nat.le_refl _) g2 g3
 rw [catS,if_neg (by rw [h];simp),ha]
 simp only
 rw [if_neg (by rw [hs];simp),if_pos (by omega)]
 all_goals cases catS s (signsS s j t).2 <;> rfl
theorem orS_bad {s : List UInt8} {i k : Nat} (hc : catS s i = .bad k) : orS s i = .bad k:=by rw [orS,hc]
theorem orS_one {s : List UInt8} {i j : Nat} {t : Rx} (hc : catS s i = .ok t j) (h : s[j]? ≠ some 124) : orS s i = .ok t j:=by
 rw [orS,hc]
 simp only
 rw [if_neg h]
theorem orS_more {s : List UInt8} {i j : Nat} {t : Rx} (hi : i ≤ s.length) (hc : catS s i = .ok t j) (h : s[j]? = some 124) : orS s i = match orS s (j + 1) with
 | .bad k => .bad k
 | .ok u k => .ok (.alt t u) k:=by
 obtain ⟨g1,_⟩:=(read_ok _ i (Nat.le_refl _) hi).2.1 _ _ hc
 rw [orS,hc]
 simp only
 rw [if_pos h,if_pos ⟨g1,hi⟩]
 all_goals cases orS s (j + 1) <;> rfl
def bnd (parent : Nat) (second : Bool) : Rx → Bool
 | .empty => parent != 4
 | .alt _ _ => parent != 4 || !second
 | .cat _ _ => parent != 4 && (parent != 3 || !second)
 | _ => false
def wrapT (b : Bool) (x : List UInt8) : List UInt8:=if b then 40 :: (x ++ [41]) else x
def textT : Rx → List UInt8
 | .byte c => textC c
 | .empty => []
 | .cat a b => wrapT (bnd 3 false a) (textT a) ++ wrapT (bnd 3 true b) (textT b)
 | .alt a b => wrapT (bnd 4 false a) (textT a) ++ 124 :: wrapT (bnd 4 true b) (textT b)
 | .star a => wrapT (bnd 5 false a) (textT a) ++ [42]
 | .plus a => wrapT (bnd 6 false a) (textT a) ++ [43]
 | .opt a => wrapT (bnd 7 false a) (textT a) ++ [63]
 | .bgn => [94]
 | .fin => [36]
def unitT (t : Rx) : List UInt8:=wrapT (bnd 5 false t) (textT t)
theorem bnd_3 (t : Rx) : bnd 3 false t = bnd 5 false t:=by cases t <;> rfl
theorem bnd_6 (t : Rx) : bnd 6 false t = bnd 5 false t:=by cases t <;> rfl
theorem bnd_7 (t : Rx) : bnd 7 false t = bnd 5 false t:=by cases t <;> rfl
theorem drop_get {s l : List UInt8} {i : Nat} (h : s.drop i = l) (k : Nat) : s[i + k]? = l[k]?:=by rw [← h,List.getElem?_drop]
theorem drop_more {s l r : List UInt8} {i : Nat} (h : s.drop i = l ++ r) : s.drop (i + l.length) = r:=by
 rw [← List.drop_drop,h,List.drop_left]
theorem drop_head {s r : List UInt8} {i : Nat} {c : UInt8} (h : s.drop i = c :: r) : s[i]? = some c ∧ s.drop (i + 1) = r ∧ i < s.length:=by
 have h1:=drop_get h 0
 simp at h1
 exact ⟨h1,drop_more (l:=[c]) h,getE_lt h1⟩
theorem one_hex : ∀ b : Fin 256,(b.val < 32 ∨ 126 < b.val) → hexV (hexD (b.val / 16)) = some (b.val / 16) ∧ hexV (hexD (b.val % 16)) = some (b.val % 16):=by decide +kernel
theorem one_plain : ∀ b : Fin 256,¬(b.val < 32 ∨ 126 < b.val) → (UInt8.ofNat b.val).toNat = b.val ∧ (UInt8.ofNat b.val ∈ specialL → UInt8.ofNat b.val ≠ 120) ∧ (UInt8.ofNat b.val ∉ specialL → UInt8.ofNat b.val ≠ 92):=by decide +kernel
theorem byteT_read {s r : List UInt8} {i b : Nat} (hb : b < 256) (h : s.drop i = byteT b ++ r) : oneS s i = .ok b (i + (byteT b).length):=by
 have h0:=drop_get h 0
 have h1:=drop_get h 1
 have h2:=drop_get h 2
 have h3:=drop_get h 3
 rw [Nat.add_zero] at h0
 unfold byteT at h0 h1 h2 h3 ⊢
 by_cases c1 : b < 32 ∨ 126 < b
 ·rw [if_pos c1] at h0 h1 h2 h3 ⊢
  obtain ⟨e1,e2⟩:=one_hex ⟨b,hb⟩ c1
  simp at h0 h1 h2 h3 e1 e2
  unfold oneS hexS
  rw [h0,h1,h2,h3]
  simp only [e1,e2]
  rw [if_pos (by decide),if_pos (by decide)]
  simp
  omega
 ·rw [if_neg c1] at h0 h1 h2 h3 ⊢
  obtain ⟨e1,e2,e3⟩:=one_plain ⟨b,hb⟩ c1
  simp only at e1 e2 e3
  by_cases c2 : UInt8.ofNat b ∈ specialL
  ·rw [if_pos c2] at h0 h1 h2 h3 ⊢
   simp at h0 h1
   unfold oneS
   rw [h0,h1]
   simp only
   rw [if_pos (by decide),if_neg (e2 c2),if_pos c2,e1]
   rfl
  ·rw [if_neg c2] at h0 h1 h2 h3 ⊢
   simp at h0
   unfold oneS
   rw [h0]
   simp only
   rw [if_neg (e3 c2),if_neg (by rw [e1];exact fun h => h.elim (fun h => c1 (.inl h)) (fun h => h.elim (fun h => c1 (.inr h)) c2)),e1]
   rfl
theorem byteT_first (b : Nat) (hb : b < 256) : ∃ x t,byteT b = x :: t ∧ x ≠ 45 ∧ x ≠ 93 ∧ x ≠ 46 ∧ x ≠ 91 ∧ x ≠ 40 ∧ x ≠ 94 ∧ x ≠ 36 ∧ x ≠ 124 ∧ x ≠ 41 ∧ x ≠ 42 ∧ x ≠ 43 ∧ x ≠ 63:=by
 have h : ∀ b : Fin 256,(match byteT b.val with | [] => false | x :: _ => decide (x ≠ 45 ∧ x ≠ 93 ∧ x ≠ 46 ∧ x ≠ 91 ∧ x ≠ 40 ∧ x ≠ 94 ∧ x ≠ 36 ∧ x ≠ 124 ∧ x ≠ 41 ∧ x ≠ 42 ∧ x ≠ 43 ∧ x ≠ 63)) = true:=by decide +kernel
 have:=h ⟨b,hb⟩
 simp only at this
 split at this
 ·cases this
 ·rename_i x t e;exact ⟨x,t,e,of_decide_eq_true this⟩
theorem itemT_read {s r : List UInt8} {i : Nat} {p : Nat × Nat} (h1 : p.1 ≤ p.2) (h2 : p.2 < 256) (hr : r.head? ≠ some 45) (h : s.drop i = itemT p ++ r) : itemS s i = .ok p (i + (itemT p).length):=by
 obtain ⟨lo,hi⟩:=p
 simp only at h1 h2
 unfold itemT at h ⊢
 simp only at h ⊢
 unfold itemS
 by_cases e : lo = hi
 ·subst e
  rw [if_pos rfl] at h ⊢
  rw [byteT_read h2 h]
  simp only
  have h3:=drop_get (drop_more h) 0
  rw [Nat.add_zero] at h3
  rw [h3,if_neg (by cases r <;> simp at hr ⊢;exact hr)]
 ·rw [if_neg e] at h ⊢
  rw [List.append_assoc,List.append_assoc] at h
  rw [byteT_read (by omega) h]
  simp only
  have h3:=drop_more h
  obtain ⟨g1,g2,_⟩:=drop_head h3
  rw [if_pos g1,byteT_read h2 g2]
  simp only
  rw [if_neg (by omega)]
  simp
  omega
def foldI (l : List (Nat × Nat)) (c : Cls) : Cls:=l.foldl (fun c p => eitherC c (spanC p.1 p.2)) c
theorem okC_fold (l : List (Nat × Nat)) : ∀ c,okC c → okC (foldI l c):=by
 induction l with
 | nil => intro c h;exact h
 | cons p l ih => intro c h;exact ih _ (okC_either h (okC_span _ _))
theorem has_fold (l : List (Nat × Nat)) (hl : okI l) : ∀ c x,x < 256 → (has (foldI l c) x = true ↔ has c x = true ∨ ∃ p ∈ l,p.1 ≤ x ∧ x ≤ p.2):=by
 induction l with
 | nil => intro c x hx;simp [foldI]
 | cons p l ih =>
   intro c x hx
   show has (foldI l (eitherC c (spanC p.1 p.2))) x = true ↔ _
   rw [ih (fun q hq => hl q (by simp [hq])) _ x hx,has_either,has_span (hl p (by simp)).2 hx]
   simp [or_assoc]
theorem items_read {s r : List UInt8} : ∀ (l : List (Nat × Nat)),okI l → ∀ (i : Nat) (c : Cls),s.drop i = l.flatMap itemT ++ 93 :: r → itemsS s i c = .ok (foldI l c) (i + (l.flatMap itemT).length + 1):=by
 intro l
 induction l with
 | nil =>
   intro _ i c h
   obtain ⟨g1,_⟩:=drop_head (show s.drop i = 93 :: r by simpa using h)
   rw [itemsS_end c g1]
   rfl
 | cons p l ih =>
   intro hl i c h
   rw [List.flatMap_cons,List.append_assoc] at h
   obtain ⟨p1,p2⟩:=hl p (by simp)
   have hl' : okI l:=fun q hq => hl q (by simp [hq])
   have hhead : (l.flatMap itemT ++ 93 :: r).head? ≠ some 45:=by
    cases l with
    | nil => simp
    | cons q l =>
      obtain ⟨x,t,e,hx,_⟩:=byteT_first q.1 (by have:=hl' q (by simp);omega)
      rw [List.flatMap_cons]
      unfold itemT
      split <;> simp [e] <;> exact hx
   have hi:=itemT_read p1 p2 hhead h
   have hne : s[i]? ≠ some 93:=by
    obtain ⟨x,t,e,_,hx,_⟩:=byteT_first p.1 (by omega)
    have h0:=drop_get h 0
    rw [Nat.add_zero] at h0
    rw [h0]
    unfold itemT
    split <;> simp [e] <;> exact hx
   rw [itemsS_more c hne hi,ih hl' _ _ (drop_more h)]
   simp [foldI]
   omega
theorem fold_items {c : Cls} (hc : okC c) : foldI (items c 0) zc = c:=by
 refine cls_ext (okC_fold _ _ okC_zc) hc fun x hx => ?_
 rw [Bool.eq_iff_iff,has_fold _ (mem_items c 0).1 zc x hx,(mem_items c 0).2 x]
 simp [has_zc,hx]
theorem textC_read {s r : List UInt8} {i : Nat} {c : Cls} (hc : okC c) (h : s.drop i = textC c ++ r) : atomS s i = .ok (.byte c) (i + (textC c).length):=by
 unfold textC at h ⊢
 by_cases h1 : cntC c = 1
 ·rw [if_pos h1] at h ⊢
  obtain ⟨l1,m1⟩:=cnt_one_least h1
  obtain ⟨x,t,e,_,_,n46,n91,n40,n94,n36,_⟩:=byteT_first _ l1
  have hr:=byteT_read l1 h
  have h0:=drop_get h 0
  rw [Nat.add_zero,e] at h0
  simp at h0
  obtain ⟨hlt,hx⟩:=List.getElem?_eq_some_iff.1 h0
  have ec : withB zc (least c 0) = c:=by
   refine cls_ext (okC_with okC_zc _) hc fun y hy => ?_
   rw [has_with zc _ y l1 hy,Bool.eq_iff_iff,m1 y hy]
   simp [has_zc]
  rw [atomS,dif_pos hlt,hx,if_neg n40,if_neg n91,if_neg n46,if_neg n94,if_neg n36,hr]
  simp only
  rw [ec]
 ·rw [if_neg h1] at h ⊢
  by_cases h2 : c = dotC
  ·rw [if_pos h2] at h ⊢
   obtain ⟨g1,_,hlt⟩:=drop_head (show s.drop i = 46 :: r by simpa using h)
   obtain ⟨_,hx⟩:=List.getElem?_eq_some_iff.1 g1
   rw [atomS,dif_pos hlt,hx,if_neg (by decide),if_neg (by decide),if_pos rfl,h2]
   rfl
  ·rw [if_neg h2] at h ⊢
   rw [List.cons_append,List.append_assoc] at h
   obtain ⟨g1,g2,hlt⟩:=drop_head h
   obtain ⟨_,hx⟩:=List.getElem?_eq_some_iff.1 g1
   have hit:=items_read _ (mem_items c 0).1 (i + 1) zc g2
   have hne : s[i + 1]? ≠ some 94:=by
    have h0:=drop_get g2 0
    rw [Nat.add_zero] at h0
    rw [h0]
    unfold runsT
    cases hl : items c 0 with
    | nil => simp
    | cons q l =>
      obtain ⟨x,t,e,_,_,_,_,_,hx,_⟩:=byteT_first q.1 (by have:=(mem_items c 0).1 q (by rw [hl];simp);omega)
      rw [List.flatMap_cons]
      unfold itemT
      split <;> simp [e] <;> exact hx
   rw [atomS,dif_pos hlt,hx,if_neg (by decide),if_pos rfl,bracketS,if_neg hne,hit,fold_items hc]
   simp [runsT]
   omega
theorem textC_first {c : Cls} : ∃ x t,textC c = x :: t ∧ x ≠ 124 ∧ x ≠ 41 ∧ x ≠ 42 ∧ x ≠ 43 ∧ x ≠ 63:=by
 unfold textC
 split
 ·rename_i h1
  obtain ⟨l1,_⟩:=cnt_one_least h1
  obtain ⟨x,t,e,_,_,_,_,_,_,_,h⟩:=byteT_first _ l1
  exact ⟨x,t,e,h⟩
 ·split
  ·exact ⟨_,_,rfl,by decide⟩
  ·exact ⟨_,_,rfl,by decide⟩
attribute [local irreducible] textC
theorem textT_byte (c : Cls) : textT (.byte c) = textC c:=by rw [textT]
theorem unitT_byte (c : Cls) : unitT (.byte c) = textC c:=by rw [unitT,textT_byte,show bnd 5 false (.byte c) = false from rfl,wrapT,if_neg (by decide)]
theorem unitT_first (t : Rx) : ∃ x r,unitT t = x :: r ∧ x ≠ 124 ∧ x ≠ 41 ∧ x ≠ 42 ∧ x ≠ 43 ∧ x ≠ 63:=by
 induction t with
 | byte c => rw [unitT_byte];exact textC_first
 | empty => exact ⟨_,_,rfl,by decide⟩
 | cat a b => exact ⟨_,_,rfl,by decide⟩
 | alt a b => exact ⟨_,_,rfl,by decide⟩
 | bgn => exact ⟨_,_,rfl,by decide⟩
 | fin => exact ⟨_,_,rfl,by decide⟩
 | star a ih =>
   obtain ⟨x,r,e,h⟩:=ih
   exact ⟨x,r ++ [42],by show unitT a ++ [42] = _;rw [e];rfl,h⟩
 | plus a ih =>
   obtain ⟨x,r,e,h⟩:=ih
   exact ⟨x,r ++ [43],by show wrapT (bnd 6 false a) (textT a) ++ [43] = _;rw [bnd_6];show unitT a ++ _ = _;rw [e];rfl,h⟩
 | opt a ih =>
   obtain ⟨x,r,e,h⟩:=ih
   exact ⟨x,r ++ [63],by show wrapT (bnd 7 false a) (textT a) ++ [63] = _;rw [bnd_7];show unitT a ++ _ = _;rw [e];rfl,h⟩
def isAlt : Rx → Bool
 | .alt _ _ => true
 | _ => false
theorem stopS_first {s r : List UInt8} {i : Nat} {x : UInt8} (h : s.drop i = x :: r) (h1 : x ≠ 124) (h2 : x ≠ 41) : stopS s i = false:=by
 obtain ⟨g,_⟩:=drop_head h
 unfold stopS
 rw [g]
 simp [h1,h2]
theorem stopS_signs {s : List UInt8} {j : Nat} (h : stopS s j = true) (t : Rx) : signsS s j t = (t,j):=by
 refine signsS_end t fun c hc => ?_
 unfold stopS at h
 rw [hc] at h
 simp at h
 rcases h with rfl | rfl <;> decide
theorem print_read {s : List UInt8} : ∀ (t : Rx),okT t →
 (∀ i r,s.drop i = unitT t ++ r → ∃ t0 j0,atomS s i = .ok t0 j0 ∧ signsS s j0 t0 = signsS s (i + (unitT t).length) t) ∧
 (isAlt t = false → ∀ i r,s.drop i = textT t ++ r → stopS s (i + (textT t).length) = true → catS s i = .ok t (i + (textT t).length)) ∧
 (∀ i r,i ≤ s.length → s.drop i = textT t ++ r → stopS s (i + (textT t).length) = true → s[i + (textT t).length]? ≠ some 124 → orS s i = .ok t (i + (textT t).length)):=by
 have one : ∀ (t : Rx),unitT t = textT t → (∀ i r,s.drop i = unitT t ++ r → ∃ t0 j0,atomS s i = .ok t0 j0 ∧ signsS s j0 t0 = signsS s (i + (unitT t).length) t) →
  ∀ i r,s.drop i = textT t ++ r → stopS s (i + (textT t).length) = true → catS s i = .ok t (i + (textT t).length):=by
  intro t e hu i r h hst
  rw [← e] at h hst ⊢
  obtain ⟨x,q,ex,h1,h2,_⟩:=unitT_first t
  obtain ⟨t0,j0,ha,hs⟩:=hu i r h
  have hsg:=stopS_signs hst t
  rw [hsg] at hs
  have hn : stopS s i = false:=stopS_first (show s.drop i = x :: (q ++ r) by rw [h,ex];rfl) h1 h2
  rw [catS_one hn ha (by rw [hs];exact hst),hs]
 have brk : ∀ (t : Rx),unitT t = 40 :: (textT t ++ [41]) → (∀ i r,i ≤ s.length → s.drop i = textT t ++ r → stopS s (i + (textT t).length) = true → s[i + (textT t).length]? ≠ some 124 → orS s i = .ok t (i + (textT t).length)) →
  ∀ i r,s.drop i = unitT t ++ r → ∃ t0 j0,atomS s i = .ok t0 j0 ∧ signsS s j0 t0 = signsS s (i + (unitT t).length) t:=by
  intro t e ho i r h
  rw [e,List.cons_append,List.append_assoc] at h
  obtain ⟨g1,g2,hlt⟩:=drop_head h
  obtain ⟨k1,_,_⟩:=drop_head (show s.drop (i + 1 + (textT t).length) = 41 :: r from drop_more g2)
  obtain ⟨_,hx⟩:=List.getElem?_eq_some_iff.1 g1
  have hor:=ho (i + 1) _ (by omega) g2 (by unfold stopS;rw [k1];rfl) (by rw [k1];decide)
  refine ⟨t,i + 1 + (textT t).length + 1,?_,?_⟩
  ·rw [atomS,dif_pos hlt,hx,if_pos rfl,hor]
   simp only
   rw [if_pos k1]
  ·rw [e]
   congr 1
   simp
   omega
 have whole : ∀ (t : Rx),isAlt t = false → (∀ i r,s.drop i = textT t ++ r → stopS s (i + (textT t).length) = true → catS s i = .ok t (i + (textT t).length)) →
  ∀ i r,i ≤ s.length → s.drop i = textT t ++ r → stopS s (i + (textT t).length) = true → s[i + (textT t).length]? ≠ some 124 → orS s i = .ok t (i + (textT t).length):=by
  intro t _ hc i r _ h hst h124
  exact orS_one (hc i r h hst) h124
 have sign : ∀ (a : Rx) (u : Rx) (x : UInt8),unitT u = unitT a ++ [x] → (∀ j t,s[j]? = some x → t = a → signsS s j t = signsS s (j + 1) u) →
  (∀ i r,s.drop i = unitT a ++ r → ∃ t0 j0,atomS s i = .ok t0 j0 ∧ signsS s j0 t0 = signsS s (i + (unitT a).length) a) →
  ∀ i r,s.drop i = unitT u ++ r → ∃ t0 j0,atomS s i = .ok t0 j0 ∧ signsS s j0 t0 = signsS s (i + (unitT u).length) u:=by
  intro a u x e hsg ha i r h
  rw [e,List.append_assoc] at h
  obtain ⟨t0,j0,h1,h2⟩:=ha i _ h
  obtain ⟨g1,_,_⟩:=drop_head (show s.drop (i + (unitT a).length) = x :: r from drop_more h)
  refine ⟨t0,j0,h1,?_⟩
  rw [h2,hsg _ _ g1 rfl,e]
  simp [Nat.add_assoc]
 intro t
 induction t with
 | byte c =>
   intro hok
   have hc : okC c:=hok ⟨1,c⟩ (by simp [flat])
   have hu : ∀ i r,s.drop i = unitT (.byte c) ++ r → ∃ t0 j0,atomS s i = .ok t0 j0 ∧ signsS s j0 t0 = signsS s (i + (unitT (.byte c)).length) (.byte c) :=
    fun i r h => by
     rw [unitT_byte] at h ⊢
     exact ⟨_,_,textC_read hc h,rfl⟩
   have hk:=one (.byte c) (by rw [unitT_byte,textT_byte]) hu
   exact ⟨hu,fun _ => hk,whole _ rfl hk⟩
 | bgn =>
   intro _
   have hu : ∀ i r,s.drop i = unitT .bgn ++ r → ∃ t0 j0,atomS s i = .ok t0 j0 ∧ signsS s j0 t0 = signsS s (i + (unitT .bgn).length) .bgn:=by
    intro i r h
    obtain ⟨g1,_,hlt⟩:=drop_head (show s.drop i = 94 :: r from h)
    obtain ⟨_,hx⟩:=List.getElem?_eq_some_iff.1 g1
    exact ⟨.bgn,i + 1,by rw [atomS,dif_pos hlt,hx,if_neg (by decide),if_neg (by decide),if_neg (by decide),if_pos rfl],rfl⟩
   have hk:=one .bgn rfl hu
   exact ⟨hu,fun _ => hk,whole _ rfl hk⟩
 | fin =>
   intro _
   have hu : ∀ i r,s.drop i = unitT .fin ++ r → ∃ t0 j0,atomS s i = .ok t0 j0 ∧ signsS s j0 t0 = signsS s (i + (unitT .fin).length) .fin:=by
    intro i r h
    obtain ⟨g1,_,hlt⟩:=drop_head (show s.drop i = 36 :: r from h)
    obtain ⟨_,hx⟩:=List.getElem?_eq_some_iff.1 g1
    exact ⟨.fin,i + 1,by rw [atomS,dif_pos hlt,hx,if_neg (by decide),if_neg (by decide),if_neg (by decide),if_neg (by decide),if_pos rfl],rfl⟩
   have hk:=one .fin rfl hu
   exact ⟨hu,fun _ => hk,whole _ rfl hk⟩
 | empty =>
   intro _
   have hk : ∀ i r,s.drop i = textT .empty ++ r → stopS s (i + (textT .empty).length) = true → catS s i = .ok .empty (i + (textT .empty).length) :=
    fun i r _ hst => catS_end hst
   have ho:=whole .empty rfl hk
   exact ⟨brk .empty rfl ho,fun _ => hk,ho⟩
 | star a ih =>
   intro hok
   have ha:=ih (fun n hn => hok n (by simp [flat,hn]))
   have hu:=sign a (.star a) 42 rfl (fun j t h e => by rw [e];exact signsS_star a h) ha.1
   have hk:=one (.star a) rfl hu
   exact ⟨hu,fun _ => hk,whole _ rfl hk⟩
 | plus a ih =>
   intro hok
   have ha:=ih (fun n hn => hok n (by simp [flat,hn]))
   have hu:=sign a (.plus a) 43 (by show wrapT (bnd 6 false a) _ ++ _ = _;rw [bnd_6];rfl) (fun j t h e => by rw [e];exact signsS_plus a h) ha.1
   have hk:=one (.plus a) rfl hu
   exact ⟨hu,fun _ => hk,whole _ rfl hk⟩
 | opt a ih =>
   intro hok
   have ha:=ih (fun n hn => hok n (by simp [flat,hn]))
   have hu:=sign a (.opt a) 63 (by show wrapT (bnd 7 false a) _ ++ _ = _;rw [bnd_7];rfl) (fun j t h e => by rw [e];exact signsS_opt a h) ha.1
   have hk:=one (.opt a) rfl hu
   exact ⟨hu,fun _ => hk,whole _ rfl hk⟩
 | cat a b iha ihb =>
   intro hok
   have ha:=iha (fun n hn => hok n (by simp [flat,hn]))
   have hb:=ihb (fun n hn => hok n (by simp [flat,hn]))
   have hb2 : (∃ x q,wrapT (bnd 3 true b) (textT b) = x :: q ∧ x ≠ 124 ∧ x ≠ 41 ∧ x ≠ 42 ∧ x ≠ 43 ∧ x ≠ 63) ∧
    ∀ i r,s.drop i = wrapT (bnd 3 true b) (textT b) ++ r → stopS s (i + (wrapT (bnd 3 true b) (textT b)).length) = true → catS s i = .ok b (i + (wrapT (bnd 3 true b) (textT b)).length):=by
    have unit : wrapT (bnd 3 true b) (textT b) = unitT b → (∃ x q,wrapT (bnd 3 true b) (textT b) = x :: q ∧ x ≠ 124 ∧ x ≠ 41 ∧ x ≠ 42 ∧ x ≠ 43 ∧ x ≠ 63) ∧
     ∀ i r,s.drop i = wrapT (bnd 3 true b) (textT b) ++ r → stopS s (i + (wrapT (bnd 3 true b) (textT b)).length) = true → catS s i = .ok b (i + (wrapT (bnd 3 true b) (textT b)).length):=by
     intro e
     rw [e]
     refine ⟨unitT_first b,fun i r h hst => ?_⟩
     obtain ⟨x,q,ex,h1,h2,_⟩:=unitT_first b
     obtain ⟨t0,j0,hat,hs⟩:=hb.1 i r h
     rw [stopS_signs hst b] at hs
     have hn : stopS s i = false:=stopS_first (show s.drop i = x :: (q ++ r) by rw [h,ex];rfl) h1 h2
     rw [catS_one hn hat (by rw [hs];exact hst),hs]
    cases b with
    | cat b1 b2 =>
      refine ⟨?_,fun i r h hst => hb.2.1 rfl i r h hst⟩
      obtain ⟨x,q,ex,h⟩:=unitT_first b1
      refine ⟨x,q ++ wrapT (bnd 3 true b2) (textT b2),?_,h⟩
      show wrapT (bnd 3 false b1) (textT b1) ++ _ = _
      rw [bnd_3]
      show unitT b1 ++ _ = _
      rw [ex]
      rfl
    | _ => exact unit rfl
   have hk : ∀ i r,s.drop i = textT (.cat a b) ++ r → stopS s (i + (textT (.cat a b)).length) = true → catS s i = .ok (.cat a b) (i + (textT (.cat a b)).length):=by
    intro i r h hst
    have et : textT (.cat a b) = unitT a ++ wrapT (bnd 3 true b) (textT b):=by show wrapT (bnd 3 false a) _ ++ _ = _;rw [bnd_3];rfl
    rw [et,List.append_assoc] at h
    rw [et,List.length_append,← Nat.add_assoc] at hst ⊢
    obtain ⟨x,q,ex,h1,h2,_⟩:=unitT_first a
    obtain ⟨t0,j0,hat,hs⟩:=ha.1 i _ h
    have hn : stopS s i = false:=stopS_first (show s.drop i = x :: (q ++ (wrapT (bnd 3 true b) (textT b) ++ r)) by rw [h,ex];rfl) h1 h2
    obtain ⟨y,z,ey,k1,k2,k3⟩:=hb2.1
    have hd:=drop_more h
    have hd2 : s.drop (i + (unitT a).length) = y :: (z ++ r):=by rw [hd,ey];rfl
    have hsg : signsS s (i + (unitT a).length) a = (a,i + (unitT a).length):=signsS_end a fun c hc => by
     obtain ⟨g,_⟩:=drop_head hd2
     rw [g] at hc
     cases hc
     exact k3
    rw [hsg] at hs
    have hc2:=hb2.2 _ _ hd hst
    rw [catS_more hn hat (by rw [hs];exact stopS_first hd2 k1 k2),hs]
    simp only
    rw [hc2]
   have ho:=whole (.cat a b) rfl hk
   exact ⟨brk _ rfl ho,fun _ => hk,ho⟩
 | alt a b iha ihb =>
   intro hok
   have ha:=iha (fun n hn => hok n (by simp [flat,hn]))
   have hb:=ihb (fun n hn => hok n (by simp [flat,hn]))
   have ho : ∀ i r,i ≤ s.length → s.drop i = textT (.alt a b) ++ r → stopS s (i + (textT (.alt a b)).length) = true → s[i + (textT (.alt a b)).length]? ≠ some 124 → orS s i = .ok (.alt a b) (i + (textT (.alt a b)).length):=by
    intro i r hi h hst h124
    have eb : wrapT (bnd 4 true b) (textT b) = textT b:=by cases b <;> rfl
    have et : textT (.alt a b) = wrapT (bnd 4 false a) (textT a) ++ 124 :: textT b:=by show wrapT (bnd 4 false a) _ ++ 124 :: _ = _;rw [eb]
    rw [et,List.append_assoc,List.cons_append] at h
    rw [et,List.length_append,List.length_cons] at hst h124 ⊢
    obtain ⟨g1,g2,hlt⟩:=drop_head (drop_more h)
    have hsta : stopS s (i + (wrapT (bnd 4 false a) (textT a)).length) = true:=by unfold stopS;rw [g1];rfl
    have hca : catS s i = .ok a (i + (wrapT (bnd 4 false a) (textT a)).length):=by
     by_cases halt : isAlt a = true
     ·have e : wrapT (bnd 4 false a) (textT a) = unitT a:=by cases a <;> first | rfl | cases halt
      rw [e] at h hsta ⊢
      obtain ⟨x,q,ex,h1,h2,_⟩:=unitT_first a
      obtain ⟨t0,j0,hat,hs⟩:=ha.1 i _ h
      rw [stopS_signs hsta a] at hs
      have hn : stopS s i = false:=stopS_first (show s.drop i = x :: (q ++ 124 :: (textT b ++ r)) by rw [h,ex];rfl) h1 h2
      rw [catS_one hn hat (by rw [hs];exact hsta),hs]
     ·have e : wrapT (bnd 4 false a) (textT a) = textT a:=by cases a <;> first | rfl | exact absurd rfl halt
      rw [e] at h hsta ⊢
      exact ha.2.1 (by simpa using halt) i _ h hsta
    generalize hn : (wrapT (bnd 4 false a) (textT a)).length = n at *
    have e2 : i + (n + ((textT b).length + 1)) = i + n + 1 + (textT b).length:=by omega
    rw [e2] at hst h124 ⊢
    rw [orS_more hi hca g1,hb.2.2 _ _ (by omega) g2 hst h124]
   exact ⟨brk _ rfl ho,(fun h => by cases h),ho⟩
theorem print_whole (t : Rx) (h : okT t) : orS (textT t) 0 = .ok t (textT t).length:=by
 have:=(print_read (s:=textT t) t h).2.2 0 [] (Nat.zero_le _) (by simp) (by unfold stopS;simp) (by simp)
 simpa using this
end Wf
namespace Wf
structure Sh (s s' : List UInt8) (d i0 : Nat) : Prop where
 get : ∀ k c,i0 ≤ k → s[k]? = some c → s'[k + d]? = some c
 fin : s'[s.length + d]? = none ∨ s'[s.length + d]? = some 41
section
variable {s s' : List UInt8} {d i0 : Nat}
theorem Sh.iff (h : Sh s s' d i0) {j : Nat} (h0 : i0 ≤ j) (hj : j ≤ s.length) {c : UInt8} (hc : c ≠ 41) : s'[j + d]? = some c ↔ s[j]? = some c:=by
 constructor
 ·intro e
  rcases Nat.lt_or_ge j s.length with hl | hl
  ·have e2:=h.get j _ h0 (List.getElem?_eq_getElem hl)
   rw [e] at e2
   rw [List.getElem?_eq_getElem hl,← e2]
  ·obtain rfl : j = s.length:=by omega
   rcases h.fin with f | f <;> rw [f] at e
   ·cases e
   ·exact absurd (Option.some.inj e).symm hc
 ·exact h.get j c h0
theorem Sh.stop (h : Sh s s' d i0) {j : Nat} (h0 : i0 ≤ j) (hj : j ≤ s.length) : stopS s' (j + d) = stopS s j:=by
 unfold stopS
 rcases Nat.lt_or_ge j s.length with hl | hl
 ·rw [h.get j _ h0 (List.getElem?_eq_getElem hl),List.getElem?_eq_getElem hl]
 ·obtain rfl : j = s.length:=by omega
  rw [List.getElem?_eq_none (Nat.le_refl _)]
  rcases h.fin with f | f <;> rw [f] <;> rfl
theorem Sh.hex (h : Sh s s' d i0) {i b j : Nat} (h0 : i0 ≤ i) (hr : hexS s i = .ok b j) : hexS s' (i + d) = .ok b (j + d):=by
 unfold hexS at hr
 split at hr
 ·cases hr
 ·rename_i x e1
  split at hr
  ·cases hr
  ·rename_i a ea
   split at hr
   ·cases hr
   ·rename_i y e2
    split at hr
    ·cases hr
    ·rename_i b' eb
     cases hr
     have g1:=h.get _ _ (by omega) e1
     have g2:=h.get _ _ (by omega) e2
     unfold hexS
     rw [show i + d + 2 = i + 2 + d by omega,g1]
     dsimp only
     rw [ea]
     dsimp only
     rw [show i + d + 3 = i + 3 + d by omega,g2]
     dsimp only
     rw [eb]
     dsimp only
     rw [show i + d + 4 = i + 4 + d by omega]
theorem Sh.one (h : Sh s s' d i0) {i b j : Nat} (h0 : i0 ≤ i) (hr : oneS s i = .ok b j) : oneS s' (i + d) = .ok b (j + d):=by
 unfold oneS at hr
 split at hr
 ·cases hr
 ·rename_i c e1
  have g1:=h.get _ _ h0 e1
  unfold oneS
  rw [g1]
  dsimp only
  split at hr
  ·rename_i hc
   rw [if_pos hc]
   split at hr
   ·cases hr
   ·rename_i x e2
    have g2:=h.get _ _ (by omega) e2
    rw [show i + d + 1 = i + 1 + d by omega,g2]
    dsimp only
    split at hr
    ·rename_i hx
     rw [if_pos hx]
     exact h.hex h0 hr
    ·rename_i hx
     rw [if_neg hx]
     split at hr
     ·rename_i hm
      rw [if_pos hm]
      cases hr
      rw [show i + d + 2 = i + 2 + d by omega]
     ·cases hr
  ·rename_i hc
   rw [if_neg hc]
   split at hr
   ·cases hr
   ·rename_i hx
    rw [if_neg hx]
    cases hr
    rw [show i + d + 1 = i + 1 + d by omega]
theorem Sh.item (h : Sh s s' d i0) {i j : Nat} {p : Nat × Nat} (h0 : i0 ≤ i) (hr : itemS s i = .ok p j) : itemS s' (i + d) = .ok p (j + d):=by
 unfold itemS at hr ⊢
 cases e1 : oneS s i with
 | bad k => rw [e1] at hr;cases hr
 | ok lo j1 =>
   rw [e1] at hr
   obtain ⟨o1,o2,_⟩:=oneS_ok e1
   rw [h.one h0 e1]
   dsimp only at hr ⊢
   by_cases hm : s[j1]? = some 45
   ·rw [if_pos hm] at hr
    rw [if_pos ((h.iff (by omega) o2 (by decide)).2 hm)]
    cases e2 : oneS s (j1 + 1) with
    | bad k => rw [e2] at hr;cases hr
    | ok hi j2 =>
      rw [e2] at hr
      rw [show j1 + d + 1 = j1 + 1 + d by omega,h.one (by omega) e2]
      dsimp only at hr ⊢
      by_cases hlt : hi < lo
      ·rw [if_pos hlt] at hr;cases hr
      ·rw [if_neg hlt] at hr ⊢
       cases hr
       rfl
   ·rw [if_neg hm] at hr
    rw [if_neg (fun e => hm ((h.iff (by omega) o2 (by decide)).1 e))]
    cases hr
    rfl
theorem Sh.signs (h : Sh s s' d i0) : ∀ (n j : Nat) (t : Rx),s.length - j ≤ n → j ≤ s.length → i0 ≤ j → signsS s' (j + d) t = ((signsS s j t).1,(signsS s j t).2 + d):=by
 intro n
 induction n with
 | zero =>
   intro j t hn hj h0
   obtain rfl : j = s.length:=by omega
   rw [signsS_end (s:=s) t (fun c hc => by rw [List.getElem?_eq_none (Nat.le_refl _)] at hc;cases hc)]
   rw [signsS_end (s:=s') t (fun c hc => by
    rcases h.fin with f | f <;> rw [f] at hc <;> cases hc
    decide)]
 | succ n ih =>
   intro j t hn hj h0
   by_cases h1 : s[j]? = some 42
   ·have hl:=getE_lt h1
    rw [signsS_star t h1,signsS_star t ((h.iff h0 hj (by decide)).2 h1),show j + d + 1 = j + 1 + d by omega]
    exact ih (j + 1) _ (by omega) (by omega) (by omega)
   ·by_cases h2 : s[j]? = some 43
    ·have hl:=getE_lt h2
     rw [signsS_plus t h2,signsS_plus t ((h.iff h0 hj (by decide)).2 h2),show j + d + 1 = j + 1 + d by omega]
     exact ih (j + 1) _ (by omega) (by omega) (by omega)
    ·by_cases h3 : s[j]? = some 63
     ·have hl:=getE_lt h3
      rw [signsS_opt t h3,signsS_opt t ((h.iff h0 hj (by decide)).2 h3),show j + d + 1 = j + 1 + d by omega]
      exact ih (j + 1) _ (by omega) (by omega) (by omega)
     ·rw [signsS_end (s:=s) t (fun c hc => ⟨fun e => h1 (by rw [hc,e]),fun e => h2 (by rw [hc,e]),fun e => h3 (by rw [hc,e])⟩)]
      rw [signsS_end (s:=s') t (fun c hc => ⟨fun e => h1 ((h.iff h0 hj (by decide)).1 (by rw [hc,e])),fun e => h2 ((h.iff h0 hj (by decide)).1 (by rw [hc,e])),fun e => h3 ((h.iff h0 hj (by decide)).1 (by rw [hc,e]))⟩)]
theorem Sh.items (h : Sh s s' d i0) : ∀ (n i : Nat) (c c' : Cls) (j : Nat),s.length - i ≤ n → i0 ≤ i → i ≤ s.length → itemsS s i c = .ok c' j → itemsS s' (i + d) c = .ok c' (j + d):=by
 intro n
 induction n with
 | zero =>
   intro i c c' j hn h0 hi hr
   obtain rfl : i = s.length:=by omega
   have hno : s[s.length]? = none:=List.getElem?_eq_none (Nat.le_refl _)
   have hit : itemS s s.length = .bad s.length:=by unfold itemS;rw [oneS];rw [hno]
   rw [itemsS_bad c (by rw [hno];simp) hit] at hr
   cases hr
 | succ n ih =>
   intro i c c' j hn h0 hi hr
   by_cases he : s[i]? = some 93
   ·rw [itemsS_end c he] at hr
    cases hr
    rw [itemsS_end c ((h.iff h0 hi (by decide)).2 he)]
    rw [show i + d + 1 = i + 1 + d by omega]
   ·have he' : s'[i + d]? ≠ some 93:=fun e => he ((h.iff h0 hi (by decide)).1 e)
    cases hit : itemS s i with
    | bad k => rw [itemsS_bad c he hit] at hr;cases hr
    | ok p j1 =>
      obtain ⟨o1,o2,_⟩:=itemS_ok hit
      rw [itemsS_more c he hit] at hr
      rw [itemsS_more c he' (h.item h0 hit)]
      exact ih j1 _ c' j (by omega) (by omega) o2 hr
theorem Sh.bracket (h : Sh s s' d i0) {i j : Nat} {c : Cls} (h0 : i0 ≤ i) (hi : i ≤ s.length) (hr : bracketS s i = .ok c j) : bracketS s' (i + d) = .ok c (j + d):=by
 unfold bracketS at hr ⊢
 by_cases hm : s[i]? = some 94
 ·have hl:=getE_lt hm
  rw [if_pos hm] at hr
  rw [if_pos ((h.iff h0 hi (by decide)).2 hm)]
  cases e : itemsS s (i + 1) zc with
  | bad k => rw [e] at hr;cases hr
  | ok c1 j1 =>
    rw [e] at hr
    cases hr
    rw [show i + d + 1 = i + 1 + d by omega,h.items _ _ _ _ _ (Nat.le_refl _) (by omega) (by omega) e]
 ·rw [if_neg hm] at hr
  rw [if_neg (fun e => hm ((h.iff h0 hi (by decide)).1 e))]
  exact h.items _ _ _ _ _ (Nat.le_refl _) h0 hi hr
theorem atomS_cases (s : List UInt8) (i : Nat) (hi : i < s.length) : atomS s i =
 if s[i]? = some 40 then
  match orS s (i + 1) with
  | .bad k => .bad k
  | .ok t j => if s[j]? = some 41 then .ok t (j + 1) else .bad j
 else if s[i]? = some 91 then
  match bracketS s (i + 1) with
  | .bad k => .bad k
  | .ok c j => .ok (.byte c) j
 else if s[i]? = some 46 then .ok (.byte dotC) (i + 1)
 else if s[i]? = some 94 then .ok .bgn (i + 1)
 else if s[i]? = some 36 then .ok .fin (i + 1)
 else match oneS s i with
  | .bad k => .bad k
  | .ok b j => .ok (.byte (withB zc b)) j:=by
 rw [atomS,dif_pos hi,List.getElem?_eq_getElem hi]
 simp only [Option.some.injEq]
 all_goals rfl
theorem Sh.read (h : Sh s s' d i0) : ∀ (n i : Nat),s.length - i ≤ n → i0 ≤ i → i ≤ s.length →
 (∀ t j,atomS s i = .ok t j → atomS s' (i + d) = .ok t (j + d)) ∧
 (∀ t j,catS s i = .ok t j → catS s' (i + d) = .ok t (j + d)) ∧
 (∀ t j,orS s i = .ok t j → orS s' (i + d) = .ok t (j + d)):=by
 intro n
 induction n with
 | zero =>
   intro i hn h0 hi
   obtain rfl : i = s.length:=by omega
   have hno : s[s.length]? = none:=List.getElem?_eq_none (Nat.le_refl _)
   have hst : stopS s s.length = true:=by unfold stopS;rw [hno]
   have hst' : stopS s' (s.length + d) = true:=by rw [h.stop h0 hi,hst]
   have hC : catS s s.length = .ok .empty s.length:=by rw [catS,if_pos hst]
   have hC' : catS s' (s.length + d) = .ok .empty (s.length + d):=by rw [catS,if_pos hst']
   refine ⟨fun t j hr => ?_,fun t j hr => ?_,fun t j hr => ?_⟩
   ·rw [atomS,dif_neg (by omega)] at hr;cases hr
   ·rw [hC] at hr;cases hr;exact hC'
   ·have hO : orS s s.length = .ok .empty s.length:=by rw [orS,hC];simp
    rw [hO] at hr
    cases hr
    rw [orS,hC']
    dsimp only
    rw [if_neg (by rcases h.fin with f | f <;> rw [f] <;> decide)]
 | succ n ih =>
   intro i hn h0 hi
   have hat : ∀ t j,atomS s i = .ok t j → atomS s' (i + d) = .ok t (j + d):=by
    intro t j hr
    rcases Nat.lt_or_ge i s.length with hl | hl
    ·have hl' : i + d < s'.length:=getE_lt (h.get i _ h0 (List.getElem?_eq_getElem hl))
     have hf : ∀ c : UInt8,s'[i + d]? = some c ↔ s[i]? = some c:=fun c => by
      rw [h.get i _ h0 (List.getElem?_eq_getElem hl),List.getElem?_eq_getElem hl]
     rw [atomS_cases s i hl] at hr
     rw [atomS_cases s' (i + d) hl']
     simp only [hf]
     by_cases h1 : s[i]? = some 40
     ·rw [if_pos h1] at hr ⊢
      cases hO : orS s (i + 1) with
      | bad k => rw [hO] at hr;cases hr
      | ok t1 j1 =>
        rw [hO] at hr
        dsimp only at hr
        rw [show i + d + 1 = i + 1 + d by omega,(ih (i + 1) (by omega) (by omega) (by omega)).2.2 _ _ hO]
        dsimp only
        by_cases hj : s[j1]? = some 41
        ·rw [if_pos hj] at hr
         cases hr
         have:=(read_ok (s:=s) _ (i + 1) (Nat.le_refl _) (by omega)).2.2 _ _ hO
         rw [if_pos (h.get _ _ (by omega) hj),show j1 + d + 1 = j1 + 1 + d by omega]
        ·rw [if_neg hj] at hr;cases hr
     ·rw [if_neg h1] at hr ⊢
      by_cases h2 : s[i]? = some 91
      ·rw [if_pos h2] at hr ⊢
       cases hO : bracketS s (i + 1) with
       | bad k => rw [hO] at hr;cases hr
       | ok c1 j1 =>
         rw [hO] at hr
         cases hr
         rw [show i + d + 1 = i + 1 + d by omega,h.bracket (by omega) (by omega) hO]
      ·rw [if_neg h2] at hr ⊢
       by_cases h3 : s[i]? = some 46
       ·rw [if_pos h3] at hr ⊢;cases hr;rw [show i + d + 1 = i + 1 + d by omega]
       ·rw [if_neg h3] at hr ⊢
        by_cases h4 : s[i]? = some 94
        ·rw [if_pos h4] at hr ⊢;cases hr;rw [show i + d + 1 = i + 1 + d by omega]
        ·rw [if_neg h4] at hr ⊢
         by_cases h5 : s[i]? = some 36
         ·rw [if_pos h5] at hr ⊢;cases hr;rw [show i + d + 1 = i + 1 + d by omega]
         ·rw [if_neg h5] at hr ⊢
          cases hO : oneS s i with
          | bad k => rw [hO] at hr;cases hr
          | ok b j1 =>
            rw [hO] at hr
            cases hr
            rw [h.one h0 hO]
    ·rw [atomS,dif_neg (by omega)] at hr;cases hr
   have hcat : ∀ t j,catS s i = .ok t j → catS s' (i + d) = .ok t (j + d):=by
    intro t j hr
    rw [catS] at hr ⊢
    rw [h.stop h0 hi]
    by_cases hst : stopS s i = true
    ·rw [if_pos hst] at hr ⊢;cases hr;rfl
    ·rw [if_neg hst] at hr ⊢
     cases hA : atomS s i with
     | bad k => rw [hA] at hr;cases hr
     | ok t1 j1 =>
       rw [hA] at hr
       rw [hat _ _ hA]
       obtain ⟨a1,a2,a3,_⟩:=(read_ok (s:=s) _ i (Nat.le_refl _) hi).1 _ _ hA
       obtain ⟨s1,s2,_⟩:=signsS_ok _ j1 t1 (Nat.le_refl _) a2 a3
       dsimp only at hr ⊢
       rw [h.signs _ j1 t1 (Nat.le_refl _) a2 (by omega)]
       dsimp only
       generalize (signsS s j1 t1).1 = tg at *
       generalize (signsS s j1 t1).2 = jg at *
       rw [h.stop (by omega) s2]
       by_cases hs2 : stopS s jg = true
       ·rw [if_pos hs2] at hr ⊢;cases hr;rfl
       ·rw [if_neg hs2] at hr ⊢
        rw [if_pos (show i < jg ∧ i ≤ s.length from ⟨by omega,hi⟩)] at hr
        have hil : i < s.length:=by omega
        have hl' : i + d < s'.length:=getE_lt (h.get i _ h0 (List.getElem?_eq_getElem hil))
        rw [if_pos (show i + d < jg + d ∧ i + d ≤ s'.length from ⟨by omega,by omega⟩)]
        cases hC : catS s jg with
        | bad k => rw [hC] at hr;cases hr
        | ok u k =>
          rw [hC] at hr
          cases hr
          rw [(ih jg (by omega) (by omega) s2).2.1 _ _ hC]
   refine ⟨hat,hcat,fun t j hr => ?_⟩
   rw [orS] at hr ⊢
   cases hA : catS s i with
   | bad k => rw [hA] at hr;cases hr
   | ok t1 j1 =>
     rw [hA] at hr
     rw [hcat _ _ hA]
     obtain ⟨a1,a2,_⟩:=(read_ok (s:=s) _ i (Nat.le_refl _) hi).2.1 _ _ hA
     dsimp only at hr ⊢
     by_cases hj : s[j1]? = some 124
     ·have hl:=getE_lt hj
      have g1:=h.get _ _ (by omega) hj
      have hl':=getE_lt g1
      rw [if_pos hj,if_pos (show i ≤ j1 ∧ i ≤ s.length from ⟨a1,hi⟩)] at hr
      rw [if_pos g1,if_pos (show i + d ≤ j1 + d ∧ i + d ≤ s'.length from ⟨by omega,by omega⟩)]
      cases hO : orS s (j1 + 1) with
      | bad k => rw [hO] at hr;cases hr
      | ok u k =>
        rw [hO] at hr
        cases hr
        rw [show j1 + d + 1 = j1 + 1 + d by omega,(ih (j1 + 1) (by omega) (by omega) (by omega)).2.2 _ _ hO]
     ·rw [if_neg hj] at hr
      rw [if_neg (fun e => hj ((h.iff (by omega) a2 (by decide)).1 e))]
      cases hr
      rfl
end
end Wf
