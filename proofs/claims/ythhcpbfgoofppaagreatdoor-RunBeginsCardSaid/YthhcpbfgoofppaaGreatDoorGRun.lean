/-
  Pg, Ps, Pt.
-/
import Derived.Test.YthhcpbfgoofppaaGreatDoorGPl
import Derived.Test.YthhcpbfgoofppaaGreatDoorMemS
set_option linter.unusedVariables false
set_option linter.unusedSimpArgs false
namespace Go.Proofs.YthhcpbfgoofppaaGreatDoor
open Wf
def goL (p : List St) (b : Nat) (L : List Nat) : List Nat:=L.flatMap fun i => match p[i]? with
 | some s => if has s.cls b then [s.x.toNat] else []
 | none => []
theorem goL_snoc (p : List St) (b : Nat) (L : List Nat) (i : Nat) (s : St) (h : p[i]? = some s) : goL p b (L ++ [i]) = goL p b L ++ (if has s.cls b then [s.x.toNat] else []):=by
 unfold goL
 simp [h]
theorem goL_len (p : List St) (b : Nat) (L : List Nat) : (goL p b L).length ≤ L.length:=by
 induction L with
 | nil => simp [goL]
 | cons i r ih =>
   have : goL p b (i :: r) = (match p[i]? with | some s => if has s.cls b then [s.x.toNat] else [] | none => []) ++ goL p b r:=rfl
   rw [this,List.length_append,List.length_cons]
   have : (match p[i]? with | some s => if has s.cls b then [s.x.toNat] else [] | none => ([] : List Nat)).length ≤ 1:=by
    split
    ·split <;> simp
    ·simp
   omega
end Go.Proofs.YthhcpbfgoofppaaGreatDoor
namespace Wf
open Go.Proofs.YthhcpbfgoofppaaGreatDoor (upTo_ upTo_yes upTo_no upTo_mem upTo_iff goL)
inductive RunAt (p : List St) (s : List UInt8) (from_ : Nat) : Nat → Nat → Prop where
 | start : RunAt p s from_ from_ 0
 | step {i j k x : Nat} {b : UInt8} {st : St} : RunAt p s from_ i j → Star (Eps p (i == 0) (i == s.length)) j k → p[k]? = some st → st.op = 1 → s[i]? = some b → has st.cls b.toNat = true → (x : Int) = st.x → RunAt p s from_ (i + 1) x
def EndsAt (p : List St) (s : List UInt8) (from_ : Nat) (i : Nat) : Prop:=∃ j k,RunAt p s from_ i j ∧ Star (Eps p (i == 0) (i == s.length)) j k ∧ ∃ st,p[k]? = some st ∧ st.op = 5
theorem RunAt.ge {p : List St} {s : List UInt8} {f i j : Nat} (h : RunAt p s f i j) : f ≤ i:=by
 induction h with
 | start => exact Nat.le_refl _
 | step _ _ _ _ _ _ _ ih => omega
theorem RunAt.le {p : List St} {s : List UInt8} {f i j : Nat} (h : RunAt p s f i j) (hf : f ≤ s.length) : i ≤ s.length:=by
 cases h with
 | start => exact hf
 | step _ _ _ _ hb _ _ => have:=(List.getElem?_eq_some_iff.1 hb).1;omega
theorem RunAt.lt {p : List St} (hp : okP p) {s : List UInt8} {f i j : Nat} (h : RunAt p s f i j) : j < p.length:=by
 cases h with
 | start => exact hp.1
 | step _ _ hs h1 _ _ hx =>
   have:=(oneP_zero (hp.2.2 _ (List.mem_of_getElem? hs))).2.1 (by omega)
   omega
theorem RunAt.first {p : List St} {s : List UInt8} {f j : Nat} (h : RunAt p s f f j) : j = 0:=by
 generalize hi : f = i at h
 cases h with
 | start => rfl
 | step h => have:=h.ge;omega
def AtL (p : List St) (s : List UInt8) (f i : Nat) (fs : List Nat) : Prop:=∀ j,j ∈ fs ↔ RunAt p s f i j
theorem AtL.start (p : List St) (s : List UInt8) (f : Nat) : AtL p s f f [0]:=fun j => by
 constructor
 ·intro h
  obtain rfl : j = 0:=by simpa using h
  exact .start
 ·intro h;rw [h.first];simp
theorem AtL.spr {p : List St} {s : List UInt8} {f i : Nat} {fs : List Nat} (h : AtL p s f i fs) (k : Nat) (a b : Bool) : Spr p a b fs k ↔ ∃ j,RunAt p s f i j ∧ Star (Eps p a b) j k:=by
 unfold Spr
 constructor
 ·rintro ⟨j,h1,h2⟩;exact ⟨j,(h j).1 h1,h2⟩
 ·rintro ⟨j,h1,h2⟩;exact ⟨j,(h j).2 h1,h2⟩
theorem AtL.done {p : List St} {s : List UInt8} {f i : Nat} {fs L : List Nat} {d : Bool} (h : AtL p s f i fs) (hf : Front p (i == 0) (i == s.length) fs L d) : d = true ↔ EndsAt p s f i:=by
 rw [hf.done]
 unfold EndsAt
 constructor
 ·rintro ⟨k,h1,h2⟩
  obtain ⟨j,h3,h4⟩:=(h.spr k _ _).1 h1
  exact ⟨j,k,h3,h4,h2⟩
 ·rintro ⟨j,k,h3,h4,h2⟩
  exact ⟨k,(h.spr k _ _).2 ⟨j,h3,h4⟩,h2⟩
theorem AtL.next {p : List St} (hp : okP p) {s : List UInt8} {f i : Nat} {fs L : List Nat} {d : Bool} {b : UInt8} (hfi : f ≤ i) (h : AtL p s f i fs) (hf : Front p (i == 0) (i == s.length) fs L d) (hb : s[i]? = some b) : AtL p s f (i + 1) (goL p b.toNat L):=by
 intro x
 unfold goL
 rw [List.mem_flatMap]
 constructor
 ·rintro ⟨k,hk,hx⟩
  obtain ⟨h1,st,h2,h3⟩:=(hf.takes k).1 hk
  obtain ⟨j,h4,h5⟩:=(h.spr k _ _).1 h1
  rw [h2] at hx
  simp only at hx
  split at hx
  ·rename_i hh
   have hx0:=(oneP_zero (hp.2.2 _ (List.mem_of_getElem? h2))).2.1 (by omega)
   obtain rfl : x = st.x.toNat:=by simpa using hx
   exact .step h4 h5 h2 h3 hb hh (by omega)
  ·cases hx
 ·intro h
  generalize hi : i + 1 = i' at h
  cases h with
  | start => omega
  | @step i1 j k x b1 st h4 h5 h2 h3 hb1 hh hx =>
    obtain rfl : i1 = i:=by omega
    rw [hb] at hb1
    cases hb1
    refine ⟨k,(hf.takes k).2 ⟨(AtL.spr h k _ _).2 ⟨j,h4,h5⟩,st,h2,h3⟩,?_⟩
    rw [h2]
    simp only
    rw [if_pos hh]
    simp
    omega
theorem AtL.none {p : List St} {s : List UInt8} {f i : Nat} (hfi : f ≤ i) (h : AtL p s f i []) : ∀ i',i ≤ i' → ∀ j,¬ RunAt p s f i' j:=by
 intro i' hi'
 obtain ⟨m,rfl⟩ : ∃ m,i' = i + m:=⟨i' - i,by omega⟩
 clear hi'
 induction m with
 | zero => intro j hj;have:=(h j).2 hj;cases this
 | succ m ih =>
   intro j hj
   generalize hi : i + (m + 1) = i' at hj
   cases hj with
   | start => omega
   | @step i1 j1 _ _ _ _ h4 =>
     obtain rfl : i1 = i + m:=by omega
     exact ih _ h4
noncomputable def runL (p : List St) (s : List UInt8) (f : Nat) : List Nat:=upTo_ (EndsAt p s f) (s.length + 1)
theorem runL_of {p : List St} {s : List UInt8} {f i : Nat} (hi : i ≤ s.length + 1) (h : ∀ i',i ≤ i' → ¬ EndsAt p s f i') : runL p s f = upTo_ (EndsAt p s f) i:=by
 unfold runL
 obtain ⟨m,hm⟩ : ∃ m,s.length + 1 = i + m:=⟨s.length + 1 - i,by omega⟩
 rw [hm]
 clear hm
 induction m with
 | zero => rfl
 | succ m ih => rw [show i + (m + 1) = (i + m) + 1 by omega,upTo_no (h _ (by omega)),ih]
theorem ends_first {p : List St} {s : List UInt8} {f i : Nat} (h : EndsAt p s f i) : f ≤ i:=by
 obtain ⟨j,k,h1,_⟩:=h
 exact h1.ge
theorem upTo_first (p : List St) (s : List UInt8) (f : Nat) : upTo_ (EndsAt p s f) f = []:=by
 have key : ∀ m,m ≤ f → upTo_ (EndsAt p s f) m = []:=by
  intro m
  induction m with
  | zero => intro _;rfl
  | succ m ih => intro h;rw [upTo_no (fun hh => by have:=ends_first hh;omega),ih (by omega)]
 exact key f (Nat.le_refl _)
def lastL (xs : List Nat) : Int:=match xs.getLast? with
 | some x => (x : Int)
 | none => -1
theorem lastL_snoc (xs : List Nat) (x : Nat) : lastL (xs ++ [x]) = (x : Int):=by simp [lastL]
end Wf
namespace Wf
def sz : Rx → Nat
 | .byte _ => 1
 | .empty => 0
 | .cat a b => sz a + sz b
 | .alt a b => sz a + sz b + 2
 | .star a => sz a + 2
 | .plus a => sz a + 1
 | .opt a => sz a + 1
 | .bgn => 1
 | .fin => 1
def code : Rx → Nat → List St
 | .byte c,h => [⟨1,c,((h + 1 : Nat) : Int),0⟩]
 | .empty,_ => []
 | .cat a b,h => code a h ++ code b (h + sz a)
 | .alt a b,h => (⟨2,zc,((h + 1 : Nat) : Int),((h + 1 + sz a + 1 : Nat) : Int)⟩ :: code a (h + 1)) ++ (⟨2,zc,((h + 1 + sz a + 1 + sz b : Nat) : Int),((h + 1 + sz a + 1 + sz b : Nat) : Int)⟩ :: code b (h + 1 + sz a + 1))
 | .star a,h => (⟨2,zc,((h + 1 : Nat) : Int),((h + 1 + sz a + 1 : Nat) : Int)⟩ :: code a (h + 1)) ++ [⟨2,zc,((h + 1 : Nat) : Int),((h + 1 + sz a + 1 : Nat) : Int)⟩]
 | .plus a,h => code a h ++ [⟨2,zc,(h : Int),((h + sz a + 1 : Nat) : Int)⟩]
 | .opt a,h => ⟨2,zc,((h + 1 : Nat) : Int),((h + 1 + sz a : Nat) : Int)⟩ :: code a (h + 1)
 | .bgn,h => [⟨3,zc,((h + 1 : Nat) : Int),0⟩]
 | .fin,h => [⟨4,zc,((h + 1 : Nat) : Int),0⟩]
def doneS : St:=⟨5,zc,0,0⟩
def progL (t : Rx) : List St:=code t 0 ++ [doneS]
theorem code_len (t : Rx) : ∀ h,(code t h).length = sz t:=by
 induction t with
 | byte c => intro h;rfl
 | empty => intro h;rfl
 | bgn => intro h;rfl
 | fin => intro h;rfl
 | cat a b iha ihb => intro h;simp [code,sz,iha,ihb]
 | alt a b iha ihb => intro h;simp [code,sz,iha,ihb];omega
 | star a iha => intro h;simp [code,sz,iha]
 | plus a iha => intro h;simp [code,sz,iha]
 | opt a iha => intro h;simp [code,sz,iha]
theorem progL_len (t : Rx) : (progL t).length = sz t + 1:=by simp [progL,code_len]
theorem sz_le (t : Rx) : sz t ≤ 2 * (flat t).length:=by
 induction t with
 | byte c => simp [sz,flat]
 | empty => simp [sz,flat]
 | bgn => simp [sz,flat]
 | fin => simp [sz,flat]
 | cat a b iha ihb => simp [sz,flat];omega
 | alt a b iha ihb => simp [sz,flat];omega
 | star a iha => simp [sz,flat];omega
 | plus a iha => simp [sz,flat];omega
 | opt a iha => simp [sz,flat];omega
theorem code_ok (t : Rx) : ∀ (h many : Nat),h + sz t < many → ∀ s ∈ code t h,oneP s many = 0:=by
 induction t with
 | byte c =>
   intro h many hm s hs
   obtain rfl:=List.mem_singleton.1 hs
   simp only [sz] at hm
   exact zero_oneP (by simp) (fun _ => ⟨by simp;omega,by simp;omega⟩) (by simp) (by simp) (by simp) (by simp)
 | bgn =>
   intro h many hm s hs
   obtain rfl:=List.mem_singleton.1 hs
   simp only [sz] at hm
   exact zero_oneP (by simp) (fun _ => ⟨by simp;omega,by simp;omega⟩) (by simp) (by simp) (by simp) (by simp)
 | fin =>
   intro h many hm s hs
   obtain rfl:=List.mem_singleton.1 hs
   simp only [sz] at hm
   exact zero_oneP (by simp) (fun _ => ⟨by simp;omega,by simp;omega⟩) (by simp) (by simp) (by simp) (by simp)
 | empty => intro h many hm s hs;cases hs
 | cat a b iha ihb =>
   intro h many hm s hs
   simp only [sz] at hm
   rcases List.mem_append.1 hs with hs | hs
   ·exact iha h many (by omega) s hs
   ·exact ihb _ many (by omega) s hs
 | alt a b iha ihb =>
   intro h many hm s hs
   simp only [sz] at hm
   rcases List.mem_append.1 hs with hs | hs
   ·rcases List.mem_cons.1 hs with rfl | hs
    ·exact zero_oneP (by simp) (fun _ => ⟨by simp;omega,by simp;omega⟩) (fun _ => ⟨by simp;omega,by simp;omega⟩) (by simp) (by simp) (by simp)
    ·exact iha _ many (by omega) s hs
   ·rcases List.mem_cons.1 hs with rfl | hs
    ·exact zero_oneP (by simp) (fun _ => ⟨by simp;omega,by simp;omega⟩) (fun _ => ⟨by simp;omega,by simp;omega⟩) (by simp) (by simp) (by simp)
    ·exact ihb _ many (by omega) s hs
 | star a iha =>
   intro h many hm s hs
   simp only [sz] at hm
   rcases List.mem_append.1 hs with hs | hs
   ·rcases List.mem_cons.1 hs with rfl | hs
    ·exact zero_oneP (by simp) (fun _ => ⟨by simp;omega,by simp;omega⟩) (fun _ => ⟨by simp;omega,by simp;omega⟩) (by simp) (by simp) (by simp)
    ·exact iha _ many (by omega) s hs
   ·obtain rfl:=List.mem_singleton.1 hs
    exact zero_oneP (by simp) (fun _ => ⟨by simp;omega,by simp;omega⟩) (fun _ => ⟨by simp;omega,by simp;omega⟩) (by simp) (by simp) (by simp)
 | plus a iha =>
   intro h many hm s hs
   simp only [sz] at hm
   rcases List.mem_append.1 hs with hs | hs
   ·exact iha _ many (by omega) s hs
   ·obtain rfl:=List.mem_singleton.1 hs
    exact zero_oneP (by simp) (fun _ => ⟨by simp,by simp;omega⟩) (fun _ => ⟨by simp;omega,by simp;omega⟩) (by simp) (by simp) (by simp)
 | opt a iha =>
   intro h many hm s hs
   simp only [sz] at hm
   rcases List.mem_cons.1 hs with rfl | hs
   ·exact zero_oneP (by simp) (fun _ => ⟨by simp;omega,by simp;omega⟩) (fun _ => ⟨by simp;omega,by simp;omega⟩) (by simp) (by simp) (by simp)
   ·exact iha _ many (by omega) s hs
theorem progL_ok (t : Rx) (ht : (flat t).length ≤ 60) : okP (progL t):=by
 have h1:=sz_le t
 refine ⟨by rw [progL_len];omega,by rw [progL_len];omega,fun s hs => ?_⟩
 rcases List.mem_append.1 hs with hs | hs
 ·exact code_ok t 0 _ (by rw [progL_len];omega) s hs
 ·obtain rfl:=List.mem_singleton.1 hs
  exact zero_oneP (by simp [doneS]) (by simp [doneS]) (by simp [doneS]) (by simp [doneS]) (by simp [doneS]) (by simp [doneS])
theorem code_cls (P : Cls → Prop) (hz : P zc) (t : Rx) : (∀ n ∈ flat t,P n.cls) → ∀ h,∀ s ∈ code t h,P s.cls:=by
 induction t with
 | byte c => intro hP h s hs;obtain rfl:=List.mem_singleton.1 hs;exact hP ⟨1,c⟩ (by simp [flat])
 | bgn => intro hP h s hs;obtain rfl:=List.mem_singleton.1 hs;exact hz
 | fin => intro hP h s hs;obtain rfl:=List.mem_singleton.1 hs;exact hz
 | empty => intro hP h s hs;cases hs
 | cat a b iha ihb =>
   intro hP h s hs
   rcases List.mem_append.1 hs with hs | hs
   ·exact iha (fun n hn => hP n (by simp [flat,hn])) _ s hs
   ·exact ihb (fun n hn => hP n (by simp [flat,hn])) _ s hs
 | alt a b iha ihb =>
   intro hP h s hs
   rcases List.mem_append.1 hs with hs | hs
   ·rcases List.mem_cons.1 hs with rfl | hs
    ·exact hz
    ·exact iha (fun n hn => hP n (by simp [flat,hn])) _ s hs
   ·rcases List.mem_cons.1 hs with rfl | hs
    ·exact hz
    ·exact ihb (fun n hn => hP n (by simp [flat,hn])) _ s hs
 | star a iha =>
   intro hP h s hs
   rcases List.mem_append.1 hs with hs | hs
   ·rcases List.mem_cons.1 hs with rfl | hs
    ·exact hz
    ·exact iha (fun n hn => hP n (by simp [flat,hn])) _ s hs
   ·obtain rfl:=List.mem_singleton.1 hs
    exact hz
 | plus a iha =>
   intro hP h s hs
   rcases List.mem_append.1 hs with hs | hs
   ·exact iha (fun n hn => hP n (by simp [flat,hn])) _ s hs
   ·obtain rfl:=List.mem_singleton.1 hs
    exact hz
 | opt a iha =>
   intro hP h s hs
   rcases List.mem_cons.1 hs with rfl | hs
   ·exact hz
   ·exact iha (fun n hn => hP n (by simp [flat,hn])) _ s hs
theorem progL_cls (P : Cls → Prop) (hz : P zc) (t : Rx) (hP : ∀ n ∈ flat t,P n.cls) : ∀ s ∈ progL t,P s.cls:=by
 intro s hs
 rcases List.mem_append.1 hs with hs | hs
 ·exact code_cls P hz t hP 0 s hs
 ·obtain rfl:=List.mem_singleton.1 hs
  exact hz
def Tr (p : List St) (s : List UInt8) (i j i' j' : Nat) : Prop :=
 (i' = i ∧ Eps p (i == 0) (i == s.length) j j') ∨ (i' = i + 1 ∧ ∃ st b,p[j]? = some st ∧ st.op = 1 ∧ s[i]? = some b ∧ has st.cls b.toNat = true ∧ (j' : Int) = st.x)
inductive Way (p : List St) (s : List UInt8) : Nat → Nat → Nat → Nat → Nat → Prop where
 | refl (i j : Nat) : Way p s 0 i j i j
 | head {n i j i1 j1 i2 j2 : Nat} : Tr p s i j i1 j1 → Way p s n i1 j1 i2 j2 → Way p s (n + 1) i j i2 j2
theorem Way.trans {p : List St} {s : List UInt8} {n m i j i1 j1 i2 j2 : Nat} (h : Way p s n i j i1 j1) (h' : Way p s m i1 j1 i2 j2) : Way p s (n + m) i j i2 j2:=by
 induction h with
 | refl => simpa using h'
 | head ht _ ih => rw [Nat.add_right_comm];exact .head ht (ih h')
theorem Way.one {p : List St} {s : List UInt8} {i j i1 j1 : Nat} (h : Tr p s i j i1 j1) : Way p s 1 i j i1 j1:=.head h (.refl _ _)
theorem way_of_eps {p : List St} {s : List UInt8} {i j k : Nat} (h : Star (Eps p (i == 0) (i == s.length)) j k) : ∃ n,Way p s n i j i k:=by
 induction h with
 | refl => exact ⟨0,.refl _ _⟩
 | tail _ hr ih =>
   obtain ⟨n,h⟩:=ih
   exact ⟨n + 1,h.trans (.one (.inl ⟨rfl,hr⟩))⟩
theorem way_of_run {p : List St} {s : List UInt8} {f i j : Nat} (h : RunAt p s f i j) : ∃ n,Way p s n f 0 i j:=by
 induction h with
 | start => exact ⟨0,.refl _ _⟩
 | step _ hs h1 h2 h3 h4 h5 ih =>
   obtain ⟨n,h⟩:=ih
   obtain ⟨m,h'⟩:=way_of_eps hs
   exact ⟨n + m + 1,(h.trans h').trans (.one (.inr ⟨rfl,_,_,h1,h2,h3,h4,h5⟩))⟩
theorem run_of_way {p : List St} {s : List UInt8} {n i0 j0 i j : Nat} (h : Way p s n i0 j0 i j) : ∀ {f : Nat},(∃ k,RunAt p s f i0 k ∧ Star (Eps p (i0 == 0) (i0 == s.length)) k j0) → ∃ k,RunAt p s f i k ∧ Star (Eps p (i == 0) (i == s.length)) k j:=by
 induction h with
 | refl => intro f h;exact h
 | head ht _ ih =>
   rintro f ⟨k,h1,h2⟩
   apply ih
   rcases ht with ⟨rfl,h⟩ | ⟨rfl,st,b,h3,h4,h5,h6,h7⟩
   ·exact ⟨k,h1,.tail h2 h⟩
   ·exact ⟨_,.step h1 h2 h3 h4 h5 h6 h7,.refl _⟩
theorem ends_way {p : List St} {s : List UInt8} {f i : Nat} : EndsAt p s f i ↔ ∃ n k,Way p s n f 0 i k ∧ ∃ st,p[k]? = some st ∧ st.op = 5:=by
 constructor
 ·rintro ⟨j,k,h1,h2,h3⟩
  obtain ⟨n,h⟩:=way_of_run h1
  obtain ⟨m,h'⟩:=way_of_eps h2
  exact ⟨n + m,k,h.trans h',h3⟩
 ·rintro ⟨n,k,h,h3⟩
  obtain ⟨j,h1,h2⟩:=run_of_way h (f:=f) ⟨0,.start,.refl _⟩
  exact ⟨j,k,h1,h2,h3⟩
def In (p : List St) (h : Nat) (l : List St) : Prop:=∀ k s,l[k]? = some s → p[h + k]? = some s
theorem In.left {p : List St} {h : Nat} {l r : List St} (hi : In p h (l ++ r)) : In p h l:=fun k s hk => hi k s (by rw [List.getElem?_append_left (List.getElem?_eq_some_iff.1 hk).1];exact hk)
theorem In.right {p : List St} {h : Nat} {l r : List St} (hi : In p h (l ++ r)) {n : Nat} (hn : n = h + l.length) : In p n r:=fun k s hk => by
 subst hn
 rw [Nat.add_assoc]
 exact hi _ s (by rw [List.getElem?_append_right (by omega)];simpa using hk)
theorem In.hd {p : List St} {h : Nat} {s : St} {l : List St} (hi : In p h (s :: l)) : p[h]? = some s:=hi 0 s rfl
theorem In.tl {p : List St} {h : Nat} {s : St} {l : List St} (hi : In p h (s :: l)) : In p (h + 1) l:=fun k s' hk => by
 have:=hi (k + 1) s' (by simpa using hk)
 rwa [show h + 1 + k = h + (k + 1) by omega]
theorem tr_fork {p : List St} {s : List UInt8} {i j i' j' x y : Nat} {st : St} (hs : p[j]? = some st) (h2 : st.op = 2) (hx : st.x = (x : Int)) (hy : st.y = (y : Int)) : Tr p s i j i' j' ↔ i' = i ∧ (j' = x ∨ j' = y):=by
 unfold Tr Eps
 rw [hs]
 constructor
 ·rintro (⟨h,st',h0,h1⟩ | ⟨h,st',b,h0,h1,_⟩)
  ·cases h0
   refine ⟨h,?_⟩
   rcases h1 with ⟨_,h1⟩ | ⟨h1,_⟩ | ⟨h1,_⟩
   ·omega
   ·omega
   ·omega
  ·cases h0;omega
 ·rintro ⟨h,h1⟩
  exact .inl ⟨h,st,rfl,.inl ⟨h2,by omega⟩⟩
theorem tr_take {p : List St} {s : List UInt8} {i j i' j' x : Nat} {st : St} (hs : p[j]? = some st) (h1 : st.op = 1) (hx : st.x = (x : Int)) : Tr p s i j i' j' ↔ i' = i + 1 ∧ j' = x ∧ ∃ b,s[i]? = some b ∧ has st.cls b.toNat = true:=by
 unfold Tr Eps
 rw [hs]
 constructor
 ·rintro (⟨h,st',h0,h2⟩ | ⟨h,st',b,h0,_,h3,h4,h5⟩)
  ·cases h0;omega
  ·cases h0;exact ⟨h,by omega,b,h3,h4⟩
 ·rintro ⟨h,h2,b,h3,h4⟩
  exact .inr ⟨h,st,b,rfl,h1,h3,h4,by omega⟩
theorem tr_first {p : List St} {s : List UInt8} {i j i' j' x : Nat} {st : St} (hs : p[j]? = some st) (h1 : st.op = 3) (hx : st.x = (x : Int)) : Tr p s i j i' j' ↔ i' = i ∧ j' = x ∧ i = 0:=by
 unfold Tr Eps
 rw [hs]
 constructor
 ·rintro (⟨h,st',h0,h2⟩ | ⟨h,st',b,h0,h2,_⟩)
  ·cases h0
   rcases h2 with ⟨h2,_⟩ | ⟨_,h2,h3⟩ | ⟨h2,_⟩
   ·omega
   ·exact ⟨h,by omega,by simpa using h2⟩
   ·omega
  ·cases h0;omega
 ·rintro ⟨h,h2,h3⟩
  exact .inl ⟨h,st,rfl,.inr (.inl ⟨h1,by simpa using h3,by omega⟩)⟩
theorem tr_last {p : List St} {s : List UInt8} {i j i' j' x : Nat} {st : St} (hs : p[j]? = some st) (h1 : st.op = 4) (hx : st.x = (x : Int)) : Tr p s i j i' j' ↔ i' = i ∧ j' = x ∧ i = s.length:=by
 unfold Tr Eps
 rw [hs]
 constructor
 ·rintro (⟨h,st',h0,h2⟩ | ⟨h,st',b,h0,h2,_⟩)
  ·cases h0
   rcases h2 with ⟨h2,_⟩ | ⟨h2,_⟩ | ⟨_,h2,h3⟩
   ·omega
   ·omega
   ·exact ⟨h,by omega,by simpa using h2⟩
  ·cases h0;omega
 ·rintro ⟨h,h2,h3⟩
  exact .inl ⟨h,st,rfl,.inr (.inr ⟨h1,by simpa using h3,by omega⟩)⟩
theorem tr_done {p : List St} {s : List UInt8} {i j i' j' : Nat} {st : St} (hs : p[j]? = some st) (h1 : st.op = 5) : ¬ Tr p s i j i' j':=by
 unfold Tr Eps
 rw [hs]
 rintro (⟨h,st',h0,h2⟩ | ⟨h,st',b,h0,h2,_⟩)
 ·cases h0;omega
 ·cases h0;omega
theorem star_cases {R : Nat → Nat → Prop} {i j : Nat} (h : Star R i j) : j = i ∨ ∃ k,R i k ∧ Star R k j:=by
 induction h with
 | refl => exact .inl rfl
 | tail h1 hr ih =>
   rcases ih with rfl | ⟨k,h2,h3⟩
   ·exact .inr ⟨_,hr,.refl _⟩
   ·exact .inr ⟨k,h2,.tail h3 hr⟩
theorem way_of_fits (p : List St) (s : List UInt8) (t : Rx) : ∀ (h : Nat),In p h (code t h) → ∀ i i',Fits s t i i' → ∃ n,Way p s n i h i' (h + sz t):=by
 have hstar : ∀ (a : Rx) (g : Nat) (E : Nat),(∀ i i',Fits s a i i' → ∃ n,Way p s n i g i' (g + sz a)) → (∀ i,Tr p s i (g + sz a) i g) → (∀ i,Tr p s i (g + sz a) i E) → ∀ i i1 i',Fits s a i i1 → Star (Fits s a) i1 i' → ∃ n,Way p s n i g i' (g + sz a):=by
  intro a g E iha hb he i i1 i' h1 h2
  obtain ⟨n,hn⟩:=iha _ _ h1
  clear h1
  induction h2 with
  | refl => exact ⟨n,hn⟩
  | tail _ hr ih =>
    obtain ⟨m,hm⟩:=ih
    obtain ⟨l,hl⟩:=iha _ _ hr
    exact ⟨m + (l + 1),hm.trans (.head (hb _) hl)⟩
 induction t with
 | byte c =>
   rintro h hin i i' ⟨rfl,b,hb,hh⟩
   exact ⟨1,.one ((tr_take hin.hd rfl rfl).2 ⟨rfl,rfl,b,hb,hh⟩)⟩
 | empty => intro h hin i i' hf;simp only [Fits] at hf;subst hf;exact ⟨0,.refl _ _⟩
 | bgn =>
   rintro h hin i i' ⟨rfl,h0⟩
   exact ⟨1,.one ((tr_first hin.hd rfl rfl).2 ⟨rfl,rfl,h0⟩)⟩
 | fin =>
   rintro h hin i i' ⟨rfl,h0⟩
   exact ⟨1,.one ((tr_last hin.hd rfl rfl).2 ⟨rfl,rfl,h0⟩)⟩
 | cat a b iha ihb =>
   rintro h hin i i' ⟨k,h1,h2⟩
   obtain ⟨n,hn⟩:=iha h hin.left _ _ h1
   obtain ⟨m,hm⟩:=ihb (h + sz a) (hin.right (by rw [code_len])) _ _ h2
   exact ⟨n + m,by simp only [sz,← Nat.add_assoc];exact hn.trans hm⟩
 | alt a b iha ihb =>
   rintro h hin i i' (hf | hf)
   ·obtain ⟨n,hn⟩:=iha (h + 1) hin.left.tl _ _ hf
    refine ⟨(n + 1) + 1,.head ((tr_fork hin.left.hd rfl rfl rfl).2 ⟨rfl,.inl rfl⟩) (hn.trans (.one ?_))⟩
    refine (tr_fork (hin.right (n:=h + 1 + sz a) (by simp [code_len];omega)).hd rfl rfl rfl).2 ⟨rfl,.inl (by simp only [sz];omega)⟩
   ·obtain ⟨n,hn⟩:=ihb (h + 1 + sz a + 1) (hin.right (n:=h + 1 + sz a) (by simp [code_len];omega)).tl _ _ hf
    refine ⟨n + 1,.head ((tr_fork hin.left.hd rfl rfl rfl).2 ⟨rfl,.inr rfl⟩) ?_⟩
    rw [show h + sz (.alt a b) = h + 1 + sz a + 1 + sz b by simp only [sz];omega]
    exact hn
 | star a iha =>
   intro h hin i i' hf
   have hfork:=(hin.right (n:=h + 1 + sz a) (by simp [code_len];omega)).hd
   have hE : h + sz (.star a) = h + 1 + sz a + 1:=by simp only [sz];omega
   rw [hE]
   rcases star_cases hf with rfl | ⟨k,h1,h2⟩
   ·exact ⟨1,.one ((tr_fork hin.left.hd rfl rfl rfl).2 ⟨rfl,.inr rfl⟩)⟩
   ·obtain ⟨n,hn⟩:=hstar a (h + 1) (h + 1 + sz a + 1) (iha (h + 1) hin.left.tl) (fun i => (tr_fork hfork rfl rfl rfl).2 ⟨rfl,.inl rfl⟩) (fun i => (tr_fork hfork rfl rfl rfl).2 ⟨rfl,.inr rfl⟩) _ _ _ h1 h2
    exact ⟨(n + 1) + 1,.head ((tr_fork hin.left.hd rfl rfl rfl).2 ⟨rfl,.inl rfl⟩) (hn.trans (.one ((tr_fork hfork rfl rfl rfl).2 ⟨rfl,.inr rfl⟩)))⟩
 | plus a iha =>
   rintro h hin i i' ⟨k,h1,h2⟩
   have hfork:=(hin.right (n:=h + sz a) (by simp [code_len])).hd
   have hE : h + sz (.plus a) = h + sz a + 1:=by simp only [sz];omega
   rw [hE]
   obtain ⟨n,hn⟩:=hstar a h (h + sz a + 1) (iha h hin.left) (fun i => (tr_fork hfork rfl rfl rfl).2 ⟨rfl,.inl rfl⟩) (fun i => (tr_fork hfork rfl rfl rfl).2 ⟨rfl,.inr rfl⟩) _ _ _ h1 h2
   exact ⟨n + 1,hn.trans (.one ((tr_fork hfork rfl rfl rfl).2 ⟨rfl,.inr rfl⟩))⟩
 | opt a iha =>
   intro h hin i i' hf
   have hE : h + sz (.opt a) = h + 1 + sz a:=by simp only [sz];omega
   rw [hE]
   rcases hf with rfl | hf
   ·exact ⟨1,.one ((tr_fork hin.hd rfl rfl rfl).2 ⟨rfl,.inr rfl⟩)⟩
   ·obtain ⟨n,hn⟩:=iha (h + 1) hin.tl _ _ hf
    exact ⟨n + 1,.head ((tr_fork hin.hd rfl rfl rfl).2 ⟨rfl,.inl rfl⟩) hn⟩
theorem Way.cut {p : List St} {s : List UInt8} {n i j i' j' : Nat} (h : Way p s n i j i' j') (hne : j' ≠ j) : ∃ m i1 j1,n = m + 1 ∧ Tr p s i j i1 j1 ∧ Way p s m i1 j1 i' j':=by
 cases h with
 | refl => exact absurd rfl hne
 | head h1 h2 => exact ⟨_,_,_,rfl,h1,h2⟩
theorem fits_of_way (p : List St) (s : List UInt8) (t : Rx) : ∀ (h : Nat),In p h (code t h) → ∀ n i i' k,Way p s n i h i' k → (k < h ∨ h + sz t ≤ k) → ∃ i1 m,m ≤ n ∧ Fits s t i i1 ∧ Way p s m i1 (h + sz t) i' k:=by
 have hloop : ∀ (a : Rx) (g : Nat),(∀ n i i' k,Way p s n i g i' k → (k < g ∨ g + sz a ≤ k) → ∃ i1 m,m ≤ n ∧ Fits s a i i1 ∧ Way p s m i1 (g + sz a) i' k) →
  (∀ i i' j',Tr p s i (g + sz a) i' j' ↔ i' = i ∧ (j' = g ∨ j' = g + sz a + 1)) → ∀ n i i' k,Way p s n i g i' k → (k < g ∨ g + sz a + 1 ≤ k) → ∃ i1 i2 m,m ≤ n ∧ Fits s a i i1 ∧ Star (Fits s a) i1 i2 ∧ Way p s m i2 (g + sz a + 1) i' k:=by
  intro a g iha hfork n
  induction n using Nat.strongRecOn with
  | _ n ih =>
    intro i i' k hw hk
    obtain ⟨i1,m,hm,hf,hw1⟩:=iha n i i' k hw (by omega)
    obtain ⟨m',i2,j2,rfl,htr,hw2⟩:=hw1.cut (by omega)
    obtain ⟨rfl,rfl | rfl⟩:=(hfork _ _ _).1 htr
    ·obtain ⟨i3,i4,m3,h1,h2,h3,h4⟩:=ih m' (by omega) _ _ _ hw2 hk
     exact ⟨i2,i4,m3,by omega,hf,Star.head h2 h3,h4⟩
    ·exact ⟨i2,i2,m',by omega,hf,.refl _,hw2⟩
 induction t with
 | byte c =>
   intro h hin n i i' k hw hk
   simp only [sz] at hk ⊢
   obtain ⟨m,i1,j1,rfl,htr,hw1⟩:=hw.cut (by omega)
   obtain ⟨rfl,rfl,b,hb,hh⟩:=(tr_take hin.hd rfl rfl).1 htr
   exact ⟨_,m,by omega,⟨rfl,b,hb,hh⟩,hw1⟩
 | empty => intro h hin n i i' k hw hk;exact ⟨i,n,Nat.le_refl _,rfl,hw⟩
 | bgn =>
   intro h hin n i i' k hw hk
   simp only [sz] at hk ⊢
   obtain ⟨m,i1,j1,rfl,htr,hw1⟩:=hw.cut (by omega)
   obtain ⟨rfl,rfl,h0⟩:=(tr_first hin.hd rfl rfl).1 htr
   exact ⟨_,m,by omega,⟨rfl,h0⟩,hw1⟩
 | fin =>
   intro h hin n i i' k hw hk
   simp only [sz] at hk ⊢
   obtain ⟨m,i1,j1,rfl,htr,hw1⟩:=hw.cut (by omega)
   obtain ⟨rfl,rfl,h0⟩:=(tr_last hin.hd rfl rfl).1 htr
   exact ⟨_,m,by omega,⟨rfl,h0⟩,hw1⟩
 | cat a b iha ihb =>
   intro h hin n i i' k hw hk
   simp only [sz] at hk ⊢
   obtain ⟨i1,m1,hm1,hf1,hw1⟩:=iha h hin.left n i i' k hw (by omega)
   obtain ⟨i2,m2,hm2,hf2,hw2⟩:=ihb (h + sz a) (hin.right (by rw [code_len])) m1 i1 i' k hw1 (by omega)
   exact ⟨i2,m2,by omega,⟨i1,hf1,hf2⟩,by rw [← Nat.add_assoc];exact hw2⟩
 | alt a b iha ihb =>
   intro h hin n i i' k hw hk
   have hE : h + sz (.alt a b) = h + 1 + sz a + 1 + sz b:=by simp only [sz];omega
   rw [hE] at hk ⊢
   obtain ⟨m,i1,j1,rfl,htr,hw1⟩:=hw.cut (by omega)
   have hjump:=(hin.right (n:=h + 1 + sz a) (by simp [code_len];omega))
   obtain ⟨rfl,rfl | rfl⟩:=(tr_fork hin.left.hd rfl rfl rfl).1 htr
   ·obtain ⟨i2,m2,hm2,hf2,hw2⟩:=iha (h + 1) hin.left.tl m _ i' k hw1 (by omega)
    obtain ⟨m3,i3,j3,rfl,htr3,hw3⟩:=hw2.cut (by omega)
    obtain ⟨rfl,hj⟩:=(tr_fork hjump.hd rfl rfl rfl).1 htr3
    obtain rfl : j3 = h + 1 + sz a + 1 + sz b:=by omega
    exact ⟨_,m3,by omega,.inl hf2,hw3⟩
   ·obtain ⟨i2,m2,hm2,hf2,hw2⟩:=ihb (h + 1 + sz a + 1) hjump.tl m _ i' k hw1 (by omega)
    exact ⟨i2,m2,by omega,.inr hf2,hw2⟩
 | star a iha =>
   intro h hin n i i' k hw hk
   have hE : h + sz (.star a) = h + 1 + sz a + 1:=by simp only [sz];omega
   rw [hE] at hk ⊢
   have hfork:=(hin.right (n:=h + 1 + sz a) (by simp [code_len];omega)).hd
   obtain ⟨m,i1,j1,rfl,htr,hw1⟩:=hw.cut (by omega)
   obtain ⟨rfl,rfl | rfl⟩:=(tr_fork hin.left.hd rfl rfl rfl).1 htr
   ·obtain ⟨i2,i3,m2,hm2,hf2,hf3,hw2⟩:=hloop a (h + 1) (iha (h + 1) hin.left.tl) (fun _ _ _ => tr_fork hfork rfl rfl rfl) m _ i' k hw1 (by omega)
    exact ⟨i3,m2,by omega,Star.head hf2 hf3,hw2⟩
   ·exact ⟨_,m,by omega,Star.refl _,hw1⟩
 | plus a iha =>
   intro h hin n i i' k hw hk
   have hE : h + sz (.plus a) = h + sz a + 1:=by simp only [sz];omega
   rw [hE] at hk ⊢
   have hfork:=(hin.right (n:=h + sz a) (by simp [code_len])).hd
   obtain ⟨i2,i3,m2,hm2,hf2,hf3,hw2⟩:=hloop a h (iha h hin.left) (fun _ _ _ => tr_fork hfork rfl rfl rfl) n _ i' k hw (by omega)
   exact ⟨i3,m2,by omega,⟨i2,hf2,hf3⟩,hw2⟩
 | opt a iha =>
   intro h hin n i i' k hw hk
   have hE : h + sz (.opt a) = h + 1 + sz a:=by simp only [sz];omega
   rw [hE] at hk ⊢
   obtain ⟨m,i1,j1,rfl,htr,hw1⟩:=hw.cut (by omega)
   obtain ⟨rfl,rfl | rfl⟩:=(tr_fork hin.hd rfl rfl rfl).1 htr
   ·obtain ⟨i2,m2,hm2,hf2,hw2⟩:=iha (h + 1) hin.tl m _ i' k hw1 (by omega)
    exact ⟨i2,m2,by omega,.inr hf2,hw2⟩
   ·exact ⟨_,m,by omega,.inl rfl,hw1⟩
theorem code_nodone (t : Rx) : ∀ h,∀ s ∈ code t h,s.op ≠ 5:=by
 induction t with
 | byte c => intro h s hs;obtain rfl:=List.mem_singleton.1 hs;simp
 | bgn => intro h s hs;obtain rfl:=List.mem_singleton.1 hs;simp
 | fin => intro h s hs;obtain rfl:=List.mem_singleton.1 hs;simp
 | empty => intro h s hs;cases hs
 | cat a b iha ihb =>
   intro h s hs
   rcases List.mem_append.1 hs with hs | hs
   ·exact iha _ s hs
   ·exact ihb _ s hs
 | alt a b iha ihb =>
   intro h s hs
   rcases List.mem_append.1 hs with hs | hs
   ·rcases List.mem_cons.1 hs with rfl | hs
    ·simp
    ·exact iha _ s hs
   ·rcases List.mem_cons.1 hs with rfl | hs
    ·simp
    ·exact ihb _ s hs
 | star a iha =>
   intro h s hs
   rcases List.mem_append.1 hs with hs | hs
   ·rcases List.mem_cons.1 hs with rfl | hs
    ·simp
    ·exact iha _ s hs
   ·obtain rfl:=List.mem_singleton.1 hs;simp
 | plus a iha =>
   intro h s hs
   rcases List.mem_append.1 hs with hs | hs
   ·exact iha _ s hs
   ·obtain rfl:=List.mem_singleton.1 hs;simp
 | opt a iha =>
   intro h s hs
   rcases List.mem_cons.1 hs with rfl | hs
   ·simp
   ·exact iha _ s hs
theorem ends_fits (t : Rx) (s : List UInt8) (f i : Nat) : EndsAt (progL t) s f i ↔ Fits s t f i:=by
 have hin : In (progL t) 0 (code t 0):=fun k st hk => by
  rw [Nat.zero_add]
  unfold progL
  rw [List.getElem?_append_left (List.getElem?_eq_some_iff.1 hk).1]
  exact hk
 have hlast : (progL t)[0 + sz t]? = some doneS:=by
  unfold progL
  rw [List.getElem?_append_right (by rw [code_len];omega)]
  simp [code_len]
 rw [ends_way]
 constructor
 ·rintro ⟨n,k,hw,st,hst,h5⟩
  have hk : sz t ≤ k:=by
   refine Classical.byContradiction fun hlt => ?_
   unfold progL at hst
   rw [List.getElem?_append_left (by rw [code_len];omega)] at hst
   exact code_nodone t 0 st (List.mem_of_getElem? hst) h5
  obtain ⟨i1,m,_,hf,hw1⟩:=fits_of_way _ s t 0 hin n f i k hw (by omega)
  cases hw1 with
  | refl => exact hf
  | head htr _ => exact absurd htr (tr_done hlast rfl)
 ·intro hf
  obtain ⟨n,hn⟩:=way_of_fits _ s t 0 hin f i hf
  exact ⟨n,_,hn,doneS,hlast,rfl⟩
end Wf
