import Derived.Test.YthhcpbfgoofppaaGreatDoorGPl
set_option linter.unusedVariables false
set_option linter.unusedSimpArgs false
open Wf
namespace Wf
inductive PR (α:Type) where
 | ok (a:α) (j:Nat)
 | bad (k:Nat)
def A1M(c:U_):Option Nat:=if 48<=c.toNat/\c.toNat<=57 then some (c.toNat - 48) else if 97<=c.toNat/\c.toNat<=102 then some (c.toNat - 87) else none
def A0P(s:List U_)(i:Nat):PR Nat :=
 match s[i+2]? with
 | none=>.bad s.length
 | some h=>match A1M h with
   | none=>.bad i
   | some a=>match s[i+3]? with
     | none=>.bad s.length
     | some l=>match A1M l with
       | none=>.bad i
       | some b=>.ok (a*16+b) (i+4)
def D4(s:List U_)(i:Nat):PR Nat :=
 match s[i]? with
 | none=>.bad s.length
 | some c =>
   if c=92 then
    match s[i+1]? with
    | none=>.bad s.length
    | some d=>if d=120 then A0P s i else if d∈X0 then .ok d.toNat (i+2) else .bad i
   else if c.toNat<32\/126<c.toNat\/c∈X0 then .bad i else .ok c.toNat (i+1)
def W5(s:List U_)(i:Nat):PR (Nat×Nat) :=
 match D4 s i with
 | .bad k=>.bad k
 | .ok lo j =>
   if s[j]?=some 45 then
    match D4 s (j+1) with
    | .bad k=>.bad k
    | .ok hi j'=>if hi<lo then .bad i else .ok (lo,hi) j'
   else .ok (lo,lo) j
def V9(a b:Nat):X4:=A1B (λx=>decide (a<=x)) (b+1)
def J3(s:List U_)(i:Nat)(c:X4):PR X4 :=
 if s[i]?=some 93 then .ok c (i+1)
 else match W5 s i with
  | .bad k=>.bad k
  | .ok p j=>if i<j/\i<s.length then J3 s j (M9 c (V9 p.1 p.2)) else .bad 0
termination_by s.length - i
def P2(s:List U_)(i:Nat):PR X4 :=
 if s[i]?=some 94 then
  match J3 s (i+1) zc with
  | .bad k=>.bad k
  | .ok c j=>.ok (p8 c) j
 else J3 s i zc
def R0(s:List U_)(j:Nat)(t:Rx):Rx×Nat :=
 if h:j<s.length then
  if s[j]=42 then R0 s (j+1) (.star t)
  else if s[j]=43 then R0 s (j+1) (.plus t)
  else if s[j]=63 then R0 s (j+1) (.opt t)
  else (t,j)
 else (t,j)
termination_by s.length - j
def O3(s:List U_)(j:Nat):Bool :=
 match s[j]? with
 | none=>true
 | some c=>c==124 || c==41
mutual
def P3(s:List U_)(i:Nat):PR Rx :=
 if hi:i<s.length then
  if s[i]=40 then
   match W9 s (i+1) with
   | .bad k=>.bad k
   | .ok t j=>if s[j]?=some 41 then .ok t (j+1) else .bad j
  else if s[i]=91 then
   match P2 s (i+1) with
   | .bad k=>.bad k
   | .ok c j=>.ok (.byte c) j
  else if s[i]=46 then .ok (.byte A2r) (i+1)
  else if s[i]=94 then .ok .bgn (i+1)
  else if s[i]=36 then .ok .fin (i+1)
  else match D4 s i with
   | .bad k=>.bad k
   | .ok b j=>.ok (.byte (o2 zc b)) j
 else .bad s.length
termination_by (s.length+1 - i,0)
def V6(s:List U_)(i:Nat):PR Rx :=
 if O3 s i=true then .ok .empty i
 else match P3 s i with
  | .bad k=>.bad k
  | .ok t j =>
    if O3 s (R0 s j t).2=true then .ok (R0 s j t).1 (R0 s j t).2
    else if i<(R0 s j t).2/\i<=s.length then
     match V6 s (R0 s j t).2 with
     | .bad k=>.bad k
     | .ok u k=>.ok (.cat (R0 s j t).1 u) k
    else .bad 0
termination_by (s.length+1 - i,1)
def W9(s:List U_)(i:Nat):PR Rx :=
 match V6 s i with
 | .bad k=>.bad k
 | .ok t j =>
   if s[j]?=some 124 then
    if i<=j/\i<=s.length then
     match W9 s (j+1) with
     | .bad k=>.bad k
     | .ok u k=>.ok (.alt t u) k
    else .bad 0
   else .ok t j
termination_by (s.length+1 - i,2)
end
theorem A0x{c:U_}{a:Nat}(h:A1M c=some a):a<16:=by
 unfold A1M at h
 split at h
 .cases h;omega
 .split at h
  .cases h;omega
  .cases h
theorem V0{s:List U_}{i:Nat}{c:U_}(h:s[i]?=some c):i<s.length:=(List.getElem?_eq_some_iff.1 h).1
theorem B1p{s:List U_}{i b j:Nat}(h:A0P s i=.ok b j):i<j/\j<=s.length/\b<256:=by
 unfold A0P at h
 split at h
 .cases h
 .rename_i k l
  split at h
  .cases h
  .rename_i a d
   split at h
   .cases h
   .rename_i g f
    split at h
    .cases h
    .rename_i m c
     cases h;have:=V0 f;have:=A0x d;have:=A0x c;omega
theorem T8{s:List U_}{i b j:Nat}(h:D4 s i=.ok b j):i<j/\j<=s.length/\b<256:=by
 unfold D4 at h
 split at h
 .cases h
 .rename_i c f
  split at h
  .split at h
   .cases h
   .rename_i d a
    split at h
    .exact B1p h
    .split at h
     .cases h
      have:=V0 a;have:=d.toNat_lt;omega
     .cases h
  .split at h
   .cases h
   .cases h
    have:=V0 f;have:=c.toNat_lt;omega
theorem A0A{s:List U_}{i j:Nat}{p:Nat×Nat}(h:W5 s i=.ok p j):i<j/\j<=s.length/\p.1<=p.2/\p.2<256:=by
 unfold W5 at h
 split at h
 .cases h
 .rename_i c f b
  have l:=T8 b
  split at h
  .split at h
   .cases h
   .rename_i g d a
    have k:=T8 a
    split at h
    .cases h
    .cases h;simp;omega
  .cases h;simp;omega
theorem A17(a b:Nat):P5 (V9 a b):=A7Q _ _
theorem B5I{b a x:Nat}(h:a<256)(c:x<256):has (V9 b a) x=decide (b<=x/\x<=a):=by
 unfold V9;rw[B1q _ _ (by omega) x c,Bool.eq_iff_iff];simp;omega
theorem j9{s:List U_}{i:Nat}(c:X4)(h:s[i]?=some 93):J3 s i c=.ok c (i+1):=by rw[J3,if_pos h]
theorem q8{s:List U_}{i k:Nat}(c:X4)(h:s[i]?≠some 93)(a:W5 s i=.bad k):J3 s i c=.bad k:=by rw[J3,if_neg h,a]
theorem s9{s:List U_}{i j:Nat}{p:Nat×Nat}(c:X4)(h:s[i]?≠some 93)(a:W5 s i=.ok p j):J3 s i c=J3 s j (M9 c (V9 p.1 p.2)):=by
 have:=A0A a;rw[J3,if_neg h,a];simp only;rw[if_pos (by omega)]
theorem A6q{s:List U_}:∀(n i:Nat)(c a:X4) (j:Nat),s.length - i<=n->P5 c->J3 s i c=.ok a j->i<j/\j<=s.length/\P5 a:=by
 intro n
 induction n with
 | zero =>
   intro i c a j d b h;by_cases h1:s[i]?=some 93
   .have:=V0 h1;omega
   .cases hi:W5 s i with
    | bad k=>rw[q8 c h1 hi] at h;cases h
    | ok p j1=>have:=A0A hi;omega
 | succ n ih =>
   intro i c a j d b h;by_cases h1:s[i]?=some 93
   .rw[j9 c h1] at h
    cases h;have:=V0 h1;exact⟨by omega,by omega,b⟩
   .cases hi:W5 s i with
    | bad k=>rw[q8 c h1 hi] at h;cases h
    | ok p j1 =>
      rw[s9 c h1 hi] at h;have:=A0A hi;obtain⟨l,g,f⟩:=ih j1 _ a j (by omega) (A1e b (A17 _ _)) h;exact⟨by omega,g,f⟩
theorem A9M{s:List U_}{i j:Nat}{c:X4}(h:P2 s i=.ok c j):i<j/\j<=s.length/\P5 c:=by
 unfold P2 at h
 split at h
 .split at h
  .cases h
  .rename_i f b e
   cases h;obtain⟨d,a,_⟩:=A6q _ _ _ _ _ (lr_ _) N6 e;exact⟨by omega,a,A0O _⟩
 .exact A6q _ _ _ _ _ (lr_ _) N6 h
def okT(t:Rx):Prop:=∀n∈A0 t,P5 n.cls
theorem A0Z{s:List U_}{j:Nat}(t:Rx)(h:∀c,s[j]?=some c->c≠42/\c≠43/\c≠63):R0 s j t=(t,j):=by
 rw[R0]
 split
 .rename_i a
  obtain⟨f,d,b⟩:=h _ (List.getElem?_eq_getElem a);rw[if_neg f,if_neg d,if_neg b]
 .rfl
theorem A11{s:List U_}{j:Nat}(t:Rx)(h:s[j]?=some 42):R0 s j t=R0 s (j+1) (.star t):=by
 obtain⟨a,e⟩:=List.getElem?_eq_some_iff.1 h;rw[R0,dif_pos a,if_pos e]
theorem A12{s:List U_}{j:Nat}(t:Rx)(h:s[j]?=some 43):R0 s j t=R0 s (j+1) (.plus t):=by
 obtain⟨a,e⟩:=List.getElem?_eq_some_iff.1 h;rw[R0,dif_pos a,if_neg (by rw[e];decide),if_pos e]
theorem A24{s:List U_}{j:Nat}(t:Rx)(h:s[j]?=some 63):R0 s j t=R0 s (j+1) (.opt t):=by
 obtain⟨a,e⟩:=List.getElem?_eq_some_iff.1 h;rw[R0,dif_pos a,if_neg (by rw[e];decide),if_neg (by rw[e];decide),if_pos e]
theorem Z9{s:List U_}:∀(n j:Nat)(t:Rx),s.length - j<=n->j<=s.length->okT t->j<=(R0 s j t).2/\(R0 s j t).2<=s.length/\okT (R0 s j t).1/\(A0 (R0 s j t).1).length+j=(A0 t).length+(R0 s j t).2 /\
 ∀c,s[(R0 s j t).2]?=some c->c≠42/\c≠43/\c≠63:=by
 have l:∀(u t:Rx)(op:Int),A0 u=⟨op,zc⟩::A0 t->okT t->okT u:=by
  intro u t op e h n d;rw[e] at d;rcases List.mem_cons.1 d with rfl|d
  .exact N6
  .exact h n d
 intro n
 induction n with
 | zero =>
   intro j t d m b;have a:∀c,s[j]?=some c->c≠42/\c≠43/\c≠63:=λc h=>by have:=V0 h;omega
   rw[A0Z t a];exact⟨lr_ _,m,b,rfl,a⟩
 | succ n ih =>
   intro j t d m b;by_cases h1:s[j]?=some 42
   .have:=V0 h1
    rw[A11 t h1];obtain⟨o,k,i,g,f⟩:=ih (j+1) (.star t) (by omega) (by omega) (l _ t 5 rfl b);exact⟨by omega,k,i,by simp[A0] at g ⊢;omega,f⟩
   .by_cases h2:s[j]?=some 43
    .have:=V0 h2
     rw[A12 t h2];obtain⟨o,k,i,g,f⟩:=ih (j+1) (.plus t) (by omega) (by omega) (l _ t 6 rfl b);exact⟨by omega,k,i,by simp[A0] at g ⊢;omega,f⟩
    .by_cases h3:s[j]?=some 63
     .have:=V0 h3
      rw[A24 t h3];obtain⟨o,k,i,g,f⟩:=ih (j+1) (.opt t) (by omega) (by omega) (l _ t 7 rfl b);exact⟨by omega,k,i,by simp[A0] at g ⊢;omega,f⟩
     .have a:∀c,s[j]?=some c->c≠42/\c≠43/\c≠63:=λc h=>⟨λe=>h1 (by rw[h,e]),λe=>h2 (by rw[h,e]),λe=>h3 (by rw[h,e])⟩
      rw[A0Z t a];exact⟨lr_ _,m,b,rfl,a⟩
theorem A45{s:List U_}{i:Nat}(h:O3 s i=false):i<s.length:=by
 unfold O3 at h
 split at h
 .cases h
 .rename_i c e;exact V0 e
theorem M6{s:List U_}:∀(n i:Nat),s.length - i<=n->i<=s.length ->
 (∀t j,P3 s i=.ok t j->i<j/\j<=s.length/\okT t/\(A0 t).length+1+2*i<=2*j) /\
 (∀t j,V6 s i=.ok t j->i<=j/\j<=s.length/\okT t/\(A0 t).length+2*i<=2*j+1/\O3 s j=true) /\
 (∀t j,W9 s i=.ok t j->i<=j/\j<=s.length/\okT t/\(A0 t).length+2*i<=2*j+1/\O3 s j=true/\s[j]?≠some 124):=by
 have F:∀(u t z:Rx)(op:Int),A0 u=⟨op,zc⟩::(A0 t++A0 z)->okT t->okT z->okT u:=by
  intro u t z op e h P n d;rw[e] at d;rcases List.mem_cons.1 d with rfl|d
  .exact N6
  .rcases List.mem_append.1 d with d|d
   .exact h n d
   .exact P n d
 have f:∀(u:Rx)(n:Nd),A0 u=[n]->P5 n.cls->okT u:=by
  intro u n e h m G;rw[e] at G;obtain rfl:m=n:=by simpa using G
  exact h
 intro n
 induction n with
 | zero =>
   intro i d H;obtain rfl:i=s.length:=by omega
   have o:∀t j,P3 s s.length=.ok t j->False:=by
    intro t j h;rw[P3,dif_neg (by omega)] at h;cases h
   have a:O3 s s.length=true:=by unfold O3;simp
   have l:V6 s s.length=.ok .empty s.length:=by rw[V6,if_pos a]
   have O:W9 s s.length=.ok .empty s.length:=by rw[W9,l];simp
   refine⟨λt j h=>(o t j h).elim,λt j h=>?_,λt j h=>?_⟩
   .rw[l] at h;cases h;exact⟨lr_ _,lr_ _,f _ _ rfl N6,by simp[A0];omega,a⟩
   .rw[O] at h;cases h;exact⟨lr_ _,lr_ _,f _ _ rfl N6,by simp[A0];omega,a,by simp⟩
 | succ n ih =>
   intro i d H
   have o:∀t j,P3 s i=.ok t j->i<j/\j<=s.length/\okT t/\(A0 t).length+1+2*i<=2*j:=by
    intro t j h;rw[P3] at h
    split at h
    .rename_i hlt
     split at h
     .split at h
      .cases h
      .rename_i u k e
       obtain⟨A,r,p,X,_⟩:=(ih (i+1) (by omega) (by omega)).2.2 _ _ e
       split at h
       .rename_i g
        cases h;have:=V0 g;exact⟨by omega,by omega,p,by omega⟩
       .cases h
     .split at h
      .split at h
       .cases h
       .rename_i c k e
        cases h;obtain⟨A,r,p⟩:=A9M e;exact⟨by omega,r,f _ _ rfl p,by simp[A0];omega⟩
      .split at h
       .cases h;exact⟨by omega,by omega,f _ _ rfl (A0O _),by simp[A0];omega⟩
       .split at h
        .cases h;exact⟨by omega,by omega,f _ _ rfl N6,by simp[A0];omega⟩
        .split at h
         .cases h;exact⟨by omega,by omega,f _ _ rfl N6,by simp[A0];omega⟩
         .split at h
          .cases h
          .rename_i b k e
           cases h;obtain⟨A,r,p⟩:=T8 e;exact⟨A,r,f _ _ rfl (A8 N6 b),by simp[A0];omega⟩
    .cases h
   have l:∀t j,V6 s i=.ok t j->i<=j/\j<=s.length/\okT t/\(A0 t).length+2*i<=2*j+1/\O3 s j=true:=by
    intro t j h;rw[V6] at h
    split at h
    .rename_i a;cases h;exact⟨lr_ _,H,f _ _ rfl N6,by simp[A0];omega,a⟩
    .split at h
     .cases h
     .rename_i u k e
      obtain⟨N,E,y,M⟩:=o _ _ e;obtain⟨Z,L,J,Y,_⟩:=Z9 _ k u (lr_ _) E y;generalize hq:R0 s k u=q at *
      split at h
      .rename_i a
       cases h;exact⟨by omega,L,J,by omega,a⟩
      .split at h
       .split at h
        .cases h
        .rename_i v m g
         cases h;obtain⟨T,D,C,S,B⟩:=(ih q.2 (by omega) L).2.1 _ _ g;exact⟨by omega,D,F _ _ _ 3 rfl J C,by simp[A0];omega,B⟩
       .cases h
   refine⟨o,l,λt j h=>?_⟩;rw[W9] at h
   split at h
   .cases h
   .rename_i u k e
    obtain⟨N,E,y,M,V⟩:=l _ _ e
    split at h
    .rename_i g
     have:=V0 g
     split at h
     .split at h
      .cases h
      .rename_i v m Q
       cases h;obtain⟨T,D,C,S,B,R⟩:=(ih (k+1) (by omega) (by omega)).2.2 _ _ Q;exact⟨by omega,D,F _ _ _ 4 rfl y C,by simp[A0];omega,B,R⟩
     .cases h
    .rename_i g
     cases h;exact⟨N,E,y,M,V,g⟩
theorem A9H{s:List U_}{i:Nat}(h:O3 s i=true):V6 s i=.ok .empty i:=by rw[V6,if_pos h]
theorem B5o{s:List U_}{i k:Nat}(h:O3 s i=false)(a:P3 s i=.bad k):V6 s i=.bad k:=by
 rw[V6,if_neg (by rw[h];simp),a]
theorem B5n{s:List U_}{i j:Nat}{t:Rx}(h:O3 s i=false)(b:P3 s i=.ok t j)(a:O3 s (R0 s j t).2=true):V6 s i=.ok (R0 s j t).1 (R0 s j t).2:=by
 rw[V6,if_neg (by rw[h];simp),b];simp only;rw[if_pos a]
theorem B3c{s:List U_}{i j:Nat}{t:Rx}(h:O3 s i=false)(a:P3 s i=.ok t j)(b:O3 s (R0 s j t).2=false):V6 s i=match V6 s (R0 s j t).2 with
 | .bad k=>.bad k
 | .ok u k=>.ok (.cat (R0 s j t).1 u) k:=by
 have g:=A45 h;obtain⟨l,d,c,_⟩:=(M6 _ i (lr_ _) (by omega)).1 _ _ a;obtain⟨f,_⟩:=Z9 _ j t (lr_ _) d c;rw[V6,if_neg (by rw[h];simp),a];simp only;rw[if_neg (by rw[b];simp),if_pos (by omega)]
 all_goals cases V6 s (R0 s j t).2 <;> rfl
theorem B1c{s:List U_}{i k:Nat}(a:V6 s i=.bad k):W9 s i=.bad k:=by rw[W9,a]
theorem B1b{s:List U_}{i j:Nat}{t:Rx}(a:V6 s i=.ok t j)(h:s[j]?≠some 124):W9 s i=.ok t j:=by
 rw[W9,a];simp only;rw[if_neg h]
theorem B4g{s:List U_}{i j:Nat}{t:Rx}(a:i<=s.length)(b:V6 s i=.ok t j)(h:s[j]?=some 124):W9 s i=match W9 s (j+1) with
 | .bad k=>.bad k
 | .ok u k=>.ok (.alt t u) k:=by
 obtain⟨c,_⟩:=(M6 _ i (lr_ _) a).2.1 _ _ b;rw[W9,b];simp only;rw[if_pos h,if_pos ⟨c,a⟩]
 all_goals cases W9 s (j+1) <;> rfl
def T7(a:Nat)(b:Bool):Rx->Bool
 | .empty=>a !=4
 | .alt _ _=>a !=4 || !b
 | .cat _ _=>a !=4&&(a !=3 || !b)
 | _=>false
def C1(b:Bool)(x:List U_):List U_:=if b then 40::(x++[41]) else x
def F0:Rx->List U_
 | .byte c=>F6 c
 | .empty=>[]
 | .cat a b=>C1 (T7 3 false a) (F0 a)++C1 (T7 3 true b) (F0 b)
 | .alt a b=>C1 (T7 4 false a) (F0 a)++124::C1 (T7 4 true b) (F0 b)
 | .star a=>C1 (T7 5 false a) (F0 a)++[42]
 | .plus a=>C1 (T7 6 false a) (F0 a)++[43]
 | .opt a=>C1 (T7 7 false a) (F0 a)++[63]
 | .bgn=>[94]
 | .fin=>[36]
theorem A6b:∀b:Fin 256,¬(b.val<32\/126<b.val)->(UInt8.ofNat b.val).toNat=b.val/\(UInt8.ofNat b.val∈X0->UInt8.ofNat b.val≠120)/\(UInt8.ofNat b.val∉X0->UInt8.ofNat b.val≠92):=by decide +kernel
theorem A9L(b:Nat)(a:b<256):∃x t,C4 b=x::t/\x≠45/\x≠93/\x≠46/\x≠91/\x≠40/\x≠94/\x≠36/\x≠124/\x≠41/\x≠42/\x≠43/\x≠63:=by
 have h:∀b:Fin 256,(match C4 b.val with | []=>false | x::_=>decide (x≠45/\x≠93/\x≠46/\x≠91/\x≠40/\x≠94/\x≠36/\x≠124/\x≠41/\x≠42/\x≠43/\x≠63))=true:=by decide +kernel
 have:=h ⟨b,a⟩;simp only at this
 split at this
 .cases this
 .rename_i x t e;exact⟨x,t,e,of_decide_eq_true this⟩
theorem A79{c:X4}:∃x t,F6 c=x::t/\x≠124/\x≠41/\x≠42/\x≠43/\x≠63:=by
 unfold F6
 split
 .rename_i b
  obtain⟨a,_⟩:=F8 b;obtain⟨x,t,e,_,_,_,_,_,_,_,h⟩:=A9L _ a;exact⟨x,t,e,h⟩
 .split
  .exact⟨_,_,rfl,by decide⟩
  .exact⟨_,_,rfl,by decide⟩
attribute [local irreducible] F6
