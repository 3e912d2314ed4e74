import Derived.Test.YthhcpbfgoofppaaGreatDoorGPy
import Derived.Test.YthhcpbfgoofppaaGreatDoorGRw
set_option linter.unusedVariables false
set_option linter.unusedSimpArgs false
open Wf
set_option maxRecDepth 100000
set_option maxHeartbeats 8000000
open Go.Lib (hid)
open Go.Proofs.Tryz hiding parts
namespace Wf
def A65:List Rx->Rx
 | []=>.empty
 | [t]=>t
 | t::u::r=>.cat t (A65 (u::r))
def A9W:List Rx->Rx
 | []=>.empty
 | [t]=>t
 | t::u::r=>.alt t (A9W (u::r))
def PR.pre{α:Type}(a:List α):PR (List α)->PR (List α)
 | .bad k=>.bad k
 | .ok l k=>.ok (a++l) k
def PR.to{α β:Type}(f:α->β):PR α->PR β
 | .bad k=>.bad k
 | .ok l k=>.ok (f l) k
theorem PR.pre_nil{α:Type}(r:PR (List α)):r.pre []=r:=by cases r <;> simp[PR.pre]
theorem PR.pre_pre{α:Type}(a b:List α)(r:PR (List α)):(r.pre b).pre a=r.pre (a++b):=by cases r <;> simp[PR.pre]
def X8(s:List U_)(i:Nat):PR (List Rx) :=
 if O3 s i=true then .ok [] i
 else match P3 s i with
  | .bad k=>.bad k
  | .ok t j=>if i<(R0 s j t).2/\i<=s.length then (X8 s (R0 s j t).2).pre [(R0 s j t).1] else .bad 0
termination_by s.length+1 - i
def M8(s:List U_)(i:Nat):PR (List Rx) :=
 match V6 s i with
 | .bad k=>.bad k
 | .ok t j=>if s[j]?=some 124 then (if i<=j/\i<=s.length then (M8 s (j+1)).pre [t] else .bad 0) else .ok [t] j
termination_by s.length+1 - i
theorem A01{s:List U_}{i:Nat}(h:O3 s i=true):X8 s i=.ok [] i:=by rw[X8,if_pos h]
theorem A3C{s:List U_}{i k:Nat}(h:O3 s i=false)(a:P3 s i=.bad k):X8 s i=.bad k:=by rw[X8,if_neg (by simp[h]),a]
theorem A2G{s:List U_}{i j:Nat}{t:Rx}(h:O3 s i=false)(a:P3 s i=.ok t j):X8 s i=(X8 s (R0 s j t).2).pre [(R0 s j t).1]:=by
 have f:=A45 h;obtain⟨g,c,b,_⟩:=(M6 _ i (lr_ _) (by omega)).1 _ _ a;obtain⟨d,_⟩:=Z9 _ j t (lr_ _) c b;rw[X8,if_neg (by simp[h]),a];dsimp only;rw[if_pos (by omega)]
theorem A1Z{s:List U_}{i k:Nat}(h:V6 s i=.bad k):M8 s i=.bad k:=by rw[M8,h]
theorem A1Y{s:List U_}{i j:Nat}{t:Rx}(h:V6 s i=.ok t j)(a:s[j]?≠some 124):M8 s i=.ok [t] j:=by
 rw[M8,h];dsimp only;rw[if_neg a]
theorem A13{s:List U_}{i j:Nat}{t:Rx}(a:i<=s.length)(h:V6 s i=.ok t j)(b:s[j]?=some 124):M8 s i=(M8 s (j+1)).pre [t]:=by
 obtain⟨c,_⟩:=(M6 _ i (lr_ _) a).2.1 _ _ h;rw[M8,h];dsimp only;rw[if_pos b,if_pos ⟨c,a⟩]
theorem B3f{s:List U_}{i j:Nat}{l:List Rx}(h:O3 s i=false)(a:X8 s i=.ok l j):l≠[]:=by
 cases hA:P3 s i with
 | bad k=>rw[A3C h hA] at a;cases a
 | ok t k =>
   rw[A2G h hA] at a;cases hB:X8 s (R0 s k t).2 with
   | bad m=>rw[hB] at a;cases a
   | ok l' m=>rw[hB] at a;cases a;simp
theorem B0v{s:List U_}:∀(n i:Nat),s.length - i<=n->i<=s.length->V6 s i=(X8 s i).to A65:=by
 intro n
 induction n with
 | zero =>
   intro i f c
   have a:O3 s i=true:=by
    cases h:O3 s i with
    | true=>rfl
    | false=>have:=A45 h;omega
   rw[A9H a,A01 a];rfl
 | succ n ih =>
   intro i f c;cases h:O3 s i with
   | true=>rw[A9H h,A01 h];rfl
   | false =>
     cases hA:P3 s i with
     | bad k=>rw[B5o h hA,A3C h hA];rfl
     | ok t j =>
       obtain⟨q,o,g,_⟩:=(M6 _ i (lr_ _) c).1 _ _ hA;obtain⟨p,d,_⟩:=Z9 _ j t (lr_ _) o g;rw[A2G h hA];cases h2:O3 s (R0 s j t).2 with
       | true =>
         rw[B5n h hA h2,A01 h2]
         rfl
       | false =>
         rw[B3c h hA h2,ih _ (by omega) d];cases hB:X8 s (R0 s j t).2 with
         | bad m=>rfl
         | ok l m =>
           have b:=B3f h2 hB;cases l with
           | nil=>exact absurd rfl b
           | cons u r=>rfl
theorem B2X{s:List U_}{i j:Nat}{l:List Rx}(a:i<=s.length)(h:M8 s i=.ok l j):l≠[]:=by
 cases hC:V6 s i with
 | bad k=>rw[A1Z hC] at h;cases h
 | ok t k =>
   by_cases hk:s[k]?=some 124
   .rw[A13 a hC hk] at h
    cases hB:M8 s (k+1) with
    | bad m=>rw[hB] at h;cases h
    | ok l' m=>rw[hB] at h;cases h;simp
   .rw[A1Y hC hk] at h;cases h;simp
theorem B2n{s:List U_}:∀(n i:Nat),s.length - i<=n->i<=s.length->W9 s i=(M8 s i).to A9W:=by
 intro n
 induction n with
 | zero =>
   intro i d b;cases hC:V6 s i with
   | bad k=>rw[B1c hC,A1Z hC];rfl
   | ok t j =>
     obtain⟨f,_⟩:=(M6 _ i (lr_ _) b).2.1 _ _ hC;have a:s[j]?≠some 124:=λh=>by have:=V0 h;omega
     rw[B1b hC a,A1Y hC a];rfl
 | succ n ih =>
   intro i d b;cases hC:V6 s i with
   | bad k=>rw[B1c hC,A1Z hC];rfl
   | ok t j =>
     obtain⟨f,_⟩:=(M6 _ i (lr_ _) b).2.1 _ _ hC;by_cases a:s[j]?=some 124
     .have:=V0 a
      rw[B4g b hC a,A13 b hC a,ih (j+1) (by omega) (by omega)];cases hB:M8 s (j+1) with
      | bad m=>rfl
      | ok l m =>
        have c:=B2X (by omega) hB;cases l with
        | nil=>exact absurd rfl c
        | cons u r=>rfl
     .rw[B1b hC a,A1Y hC a];rfl
theorem B1d(s:List U_)(i:Nat)(a:i<=s.length):W9 s i=(M8 s i).to A9W:=B2n _ i (lr_ _) a
theorem A9I(s:List U_)(i:Nat)(a:i<=s.length):V6 s i=(X8 s i).to A65:=B0v _ i (lr_ _) a
def L7(op:Int)(e:List Nd):List (List Nd)->List Nd
 | []=>e
 | [x]=>x
 | x::y::r=>⟨op,zc⟩::(x++L7 op e (y::r))
def Z7:List (List Nd)->Nat
 | []=>0
 | x::r=>x.length+1+Z7 r
theorem A42(a b:List (List Nd)):Z7 (a++b)=Z7 a+Z7 b:=by
 induction a with
 | nil=>simp[Z7]
 | cons x r ih=>simp[Z7,ih];omega
theorem A6T(l:List (List Nd))(k:Nat):Z7 (l.drop k)<=Z7 l:=by
 induction l generalizing k with
 | nil=>simp[Z7]
 | cons x r ih =>
   cases k with
   | zero=>exact lr_ _
   | succ k=>have:=ih k;simp only[List.drop_succ_cons,Z7];omega
theorem A3L(l:List (List Nd)):l.length<=Z7 l:=by
 induction l with
 | nil=>simp
 | cons x r ih=>simp only[List.length_cons,Z7];omega
theorem A8D(l:List (List Nd)):∀(k:Nat)(x:List Nd),l[k]?=some x->x.length+1<=Z7 l:=by
 induction l with
 | nil=>intro k x h;simp at h
 | cons y r ih =>
   intro k x h;cases k with
   | zero=>simp at h;subst h;simp only[Z7];omega
   | succ k=>have:=ih k x (by simpa using h);simp only[Z7];omega
theorem A38(op:Int)(e:List Nd):∀l:List (List Nd),(L7 op e l).length<=e.length+Z7 l
 | []=>by simp[L7]
 | [x]=>by simp[L7,Z7];omega
 | x::y::r=>by
   have:=A38 op e (y::r);simp only[L7,Z7,List.length_cons,List.length_append] at this ⊢;omega
theorem A5T(op:Int)(e:List Nd):∀l:List (List Nd),l≠[]->(L7 op e l).length+1<=Z7 l
 | [],h=>absurd rfl h
 | [x],_=>by simp[L7,Z7]
 | x::y::r,_=>by
   have:=A5T op e (y::r) (by simp);simp only[L7,Z7,List.length_cons,List.length_append] at this ⊢;omega
theorem A6o(op:Int)(e:List Nd)(l:List (List Nd))(h:∀x∈l,0<x.length)(a:l=[]->0<e.length):0<(L7 op e l).length:=by
 cases l with
 | nil=>exact a rfl
 | cons x r =>
   cases r with
   | nil=>exact h x (by simp)
   | cons y r=>simp only[L7,List.length_cons];omega
theorem A5U(op:Int)(e:List Nd){l:List (List Nd)}{k:Nat}{x:List Nd}(h:l[k]?=some x)(b:k+1=l.length):L7 op e (l.drop k)=x:=by
 obtain⟨hlt,a⟩:=List.getElem?_eq_some_iff.1 h;rw[List.drop_eq_getElem_cons hlt,a,b,List.drop_length]
 rfl
theorem A5S(op:Int)(e:List Nd){l:List (List Nd)}{k:Nat}{x:List Nd}(h:l[k]?=some x)(b:k+1<l.length):L7 op e (l.drop k)=⟨op,zc⟩::(x++L7 op e (l.drop (k+1))):=by
 obtain⟨hlt,a⟩:=List.getElem?_eq_some_iff.1 h;rw[List.drop_eq_getElem_cons hlt,a,List.drop_eq_getElem_cons b]
 rfl
theorem A39:∀a:List Rx,L7 3 [⟨2,zc⟩] (a.map A0)=A0 (A65 a)
 | []=>rfl
 | [t]=>rfl
 | t::u::r=>by
   have:=A39 (u::r);simp only[List.map_cons] at this ⊢;rw[L7,this]
   rfl
theorem A6p:∀a:List Rx,a≠[]->L7 4 [] (a.map A0)=A0 (A9W a)
 | [],h=>absurd rfl h
 | [t],_=>rfl
 | t::u::r,_=>by
   have:=A6p (u::r) (by simp);simp only[List.map_cons] at this ⊢;rw[L7,this]
   rfl
def c8(s:List U_)(i j:Nat)(bad:Option Nat)(a:List (List Nd)):Prop :=
 (∀x∈a,0<x.length)/\i<=s.length/\match bad with
 | none=>∃b,a=b.map A0/\X8 s i=(X8 s j).pre b/\i<=j/\j<=s.length/\Z7 a+2*i<=2*j
 | some k=>X8 s i=.bad k/\a≠[]/\Z7 a+2*i<=2*s.length+1/\j+i<=2*s.length+3
def A1Q(s:List U_)(i:Nat):PR Rx:=match P3 s i with
 | .bad k=>.bad k
 | .ok t j=>.ok (R0 s j t).1 (R0 s j t).2
def A3v(r:PR Rx)(s:List U_)(i m:Nat)(j:Nat)(bad:Option Nat)(l:List Nd):Prop :=
 0<l.length/\match bad with
 | none=>∃t,r=.ok t j/\l=A0 t/\i<=j/\j<=s.length/\l.length+2*i<=2*j+m
 | some k=>r=.bad k/\l.length+2*i<=2*s.length+m/\j+i<=2*s.length+3
theorem c8.start{s:List U_}{i:Nat}(h:i<=s.length):c8 s i i none [] :=
 ⟨by simp,h,[],rfl,(PR.pre_nil _).symm,lr_ _,h,by simp[Z7]⟩
theorem B5y{s:List U_}{i j:Nat}{t:Rx}(c:i<=s.length)(h:A1Q s i=.ok t j):i<j/\j<=s.length/\okT t/\(A0 t).length+1+2*i<=2*j:=by
 unfold A1Q at h;cases hA:P3 s i with
 | bad k=>rw[hA] at h;cases h
 | ok u k =>
   rw[hA] at h;cases h;obtain⟨n,f,d,m⟩:=(M6 _ i (lr_ _) c).1 _ _ hA;obtain⟨l,b,a,g,_⟩:=Z9 _ k u (lr_ _) f d;exact⟨by omega,b,a,by omega⟩
theorem c8.more{s:List U_}{i j j':Nat}{a:List (List Nd)}{bad:Option Nat}{l:List Nd}(h:c8 s i j none a)(d:O3 s j=false)(g:A3v (A1Q s j) s j 0 j' bad l):
 c8 s i j' bad (a++[l]):=by
 obtain⟨y,n,q,r,o,E,B,D⟩:=h;obtain⟨A,g⟩:=g
 have f:∀x∈a++[l],0<x.length:=by
  intro x c;rcases List.mem_append.1 c with c|c
  .exact y x c
  .obtain rfl:x=l:=by simpa using c
   exact A
 have m:Z7 (a++[l])=Z7 a+(l.length+1):=by rw[A42];simp[Z7]
 cases bad with
 | none =>
   obtain⟨t,b,rfl,C,p,F⟩:=g;have z:=B5y B b;refine⟨f,n,q++[t],by simp[r],?_,by omega,p,by rw[m];omega⟩;unfold A1Q at b;cases hB:P3 s j with
   | bad k=>rw[hB] at b;cases b
   | ok u k =>
     rw[hB] at b;cases b;rw[o,A2G d hB,PR.pre_pre]
 | some k =>
   obtain⟨b,C,p⟩:=g;refine⟨f,n,?_,by simp,by rw[m];omega,by omega⟩;unfold A1Q at b;cases hB:P3 s j with
   | bad k'=>rw[hB] at b;cases b;rw[o,A3C d hB];rfl
   | ok u k'=>rw[hB] at b;cases b
theorem c8.row{s:List U_}{i j:Nat}{a:List (List Nd)}{bad:Option Nat}(h:c8 s i j bad a)(b:bad=none->O3 s j=true):
 A3v (V6 s i) s i 1 j bad (L7 3 [⟨2,zc⟩] a):=by
 obtain⟨p,d,h⟩:=h;refine⟨A6o _ _ _ p (λ_=>by simp),?_⟩;cases bad with
 | none =>
   obtain⟨l,m,f,o,g,q⟩:=h
   have n:V6 s i=.ok (A65 l) j:=by
    rw[A9I s i d,f,A01 (b rfl)];simp[PR.pre,PR.to]
   refine⟨A65 l,n,by rw[m,A39],o,g,?_⟩;have:=((M6 _ i (lr_ _) d).2.1 _ _ n).2.2.2.1;rw[m,A39];exact this
 | some k =>
   obtain⟨f,c,o,g⟩:=h;refine⟨by rw[A9I s i d,f];rfl,?_,g⟩;have:=A5T 3 [⟨2,zc⟩] a c;omega
def A0Q(s:List U_)(i j:Nat)(a:List (List Nd)):Prop :=
 (∀x∈a,0<x.length)/\i<=s.length/\∃b,a=b.map A0/\M8 s i=(M8 s j).pre b/\i<=j/\j<=s.length/\Z7 a+2*i<=2*j
def A2M(s:List U_)(i j:Nat)(bad:Option Nat)(a:List (List Nd)):Prop :=
 (∀x∈a,0<x.length)/\i<=s.length/\a≠[]/\match bad with
 | none=>∃b,a=b.map A0/\M8 s i=.ok b j/\i<=j/\j<=s.length/\Z7 a+2*i<=2*j+2
 | some k=>M8 s i=.bad k/\Z7 a+2*i<=2*s.length+2/\j+i<=2*s.length+3
theorem A0Q.start{s:List U_}{i:Nat}(h:i<=s.length):A0Q s i i [] :=
 ⟨by simp,h,[],rfl,(PR.pre_nil _).symm,lr_ _,h,by simp[Z7]⟩
theorem A8b{a:List (List Nd)}{l:List Nd}(c:∀x∈a,0<x.length)(d:0<l.length):∀x∈a++[l],0<x.length:=by
 intro x b;rcases List.mem_append.1 b with b|b
 .exact c x b
 .obtain rfl:x=l:=by simpa using b
  exact d
theorem A0Q.more{s:List U_}{i j j':Nat}{a:List (List Nd)}{l:List Nd}(h:A0Q s i j a)(k:A3v (V6 s j) s j 1 j' none l)(b:s[j']?=some 124):A0Q s i (j'+1) (a++[l]):=by
 obtain⟨g,n,c,f,p,y,q,r⟩:=h;obtain⟨m,t,o,rfl,B,A,z⟩:=k;have d:Z7 (a++[A0 t])=Z7 a+((A0 t).length+1):=by rw[A42];simp[Z7]
 have:=V0 b;exact⟨A8b g m,n,c++[t],by simp[f],by rw[p,A13 q o b,PR.pre_pre],by omega,by omega,by rw[d];omega⟩
theorem A0Q.last{s:List U_}{i j j':Nat}{a:List (List Nd)}{bad:Option Nat}{l:List Nd}(h:A0Q s i j a)(b:A3v (V6 s j) s j 1 j' bad l)(r:bad=none->s[j']?≠some 124):A2M s i j' bad (a++[l]):=by
 obtain⟨o,q,m,n,f,B,A,z⟩:=h;obtain⟨p,b⟩:=b;have d:Z7 (a++[l])=Z7 a+(l.length+1):=by rw[A42];simp[Z7]
 refine⟨A8b o p,q,by simp,?_⟩;cases bad with
 | none =>
   obtain⟨t,c,rfl,y,g,C⟩:=b;exact⟨m++[t],by simp[n],by rw[f,A1Y c (r rfl)];rfl,by omega,g,by rw[d];omega⟩
 | some k =>
   obtain⟨c,y,g⟩:=b;exact⟨by rw[f,A1Z c];rfl,by rw[d];omega,by omega⟩
theorem A2M.all{s:List U_}{i j:Nat}{a:List (List Nd)}{bad:Option Nat}(h:A2M s i j bad a):A3v (W9 s i) s i 1 j bad (L7 4 [] a):=by
 obtain⟨o,l,b,h⟩:=h;refine⟨A6o _ _ _ o (λe=>absurd e b),?_⟩;have p:=A5T 4 [] a b;cases bad with
 | none =>
   obtain⟨c,g,d,m,f,q⟩:=h;have n:c≠[]:=λe=>b (by rw[g,e];rfl)
   exact⟨A9W c,by rw[B1d s i l,d];rfl,by rw[g,A6p c n],m,f,by omega⟩
 | some k =>
   obtain⟨d,m,f⟩:=h;exact⟨by rw[B1d s i l,d];rfl,by omega,f⟩
def A6C(b:Nat):Int:=match A1M (UInt8.ofNat b) with
 | some a=>(a:Int)
 | none=>-1
theorem B1m:∀(b:Fin 256)(i:Fin 16),((((⟨#[48,49,50,51,52,53,54,55,56,57,97,98,99,100,101,102]⟩:B_)[i.val]'i.isLt).toNat=b.val)↔A1M (UInt8.ofNat b.val)=some i.val):=by decide +kernel
theorem B3F{b i:Nat}(c:b<256)(a:i<16)(h:(((⟨#[48,49,50,51,52,53,54,55,56,57,97,98,99,100,101,102]⟩:B_)[i]'a).toNat=b)):A6C b=(i:Int):=by
 unfold A6C;rw[(B1m ⟨b,c⟩ ⟨i,a⟩).1 h]
theorem B3G{b:Nat}(d:b<256)(h:∀i,∀c:i<16,(((⟨#[48,49,50,51,52,53,54,55,56,57,97,98,99,100,101,102]⟩:B_)[i]'c).toNat≠b)):A6C b=-1:=by
 unfold A6C;cases hx:A1M (UInt8.ofNat b) with
 | none=>rfl
 | some a=>exact absurd ((B1m ⟨b,d⟩ ⟨a,A0x hx⟩).2 hx) (h a (A0x hx))
end Wf
namespace Go.Proofs.YthhcpbfgoofppaaGreatDoor
open Go.RowKit Wf
def B9F:Option Nat->Int
 | none=>-1
 | some k=>(k:Int)
structure RW (w0:W_) (rb:Nat) (s:B_) (i:Nat) (bad:Option Nat) (w:W_):Prop where
 par:J0 w rb 172 #[.string s,.int .i64 i,.int .i64 (B9F bad)]
 grow:w0.grownBy w (some rb)
 lt:rb<w0.heap.size
section
variable {w0 w w':W_} {rb i j:Nat} {bad bad':Option Nat} {s:B_}
theorem RW.start(h:J0 w rb 172 #[.string s,.int .i64 i,.int .i64 (B9F bad)]):RW w rb s i bad w:=⟨h,⟨rfl,rfl,rfl,lr_ _,λ_ _ _=>rfl⟩,h.lt⟩
theorem RW.trans(h:RW w0 rb s i bad w)(a:RW w rb s j bad' w'):RW w0 rb s j bad' w':=⟨a.par,h.grow.trans a.grow,h.lt⟩
theorem RW.here(h:RW w0 rb s i bad w):RW w rb s i bad w:=RW.start h.par
theorem RW.below(h:RW w0 rb s i bad w)(a:Below w.heap.size w w'):RW w0 rb s i bad w':=⟨h.par.kept a,h.grow.trans ⟨a.os,a.tape,a.output,a.size,λq b _=>a.block q b⟩,h.lt⟩
theorem RW.at(h:RW w0 rb s i bad w)(j:Nat):RW w0 rb s j bad (w.setCell ⟨rb,1,none⟩ (.int .i64 j)) :=
 ⟨h.par.set_ 1 _,h.grow.trans ⟨rfl,rfl,rfl,by simp,λq _ a=>Below.heap_setCell w _ _ q (λe=>a (by rw[e]))⟩,h.lt⟩
theorem RW.fails(h:RW w0 rb s i bad w)(k:Nat):RW w0 rb s i (some k) (w.setCell ⟨rb,2,none⟩ (.int .i64 k)) :=
 ⟨h.par.set_ 2 _,h.grow.trans ⟨rfl,rfl,rfl,by simp,λq _ a=>Below.heap_setCell w _ _ q (λe=>a (by rw[e]))⟩,h.lt⟩
theorem RW.c0(h:RW w0 rb s i bad w):w.cell? ⟨rb,0,none⟩=some (.string s):=h.par.cell 0
theorem RW.c1(h:RW w0 rb s i bad w):w.cell? ⟨rb,1,none⟩=some (.int .i64 i):=h.par.cell 1
theorem RW.c2(h:RW w0 rb s i bad w):w.cell? ⟨rb,2,none⟩=some (.int .i64 (B9F bad)):=h.par.cell 2
theorem RW.f1(h:RW w0 rb s i bad w):w.frozen? ⟨rb,1,none⟩=false:=h.par.frozen 1
theorem RW.f2(h:RW w0 rb s i bad w):w.frozen? ⟨rb,2,none⟩=false:=h.par.frozen 2
end
theorem M7{s:B_}{i:Nat}{c:U_}(h:s.data.toList[i]?=some c):∃a:i<s.size,s[i]=c:=by
 obtain⟨a,d⟩:=List.getElem?_eq_some_iff.1 h;have b:i<s.size:=by simpa using a
 exact⟨b,by rw[←d];simp[ByteArray.getElem_eq_getElem_data]⟩
theorem A5n{s:B_}{i:Nat}(h:s.data.toList[i]?=none):s.size<=i:=by
 have:=List.getElem?_eq_none_iff.1 h
 simpa using this
def D5(rb:Nat)(s:B_)(i:Nat)(bad:Option Nat)(w:W_)(e:Ending)(w':W_):Prop:=e=.returned (.tuple #[])/\RW w rb s i bad w'
theorem A0d{rb:Nat}{s:B_}{i:Nat}(w:W_)(h:RW w rb s i none w)(k:Nat):
 Calls prog 97 #[.pointer (some ⟨rb,0,none⟩),.int .i64 k] w (D5 rb s i (some k) w):=by
 have c2:w.cell? ⟨rb,2,none⟩=some (.int .i64 (-1)):=h.c2;have a:=h.f2;have H:=hid (h.fails k);clear h;unfold D5;go_enter func97,ntmps97;go_wp2
 go_end0
 exact⟨rfl,H.out⟩
theorem B2g{rb:Nat}{s:B_}{i a:Nat}(w:W_)(h:RW w rb s i (some a) w)(k:Nat):
 Calls prog 97 #[.pointer (some ⟨rb,0,none⟩),.int .i64 k] w (D5 rb s i (some a) w):=by
 have c2:w.cell? ⟨rb,2,none⟩=some (.int .i64 a):=h.c2;have d:decide ((a:Int)<0)=false:=by simp
 have H:=hid h;clear h;unfold D5;go_enter func97,ntmps97;go_wp2
 go_end0
 exact⟨rfl,H.out⟩
def Q5(b:Bool)(w:W_)(e:Ending)(w':W_):Prop:=e=.returned (.bool b)/\Below w.heap.size w w'
theorem A2Z{rb:Nat}{s:B_}{i:Nat}{c:U_}(w:W_)(h:RW w rb s i none w)(k:s.size<=200)(d:s.data.toList[i]?=some c):
 Calls prog 135 #[.pointer (some ⟨rb,0,none⟩),.int .u8 c.toNat] w (Q5 true w):=by
 obtain⟨f,b⟩:=M7 d;have c0:=h.c0;have c1:=h.c1;have c2:w.cell? ⟨rb,2,none⟩=some (.int .i64 (-1)):=h.c2;have a:=dt_ ((i:Int)<s.size);have g:(0:Int)<=i:=by omega
 have m:i<s.size:=f;have l:((s[i].toNat:Int)==(c.toNat:Int))=true:=by rw[b];simp
 clear h d b;unfold Q5;go_enter func135,ntmps135;go_wp2;go_quiet (fail);go_wp2;go_ret;exact⟨rfl,M0 br_ _⟩
theorem A3P{rb:Nat}{s:B_}{i:Nat}{c:U_}(w:W_)(h:RW w rb s i none w)(o:s.size<=200)(m:i<=s.size)(f:s.data.toList[i]?≠some c):
 Calls prog 135 #[.pointer (some ⟨rb,0,none⟩),.int .u8 c.toNat] w (Q5 false w):=by
 have c0:=h.c0;have c1:=h.c1;have c2:w.cell? ⟨rb,2,none⟩=some (.int .i64 (-1)):=h.c2;unfold Q5;cases hg:s.data.toList[i]? with
 | none =>
   have g:=A5n hg;have a:=df_ ((i:Int)<s.size);have b:=df_ (i<s.size);clear h f hg;go_enter func135,ntmps135;go_wp2;go_quiet (fail);go_wp2;go_ret;exact⟨rfl,M0 br_ _⟩
 | some d =>
   obtain⟨g,k⟩:=M7 hg;have l:d.toNat≠c.toNat:=λe=>f (by rw[hg,UInt8.toNat_inj.1 e])
   have a:=dt_ ((i:Int)<s.size);have n:(0:Int)<=i:=by omega
   have q:i<s.size:=g;have p:((s[i].toNat:Int)==(c.toNat:Int))=false:=by rw[k];simp;omega
   clear h f hg k;go_enter func135,ntmps135;go_wp2;go_quiet (fail);go_wp2;go_ret;exact⟨rfl,M0 br_ _⟩
theorem A2a{rb:Nat}{s:B_}{i k:Nat}(c:Nat)(w:W_)(h:RW w rb s i (some k) w):
 Calls prog 135 #[.pointer (some ⟨rb,0,none⟩),.int .u8 c] w (Q5 false w):=by
 have c0:=h.c0;have c1:=h.c1;have c2:w.cell? ⟨rb,2,none⟩=some (.int .i64 k):=h.c2;have d:decide ((k:Int)<0)=false:=by simp
 unfold Q5;clear h;go_enter func135,ntmps135;go_wp2;go_quiet (fail);go_wp2;go_ret;exact⟨rfl,M0 br_ _⟩
theorem B4X(b:Nat)(n:b<256)(w:W_):Calls prog 191 #[.int .u8 b] w (λe w'=>e=.returned (.int .i64 (A6C b))/\w'=w):=by
 have c:Hid (∀i:Nat,∀a:i<16,(((⟨#[48,49,50,51,52,53,54,55,56,57,97,98,99,100,101,102]⟩:B_)[i]'a).toNat=b)->A6C b=(i:Int)):=hid λi a h=>B3F n a h
 have d:Hid ((∀i:Nat,∀a:i<16,(((⟨#[48,49,50,51,52,53,54,55,56,57,97,98,99,100,101,102]⟩:B_)[i]'a).toNat≠b))->A6C b=-1):=hid (B3G n);obtain⟨q,m⟩:∃q,q=A6C b:=⟨_,rfl⟩
 rw[←m] at c d ⊢;clear m;go_enter func191,ntmps191;go_wp2
 go_loopw [3] (λv3 wr=>∃k:Nat,k<=16/\v3=.int .i64 k/\Hid (∀j:Nat,j<k->∀h:j<16,(((⟨#[48,49,50,51,52,53,54,55,56,57,97,98,99,100,101,102]⟩:B_)[j]'h).toNat≠b))/\wr=w) (λi _=>16 - (intOf i).toNat)
 case atStart=>exact⟨0,by omega,rfl,hid (λj f=>by omega),by first | rfl | trivial⟩
 case round =>
  obtain⟨k,y,rfl,o,rfl⟩:=hrel;by_cases hlt:k<16
  .have r:(0:Int)<=k:=by omega
   have p:(k:Int)<16:=by omega
   by_cases hc:(((⟨#[48,49,50,51,52,53,54,55,56,57,97,98,99,100,101,102]⟩:B_)[k]'hlt).toNat=b)
   .have t:((((⟨#[48,49,50,51,52,53,54,55,56,57,97,98,99,100,101,102]⟩:B_)[k]'hlt).toNat:Int)=(b:Int)):=by omega
    have g:=hid (c.out k hlt hc);clear hc;go_wp2;go_ret;exact⟨by rw[g.out];rfl,rfl⟩
   .have t:¬((((⟨#[48,49,50,51,52,53,54,55,56,57,97,98,99,100,101,102]⟩:B_)[k]'hlt).toNat:Int)=(b:Int)):=by omega
    have l:=hid hc;clear hc;go_wp2;go_roundw
    case rel=>exact⟨k+1,by omega,by go_num,hid (λj f h=>by
     by_cases e:j=k
     .subst e;exact l.out
     .exact o.out j (by omega) h),trivial⟩
    case measure=>simp[intOf];omega
  .obtain rfl:k=16:=by omega
   have g:=hid (d.out (λj f=>o.out j f f));go_wp2;go_ret;exact⟨by rw[g.out];rfl,rfl⟩
def O6(rb:Nat)(s:B_)(j a:Nat)(bad:Option Nat)(w:W_)(e:Ending)(w':W_):Prop:=e=.returned (.int .i64 a)/\RW w rb s j bad w'
def A09(r:PR Nat)(rb:Nat)(s:B_)(i:Nat)(w:W_)(e:Ending)(w':W_):Prop :=
 (∃a j,r=.ok a j/\a<256/\i<j/\j<=s.size/\O6 rb s j a none w e w')\/(∃k a j,r=.bad k/\a<256/\i<=j/\j<=i+1/\O6 rb s j a (some k) w e w')
def A2R(s:List U_)(i m n:Nat):Prop:=(m=2/\n=0)\/(m=3/\n<16/\∃h,s[i+2]?=some h/\A1M h=some n)\/(m=4/\n<256/\A0P s i=.ok n (i+4))
theorem A2R.lt{s:List U_}{i m n:Nat}(h:A2R s i m n):2<=m/\m<=4/\n<256/\(m<4->n<16):=by
 rcases h with ⟨h1,h2⟩|⟨h1,h2,_⟩|⟨h1,h2,_⟩ <;> omega
theorem A2R.none{s:List U_}{i m n:Nat}(h:A2R s i m n)(b:m<4)(a:s[i+m]?=none):A0P s i=.bad s.length:=by
 rcases h with ⟨h1,h2⟩|⟨h1,h2,x,h3,h5⟩|⟨h1,h2,_⟩
 .subst h1;unfold A0P;rw[a]
 .subst h1;unfold A0P;rw[h3];simp only[h5];rw[a]
 .omega
theorem A2R.bad{s:List U_}{i m n:Nat}(h:A2R s i m n)(d:m<4){c:U_}(a:s[i+m]?=some c)(b:A1M c=.none):A0P s i=.bad i:=by
 rcases h with ⟨h1,h2⟩|⟨h1,h2,x,h3,h5⟩|⟨h1,h2,_⟩
 .subst h1;unfold A0P;rw[a];simp only[b]
 .subst h1;unfold A0P;rw[h3];simp only[h5];rw[a];simp only[b]
 .omega
theorem A2R.next{s:List U_}{i m n a:Nat}(h:A2R s i m n)(g:m<4){c:U_}(d:s[i+m]?=some c)(b:A1M c=some a):A2R s i (m+1) (n*16+a):=by
 have f:=A0x b;rcases h with ⟨h1,h2⟩|⟨h1,h2,x,h3,h5⟩|⟨h1,h2,_⟩
 .subst h1;subst h2;exact .inr (.inl ⟨rfl,by omega,c,d,by rw[b];congr 1;omega⟩)
 .subst h1;exact .inr (.inr ⟨rfl,by omega,by unfold A0P;rw[h3];simp only[h5];rw[d];simp only[b]⟩)
 .omega
theorem A5b(c:U_):A6C c.toNat=match A1M c with
 | some a=>(a:Int)
 | .none=>-1:=by
 unfold A6C;rw[show UInt8.ofNat c.toNat=c by simp]
 all_goals (cases A1M c <;> rfl)
theorem RW.drew{w0 w:W_}{rb i:Nat}{bad:Option Nat}{s:B_}(h:RW w0 rb s i bad w):RW w0 rb s i bad w.drew:=h.below br_.drew
theorem RW.failing{w0:W_}{rb i:Nat}{s:B_}(k:Nat):Hid (∀W,RW w0 rb s i none W->Calls prog 97 #[.pointer (some ⟨rb,0,none⟩),.int .i64 k] W (D5 rb s i (some k) w0)) :=
 hid λW b=>(A0d W b.here k).mono λe w' a=>⟨a.1,b.trans a.2⟩
theorem B2e{rb:Nat}{s:B_}{i:Nat}(w:W_)(h:RW w rb s i none w)(l:s.size<=200)(c:s.size=i):
 Calls prog 168 #[.pointer (some ⟨rb,0,none⟩)] w (O6 rb s i 0 (some s.size) w):=by
 have q:=h.c0;have p:=h.c1;have f:=RW.failing (w0:=w) (rb:=rb) (i:=i) (s:=s) s.size;have k:=hid h;have d:=dt_ ((s.size:Int)<=(i:Int));have n:=dt_ (s.size<=i);clear h c;unfold O6 D5 at *;go_enter func168,ntmps168;go_wp2_with fail;go_region;go_wp2_with fail;refine(f.out _ k.out.drew).mono ?_;rintro e b⟨rfl,a⟩;have o:b.cell? ⟨rb,2,none⟩=some (.int .i64 s.size):=a.c2;have m:decide ((0:Int)<=s.size)=true:=by simp
 have g:=hid a;clear a;go_wp2_with fail;go_ret;exact⟨rfl,g.out⟩
theorem B4V{rb:Nat}{s:B_}{i:Nat}(w:W_)(h:RW w rb s i none w)(z:s.size<=200){c:U_}(k:s.data.toList[i]?=some c)(a:c≠92)(p:decide ((c.toNat:Int)<32)=true):
 Calls prog 168 #[.pointer (some ⟨rb,0,none⟩)] w (O6 rb s (i+1) c.toNat (some i) w):=by
 have J:=h.c0;have H:=h.c1;have G:w.cell? ⟨rb,2,none⟩=some (.int .i64 (-1)):=h.c2;obtain⟨m,g⟩:=M7 k;have A:i<s.size:=m;have y:(0:Int)<=i:=by omega
 have hlt:(i:Int)<s.size:=by omega
 have d:=df_ ((s.size:Int)<=(i:Int));have D:=df_ (s.size<=i)
 have o:((c.toNat:Int) !=92)=true:=by
  have:c.toNat≠92:=λe=>a (UInt8.toNat_inj.1 e)
  simp;omega
 have f:Hid (∀W,Calls prog 133 #[.int .u8 c.toNat] W (λe w'=>e=.returned (.bool (decide (c∈X0)))/\w'=W)):=hid λW=>by
  have:=B5 c.toNat c.toNat_lt W;rwa[show UInt8.ofNat c.toNat=c by simp] at this
 have q:=RW.failing (w0:=w) (rb:=rb) (i:=i) (s:=s) i;have t:=hid h;have B:=c.toNat_lt;have C:(s[i].toNat:Int)=(c.toNat:Int):=by rw[g]
 clear h k a g;generalize decide (c∈X0)=sg at *;generalize c.toNat=n at *;unfold O6 at *;unfold D5 at *;go_enter func168,ntmps168;go_wp2_with fail;go_region;go_wp2_with fail;go_region;go_wp2_with fail;refine(f.out _).mono ?_;rintro e l⟨rfl,rfl⟩;go_wp2_with fail;refine(q.out _ t.out.drew.drew).mono ?_;rintro e l⟨rfl,b⟩;have F:=b.c1;have E:=b.f1;have r:=hid (b.at (i+1));clear b;go_wp2_with fail;go_ret;exact⟨rfl,by have:=r.out;push_cast at this;exact this⟩
theorem B2f{rb:Nat}{s:B_}{i:Nat}(w:W_)(h:RW w rb s i none w)(z:s.size<=200){c:U_}(l:s.data.toList[i]?=some c)(a:c≠92)(p:decide ((c.toNat:Int)<32)=false)(f:decide ((126:Int)<(c.toNat:Int))=true):
 Calls prog 168 #[.pointer (some ⟨rb,0,none⟩)] w (O6 rb s (i+1) c.toNat (some i) w):=by
 have J:=h.c0;have H:=h.c1;have G:w.cell? ⟨rb,2,none⟩=some (.int .i64 (-1)):=h.c2;obtain⟨o,k⟩:=M7 l;have A:i<s.size:=o;have y:(0:Int)<=i:=by omega
 have hlt:(i:Int)<s.size:=by omega
 have d:=df_ ((s.size:Int)<=(i:Int));have D:=df_ (s.size<=i)
 have f:((c.toNat:Int) !=92)=true:=by
  have:c.toNat≠92:=λe=>a (UInt8.toNat_inj.1 e)
  simp;omega
 have g:Hid (∀W,Calls prog 133 #[.int .u8 c.toNat] W (λe w'=>e=.returned (.bool (decide (c∈X0)))/\w'=W)):=hid λW=>by
  have:=B5 c.toNat c.toNat_lt W;rwa[show UInt8.ofNat c.toNat=c by simp] at this
 have q:=RW.failing (w0:=w) (rb:=rb) (i:=i) (s:=s) i;have t:=hid h;have B:=c.toNat_lt;have C:(s[i].toNat:Int)=(c.toNat:Int):=by rw[k]
 clear h l a k;generalize decide (c∈X0)=sg at *;generalize c.toNat=n at *;unfold O6 at *;unfold D5 at *;go_enter func168,ntmps168;go_wp2_with fail;go_region;go_wp2_with fail;go_region;go_wp2_with fail;refine(g.out _).mono ?_;rintro e m⟨rfl,rfl⟩;go_wp2_with fail;refine(q.out _ t.out.drew.drew).mono ?_;rintro e m⟨rfl,b⟩;have F:=b.c1;have E:=b.f1;have r:=hid (b.at (i+1));clear b;go_wp2_with fail;go_ret;exact⟨rfl,by have:=r.out;push_cast at this;exact this⟩
theorem A7N{rb:Nat}{s:B_}{i:Nat}(w:W_)(h:RW w rb s i none w)(A:s.size<=200){c:U_}(m:s.data.toList[i]?=some c)(b:c≠92)(q:decide ((c.toNat:Int)<32)=false)(k:decide ((126:Int)<(c.toNat:Int))=false)(a:decide (c∈X0)=true):
 Calls prog 168 #[.pointer (some ⟨rb,0,none⟩)] w (O6 rb s (i+1) c.toNat (some i) w):=by
 have L:=h.c0;have J:=h.c1;have H:w.cell? ⟨rb,2,none⟩=some (.int .i64 (-1)):=h.c2;obtain⟨p,l⟩:=M7 m;have B:i<s.size:=p;have z:(0:Int)<=i:=by omega
 have hlt:(i:Int)<s.size:=by omega
 have d:=df_ ((s.size:Int)<=(i:Int));have E:=df_ (s.size<=i)
 have k:((c.toNat:Int) !=92)=true:=by
  have:c.toNat≠92:=λe=>b (UInt8.toNat_inj.1 e)
  simp;omega
 have f:Hid (∀W,Calls prog 133 #[.int .u8 c.toNat] W (λe w'=>e=.returned (.bool (decide (c∈X0)))/\w'=W)):=hid λW=>by
  have:=B5 c.toNat c.toNat_lt W;rwa[show UInt8.ofNat c.toNat=c by simp] at this
 have r:=RW.failing (w0:=w) (rb:=rb) (i:=i) (s:=s) i;have y:=hid h;have C:=c.toNat_lt;have D:(s[i].toNat:Int)=(c.toNat:Int):=by rw[l]
 clear h m b l;rw[a] at f;clear a;generalize c.toNat=n at *;unfold O6 at *;unfold D5 at *;go_enter func168,ntmps168;go_wp2_with fail;go_region;go_wp2_with fail;go_region;go_wp2_with fail;refine(f.out _).mono ?_;rintro e o⟨rfl,rfl⟩;go_wp2_with fail;refine(r.out _ y.out.drew.drew).mono ?_;rintro e o⟨rfl,g⟩;have G:=g.c1;have F:=g.f1;have t:=hid (g.at (i+1));clear g;go_wp2_with fail;go_ret;exact⟨rfl,by have:=t.out;push_cast at this;exact this⟩
theorem B0B{rb:Nat}{s:B_}{i:Nat}(w:W_)(h:RW w rb s i none w)(t:s.size<=200){c:U_}(l:s.data.toList[i]?=some c)(b:c≠92)(o:decide ((c.toNat:Int)<32)=false)(g:decide ((126:Int)<(c.toNat:Int))=false)(a:decide (c∈X0)=false):
 Calls prog 168 #[.pointer (some ⟨rb,0,none⟩)] w (O6 rb s (i+1) c.toNat none w):=by
 have F:=h.c0;have E:=h.c1;have D:w.cell? ⟨rb,2,none⟩=some (.int .i64 (-1)):=h.c2;obtain⟨m,k⟩:=M7 l;have y:i<s.size:=m;have r:(0:Int)<=i:=by omega
 have hlt:(i:Int)<s.size:=by omega
 have d:=df_ ((s.size:Int)<=(i:Int));have C:=df_ (s.size<=i)
 have g:((c.toNat:Int) !=92)=true:=by
  have:c.toNat≠92:=λe=>b (UInt8.toNat_inj.1 e)
  simp;omega
 have f:Hid (∀W,Calls prog 133 #[.int .u8 c.toNat] W (λe w'=>e=.returned (.bool (decide (c∈X0)))/\w'=W)):=hid λW=>by
  have:=B5 c.toNat c.toNat_lt W;rwa[show UInt8.ofNat c.toNat=c by simp] at this
 have p:=hid h;have B:=h.f1;have z:=c.toNat_lt;have A:(s[i].toNat:Int)=(c.toNat:Int):=by rw[k]
 clear h l b k;rw[a] at f;clear a;generalize c.toNat=n at *;unfold O6 at *;go_enter func168,ntmps168;go_wp2_with fail;go_region;go_wp2_with fail;go_region;go_wp2_with fail;refine(f.out _).mono ?_;rintro e q⟨rfl,rfl⟩;go_wp2_with fail;go_ret;exact⟨rfl,by have:=p.out.drew.drew.at (i+1);push_cast at this;exact this⟩
theorem A8P{rb:Nat}{s:B_}{i:Nat}(w:W_)(h:RW w rb s i none w)(r:s.size<=200)(c:s.data.toList[i]?=some 92)(l:s.size=i+1):
 Calls prog 168 #[.pointer (some ⟨rb,0,none⟩)] w (O6 rb s i 0 (some s.size) w):=by
 have E:=h.c0;have D:=h.c1;have C:w.cell? ⟨rb,2,none⟩=some (.int .i64 (-1)):=h.c2;obtain⟨k,b⟩:=M7 c;have t:i<s.size:=k;have q:(0:Int)<=i:=by omega
 have hlt:(i:Int)<s.size:=by omega
 have d:=df_ ((s.size:Int)<=(i:Int));have B:=df_ (s.size<=i);have m:((92:Int) !=92)=false:=by decide
 have a:Hid (∀W,Calls prog 133 #[.int .u8 92] W (λe w'=>e=.returned (.bool true)/\w'=W)):=hid λW=>B5 92 (by omega) W
 have y:(s[i].toNat:Int)=92:=by rw[b];rfl
 have n:=RW.failing (w0:=w) (rb:=rb) (i:=i) (s:=s) s.size;have p:=hid h;have A:=dt_ ((s.size:Int)<=(i:Int)+1);have z:=dt_ (s.size<=i+1);clear h c b l;unfold O6 D5 at *;go_enter func168,ntmps168;go_wp2_with fail;go_region;go_wp2_with fail;go_region;go_wp2_with fail;refine(a.out _).mono ?_;rintro e g⟨rfl,rfl⟩;go_wp2_with fail;go_region;go_wp2_with fail;refine(n.out _ p.out.drew.drew.drew).mono ?_;rintro e g⟨rfl,f⟩;have o:=hid f;clear f;go_wp2_with fail;go_ret;exact⟨rfl,o.out⟩
theorem A5A{rb:Nat}{s:B_}{i:Nat}(w:W_)(h:RW w rb s i none w)(B:s.size<=200)(o:s.data.toList[i]?=some 92){x:U_}(m:s.data.toList[i+1]?=some x)(f:decide (x∈X0)=true):
 Calls prog 168 #[.pointer (some ⟨rb,0,none⟩)] w (O6 rb s (i+2) x.toNat none w):=by
 have O:=h.c0;have N:=h.c1;have M:w.cell? ⟨rb,2,none⟩=some (.int .i64 (-1)):=h.c2;obtain⟨t,l⟩:=M7 o;have C:i<s.size:=t;have A:(0:Int)<=i:=by omega
 have hlt:(i:Int)<s.size:=by omega
 have d:=df_ ((s.size:Int)<=(i:Int));have L:=df_ (s.size<=i);have y:((92:Int) !=92)=false:=by decide
 have b:Hid (∀W,Calls prog 133 #[.int .u8 92] W (λe w'=>e=.returned (.bool true)/\w'=W)):=hid λW=>B5 92 (by omega) W
 have F:(s[i].toNat:Int)=92:=by rw[l];rfl
 obtain⟨a,k⟩:=M7 m;have r:i+1<s.size:=a;have g:(i:Int)+1<(s.size:Int):=by omega
 have q:(0:Int)<=i+1:=by omega
 have J:=df_ ((s.size:Int)<=(i:Int)+1);have H:=df_ (s.size<=i+1);have D:=x.toNat_lt;have E:(s[i+1].toNat:Int)=(x.toNat:Int):=by rw[k]
 have z:=hid h
 have c:Hid (∀W,Calls prog 133 #[.int .u8 x.toNat] W (λe w'=>e=.returned (.bool true)/\w'=W)):=hid λW=>by
  have:=B5 x.toNat x.toNat_lt W;rw[show UInt8.ofNat x.toNat=x by simp] at this;rwa[f] at this
 have G:=h.f1;clear h o l m k f;generalize x.toNat=n at *;unfold O6 at *;go_enter func168,ntmps168;go_wp2_with fail;go_region;go_wp2_with fail;go_region;go_wp2_with fail;refine(b.out _).mono ?_;rintro e p⟨rfl,rfl⟩;go_wp2_with fail;go_region;go_wp2_with fail;go_region;go_wp2_with fail;refine(c.out _).mono ?_;rintro e p⟨rfl,rfl⟩;go_wp2_with fail;go_ret;exact⟨rfl,by have:=z.out.drew.drew.drew.drew.at (i+2);push_cast at this;exact this⟩
theorem B0D{rb:Nat}{s:B_}{i:Nat}(w:W_)(h:RW w rb s i none w)(G:s.size<=200)(q:s.data.toList[i]?=some 92){x:U_}(p:s.data.toList[i+1]?=some x)(k:decide (x∈X0)=false)(a:x≠120):
 Calls prog 168 #[.pointer (some ⟨rb,0,none⟩)] w (O6 rb s i 0 (some i) w):=by
 have S:=h.c0;have R:=h.c1;have Q:w.cell? ⟨rb,2,none⟩=some (.int .i64 (-1)):=h.c2;obtain⟨z,o⟩:=M7 q;have H:i<s.size:=z;have F:(0:Int)<=i:=by omega
 have hlt:(i:Int)<s.size:=by omega
 have d:=df_ ((s.size:Int)<=(i:Int));have P:=df_ (s.size<=i);have B:((92:Int) !=92)=false:=by decide
 have c:Hid (∀W,Calls prog 133 #[.int .u8 92] W (λe w'=>e=.returned (.bool true)/\w'=W)):=hid λW=>B5 92 (by omega) W
 have M:(s[i].toNat:Int)=92:=by rw[o];rfl
 obtain⟨b,m⟩:=M7 p;have y:i+1<s.size:=b;have l:(i:Int)+1<(s.size:Int):=by omega
 have t:(0:Int)<=i+1:=by omega
 have O:=df_ ((s.size:Int)<=(i:Int)+1);have N:=df_ (s.size<=i+1);have J:=x.toNat_lt;have L:(s[i+1].toNat:Int)=(x.toNat:Int):=by rw[m]
 have E:=hid h
 have f:Hid (∀W,Calls prog 133 #[.int .u8 x.toNat] W (λe w'=>e=.returned (.bool false)/\w'=W)):=hid λW=>by
  have:=B5 x.toNat x.toNat_lt W;rw[show UInt8.ofNat x.toNat=x by simp] at this;rwa[k] at this
 have C:=RW.failing (w0:=w) (rb:=rb) (i:=i) (s:=s) i
 have A:((x.toNat:Int) !=120)=true:=by
  have:x.toNat≠120:=λe=>a (UInt8.toNat_inj.1 e)
  simp;omega
 clear h q o p m k a;generalize x.toNat=n at *;unfold O6 D5 at *;go_enter func168,ntmps168;go_wp2_with fail;go_region;go_wp2_with fail;go_region;go_wp2_with fail;refine(c.out _).mono ?_;rintro e g⟨rfl,rfl⟩;go_wp2_with fail;go_region;go_wp2_with fail;go_region;go_wp2_with fail;refine(f.out _).mono ?_;rintro e g⟨rfl,rfl⟩;go_wp2_with fail;refine(C.out _ E.out.drew.drew.drew.drew).mono ?_;rintro e g⟨rfl,r⟩;have D:=hid r;clear r;go_wp2_with fail;go_ret;exact⟨rfl,D.out⟩
theorem B4W{rb:Nat}{s:B_}{i:Nat}(w:W_)(h:RW w rb s i none w)(hs:s.size<=200)(T:s.data.toList[i]?=some 92)(S:s.data.toList[i+1]?=some 120):
 Calls prog 168 #[.pointer (some ⟨rb,0,none⟩)] w (A09 (A0P s.data.toList i) rb s i w):=by
 have a0:=h.c0;have a1:=h.c1;have a2:w.cell? ⟨rb,2,none⟩=some (.int .i64 (-1)):=h.c2;obtain⟨hi,R⟩:=M7 T;have hn:i<s.size:=hi;have hz:(0:Int)<=i:=by omega
 have hlt:(i:Int)<s.size:=by omega
 have d:=df_ ((s.size:Int)<=(i:Int));have d2:=df_ (s.size<=i);have ae:((92:Int) !=92)=false:=by decide
 have G:Hid (∀W,Calls prog 133 #[.int .u8 92] W (λe w'=>e=.returned (.bool true)/\w'=W)):=hid λW=>B5 92 (by omega) W
 have hE:(s[i].toNat:Int)=92:=by rw[R];rfl
 obtain⟨E,Q⟩:=M7 S;have Z:i+1<s.size:=E;have P:(i:Int)+1<(s.size:Int):=by omega
 have X:(0:Int)<=i+1:=by omega
 have d3:=df_ ((s.size:Int)<=(i:Int)+1);have d4:=df_ (s.size<=i+1);have hG:(s[i+1].toNat:Int)=120:=by rw[Q];rfl
 have H0:=hid h;have H:Hid (∀W,Calls prog 133 #[.int .u8 120] W (λe w'=>e=.returned (.bool false)/\w'=W)):=hid λW=>B5 120 (by omega) W
 have ad:((120:Int) !=120)=false:=by decide
 clear h T R S Q;obtain⟨L,C⟩:∃L,L=s.data.toList:=⟨_,rfl⟩
 have q:Hid (L.length=s.size):=hid (by rw[C];simp);have J:Hid (∀k c,L[k]?=some c->∃hk:k<s.size,s[k]=c):=hid (by rw[C];exact λk c=>M7);rw[←C];clear C;unfold A09 O6 at *;go_enter func168,ntmps168;go_wp2_with fail;go_region;go_wp2_with fail;go_region;go_wp2_with fail;refine(G.out _).mono ?_;rintro e t⟨rfl,rfl⟩;go_wp2_with fail;go_region;go_wp2_with fail;go_region;go_wp2_with fail;refine(H.out _).mono ?_;rintro e t⟨rfl,rfl⟩;go_wp2_with fail
 go_loopw [7,8] (λv7 v8 wr=>∃(m n:Nat),v8=.int .i64 m/\v7=.int .i64 n/\Hid (A2R L i m n)/\Hid (RW w rb s i none wr)) (λ_ v8 _=>4 - (intOf v8).toNat)
 case atStart=>exact⟨2,0,rfl,rfl,hid (.inl ⟨rfl,rfl⟩),hid H0.out.drew.drew.drew.drew⟩
 case round =>
  obtain⟨m,n,rfl,rfl,A,p⟩:=hrel;obtain⟨ab,aa,g,b⟩:=A.out.lt;have r0:=p.out.c0;have r1:=p.out.c1;by_cases hlt4:m<4
  .have hn16':=b hlt4
   clear b;have dm:=dt_ ((m:Int)<4);cases hg:L[i+m]? with
   | none =>
     have y:=List.getElem?_eq_none_iff.1 hg;rw[q.out] at y;have d5:=dt_ ((s.size:Int)<=(i:Int)+m);have d6:=dt_ (s.size<=i+m);have B:=RW.failing (w0:=w) (rb:=rb) (i:=i) (s:=s) s.size;have r:Hid (A0P L i=.bad s.size):=hid (by rw[A.out.none hlt4 hg,q.out]);unfold D5 at B;clear hg y;go_wp2_with fail;go_quiet (fail);go_wp2_with fail;refine(B.out _ (p.out.below (M0 br_ _))).mono ?_;rintro e t⟨rfl,o⟩;have M:=hid o;clear o;go_wp2_with fail;go_ret;exact .inr ⟨s.size,0,i,r.out,by omega,by omega,by omega,rfl,M.out⟩
   | some c =>
     obtain⟨D,l⟩:=J.out _ _ hg;have Y:i+m<s.size:=D;have O:(i:Int)+m<(s.size:Int):=by omega
     have V:(0:Int)<=i+(m:Int):=by omega
     have d5:=df_ ((s.size:Int)<=(i:Int)+m);have d6:=df_ (s.size<=i+m);have af:(s[i+m].toNat:Int)=(c.toNat:Int):=by rw[l]
     have F:=c.toNat_lt;have f:=hid λW=>B4X c.toNat F W
     cases hv:A1M c with
     | none =>
       have r:Hid (A0P L i=.bad i):=hid (A.out.bad hlt4 hg hv);have B:=RW.failing (w0:=w) (rb:=rb) (i:=i) (s:=s) i;unfold D5 at B;rw[A5b,hv] at f;clear hg l hv;generalize c.toNat=cn at *;go_wp2_with fail;go_quiet (fail);go_wp2_with fail;go_quiet (first | (go_at_call 191;refine(f.out _).mono ?_;rintro e t⟨rfl,rfl⟩;exact⟨rfl,_,rfl⟩));go_wp2_with fail;refine(B.out _ (p.out.below (M0 br_ _))).mono ?_;rintro e t⟨rfl,o⟩;have M:=hid o;clear o;go_wp2_with fail;go_ret;exact .inr ⟨i,0,i,r.out,by omega,by omega,by omega,rfl,M.out⟩
     | some a =>
       have HN:Hid (A2R L i (m+1) (n*16+a)):=hid (A.out.next hlt4 hg hv);have ha:=A0x hv;rw[A5b,hv] at f;have da:decide ((a:Int)<0)=false:=by simp
       have N:Go.RowKit.wrap64 ((n:Int)*16)=(n:Int)*16:=Go.IntWalk.wrap64_in _ (by omega);clear hg l hv;generalize c.toNat=cn at *;go_wp2_with fail;go_quiet (fail);go_wp2_with fail;go_quiet (first | (go_at_call 191;refine(f.out _).mono ?_;rintro e t⟨rfl,rfl⟩;exact⟨rfl,_,rfl⟩));go_wp2_with fail;go_roundw
       case rel=>exact⟨m+1,n*16+a,by go_num,by go_num,HN,hid (p.out.below (M0 br_ _))⟩
       case measure=>simp[intOf];omega
  .obtain rfl:m=4:=by omega
   have f1:=p.out.f1
   have r:Hid (A0P L i=.ok n (i+4)):=hid (by
    rcases A.out with ⟨o,_⟩|⟨o,_⟩|⟨_,_,h3⟩
    .omega
    .omega
    .exact h3)
   have z:Hid (i+4<=s.size):=hid (by
    have:=(B1p r.out).2.1;rw[q.out] at this;exact this)
   clear b;go_wp2_with fail;go_ret;exact .inl ⟨n,i+4,r.out,g,by omega,z.out,rfl,by have:=p.out.at (i+4);push_cast at this;exact this⟩
theorem B0C{rb:Nat}{s:B_}{i:Nat}(w:W_)(h:RW w rb s i none w)(f:s.size<=200)(z:i<=s.size):
 Calls prog 168 #[.pointer (some ⟨rb,0,none⟩)] w (A09 (D4 s.data.toList i) rb s i w):=by
 have l:s.data.toList.length=s.size:=by simp
 have m6:∀a j,D4 s.data.toList i=.ok a j->Calls prog 168 #[.pointer (some ⟨rb,0,none⟩)] w (O6 rb s j a none w)->Calls prog 168 #[.pointer (some ⟨rb,0,none⟩)] w (A09 (D4 s.data.toList i) rb s i w):=λa j g m=>m.mono λe w' p=>.inl ⟨a,j,g,(T8 g).2.2,(T8 g).1,by have:=(T8 g).2.1;omega,p⟩
 have bad:∀k a j,D4 s.data.toList i=.bad k->a<256->i<=j->j<=i+1->Calls prog 168 #[.pointer (some ⟨rb,0,none⟩)] w (O6 rb s j a (some k) w)->Calls prog 168 #[.pointer (some ⟨rb,0,none⟩)] w (A09 (D4 s.data.toList i) rb s i w):=λk a j g m b y t=>t.mono λe w' p=>.inr ⟨k,a,j,g,m,b,y,p⟩
 cases hc:s.data.toList[i]? with
 | none=>exact bad _ 0 i (by unfold D4;rw[hc,l]) (by omega) (by omega) (by omega) (B2e w h f (by have:=A5n hc;omega))
 | some c =>
   by_cases h92:c=92
   .subst h92
    obtain⟨r,_⟩:=M7 hc;cases hd:s.data.toList[i+1]? with
    | none=>exact bad _ 0 i (by unfold D4;rw[hc];simp only[if_true];rw[hd,l]) (by omega) (by omega) (by omega) (A8P w h f hc (by have:=A5n hd;omega))
    | some d =>
      by_cases hx:d=120
      .subst hx
       have n:D4 s.data.toList i=A0P s.data.toList i:=by unfold D4;rw[hc];simp only[if_true];rw[hd];simp only[if_true]
       rw[n];exact B4W w h f hc hd
      .by_cases b:d∈X0
       .exact m6 _ _ (by unfold D4;rw[hc];simp only[if_true];rw[hd];simp only[if_neg hx,if_pos b]) (A5A w h f hc hd (by simpa using b))
       .exact bad _ 0 i (by unfold D4;rw[hc];simp only[if_true];rw[hd];simp only[if_neg hx,if_neg b]) (by omega) (by omega) (by omega) (B0D w h f hc hd (by simpa using b) hx)
   .have o:=c.toNat_lt
    by_cases g:c.toNat<32
    .exact bad _ c.toNat (i+1) (by unfold D4;rw[hc];simp only[if_neg h92,if_pos (show c.toNat<32\/126<c.toNat\/c∈X0 from .inl g)]) o (by omega) (by omega) (B4V w h f hc h92 (by simp;omega))
    .by_cases m:126<c.toNat
     .exact bad _ c.toNat (i+1) (by unfold D4;rw[hc];simp only[if_neg h92,if_pos (show c.toNat<32\/126<c.toNat\/c∈X0 from .inr (.inl m))]) o (by omega) (by omega) (B2f w h f hc h92 (by simp;omega) (by simp;omega))
     .by_cases b:c∈X0
      .exact bad _ c.toNat (i+1) (by unfold D4;rw[hc];simp only[if_neg h92,if_pos (show c.toNat<32\/126<c.toNat\/c∈X0 from .inr (.inr b))]) o (by omega) (by omega) (A7N w h f hc h92 (by simp;omega) (by simp;omega) (by simpa using b))
      .exact m6 _ _ (by unfold D4;rw[hc];simp only[if_neg h92];rw[if_neg (by rintro (q | q | q);exact g q;exact m q;exact b q)]) (B0B w h f hc h92 (by simp;omega) (by simp;omega) (by simpa using b))
end Go.Proofs.YthhcpbfgoofppaaGreatDoor
namespace Wf
def H9(c:X4)(a:Nat):Nat->X4
 | 0=>c
 | n+1=>o2 (H9 c a n) (a+n)
theorem A6c{c:X4}(h:P5 c)(a:Nat):∀n,P5 (H9 c a n)
 | 0=>h
 | n+1=>A8 (A6c h a n) _
theorem A6y(c:X4)(a x:Nat)(d:x<256):∀n,a+n<=256->has (H9 c a n) x=(has c x || decide (a<=x/\x<a+n))
 | 0,_=>by
   have:decide (a<=x/\x<a+0)=false:=by simp
   rw[this];simp[H9]
 | n+1,h=>by
   rw[H9,A3c _ _ _ (by omega) d,A6y c a x d n (by omega),Bool.eq_iff_iff];simp;constructor
   .rintro ((b|b)|b)
    .exact .inl b
    .exact .inr (by omega)
    .exact .inr (by omega)
   .rintro (b|b)
    .exact .inl (.inl b)
    .by_cases e:x=a+n
     .exact .inr e
     .exact .inl (.inr (by omega))
theorem A9z{c:X4}(h:P5 c){a d:Nat}(k:a<=d)(g:d<256):H9 c a (d+1 - a)=M9 c (V9 a d):=by
 refine A3k (A6c h _ _) (A1e h (A17 _ _)) λx f=>?_
 rw[A6y c a x f _ (by omega),B0e,B5I g f,Bool.eq_iff_iff];simp;constructor
 .rintro (b|b)
  .exact .inl b
  .exact .inr (by omega)
 .rintro (b|b)
  .exact .inl b
  .exact .inr (by omega)
def A4J(bad:Option Nat)(n:Nat):Nat:=match bad with
 | none=>n+1
 | some _=>0
def A1V(s:List U_)(i j:Nat)(c:X4):Option Nat->Prop
 | none=>J3 s i zc=J3 s j c/\i<=j/\j<=s.length
 | some k=>J3 s i zc=.bad k/\i<=j/\j<=s.length+1
theorem F4(n:Nat):A4J none n=n+1:=rfl
theorem A1V.end_{s:List U_}{i j:Nat}{c:X4}(h:A1V s i j c none)(a:s[j]?=some 93):J3 s i zc=.ok c (j+1):=by rw[h.1,j9 c a]
theorem A5X{s:List U_}{j k:Nat}(h:D4 s j=.bad k):W5 s j=.bad k:=by unfold W5;rw[h]
theorem A6u{s:List U_}{j b a:Nat}(h:D4 s j=.ok a b)(c:s[b]?≠some 45):W5 s j=.ok (a,a) b:=by unfold W5;rw[h];simp only[if_neg c]
theorem A5W{s:List U_}{j b a k:Nat}(h:D4 s j=.ok a b)(c:s[b]?=some 45)(d:D4 s (b+1)=.bad k):W5 s j=.bad k:=by unfold W5;rw[h];simp only[if_pos c];rw[d]
theorem A6v{s:List U_}{j c a b f:Nat}(h:D4 s j=.ok a c)(d:s[c]?=some 45)(k:D4 s (c+1)=.ok b f)(g:b<a):W5 s j=.bad j:=by unfold W5;rw[h];simp only[if_pos d];rw[k];simp only[if_pos g]
theorem A6t{s:List U_}{j c a b f:Nat}(h:D4 s j=.ok a c)(d:s[c]?=some 45)(k:D4 s (c+1)=.ok b f)(g:¬b<a):W5 s j=.ok (a,b) f:=by unfold W5;rw[h];simp only[if_pos d];rw[k];simp only[if_neg g]
theorem A1V.bad{s:List U_}{i j j' k:Nat}{c f:X4}(h:A1V s i j c none)(b:s[j]?≠some 93)(a:W5 s j=.bad k)(g:j<=j')(d:j'<=s.length+1):A1V s i j' f (some k) :=
 ⟨by rw[h.1,q8 c b a],by have:=h.2.1;omega,d⟩
theorem A1V.more{s:List U_}{i j j' a b:Nat}{c:X4}(h:A1V s i j c none)(g:P5 c)(f:s[j]?≠some 93)(d:W5 s j=.ok (a,b) j'):A1V s i j' (H9 c a (b+1 - a)) none:=by
 obtain⟨n,m,l,k⟩:=A0A d;exact⟨by rw[h.1,s9 c f d,A9z g l k],by have:=h.2.1;omega,m⟩
end Wf
namespace Go.Proofs.YthhcpbfgoofppaaGreatDoor
open Go.RowKit Wf
theorem RW.local{w0 w:W_}{rb i:Nat}{bad:Option Nat}{s:B_}(h:RW w0 rb s i bad w){p:Addr}(c:w0.heap.size<=p.block)(u:V_):RW w0 rb s i bad (w.setCell p u):=by
 have hlt:=h.lt;exact⟨h.par.far (by omega) u,⟨h.grow.os,h.grow.tape,h.grow.output,by simpa using h.grow.size,λq a b=>(Below.heap_setCell w p u q (by omega)).trans (h.grow.block q a b)⟩,h.lt⟩
theorem J0.grown{w w':W_}{g rb:Nat}{t:TypeId}{cs:Array V_}(h:J0 w g t cs)(b:w.grownBy w' (some rb))(a:g≠rb):J0 w' g t cs:=(b.block g (J0.lt h) (λe=>a (Option.some.inj e))).trans h
def A7C(r:PR X4)(rb:Nat)(s:B_)(i:Nat)(w:W_)(e:Ending)(w':W_):Prop :=
 ∃d c b a j:Nat,∃bad,e=.returned (.agg #[.int .u64 d,.int .u64 c,.int .u64 b,.int .u64 a])/\P5 (d,c,b,a)/\RW w rb s j bad w' /\
  ((bad=none/\r=.ok (d,c,b,a) j/\i<j/\j<=s.size)\/(∃k,bad=some k/\r=.bad k/\i<=j/\j<=s.size+1))
structure W7 (w:W_) (rb:Nat) (s:B_) (c0 c1 c2 c3:Nat) (j:Nat) (bad:Option Nat) (wr:W_):Prop where
 rd:RW w rb s j bad wr
 b2:J0 wr w.heap.size 112 #[.int .u64 0,.int .u64 0,.int .u64 0,.int .u64 0]
 b3:J0 wr (w.heap.size+1) 112 #[.int .u64 c0,.int .u64 c1,.int .u64 c2,.int .u64 c3]
section
variable {w wr w':W_} {rb j j' c0 c1 c2 c3:Nat} {bad bad':Option Nat} {s:B_}
theorem W7.call(h:W7 w rb s c0 c1 c2 c3 j bad wr)(a:RW wr rb s j' bad' w'):W7 w rb s c0 c1 c2 c3 j' bad' w' :=
 ⟨h.rd.trans a,J0.grown h.b2 a.grow (by have:=h.rd.lt;omega),J0.grown h.b3 a.grow (by have:=h.rd.lt;omega)⟩
theorem W7.below(h:W7 w rb s c0 c1 c2 c3 j bad wr)(a:Below wr.heap.size wr w'):W7 w rb s c0 c1 c2 c3 j bad w' :=
 ⟨h.rd.below a,h.b2.kept a,h.b3.kept a⟩
theorem W7.at(h:W7 w rb s c0 c1 c2 c3 j bad wr)(j':Nat):W7 w rb s c0 c1 c2 c3 j' bad (wr.setCell ⟨rb,1,none⟩ (.int .i64 j')) :=
 h.call (h.rd.here.at j')
theorem W7.put(h:W7 w rb s c0 c1 c2 c3 j bad wr)(d c b a:Nat):W7 w rb s d c b a j bad ((((wr.setCell ⟨w.heap.size+1,0,none⟩ (.int .u64 d)).setCell ⟨w.heap.size+1,1,none⟩ (.int .u64 c)).setCell ⟨w.heap.size+1,2,none⟩ (.int .u64 b)).setCell ⟨w.heap.size+1,3,none⟩ (.int .u64 a)) :=
 ⟨(((h.rd.local (by simp) _).local (by simp) _).local (by simp) _).local (by simp) _,(((h.b2.far (by simp) _).far (by simp) _).far (by simp) _).far (by simp) _,N3 h.b3 _ _ _ _⟩
theorem W7.res(h:W7 w rb s c0 c1 c2 c3 j bad wr)(d c b a:V_):J0 ((((wr.setCell ⟨w.heap.size,0,none⟩ d).setCell ⟨w.heap.size,1,none⟩ c).setCell ⟨w.heap.size,2,none⟩ b).setCell ⟨w.heap.size,3,none⟩ a) w.heap.size 112 #[d,c,b,a] /\
 RW w rb s j bad ((((wr.setCell ⟨w.heap.size,0,none⟩ d).setCell ⟨w.heap.size,1,none⟩ c).setCell ⟨w.heap.size,2,none⟩ b).setCell ⟨w.heap.size,3,none⟩ a) :=
 ⟨N3 h.b2 _ _ _ _,(((h.rd.local (by simp) _).local (by simp) _).local (by simp) _).local (by simp) _⟩
theorem W7.facts(h:W7 w rb s c0 c1 c2 c3 j bad wr):(wr.cell? ⟨rb,0,none⟩=some (.string s)/\wr.cell? ⟨rb,1,none⟩=some (.int .i64 j)/\wr.frozen? ⟨rb,1,none⟩=false) /\
 (wr.cell? ⟨w.heap.size+1,0,none⟩=some (.int .u64 c0)/\wr.cell? ⟨w.heap.size+1,1,none⟩=some (.int .u64 c1)/\wr.cell? ⟨w.heap.size+1,2,none⟩=some (.int .u64 c2)/\wr.cell? ⟨w.heap.size+1,3,none⟩=some (.int .u64 c3)) /\
 (wr.frozen? ⟨w.heap.size+1,0,none⟩=false/\wr.frozen? ⟨w.heap.size+1,1,none⟩=false/\wr.frozen? ⟨w.heap.size+1,2,none⟩=false/\wr.frozen? ⟨w.heap.size+1,3,none⟩=false) /\
 (wr.cell? ⟨w.heap.size,0,none⟩=some (.int .u64 0)/\wr.cell? ⟨w.heap.size,1,none⟩=some (.int .u64 0)/\wr.cell? ⟨w.heap.size,2,none⟩=some (.int .u64 0)/\wr.cell? ⟨w.heap.size,3,none⟩=some (.int .u64 0))/\(wr.frozen? ⟨w.heap.size,0,none⟩=false/\wr.frozen? ⟨w.heap.size,1,none⟩=false/\wr.frozen? ⟨w.heap.size,2,none⟩=false/\wr.frozen? ⟨w.heap.size,3,none⟩=false) :=
 ⟨⟨h.rd.c0,h.rd.c1,h.rd.f1⟩,(V1 h.b3).1,(V1 h.b3).2,(V1 h.b2).1,(V1 h.b2).2⟩
theorem W7.bad2{k:Nat}(h:W7 w rb s c0 c1 c2 c3 j (some k) wr):wr.cell? ⟨rb,2,none⟩=some (.int .i64 k):=h.rd.c2
theorem W7.good2(h:W7 w rb s c0 c1 c2 c3 j none wr):wr.cell? ⟨rb,2,none⟩=some (.int .i64 (-1)):=h.rd.c2
end
theorem W7.start{w:W_}{rb i:Nat}{s:B_}(h:RW w rb s i none w):W7 w rb s 0 0 0 0 i none ((w.alloc (.cells #[.int .u64 0,.int .u64 0,.int .u64 0,.int .u64 0] 112)).alloc (.cells #[.int .u64 0,.int .u64 0,.int .u64 0,.int .u64 0] 112)) :=
 ⟨(h.below ba_).below ba_,(J0.new _ _ _).alloc _,by have h:=J0.new (w.alloc (.cells #[.int .u64 0,.int .u64 0,.int .u64 0,.int .u64 0] 112)) 112 #[.int .u64 0,.int .u64 0,.int .u64 0,.int .u64 0];rw[World.size_alloc] at h;exact h⟩
theorem B6z{rb:Nat}{s:B_}{i:Nat}(w:W_)(h:RW w rb s i none w)(hs:s.size<=200)(hi:i<=s.size)(aG:s.data.toList[i]?=some 94):
 Calls prog 166 #[.pointer (some ⟨rb,0,none⟩)] w (A7C (P2 s.data.toList i) rb s i w):=by
 obtain⟨L,hL⟩:∃L,L=s.data.toList:=⟨_,rfl⟩
 have bf:L.length=s.size:=by rw[hL];simp
 have ac:=hid bf;have aH:Hid (∀(c:U_)(j:Nat) W,L[j]?=some c->RW W rb s j none W->Calls prog 135 #[.pointer (some ⟨rb,0,none⟩),.int .u8 c.toNat] W (Q5 true W)):=hid λc j W hc hw=>A2Z W hw hs (by rw[←hL];exact hc)
 have aS:Hid (∀(c:U_)(j:Nat) W,j<=s.size->L[j]?≠some c->RW W rb s j none W->Calls prog 135 #[.pointer (some ⟨rb,0,none⟩),.int .u8 c.toNat] W (Q5 false W)):=hid λc j W hj hc hw=>A3P W hw hs hj (by rw[←hL];exact hc)
 have bh:Hid (∀(c j k:Nat) W,RW W rb s j (some k) W->Calls prog 135 #[.pointer (some ⟨rb,0,none⟩),.int .u8 c] W (Q5 false W)):=hid λc j k W hw=>A2a c W hw
 have aU:Hid (∀j W,j<=s.size->RW W rb s j none W->Calls prog 168 #[.pointer (some ⟨rb,0,none⟩)] W (A09 (D4 L j) rb s j W)):=hid λj W hj hw=>by rw[hL];exact B0C W hw hs hj
 have bi:Hid (∀j (k:Nat) W,RW W rb s j none W->Calls prog 97 #[.pointer (some ⟨rb,0,none⟩),.int .i64 k] W (D5 rb s j (some k) W)):=hid λj k W hw=>A0d W hw k
 have aR:Hid (∀(c0 c1 c2 c3 b:Nat)(W:W_),P5 (c0,c1,c2,c3)->b<256->Calls prog 132 #[.agg #[.int .u64 c0,.int .u64 c1,.int .u64 c2,.int .u64 c3],.int .i64 b] W (M5 (o2 (c0,c1,c2,c3) b) W)):=hid λc0 c1 c2 c3 b W h1 h2=>A1S c0 c1 c2 c3 b W h1 h2
 have aT:Hid (∀(c0 c1 c2 c3:Nat)(W:W_),P5 (c0,c1,c2,c3)->Calls prog 92 #[.agg #[.int .u64 c0,.int .u64 c1,.int .u64 c2,.int .u64 c3]] W (M5 (p8 (c0,c1,c2,c3)) W)):=hid λc0 c1 c2 c3 W h1=>A2N c0 c1 c2 c3 W h1
 unfold Q5 at aH aS bh;unfold A09 O6 at aU;unfold D5 at bi;unfold M5 at aR aT;have aY:=hid (W7.start h);have bM:=h.lt;have h94':L[i]?=some 94:=by rw[hL];exact aG
 have aD:∀c j,J3 L (i+1) zc=.ok c j->P2 s.data.toList i=.ok (p8 c) j:=by
  intro c j hq;unfold P2;rw[if_pos aG,←hL,hq]
 have aE:∀k,J3 L (i+1) zc=.bad k->P2 s.data.toList i=.bad k:=by
  intro k hq;unfold P2;rw[if_pos aG,←hL,hq]
 obtain⟨Q,hQ⟩:∃Q,Q=P2 s.data.toList i:=⟨_,rfl⟩
 rw[←hQ] at aD aE ⊢;obtain⟨i0,aO⟩:∃i0,i0=i+1:=⟨_,rfl⟩
 have bc:i<=i0/\i0<=i+1/\i0<=s.size:=by(have:=V0 h94';omega)
 have bC:=hid aO;rw[←aO] at aD aE;have bz:=hid aD;have bA:=hid aE;have bD:=hid h94';obtain⟨bH,bG,bd⟩:=bc;clear h aG h94' hL bf hQ aO aD aE;unfold A7C;go_enter func166,ntmps166;go_wp2_with fail;refine(aH.out 94 i _ bD.out aY.out.rd.here).mono ?_;rintro e w1⟨rfl,be⟩;have aX:=hid (aY.out.below be);clear be;obtain⟨⟨C,B,A⟩,⟨z,y,r,q⟩,⟨p,o,n,m⟩,⟨G,F,E,D⟩,l,g,f,d⟩:=aX.out.facts;go_wp2_with fail;clear C B A z y r q p o n m l g f d G F E D;have bj:Hid (W7 w rb s 0 0 0 0 i0 none (w1.setCell ⟨rb,1,none⟩ (.int .i64 ((i:Int)+1)))):=hid (by rw[bC.out];have:=aX.out.at (i+1);push_cast at this;exact this)
 go_loopg [5] (s.size+2) (λgk _ wr=>∃(j c0 c1 c2 c3:Nat)(bad:Option Nat),P5 (c0,c1,c2,c3)/\Hid (A1V L i0 j (c0,c1,c2,c3) bad)/\Hid (W7 w rb s c0 c1 c2 c3 j bad wr)/\Hid (A4J bad (s.size - j)<gk))
 case atStart=>exact⟨i0,0,0,0,0,none,N6,hid ⟨rfl,lr_ _,by rw[ac.out];exact bd⟩,bj,hid (by rw[F4];omega)⟩
 case round =>
  obtain⟨j,c0,c1,c2,c3,bad,P,H,HB,HG⟩:=hrel;clear aY aX bj;cases bad with
  | some k =>
    have O:=HB.out.bad2;have dk:decide ((k:Int)<0)=false:=by simp
    have HE:Hid (Q=.bad k/\i<=j/\j<=s.size+1):=hid ⟨bA.out _ H.out.1,by have:=H.out.2.1;omega,by have:=H.out.2.2;rw[ac.out] at this;exact this⟩;clear HG H;obtain⟨⟨C,B,A⟩,⟨z,y,r,q⟩,⟨p,o,n,m⟩,⟨G,F,E,D⟩,l,g,f,d⟩:=HB.out.facts;go_wp2_with fail;refine(aT.out c0 c1 c2 c3 _ P).mono ?_;rintro e wt⟨d0,d1,d2,d3,rfl,hd,av⟩;have HD:=hid hd;have az:=hid (HB.out.below av);clear hd av;clear C B A z y r q p o n m l g f d G F E D;obtain⟨⟨C,B,A⟩,⟨z,y,r,q⟩,⟨p,o,n,m⟩,⟨G,F,E,D⟩,l,g,f,d⟩:=az.out.facts;go_wp2_with fail;obtain⟨ap,aL⟩:=az.out.res (.int .u64 d0) (.int .u64 d1) (.int .u64 d2) (.int .u64 d3);refine bodyPost_ret (v:=.agg #[.int .u64 d0,.int .u64 d1,.int .u64 d2,.int .u64 d3]) ?_ rfl ?_
    .obtain⟨h0,h1,h2,h3⟩:=(V1 ap).1
     simp[results,results166,go_sem,h0,h1,h2,h3]
    .exact⟨d0,d1,d2,d3,_,_,rfl,by rw[HD.out];exact A0O _,aL,.inr ⟨k,rfl,HE.out.1,HE.out.2.1,HE.out.2.2⟩⟩
  | none =>
    have O:=HB.out.good2;have aM:=H.out.2.2;have bP:=H.out.2.1;rw[ac.out] at aM;obtain⟨⟨C,B,A⟩,⟨z,y,r,q⟩,⟨p,o,n,m⟩,⟨G,F,E,D⟩,l,g,f,d⟩:=HB.out.facts;by_cases hg:L[j]?=some 93
    .have HE:Hid (Q=.ok (p8 (c0,c1,c2,c3)) (j+1)):=hid (bz.out _ _ (H.out.end_ hg))
     have aN:j+1<=s.size:=by have:=V0 hg;rw[ac.out] at this;omega
     go_wp2_with fail;refine(aH.out 93 j _ hg HB.out.rd.here).mono ?_;rintro e w3⟨rfl,aw⟩;have ad:=hid (HB.out.below aw);clear aw O HG H;clear C B A z y r q p o n m l g f d G F E D;obtain⟨⟨C,B,A⟩,⟨z,y,r,q⟩,⟨p,o,n,m⟩,⟨G,F,E,D⟩,l,g,f,d⟩:=ad.out.facts;have T:Hid (W7 w rb s c0 c1 c2 c3 (j+1) none (w3.setCell ⟨rb,1,none⟩ (.int .i64 ((j:Int)+1)))):=hid (by have:=ad.out.at (j+1);push_cast at this;exact this);clear C B A z y r q p o n m l g f d G F E D;obtain⟨⟨C,B,A⟩,⟨z,y,r,q⟩,⟨p,o,n,m⟩,⟨G,F,E,D⟩,l,g,f,d⟩:=ad.out.facts;go_wp2_with fail;refine(aT.out c0 c1 c2 c3 _ P).mono ?_;rintro e wt⟨d0,d1,d2,d3,rfl,hd,av⟩;have HD:=hid hd;have az:=hid (T.out.below av);clear hd av;clear C B A z y r q p o n m l g f d G F E D;obtain⟨⟨C,B,A⟩,⟨z,y,r,q⟩,⟨p,o,n,m⟩,⟨G,F,E,D⟩,l,g,f,d⟩:=az.out.facts;go_wp2_with fail;obtain⟨ap,aL⟩:=az.out.res (.int .u64 d0) (.int .u64 d1) (.int .u64 d2) (.int .u64 d3);refine bodyPost_ret (v:=.agg #[.int .u64 d0,.int .u64 d1,.int .u64 d2,.int .u64 d3]) ?_ rfl ?_
     .obtain⟨h0,h1,h2,h3⟩:=(V1 ap).1
      simp[results,results166,go_sem,h0,h1,h2,h3]
     .exact⟨d0,d1,d2,d3,_,_,rfl,by rw[HD.out];exact A0O _,aL,.inl ⟨rfl,by rw[HD.out];exact HE.out,by omega,aN⟩⟩
    .go_wp2_with fail
     refine(aS.out 93 j _ aM hg HB.out.rd.here).mono ?_;rintro e w3⟨rfl,aw⟩;have ad:=hid (HB.out.below aw);clear aw O;clear C B A z y r q p o n m l g f d G F E D;obtain⟨⟨C,B,A⟩,⟨z,y,r,q⟩,⟨p,o,n,m⟩,⟨G,F,E,D⟩,l,g,f,d⟩:=ad.out.facts;go_wp2_with fail;refine(aU.out j _ aM ad.out.rd.here).mono ?_;rintro e w4 (⟨a,V,ho,ha,aN,ba,rfl,ao⟩|⟨k,a,V,ho,ha,aN,bO,rfl,ao⟩)
     .have T:=hid (ad.out.call ao)
      clear ao;clear C B A z y r q p o n m l g f d G F E D;by_cases h45:L[V]?=some 45
      .have bb:V+1<=s.size:=by have:=V0 h45;rw[ac.out] at this;omega
       go_wp2_with fail;refine(aH.out 45 V _ h45 T.out.rd.here).mono ?_;rintro e w5⟨rfl,X⟩;have R:=hid (T.out.below X);clear X;obtain⟨⟨C,B,A⟩,⟨z,y,r,q⟩,⟨p,o,n,m⟩,⟨G,F,E,D⟩,l,g,f,d⟩:=R.out.facts;have aW:Hid (W7 w rb s c0 c1 c2 c3 (V+1) none (w5.setCell ⟨rb,1,none⟩ (.int .i64 ((V:Int)+1)))):=hid (by have:=R.out.at (V+1);push_cast at this;exact this);go_wp2_with fail;refine(aU.out (V+1) _ bb aW.out.rd.here).mono ?_;rintro e w7 (⟨b,j2,aF,bt,bq,bF,rfl,am⟩|⟨k,b,j2,aF,bt,bq,bN,rfl,am⟩)
       .have N:=hid (aW.out.call am)
        clear am;clear C B A z y r q p o n m l g f d G F E D;by_cases hlow:b<a
        .have dg:=dt_ ((b:Int)<a)
         have O:=N.out.good2;obtain⟨⟨C,B,A⟩,⟨z,y,r,q⟩,⟨p,o,n,m⟩,⟨G,F,E,D⟩,l,g,f,d⟩:=N.out.facts;go_wp2_with fail;refine(bi.out j2 j _ N.out.rd.here).mono ?_;rintro e w8⟨rfl,a_⟩;have aV:=hid (N.out.call a_);clear a_ O;clear C B A z y r q p o n m l g f d G F E D;have HI:Hid (A1V L i0 (j2) (c0,c1,c2,c3) (some (j))):=hid (H.out.bad hg (A6v ho h45 aF hlow) (by omega) (by rw[ac.out];omega));have J:Hid (0<gk - 1):=hid (by have:=HG.out;rw[F4] at this;omega);clear H HG;have dk:decide ((j:Int)<0)=false:=by simp
         have O:=aV.out.bad2;obtain⟨⟨C,B,A⟩,⟨z,y,r,q⟩,⟨p,o,n,m⟩,⟨G,F,E,D⟩,l,g,f,d⟩:=aV.out.facts;go_wp2_with fail;clear C B A z y r q p o n m l g f d G F E D;clear O
         go_loopw [10] (λv10 wx=>v10=.int .i64 a/\Hid (W7 w rb s c0 c1 c2 c3 j2 (some (j)) wx)) (λ_ _=>0)
         case atStart=>exact⟨rfl,aV⟩
         case round =>
          obtain⟨rfl,HX⟩:=hrel;have O:=HX.out.bad2;obtain⟨⟨C,B,A⟩,⟨z,y,r,q⟩,⟨p,o,n,m⟩,⟨G,F,E,D⟩,l,g,f,d⟩:=HX.out.facts;have aQ:=df_ ((a:Int)<=b);go_wp2_with fail
          go_roundg (gk - 1)
          case rel=>exact⟨j2,c0,c1,c2,c3,some (j),P,HI,HX,J⟩
          all_goals (have:=J.out;omega)
        .obtain⟨⟨C,B,A⟩,⟨z,y,r,q⟩,⟨p,o,n,m⟩,⟨G,F,E,D⟩,l,g,f,d⟩:=N.out.facts
         have O:=N.out.good2;have dg:decide ((b:Int)<a)=false:=by simp <;> omega
         have J:Hid (s.size - j2+1<gk - 1):=hid (by have:=HG.out;rw[F4] at this;omega);clear HG;go_wp2_with fail;clear C B A z y r q p o n m l g f d G F E D;clear O dg
         go_loopw [10] (λv10 wx=>∃(t e0 e1 Z Y:Nat),a<=t/\t<=b+1/\v10=.int .i64 t/\P5 (e0,e1,Z,Y)/\Hid ((e0,e1,Z,Y)=H9 (c0,c1,c2,c3) a (t - a))/\Hid (W7 w rb s e0 e1 Z Y j2 none wx)) (λv _=>b+1 - (intOf v).toNat)
         case atStart=>exact⟨a,c0,c1,c2,c3,by omega,by omega,by go_num,P,hid (by rw[Nat.sub_self];rfl),N⟩
         case round =>
          obtain⟨t,e0,e1,Z,Y,bn,bm,rfl,M,HE,S⟩:=hrel;have O:=S.out.good2;obtain⟨⟨C,B,A⟩,⟨z,y,r,q⟩,⟨p,o,n,m⟩,⟨G,F,E,D⟩,l,g,f,d⟩:=S.out.facts;by_cases hlt:t<b+1
          .have dt:=dt_ ((t:Int)<=b)
           have aK:t<256:=by omega
           have HN:Hid (o2 (e0,e1,Z,Y) t=H9 (c0,c1,c2,c3) a (t+1 - a)):=hid (by rw[HE.out,show t+1 - a=(t - a)+1 by omega,H9,show a+(t - a)=t by omega]);go_wp2_with fail;refine(aR.out e0 e1 Z Y t _ M aK).mono ?_;rintro e wy⟨d0,d1,d2,d3,rfl,hd,au⟩;have HD:=hid hd;have ay:=hid (S.out.below au);clear hd au O;clear C B A z y r q p o n m l g f d G F E D;obtain⟨⟨C,B,A⟩,⟨z,y,r,q⟩,⟨p,o,n,m⟩,⟨G,F,E,D⟩,l,g,f,d⟩:=ay.out.facts;go_wp2_with fail;go_roundw
           case rel =>
            have aq:P5 (d0,d1,d2,d3):=by rw[HD.out];exact A8 M _
            exact⟨t+1,d0,d1,d2,d3,by omega,by omega,by go_num,aq,hid (by rw[HD.out,HN.out]),hid (ay.out.put d0 d1 d2 d3)⟩
           case measure=>simp[intOf];omega
          .obtain rfl:t=b+1:=by omega
           have dt:decide (((b+1:Nat):Int)<=(b:Int))=false:=by simp <;> omega
           have HI:Hid (A1V L i0 j2 (e0,e1,Z,Y) none):=hid (by rw[HE.out];exact H.out.more P hg (A6t ho h45 aF hlow));clear H;go_wp2_with fail
           go_roundg (gk - 1)
           case rel=>exact⟨j2,e0,e1,Z,Y,none,M,HI,S,hid (by rw[F4];exact J.out)⟩
           all_goals (have:=J.out;omega)
       .have N:=hid (aW.out.call am)
        clear am;clear C B A z y r q p o n m l g f d G F E D;have HI:Hid (A1V L i0 (j2) (c0,c1,c2,c3) (some (k))):=hid (H.out.bad hg (A5W ho h45 aF) (by omega) (by rw[ac.out];omega));have J:Hid (0<gk - 1):=hid (by have:=HG.out;rw[F4] at this;omega);clear H HG;have dk:decide ((k:Int)<0)=false:=by simp
        have O:=N.out.bad2;obtain⟨⟨C,B,A⟩,⟨z,y,r,q⟩,⟨p,o,n,m⟩,⟨G,F,E,D⟩,l,g,f,d⟩:=N.out.facts;go_wp2_with fail;clear C B A z y r q p o n m l g f d G F E D;clear O
        go_loopw [10] (λv10 wx=>v10=.int .i64 a/\Hid (W7 w rb s c0 c1 c2 c3 j2 (some (k)) wx)) (λ_ _=>0)
        case atStart=>exact⟨rfl,N⟩
        case round =>
         obtain⟨rfl,HX⟩:=hrel;have O:=HX.out.bad2;obtain⟨⟨C,B,A⟩,⟨z,y,r,q⟩,⟨p,o,n,m⟩,⟨G,F,E,D⟩,l,g,f,d⟩:=HX.out.facts;by_cases hab:a<=b
         .have aQ:=dt_ ((a:Int)<=b)
          go_wp2_with fail
          go_roundg (gk - 1)
          case rel=>exact⟨j2,c0,c1,c2,c3,some (k),P,HI,HX,J⟩
          all_goals (have:=J.out;omega)
         .have aQ:=df_ ((a:Int)<=b)
          go_wp2_with fail
          go_roundg (gk - 1)
          case rel=>exact⟨j2,c0,c1,c2,c3,some (k),P,HI,HX,J⟩
          all_goals (have:=J.out;omega)
      .go_wp2_with fail
       refine(aS.out 45 V _ ba h45 T.out.rd.here).mono ?_;rintro e w5⟨rfl,X⟩;have R:=hid (T.out.below X);clear X;obtain⟨⟨C,B,A⟩,⟨z,y,r,q⟩,⟨p,o,n,m⟩,⟨G,F,E,D⟩,l,g,f,d⟩:=R.out.facts;have O:=R.out.good2;have dg:decide ((a:Int)<a)=false:=by simp <;> omega
       have J:Hid (s.size - V+1<gk - 1):=hid (by have:=HG.out;rw[F4] at this;omega);clear HG;go_wp2_with fail;clear C B A z y r q p o n m l g f d G F E D;clear O dg
       go_loopw [10] (λv10 wx=>∃(t e0 e1 Z Y:Nat),a<=t/\t<=a+1/\v10=.int .i64 t/\P5 (e0,e1,Z,Y)/\Hid ((e0,e1,Z,Y)=H9 (c0,c1,c2,c3) a (t - a))/\Hid (W7 w rb s e0 e1 Z Y V none wx)) (λv _=>a+1 - (intOf v).toNat)
       case atStart=>exact⟨a,c0,c1,c2,c3,by omega,by omega,by go_num,P,hid (by rw[Nat.sub_self];rfl),R⟩
       case round =>
        obtain⟨t,e0,e1,Z,Y,bn,bm,rfl,M,HE,S⟩:=hrel;have O:=S.out.good2;obtain⟨⟨C,B,A⟩,⟨z,y,r,q⟩,⟨p,o,n,m⟩,⟨G,F,E,D⟩,l,g,f,d⟩:=S.out.facts;by_cases hlt:t<a+1
        .have dt:=dt_ ((t:Int)<=a)
         have aK:t<256:=by omega
         have HN:Hid (o2 (e0,e1,Z,Y) t=H9 (c0,c1,c2,c3) a (t+1 - a)):=hid (by rw[HE.out,show t+1 - a=(t - a)+1 by omega,H9,show a+(t - a)=t by omega]);go_wp2_with fail;refine(aR.out e0 e1 Z Y t _ M aK).mono ?_;rintro e wy⟨d0,d1,d2,d3,rfl,hd,au⟩;have HD:=hid hd;have ay:=hid (S.out.below au);clear hd au O;clear C B A z y r q p o n m l g f d G F E D;obtain⟨⟨C,B,A⟩,⟨z,y,r,q⟩,⟨p,o,n,m⟩,⟨G,F,E,D⟩,l,g,f,d⟩:=ay.out.facts;go_wp2_with fail;go_roundw
         case rel =>
          have aq:P5 (d0,d1,d2,d3):=by rw[HD.out];exact A8 M _
          exact⟨t+1,d0,d1,d2,d3,by omega,by omega,by go_num,aq,hid (by rw[HD.out,HN.out]),hid (ay.out.put d0 d1 d2 d3)⟩
         case measure=>simp[intOf];omega
        .obtain rfl:t=a+1:=by omega
         have dt:decide (((a+1:Nat):Int)<=(a:Int))=false:=by simp <;> omega
         have HI:Hid (A1V L i0 V (e0,e1,Z,Y) none):=hid (by rw[HE.out];exact H.out.more P hg (A6u ho h45));clear H;go_wp2_with fail
         go_roundg (gk - 1)
         case rel=>exact⟨V,e0,e1,Z,Y,none,M,HI,S,hid (by rw[F4];exact J.out)⟩
         all_goals (have:=J.out;omega)
     .have T:=hid (ad.out.call ao)
      clear ao;clear C B A z y r q p o n m l g f d G F E D;go_wp2_with fail;refine(bh.out 45 V k _ T.out.rd.here).mono ?_;rintro e w5⟨rfl,X⟩;have R:=hid (T.out.below X);clear X;have HI:Hid (A1V L i0 (V) (c0,c1,c2,c3) (some (k))):=hid (H.out.bad hg (A5X ho) (by omega) (by rw[ac.out];omega));have J:Hid (0<gk - 1):=hid (by have:=HG.out;rw[F4] at this;omega);clear H HG;have dk:decide ((k:Int)<0)=false:=by simp
      have O:=R.out.bad2;obtain⟨⟨C,B,A⟩,⟨z,y,r,q⟩,⟨p,o,n,m⟩,⟨G,F,E,D⟩,l,g,f,d⟩:=R.out.facts;go_wp2_with fail;clear C B A z y r q p o n m l g f d G F E D;clear O
      go_loopw [10] (λv10 wx=>v10=.int .i64 a/\Hid (W7 w rb s c0 c1 c2 c3 V (some (k)) wx)) (λ_ _=>0)
      case atStart=>exact⟨rfl,R⟩
      case round =>
       obtain⟨rfl,HX⟩:=hrel;have O:=HX.out.bad2;obtain⟨⟨C,B,A⟩,⟨z,y,r,q⟩,⟨p,o,n,m⟩,⟨G,F,E,D⟩,l,g,f,d⟩:=HX.out.facts;have aQ:decide ((a:Int)<=a)=true:=by simp
       go_wp2_with fail
       go_roundg (gk - 1)
       case rel=>exact⟨V,c0,c1,c2,c3,some (k),P,HI,HX,J⟩
       all_goals (have:=J.out;omega)
theorem B8i{rb:Nat}{s:B_}{i:Nat}(w:W_)(h:RW w rb s i none w)(hs:s.size<=200)(hi:i<=s.size)(ay:s.data.toList[i]?≠some 94):
 Calls prog 166 #[.pointer (some ⟨rb,0,none⟩)] w (A7C (P2 s.data.toList i) rb s i w):=by
 obtain⟨L,hL⟩:∃L,L=s.data.toList:=⟨_,rfl⟩
 have a_:L.length=s.size:=by rw[hL];simp
 have ac:=hid a_;have aN:Hid (∀(c:U_)(j:Nat) W,L[j]?=some c->RW W rb s j none W->Calls prog 135 #[.pointer (some ⟨rb,0,none⟩),.int .u8 c.toNat] W (Q5 true W)):=hid λc j W hc hw=>A2Z W hw hs (by rw[←hL];exact hc)
 have az:Hid (∀(c:U_)(j:Nat) W,j<=s.size->L[j]?≠some c->RW W rb s j none W->Calls prog 135 #[.pointer (some ⟨rb,0,none⟩),.int .u8 c.toNat] W (Q5 false W)):=hid λc j W hj hc hw=>A3P W hw hs hj (by rw[←hL];exact hc)
 have bc:Hid (∀(c j k:Nat) W,RW W rb s j (some k) W->Calls prog 135 #[.pointer (some ⟨rb,0,none⟩),.int .u8 c] W (Q5 false W)):=hid λc j k W hw=>A2a c W hw
 have aO:Hid (∀j W,j<=s.size->RW W rb s j none W->Calls prog 168 #[.pointer (some ⟨rb,0,none⟩)] W (A09 (D4 L j) rb s j W)):=hid λj W hj hw=>by rw[hL];exact B0C W hw hs hj
 have bd:Hid (∀j (k:Nat) W,RW W rb s j none W->Calls prog 97 #[.pointer (some ⟨rb,0,none⟩),.int .i64 k] W (D5 rb s j (some k) W)):=hid λj k W hw=>A0d W hw k
 have aM:Hid (∀(c0 c1 c2 c3 b:Nat)(W:W_),P5 (c0,c1,c2,c3)->b<256->Calls prog 132 #[.agg #[.int .u64 c0,.int .u64 c1,.int .u64 c2,.int .u64 c3],.int .i64 b] W (M5 (o2 (c0,c1,c2,c3) b) W)):=hid λc0 c1 c2 c3 b W h1 h2=>A1S c0 c1 c2 c3 b W h1 h2
 unfold Q5 at aN az bc;unfold A09 O6 at aO;unfold D5 at bd;unfold M5 at aM;have aR:=hid (W7.start h);have bI:=h.lt;have h94':L[i]?≠some 94:=by rw[hL];exact ay
 have av:∀c j,J3 L i zc=.ok c j->P2 s.data.toList i=.ok (c) j:=by
  intro c j hq;unfold P2;rw[if_neg ay,←hL,hq]
 have aw:∀k,J3 L i zc=.bad k->P2 s.data.toList i=.bad k:=by
  intro k hq;unfold P2;rw[if_neg ay,←hL,hq]
 obtain⟨Q,hQ⟩:∃Q,Q=P2 s.data.toList i:=⟨_,rfl⟩
 rw[←hQ] at av aw ⊢;obtain⟨i0,aG⟩:∃i0,i0=i:=⟨_,rfl⟩
 have aW:i<=i0/\i0<=i+1/\i0<=s.size:=by omega
 have bz:=hid aG;rw[←aG] at av aw;have bv:=hid av;have bw:=hid aw;have bA:=hid h94';obtain⟨bE,bD,aX⟩:=aW;clear h ay h94' hL a_ hQ aG av aw;unfold A7C;go_enter func166,ntmps166;go_wp2_with fail;refine(az.out 94 i _ (by omega) bA.out aR.out.rd.here).mono ?_;rintro e w1⟨rfl,aZ⟩;have bg:=hid (aR.out.below aZ);clear aZ;go_wp2_with fail;have bf:Hid (W7 w rb s 0 0 0 0 i0 none w1):=hid (by rw[bz.out];exact bg.out)
 go_loopg [5] (s.size+2) (λgk _ wr=>∃(j c0 c1 c2 c3:Nat)(bad:Option Nat),P5 (c0,c1,c2,c3)/\Hid (A1V L i0 j (c0,c1,c2,c3) bad)/\Hid (W7 w rb s c0 c1 c2 c3 j bad wr)/\Hid (A4J bad (s.size - j)<gk))
 case atStart=>exact⟨i0,0,0,0,0,none,N6,hid ⟨rfl,lr_ _,by rw[ac.out];exact aX⟩,bf,hid (by rw[F4];omega)⟩
 case round =>
  obtain⟨j,c0,c1,c2,c3,bad,P,d,HB,HG⟩:=hrel;clear aR bg bf;cases bad with
  | some k =>
    have O:=HB.out.bad2;have dk:decide ((k:Int)<0)=false:=by simp
    have HE:Hid (Q=.bad k/\i<=j/\j<=s.size+1):=hid ⟨bw.out _ d.out.1,by have:=d.out.2.1;omega,by have:=d.out.2.2;rw[ac.out] at this;exact this⟩;clear HG d;obtain⟨⟨D,C,B⟩,⟨A,z,y,r⟩,⟨q,p,o,n⟩,⟨H,G,F,E⟩,m,l,g,f⟩:=HB.out.facts;go_wp2_with fail;obtain⟨ak,aD⟩:=HB.out.res (.int .u64 c0) (.int .u64 c1) (.int .u64 c2) (.int .u64 c3);refine bodyPost_ret (v:=.agg #[.int .u64 c0,.int .u64 c1,.int .u64 c2,.int .u64 c3]) ?_ rfl ?_
    .obtain⟨h0,h1,h2,h3⟩:=(V1 ak).1
     simp[results,results166,go_sem,h0,h1,h2,h3]
    .exact⟨c0,c1,c2,c3,_,_,rfl,P,aD,.inr ⟨k,rfl,HE.out.1,HE.out.2.1,HE.out.2.2⟩⟩
  | none =>
    have O:=HB.out.good2;have aE:=d.out.2.2;have bL:=d.out.2.1;rw[ac.out] at aE;obtain⟨⟨D,C,B⟩,⟨A,z,y,r⟩,⟨q,p,o,n⟩,⟨H,G,F,E⟩,m,l,g,f⟩:=HB.out.facts;by_cases hg:L[j]?=some 93
    .have HE:Hid (Q=.ok ((c0,c1,c2,c3)) (j+1)):=hid (bv.out _ _ (d.out.end_ hg))
     have aF:j+1<=s.size:=by have:=V0 hg;rw[ac.out] at this;omega
     go_wp2_with fail;refine(aN.out 93 j _ hg HB.out.rd.here).mono ?_;rintro e w3⟨rfl,ao⟩;have ad:=hid (HB.out.below ao);clear ao O HG d;clear D C B A z y r q p o n m l g f H G F E;obtain⟨⟨D,C,B⟩,⟨A,z,y,r⟩,⟨q,p,o,n⟩,⟨H,G,F,E⟩,m,l,g,f⟩:=ad.out.facts;have T:Hid (W7 w rb s c0 c1 c2 c3 (j+1) none (w3.setCell ⟨rb,1,none⟩ (.int .i64 ((j:Int)+1)))):=hid (by have:=ad.out.at (j+1);push_cast at this;exact this);clear D C B A z y r q p o n m l g f H G F E;obtain⟨⟨D,C,B⟩,⟨A,z,y,r⟩,⟨q,p,o,n⟩,⟨H,G,F,E⟩,m,l,g,f⟩:=ad.out.facts;go_wp2_with fail;obtain⟨ak,aD⟩:=T.out.res (.int .u64 c0) (.int .u64 c1) (.int .u64 c2) (.int .u64 c3);refine bodyPost_ret (v:=.agg #[.int .u64 c0,.int .u64 c1,.int .u64 c2,.int .u64 c3]) ?_ rfl ?_
     .obtain⟨h0,h1,h2,h3⟩:=(V1 ak).1
      simp[results,results166,go_sem,h0,h1,h2,h3]
     .exact⟨c0,c1,c2,c3,_,_,rfl,P,aD,.inl ⟨rfl,by exact HE.out,by omega,aF⟩⟩
    .go_wp2_with fail
     refine(az.out 93 j _ aE hg HB.out.rd.here).mono ?_;rintro e w3⟨rfl,ao⟩;have ad:=hid (HB.out.below ao);clear ao O;clear D C B A z y r q p o n m l g f H G F E;obtain⟨⟨D,C,B⟩,⟨A,z,y,r⟩,⟨q,p,o,n⟩,⟨H,G,F,E⟩,m,l,g,f⟩:=ad.out.facts;go_wp2_with fail;refine(aO.out j _ aE ad.out.rd.here).mono ?_;rintro e w4 (⟨a,V,ho,ha,aF,aU,rfl,aj⟩|⟨k,a,V,ho,ha,aF,bK,rfl,aj⟩)
     .have T:=hid (ad.out.call aj)
      clear aj;clear D C B A z y r q p o n m l g f H G F E;by_cases h45:L[V]?=some 45
      .have aV:V+1<=s.size:=by have:=V0 h45;rw[ac.out] at this;omega
       go_wp2_with fail;refine(aN.out 45 V _ h45 T.out.rd.here).mono ?_;rintro e w5⟨rfl,X⟩;have R:=hid (T.out.below X);clear X;obtain⟨⟨D,C,B⟩,⟨A,z,y,r⟩,⟨q,p,o,n⟩,⟨H,G,F,E⟩,m,l,g,f⟩:=R.out.facts;have aQ:Hid (W7 w rb s c0 c1 c2 c3 (V+1) none (w5.setCell ⟨rb,1,none⟩ (.int .i64 ((V:Int)+1)))):=hid (by have:=R.out.at (V+1);push_cast at this;exact this);go_wp2_with fail;refine(aO.out (V+1) _ aV aQ.out.rd.here).mono ?_;rintro e w7 (⟨b,j2,ax,bq,bn,bC,rfl,ai⟩|⟨k,b,j2,ax,bq,bn,bJ,rfl,ai⟩)
       .have N:=hid (aQ.out.call ai)
        clear ai;clear D C B A z y r q p o n m l g f H G F E;by_cases hlow:b<a
        .have dg:=dt_ ((b:Int)<a)
         have O:=N.out.good2;obtain⟨⟨D,C,B⟩,⟨A,z,y,r⟩,⟨q,p,o,n⟩,⟨H,G,F,E⟩,m,l,g,f⟩:=N.out.facts;go_wp2_with fail;refine(bd.out j2 j _ N.out.rd.here).mono ?_;rintro e w8⟨rfl,aT⟩;have aP:=hid (N.out.call aT);clear aT O;clear D C B A z y r q p o n m l g f H G F E;have HI:Hid (A1V L i0 (j2) (c0,c1,c2,c3) (some (j))):=hid (d.out.bad hg (A6v ho h45 ax hlow) (by omega) (by rw[ac.out];omega));have J:Hid (0<gk - 1):=hid (by have:=HG.out;rw[F4] at this;omega);clear d HG;have dk:decide ((j:Int)<0)=false:=by simp
         have O:=aP.out.bad2;obtain⟨⟨D,C,B⟩,⟨A,z,y,r⟩,⟨q,p,o,n⟩,⟨H,G,F,E⟩,m,l,g,f⟩:=aP.out.facts;go_wp2_with fail;clear D C B A z y r q p o n m l g f H G F E;clear O
         go_loopw [10] (λv10 wx=>v10=.int .i64 a/\Hid (W7 w rb s c0 c1 c2 c3 j2 (some (j)) wx)) (λ_ _=>0)
         case atStart=>exact⟨rfl,aP⟩
         case round =>
          obtain⟨rfl,HX⟩:=hrel;have O:=HX.out.bad2;obtain⟨⟨D,C,B⟩,⟨A,z,y,r⟩,⟨q,p,o,n⟩,⟨H,G,F,E⟩,m,l,g,f⟩:=HX.out.facts;have aH:=df_ ((a:Int)<=b);go_wp2_with fail
          go_roundg (gk - 1)
          case rel=>exact⟨j2,c0,c1,c2,c3,some (j),P,HI,HX,J⟩
          all_goals (have:=J.out;omega)
        .obtain⟨⟨D,C,B⟩,⟨A,z,y,r⟩,⟨q,p,o,n⟩,⟨H,G,F,E⟩,m,l,g,f⟩:=N.out.facts
         have O:=N.out.good2;have dg:decide ((b:Int)<a)=false:=by simp <;> omega
         have J:Hid (s.size - j2+1<gk - 1):=hid (by have:=HG.out;rw[F4] at this;omega);clear HG;go_wp2_with fail;clear D C B A z y r q p o n m l g f H G F E;clear O dg
         go_loopw [10] (λv10 wx=>∃(t e0 e1 Z Y:Nat),a<=t/\t<=b+1/\v10=.int .i64 t/\P5 (e0,e1,Z,Y)/\Hid ((e0,e1,Z,Y)=H9 (c0,c1,c2,c3) a (t - a))/\Hid (W7 w rb s e0 e1 Z Y j2 none wx)) (λv _=>b+1 - (intOf v).toNat)
         case atStart=>exact⟨a,c0,c1,c2,c3,by omega,by omega,by go_num,P,hid (by rw[Nat.sub_self];rfl),N⟩
         case round =>
          obtain⟨t,e0,e1,Z,Y,bk,bj,rfl,M,HE,S⟩:=hrel;have O:=S.out.good2;obtain⟨⟨D,C,B⟩,⟨A,z,y,r⟩,⟨q,p,o,n⟩,⟨H,G,F,E⟩,m,l,g,f⟩:=S.out.facts;by_cases hlt:t<b+1
          .have dt:=dt_ ((t:Int)<=b)
           have aC:t<256:=by omega
           have HN:Hid (o2 (e0,e1,Z,Y) t=H9 (c0,c1,c2,c3) a (t+1 - a)):=hid (by rw[HE.out,show t+1 - a=(t - a)+1 by omega,H9,show a+(t - a)=t by omega]);go_wp2_with fail;refine(aM.out e0 e1 Z Y t _ M aC).mono ?_;rintro e wy⟨d0,d1,d2,d3,rfl,hd,am⟩;have HD:=hid hd;have aq:=hid (S.out.below am);clear hd am O;clear D C B A z y r q p o n m l g f H G F E;obtain⟨⟨D,C,B⟩,⟨A,z,y,r⟩,⟨q,p,o,n⟩,⟨H,G,F,E⟩,m,l,g,f⟩:=aq.out.facts;go_wp2_with fail;go_roundw
           case rel =>
            have al:P5 (d0,d1,d2,d3):=by rw[HD.out];exact A8 M _
            exact⟨t+1,d0,d1,d2,d3,by omega,by omega,by go_num,al,hid (by rw[HD.out,HN.out]),hid (aq.out.put d0 d1 d2 d3)⟩
           case measure=>simp[intOf];omega
          .obtain rfl:t=b+1:=by omega
           have dt:decide (((b+1:Nat):Int)<=(b:Int))=false:=by simp <;> omega
           have HI:Hid (A1V L i0 j2 (e0,e1,Z,Y) none):=hid (by rw[HE.out];exact d.out.more P hg (A6t ho h45 ax hlow));clear d;go_wp2_with fail
           go_roundg (gk - 1)
           case rel=>exact⟨j2,e0,e1,Z,Y,none,M,HI,S,hid (by rw[F4];exact J.out)⟩
           all_goals (have:=J.out;omega)
       .have N:=hid (aQ.out.call ai)
        clear ai;clear D C B A z y r q p o n m l g f H G F E;have HI:Hid (A1V L i0 (j2) (c0,c1,c2,c3) (some (k))):=hid (d.out.bad hg (A5W ho h45 ax) (by omega) (by rw[ac.out];omega));have J:Hid (0<gk - 1):=hid (by have:=HG.out;rw[F4] at this;omega);clear d HG;have dk:decide ((k:Int)<0)=false:=by simp
        have O:=N.out.bad2;obtain⟨⟨D,C,B⟩,⟨A,z,y,r⟩,⟨q,p,o,n⟩,⟨H,G,F,E⟩,m,l,g,f⟩:=N.out.facts;go_wp2_with fail;clear D C B A z y r q p o n m l g f H G F E;clear O
        go_loopw [10] (λv10 wx=>v10=.int .i64 a/\Hid (W7 w rb s c0 c1 c2 c3 j2 (some (k)) wx)) (λ_ _=>0)
        case atStart=>exact⟨rfl,N⟩
        case round =>
         obtain⟨rfl,HX⟩:=hrel;have O:=HX.out.bad2;obtain⟨⟨D,C,B⟩,⟨A,z,y,r⟩,⟨q,p,o,n⟩,⟨H,G,F,E⟩,m,l,g,f⟩:=HX.out.facts;by_cases hab:a<=b
         .have aH:=dt_ ((a:Int)<=b)
          go_wp2_with fail
          go_roundg (gk - 1)
          case rel=>exact⟨j2,c0,c1,c2,c3,some (k),P,HI,HX,J⟩
          all_goals (have:=J.out;omega)
         .have aH:=df_ ((a:Int)<=b)
          go_wp2_with fail
          go_roundg (gk - 1)
          case rel=>exact⟨j2,c0,c1,c2,c3,some (k),P,HI,HX,J⟩
          all_goals (have:=J.out;omega)
      .go_wp2_with fail
       refine(az.out 45 V _ aU h45 T.out.rd.here).mono ?_;rintro e w5⟨rfl,X⟩;have R:=hid (T.out.below X);clear X;obtain⟨⟨D,C,B⟩,⟨A,z,y,r⟩,⟨q,p,o,n⟩,⟨H,G,F,E⟩,m,l,g,f⟩:=R.out.facts;have O:=R.out.good2;have dg:decide ((a:Int)<a)=false:=by simp <;> omega
       have J:Hid (s.size - V+1<gk - 1):=hid (by have:=HG.out;rw[F4] at this;omega);clear HG;go_wp2_with fail;clear D C B A z y r q p o n m l g f H G F E;clear O dg
       go_loopw [10] (λv10 wx=>∃(t e0 e1 Z Y:Nat),a<=t/\t<=a+1/\v10=.int .i64 t/\P5 (e0,e1,Z,Y)/\Hid ((e0,e1,Z,Y)=H9 (c0,c1,c2,c3) a (t - a))/\Hid (W7 w rb s e0 e1 Z Y V none wx)) (λv _=>a+1 - (intOf v).toNat)
       case atStart=>exact⟨a,c0,c1,c2,c3,by omega,by omega,by go_num,P,hid (by rw[Nat.sub_self];rfl),R⟩
       case round =>
        obtain⟨t,e0,e1,Z,Y,bk,bj,rfl,M,HE,S⟩:=hrel;have O:=S.out.good2;obtain⟨⟨D,C,B⟩,⟨A,z,y,r⟩,⟨q,p,o,n⟩,⟨H,G,F,E⟩,m,l,g,f⟩:=S.out.facts;by_cases hlt:t<a+1
        .have dt:=dt_ ((t:Int)<=a)
         have aC:t<256:=by omega
         have HN:Hid (o2 (e0,e1,Z,Y) t=H9 (c0,c1,c2,c3) a (t+1 - a)):=hid (by rw[HE.out,show t+1 - a=(t - a)+1 by omega,H9,show a+(t - a)=t by omega]);go_wp2_with fail;refine(aM.out e0 e1 Z Y t _ M aC).mono ?_;rintro e wy⟨d0,d1,d2,d3,rfl,hd,am⟩;have HD:=hid hd;have aq:=hid (S.out.below am);clear hd am O;clear D C B A z y r q p o n m l g f H G F E;obtain⟨⟨D,C,B⟩,⟨A,z,y,r⟩,⟨q,p,o,n⟩,⟨H,G,F,E⟩,m,l,g,f⟩:=aq.out.facts;go_wp2_with fail;go_roundw
         case rel =>
          have al:P5 (d0,d1,d2,d3):=by rw[HD.out];exact A8 M _
          exact⟨t+1,d0,d1,d2,d3,by omega,by omega,by go_num,al,hid (by rw[HD.out,HN.out]),hid (aq.out.put d0 d1 d2 d3)⟩
         case measure=>simp[intOf];omega
        .obtain rfl:t=a+1:=by omega
         have dt:decide (((a+1:Nat):Int)<=(a:Int))=false:=by simp <;> omega
         have HI:Hid (A1V L i0 V (e0,e1,Z,Y) none):=hid (by rw[HE.out];exact d.out.more P hg (A6u ho h45));clear d;go_wp2_with fail
         go_roundg (gk - 1)
         case rel=>exact⟨V,e0,e1,Z,Y,none,M,HI,S,hid (by rw[F4];exact J.out)⟩
         all_goals (have:=J.out;omega)
     .have T:=hid (ad.out.call aj)
      clear aj;clear D C B A z y r q p o n m l g f H G F E;go_wp2_with fail;refine(bc.out 45 V k _ T.out.rd.here).mono ?_;rintro e w5⟨rfl,X⟩;have R:=hid (T.out.below X);clear X;have HI:Hid (A1V L i0 (V) (c0,c1,c2,c3) (some (k))):=hid (d.out.bad hg (A5X ho) (by omega) (by rw[ac.out];omega));have J:Hid (0<gk - 1):=hid (by have:=HG.out;rw[F4] at this;omega);clear d HG;have dk:decide ((k:Int)<0)=false:=by simp
      have O:=R.out.bad2;obtain⟨⟨D,C,B⟩,⟨A,z,y,r⟩,⟨q,p,o,n⟩,⟨H,G,F,E⟩,m,l,g,f⟩:=R.out.facts;go_wp2_with fail;clear D C B A z y r q p o n m l g f H G F E;clear O
      go_loopw [10] (λv10 wx=>v10=.int .i64 a/\Hid (W7 w rb s c0 c1 c2 c3 V (some (k)) wx)) (λ_ _=>0)
      case atStart=>exact⟨rfl,R⟩
      case round =>
       obtain⟨rfl,HX⟩:=hrel;have O:=HX.out.bad2;obtain⟨⟨D,C,B⟩,⟨A,z,y,r⟩,⟨q,p,o,n⟩,⟨H,G,F,E⟩,m,l,g,f⟩:=HX.out.facts;have aH:decide ((a:Int)<=a)=true:=by simp
       go_wp2_with fail
       go_roundg (gk - 1)
       case rel=>exact⟨V,c0,c1,c2,c3,some (k),P,HI,HX,J⟩
       all_goals (have:=J.out;omega)
theorem B9u{rb:Nat}{s:B_}{i:Nat}(w:W_)(h:RW w rb s i none w)(a:s.size<=200)(b:i<=s.size):
 Calls prog 166 #[.pointer (some ⟨rb,0,none⟩)] w (A7C (P2 s.data.toList i) rb s i w):=by
 by_cases h94:s.data.toList[i]?=some 94
 .exact B6z w h a b h94
 .exact B8i w h a b h94
