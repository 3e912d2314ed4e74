import Derived.Test.YthhcpbfgoofppaaGreatDoorAz
set_option linter.unusedVariables false
set_option linter.unusedSimpArgs false
open Wf
namespace Wf
abbrev X4:=Nat×Nat×Nat×Nat
structure Nd where
 op:Int
 cls:X4
def zc:X4:=(0,0,0,0)
inductive Rx where
 | byte (c:X4)
 | empty
 | cat (a b:Rx)
 | alt (a b:Rx)
 | star (a:Rx)
 | plus (a:Rx)
 | opt (a:Rx)
 | bgn
 | fin
def A0:Rx->List Nd
 | .byte c=>[⟨1,c⟩]
 | .empty=>[⟨2,zc⟩]
 | .cat a b=>⟨3,zc⟩::(A0 a++A0 b)
 | .alt a b=>⟨4,zc⟩::(A0 a++A0 b)
 | .star a=>⟨5,zc⟩::A0 a
 | .plus a=>⟨6,zc⟩::A0 a
 | .opt a=>⟨7,zc⟩::A0 a
 | .bgn=>[⟨8,zc⟩]
 | .fin=>[⟨9,zc⟩]
theorem G0(t:Rx):0<(A0 t).length:=by cases t <;> simp[A0]
def parts(op:Int):Nat:=if op=3\/op=4 then 2 else if op=5\/op=6\/op=7 then 1 else 0
theorem A5E(op:Int):parts op<=2:=by unfold parts;split <;> (try split) <;> omega
def X2:List Nd->Int->Bool->Int
 | [],need,whole=>if whole=true/\need=0 then 0 else 2
 | n::r,need,whole =>
   if n.op<1\/9<n.op then 1
   else if n.op≠1/\n.cls≠zc then 2
   else X2 r (need+((parts n.op:Int) - 1)) (whole&&decide (0<need))
def chk(l:List Nd):Int:=if 60<l.length then 3 else X2 l 1 true
theorem A6G(l:List Nd):∀a,X2 l a false≠0:=by
 induction l with
 | nil=>intro a;simp[X2]
 | cons n r ih =>
   intro a;unfold X2
   split
   .omega
   .split
    .omega
    .simpa using ih _
def m6(n:Nd):Prop:=1<=n.op/\n.op<=9/\(n.op=1\/n.cls=zc)
theorem B2t(n:Nd)(l:m6 n)(f:List Rx)(h:parts n.op<=f.length):
 ∃(t:Rx)(d:List Rx),n::f.flatMap A0=A0 t++d.flatMap A0/\d.length+parts n.op=f.length:=by
 obtain⟨op,c⟩:=n;obtain⟨p,o,j⟩:=l;simp only at p o j h ⊢;by_cases e1:op=1
 .subst e1;exact⟨.byte c,f,by simp[A0],by simp[parts]⟩
 have m:c=zc:=by exact j.resolve_left e1
 subst m;by_cases e2:op=2
 .subst e2;exact⟨.empty,f,by simp[A0],by simp[parts]⟩
 by_cases e8:op=8
 .subst e8;exact⟨.bgn,f,by simp[A0],by simp[parts]⟩
 by_cases e9:op=9
 .subst e9;exact⟨.fin,f,by simp[A0],by simp[parts]⟩
 by_cases e34:op=3\/op=4
 .have i:parts op=2:=by simp[parts,e34]
  rw[i] at h ⊢
  match f,h with
  | a::b::d,_ =>
    rcases e34 with rfl|rfl
    .exact⟨.cat a b,d,by simp[A0],by simp⟩
    .exact⟨.alt a b,d,by simp[A0],by simp⟩
 .have g:op=5\/op=6\/op=7:=by omega
  have i:parts op=1:=by unfold parts;rw[if_neg e34,if_pos g]
  rw[i] at h ⊢
  match f,h with
  | a::d,_ =>
    rcases g with rfl|rfl|rfl
    .exact⟨.star a,d,by simp[A0],by simp⟩
    .exact⟨.plus a,d,by simp[A0],by simp⟩
    .exact⟨.opt a,d,by simp[A0],by simp⟩
theorem A6F(l:List Nd):∀k:Nat,X2 l k true=0->∃a:List Rx,a.length=k/\l=a.flatMap A0:=by
 induction l with
 | nil =>
   intro k h;simp only[X2] at h
   split at h
   .rename_i b;exact⟨[],by simp at b ⊢;omega,rfl⟩
   .omega
 | cons n r ih =>
   intro k h;unfold X2 at h
   split at h
   .omega
   .split at h
    .omega
    .rename_i q j
     by_cases b:0<k
     .have d:(decide ((0:Int)<k))=true:=by simpa using b
      have m:(k:Int)+((parts n.op:Int) - 1)=((k - 1+parts n.op:Nat):Int):=by omega
      rw[d,m] at h;obtain⟨a,o,rfl⟩:=ih _ h
      have f:m6 n:=⟨by omega,by omega,by
       by_cases e:n.op=1
       .exact .inl e
       .exact .inr (Classical.byContradiction λg=>j ⟨e,g⟩)⟩
      obtain⟨t,c,i,p⟩:=B2t n f a (by omega);exact⟨t::c,by simp;omega,by simpa using i⟩
     .have d:(decide ((0:Int)<k))=false:=by simpa using b
      rw[d] at h;exact absurd h (A6G _ _)
theorem B5k{l:List Nd}(h:chk l=0):l.length<=60/\∃t,l=A0 t:=by
 unfold chk at h
 split at h
 .omega
 .rename_i d
  obtain⟨a,c,b⟩:=A6F l 1 h;refine⟨by omega,?_⟩
  match a,c with
  | [t],_=>exact⟨t,by simpa using b⟩
theorem A7h(t:Rx):∀(r:List Nd)(d:Int),0<d->X2 (A0 t++r) d true=X2 r (d - 1) true:=by
 induction t with
 | byte c=>intro r d h;simp[A0,X2,parts,h,Int.sub_eq_add_neg]
 | empty=>intro r d h;simp[A0,X2,parts,h,zc,Int.sub_eq_add_neg]
 | bgn=>intro r d h;simp[A0,X2,parts,h,zc,Int.sub_eq_add_neg]
 | fin=>intro r d h;simp[A0,X2,parts,h,zc,Int.sub_eq_add_neg]
 | cat a b iha ihb =>
   intro r d h;simp only[A0,List.cons_append,X2,List.append_assoc];simp only[parts,zc];simp[h];rw[iha _ _ (by omega),ihb _ _ (by omega)]
   congr 1;omega
 | alt a b iha ihb =>
   intro r d h;simp only[A0,List.cons_append,X2,List.append_assoc];simp only[parts,zc];simp[h];rw[iha _ _ (by omega),ihb _ _ (by omega)]
   congr 1;omega
 | star a iha =>
   intro r d h;simp only[A0,List.cons_append,X2];simp only[parts,zc];simp[h];rw[iha _ _ (by omega)]
 | plus a iha =>
   intro r d h;simp only[A0,List.cons_append,X2];simp only[parts,zc];simp[h];rw[iha _ _ (by omega)]
 | opt a iha =>
   intro r d h;simp only[A0,List.cons_append,X2];simp only[parts,zc];simp[h];rw[iha _ _ (by omega)]
theorem A0k(t:Rx)(h:(A0 t).length<=60):chk (A0 t)=0:=by
 unfold chk;rw[if_neg (by omega)];have:=A7h t [] 1 (by omega);rw[List.append_nil] at this;rw[this];simp[X2]
theorem B5Q(t:Rx):∀(d:Rx)(r f:List Nd),A0 t++r=A0 d++f->t=d/\r=f:=by
 induction t with
 | byte c=>intro d r f h;cases d <;> simp[A0] at h ⊢ <;> exact h
 | empty=>intro d r f h;cases d <;> simp[A0] at h ⊢ <;> exact h
 | bgn=>intro d r f h;cases d <;> simp[A0] at h ⊢ <;> exact h
 | fin=>intro d r f h;cases d <;> simp[A0] at h ⊢ <;> exact h
 | cat a b iha ihb =>
   intro d r f h;cases d <;> simp[A0] at h;obtain⟨i,g⟩:=iha _ _ _ h;obtain⟨l,j⟩:=ihb _ _ _ g;exact⟨by rw[i,l],j⟩
 | alt a b iha ihb =>
   intro d r f h;cases d <;> simp[A0] at h;obtain⟨i,g⟩:=iha _ _ _ h;obtain⟨l,j⟩:=ihb _ _ _ g;exact⟨by rw[i,l],j⟩
 | star a iha=>intro d r f h;cases d <;> simp[A0] at h;obtain⟨i,g⟩:=iha _ _ _ h;exact⟨by rw[i],g⟩
 | plus a iha=>intro d r f h;cases d <;> simp[A0] at h;obtain⟨i,g⟩:=iha _ _ _ h;exact⟨by rw[i],g⟩
 | opt a iha=>intro d r f h;cases d <;> simp[A0] at h;obtain⟨i,g⟩:=iha _ _ _ h;exact⟨by rw[i],g⟩
def At(l:List Nd)(i:Nat)(u:Rx):Prop:=∃rest,l.drop i=A0 u++rest
theorem At.lt{l:List Nd}{i:Nat}{u:Rx}(h:At l i u):i+(A0 u).length<=l.length:=by
 obtain⟨rest,h⟩:=h;have e:=congrArg List.length h;have:=G0 u;simp at e;omega
theorem At.inj{l:List Nd}{i:Nat}{u v:Rx}(h:At l i u)(k:At l i v):u=v:=by
 obtain⟨r,h⟩:=h;obtain⟨a,k⟩:=k;exact(B5Q u v r a (by rw[←h,←k])).1
theorem At.whole(t:Rx):At (A0 t) 0 t:=⟨[],by simp⟩
theorem V8{l:List Nd}{i:Nat}{n:Nd}{r:List Nd}(h:l.drop i=n::r):l[i]?=some n/\l.drop (i+1)=r:=by
 constructor
 .rw[←List.head?_drop,h];rfl
 .rw[←List.drop_drop,h];rfl
theorem A85{l:List Nd}{i:Nat}{a r:List Nd}(h:l.drop i=a++r):l.drop (i+a.length)=r:=by
 rw[←List.drop_drop,h];simp
theorem At.cat{l:List Nd}{i:Nat}{a b:Rx}(h:At l i (.cat a b)):l[i]?=some ⟨3,zc⟩/\At l (i+1) a/\At l (i+1+(A0 a).length) b:=by
 obtain⟨r,h⟩:=h;simp only[A0,List.cons_append,List.append_assoc] at h;obtain⟨d,c⟩:=V8 h;exact⟨d,⟨_,c⟩,⟨_,A85 c⟩⟩
theorem At.alt{l:List Nd}{i:Nat}{a b:Rx}(h:At l i (.alt a b)):l[i]?=some ⟨4,zc⟩/\At l (i+1) a/\At l (i+1+(A0 a).length) b:=by
 obtain⟨r,h⟩:=h;simp only[A0,List.cons_append,List.append_assoc] at h;obtain⟨d,c⟩:=V8 h;exact⟨d,⟨_,c⟩,⟨_,A85 c⟩⟩
theorem At.star{l:List Nd}{i:Nat}{a:Rx}(h:At l i (.star a)):l[i]?=some ⟨5,zc⟩/\At l (i+1) a:=by
 obtain⟨r,h⟩:=h;simp only[A0,List.cons_append] at h;obtain⟨c,b⟩:=V8 h;exact⟨c,⟨_,b⟩⟩
theorem At.plus{l:List Nd}{i:Nat}{a:Rx}(h:At l i (.plus a)):l[i]?=some ⟨6,zc⟩/\At l (i+1) a:=by
 obtain⟨r,h⟩:=h;simp only[A0,List.cons_append] at h;obtain⟨c,b⟩:=V8 h;exact⟨c,⟨_,b⟩⟩
theorem At.opt{l:List Nd}{i:Nat}{a:Rx}(h:At l i (.opt a)):l[i]?=some ⟨7,zc⟩/\At l (i+1) a:=by
 obtain⟨r,h⟩:=h;simp only[A0,List.cons_append] at h;obtain⟨c,b⟩:=V8 h;exact⟨c,⟨_,b⟩⟩
theorem At.byte{l:List Nd}{i:Nat}{c:X4}(h:At l i (.byte c)):l[i]?=some ⟨1,c⟩:=by
 obtain⟨r,h⟩:=h;exact(V8 h).1
theorem At.empty{l:List Nd}{i:Nat}(h:At l i .empty):l[i]?=some ⟨2,zc⟩:=by
 obtain⟨r,h⟩:=h;exact(V8 h).1
theorem At.bgn{l:List Nd}{i:Nat}(h:At l i .bgn):l[i]?=some ⟨8,zc⟩:=by
 obtain⟨r,h⟩:=h;exact(V8 h).1
theorem At.fin{l:List Nd}{i:Nat}(h:At l i .fin):l[i]?=some ⟨9,zc⟩:=by
 obtain⟨r,h⟩:=h;exact(V8 h).1
theorem B9H(t:Rx):∀(r:List Nd)(i:Nat),i<(A0 t).length->∃u,At (A0 t++r) i u:=by
 have base:∀(n:Nd)(t:Rx),A0 t=[n]->∀(r:List Nd)(i:Nat),i<(A0 t).length->∃u,At (A0 t++r) i u:=by
  intro n t o r i g;rw[o] at g;obtain rfl:i=0:=by simpa using g
  exact⟨t,r,by simp⟩
 have l:∀(n:Nd)(t a:Rx),A0 t=n::A0 a->(∀(r:List Nd)(i:Nat),i<(A0 a).length->∃u,At (A0 a++r) i u) ->
  ∀(r:List Nd)(i:Nat),i<(A0 t).length->∃u,At (A0 t++r) i u:=by
  intro n t a o p r i g;rcases Nat.eq_zero_or_pos i with rfl|h0
  .exact⟨t,r,by simp⟩
  .rw[o] at g ⊢
   obtain⟨j,rfl⟩:∃j,i=j+1:=⟨i - 1,by omega⟩
   obtain⟨u,rest,h⟩:=p r j (by simpa using g);exact⟨u,rest,by simpa using h⟩
 have m:∀(n:Nd)(t a b:Rx),A0 t=n::(A0 a++A0 b)->(∀(r:List Nd)(i:Nat),i<(A0 a).length->∃u,At (A0 a++r) i u) ->
  (∀(r:List Nd)(i:Nat),i<(A0 b).length->∃u,At (A0 b++r) i u) ->
  ∀(r:List Nd)(i:Nat),i<(A0 t).length->∃u,At (A0 t++r) i u:=by
  intro n t a b o d f r i g;rcases Nat.eq_zero_or_pos i with rfl|h0
  .exact⟨t,r,by simp⟩
  .rw[o] at g ⊢
   obtain⟨j,rfl⟩:∃j,i=j+1:=⟨i - 1,by omega⟩
   simp at g;by_cases hj:j<(A0 a).length
   .obtain⟨u,rest,h⟩:=d (A0 b++r) j hj
    exact⟨u,rest,by simpa using h⟩
   .obtain⟨u,rest,h⟩:=f r (j - (A0 a).length) (by omega)
    refine⟨u,rest,?_⟩;rw[←h];simp only[List.cons_append,List.drop_succ_cons,List.append_assoc];rw[List.drop_append,List.drop_eq_nil_of_le (by omega)];simp
 induction t with
 | byte c=>exact base _ _ rfl
 | empty=>exact base _ _ rfl
 | bgn=>exact base _ _ rfl
 | fin=>exact base _ _ rfl
 | cat a b d f=>exact m _ _ a b rfl d f
 | alt a b d f=>exact m _ _ a b rfl d f
 | star a d=>exact l _ _ a rfl d
 | plus a d=>exact l _ _ a rfl d
 | opt a d=>exact l _ _ a rfl d
theorem A3o(t:Rx)(i:Nat)(h:i<(A0 t).length):∃u,At (A0 t) i u:=by
 have:=B9H t [] i h
 simpa using this
def B1M(l:List Nd)(a:List Nat):Prop:=a.length=l.length/\∀i u,At l i u->a[i]?=some (i+(A0 u).length)
def kids:Rx->List Rx
 | .cat a b=>[a,b]
 | .alt a b=>[a,b]
 | .star a=>[a]
 | .plus a=>[a]
 | .opt a=>[a]
 | _=>[]
def pre(u:Rx)(j:Nat):Nat:=1+(((kids u).take j).flatMap A0).length
theorem B4b(u:Rx):pre u 0=1:=by simp[pre]
theorem B62(u:Rx):pre u (kids u).length=(A0 u).length:=by
 cases u <;> simp[pre,kids,A0] <;> omega
theorem B4c(u:Rx)(j:Nat)(v:Rx)(h:(kids u)[j]?=some v):pre u (j+1)=pre u j+(A0 v).length:=by
 unfold pre;rw[List.take_add_one,h];simp;omega
theorem At.kid{l:List Nd}{i:Nat}{u:Rx}(h:At l i u)(j:Nat)(v:Rx)(d:(kids u)[j]?=some v):At l (i+pre u j) v:=by
 cases u with
 | byte c=>simp[kids] at d
 | empty=>simp[kids] at d
 | bgn=>simp[kids] at d
 | fin=>simp[kids] at d
 | cat a b =>
   obtain⟨_,f,g⟩:=h.cat
   match j,d with
   | 0,d=>simp[kids] at d;subst d;simpa[pre] using f
   | 1,d=>simp[kids] at d;subst d;simpa[pre,kids,Nat.add_assoc] using g
   | j+2,d=>simp[kids] at d
 | alt a b =>
   obtain⟨_,f,g⟩:=h.alt
   match j,d with
   | 0,d=>simp[kids] at d;subst d;simpa[pre] using f
   | 1,d=>simp[kids] at d;subst d;simpa[pre,kids,Nat.add_assoc] using g
   | j+2,d=>simp[kids] at d
 | star a =>
   obtain⟨_,f⟩:=h.star
   match j,d with
   | 0,d=>simp[kids] at d;subst d;simpa[pre] using f
   | j+1,d=>simp[kids] at d
 | plus a =>
   obtain⟨_,f⟩:=h.plus
   match j,d with
   | 0,d=>simp[kids] at d;subst d;simpa[pre] using f
   | j+1,d=>simp[kids] at d
 | opt a =>
   obtain⟨_,f⟩:=h.opt
   match j,d with
   | 0,d=>simp[kids] at d;subst d;simpa[pre] using f
   | j+1,d=>simp[kids] at d
theorem At.node{l:List Nd}{i:Nat}{u:Rx}(h:At l i u):∃n,l[i]?=some n/\parts n.op=(kids u).length/\m6 n:=by
 cases u with
 | byte c=>exact⟨_,h.byte,rfl,by simp[m6]⟩
 | empty=>exact⟨_,h.empty,rfl,by simp[m6]⟩
 | bgn=>exact⟨_,h.bgn,rfl,by simp[m6]⟩
 | fin=>exact⟨_,h.fin,rfl,by simp[m6]⟩
 | cat a b=>exact⟨_,h.cat.1,rfl,by simp[m6]⟩
 | alt a b=>exact⟨_,h.alt.1,rfl,by simp[m6]⟩
 | star a=>exact⟨_,h.star.1,rfl,by simp[m6]⟩
 | plus a=>exact⟨_,h.plus.1,rfl,by simp[m6]⟩
 | opt a=>exact⟨_,h.opt.1,rfl,by simp[m6]⟩
def word(c:X4)(q:Nat):Nat:=if q=0 then c.1 else if q=1 then c.2.1 else if q=2 then c.2.2.1 else c.2.2.2
def has(c:X4)(b:Nat):Bool:=(word c (b / 64)).testBit (b % 64)
def o2(c:X4)(b:Nat):X4 :=
 (if b / 64=0 then c.1 ||| 2 ^ (b % 64) else c.1,if b / 64=1 then c.2.1 ||| 2 ^ (b % 64) else c.2.1,
  if b / 64=2 then c.2.2.1 ||| 2 ^ (b % 64) else c.2.2.1,if b / 64=3 then c.2.2.2 ||| 2 ^ (b % 64) else c.2.2.2)
def P5(c:X4):Prop:=c.1<18446744073709551616/\c.2.1<18446744073709551616/\c.2.2.1<18446744073709551616/\c.2.2.2<18446744073709551616
theorem N6:P5 zc:=by simp[P5,zc]
theorem A1W{c:X4}(h:P5 c)(q:Nat):word c q<18446744073709551616:=by
 obtain⟨f,d,b,a⟩:=h;unfold word
 split
 .exact f
 .split
  .exact d
  .split
   .exact b
   .exact a
theorem A5D(b:Nat):2 ^ (b % 64)<18446744073709551616:=by
 have:(2:Nat) ^ (b % 64)<2 ^ 64:=Nat.pow_lt_pow_right (by omega) (Nat.mod_lt _ (by omega))
 simpa using this
theorem A2f{a b:Nat}(d:a<18446744073709551616)(c:b<18446744073709551616):a ||| b<18446744073709551616:=by
 have h:=Nat.or_lt_two_pow (n:=64) (x:=a) (y:=b) (by simpa using d) (by simpa using c)
 simpa using h
theorem A8{c:X4}(h:P5 c)(b:Nat):P5 (o2 c b):=by
 obtain⟨i,g,f,d⟩:=h;have a:=A5D b;refine⟨?_,?_,?_,?_⟩ <;> (unfold o2;dsimp only;split) <;> first | assumption | exact A2f (by assumption) a
theorem B2F(c:X4)(b q:Nat)(d:b<256)(a:q<4):word (o2 c b) q=if b / 64=q then word c q ||| 2 ^ (b % 64) else word c q:=by
 have:b / 64<4:=by omega
 unfold word o2;dsimp only
 match q,a with
 | 0,_=>simp
 | 1,_=>simp
 | 2,_=>simp
 | 3,_=>simp
theorem A3c(c:X4)(b x:Nat)(a:b<256)(d:x<256):has (o2 c b) x=(has c x || x==b):=by
 unfold has;rw[B2F c b (x / 64) a (by omega)];by_cases h:b / 64=x / 64
 .rw[if_pos h,Nat.testBit_or,Nat.testBit_two_pow]
  congr 1
  rw[Bool.eq_iff_iff];simp;omega
 .rw[if_neg h]
  have:(x==b)=false:=by simp;omega
  rw[this,Bool.or_false]
theorem B5H(x:Nat):has zc x=false:=by
 unfold has word zc;simp
theorem B2w{a b:Nat}(f:a<18446744073709551616)(d:b<18446744073709551616)(h:∀i,i<64->a.testBit i=b.testBit i):a=b:=by
 apply Nat.eq_of_testBit_eq;intro i;by_cases hi:i<64
 .exact h i hi
 .have c:(18446744073709551616:Nat)<=2 ^ i:=by
   have:(2:Nat) ^ 64<=2 ^ i:=Nat.pow_le_pow_right (by omega) (by omega)
   simpa using this
  rw[Nat.testBit_lt_two_pow (by omega),Nat.testBit_lt_two_pow (by omega)]
theorem A3k{c d:X4}(m:P5 c)(l:P5 d)(h:∀x,x<256->has c x=has d x):c=d:=by
 have a:∀q,q<4->word c q=word d q:=by
  intro q o;apply B2w (A1W m q) (A1W l q);intro i p;have:=h (q*64+i) (by omega);unfold has at this;rw[show(q*64+i) / 64=q from by omega,show(q*64+i) % 64=i from by omega] at this;exact this
 have j:=a 0 (by omega);have g:=a 1 (by omega);have f:=a 2 (by omega);have b:=a 3 (by omega);obtain⟨C,B,A,z⟩:=c;obtain⟨y,t,s,r⟩:=d;simp[word] at j g f b;rw[j,g,f,b]
def ofL:List U_->X4->X4
 | [],c=>c
 | b::r,c=>ofL r (o2 c b.toNat)
theorem A7R(l:List U_):∀c,P5 c->P5 (ofL l c):=by
 induction l with
 | nil=>intro c h;exact h
 | cons b r ih=>intro c h;exact ih _ (A8 h _)
theorem B7S(l:List U_):∀c x,x<256->has (ofL l c) x=(has c x || l.any λb=>x==b.toNat):=by
 induction l with
 | nil=>intro c x _;simp[ofL]
 | cons b r ih =>
   intro c x a;rw[ofL,ih _ _ a,A3c _ _ _ b.toNat_lt a];simp[Bool.or_assoc]
theorem A8h(l:List U_)(b:U_):∀c,ofL (l++[b]) c=o2 (ofL l c) b.toNat:=by
 induction l with
 | nil=>intro c;rfl
 | cons a r ih=>intro c;exact ih _
def J6:Nat->Nat->Nat
 | 0,_=>0
 | f+1,x=>x % 2+J6 f (x / 2)
def A26(c:Nat):Nat->Nat
 | 0=>0
 | k+1=>c+256*A26 c k
def by8(g:Nat->Nat):Nat->Nat->Nat
 | 0,_=>0
 | k+1,x=>g (x % 256)+256*by8 g k (x / 256)
theorem A3p(a b y m:Nat)(c:b<256)(d:a<256):(a+256*y) &&& (b+256*m)=(a &&& b)+256*(y &&& m):=by
 have g:((a+256*y) &&& (b+256*m)) % 2 ^ 8=a &&& b:=by
  rw[Nat.and_mod_two_pow,show(a+256*y) % 2 ^ 8=a by omega,show(b+256*m) % 2 ^ 8=b by omega]
 have f:((a+256*y) &&& (b+256*m)) / 2 ^ 8=y &&& m:=by
  rw[Nat.and_div_two_pow,show(a+256*y) / 2 ^ 8=y by omega,show(b+256*m) / 2 ^ 8=m by omega]
 omega
def g1(b:Nat):Nat:=((b / 2) &&& 85)+(b &&& 85)
def g2(b:Nat):Nat:=((g1 b / 4) &&& 51)+(g1 b &&& 51)
def g3(b:Nat):Nat:=(g2 b / 16+g2 b) &&& 15
theorem B5N:∀b:Fin 256,∀t:Fin 2,(b.val / 2+128*t.val) &&& 85=(b.val / 2) &&& 85:=by decide +kernel
theorem B90:∀b:Fin 256,g1 b.val<=170:=by decide +kernel
theorem B5M:∀b:Fin 256,∀t:Fin 4,(g1 b.val / 4+64*t.val) &&& 51=(g1 b.val / 4) &&& 51:=by decide +kernel
theorem B8O:∀b:Fin 256,g2 b.val<=68/\g2 b.val % 16<=4:=by decide +kernel
theorem B5L:∀b:Fin 256,∀t:Fin 5,(g2 b.val / 16+16*t.val+g2 b.val) &&& 15=g3 b.val:=by decide +kernel
theorem B88:∀b:Fin 256,g3 b.val=J6 8 b.val/\J6 8 b.val<=8:=by decide +kernel
theorem B9q(k:Nat):∀x,((x / 2) &&& A26 85 k)+(x &&& A26 85 k)=by8 g1 k x:=by
 induction k with
 | zero=>intro x;simp[A26,by8]
 | succ k ih =>
   intro x;obtain⟨b,y,a,rfl⟩:∃b y,b<256/\x=b+256*y:=⟨x % 256,x / 256,by omega,by omega⟩
   have g:(b+256*y) / 2=(b / 2+128*(y % 2))+256*(y / 2):=by omega
   have f:(b+256*y) % 256=b:=by omega
   have d:(b+256*y) / 256=y:=by omega
   have c:=B5N ⟨b,a⟩ ⟨y % 2,by omega⟩;dsimp only at c;simp only[A26,by8,g,f,d];rw[A3p _ _ _ _ (by omega) (by omega),A3p _ _ _ _ (by omega) a,c,←ih y];unfold g1;omega
theorem B9p(k:Nat):∀x,((by8 g1 k x / 4) &&& A26 51 k)+(by8 g1 k x &&& A26 51 k)=by8 g2 k x:=by
 induction k with
 | zero=>intro x;simp[A26,by8]
 | succ k ih =>
   intro x;have a:x % 256<256:=by omega
   have l:=B90 ⟨_,a⟩;have h:=ih (x / 256);have c:=B5M ⟨_,a⟩ ⟨by8 g1 k (x / 256) % 4,by omega⟩;have e:g2 (x % 256)=((g1 (x % 256) / 4) &&& 51)+(g1 (x % 256) &&& 51):=rfl;simp only[A26,by8];dsimp only at c l;rw[e,←h];clear e h;generalize g1 (x % 256)=b at *;generalize by8 g1 k (x / 256)=y at *;have d:(b+256*y) / 4=(b / 4+64*(y % 4))+256*(y / 4):=by omega
   rw[d,A3p _ _ _ _ (by omega) (by omega),A3p _ _ _ _ (by omega) (by omega),c];omega
theorem B7n(g:Nat->Nat)(k x:Nat)(h:∀b,b<256->g b % 16<=4):by8 g k x % 16<=4:=by
 cases k with
 | zero=>simp[by8]
 | succ k=>simp only[by8];have:=h (x % 256) (by omega);omega
theorem B9o(k:Nat):∀x,((by8 g2 k x / 16+by8 g2 k x) &&& A26 15 k)=by8 g3 k x:=by
 induction k with
 | zero=>intro x;simp[A26,by8]
 | succ k ih =>
   intro x;have a:x % 256<256:=by omega
   obtain⟨l,f⟩:=B8O ⟨_,a⟩;have h:=ih (x / 256);have m:=B7n g2 k (x / 256) (λb a=>(B8O ⟨b,a⟩).2);have c:=B5L ⟨_,a⟩ ⟨by8 g2 k (x / 256) % 16,by omega⟩;simp only[A26,by8];dsimp only at c l;rw[←h];clear h;generalize g2 (x % 256)=b at *;generalize by8 g2 k (x / 256)=y at *;have d:(b+256*y) / 16+(b+256*y)=(b / 16+16*(y % 16)+b)+256*(y / 16+y):=by omega
   rw[d,A3p _ _ _ _ (by omega) (by omega),c]
theorem k8(a b:Nat):∀x,J6 (a+b) x=J6 a x+J6 b (x / 2 ^ a):=by
 induction a with
 | zero=>intro x;simp[J6]
 | succ a ih =>
   intro x;rw[show a+1+b=(a+b)+1 by omega];simp only[J6];rw[ih,Nat.div_div_eq_div_mul,show 2*2 ^ a=2 ^ (a+1) by rw[Nat.pow_succ];omega];omega
theorem B4d(a:Nat):∀x,J6 a (x % 2 ^ a)=J6 a x:=by
 induction a with
 | zero=>intro x;simp[J6]
 | succ a ih =>
   intro x;simp only[J6];have c:x % 2 ^ (a+1) % 2=x % 2:=Nat.mod_mod_of_dvd x ⟨2 ^ a,by rw[Nat.pow_succ,Nat.mul_comm]⟩;have b:x % 2 ^ (a+1) / 2=(x / 2) % 2 ^ a:=by rw[Nat.pow_succ,Nat.mul_comm,Nat.mod_mul_right_div_self]
   rw[c,b,ih]
theorem B2j(x:Nat):J6 8 (x % 256)=J6 8 x:=B4d 8 x
theorem A8f(x f d j c b i:Nat)(z:f=((x / 2) &&& 6148914691236517205)+(x &&& 6148914691236517205))
 (h2:d=((f / 4) &&& 3689348814741910323)+(f &&& 3689348814741910323)) (h3:j=(d / 16+d) &&& 1085102592571150095)
 (h4:c=j+j / 256) (h5:b=c+c / 65536) (h6:i=b+b / 4294967296):
 i % 128=J6 64 x/\f<=12297829382473034410/\d / 16+d<18446744073709551616/\c<18446744073709551616/\b<18446744073709551616/\i<18446744073709551616:=by
 have o:=B9q 8 x;have g:=B9p 8 x;have l:=B9o 8 x;rw[show A26 85 8=6148914691236517205 from by decide] at o;rw[←o,show A26 51 8=3689348814741910323 from by decide] at g;rw[←z,←h2] at g;rw[←g,show A26 15 8=1085102592571150095 from by decide,←h3] at l
 have q:f<=12297829382473034410:=by
  have:=Nat.and_le_right (n:=x / 2) (m:=6148914691236517205);have:=Nat.and_le_right (n:=x) (m:=6148914691236517205);omega
 have p:d / 16+d<18446744073709551616:=by
  have:=Nat.and_le_right (n:=f / 4) (m:=3689348814741910323);have:=Nat.and_le_right (n:=f) (m:=3689348814741910323);omega
 have t:J6 64 x=J6 8 x+(J6 8 (x / 256)+(J6 8 (x / 256 / 256)+(J6 8 (x / 256 / 256 / 256)+(J6 8 (x / 256 / 256 / 256 / 256)+(J6 8 (x / 256 / 256 / 256 / 256 / 256)+(J6 8 (x / 256 / 256 / 256 / 256 / 256 / 256)+J6 8 (x / 256 / 256 / 256 / 256 / 256 / 256 / 256))))))):=by
  rw[show(64:Nat)=8+56 from rfl,k8,show(56:Nat)=8+48 from rfl,k8,show(48:Nat)=8+40 from rfl,k8,show(40:Nat)=8+32 from rfl,k8,show(32:Nat)=8+24 from rfl,k8,show(24:Nat)=8+16 from rfl,k8,show(16:Nat)=8+8 from rfl,k8]
 have a:∀y,g3 (y % 256)=J6 8 y/\J6 8 y<=8:=λy=>by
  have:=B88 ⟨y % 256,by omega⟩;dsimp only at this;rwa[B2j] at this
 rw[t];simp only[by8,(a _).1] at l;have M:=(a x).2;have L:=(a (x / 256)).2;have J:=(a (x / 256 / 256)).2;have H:=(a (x / 256 / 256 / 256)).2;have G:=(a (x / 256 / 256 / 256 / 256)).2;have F:=(a (x / 256 / 256 / 256 / 256 / 256)).2;have E:=(a (x / 256 / 256 / 256 / 256 / 256 / 256)).2;have C:=(a (x / 256 / 256 / 256 / 256 / 256 / 256 / 256)).2;generalize J6 8 x=p0 at *;generalize J6 8 (x / 256)=p1 at *;generalize J6 8 (x / 256 / 256)=p2 at *;generalize J6 8 (x / 256 / 256 / 256)=p3 at *;generalize J6 8 (x / 256 / 256 / 256 / 256)=p4 at *;generalize J6 8 (x / 256 / 256 / 256 / 256 / 256)=p5 at *;generalize J6 8 (x / 256 / 256 / 256 / 256 / 256 / 256)=p6 at *;generalize J6 8 (x / 256 / 256 / 256 / 256 / 256 / 256 / 256)=p7 at *;clear o g z h2 h3 t a;have B:c=(p0+p1)+256*(p1+p2)+65536*((p2+p3)+256*(p3+p4)+65536*((p4+p5)+256*(p5+p6)+65536*((p6+p7)+256*p7))):=by omega
 clear l h4;have A:c / 65536=(p2+p3)+256*(p3+p4)+65536*((p4+p5)+256*(p5+p6)+65536*((p6+p7)+256*p7)):=by omega
 have r:b=(p0+p1+p2+p3)+256*(p1+p2+p3+p4)+65536*(p2+p3+p4+p5)+16777216*(p3+p4+p5+p6)+4294967296*((p4+p5+p6+p7)+256*(p5+p6+p7)+65536*((p6+p7)+256*p7)):=by omega
 have s:b / 4294967296=(p4+p5+p6+p7)+256*(p5+p6+p7)+65536*((p6+p7)+256*p7):=by omega
 clear h5 A;have u4:c<18446744073709551616:=by omega
 clear B;have u5:b<18446744073709551616:=by omega
 rw[s,r] at h6;clear r s;exact⟨by omega,q,p,u4,u5,by omega⟩
def B6(c:X4):Nat:=J6 64 c.1+J6 64 c.2.1+J6 64 c.2.2.1+J6 64 c.2.2.2
theorem A3T(f:Nat):∀x,J6 f x<=f:=by
 induction f with
 | zero=>intro x;simp[J6]
 | succ f ih=>intro x;simp only[J6];have:=ih (x / 2);omega
theorem B7i(c:X4):B6 c<=256:=by
 have f:=A3T 64 c.1;have d:=A3T 64 c.2.1;have b:=A3T 64 c.2.2.1;have a:=A3T 64 c.2.2.2;unfold B6;omega
theorem B2k(f:Nat):∀x,J6 f x=(List.range f).countP (λi=>x.testBit i):=by
 induction f with
 | zero=>intro x;simp[J6]
 | succ f ih =>
   intro x;rw[List.range_succ_eq_map,List.countP_cons,List.countP_map];simp only[J6,ih]
   have:(List.range f).countP (λi=>(x / 2).testBit i)=(List.range f).countP ((λi=>x.testBit i) ∘ Nat.succ):=by
    apply List.countP_congr;intro i _;simp[Nat.testBit_succ]
   rw[this,Nat.testBit_zero];by_cases h:x % 2=1
   .simp[h];omega
   .simp[h];omega
theorem A3j(c:X4):B6 c=(List.range 256).countP (λx=>has c x):=by
 have e:List.range 256=List.range 64++(List.range 64).map (64+·)++(List.range 64).map (128+·)++(List.range 64).map (192+·):=by decide +kernel
 have h:∀q,q<4->(List.range 64).countP ((λx=>has c x) ∘ (64*q+·))=J6 64 (word c q):=by
  intro q _;rw[B2k];apply List.countP_congr;intro i g;rw[List.mem_range] at g;simp only[Function.comp,has];rw[show(64*q+i) / 64=q by omega,show(64*q+i) % 64=i by omega]
 have f:=h 0 (by omega);have d:=h 1 (by omega);have b:=h 2 (by omega);have a:=h 3 (by omega);rw[e,List.countP_append,List.countP_append,List.countP_append,List.countP_map,List.countP_map,List.countP_map];simp only[Nat.mul_zero,Nat.mul_one,Nat.reduceMul] at f d b a;rw[d,b,a]
 have h0':(List.range 64).countP (λx=>has c x)=J6 64 (word c 0):=by
  rw[←f];apply List.countP_congr;intro i _;simp[Function.comp]
 rw[h0']
 rfl
theorem B1v{c:X4}(h:B6 c=1):∃b,b<256/\∀x,x<256->(has c x=true↔x=b):=by
 rw[A3j,List.countP_eq_length_filter] at h;obtain⟨b,a⟩:=List.length_eq_one_iff.1 h
 have f:∀x,x<256->(has c x=true↔x=b):=by
  intro x d;have:x∈(List.range 256).filter (λx=>has c x)↔x∈[b]:=by rw[a]
  rw[List.mem_filter,List.mem_range] at this
  simpa[d] using this
 have:b∈(List.range 256).filter (λx=>has c x):=by rw[a];simp
 rw[List.mem_filter,List.mem_range] at this;exact⟨b,this.1,f⟩
theorem B66{c:X4}{b:Nat}(d:b<256)(h:∀x,x<256->(has c x=true↔x=b)):B6 c=1:=by
 rw[A3j]
 have e:(List.range 256).countP (λx=>has c x)=(List.range 256).count b:=by
  unfold List.count;apply List.countP_congr;intro x a;rw[List.mem_range] at a
  simpa using h x a
 rw[e,List.nodup_range.count,if_pos (List.mem_range.2 d)]
def M9(a b:X4):X4:=(a.1 ||| b.1,a.2.1 ||| b.2.1,a.2.2.1 ||| b.2.2.1,a.2.2.2 ||| b.2.2.2)
def p8(a:X4):X4:=(18446744073709551615 - a.1,18446744073709551615 - a.2.1,18446744073709551615 - a.2.2.1,18446744073709551615 - a.2.2.2)
theorem A1e{a b:X4}(j:P5 a)(i:P5 b):P5 (M9 a b):=by
 obtain⟨p,o,m,l⟩:=j;obtain⟨g,f,d,c⟩:=i;exact⟨A2f p g,A2f o f,A2f m d,A2f l c⟩
theorem A0O(a:X4):P5 (p8 a):=by
 unfold p8;refine⟨?_,?_,?_,?_⟩ <;> dsimp only <;> omega
theorem A72(a b:X4)(q:Nat):word (M9 a b) q=word a q ||| word b q:=by unfold word M9;dsimp only;split <;> (try split) <;> (try split) <;> rfl
theorem B37(a:X4)(q:Nat):word (p8 a) q=18446744073709551615 - word a q:=by unfold word p8;dsimp only;split <;> (try split) <;> (try split) <;> rfl
theorem B0e(a b:X4)(x:Nat):has (M9 a b) x=(has a x || has b x):=by unfold has;rw[A72,Nat.testBit_or]
theorem A2j{a:X4}(b:P5 a)(x:Nat):has (p8 a) x=!has a x:=by
 unfold has;rw[B37,show 18446744073709551615 - word a (x / 64)=2 ^ 64 - (word a (x / 64)+1) by omega,Nat.testBit_two_pow_sub_succ (A1W b _)];have:x % 64<64:=Nat.mod_lt _ (by omega);simp[this]
theorem B7f{a:X4}(b:P5 a):B6 a+B6 (p8 a)=256:=by
 have h:∀l:List Nat,l.countP (λx=>has a x)+l.countP (λx=>has (p8 a) x)=l.length:=by
  intro l
  induction l with
  | nil=>rfl
  | cons x r ih =>
    simp only[List.countP_cons,A2j b,List.length_cons] at ih ⊢;cases has a x <;> simp <;> omega
 simp only[A3j];rw[h,List.length_range]
theorem not_not{a:X4}(b:P5 a):p8 (p8 a)=a:=A3k (A0O _) b λx _=>by rw[A2j (A0O _),A2j b,Bool.not_not]
def B9z(n:Nat):U_:=if n<10 then UInt8.ofNat (48+n) else UInt8.ofNat (87+n)
def X0:List U_:=[92,46,91,93,40,41,124,42,43,63,94,36,45]
def C4(b:Nat):List U_ :=
 if b<32\/126<b then [92,120,B9z (b / 16),B9z (b % 16)]
 else if UInt8.ofNat b∈X0 then [92,UInt8.ofNat b] else [UInt8.ofNat b]
theorem A1P(b:Nat):(C4 b).length<=4/\1<=(C4 b).length:=by
 unfold C4
 split
 .simp
 .split <;> simp
def top(c:X4)(b:Nat):Nat:=if h:b<255/\has c (b+1)=true then top c (b+1) else b
termination_by 255 - b
decreasing_by omega
theorem A5M(c:X4)(b:Nat):b<=top c b:=by
 unfold top
 split
 .have:=A5M c (b+1);omega
 .omega
termination_by 255 - b
decreasing_by omega
theorem B4H(c:X4)(b:Nat)(h:b<256):top c b<256:=by
 unfold top
 split
 .exact B4H c (b+1) (by omega)
 .exact h
termination_by 255 - b
decreasing_by omega
theorem B1S{c:X4}{b:Nat}(d:b<255)(a:has c (b+1)=true):top c b=top c (b+1):=by
 conv=>lhs;unfold top
 rw[dif_pos ⟨d,a⟩]
theorem A94{c:X4}{b:Nat}(h:¬(b<255/\has c (b+1)=true)):top c b=b:=by
 unfold top;rw[dif_neg h]
def B8h(a b:Nat):List (Nat×Nat):=if b=a then [(a,a)] else if b=a+1 then [(a,a),(b,b)] else [(a,b)]
def A6r(c:X4)(b:Nat):List (Nat×Nat):=if h:b<256 then (if has c b then B8h b (top c b)++A6r c (top c b+1) else A6r c (b+1)) else []
termination_by 256 - b
decreasing_by
 .have:=A5M c b;omega
 .omega
def A8p(p:Nat×Nat):List U_:=if p.1=p.2 then C4 p.1 else C4 p.1++[45]++C4 p.2
def spT(a b:Nat):List U_:=if b - a=0 then C4 a else if b - a=1 then C4 a++C4 b else C4 a++[45]++C4 b
theorem B2V(a b:Nat)(h:a<=b):(B8h a b).flatMap A8p=spT a b:=by
 unfold B8h spT
 split
 .rename_i e;subst e;simp[A8p]
 .split
  .rename_i e;subst e;simp[A8p]
  .rw[if_neg (by omega),if_neg (by omega)]
   have:a≠b:=by omega
   simp[A8p,this]
def Q2(c:X4)(b:Nat):List U_:=(A6r c b).flatMap A8p
theorem A0R{c:X4}{b:Nat}(a:b<256)(h:has c b=true):Q2 c b=spT b (top c b)++Q2 c (top c b+1):=by
 unfold Q2
 conv=>lhs;unfold A6r
 rw[dif_pos a,if_pos h,List.flatMap_append,B2V _ _ (A5M c b)]
theorem A15{c:X4}{b:Nat}(a:b<256)(h:has c b=false):Q2 c b=Q2 c (b+1):=by
 unfold Q2
 conv=>lhs;unfold A6r
 rw[dif_pos a,if_neg (by simp[h])]
theorem A2Y{c:X4}{b:Nat}(a:256<=b):Q2 c b=[]:=by
 unfold Q2 A6r;rw[dif_neg (by omega)]
 rfl
def R7(c:X4)(b:Nat):Nat:=if h:b<256/\has c b=false then R7 c (b+1) else b
termination_by 256 - b
decreasing_by omega
theorem B4x{c:X4}{b:Nat}(d:b<256)(a:has c b=false):R7 c b=R7 c (b+1):=by
 conv=>lhs;unfold R7
 rw[dif_pos ⟨d,a⟩]
theorem B21{c:X4}{b:Nat}(h:has c b=true):R7 c b=b:=by
 unfold R7;rw[dif_neg (by simp[h])]
theorem A8o{c:X4}{b x:Nat}(f:x<=b)(a:b<256)(h:∀y,y<256->(has c y=true↔y=b)):R7 c x=b:=by
 by_cases e:x=b
 .rw[e];exact B21 ((h b a).2 rfl)
 .have d:has c x=false:=by
   cases hh:has c x with
   | false=>rfl
   | true=>exact absurd ((h x (by omega)).1 hh) e
  rw[B4x (by omega) d];exact A8o (by omega) a h
termination_by 256 - x
decreasing_by omega
def A2r:X4:=p8 (ofL [10] zc)
instance:DecidableEq X4:=inferInstanceAs (DecidableEq (Nat×Nat×Nat×Nat))
def F6(c:X4):List U_:=if B6 c=1 then C4 (R7 c 0) else if c=A2r then [46] else 91::(Q2 c 0++[93])
theorem F8{c:X4}(h:B6 c=1):R7 c 0<256/\∀x,x<256->(has c x=true↔x=R7 c 0):=by
 obtain⟨b,d,a⟩:=B1v h;rw[A8o (Nat.zero_le _) d a];exact⟨d,a⟩
theorem B1V(a b:Nat):(spT a b).length<=9:=by
 have d:=A1P a;have c:=A1P b;unfold spT
 split
 .omega
 .split <;> simp <;> omega
theorem B9(c:X4)(b:Nat):(Q2 c b).length<=9*(256 - b):=by
 by_cases hb:b<256
 .by_cases h:has c b=true
  .rw[A0R hb h,List.length_append]
   have g:=A5M c b;have f:=B4H c b hb;have d:=B1V b (top c b);have a:=B9 c (top c b+1);omega
  .rw[A15 hb (by simpa using h)]
   have a:=B9 c (b+1);omega
 .rw[A2Y (by omega)];simp
termination_by 256 - b
decreasing_by
 .have:=A5M c b;omega
 .omega
theorem B9O{n k:Nat}(h:n.testBit k=false):n+2 ^ k=n ||| 2 ^ k:=by
 have d:n % 2 ^ (k+1)<2 ^ k:=by
  rw[Nat.testBit_eq_decide_div_mod_eq] at h
  have h':n / 2 ^ k % 2=0:=by
   have:=Nat.mod_two_eq_zero_or_one (n / 2 ^ k);rcases this with h0|b
   .exact h0
   .simp[b] at h
  rw[Nat.pow_succ,Nat.mod_mul,h',Nat.mul_zero,Nat.add_zero];exact Nat.mod_lt _ (Nat.two_pow_pos k)
 have c:=Nat.div_add_mod n (2 ^ (k+1));generalize n / 2 ^ (k+1)=q at c;generalize n % 2 ^ (k+1)=r at c d;subst c;have b:2 ^ k*1+r=2 ^ k*1 ||| r:=Nat.two_pow_add_eq_or_of_lt d 1
 rw[Nat.mul_one] at b;have a:r<2 ^ (k+1):=by rw[Nat.pow_succ];omega
 have f:2 ^ k+r<2 ^ (k+1):=by rw[Nat.pow_succ];omega
 rw[Nat.two_pow_add_eq_or_of_lt a q,Nat.or_assoc,Nat.or_comm r,←b,←Nat.two_pow_add_eq_or_of_lt f q];have:=Nat.two_pow_add_eq_or_of_lt a q;omega
theorem B4B{c:X4}{b:Nat}(a:P5 c)(f:b<256)(h:has c b=true):o2 c b=c:=by
 refine A3k (A8 a b) a λx d=>?_
 rw[A3c c b x f d];by_cases e:x=b
 .subst e;simp[h]
 .simp[e]
def A1B(P:Nat->Bool):Nat->X4
 | 0=>zc
 | k+1=>if P k then o2 (A1B P k) k else A1B P k
theorem A7Q(P:Nat->Bool):∀k,P5 (A1B P k):=by
 intro k
 induction k with
 | zero=>exact N6
 | succ k ih =>
   unfold A1B
   split
   .exact A8 ih k
   .exact ih
theorem B1q(P:Nat->Bool):∀k,k<=256->∀x,x<256->has (A1B P k) x=(decide (x<k)&&P x):=by
 intro k
 induction k with
 | zero=>intro _ x _;simp[A1B,B5H]
 | succ k ih =>
   intro b x a;unfold A1B
   split
   .rename_i h
    rw[A3c _ k x (by omega) a,ih (by omega) x a];by_cases e:x=k
    .subst e;simp[h]
    .have:decide (x<k+1)=decide (x<k):=by congr 1;simp;omega
     simp[e,this]
   .rename_i h
    rw[ih (by omega) x a];by_cases e:x=k
    .subst e;simp[h]
    .have:decide (x<k+1)=decide (x<k):=by congr 1;simp;omega
     simp[this]
theorem B6t{c:X4}(b:P5 c):A1B (λx=>!has c x) 256=p8 c :=
 A3k (A7Q _ _) (A0O c) λx a=>by rw[B1q _ 256 (by omega) x a,A2j b];simp[a]
def A8T(a:Nat):Nat->X4
 | 0=>zc
 | k+1=>o2 (A8T a k) (a+k)
theorem B0O{x:Nat}(a:x<256):has (ofL [10] zc) x=true↔x=10:=by
 rw[B7S _ _ x a,B5H];simp
theorem B7Y{c:X4}(g:P5 c):c=A2r↔B6 (p8 c)=1/\has c 10=false:=by
 have d:P5 (ofL [10] zc):=A7R _ _ N6;constructor
 .rintro rfl
  unfold A2r;rw[not_not d,A2j d];exact⟨B66 (b:=10) (by omega) λx f=>B0O f,by rw[(B0O (by omega)).2 rfl];rfl⟩
 .rintro⟨j,i⟩
  obtain⟨b,l,a⟩:=B1v j
  have e:b=10:=by
   have:=a 10 (by omega);rw[A2j g,i] at this;exact(this.1 rfl).symm
  subst e;have:p8 c=ofL [10] zc:=A3k (A0O c) d λx f=>by rw[Bool.eq_iff_iff,a x f,B0O f]
  unfold A2r;rw[←this,not_not g]
theorem A4z{c:X4}{a b:Nat}(h:b=a\/(a<b/\top c a=top c (b - 1)))(f:b<256)(d:has c b=true):a<b+1/\top c a=top c (b+1 - 1):=by
 rw[Nat.add_sub_cancel];rcases h with rfl|⟨h1,h2⟩
 .exact⟨by omega,rfl⟩
 .refine⟨by omega,?_⟩
  rw[h2,B1S (by omega) (by rw[show b - 1+1=b by omega];exact d),show b - 1+1=b by omega]
theorem A2W{c:X4}{d b:Nat}(f:has c d=true)(j:d<256)(h:b=d\/(d<b/\top c d=top c (b - 1)))(a:b=256\/has c b=false):d<b/\top c d=b - 1:=by
 rcases h with rfl|⟨h1,h2⟩
 .rcases a with rfl|a
  .omega
  .rw[f] at a;cases a
 .refine⟨h1,?_⟩
  rw[h2,A94];rintro⟨i,g⟩;rw[show b - 1+1=b by omega] at g;rcases a with rfl|a
  .omega
  .rw[g] at a;cases a
inductive W6 (R:Nat->Nat->Prop):Nat->Nat->Prop where
 | refl (i:Nat):W6 R i i
 | tail {i j k:Nat}:W6 R i j->R j k->W6 R i k
theorem W6.one{R:Nat->Nat->Prop}{i j:Nat}(h:R i j):W6 R i j:=.tail (.refl i) h
theorem W6.trans{R:Nat->Nat->Prop}{i j k:Nat}(h:W6 R i j)(a:W6 R j k):W6 R i k:=by
 induction a with
 | refl=>exact h
 | tail _ hr ih=>exact .tail ih hr
theorem W6.head{R:Nat->Nat->Prop}{i j k:Nat}(h:R i j)(a:W6 R j k):W6 R i k:=(W6.one h).trans a
theorem W6.inv{R:Nat->Nat->Prop}{i j:Nat}(h:W6 R i j)(P:Nat->Prop)(d:P i)(c:∀a b,P a->R a b->P b):P j:=by
 induction h with
 | refl=>exact d
 | tail _ hr ih=>exact c _ _ ih hr
def M4(s:List U_):Rx->Nat->Nat->Prop
 | .byte c,i,j=>j=i+1/\∃b,s[i]?=some b/\has c b.toNat=true
 | .empty,i,j=>j=i
 | .cat a b,i,j=>∃k,M4 s a i k/\M4 s b k j
 | .alt a b,i,j=>M4 s a i j\/M4 s b i j
 | .star a,i,j=>W6 (M4 s a) i j
 | .plus a,i,j=>∃k,M4 s a i k/\W6 (M4 s a) k j
 | .opt a,i,j=>j=i\/M4 s a i j
 | .bgn,i,j=>j=i/\i=0
 | .fin,i,j=>j=i/\i=s.length
theorem s7(s:List U_)(u:Rx):∀i j,M4 s u i j->i<=s.length->i<=j/\j<=s.length:=by
 induction u with
 | byte c =>
   rintro i j⟨rfl,b,p,_⟩ d;have:=(List.getElem?_eq_some_iff.1 p).1;omega
 | empty=>rintro i j h d;simp only[M4] at h;omega
 | bgn=>rintro i j⟨h,_⟩ d;omega
 | fin=>rintro i j⟨h,_⟩ d;omega
 | cat a b iha ihb =>
   rintro i j⟨k,m,l⟩ d;have:=iha _ _ m d;have:=ihb _ _ l this.2;omega
 | alt a b iha ihb =>
   rintro i j (h|h) d
   .exact iha _ _ h d
   .exact ihb _ _ h d
 | star a iha =>
   intro i j h d
   exact W6.inv (P:=λx=>i<=x/\x<=s.length) h ⟨lr_ _,d⟩ λx y g f=>by
    have:=iha _ _ f g.2;omega
 | plus a iha =>
   rintro i j⟨k,m,l⟩ d;have o:=iha _ _ m d
   exact W6.inv (P:=λx=>i<=x/\x<=s.length) l ⟨by omega,o.2⟩ λx y g f=>by
    have:=iha _ _ f g.2;omega
 | opt a iha =>
   rintro i j (h|h) d
   .omega
   .exact iha _ _ h d
def C9(D:Nat->Bool):Nat->Nat
 | 0=>if D 0 then 0 else 1
 | n+1=>C9 D n+if D (n+1) then 0 else 1
def mark(D:Nat->Bool)(k:Nat):Nat->Bool:=λj=>j==k || D j
theorem B7e(D:Nat->Bool)(k:Nat):∀n,n<k->C9 (mark D k) n=C9 D n:=by
 intro n
 induction n with
 | zero=>intro h;have:(0==k)=false:=by simp;omega
         simp[C9,mark,this]
 | succ n ih =>
   intro h;have:(n+1==k)=false:=by simp;omega
   simp only[C9,ih (by omega),mark,this,Bool.false_or]
theorem A9F(D:Nat->Bool)(k:Nat)(a:D k=false):∀n,k<=n->C9 (mark D k) n+1=C9 D n:=by
 intro n
 induction n with
 | zero=>intro h;obtain rfl:k=0:=by omega
         simp[C9,mark,a]
 | succ n ih =>
   intro h;by_cases e:k=n+1
   .subst e
    simp only[C9,B7e D (n+1) n (by omega),mark,a,beq_self_eq_true,Bool.true_or,if_true];simp
   .have c:(n+1==k)=false:=by simp;omega
    have:=ih (by omega);have b:mark D k (n+1)=D (n+1):=by simp[mark,c]
    simp only[C9,b];omega
theorem B9C(D:Nat->Bool):∀n,C9 D n<=n+1:=by
 intro n
 induction n with
 | zero=>simp only[C9];split <;> omega
 | succ n ih=>simp only[C9];split <;> omega
section
variable {n:Nat} {R:Nat->Nat->Prop} {at_:Nat} {D:Nat->Bool} {h:Nat} {rest:List Nat} {k:Nat}
end
end Wf
namespace Go.Proofs.YthhcpbfgoofppaaGreatDoor
open Classical in
noncomputable def upTo_(P:Nat->Prop)(n:Nat):List Nat:=(List.range n).filter λj=>decide (P j)
theorem A3I{P:Nat->Prop}{k:Nat}(h:P k):upTo_ P (k+1)=upTo_ P k++[k]:=by simp[upTo_,List.range_succ,List.filter_append,h]
theorem A2V{P:Nat->Prop}{k:Nat}(h:¬P k):upTo_ P (k+1)=upTo_ P k:=by simp[upTo_,List.range_succ,List.filter_append,h]
theorem A4y(P:Nat->Prop)(n:Nat):(upTo_ P n).length<=n:=by
 have:=List.length_filter_le (λj=>@decide (P j) (Classical.propDecidable _)) (List.range n)
 simpa[upTo_] using this
theorem A1y{P:Nat->Prop}{n k:Nat}:k∈upTo_ P n↔k<n/\P k:=by simp[upTo_]
theorem A76{P Q:Nat->Prop}{n:Nat}(h:∀k,k<n->(P k↔Q k)):upTo_ P n=upTo_ Q n:=by
 unfold upTo_;refine List.filter_congr λk a=>?_
 have:=h k (by simpa using a);simp[this]
end Go.Proofs.YthhcpbfgoofppaaGreatDoor
namespace Wf
def A2s(n m:List U_×Bool):List U_×Bool :=
 if n.2=true/\m.2=true then (n.1++m.1,true) else if m.1.length > n.1.length then (m.1,false) else (n.1,false)
def S0:Rx->List U_×Bool
 | .byte c=>if B6 c=1 then ([UInt8.ofNat (R7 c 0)],true) else ([],false)
 | .empty=>([],true)
 | .cat a b=>A2s (S0 a) (S0 b)
 | .plus a=>((S0 a).1,false)
 | _=>([],false)
theorem B5p(n m:List U_×Bool):(A2s n m).1.length<=n.1.length+m.1.length:=by
 unfold A2s
 split
 .simp
 .split <;> simp
theorem A2A(t:Rx):(S0 t).1.length<=(A0 t).length:=by
 induction t with
 | byte c=>simp only[S0];split <;> simp[A0]
 | cat a b iha ihb=>simp only[S0,A0];have:=B5p (S0 a) (S0 b);simp;omega
 | plus a iha=>simp only[S0,A0];simp;omega
 | _=>simp[S0]
def sub(s:List U_)(i j:Nat):List U_:=(s.drop i).take (j - i)
theorem sub_self(s:List U_)(i:Nat):sub s i i=[]:=by simp[sub]
theorem A6U(s:List U_){i k j:Nat}(b:i<=k)(a:k<=j):sub s i j=sub s i k++sub s k j:=by
 unfold sub;have e:s.drop k=(s.drop i).drop (k - i):=by rw[List.drop_drop];congr 1;omega
 rw[e,show j - i=(k - i)+(j - k) by omega,List.take_add]
theorem B6r{s:List U_}{i:Nat}{b:U_}(h:s[i]?=some b):sub s i (i+1)=[b]:=by
 have a:=(List.getElem?_eq_some_iff.1 h)
 obtain⟨d,c⟩:=a;unfold sub;rw[List.drop_eq_getElem_cons d,c];simp
theorem B5R(s:List U_)(t:Rx):∀i j,M4 s t i j->i<=s.length->(∃p q,sub s i j=p++(S0 t).1++q)/\((S0 t).2=true->sub s i j=(S0 t).1):=by
 have none:∀(x:List U_),(∃p q,x=p++([]:List U_)++q)/\(false=true->x=[]):=λx=>⟨⟨x,[],by simp⟩,λh=>by cases h⟩
 induction t with
 | byte c =>
   rintro i j⟨rfl,b,H,G⟩ d;simp only[S0]
   split
   .rename_i f
    obtain⟨L,F⟩:=F8 f;have e:b.toNat=R7 c 0:=(F _ b.toNat_lt).1 G;have:b=UInt8.ofNat (R7 c 0):=by rw[←e];simp
    rw[B6r H,this];exact⟨⟨[],[],by simp⟩,λ_=>rfl⟩
   .exact none _
 | empty =>
   rintro i j h d;obtain rfl:j=i:=h;rw[sub_self];exact⟨⟨[],[],rfl⟩,λ_=>rfl⟩
 | cat a b iha ihb =>
   rintro i j⟨k,f,g⟩ d;obtain⟨z,l⟩:=s7 s a i k f d;obtain⟨y,M⟩:=s7 s b k j g l;obtain⟨⟨o,m,r⟩,B⟩:=iha i k f d;obtain⟨⟨E,C,J⟩,A⟩:=ihb k j g l;rw[A6U s z y];simp only[S0];unfold A2s
   split
   .rename_i h
    rw[B h.1,A h.2];exact⟨⟨[],[],by simp⟩,λ_=>rfl⟩
   .split
    .exact⟨⟨sub s i k++E,C,by rw[J];simp⟩,λh=>by cases h⟩
    .exact⟨⟨o,m++sub s k j,by rw[r];simp⟩,λh=>by cases h⟩
 | plus a iha =>
   rintro i j⟨k,f,g⟩ d;obtain⟨z,l⟩:=s7 s a i k f d;have y:k<=j:=(s7 s (.star a) k j g l).1;obtain⟨⟨o,m,r⟩,_⟩:=iha i k f d;rw[A6U s z y];exact⟨⟨o,m++sub s k j,by rw[r];simp[S0]⟩,λh=>by cases h⟩
 | alt a b _ _=>intro i j _ _;exact none _
 | star a _=>intro i j _ _;exact none _
 | opt a _=>intro i j _ _;exact none _
 | bgn=>intro i j _ _;exact none _
 | fin=>intro i j _ _;exact none _
def A1v(D:Nat->Bool)(k:Nat)(x:Bool):Nat->Bool:=λj=>if j=k then x else D j
def A4I(N:Nat)(D:Nat->Bool):Nat:=(List.range N).countP D
theorem B7h(N:Nat)(D:Nat->Bool):A4I N D<=N:=by
 have:=List.countP_le_length (p:=D) (l:=List.range N)
 simpa[A4I] using this
theorem A2l(N:Nat)(D:Nat->Bool):A4I (N+1) D=A4I N D+(if D N then 1 else 0):=by
 simp[A4I,List.range_succ,List.countP_append,List.countP_cons]
theorem B3b{N:Nat}{D a:Nat->Bool}(h:∀j,j<N->D j=true->a j=true):A4I N D<=A4I N a:=by
 induction N with
 | zero=>simp[A4I]
 | succ N ih =>
   rw[A2l,A2l];have d:=ih (λj c=>h j (by omega));have b:=h N (by omega);cases hD:D N with
   | false=>simp;omega
   | true=>rw[b hD];simp;omega
theorem B7g{N:Nat}{D a:Nat->Bool}(h:∀j,j<N->D j=true->a j=true){j:Nat}(g:j<N)(f:a j=true)(d:D j=false):A4I N D<A4I N a:=by
 induction N with
 | zero=>omega
 | succ N ih =>
   rw[A2l,A2l];by_cases e:j=N
   .subst e
    have:=B3b (λi b=>h i (by omega):∀i,i<j->D i=true->a i=true);rw[f,d];simp;omega
   .have l:=ih (λi b=>h i (by omega)) (by omega)
    have c:=h N (by omega);cases hD:D N with
    | false=>simp;omega
    | true=>rw[c hD];simp;omega
def ToD(R:Nat->Nat->Prop)(N:Nat)(D a:Nat->Bool):Prop:=∀j,j<N->(a j=true↔∃k,k<N/\D k=true/\R k j)
theorem B4K(s:List U_)(N:Nat)(D:Nat->Bool):ToD (M4 s .empty) N D D:=λj a=>by
 simp only[M4];exact⟨λh=>⟨j,a,h,rfl⟩,λ⟨k,_,h,e⟩=>by subst e;exact h⟩
theorem B8a(s:List U_)(N:Nat)(D:Nat->Bool):ToD (M4 s .bgn) N D (A1v (λ_=>false) 0 (D 0)):=λj a=>by
 simp only[M4,A1v];constructor
 .intro h
  split at h
  .rename_i e;subst e;exact⟨0,a,h,rfl,rfl⟩
  .cases h
 .rintro⟨k,_,h,rfl,rfl⟩
  simpa using h
theorem B8Y(s:List U_)(D:Nat->Bool):ToD (M4 s .fin) (s.length+1) D (A1v (λ_=>false) s.length (D s.length)):=λj a=>by
 simp only[M4,A1v];constructor
 .intro h
  split at h
  .rename_i e;subst e;exact⟨_,a,h,rfl,rfl⟩
  .cases h
 .rintro⟨k,_,h,rfl,rfl⟩
  simpa using h
def A1u(s:List U_)(c:X4)(D:Nat->Bool)(m:Nat):Nat->Bool:=λj=>decide (0<j)&&decide (j<=m)&&(D (j - 1)&&(match s[j - 1]? with | some b=>has c b.toNat | none=>false))
theorem B0w(s:List U_)(c:X4)(D:Nat->Bool):A1u s c D 0=λ_=>false:=by
 funext j
 unfold A1u;cases h:decide (0<j) with
 | false=>simp
 | true=>have:¬j<=0:=by have:=of_decide_eq_true h;omega
         simp[this]
theorem B0x{s:List U_}{c:X4}{D:Nat->Bool}{m:Nat}{b:U_}(a:s[m]?=some b):A1u s c D (m+1)=A1v (A1u s c D m) (m+1) (D m&&has c b.toNat):=by
 funext j
 unfold A1v A1u;by_cases e:j=m+1
 .subst e
  simp[a]
 .rw[if_neg e]
  have:decide (j<=m+1)=decide (j<=m):=by
   rw[decide_eq_decide];omega
  rw[this]
theorem B6n(s:List U_)(c:X4)(D:Nat->Bool):ToD (M4 s (.byte c)) (s.length+1) D (A1u s c D s.length):=λj m=>by
 simp only[M4,A1u];constructor
 .intro h
  simp only[Bool.and_eq_true,decide_eq_true_eq] at h;obtain⟨⟨p,o⟩,i,d⟩:=h;cases a:s[j - 1]? with
  | none=>rw[a] at d;cases d
  | some b =>
    rw[a] at d;exact⟨j - 1,by omega,i,by omega,b,a,d⟩
 .rintro⟨k,l,g,rfl,b,a,f⟩
  have:=(List.getElem?_eq_some_iff.1 a).1;simp[g,a,f];omega
theorem B8Z{s:List U_}{a b:Rx}{D o l:Nat->Bool}(i:ToD (M4 s a) (s.length+1) D o)(r:ToD (M4 s b) (s.length+1) o l):ToD (M4 s (.cat a b)) (s.length+1) D l:=λj q=>by
 rw[r j q];simp only[M4];constructor
 .rintro⟨m,p,h,f⟩
  obtain⟨k,d,g,c⟩:=(i m p).1 h;exact⟨k,d,g,m,c,f⟩
 .rintro⟨k,d,g,m,c,f⟩
  have:=s7 s a k m c (by omega);exact⟨m,by omega,(i m (by omega)).2 ⟨k,d,g,c⟩,f⟩
theorem B8b{s:List U_}{a b:Rx}{N:Nat}{D i g:Nat->Bool}(m:ToD (M4 s a) N D i)(l:ToD (M4 s b) N D g):ToD (M4 s (.alt a b)) N D (λj=>i j || g j):=λj f=>by
 simp only[Bool.or_eq_true,M4];rw[m j f,l j f];constructor
 .rintro (⟨k,c,d,h⟩|⟨k,c,d,h⟩)
  .exact⟨k,c,d,.inl h⟩
  .exact⟨k,c,d,.inr h⟩
 .rintro⟨k,c,d,h|h⟩
  .exact .inl ⟨k,c,d,h⟩
  .exact .inr ⟨k,c,d,h⟩
theorem B8X{s:List U_}{a:Rx}{N:Nat}{D f:Nat->Bool}(g:ToD (M4 s a) N D f):ToD (M4 s (.opt a)) N D (λj=>D j || f j):=λj d=>by
 simp only[Bool.or_eq_true,M4];rw[g j d];constructor
 .rintro (h|⟨k,c,b,h⟩)
  .exact⟨j,d,h,.inl rfl⟩
  .exact⟨k,c,b,.inr h⟩
 .rintro⟨k,c,b,h|h⟩
  .subst h;exact .inl b
  .exact .inr ⟨k,c,b,h⟩
theorem B6l{s:List U_}{a:Rx}{N:Nat}{D b:Nat->Bool}(c:ToD (W6 (M4 s a)) N D b):ToD (M4 s (.star a)) N D b:=c
theorem B6m{s:List U_}{a:Rx}{D l i:Nat->Bool}(g:ToD (M4 s a) (s.length+1) D l)(q:ToD (W6 (M4 s a)) (s.length+1) l i):ToD (M4 s (.plus a)) (s.length+1) D i:=λj p=>by
 rw[q j p];simp only[M4];constructor
 .rintro⟨m,o,h,d⟩
  obtain⟨k,c,f,b⟩:=(g m o).1 h;exact⟨k,c,f,m,b,d⟩
 .rintro⟨k,c,f,m,b,d⟩
  have:=s7 s a k m b (by omega);exact⟨m,by omega,(g m (by omega)).2 ⟨k,c,f,b⟩,d⟩
structure A4N (R:Nat->Nat->Prop) (N:Nat) (D Df:Nat->Bool):Prop where
 up:∀j,j<N->D j=true->Df j=true
 of:∀j,j<N->Df j=true->∃k,k<N/\D k=true/\W6 R k j
theorem A4N.start(R:Nat->Nat->Prop)(N:Nat)(D:Nat->Bool):A4N R N D D:=⟨λ_ _ h=>h,λj a h=>⟨j,a,h,.refl _⟩⟩
theorem A4N.step{R:Nat->Nat->Prop}{N:Nat}{D f g:Nat->Bool}(h:A4N R N D f)(o:ToD R N f g):A4N R N D (λj=>f j || g j):=by
 refine⟨λj b a=>by simp[h.up j b a],λj b a=>?_⟩;simp only[Bool.or_eq_true] at a;rcases a with a|a
 .exact h.of j b a
 .obtain⟨m,p,d,l⟩:=(o j b).1 a
  obtain⟨k,q,c,i⟩:=h.of m p d;exact⟨k,q,c,.tail i l⟩
theorem A4N.done{R:Nat->Nat->Prop}{N:Nat}{D f g:Nat->Bool}(h:A4N R N D f)(s:ToD R N f g)(z:∀x y,R x y->x<N->y<N)(c:∀j,j<N->(f j || g j)=f j):ToD (W6 R) N D (λj=>f j || g j):=λj o=>by
 show(f j || g j)=true↔_;rw[c j o];constructor
 .exact h.of j o
 .rintro⟨k,m,t,r⟩
  have d:∀a b,(a<N/\f a=true)->R a b->(b<N/\f b=true):=by
   rintro a b⟨q,B⟩ l;have i:=z a b l q;refine⟨i,?_⟩;have A:=(s b i).2 ⟨a,q,B,l⟩;have p:=c b i;rw[A] at p
   simpa using p.symm
  exact(W6.inv (P:=λx=>x<N/\f x=true) r ⟨m,h.up k m t⟩ d).2
theorem A4N.more{N:Nat}{b c:Nat->Bool}{j:Nat}(d:j<N)(a:(b j || c j)≠b j):A4I N b<A4I N (λj=>b j || c j):=by
 refine B7g (λi _ h=>by simp[h]) d ?_ ?_
 .cases h:b j with
  | true=>simp
  | false=>cases h2:c j with
    | true=>simp
    | false=>rw[h,h2] at a;simp at a
 .cases h:b j with
  | false=>rfl
  | true=>rw[h] at a;simp at a
open Classical in
noncomputable def eo(l:List Nd)(i:Nat):Int:=if h:∃u,At l i u then ((i+(A0 (choose h)).length:Nat):Int) else -1
theorem A0z{l:List Nd}{i:Nat}{u:Rx}(h:At l i u):eo l i=((i+(A0 u).length:Nat):Int):=by
 have a:∃u,At l i u:=⟨u,h⟩
 unfold eo;rw[dif_pos a,(Classical.choose_spec a).inj h]
theorem p9{l:List Nd}{i:Nat}(h:¬ ∃u,At l i u):eo l i=-1:=by
 unfold eo;rw[dif_neg h]
theorem B93(l:List Nd)(i:Nat):eo l i<=l.length:=by
 by_cases h:∃u,At l i u
 .obtain⟨u,a⟩:=h
  rw[A0z a];have:=a.lt;omega
 .rw[p9 h];omega
theorem B94(l:List Nd)(i:Nat):eo l i=-1\/(i:Int)<eo l i:=by
 by_cases h:∃u,At l i u
 .obtain⟨u,a⟩:=h
  rw[A0z a];have:=G0 u;omega
 .exact .inl (p9 h)
noncomputable def eoN(l:List Nd):Nat->Int->Int
 | 0,c=>c
 | n+1,c=>if c<0 then c else eoN l n (eo l c.toNat)
theorem B7V(l:List Nd)(n:Nat)(c:Int)(h:c<0):eoN l n c=c:=by
 cases n with
 | zero=>rfl
 | succ n=>simp only[eoN,if_pos h]
theorem A7d{l:List Nd}{i:Nat}{n:Nd}(h:l[i]?=some n):l.drop i=n::l.drop (i+1):=by
 obtain⟨a,b⟩:=List.getElem?_eq_some_iff.1 h;rw[List.drop_eq_getElem_cons a,b]
theorem At.mk0{l:List Nd}{i:Nat}{n:Nd}{u:Rx}(h:l[i]?=some n)(a:A0 u=[n]):At l i u:=⟨l.drop (i+1),by rw[A7d h,a];rfl⟩
theorem At.mk1{l:List Nd}{i:Nat}{n:Nd}{u a:Rx}(h:l[i]?=some n)(d:At l (i+1) a)(c:A0 u=n::A0 a):At l i u:=by
 obtain⟨r,b⟩:=d;exact⟨r,by rw[A7d h,b,c];rfl⟩
theorem At.mk2{l:List Nd}{i:Nat}{n:Nd}{u a b:Rx}(h:l[i]?=some n)(m:At l (i+1) a)(j:At l (i+1+(A0 a).length) b)(g:A0 u=n::(A0 a++A0 b)):At l i u:=by
 obtain⟨r,c⟩:=m;obtain⟨q,f⟩:=j;refine⟨q,?_⟩;have d:l.drop (i+1+(A0 a).length)=r:=by rw[←List.drop_drop,c,List.drop_left]
 rw[f] at d;rw[A7d h,c,←d,g];simp
theorem B0i{l:List Nd}{i:Nat}(mk:∀a,At l (i+1) a->∃u,At l i u/\(A0 u).length=1+(A0 a).length)(op:∀u,At l i u->∃a,At l (i+1) a):eo l i=eoN l 1 ((i+1:Nat):Int):=by
 simp only[eoN];rw[if_neg (by omega)];simp only[Int.toNat_natCast];by_cases h:∃a,At l (i+1) a
 .obtain⟨a,c⟩:=h
  obtain⟨u,b,d⟩:=mk a c;rw[A0z b,A0z c];omega
 .rw[p9 h,p9]
  rintro⟨u,b⟩;exact h (op u b)
theorem B5U{l:List Nd}{i:Nat}(mk:∀a b,At l (i+1) a->At l (i+1+(A0 a).length) b->∃u,At l i u/\(A0 u).length=1+(A0 a).length+(A0 b).length)
 (op:∀u,At l i u->∃a b,At l (i+1) a/\At l (i+1+(A0 a).length) b):eo l i=eoN l 2 ((i+1:Nat):Int):=by
 simp only[eoN];rw[if_neg (by omega)];simp only[Int.toNat_natCast];by_cases h:∃a,At l (i+1) a
 .obtain⟨a,g⟩:=h
  rw[A0z g,if_neg (by omega)];simp only[Int.toNat_natCast];by_cases h2:∃b,At l (i+1+(A0 a).length) b
  .obtain⟨b,j⟩:=h2
   obtain⟨u,d,p⟩:=mk a b g j;rw[A0z d,A0z j];omega
  .rw[p9 h2,p9]
   rintro⟨u,d⟩;obtain⟨m,o,c,f⟩:=op u d;rw[c.inj g] at f;exact h2 ⟨o,f⟩
 .rw[p9 h,if_pos (by omega),p9]
  rintro⟨u,d⟩;obtain⟨m,_,c,_⟩:=op u d;exact h ⟨m,c⟩
theorem A5m{l:List Nd}{i:Nat}{u:Rx}(h:At l i u):∃n r,l[i]?=some n/\A0 u=n::r:=by
 obtain⟨rest,a⟩:=h;cases hf:A0 u with
 | nil=>have:=G0 u;rw[hf] at this;simp at this
 | cons n r =>
   refine⟨n,r,?_,rfl⟩;rw[hf] at a;have b:(l.drop i)[0]?=some n:=by rw[a];rfl
   simpa using b
theorem B7U{l:List Nd}{i:Nat}{n:Nd}(h:l[i]?=some n)(y:m6 n):eo l i=eoN l (parts n.op) ((i+1:Nat):Int):=by
 obtain⟨op,c⟩:=n;obtain⟨B,A,t⟩:=y;simp only at B A t
 have g:∀u,A0 u=[⟨op,c⟩]->parts op=0->eo l i=eoN l (parts op) ((i+1:Nat):Int):=λu j m=>by
  rw[m];simp only[eoN];rw[A0z (At.mk0 h j),j]
  rfl
 by_cases e1:op=1
 .subst e1;exact g (.byte c) rfl (by simp[parts])
 have z:c=zc:=t.resolve_left e1;subst z;have q:op=2\/op=3\/op=4\/op=5\/op=6\/op=7\/op=8\/op=9:=by omega
 rcases q with rfl|rfl|rfl|rfl|rfl|rfl|rfl|rfl
 .exact g .empty rfl (by simp[parts])
 .have m:parts 3=2:=by simp[parts]
  rw[m];refine B5U (λa b o s=>⟨.cat a b,At.mk2 h o s rfl,by simp[A0];omega⟩) (λu f=>?_);obtain⟨p,r,d,j⟩:=A5m f;rw[h] at d;cases d;cases u <;> simp[A0] at j;exact⟨_,_,f.cat.2.1,f.cat.2.2⟩
 .have m:parts 4=2:=by simp[parts]
  rw[m];refine B5U (λa b o s=>⟨.alt a b,At.mk2 h o s rfl,by simp[A0];omega⟩) (λu f=>?_);obtain⟨p,r,d,j⟩:=A5m f;rw[h] at d;cases d;cases u <;> simp[A0] at j;exact⟨_,_,f.alt.2.1,f.alt.2.2⟩
 .have m:parts 5=1:=by simp[parts]
  rw[m];refine B0i (λa o=>⟨.star a,At.mk1 h o rfl,by simp[A0];omega⟩) (λu f=>?_);obtain⟨p,r,d,j⟩:=A5m f;rw[h] at d;cases d;cases u <;> simp[A0] at j;exact⟨_,f.star.2⟩
 .have m:parts 6=1:=by simp[parts]
  rw[m];refine B0i (λa o=>⟨.plus a,At.mk1 h o rfl,by simp[A0];omega⟩) (λu f=>?_);obtain⟨p,r,d,j⟩:=A5m f;rw[h] at d;cases d;cases u <;> simp[A0] at j;exact⟨_,f.plus.2⟩
 .have m:parts 7=1:=by simp[parts]
  rw[m];refine B0i (λa o=>⟨.opt a,At.mk1 h o rfl,by simp[A0];omega⟩) (λu f=>?_);obtain⟨p,r,d,j⟩:=A5m f;rw[h] at d;cases d;cases u <;> simp[A0] at j;exact⟨_,f.opt.2⟩
 .exact g .bgn rfl (by simp[parts])
 .exact g .fin rfl (by simp[parts])
def B9D:List Nd->Int
 | []=>0
 | n::r=>if n.op<1\/9<n.op then 1 else if n.op≠1/\n.cls≠zc then 2 else B9D r
noncomputable def A1o(l:List Nd):Int:=if 60<l.length then 3 else if B9D l≠0 then B9D l else if l.length=0\/eo l 0≠(l.length:Int) then 2 else 0
