import Derived.Test.YthhcpbfgoofppaaGreatDoorGPl
set_option linter.unusedVariables false
set_option linter.unusedSimpArgs false
open Wf
namespace Wf
section
variable (ws:List (List U_))
def A2Q(u:List U_):Prop:=u=[]\/∃w∈ws,u <+: w
def Q6(t u:List U_):Prop:=u <:+ t/\A2Q ws u/\∀v,v <:+ t->A2Q ws v->v.length<=u.length
def Bk(u v:List U_):Prop:=Q6 ws u.tail v
theorem A2Q.of_snoc{ws:List (List U_)}{u:List U_}{b:U_}(h:A2Q ws (u++[b])):A2Q ws u:=by
 rcases h with h|⟨w,hw,h⟩
 .simp at h
 .exact .inr ⟨w,hw,(List.prefix_append u [b]).trans h⟩
theorem A4i{a b t:List U_}(d:a <:+ t)(c:b <:+ t)(h:a.length<=b.length):a <:+ b:=List.suffix_of_suffix_length_le d c h
theorem B8d{a b t:List U_}(d:a <:+ t)(c:b <:+ t)(h:a.length=b.length):a=b:=(A4i d c (Nat.le_of_eq h)).eq_of_length h
theorem A8E{a u:List U_}(h:a <:+ u)(b:a.length<u.length):a <:+ u.tail:=by
 obtain⟨p,rfl⟩:=h;cases p with
 | nil=>simp at b
 | cons x p=>exact⟨p,rfl⟩
theorem A8A(u:List U_):u.tail <:+ u:=List.tail_suffix u
theorem A8F{v t:List U_}{b:U_}(h:v <:+ t++[b]):v=[]\/∃x,v=x++[b]/\x <:+ t:=by
 obtain⟨p,h⟩:=h;rcases List.eq_nil_or_concat v with rfl|⟨x,c,rfl⟩
 .exact .inl rfl
 .right
  simp only[List.concat_eq_append,←List.append_assoc] at h;have d:=List.append_inj_left' h rfl;have a:=List.append_inj_right' h rfl;simp only[List.cons.injEq,and_true] at a;exact⟨x,by rw[List.concat_eq_append,a],p,d⟩
variable {ws:List (List U_)}
theorem Q6.nil(ws:List (List U_)):Q6 ws [] []:=⟨List.suffix_refl _,.inl rfl,λv a _=>by have:=a.length_le;simpa using this⟩
theorem Bk.root(ws:List (List U_)):Bk ws [] []:=Q6.nil ws
theorem Bk.one(ws:List (List U_))(b:U_):Bk ws [b] []:=Q6.nil ws
theorem Bk.lt{u v:List U_}(h:Bk ws u v)(a:u≠[]):v.length<u.length:=by
 have b:=h.1.length_le;have c:=List.length_pos_iff.2 a;rw[List.length_tail] at b;omega
def A0n(t:List U_)(b:U_)(u:List U_):Prop:=u <:+ t/\A2Q ws u/\∀v,v <:+ t->A2Q ws (v++[b])->v.length<=u.length
theorem Q6.step{t u:List U_}(h:Q6 ws t u)(b:U_):A0n (ws:=ws) t b u:=⟨h.1,h.2.1,λv a c=>h.2.2 v a c.of_snoc⟩
theorem A0n.back{t u v:List U_}{b:U_}(h:A0n (ws:=ws) t b u)(f:¬A2Q ws (u++[b]))(d:Bk ws u v):A0n (ws:=ws) t b v:=by
 refine⟨(d.1.trans (A8A u)).trans h.1,d.2.1,λx a c=>?_⟩;have g:=h.2.2 x a c;have i:x.length≠u.length:=λe=>f (by rw[←B8d a h.1 e];exact c)
 exact d.2.2 x (A8E (A4i a h.1 g) (by omega)) c.of_snoc
theorem A0n.done{t u:List U_}{b:U_}(h:A0n (ws:=ws) t b u)(f:A2Q ws (u++[b])):Q6 ws (t++[b]) (u++[b]):=by
 refine⟨?_,f,λv c a=>?_⟩
 .obtain⟨p,d⟩:=h.1
  exact⟨p,by rw[←d,List.append_assoc]⟩
 .rcases A8F c with rfl|⟨x,rfl,hx⟩
  .simp
  .have:=h.2.2 x hx a;simp;exact this
theorem A0n.none{t:List U_}{b:U_}(h:A0n (ws:=ws) t b [])(f:¬A2Q ws [b]):Q6 ws (t++[b]) []:=by
 refine⟨List.nil_suffix,.inl rfl,λv d a=>?_⟩;rcases A8F d with rfl|⟨x,rfl,hx⟩
 .simp
 .have:=h.2.2 x hx a
  have c:x=[]:=List.eq_nil_of_length_eq_zero (by simpa using this);subst c;exact absurd a f
theorem Bk.snoc{u r:List U_}{b:U_}(a:u≠[])(h:Q6 ws (u.tail++[b]) r):Bk ws (u++[b]) r:=by
 unfold Bk;rw[List.tail_append_of_ne_nil a];exact h
def A1U(ws:List (List U_))(u:List U_)(l:List Nat):Prop:=l.Nodup/\∀i,i∈l↔∃w,ws[i]?=some w/\w <:+ u
def A7u(ws:List (List U_))(n:Nat)(u:List U_)(l:List Nat):Prop:=l.Nodup/\∀i,i∈l↔i<n/\ws[i]?=some u
theorem A6k{i:Nat}{w:List U_}(h:ws[i]?=some w):A2Q ws w:=.inr ⟨w,List.mem_of_getElem? h,List.prefix_refl _⟩
theorem A1U.root(a:∀w∈ws,w≠[]):A1U ws [] []:=by
 refine⟨by simp,λi=>⟨λh=>by(cases h),?_⟩⟩;rintro⟨w,b,h⟩;have:w=[]:=List.eq_nil_of_length_eq_zero (by have:=h.length_le;simpa using this);exact absurd this (a w (List.mem_of_getElem? b))
theorem A1U.of_back{u v:List U_}{l k:List Nat}(m:u≠[])(c:Bk ws u v)(f:A7u ws ws.length u l)(g:A1U ws v k):A1U ws u (l++k):=by
 have p:=c.lt m;refine⟨?_,λi=>?_⟩
 .rw[List.nodup_append]
  refine⟨f.1,g.1,?_⟩;rintro i o j n rfl;have b:=((f.2 i).1 o).2;obtain⟨w,a,d⟩:=(g.2 i).1 n;rw[b] at a;cases a;have:=d.length_le;omega
 .rw[List.mem_append,f.2,g.2]
  constructor
  .rintro (⟨_,h⟩|⟨w,b,a⟩)
   .exact⟨u,h,List.suffix_refl _⟩
   .exact⟨w,b,(a.trans c.1).trans (A8A u)⟩
  .rintro⟨w,b,a⟩
   have q:=a.length_le;by_cases e:w.length=u.length
   .left
    have:=a.eq_of_length e;subst this;exact⟨(List.getElem?_eq_some_iff.1 b).1,b⟩
   .right
    have d:=A8E a (by omega);exact⟨w,b,A4i d c.1 (c.2.2 w d (A6k b))⟩
theorem A1U.long{t u:List U_}{l:List Nat}(h:Q6 ws t u)(c:A1U ws u l):A1U ws t l:=by
 refine⟨c.1,λi=>?_⟩;rw[c.2];constructor
 .rintro⟨w,b,a⟩;exact⟨w,b,a.trans h.1⟩
 .rintro⟨w,b,a⟩;exact⟨w,b,A4i a h.1 (h.2.2 w a (A6k b))⟩
def A3g(ws:List (List U_))(t:List U_):List Nat:=(List.range ws.length).filter λi=>(ws.getD i []).isSuffixOf t
theorem A2k{t:List U_}{i:Nat}:i∈A3g ws t↔∃w,ws[i]?=some w/\w <:+ t:=by
 unfold A3g;rw[List.mem_filter,List.mem_range];constructor
 .rintro⟨a,b⟩
  exact⟨ws[i],List.getElem?_eq_getElem a,by simpa[a] using b⟩
 .rintro⟨w,a,b⟩
  have c:=(List.getElem?_eq_some_iff.1 a).1;exact⟨c,by simp[a];exact b⟩
theorem B5W(ws:List (List U_))(t:List U_):(A3g ws t).Pairwise (·<·):=List.pairwise_lt_range.filter _
theorem A60(ws:List (List U_))(t:List U_):(A3g ws t).length<=ws.length:=by
 have:=List.length_filter_le (λi=>(ws.getD i []).isSuffixOf t) (List.range ws.length)
 simpa[A3g] using this
theorem A8K:∀(a b:List Nat),a.Pairwise (·<·)->b.Pairwise (·<·)->(∀j,j∈a↔j∈b)->a=b:=by
 intro a
 induction a with
 | nil =>
   intro b _ _ c;cases b with
   | nil=>rfl
   | cons y b=>have:=(c y).2 (by simp);cases this
 | cons x a ih =>
   intro b k i c;cases b with
   | nil=>have:=(c x).1 (by simp);cases this
   | cons y b =>
     rw[List.pairwise_cons] at k i
     have e:x=y:=by
      have g:=(c x).1 (by simp);have f:=(c y).2 (by simp);rcases List.mem_cons.1 g with g|g
      .exact g
      .rcases List.mem_cons.1 f with f|f
       .exact f.symm
       .have:=i.1 x g;have:=k.1 y f;omega
     subst e;rw[ih b k.2 i.2 λj=>?_];constructor
     .intro d
      have:=(c j).1 (by simp[d]);rcases List.mem_cons.1 this with rfl|h
      .have:=k.1 j d;omega
      .exact h
     .intro d
      have:=(c j).2 (by simp[d]);rcases List.mem_cons.1 this with rfl|h
      .have:=i.1 j d;omega
      .exact h
def B5G(ws:List (List U_))(t:List U_)(e:Nat):List (Nat×Nat×Nat):=(A3g ws (t.take e)).map λi=>(i,e - (ws.getD i []).length,e)
def r8(ws:List (List U_))(t:List U_)(n:Nat):List (Nat×Nat×Nat):=(List.range n).flatMap λi=>B5G ws t (i+1)
theorem A4a(ws:List (List U_))(t:List U_)(n:Nat):r8 ws t (n+1)=r8 ws t n++B5G ws t (n+1):=by
 simp[r8,List.range_succ,List.flatMap_append]
end
def A9h(ws:List (List U_))(i j:Nat)(u:List U_):Prop:=u=[]\/(∃w∈ws.take i,u <+: w)\/∃w,ws[i]?=some w/\u <+: w.take j
theorem B3z(ws:List (List U_))(u:List U_):A9h ws 0 0 u↔u=[]:=by
 constructor
 .rintro (h|⟨w,h,_⟩|⟨w,_,h⟩)
  .exact h
  .simp at h
  .simpa using h
 .exact .inl
theorem X3{w:List U_}{j:Nat}{c:U_}(a:w[j]?=some c):w.take (j+1)=w.take j++[c]:=by
 rw[List.take_add_one,a]
 rfl
theorem A7D{ws:List (List U_)}{i j:Nat}{w:List U_}{c:U_}(a:ws[i]?=some w)(b:w[j]?=some c)(u:List U_):A9h ws i (j+1) u↔A9h ws i j u\/u=w.take j++[c]:=by
 constructor
 .rintro (h|h|⟨w',d,h⟩)
  .exact .inl (.inl h)
  .exact .inl (.inr (.inl h))
  .obtain rfl:w=w':=Option.some.inj (a.symm.trans d)
   rw[X3 b] at h;rcases List.prefix_concat_iff.1 (by simpa using h) with e|e
   .exact .inr (by simpa using e)
   .exact .inl (.inr (.inr ⟨w,a,e⟩))
 .rintro ((h|h|⟨w',d,h⟩)|h)
  .exact .inl h
  .exact .inr (.inl h)
  .obtain rfl:w=w':=Option.some.inj (a.symm.trans d)
   exact .inr (.inr ⟨w,a,by rw[X3 b];exact h.trans (List.prefix_append _ _)⟩)
  .exact .inr (.inr ⟨w,a,by rw[X3 b,h];exact List.prefix_refl _⟩)
theorem B30{ws:List (List U_)}{i:Nat}{w:List U_}(b:ws[i]?=some w)(u:List U_):A9h ws (i+1) 0 u↔A9h ws i w.length u:=by
 have c:ws.take (i+1)=ws.take i++[w]:=by rw[List.take_add_one,b];rfl
 constructor
 .rintro (h|⟨w',a,h⟩|⟨w',_,h⟩)
  .exact .inl h
  .rw[c,List.mem_append,List.mem_singleton] at a
   rcases a with a|rfl
   .exact .inr (.inl ⟨w',a,h⟩)
   .exact .inr (.inr ⟨w',b,by rw[List.take_length];exact h⟩)
  .exact .inl (by simpa using h)
 .rintro (h|⟨w',a,h⟩|⟨w',a,h⟩)
  .exact .inl h
  .exact .inr (.inl ⟨w',by rw[c,List.mem_append];exact .inl a,h⟩)
  .obtain rfl:w=w':=Option.some.inj (b.symm.trans a)
   rw[List.take_length] at h;exact .inr (.inl ⟨w,by rw[c];simp,h⟩)
theorem B6N(ws:List (List U_))(u:List U_):A9h ws ws.length 0 u↔A2Q ws u:=by
 constructor
 .rintro (h|⟨w,a,h⟩|⟨w,a,_⟩)
  .exact .inl h
  .rw[List.take_length] at a
   exact .inr ⟨w,a,h⟩
  .rw[List.getElem?_eq_none (lr_ _)] at a;cases a
 .rintro (h|⟨w,a,h⟩)
  .exact .inl h
  .exact .inr (.inl ⟨w,by rw[List.take_length];exact a,h⟩)
