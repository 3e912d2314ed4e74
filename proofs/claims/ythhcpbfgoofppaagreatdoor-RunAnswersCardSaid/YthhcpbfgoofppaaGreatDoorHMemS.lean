import Derived.Test.YthhcpbfgoofppaaGreatDoorMem
import Derived.Lib.ItoaNum
import Derived.Lib.Join
set_option linter.unusedVariables false
set_option linter.unusedSimpArgs false
open Wf
namespace Wf
structure St where
 op:Int
 cls:X4
 x:Int
 y:Int
def V4(s:St)(many:Nat):Int :=
 if s.op<1\/5<s.op then 1
 else if (s.op≠5/\¬(0<=s.x/\s.x<many))\/(s.op=2/\¬(0<=s.y/\s.y<many)) then 1
 else if (s.op≠1/\s.cls≠zc)\/(s.op≠2/\s.y≠0)\/(s.op=5/\s.x≠0) then 2
 else 0
def A0l(many:Nat):List St->Int
 | []=>0
 | s::r=>if V4 s many≠0 then V4 s many else A0l many r
def A3l(p:List St):Int:=if 200<p.length then 3 else if p.length=0 then 4 else A0l p.length p
theorem B0s{many:Nat}{l:List St}(h:A0l many l=0):∀s∈l,V4 s many=0:=by
 induction l with
 | nil=>intro s b;cases b
 | cons a r ih =>
   simp only[A0l] at h
   split at h
   .rename_i c;exact absurd h c
   .rename_i c
    intro s b;rcases List.mem_cons.1 b with rfl|b
    .exact Classical.byContradiction c
    .exact ih h s b
theorem A9x{many:Nat}{l:List St}(h:∀s∈l,V4 s many=0):A0l many l=0:=by
 induction l with
 | nil=>rfl
 | cons a r ih =>
   simp only[A0l];rw[if_neg (by simp[h a (by simp)])];exact ih λs b=>h s (by simp[b])
def okP(p:List St):Prop:=0<p.length/\p.length<=200/\∀s∈p,V4 s p.length=0
theorem B1w{p:List St}:A3l p=0↔okP p:=by
 unfold A3l okP;constructor
 .intro h
  split at h
  .omega
  .split at h
   .omega
   .exact⟨by omega,by omega,B0s h⟩
 .rintro⟨c,b,a⟩
  rw[if_neg (by omega),if_neg (by omega)];exact A9x a
theorem A2g{s:St}{many:Nat}(h:V4 s many=0):(1<=s.op/\s.op<=5)/\(s.op≠5->0<=s.x/\s.x<many)/\(s.op=2->0<=s.y/\s.y<many)/\(s.op≠1->s.cls=zc)/\(s.op≠2->s.y=0)/\(s.op=5->s.x=0):=by
 unfold V4 at h
 split at h
 .omega
 .split at h
  .omega
  .split at h
   .omega
   .rename_i d c b
    refine⟨by omega,λh=>?_,λh=>?_,λh=>?_,λh=>?_,λh=>?_⟩
    .exact Classical.byContradiction λa=>c (.inl ⟨h,a⟩)
    .exact Classical.byContradiction λa=>c (.inr ⟨h,a⟩)
    .exact Classical.byContradiction λa=>b (.inl ⟨h,a⟩)
    .exact Classical.byContradiction λa=>b (.inr (.inl ⟨h,a⟩))
    .exact Classical.byContradiction λa=>b (.inr (.inr ⟨h,a⟩))
theorem D8{s:St}{many:Nat}(i:1<=s.op/\s.op<=5)(g:s.op≠5->0<=s.x/\s.x<many)(f:s.op=2->0<=s.y/\s.y<many)(d:s.op≠1->s.cls=zc)(c:s.op≠2->s.y=0)(b:s.op=5->s.x=0):V4 s many=0:=by
 unfold V4;rw[if_neg (by omega),if_neg,if_neg]
 .rintro (⟨h,a⟩|⟨h,a⟩|⟨h,a⟩)
  .exact a (d h)
  .exact a (c h)
  .exact a (b h)
 .rintro (⟨h,a⟩|⟨h,a⟩)
  .exact a (g h)
  .exact a (f h)
def Eps(p:List St)(first last:Bool)(i j:Nat):Prop :=
 ∃s,p[i]?=some s/\((s.op=2/\((j:Int)=s.x\/(j:Int)=s.y))\/(s.op=3/\first=true/\(j:Int)=s.x)\/(s.op=4/\last=true/\(j:Int)=s.x))
def Spr(p:List St)(first last:Bool)(a:List Nat)(j:Nat):Prop:=∃i∈a,W6 (Eps p first last) i j
structure O5 (p:List St) (f l:Bool) (S S':Nat->Prop) (i:Nat) (L:List Nat) (D:Prop):Prop where
 mono:∀j,S j->S' j
 root:S' i
 reach:∀j,S' j->¬S j->W6 (Eps p f l) i j
 closed:∀j,S' j->¬S j->∀k,Eps p f l j k->S' k
 lt:∀j,S' j->¬S j->j<p.length
 takes:∀j,j∈L↔S' j/\¬S j/\∃s,p[j]?=some s/\s.op=1
 nodup:L.Nodup
 done:D↔∃j,S' j/\¬S j/\∃s,p[j]?=some s/\s.op=5
theorem O5.seen{p:List St}{f l:Bool}{S:Nat->Prop}{i:Nat}(h:S i):O5 p f l S S i [] False where
 mono _ h:=h
 root:=h
 reach _ h h':=absurd h h'
 closed _ h h':=absurd h h'
 lt _ h h':=absurd h h'
 takes j:=⟨(λh=>by cases h),λh=>absurd h.1 h.2.1⟩
 nodup:=List.nodup_nil
 done:=⟨λh=>h.elim,λ⟨_,h,h',_⟩=>absurd h h'⟩
theorem O5.leaf{p:List St}{f l:Bool}{S:Nat->Prop}{i:Nat}{s:St}(c:p[i]?=some s)(g:¬S i)(n:∀k,¬Eps p f l i k):
 O5 p f l S (λj=>S j\/j=i) i (if s.op=1 then [i] else []) (s.op=5) where
 mono _ h:=.inl h
 root:=.inr rfl
 reach j h b:=by rcases h with h | rfl;· exact absurd h b
                 .exact .refl _
 closed j h b k hk:=by rcases h with h | rfl;· exact absurd h b
                       .exact absurd hk (n k)
 lt j h b:=by rcases h with h | rfl;· exact absurd h b
              .exact(List.getElem?_eq_some_iff.1 c).1
 takes j:=by
  constructor
  .intro h
   split at h
   .rename_i d
    obtain rfl:j=i:=by simpa using h
    exact⟨.inr rfl,g,s,c,d⟩
   .cases h
  .rintro⟨h|rfl,b,m,a,d⟩
   .exact absurd h b
   .rw[c] at a;cases a
    rw[if_pos d];simp
 nodup:=by split <;> simp
 done:=by
  constructor
  .intro h;exact⟨i,.inr rfl,g,s,c,h⟩
  .rintro⟨j,h|rfl,b,m,a,d⟩
   .exact absurd h b
   .rw[c] at a;cases a;exact d
theorem O5.then{p:List St}{f l:Bool}{S n m:Nat->Prop}{i a b:Nat}{r q:List Nat}{A z:Prop}
 (h1:O5 p f l S n a r A) (h2:O5 p f l n m b q z) (ha:W6 (Eps p f l) i a) (hb:W6 (Eps p f l) i b):
 (∀j,S j->m j)/\m a/\m b/\(∀j,m j->¬S j->W6 (Eps p f l) i j)/\(∀j,m j->¬S j->∀k,Eps p f l j k->m k)/\(∀j,m j->¬S j->j<p.length) /\
   (∀j,j∈r++q↔m j/\¬S j/\∃s,p[j]?=some s/\s.op=1)/\(r++q).Nodup/\(A\/z↔∃j,m j/\¬S j/\∃s,p[j]?=some s/\s.op=5):=by
 refine⟨λj h=>h2.mono j (h1.mono j h),h2.mono _ h1.root,h2.root,λj h o=>?_,λj h o k t=>?_,λj h o=>?_,λj=>?_,?_,?_⟩
 .by_cases hs:n j
  .exact ha.trans (h1.reach j hs o)
  .exact hb.trans (h2.reach j h hs)
 .by_cases hs:n j
  .exact h2.mono _ (h1.closed j hs o k t)
  .exact h2.closed j h hs k t
 .by_cases hs:n j
  .exact h1.lt j hs o
  .exact h2.lt j h hs
 .rw[List.mem_append,h1.takes,h2.takes]
  constructor
  .rintro (⟨g,d,c⟩|⟨g,d,c⟩)
   .exact⟨h2.mono _ g,d,c⟩
   .exact⟨g,λh=>d (h1.mono _ h),c⟩
  .rintro⟨g,d,c⟩
   by_cases hs:n j
   .exact .inl ⟨hs,d,c⟩
   .exact .inr ⟨g,hs,c⟩
 .rw[List.nodup_append]
  refine⟨h1.nodup,h2.nodup,λx C y B e=>?_⟩;subst e;exact((h2.takes x).1 B).2.1 ((h1.takes x).1 C).1
 .rw[h1.done,h2.done]
  constructor
  .rintro (⟨j,g,d,c⟩|⟨j,g,d,c⟩)
   .exact⟨j,h2.mono _ g,d,c⟩
   .exact⟨j,g,λh=>d (h1.mono _ h),c⟩
  .rintro⟨j,g,d,c⟩
   by_cases hs:n j
   .exact .inl ⟨j,hs,d,c⟩
   .exact .inr ⟨j,g,hs,c⟩
theorem O5.one{p:List St}{f l:Bool}{S S':Nat->Prop}{i x:Nat}{s:St}{L:List Nat}{D:Prop}(t:p[i]?=some s)(E:¬S i)(C:s.op≠1)(B:s.op≠5)
 (he:∀k,Eps p f l i k↔k=x) (hw:O5 p f l (λj=>S j\/j=i) S' x L D):O5 p f l S S' i L D:=by
 have z:i<p.length:=(List.getElem?_eq_some_iff.1 t).1;have y:W6 (Eps p f l) i x:=W6.one ((he x).2 rfl)
 have q:∀j,(∃s,p[j]?=some s/\(s.op=1\/s.op=5))->j≠i:=by
  rintro j⟨m,o,h⟩ rfl;rw[t] at o;cases o;rcases h with h|h
  .exact C h
  .exact B h
 have a:∀j,S' j->¬S j->j≠i->¬(S j\/j=i):=λj _ h g A=>A.elim h g
 refine⟨λj h=>hw.mono j (.inl h),hw.mono i (.inr rfl),λj h g=>?_,λj h g k r=>?_,λj h g=>?_,λj=>?_,hw.nodup,?_⟩
 .by_cases e:j=i
  .rw[e];exact .refl _
  .exact y.trans (hw.reach j h (a j h g e))
 .by_cases e:j=i
  .rw[e] at r;rw[(he k).1 r];exact hw.root
  .exact hw.closed j h (a j h g e) k r
 .by_cases e:j=i
  .rw[e];exact z
  .exact hw.lt j h (a j h g e)
 .rw[hw.takes]
  constructor
  .rintro⟨c,d,b⟩;exact⟨c,λh=>d (.inl h),b⟩
  .rintro⟨c,d,m,b,n⟩;exact⟨c,a j c d (q j ⟨m,b,.inl n⟩),m,b,n⟩
 .rw[hw.done]
  constructor
  .rintro⟨j,c,d,b⟩;exact⟨j,c,λh=>d (.inl h),b⟩
  .rintro⟨j,c,d,m,b,n⟩;exact⟨j,c,a j c d (q j ⟨m,b,.inr n⟩),m,b,n⟩
theorem O5.two{p:List St}{f l:Bool}{S B A:Nat->Prop}{i x y:Nat}{s:St}{D C:List Nat}{F E:Prop}(t:p[i]?=some s)(X:¬S i)(L:s.op≠1)(J:s.op≠5)
 (he:∀k,Eps p f l i k↔k=x\/k=y) (hw:O5 p f l (λj=>S j\/j=i) B x D F) (hv:O5 p f l B A y C E):O5 p f l S A i (D++C) (F\/E):=by
 have G:i<p.length:=(List.getElem?_eq_some_iff.1 t).1;obtain⟨z,V,T,R,Q,P,O,N,M⟩:=O5.then hw hv (W6.one ((he x).2 (.inl rfl))) (W6.one ((he y).2 (.inr rfl)))
 have q:∀j,(∃s,p[j]?=some s/\(s.op=1\/s.op=5))->j≠i:=by
  rintro j⟨m,o,h⟩ rfl;rw[t] at o;cases o;rcases h with h|h
  .exact L h
  .exact J h
 have a:∀j,¬S j->j≠i->¬(S j\/j=i):=λj h g H=>H.elim h g
 refine⟨λj h=>z j (.inl h),z i (.inr rfl),λj h g=>?_,λj h g k r=>?_,λj h g=>?_,λj=>?_,N,?_⟩
 .by_cases e:j=i
  .rw[e];exact .refl _
  .exact R j h (a j g e)
 .by_cases e:j=i
  .rw[e] at r
   rcases(he k).1 r with rfl|rfl
   .exact V
   .exact T
  .exact Q j h (a j g e) k r
 .by_cases e:j=i
  .rw[e];exact G
  .exact P j h (a j g e)
 .rw[O]
  constructor
  .rintro⟨d,c,b⟩;exact⟨d,λh=>c (.inl h),b⟩
  .rintro⟨d,c,m,b,n⟩;exact⟨d,a j c (q j ⟨m,b,.inl n⟩),m,b,n⟩
 .rw[M]
  constructor
  .rintro⟨j,d,c,b⟩;exact⟨j,d,λh=>c (.inl h),b⟩
  .rintro⟨j,d,c,m,b,n⟩;exact⟨j,d,a j c (q j ⟨m,b,.inr n⟩),m,b,n⟩
structure Acc (p:List St) (f l:Bool) (fs:List Nat) (S:Nat->Prop) (L:List Nat) (D:Prop):Prop where
 roots:∀i∈fs,S i
 reach:∀j,S j->Spr p f l fs j
 closed:∀j,S j->∀k,Eps p f l j k->S k
 lt:∀j,S j->j<p.length
 takes:∀j,j∈L↔S j/\∃s,p[j]?=some s/\s.op=1
 nodup:L.Nodup
 done:D↔∃j,S j/\∃s,p[j]?=some s/\s.op=5
theorem Acc.start(p:List St)(f l:Bool):Acc p f l [] (λ_=>False) [] False where
 roots i h:=by cases h
 reach j h:=h.elim
 closed j h:=h.elim
 lt j h:=h.elim
 takes j:=⟨(λh=>by cases h),λh=>h.1.elim⟩
 nodup:=List.nodup_nil
 done:=⟨λh=>h.elim,λ⟨_,h,_⟩=>h.elim⟩
theorem Acc.step{p:List St}{f l:Bool}{g:List Nat}{S S':Nat->Prop}{L m:List Nat}{D n:Prop}{i:Nat}(h:Acc p f l g S L D)(c:O5 p f l S S' i m n):Acc p f l (g++[i]) S' (L++m) (D\/n) where
 roots j hj:=by
  rcases List.mem_append.1 hj with hj|hj
  .exact c.mono _ (h.roots j hj)
  .obtain rfl:j=i:=by simpa using hj
   exact c.root
 reach j hj:=by
  by_cases hs:S j
  .obtain⟨a,s,r⟩:=h.reach j hs
   exact⟨a,by simp[s],r⟩
  .exact⟨i,by simp,c.reach j hj hs⟩
 closed j hj k hk:=by
  by_cases hs:S j
  .exact c.mono _ (h.closed j hs k hk)
  .exact c.closed j hj hs k hk
 lt j hj:=by
  by_cases hs:S j
  .exact h.lt j hs
  .exact c.lt j hj hs
 takes j:=by
  rw[List.mem_append,h.takes,c.takes];constructor
  .rintro (⟨d,b⟩|⟨d,_,b⟩)
   .exact⟨c.mono _ d,b⟩
   .exact⟨d,b⟩
  .rintro⟨d,b⟩
   by_cases hs:S j
   .exact .inl ⟨hs,b⟩
   .exact .inr ⟨d,hs,b⟩
 nodup:=by
  rw[List.nodup_append];refine⟨h.nodup,c.nodup,λx q y o e=>?_⟩;subst e;exact((c.takes x).1 o).2.1 ((h.takes x).1 q).1
 done:=by
  rw[h.done,c.done];constructor
  .rintro (⟨j,d,b⟩|⟨j,d,_,b⟩)
   .exact⟨j,c.mono _ d,b⟩
   .exact⟨j,d,b⟩
  .rintro⟨j,d,b⟩
   by_cases hs:S j
   .exact .inl ⟨j,hs,b⟩
   .exact .inr ⟨j,d,hs,b⟩
theorem Acc.all{p:List St}{f l:Bool}{d:List Nat}{S:Nat->Prop}{L:List Nat}{D:Prop}(h:Acc p f l d S L D)(j:Nat):S j↔Spr p f l d j:=by
 refine⟨h.reach j,?_⟩;rintro⟨i,k,g⟩;exact W6.inv g S (h.roots i k) λa b m c=>h.closed a m b c
structure A04 (p:List St) (f l:Bool) (fs:List Nat) (L:List Nat) (d:Bool):Prop where
 takes:∀j,j∈L↔Spr p f l fs j/\∃s,p[j]?=some s/\s.op=1
 nodup:L.Nodup
 done:d=true↔∃j,Spr p f l fs j/\∃s,p[j]?=some s/\s.op=5
theorem Acc.front{p:List St}{f l:Bool}{c:List Nat}{S:Nat->Prop}{L:List Nat}{D:Prop}{d:Bool}(h:Acc p f l c S L D)(g:d=true↔D):A04 p f l c L d where
 takes j:=by rw[h.takes,h.all]
 nodup:=h.nodup
 done:=by
  rw[g,h.done];constructor
  .rintro⟨j,b,a⟩;exact⟨j,(h.all j).1 b,a⟩
  .rintro⟨j,b,a⟩;exact⟨j,(h.all j).2 b,a⟩
open Go Go.RowKit
def J1(s:St):List V_:=[.int .i64 s.op,.int .u64 (s.cls.1:Int),.int .u64 (s.cls.2.1:Int),.int .u64 (s.cls.2.2.1:Int),.int .u64 (s.cls.2.2.2:Int),.int .i64 s.x,.int .i64 s.y]
theorem A46(l:List St):(l.flatMap J1).length=l.length*7:=by
 induction l with
 | nil=>rfl
 | cons n r ih=>simp[J1] at ih ⊢;omega
theorem A47(l:List St):∀(k j:Nat)(n:St),l[k]?=some n->j<7->(l.flatMap J1)[k*7+j]?=(J1 n)[j]?:=by
 induction l with
 | nil=>intro k j n h;simp at h
 | cons m r ih =>
   intro k j n h a;rcases k with _|k
   .simp at h
    subst h;simp only[List.flatMap_cons,Nat.zero_mul,Nat.zero_add];rw[List.getElem?_append_left (by simpa[J1] using a)]
   .simp only[List.flatMap_cons]
    rw[List.getElem?_append_right (by simp[J1];omega)];have e:(k+1)*7+j - (J1 m).length=k*7+j:=by simp[J1];omega
    rw[e];exact ih k j n (by simpa using h) a
def RdS(w:W_)(v:V_)(l:List St):Prop:=Rd w 7 v (l.flatMap J1)
theorem RdS.below{w w':W_}{v:V_}{l:List St}(h:RdS w v l)(a:Below w.heap.size w w'):RdS w' v l:=Rd.below h a
theorem RdS.open_{w:W_}{v:V_}{l:List St}(h:RdS w v l):∃(A:Option Addr)(cap:Nat),v=.slice A l.length cap/\l.length<=cap/\cap<=9223372036854775807 /\
 (0<l.length->∃b c,A=some ⟨b,c,none⟩/\b<w.heap.size/\∀(w':W_),(∀o,w'.cell? ⟨b,o,none⟩=w.cell? ⟨b,o,none⟩)->∀k n,l[k]?=some n ->
   w'.cell? ⟨b,c+k*7,none⟩=some (.int .i64 n.op)/\w'.cell? ⟨b,c+k*7+1,none⟩=some (.int .u64 (n.cls.1:Int))/\w'.cell? ⟨b,c+k*7+2,none⟩=some (.int .u64 (n.cls.2.1:Int)) /\
   w'.cell? ⟨b,c+k*7+3,none⟩=some (.int .u64 (n.cls.2.2.1:Int))/\w'.cell? ⟨b,c+k*7+4,none⟩=some (.int .u64 (n.cls.2.2.2:Int)) /\
   w'.cell? ⟨b,c+k*7+5,none⟩=some (.int .i64 n.x)/\w'.cell? ⟨b,c+k*7+6,none⟩=some (.int .i64 n.y)):=by
 obtain⟨A,n,cap,rfl,z,t,s,r⟩:=h;rw[A46] at s;obtain rfl:n=l.length:=by omega
 refine⟨A,cap,rfl,z,t,λf=>?_⟩;obtain⟨b,c,rfl,q⟩:=r f
 have a:∀k n,l[k]?=some n->∀j u,j<7->(J1 n)[j]?=some u->w.cell? ⟨b,c+(k*7+j),none⟩=some u:=by
  intro k n d j u p i;exact q _ _ (by rw[A47 l k j n d p];exact i)
 have hlt:b<w.heap.size:=by
  have m:l[0]?=some (l[0]'f):=List.getElem?_eq_getElem f;exact World.block_lt_of_cell? w _ (a 0 _ m 0 _ (by omega) rfl)
 refine⟨b,c,rfl,hlt,λw' g k n d=>?_⟩;simp only[g];exact⟨a k n d 0 _ (by omega) rfl,a k n d 1 _ (by omega) rfl,a k n d 2 _ (by omega) rfl,a k n d 3 _ (by omega) rfl,a k n d 4 _ (by omega) rfl,a k n d 5 _ (by omega) rfl,a k n d 6 _ (by omega) rfl⟩
end Wf
namespace Go.Proofs.YthhcpbfgoofppaaGreatDoor
open Wf
def Zz0(p:List St)(b:Nat)(L:List Nat):List Nat:=L.flatMap λi=>match p[i]? with
 | some s=>if has s.cls b then [s.x.toNat] else []
 | none=>[]
theorem B5K(p:List St)(b:Nat)(L:List Nat)(i:Nat)(s:St)(h:p[i]?=some s):Zz0 p b (L++[i])=Zz0 p b L++(if has s.cls b then [s.x.toNat] else []):=by
 unfold Zz0;simp[h]
theorem A3d(p:List St)(b:Nat)(L:List Nat):(Zz0 p b L).length<=L.length:=by
 induction L with
 | nil=>simp[Zz0]
 | cons i r ih =>
   have:Zz0 p b (i::r)=(match p[i]? with | some s=>if has s.cls b then [s.x.toNat] else [] | none=>[])++Zz0 p b r:=rfl;rw[this,List.length_append,List.length_cons]
   have:(match p[i]? with | some s=>if has s.cls b then [s.x.toNat] else [] | none=>([]:List Nat)).length<=1:=by
    split
    .split <;> simp
    .simp
   omega
end Go.Proofs.YthhcpbfgoofppaaGreatDoor
namespace Wf
open Go.Proofs.YthhcpbfgoofppaaGreatDoor (upTo_ A3I A2V A4y A1y A76 Zz0)
inductive A03 (p:List St) (s:List U_) (from_:Nat):Nat->Nat->Prop where
 | start:A03 p s from_ from_ 0
 | step {i j k x:Nat} {b:U_} {st:St}:A03 p s from_ i j->W6 (Eps p (i==0) (i==s.length)) j k->p[k]?=some st->st.op=1->s[i]?=some b->has st.cls b.toNat=true->(x:Int)=st.x->A03 p s from_ (i+1) x
def y8(p:List St)(s:List U_)(a:Nat)(i:Nat):Prop:=∃j k,A03 p s a i j/\W6 (Eps p (i==0) (i==s.length)) j k/\∃b,p[k]?=some b/\b.op=5
theorem A03.ge{p:List St}{s:List U_}{f i j:Nat}(h:A03 p s f i j):f<=i:=by
 induction h with
 | start=>exact lr_ _
 | step _ _ _ _ _ _ _ ih=>omega
theorem A03.first{p:List St}{s:List U_}{f j:Nat}(h:A03 p s f f j):j=0:=by
 generalize hi:f=i at h;cases h with
 | start=>rfl
 | step h=>have:=h.ge;omega
def AtL(p:List St)(s:List U_)(f i:Nat)(a:List Nat):Prop:=∀j,j∈a↔A03 p s f i j
theorem AtL.start(p:List St)(s:List U_)(f:Nat):AtL p s f f [0]:=λj=>by
 constructor
 .intro h
  obtain rfl:j=0:=by simpa using h
  exact .start
 .intro h;rw[h.first];simp
theorem AtL.spr{p:List St}{s:List U_}{f i:Nat}{g:List Nat}(h:AtL p s f i g)(k:Nat)(a b:Bool):Spr p a b g k↔∃j,A03 p s f i j/\W6 (Eps p a b) j k:=by
 unfold Spr;constructor
 .rintro⟨j,d,c⟩;exact⟨j,(h j).1 d,c⟩
 .rintro⟨j,d,c⟩;exact⟨j,(h j).2 d,c⟩
theorem AtL.done{p:List St}{s:List U_}{f i:Nat}{g L:List Nat}{d:Bool}(h:AtL p s f i g)(l:A04 p (i==0) (i==s.length) g L d):d=true↔y8 p s f i:=by
 rw[l.done];unfold y8;constructor
 .rintro⟨k,m,c⟩
  obtain⟨j,b,a⟩:=(h.spr k _ _).1 m;exact⟨j,k,b,a,c⟩
 .rintro⟨j,k,b,a,c⟩
  exact⟨k,(h.spr k _ _).2 ⟨j,b,a⟩,c⟩
theorem AtL.next{p:List St}(z:okP p){s:List U_}{f i:Nat}{t L:List Nat}{d:Bool}{b:U_}(B:f<=i)(h:AtL p s f i t)(q:A04 p (i==0) (i==s.length) t L d)(r:s[i]?=some b):AtL p s f (i+1) (Zz0 p b.toNat L):=by
 intro x;unfold Zz0;rw[List.mem_flatMap];constructor
 .rintro⟨k,A,a⟩
  obtain⟨C,g,c,o⟩:=(q.takes k).1 A;obtain⟨j,n,m⟩:=(h.spr k _ _).1 C;rw[c] at a;simp only at a
  split at a
  .rename_i l
   have y:=(A2g (z.2.2 _ (List.mem_of_getElem? c))).2.1 (by omega);obtain rfl:x=g.x.toNat:=by simpa using a
   exact .step n m c o r l (by omega)
  .cases a
 .intro h
  generalize hi:i+1=i' at h;cases h with
  | start=>omega
  | @step i1 j k x b1 g n m c o hb1 l a =>
    obtain rfl:i1=i:=by omega
    rw[r] at hb1;cases hb1;refine⟨k,(q.takes k).2 ⟨(AtL.spr h k _ _).2 ⟨j,n,m⟩,g,c,o⟩,?_⟩;rw[c];simp only;rw[if_pos l];simp;omega
theorem AtL.none{p:List St}{s:List U_}{f i:Nat}(d:f<=i)(h:AtL p s f i []):∀a,i<=a->∀j,¬A03 p s f a j:=by
 intro a c;obtain⟨m,rfl⟩:∃m,a=i+m:=⟨a - i,by omega⟩
 clear c
 induction m with
 | zero=>intro j b;have:=(h j).2 b;cases this
 | succ m ih =>
   intro j b;generalize hi:i+(m+1)=a at b;cases b with
   | start=>omega
   | @step i1 j1 _ _ _ _ h4 =>
     obtain rfl:i1=i+m:=by omega
     exact ih _ h4
noncomputable def A8O(p:List St)(s:List U_)(f:Nat):List Nat:=upTo_ (y8 p s f) (s.length+1)
theorem B6x{p:List St}{s:List U_}{f i:Nat}(c:i<=s.length+1)(h:∀a,i<=a->¬y8 p s f a):A8O p s f=upTo_ (y8 p s f) i:=by
 unfold A8O;obtain⟨m,b⟩:∃m,s.length+1=i+m:=⟨s.length+1 - i,by omega⟩
 rw[b];clear b
 induction m with
 | zero=>rfl
 | succ m ih=>rw[show i+(m+1)=(i+m)+1 by omega,A2V (h _ (by omega)),ih]
theorem B0j{p:List St}{s:List U_}{f i:Nat}(h:y8 p s f i):f<=i:=by
 obtain⟨j,k,a,_⟩:=h;exact a.ge
theorem A92(p:List St)(s:List U_)(f:Nat):upTo_ (y8 p s f) f=[]:=by
 have key:∀m,m<=f->upTo_ (y8 p s f) m=[]:=by
  intro m
  induction m with
  | zero=>intro _;rfl
  | succ m ih=>intro h;rw[A2V (λa=>by have:=B0j a;omega),ih (by omega)]
 exact key f (lr_ _)
def A1t(a:List Nat):Int:=match a.getLast? with
 | some x=>(x:Int)
 | none=>-1
theorem A5P(a:List Nat)(x:Nat):A1t (a++[x])=(x:Int):=by simp[A1t]
end Wf
namespace Wf
def sz:Rx->Nat
 | .byte _=>1
 | .empty=>0
 | .cat a b=>sz a+sz b
 | .alt a b=>sz a+sz b+2
 | .star a=>sz a+2
 | .plus a=>sz a+1
 | .opt a=>sz a+1
 | .bgn=>1
 | .fin=>1
def F7:Rx->Nat->List St
 | .byte c,h=>[⟨1,c,((h+1:Nat):Int),0⟩]
 | .empty,_=>[]
 | .cat a b,h=>F7 a h++F7 b (h+sz a)
 | .alt a b,h=>(⟨2,zc,((h+1:Nat):Int),((h+1+sz a+1:Nat):Int)⟩::F7 a (h+1))++(⟨2,zc,((h+1+sz a+1+sz b:Nat):Int),((h+1+sz a+1+sz b:Nat):Int)⟩::F7 b (h+1+sz a+1))
 | .star a,h=>(⟨2,zc,((h+1:Nat):Int),((h+1+sz a+1:Nat):Int)⟩::F7 a (h+1))++[⟨2,zc,((h+1:Nat):Int),((h+1+sz a+1:Nat):Int)⟩]
 | .plus a,h=>F7 a h++[⟨2,zc,(h:Int),((h+sz a+1:Nat):Int)⟩]
 | .opt a,h=>⟨2,zc,((h+1:Nat):Int),((h+1+sz a:Nat):Int)⟩::F7 a (h+1)
 | .bgn,h=>[⟨3,zc,((h+1:Nat):Int),0⟩]
 | .fin,h=>[⟨4,zc,((h+1:Nat):Int),0⟩]
def A3h:St:=⟨5,zc,0,0⟩
def Q7(t:Rx):List St:=F7 t 0++[A3h]
theorem Z1(t:Rx):∀h,(F7 t h).length=sz t:=by
 induction t with
 | byte c=>intro h;rfl
 | empty=>intro h;rfl
 | bgn=>intro h;rfl
 | fin=>intro h;rfl
 | cat a b iha ihb=>intro h;simp[F7,sz,iha,ihb]
 | alt a b iha ihb=>intro h;simp[F7,sz,iha,ihb];omega
 | star a iha=>intro h;simp[F7,sz,iha]
 | plus a iha=>intro h;simp[F7,sz,iha]
 | opt a iha=>intro h;simp[F7,sz,iha]
theorem A2c(t:Rx):(Q7 t).length=sz t+1:=by simp[Q7,Z1]
theorem B8K(t:Rx):sz t<=2*(A0 t).length:=by
 induction t with
 | byte c=>simp[sz,A0]
 | empty=>simp[sz,A0]
 | bgn=>simp[sz,A0]
 | fin=>simp[sz,A0]
 | cat a b iha ihb=>simp[sz,A0];omega
 | alt a b iha ihb=>simp[sz,A0];omega
 | star a iha=>simp[sz,A0];omega
 | plus a iha=>simp[sz,A0];omega
 | opt a iha=>simp[sz,A0];omega
theorem B7d(t:Rx):∀(h many:Nat),h+sz t<many->∀s∈F7 t h,V4 s many=0:=by
 induction t with
 | byte c =>
   intro h many f s d;obtain rfl:=List.mem_singleton.1 d;simp only[sz] at f;exact D8 (by simp) (λ_=>⟨by simp;omega,by simp;omega⟩) (by simp) (by simp) (by simp) (by simp)
 | bgn =>
   intro h many f s d;obtain rfl:=List.mem_singleton.1 d;simp only[sz] at f;exact D8 (by simp) (λ_=>⟨by simp;omega,by simp;omega⟩) (by simp) (by simp) (by simp) (by simp)
 | fin =>
   intro h many f s d;obtain rfl:=List.mem_singleton.1 d;simp only[sz] at f;exact D8 (by simp) (λ_=>⟨by simp;omega,by simp;omega⟩) (by simp) (by simp) (by simp) (by simp)
 | empty=>intro h many f s d;cases d
 | cat a b iha ihb =>
   intro h many f s d;simp only[sz] at f;rcases List.mem_append.1 d with d|d
   .exact iha h many (by omega) s d
   .exact ihb _ many (by omega) s d
 | alt a b iha ihb =>
   intro h many f s d;simp only[sz] at f;rcases List.mem_append.1 d with d|d
   .rcases List.mem_cons.1 d with rfl|d
    .exact D8 (by simp) (λ_=>⟨by simp;omega,by simp;omega⟩) (λ_=>⟨by simp;omega,by simp;omega⟩) (by simp) (by simp) (by simp)
    .exact iha _ many (by omega) s d
   .rcases List.mem_cons.1 d with rfl|d
    .exact D8 (by simp) (λ_=>⟨by simp;omega,by simp;omega⟩) (λ_=>⟨by simp;omega,by simp;omega⟩) (by simp) (by simp) (by simp)
    .exact ihb _ many (by omega) s d
 | star a iha =>
   intro h many f s d;simp only[sz] at f;rcases List.mem_append.1 d with d|d
   .rcases List.mem_cons.1 d with rfl|d
    .exact D8 (by simp) (λ_=>⟨by simp;omega,by simp;omega⟩) (λ_=>⟨by simp;omega,by simp;omega⟩) (by simp) (by simp) (by simp)
    .exact iha _ many (by omega) s d
   .obtain rfl:=List.mem_singleton.1 d
    exact D8 (by simp) (λ_=>⟨by simp;omega,by simp;omega⟩) (λ_=>⟨by simp;omega,by simp;omega⟩) (by simp) (by simp) (by simp)
 | plus a iha =>
   intro h many f s d;simp only[sz] at f;rcases List.mem_append.1 d with d|d
   .exact iha _ many (by omega) s d
   .obtain rfl:=List.mem_singleton.1 d
    exact D8 (by simp) (λ_=>⟨by simp,by simp;omega⟩) (λ_=>⟨by simp;omega,by simp;omega⟩) (by simp) (by simp) (by simp)
 | opt a iha =>
   intro h many f s d;simp only[sz] at f;rcases List.mem_cons.1 d with rfl|d
   .exact D8 (by simp) (λ_=>⟨by simp;omega,by simp;omega⟩) (λ_=>⟨by simp;omega,by simp;omega⟩) (by simp) (by simp) (by simp)
   .exact iha _ many (by omega) s d
theorem A8a(t:Rx)(b:(A0 t).length<=60):okP (Q7 t):=by
 have c:=B8K t;refine⟨by rw[A2c];omega,by rw[A2c];omega,λs a=>?_⟩;rcases List.mem_append.1 a with a|a
 .exact B7d t 0 _ (by rw[A2c];omega) s a
 .obtain rfl:=List.mem_singleton.1 a
  exact D8 (by simp[A3h]) (by simp[A3h]) (by simp[A3h]) (by simp[A3h]) (by simp[A3h]) (by simp[A3h])
theorem B5h(P:X4->Prop)(i:P zc)(t:Rx):(∀n∈A0 t,P n.cls)->∀h,∀s∈F7 t h,P s.cls:=by
 induction t with
 | byte c=>intro f h s d;obtain rfl:=List.mem_singleton.1 d;exact f ⟨1,c⟩ (by simp[A0])
 | bgn=>intro f h s d;obtain rfl:=List.mem_singleton.1 d;exact i
 | fin=>intro f h s d;obtain rfl:=List.mem_singleton.1 d;exact i
 | empty=>intro f h s d;cases d
 | cat a b iha ihb =>
   intro f h s d;rcases List.mem_append.1 d with d|d
   .exact iha (λn g=>f n (by simp[A0,g])) _ s d
   .exact ihb (λn g=>f n (by simp[A0,g])) _ s d
 | alt a b iha ihb =>
   intro f h s d;rcases List.mem_append.1 d with d|d
   .rcases List.mem_cons.1 d with rfl|d
    .exact i
    .exact iha (λn g=>f n (by simp[A0,g])) _ s d
   .rcases List.mem_cons.1 d with rfl|d
    .exact i
    .exact ihb (λn g=>f n (by simp[A0,g])) _ s d
 | star a iha =>
   intro f h s d;rcases List.mem_append.1 d with d|d
   .rcases List.mem_cons.1 d with rfl|d
    .exact i
    .exact iha (λn g=>f n (by simp[A0,g])) _ s d
   .obtain rfl:=List.mem_singleton.1 d
    exact i
 | plus a iha =>
   intro f h s d;rcases List.mem_append.1 d with d|d
   .exact iha (λn g=>f n (by simp[A0,g])) _ s d
   .obtain rfl:=List.mem_singleton.1 d
    exact i
 | opt a iha =>
   intro f h s d;rcases List.mem_cons.1 d with rfl|d
   .exact i
   .exact iha (λn g=>f n (by simp[A0,g])) _ s d
theorem B2i(P:X4->Prop)(b:P zc)(t:Rx)(c:∀n∈A0 t,P n.cls):∀s∈Q7 t,P s.cls:=by
 intro s a;rcases List.mem_append.1 a with a|a
 .exact B5h P b t c 0 s a
 .obtain rfl:=List.mem_singleton.1 a
  exact b
def Tr(p:List St)(s:List U_)(i j d c:Nat):Prop :=
 (d=i/\Eps p (i==0) (i==s.length) j c)\/(d=i+1/\∃a b,p[j]?=some a/\a.op=1/\s[i]?=some b/\has a.cls b.toNat=true/\(c:Int)=a.x)
inductive Way (p:List St) (s:List U_):Nat->Nat->Nat->Nat->Nat->Prop where
 | refl (i j:Nat):Way p s 0 i j i j
 | head {n i j i1 j1 i2 j2:Nat}:Tr p s i j i1 j1->Way p s n i1 j1 i2 j2->Way p s (n+1) i j i2 j2
theorem Way.trans{p:List St}{s:List U_}{n m i j d b c a:Nat}(h:Way p s n i j d b)(f:Way p s m d b c a):Way p s (n+m) i j c a:=by
 induction h with
 | refl=>simpa using f
 | head ht _ ih=>rw[Nat.add_right_comm];exact .head ht (ih f)
theorem Way.one{p:List St}{s:List U_}{i j b a:Nat}(h:Tr p s i j b a):Way p s 1 i j b a:=.head h (.refl _ _)
theorem A4x{p:List St}{s:List U_}{i j k:Nat}(h:W6 (Eps p (i==0) (i==s.length)) j k):∃n,Way p s n i j i k:=by
 induction h with
 | refl=>exact⟨0,.refl _ _⟩
 | tail _ hr ih =>
   obtain⟨n,h⟩:=ih;exact⟨n+1,h.trans (.one (.inl ⟨rfl,hr⟩))⟩
theorem A90{p:List St}{s:List U_}{f i j:Nat}(h:A03 p s f i j):∃n,Way p s n f 0 i j:=by
 induction h with
 | start=>exact⟨0,.refl _ _⟩
 | step _ hs h1 h2 h3 h4 h5 ih =>
   obtain⟨n,h⟩:=ih;obtain⟨m,a⟩:=A4x hs;exact⟨n+m+1,(h.trans a).trans (.one (.inr ⟨rfl,_,_,h1,h2,h3,h4,h5⟩))⟩
theorem B0A{p:List St}{s:List U_}{n a c i j:Nat}(h:Way p s n a c i j):∀{f:Nat},(∃k,A03 p s f a k/\W6 (Eps p (a==0) (a==s.length)) k c)->∃k,A03 p s f i k/\W6 (Eps p (i==0) (i==s.length)) k j:=by
 induction h with
 | refl=>intro f h;exact h
 | head ht _ ih =>
   rintro f⟨k,g,d⟩;apply ih;rcases ht with ⟨rfl,h⟩|⟨rfl,st,b,h3,h4,h5,h6,h7⟩
   .exact⟨k,g,.tail d h⟩
   .exact⟨_,.step g d h3 h4 h5 h6 h7,.refl _⟩
theorem B5V{p:List St}{s:List U_}{f i:Nat}:y8 p s f i↔∃n k,Way p s n f 0 i k/\∃d,p[k]?=some d/\d.op=5:=by
 constructor
 .rintro⟨j,k,c,b,a⟩
  obtain⟨n,h⟩:=A90 c;obtain⟨m,g⟩:=A4x b;exact⟨n+m,k,h.trans g,a⟩
 .rintro⟨n,k,h,a⟩
  obtain⟨j,c,b⟩:=B0A h (f:=f) ⟨0,.start,.refl _⟩;exact⟨j,k,c,b,a⟩
def In(p:List St)(h:Nat)(l:List St):Prop:=∀k s,l[k]?=some s->p[h+k]?=some s
theorem In.left{p:List St}{h:Nat}{l r:List St}(b:In p h (l++r)):In p h l:=λk s a=>b k s (by rw[List.getElem?_append_left (List.getElem?_eq_some_iff.1 a).1];exact a)
theorem In.right{p:List St}{h:Nat}{l r:List St}(c:In p h (l++r)){n:Nat}(a:n=h+l.length):In p n r:=λk s b=>by
 subst a;rw[Nat.add_assoc];exact c _ s (by rw[List.getElem?_append_right (by omega)];simpa using b)
theorem In.hd{p:List St}{h:Nat}{s:St}{l:List St}(a:In p h (s::l)):p[h]?=some s:=a 0 s rfl
theorem In.tl{p:List St}{h:Nat}{s:St}{l:List St}(c:In p h (s::l)):In p (h+1) l:=λk a b=>by
 have:=c (k+1) a (by simpa using b);rwa[show h+1+k=h+(k+1) by omega]
theorem L6{p:List St}{s:List U_}{i j k f x y:Nat}{c:St}(l:p[j]?=some c)(m:c.op=2)(o:c.x=(x:Int))(n:c.y=(y:Int)):Tr p s i j k f↔k=i/\(f=x\/f=y):=by
 unfold Tr Eps;rw[l];constructor
 .rintro (⟨h,d,g,a⟩|⟨h,d,b,g,a,_⟩)
  .cases g
   refine⟨h,?_⟩;rcases a with ⟨_,a⟩|⟨a,_⟩|⟨a,_⟩
   .omega
   .omega
   .omega
  .cases g;omega
 .rintro⟨h,a⟩
  exact .inl ⟨h,c,rfl,.inl ⟨m,by omega⟩⟩
theorem B1Q{p:List St}{s:List U_}{i j l k x:Nat}{a:St}(m:p[j]?=some a)(o:a.op=1)(q:a.x=(x:Int)):Tr p s i j l k↔l=i+1/\k=x/\∃b,s[i]?=some b/\has a.cls b.toNat=true:=by
 unfold Tr Eps;rw[m];constructor
 .rintro (⟨h,c,g,n⟩|⟨h,c,b,g,_,f,d,r⟩)
  .cases g;omega
  .cases g;exact⟨h,by omega,b,f,d⟩
 .rintro⟨h,n,b,f,d⟩
  exact .inr ⟨h,a,b,rfl,o,f,d,by omega⟩
theorem A77{p:List St}{s:List U_}{i j k g x:Nat}{c:St}(m:p[j]?=some c)(n:c.op=3)(o:c.x=(x:Int)):Tr p s i j k g↔k=i/\g=x/\i=0:=by
 unfold Tr Eps;rw[m];constructor
 .rintro (⟨h,d,f,a⟩|⟨h,d,b,f,a,_⟩)
  .cases f
   rcases a with ⟨a,_⟩|⟨_,a,l⟩|⟨a,_⟩
   .omega
   .exact⟨h,by omega,by simpa using a⟩
   .omega
  .cases f;omega
 .rintro⟨h,a,l⟩
  exact .inl ⟨h,c,rfl,.inr (.inl ⟨n,by simpa using l,by omega⟩)⟩
theorem B1R{p:List St}{s:List U_}{i j k g x:Nat}{c:St}(m:p[j]?=some c)(n:c.op=4)(o:c.x=(x:Int)):Tr p s i j k g↔k=i/\g=x/\i=s.length:=by
 unfold Tr Eps;rw[m];constructor
 .rintro (⟨h,d,f,a⟩|⟨h,d,b,f,a,_⟩)
  .cases f
   rcases a with ⟨a,_⟩|⟨a,_⟩|⟨_,a,l⟩
   .omega
   .omega
   .exact⟨h,by omega,by simpa using a⟩
  .cases f;omega
 .rintro⟨h,a,l⟩
  exact .inl ⟨h,c,rfl,.inr (.inr ⟨n,by simpa using l,by omega⟩)⟩
theorem B6k{p:List St}{s:List U_}{i j g f:Nat}{d:St}(k:p[j]?=some d)(m:d.op=5):¬Tr p s i j g f:=by
 unfold Tr Eps;rw[k];rintro (⟨h,a,c,l⟩|⟨h,a,b,c,l,_⟩)
 .cases c;omega
 .cases c;omega
theorem A98{R:Nat->Nat->Prop}{i j:Nat}(h:W6 R i j):j=i\/∃k,R i k/\W6 R k j:=by
 induction h with
 | refl=>exact .inl rfl
 | tail h1 hr ih =>
   rcases ih with rfl|⟨k,h2,h3⟩
   .exact .inr ⟨_,hr,.refl _⟩
   .exact .inr ⟨k,h2,.tail h3 hr⟩
theorem A74(p:List St)(s:List U_)(t:Rx):∀(h:Nat),In p h (F7 t h)->∀i o,M4 s t i o->∃n,Way p s n i h o (h+sz t):=by
 have y:∀(a:Rx)(g:Nat) (E:Nat),(∀i o,M4 s a i o->∃n,Way p s n i g o (g+sz a))->(∀i,Tr p s i (g+sz a) i g)->(∀i,Tr p s i (g+sz a) i E)->∀i C o,M4 s a i C->W6 (M4 s a) C o->∃n,Way p s n i g o (g+sz a):=by
  intro a g E j F L i C o z A;obtain⟨n,q⟩:=j _ _ z;clear z
  induction A with
  | refl=>exact⟨n,q⟩
  | tail _ hr ih =>
    obtain⟨m,D⟩:=ih;obtain⟨l,H⟩:=j _ _ hr;exact⟨m+(l+1),D.trans (.head (F _) H)⟩
 induction t with
 | byte c =>
   rintro h d i o⟨rfl,b,F,J⟩;exact⟨1,.one ((B1Q d.hd rfl rfl).2 ⟨rfl,rfl,b,F,J⟩)⟩
 | empty=>intro h d i o r;simp only[M4] at r;subst r;exact⟨0,.refl _ _⟩
 | bgn =>
   rintro h d i o⟨rfl,G⟩;exact⟨1,.one ((A77 d.hd rfl rfl).2 ⟨rfl,rfl,G⟩)⟩
 | fin =>
   rintro h d i o⟨rfl,G⟩;exact⟨1,.one ((B1R d.hd rfl rfl).2 ⟨rfl,rfl,G⟩)⟩
 | cat a b j ihb =>
   rintro h d i o⟨k,z,A⟩;obtain⟨n,q⟩:=j h d.left _ _ z;obtain⟨m,D⟩:=ihb (h+sz a) (d.right (by rw[Z1])) _ _ A;exact⟨n+m,by simp only[sz,←Nat.add_assoc];exact q.trans D⟩
 | alt a b j ihb =>
   rintro h d i o (r|r)
   .obtain⟨n,q⟩:=j (h+1) d.left.tl _ _ r
    refine⟨(n+1)+1,.head ((L6 d.left.hd rfl rfl rfl).2 ⟨rfl,.inl rfl⟩) (q.trans (.one ?_))⟩;refine(L6 (d.right (n:=h+1+sz a) (by simp[Z1];omega)).hd rfl rfl rfl).2 ⟨rfl,.inl (by simp only[sz];omega)⟩
   .obtain⟨n,q⟩:=ihb (h+1+sz a+1) (d.right (n:=h+1+sz a) (by simp[Z1];omega)).tl _ _ r
    refine⟨n+1,.head ((L6 d.left.hd rfl rfl rfl).2 ⟨rfl,.inr rfl⟩) ?_⟩;rw[show h+sz (.alt a b)=h+1+sz a+1+sz b by simp only[sz];omega];exact q
 | star a j =>
   intro h d i o r;have f:=(d.right (n:=h+1+sz a) (by simp[Z1];omega)).hd;have B:h+sz (.star a)=h+1+sz a+1:=by simp only[sz];omega
   rw[B];rcases A98 r with rfl|⟨k,z,A⟩
   .exact⟨1,.one ((L6 d.left.hd rfl rfl rfl).2 ⟨rfl,.inr rfl⟩)⟩
   .obtain⟨n,q⟩:=y a (h+1) (h+1+sz a+1) (j (h+1) d.left.tl) (λi=>(L6 f rfl rfl rfl).2 ⟨rfl,.inl rfl⟩) (λi=>(L6 f rfl rfl rfl).2 ⟨rfl,.inr rfl⟩) _ _ _ z A
    exact⟨(n+1)+1,.head ((L6 d.left.hd rfl rfl rfl).2 ⟨rfl,.inl rfl⟩) (q.trans (.one ((L6 f rfl rfl rfl).2 ⟨rfl,.inr rfl⟩)))⟩
 | plus a j =>
   rintro h d i o⟨k,z,A⟩;have f:=(d.right (n:=h+sz a) (by simp[Z1])).hd;have B:h+sz (.plus a)=h+sz a+1:=by simp only[sz];omega
   rw[B];obtain⟨n,q⟩:=y a h (h+sz a+1) (j h d.left) (λi=>(L6 f rfl rfl rfl).2 ⟨rfl,.inl rfl⟩) (λi=>(L6 f rfl rfl rfl).2 ⟨rfl,.inr rfl⟩) _ _ _ z A;exact⟨n+1,q.trans (.one ((L6 f rfl rfl rfl).2 ⟨rfl,.inr rfl⟩))⟩
 | opt a j =>
   intro h d i o r;have B:h+sz (.opt a)=h+1+sz a:=by simp only[sz];omega
   rw[B];rcases r with rfl|r
   .exact⟨1,.one ((L6 d.hd rfl rfl rfl).2 ⟨rfl,.inr rfl⟩)⟩
   .obtain⟨n,q⟩:=j (h+1) d.tl _ _ r
    exact⟨n+1,.head ((L6 d.hd rfl rfl rfl).2 ⟨rfl,.inl rfl⟩) q⟩
theorem Way.cut{p:List St}{s:List U_}{n i j f a:Nat}(h:Way p s n i j f a)(b:a≠j):∃m d c,n=m+1/\Tr p s i j d c/\Way p s m d c f a:=by
 cases h with
 | refl=>exact absurd rfl b
 | head h1 h2=>exact⟨_,_,_,rfl,h1,h2⟩
theorem A8z(p:List St)(s:List U_)(t:Rx):∀(h:Nat),In p h (F7 t h)->∀n i j k,Way p s n i h j k->(k<h\/h+sz t<=k)->∃A m,m<=n/\M4 s t i A/\Way p s m A (h+sz t) j k:=by
 have E:∀(a:Rx)(g:Nat),(∀n i j k,Way p s n i g j k->(k<g\/g+sz a<=k)->∃A m,m<=n/\M4 s a i A/\Way p s m A (g+sz a) j k) ->
  (∀i j P,Tr p s i (g+sz a) j P↔j=i/\(P=g\/P=g+sz a+1))->∀n i j k,Way p s n i g j k->(k<g\/g+sz a+1<=k)->∃A C m,m<=n/\M4 s a i A/\W6 (M4 s a) A C/\Way p s m C (g+sz a+1) j k:=by
  intro a g q r n
  induction n using Nat.strongRecOn with
  | _ n ih =>
    intro i j k z B;obtain⟨A,m,hm,T,f⟩:=q n i j k z (by omega);obtain⟨m',C,j2,rfl,o,l⟩:=f.cut (by omega);obtain⟨rfl,rfl|rfl⟩:=(r _ _ _).1 o
    .obtain⟨M,Y,O,h1,h2,h3,h4⟩:=ih m' (by omega) _ _ _ l B
     exact⟨C,Y,O,by omega,T,W6.head h2 h3,h4⟩
    .exact⟨C,C,m',by omega,T,.refl _,l⟩
 induction t with
 | byte c =>
   intro h d n i j k z B;simp only[sz] at B ⊢;obtain⟨m,A,L,rfl,o,f⟩:=z.cut (by omega);obtain⟨rfl,rfl,b,hb,hh⟩:=(B1Q d.hd rfl rfl).1 o;exact⟨_,m,by omega,⟨rfl,b,hb,hh⟩,f⟩
 | empty=>intro h d n i j k z B;exact⟨i,n,lr_ _,rfl,z⟩
 | bgn =>
   intro h d n i j k z B;simp only[sz] at B ⊢;obtain⟨m,A,L,rfl,o,f⟩:=z.cut (by omega);obtain⟨rfl,rfl,S⟩:=(A77 d.hd rfl rfl).1 o;exact⟨_,m,by omega,⟨rfl,S⟩,f⟩
 | fin =>
   intro h d n i j k z B;simp only[sz] at B ⊢;obtain⟨m,A,L,rfl,o,f⟩:=z.cut (by omega);obtain⟨rfl,rfl,S⟩:=(B1R d.hd rfl rfl).1 o;exact⟨_,m,by omega,⟨rfl,S⟩,f⟩
 | cat a b q ihb =>
   intro h d n i j k z B;simp only[sz] at B ⊢;obtain⟨A,V,Z,R,f⟩:=q h d.left n i j k z (by omega);obtain⟨C,G,D,y,l⟩:=ihb (h+sz a) (d.right (by rw[Z1])) V A j k f (by omega);exact⟨C,G,by omega,⟨A,R,y⟩,by rw[←Nat.add_assoc];exact l⟩
 | alt a b q ihb =>
   intro h d n i j k z B;have J:h+sz (.alt a b)=h+1+sz a+1+sz b:=by simp only[sz];omega
   rw[J] at B ⊢;obtain⟨m,A,L,rfl,o,f⟩:=z.cut (by omega);have F:=(d.right (n:=h+1+sz a) (by simp[Z1];omega))
   obtain⟨rfl,rfl|rfl⟩:=(L6 d.left.hd rfl rfl rfl).1 o
   .obtain⟨C,G,D,y,l⟩:=q (h+1) d.left.tl m _ j k f (by omega)
    obtain⟨O,M,X,rfl,N,Q⟩:=l.cut (by omega);obtain⟨rfl,hj⟩:=(L6 F.hd rfl rfl rfl).1 N;obtain rfl:X=h+1+sz a+1+sz b:=by omega
    exact⟨_,O,by omega,.inl y,Q⟩
   .obtain⟨C,G,D,y,l⟩:=ihb (h+1+sz a+1) F.tl m _ j k f (by omega)
    exact⟨C,G,by omega,.inr y,l⟩
 | star a q =>
   intro h d n i j k z B;have J:h+sz (.star a)=h+1+sz a+1:=by simp only[sz];omega
   rw[J] at B ⊢;have r:=(d.right (n:=h+1+sz a) (by simp[Z1];omega)).hd;obtain⟨m,A,L,rfl,o,f⟩:=z.cut (by omega);obtain⟨rfl,rfl|rfl⟩:=(L6 d.left.hd rfl rfl rfl).1 o
   .obtain⟨C,M,G,D,y,H,l⟩:=E a (h+1) (q (h+1) d.left.tl) (λ_ _ _=>L6 r rfl rfl rfl) m _ j k f (by omega)
    exact⟨M,G,by omega,W6.head y H,l⟩
   .exact⟨_,m,by omega,W6.refl _,f⟩
 | plus a q =>
   intro h d n i j k z B;have J:h+sz (.plus a)=h+sz a+1:=by simp only[sz];omega
   rw[J] at B ⊢;have r:=(d.right (n:=h+sz a) (by simp[Z1])).hd;obtain⟨C,M,G,D,y,H,l⟩:=E a h (q h d.left) (λ_ _ _=>L6 r rfl rfl rfl) n _ j k z (by omega);exact⟨M,G,by omega,⟨C,y,H⟩,l⟩
 | opt a q =>
   intro h d n i j k z B;have J:h+sz (.opt a)=h+1+sz a:=by simp only[sz];omega
   rw[J] at B ⊢;obtain⟨m,A,L,rfl,o,f⟩:=z.cut (by omega);obtain⟨rfl,rfl|rfl⟩:=(L6 d.hd rfl rfl rfl).1 o
   .obtain⟨C,G,D,y,l⟩:=q (h+1) d.tl m _ j k f (by omega)
    exact⟨C,G,by omega,.inr y,l⟩
   .exact⟨_,m,by omega,.inl rfl,f⟩
theorem A9E(t:Rx):∀h,∀s∈F7 t h,s.op≠5:=by
 induction t with
 | byte c=>intro h s d;obtain rfl:=List.mem_singleton.1 d;simp
 | bgn=>intro h s d;obtain rfl:=List.mem_singleton.1 d;simp
 | fin=>intro h s d;obtain rfl:=List.mem_singleton.1 d;simp
 | empty=>intro h s d;cases d
 | cat a b iha ihb =>
   intro h s d;rcases List.mem_append.1 d with d|d
   .exact iha _ s d
   .exact ihb _ s d
 | alt a b iha ihb =>
   intro h s d;rcases List.mem_append.1 d with d|d
   .rcases List.mem_cons.1 d with rfl|d
    .simp
    .exact iha _ s d
   .rcases List.mem_cons.1 d with rfl|d
    .simp
    .exact ihb _ s d
 | star a iha =>
   intro h s d;rcases List.mem_append.1 d with d|d
   .rcases List.mem_cons.1 d with rfl|d
    .simp
    .exact iha _ s d
   .obtain rfl:=List.mem_singleton.1 d;simp
 | plus a iha =>
   intro h s d;rcases List.mem_append.1 d with d|d
   .exact iha _ s d
   .obtain rfl:=List.mem_singleton.1 d;simp
 | opt a iha =>
   intro h s d;rcases List.mem_cons.1 d with rfl|d
   .simp
   .exact iha _ s d
theorem B3O(t:Rx)(s:List U_)(f i:Nat):y8 (Q7 t) s f i↔M4 s t f i:=by
 have c:In (Q7 t) 0 (F7 t 0):=λk j g=>by
  rw[Nat.zero_add];unfold Q7;rw[List.getElem?_append_left (List.getElem?_eq_some_iff.1 g).1];exact g
 have a:(Q7 t)[0+sz t]?=some A3h:=by
  unfold Q7;rw[List.getElem?_append_right (by rw[Z1];omega)];simp[Z1]
 rw[B5V];constructor
 .rintro⟨n,k,l,j,b,p⟩
  have g:sz t<=k:=by
   refine Classical.byContradiction λhlt=>?_
   unfold Q7 at b;rw[List.getElem?_append_left (by rw[Z1];omega)] at b;exact A9E t 0 j (List.mem_of_getElem? b) p
  obtain⟨q,m,_,h,d⟩:=A8z _ s t 0 c n f i k l (by omega);cases d with
  | refl=>exact h
  | head htr _=>exact absurd htr (B6k a rfl)
 .intro h
  obtain⟨n,o⟩:=A74 _ s t 0 c f i h;exact⟨n,_,o,A3h,a,rfl⟩
end Wf
namespace Wf
open Go.Proofs.YthhcpbfgoofppaaGreatDoor (upTo_ A1y)
def B1r(L:Nat->Option Nat):Nat->Nat->Option (Nat×Nat)
 | 0,_=>none
 | n+1,i=>match L i with
   | some j=>some (i,j)
   | none=>B1r L n (i+1)
def P8(L:Nat->Option Nat)(N i:Nat):Option (Nat×Nat):=B1r L (N+1 - i) i
theorem A4F{L:Nat->Option Nat}{N i:Nat}(h:N<i):P8 L N i=none:=by
 unfold P8;rw[show N+1 - i=0 by omega];rfl
theorem A1l{L:Nat->Option Nat}{N i j:Nat}(h:i<=N)(a:L i=some j):P8 L N i=some (i,j):=by
 unfold P8;rw[show N+1 - i=(N - i)+1 by omega];simp only[B1r,a]
theorem A1m{L:Nat->Option Nat}{N i:Nat}(h:i<=N)(a:L i=none):P8 L N i=P8 L N (i+1):=by
 unfold P8;rw[show N+1 - i=(N - i)+1 by omega,show N+1 - (i+1)=N - i by omega];simp only[B1r,a]
theorem A2C{L:Nat->Option Nat}{N:Nat}:∀{i a b:Nat},P8 L N i=some (a,b)->i<=a/\a<=N/\L a=some b/\∀k,i<=k->k<a->L k=none:=by
 have key:∀n i a b,n=N+1 - i->P8 L N i=some (a,b)->i<=a/\a<=N/\L a=some b/\∀k,i<=k->k<a->L k=none:=by
  intro n
  induction n with
  | zero=>intro i a b f h;rw[A4F (by omega)] at h;cases h
  | succ n ih =>
    intro i a b f h;cases hj:L i with
    | some j =>
      rw[A1l (by omega) hj] at h;cases h;exact⟨lr_ _,by omega,hj,λk m c=>by omega⟩
    | none =>
      rw[A1m (by omega) hj] at h;obtain⟨m,c,l,g⟩:=ih (i+1) a b (by omega) h;refine⟨by omega,c,l,λk o d=>?_⟩;by_cases e:k=i
      .rw[e];exact hj
      .exact g k (by omega) d
 intro i a b h;exact key _ i a b rfl h
theorem B5S{L:Nat->Option Nat}{N i:Nat}:P8 L N i=none↔∀k,i<=k->k<=N->L k=none:=by
 constructor
 .have key:∀n i,n=N+1 - i->P8 L N i=none->∀k,i<=k->k<=N->L k=none:=by
   intro n
   induction n with
   | zero=>intro i g h k f c;omega
   | succ n ih =>
     intro i g h k f c;cases hj:L i with
     | some j=>rw[A1l (by omega) hj] at h;cases h
     | none =>
       rw[A1m (by omega) hj] at h;by_cases e:k=i
       .rw[e];exact hj
       .exact ih (i+1) (by omega) h k (by omega) c
  intro h;exact key _ i rfl h
 .intro h
  cases hf:P8 L N i with
  | none=>rfl
  | some p =>
    obtain⟨a,b⟩:=p;obtain⟨m,l,d,_⟩:=A2C hf;rw[h a m l] at d;cases d
def X5(a b:Nat):Nat:=if b=a then b+1 else b
def A7l(L:Nat->Option Nat)(N:Nat):Nat->Nat->List (Nat×Nat)
 | 0,_=>[]
 | n+1,at_=>if at_<=N then (match P8 L N at_ with
   | some (a,b)=>(a,b)::A7l L N n (X5 a b)
   | none=>[]) else []
def A1w(L:Nat->Option Nat)(N at_:Nat):List (Nat×Nat):=A7l L N (N+1 - at_) at_
def A2S(L:Nat->Option Nat)(N:Nat):Prop:=∀i j,L i=some j->i<=N->i<=j/\j<=N
theorem n9{L:Nat->Option Nat}{N i a b:Nat}(c:A2S L N)(h:P8 L N i=some (a,b)):i<X5 a b/\X5 a b<=N+1/\a<=b/\b<=N:=by
 obtain⟨g,f,d,_⟩:=A2C h;obtain⟨k,j⟩:=c a b d f;unfold X5
 split <;> omega
theorem B3k{L:Nat->Option Nat}{N:Nat}(c:A2S L N):∀n m at_,N+1 - at_<=n->N+1 - at_<=m->A7l L N n at_=A7l L N m at_:=by
 intro n
 induction n with
 | zero =>
   intro m at_ f d;cases m with
   | zero=>rfl
   | succ m=>simp only[A7l];rw[if_neg (by omega)]
 | succ n ih =>
   intro m at_ f d;cases m with
   | zero=>simp only[A7l];rw[if_neg (by omega)]
   | succ m =>
     simp only[A7l];by_cases h:at_<=N
     .rw[if_pos h,if_pos h]
      cases hf:P8 L N at_ with
      | none=>rfl
      | some p =>
        obtain⟨a,b⟩:=p;have g:=n9 c hf;simp only;rw[ih m (X5 a b) (by omega) (by omega)]
     .rw[if_neg h,if_neg h]
theorem A2I{L:Nat->Option Nat}{N at_:Nat}(h:N<at_):A1w L N at_=[]:=by
 unfold A1w;rw[show N+1 - at_=0 by omega];rfl
theorem A0S{L:Nat->Option Nat}{N at_:Nat}(h:P8 L N at_=none):A1w L N at_=[]:=by
 unfold A1w;cases hn:N+1 - at_ with
 | zero=>rfl
 | succ n=>simp only[A7l,h];split <;> rfl
theorem A2m{L:Nat->Option Nat}{N at_ a b:Nat}(c:A2S L N)(h:P8 L N at_=some (a,b)):A1w L N at_=(a,b)::A1w L N (X5 a b):=by
 have d:=n9 c h;obtain⟨g,f,_,_⟩:=A2C h;unfold A1w;rw[show N+1 - at_=(N - at_)+1 by omega];simp only[A7l];rw[if_pos (by omega),h];simp only;rw[B3k c (N - at_) (N+1 - X5 a b) (X5 a b) (by omega) (lr_ _)]
theorem A1R{L:Nat->Option Nat}{N:Nat}(c:A2S L N):∀at_,(A1w L N at_).length<=N+1 - at_:=by
 have key:∀n at_,N+1 - at_<=n->(A1w L N at_).length<=N+1 - at_:=by
  intro n
  induction n with
  | zero=>intro at_ h;rw[A2I (by omega)];simp
  | succ n ih =>
    intro at_ h;cases hf:P8 L N at_ with
    | none=>rw[A0S hf];simp
    | some p =>
      obtain⟨a,b⟩:=p;have d:=n9 c hf;rw[A2m c hf];have:=ih (X5 a b) (by omega);simp;omega
 exact λat_=>key _ at_ (lr_ _)
theorem B7y{L:Nat->Option Nat}{N:Nat}(f:A2S L N):∀at_,∀p∈A1w L N at_,at_<=p.1/\p.1<=p.2/\p.2<=N/\L p.1=some p.2:=by
 have key:∀n at_,N+1 - at_<=n->∀p∈A1w L N at_,at_<=p.1/\p.1<=p.2/\p.2<=N/\L p.1=some p.2:=by
  intro n
  induction n with
  | zero=>intro at_ h p c;rw[A2I (by omega)] at c;cases c
  | succ n ih =>
    intro at_ h p c;cases hf:P8 L N at_ with
    | none=>rw[A0S hf] at c;cases c
    | some q =>
      obtain⟨a,b⟩:=q;have d:=n9 f hf;obtain⟨l,o,k,_⟩:=A2C hf;rw[A2m f hf] at c;rcases List.mem_cons.1 c with rfl|c
      .exact⟨l,d.2.2.1,d.2.2.2,k⟩
      .obtain⟨m,j,i,g⟩:=ih (X5 a b) (by omega) p c
       exact⟨by omega,j,i,g⟩
 exact λat_=>key _ at_ (lr_ _)
inductive A20 (L:Nat->Option Nat) (N:Nat):Nat->List (Nat×Nat)->Nat->Prop where
 | nil (at_:Nat):A20 L N at_ [] at_
 | cons {at_ a b at':Nat} {l:List (Nat×Nat)} (h:P8 L N at_=some (a,b)) (hc:A20 L N (X5 a b) l at'):A20 L N at_ ((a,b)::l) at'
theorem A20.snoc{L:Nat->Option Nat}{N at_ c a b:Nat}{l:List (Nat×Nat)}(h:A20 L N at_ l c)(d:P8 L N c=some (a,b)):A20 L N at_ (l++[(a,b)]) (X5 a b):=by
 induction h with
 | nil at_=>exact .cons d (.nil _)
 | cons h1 _ ih=>exact .cons h1 (ih d)
theorem A20.all{L:Nat->Option Nat}{N at_ a:Nat}{l:List (Nat×Nat)}(b:A2S L N)(h:A20 L N at_ l a):A1w L N at_=l++A1w L N a:=by
 induction h with
 | nil at_=>rfl
 | cons h1 _ ih=>rw[A2m b h1,ih];rfl
noncomputable def X9(s:List U_)(t:Rx)(i:Nat):Option Nat:=(upTo_ (M4 s t i) (s.length+1)).getLast?
noncomputable def O8(s:List U_)(t:Rx)(i:Nat):Option (Nat×Nat):=P8 (X9 s t) s.length i
noncomputable def Y0(s:List U_)(t:Rx)(at_:Nat):List (Nat×Nat):=A1w (X9 s t) s.length at_
theorem A5K{s:List U_}{t:Rx}{i j:Nat}(h:X9 s t i=some j):M4 s t i j/\j<=s.length:=by
 unfold X9 at h;have:=List.mem_of_getLast? h;rw[A1y] at this;exact⟨this.2,by omega⟩
theorem A5L{s:List U_}{t:Rx}{i:Nat}:X9 s t i=none↔∀j,j<=s.length->¬M4 s t i j:=by
 unfold X9;rw[List.getLast?_eq_none_iff];constructor
 .intro h j a b
  have:j∈upTo_ (M4 s t i) (s.length+1):=A1y.2 ⟨by omega,b⟩;rw[h] at this;cases this
 .intro h
  refine List.eq_nil_iff_forall_not_mem.2 λj a=>?_
  rw[A1y] at a;exact h j (by omega) a.2
theorem V5(s:List U_)(t:Rx):A2S (X9 s t) s.length:=λi j h a=>by
 obtain⟨c,b⟩:=A5K h;exact⟨(s7 s t i j c a).1,b⟩
end Wf
namespace Wf
theorem B0h{s:List U_}{t:Rx}:O8 s t 0=none↔∀i j,i<=s.length->j<=s.length->¬M4 s t i j:=by
 unfold O8;rw[B5S];constructor
 .intro h i j b a
  exact A5L.1 (h i (Nat.zero_le _) b) j a
 .intro h i _ b
  exact A5L.2 λj a=>h i j b a
theorem A31(c:X4):(F6 c).length<=2400:=by
 unfold F6;have b:=(A1P (R7 c 0)).1;have a:=B9 c 0
 split
 .omega
 .split
  .simp
  .simp;omega
theorem B7b{n:Nat}(h:n<1000):(Go.Lib.decDigits n).length<=3:=by
 rw[Go.Lib.decDigits]
 split
 .simp
 .rw[Go.Lib.decDigits]
  split
  .simp
  .rw[Go.Lib.decDigits,dif_pos (by omega)]
   simp
inductive A6M (N:Nat):Nat->List (Nat×Nat)->Prop where
 | nil (f:Nat):A6M N f []
 | cons {f a b:Nat} {r:List (Nat×Nat)} (h1:f<=a) (h2:a<=b) (h3:b<=N) (h:A6M N b r):A6M N f ((a,b)::r)
theorem A6M.weaken{N f g:Nat}{l:List (Nat×Nat)}(h:A6M N f l)(a:g<=f):A6M N g l:=by
 cases h with
 | nil=>exact .nil _
 | cons h1 h2 h3 h=>exact .cons (Nat.le_trans a h1) h2 h3 h
theorem A68{L:Nat->Option Nat}{N:Nat}(d:A2S L N):∀at_,A6M N at_ (A1w L N at_):=by
 have key:∀n at_,N+1 - at_<=n->A6M N at_ (A1w L N at_):=by
  intro n
  induction n with
  | zero=>intro at_ h;rw[A2I (by omega)];exact .nil _
  | succ n ih =>
    intro at_ h;cases hf:P8 L N at_ with
    | none=>rw[A0S hf];exact .nil _
    | some p =>
      obtain⟨a,b⟩:=p;have c:=n9 d hf;obtain⟨f,_⟩:=A2C hf;rw[A2m d hf];refine .cons f c.2.2.1 c.2.2.2 ((ih (X5 a b) (by omega)).weaken ?_);unfold X5
      split <;> omega
 exact λat_=>key _ at_ (lr_ _)
def A3Z:Nat->List (Nat×Nat)->Nat
 | f,[]=>f
 | _,(_,b)::r=>A3Z b r
theorem A5Q(l:List (Nat×Nat))(a b:Nat):∀f,A3Z f (l++[(a,b)])=b:=by
 induction l with
 | nil=>intro f;rfl
 | cons x l ih=>intro f;exact ih _
theorem A6M.at_{N a b:Nat}{r:List (Nat×Nat)}:∀{f:Nat}{l:List (Nat×Nat)},A6M N f (l++(a,b)::r)->A3Z f l<=a/\a<=b/\b<=N:=by
 intro f l
 induction l generalizing f with
 | nil=>intro h;cases h with | cons h1 h2 h3 h=>exact⟨h1,h2,h3⟩
 | cons x l ih=>intro h;cases h with | cons h1 h2 h3 h=>exact ih h
def A0j(c:B_):Nat->List (Nat×Nat)->List B_
 | _,[]=>[]
 | f,(a,b)::r=>c.extract f a::A0j c b r
theorem A61(c:B_)(l:List (Nat×Nat))(a b:Nat):∀f,A0j c f (l++[(a,b)])=A0j c f l++[c.extract (A3Z f l) a]:=by
 induction l with
 | nil=>intro f;rfl
 | cons x l ih=>intro f;show c.extract f x.1::A0j c x.2 (l++[(a,b)])=_;rw[ih];rfl
theorem B5g(a:B_)(l:List (Nat×Nat)):∀f,(A0j a f l).length=l.length:=by
 induction l with
 | nil=>intro f;rfl
 | cons x l ih=>intro f;show(_::_).length=_;simp[ih]
def J8(a:B_)(l:List (Nat×Nat)):List B_:=A0j a 0 l++[a.extract (A3Z 0 l) a.size]
theorem A0t(a:B_)(l:List (Nat×Nat)):(J8 a l).length=l.length+1:=by simp[J8,B5g]
theorem N5(c:B_)(a b:Nat):(c.extract a b).size<=c.size:=by rw[ByteArray.size_extract];omega
theorem B3W(b:B_)(l:List (Nat×Nat)):∀f,∀s∈A0j b f l,s.size<=b.size:=by
 induction l with
 | nil=>intro f s a;cases a
 | cons x l ih =>
   intro f s a;rcases List.mem_cons.1 a with rfl|a
   .exact N5 _ _ _
   .exact ih _ s a
theorem A3U(b:B_)(l:List (Nat×Nat)):∀s∈J8 b l,s.size<=b.size:=by
 intro s a;rcases List.mem_append.1 a with a|a
 .exact B3W b l 0 s a
 .obtain rfl:s=_:=by simpa using a
  exact N5 _ _ _
theorem B24(a x:List U_)(b:List (List U_)):Go.Lib.join (b++[x]) a=if b=[] then x else Go.Lib.join b a++a++x:=by
 induction b with
 | nil=>simp[Go.Lib.join_one]
 | cons y r ih =>
   cases r with
   | nil=>simp[Go.Lib.join,List.intercalate]
   | cons z r =>
     have e:∀(q:List (List U_)),Go.Lib.join (y::z::q) a=y++a++Go.Lib.join (z::q) a:=λq=>by simp[Go.Lib.join,List.intercalate]
     rw[List.cons_append,List.cons_append,e,show z::(r++[x])=(z::r)++[x] from rfl,ih,e];simp
theorem A8J{α:Type}{l:List α}{k:Nat}{x:α}(h:l[k]?=some x):l=l.take k++x::l.drop (k+1):=by
 obtain⟨a,rfl⟩:=List.getElem?_eq_some_iff.1 h;rw[←List.drop_eq_getElem_cons a,List.take_append_drop]
theorem A4m(a:List U_)(m:Nat):∀b:List (List U_),(∀x∈b,x.length<=m)->(Go.Lib.join b a).length<=b.length*(m+a.length):=by
 intro b
 induction b with
 | nil=>intro _;simp[Go.Lib.join]
 | cons x r ih =>
   intro h;have d:=h x (by simp);cases r with
   | nil=>rw[Go.Lib.join_one];simp;omega
   | cons y r =>
     have:=ih λz c=>h z (by simp[c])
     have e:Go.Lib.join (x::y::r) a=x++a++Go.Lib.join (y::r) a:=by simp[Go.Lib.join,List.intercalate]
     rw[e,List.length_append,List.length_append,List.length_cons,Nat.succ_mul];omega
def jl(a:List B_)(bx:B_)(k:Nat):List U_:=Go.Lib.join ((a.take k).map (·.data.toList)) bx.data.toList
theorem B1h(a:List B_)(bx:B_):jl a bx 0=[]:=rfl
theorem B2N{α:Type}{l:List α}{k:Nat}{x:α}(h:l[k]?=some x):l.take (k+1)=l.take k++[x]:=by
 rw[List.take_add_one,h]
 rfl
theorem B1i{a:List B_}{bx s:B_}{k:Nat}(h:a[k]?=some s):jl a bx (k+1)=if k=0 then s.data.toList else jl a bx k++bx.data.toList++s.data.toList:=by
 unfold jl;rw[B2N h,List.map_append,List.map_cons,List.map_nil,B24];have c:=(List.getElem?_eq_some_iff.1 h).1;by_cases e:k=0
 .subst e;simp
 .rw[if_neg e,if_neg (λh=>by have b:=congrArg List.length h;simp only[List.length_map,List.length_take,List.length_nil] at b;omega)]
theorem A2D(b:B_)(f a:Nat):(b.extract f a).data.toList=(b.data.toList.take a).drop f:=by
 rw[ByteArray.data_extract,Array.toList_extract];simp[List.extract_eq_take_drop,List.drop_take]
