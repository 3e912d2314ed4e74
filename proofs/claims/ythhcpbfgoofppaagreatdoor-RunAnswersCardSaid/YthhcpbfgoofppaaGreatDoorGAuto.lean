import Derived.Test.YthhcpbfgoofppaaGreatDoorGSim
set_option linter.unusedVariables false
set_option linter.unusedSimpArgs false
open Wf
set_option maxRecDepth 100000
set_option maxHeartbeats 8000000
open Go.Lib (hid)
open Go.Proofs.Tryz hiding parts
namespace Wf
open Go Go.RowKit
def Fm(Own:Nat->Prop)(row:Option Nat)(w w':W_):Prop:=∀k,Own k->some k≠row->w'.heap[k]?=w.heap[k]?
theorem J0.fm{Own:Nat->Prop}{row:Option Nat}{w w':W_}{k:Nat}{t:TypeId}{cs:Array V_}(h:J0 w k t cs)(b:Own k)(d:Fm Own row w w')(c:some k≠row):J0 w' k t cs:=(d k b c).trans h
end Wf
namespace Go.Proofs.YthhcpbfgoofppaaGreatDoor
open Go.RowKit Wf
structure R9 where
 b:Nat
 m:Nat
 fs:List Nat
def A16(b:Nat):V_:=.pointer (some ⟨b,0,none⟩)
def A2y(b:List Nat):B_:=⟨(b.map λi=>UInt8.ofNat i).toArray⟩
theorem B2x{a b:List Nat}(k:∀i∈a,i<256)(j:∀i∈b,i<256)(h:A2y a=A2y b):a=b:=by
 have m:a.map (λi=>UInt8.ofNat i)=b.map (λi=>UInt8.ofNat i):=by
  have:=congrArg (λx:B_=>x.data.toList) h
  simpa[A2y] using this
 have d:=congrArg (List.map λc:U_=>c.toNat) m;rw[List.map_map,List.map_map] at d
 have key:∀l:List Nat,(∀i∈l,i<256)->l.map ((λc:U_=>c.toNat) ∘ λi=>UInt8.ofNat i)=l:=by
  intro l f
  conv=>rhs;rw[←List.map_id l]
  refine List.map_congr_left λi g=>?_
  have:=f i g;simp;omega
 rwa[key a k,key b j] at d
section
variable {Own Own':Nat->Prop} {row:Option Nat} {w w':W_}
theorem Mp.fm{α:Type}{mk:α->Value}{r:Nat}{l:List (α×Value)}(h:Mp w r mk l)(d:Own r)(g:Fm Own row w w')(f:some r≠row):Mp w' r mk l:=by
 obtain⟨j,b,i,c⟩:=h;exact⟨j,b,(g r d f).trans i,c⟩
theorem A0H{base b n:Nat}{e:TypeId}{v:V_}{c:List V_}(h:w.ownsRow base e b v n c)(d:∀g,v.ownBlock=some g->Own g)(i:Fm Own row w w')(f:∀g cs j,row=some g->w.heap[g]?≠some (.cells cs e j)):w'.ownsRow base e b v n c:=by
 refine⟨h.1,?_⟩;rcases h.2 with h0|⟨g,cap,cur,hv,h1,h2,rest⟩
 .exact .inl h0
 .refine .inr ⟨g,cap,cur,hv,h1,(i g (d g (by rw[hv];rfl)) (λe=>?_)).trans h2,rest⟩
  exact f g cur (0,0) e.symm h2
structure A7o (Own:Nat->Prop) (w:W_) (v:V_) (xs:List Nat):Prop where
 form:∃A cap,v=.slice A xs.length cap
 own:w.ownsRow 0 3 1 v xs.length (D0 xs)
 inn:∀g,v.ownBlock=some g->Own g
theorem A7o.fm{v:V_}{b:List Nat}(h:A7o Own w v b)(d:Fm Own row w w')(c:∀g cs f,row=some g->w.heap[g]?≠some (.cells cs 3 f)):A7o Own w' v b :=
 ⟨h.form,A0H h.own h.inn d c,h.inn⟩
theorem A7o.mono{v:V_}{b:List Nat}(h:A7o Own w v b)(hs:∀k,Own k->Own' k):A7o Own' w v b:=⟨h.form,h.own,λg c=>hs g (h.inn g c)⟩
def B1K(p:List St)(f:List Nat)(c:Nat)(b:List Nat):Prop:=∃L d,A04 p false false f L d/\A3r (Zz0 p c L) b
def B1O(p:List St)(Own:Nat->Prop)(w:W_)(g:List Nat)(f:V_):Prop :=
 f=.pointer none\/∃b c d L,f=A16 b/\Own b/\J0 w b 295 #[c,.bool d]/\A7o Own w c L/\A04 p false false g L d
theorem B1O.fm{p:List St}{f:List Nat}{b:V_}(h:B1O p Own w f b)(c:Fm Own row w w')(j:∀g cs b,row=some g->w.heap[g]?≠some (.cells cs 3 b))(i:∀g cs b,row=some g->w.heap[g]?≠some (.cells cs 295 b)):B1O p Own w' f b:=by
 rcases h with h|⟨fb,sv,d,L,h1,h2,h3,h4,h5⟩
 .exact .inl h
 .exact .inr ⟨fb,sv,d,L,h1,h2,h3.fm h2 c (λe=>i fb _ _ e.symm h3),h4.fm c j,h5⟩
theorem B1O.mono{p:List St}{b:List Nat}{c:V_}(h:B1O p Own w b c)(hs:∀k,Own k->Own' k):B1O p Own' w b c:=by
 rcases h with h|⟨fb,sv,d,L,h1,h2,h3,h4,h5⟩
 .exact .inl h
 .exact .inr ⟨fb,sv,d,L,h1,hs _ h2,h3,h4.mono hs,h5⟩
def A3m(b:Nat):V_:=.int .u8 b
def A8G(s:B_):V_:=.string s
structure A4c (p:List St) (Ss:List R9) (Own:Nat->Prop) (w:W_) (s:R9) (fv fr:V_) (N:List (Nat×Value)):Prop where
 blk:J0 w s.b 274 #[fv,.map (some s.m),fr]
 row:A7o Own w fv s.fs
 map:Mp w s.m A3m N
 nxt:∀c v,A6 N c=some v->∃t∈Ss,v=A16 t.b/\B1K p s.fs c t.fs
 frn:B1O p Own w s.fs fr
structure B06 (p:List St) (Ss:List R9) (Own:Nat->Prop) (w:W_) (s:R9):Prop where
 ob:Own s.b
 om:Own s.m
 up:s.fs.Pairwise (·<·)
 lt:∀j∈s.fs,j<p.length
 mem:∃fv fr N,A4c p Ss Own w s fv fr N
theorem A4c.fm{p:List St}{Ss:List R9}{s:R9}{f c:V_}{N:List (Nat×Value)}(h:A4c p Ss Own w s f c N)(j:Own s.b)(i:Own s.m)(d:Fm Own row w w')(l:some s.b≠row)(k:some s.m≠row)
 (hi:∀g cs c,row=some g->w.heap[g]?≠some (.cells cs 3 c)) (hn:∀g cs c,row=some g->w.heap[g]?≠some (.cells cs 295 c)):A4c p Ss Own w' s f c N :=
 ⟨h.blk.fm j d l,h.row.fm d hi,h.map.fm i d k,h.nxt,h.frn.fm d hi hn⟩
theorem A4c.mono{p:List St}{Ss Ss':List R9}{s:R9}{b d:V_}{N:List (Nat×Value)}(h:A4c p Ss Own w s b d N)(hs:∀k,Own k->Own' k)(i:∀t∈Ss,t∈Ss'):A4c p Ss' Own' w s b d N :=
 ⟨h.blk,h.row.mono hs,h.map,λc v f=>by obtain⟨t,g,h⟩:=h.nxt c v f;exact⟨t,i t g,h⟩,h.frn.mono hs⟩
theorem B06.fm{p:List St}{Ss:List R9}{s:R9}(h:B06 p Ss Own w s)(f:Fm Own row w w')(j:some s.b≠row)(i:some s.m≠row)
 (hi:∀g cs c,row=some g->w.heap[g]?≠some (.cells cs 3 c)) (hn:∀g cs c,row=some g->w.heap[g]?≠some (.cells cs 295 c)):B06 p Ss Own w' s:=by
 obtain⟨k,c,N,d⟩:=h.mem;exact⟨h.ob,h.om,h.up,h.lt,k,c,N,d.fm h.ob h.om f j i hi hn⟩
theorem B06.mono{p:List St}{Ss Ss':List R9}{s:R9}(h:B06 p Ss Own w s)(hs:∀k,Own k->Own' k)(c:∀t∈Ss,t∈Ss'):B06 p Ss' Own' w s:=by
 obtain⟨d,f,N,b⟩:=h.mem;exact⟨hs _ h.ob,hs _ h.om,h.up,h.lt,d,f,N,b.mono hs c⟩
structure R5 (p:List St) (a km:Nat) (pv:V_) (Own:Nat->Prop) (Ss:List R9) (L:List (ByteArray×Value)) (w:W_):Prop where
 ba:J0 w a 267 #[pv,.map (some km)]
 oa:Own a
 ok:Own km
 lt:∀k,Own k->k<w.heap.size
 pr:w.ownsRow 0 262 7 pv p.length (p.flatMap J1)
 po:∀g,pv.ownBlock=some g->Own g
 kn:Mp w km A8G L
 ln:L.length<=100
 ks:∀k v,A6 L k=some v->∃s∈Ss,v=A16 s.b/\k=A2y s.fs
 nb:∀s∈Ss,∀t∈Ss,s.b=t.b->s=t
 nm:∀s∈Ss,∀t∈Ss,s.m=t.m->s=t
 nk:∀s∈Ss,s.m≠km
 st:∀s∈Ss,B06 p Ss Own w s
variable {p:List St} {a km:Nat} {pv:V_} {Ss Ss':List R9} {L:List (ByteArray×Value)}
theorem R5.rds(h:R5 p a km pv Own Ss L w):RdS w pv p:=Rd.of_own h.pr
theorem R5.fm(h:R5 p a km pv Own Ss L w)(b:Fm Own none w w')(hs:w.heap.size<=w'.heap.size):R5 p a km pv Own Ss L w' :=
 ⟨h.ba.fm h.oa b (by simp),h.oa,h.ok,λk c=>Nat.lt_of_lt_of_le (h.lt k c) hs,A0H h.pr h.po b (by simp),h.po,h.kn.fm h.ok b (by simp),h.ln,h.ks,h.nb,h.nm,h.nk,λs hs=>(h.st s hs).fm b (by simp) (by simp) (by simp) (by simp)⟩
theorem R5.below(h:R5 p a km pv Own Ss L w)(b:Below w.heap.size w w'):R5 p a km pv Own Ss L w':=h.fm (λk c _=>b.block k (h.lt k c)) b.size
theorem R5.grown(h:R5 p a km pv Own Ss L w)(c:w.grownBy w' row)(d:∀g,row=some g->¬Own g):R5 p a km pv Own Ss L w' :=
 h.fm (λk b _=>c.block k (h.lt k b) (λe=>d k e.symm b)) c.size
theorem R5.alloc(h:R5 p a km pv Own Ss L w)(o:Obj):R5 p a km pv Own Ss L (w.alloc o):=h.fm (λk b _=>Below.heap_alloc w o k (h.lt k b)) (by simp)
theorem R5.set_(h:R5 p a km pv Own Ss L w){x:Addr}(b:¬Own x.block)(u:V_):R5 p a km pv Own Ss L (w.setCell x u) :=
 h.fm (λk c _=>Below.heap_setCell w x u k (λe=>b (by rw[←e];exact c))) (by simp)
theorem A8x(h:R5 p a km pv Own Ss L w)(d:w.grownBy w' row):Fm Own row w w':=λk c b=>d.block k (h.lt k c) b
theorem A1J{α:Type}{mk:α->Value}{r:Nat}{l:List (α×Value)}(h:Mp w r mk l)(t:TypeId):∀g cs c,some r=some g->w.heap[g]?≠some (.cells cs t c):=by
 intro g cs c e;obtain⟨f,b,d,_⟩:=h;cases e;rw[d];simp
theorem R5.reknown(h:R5 p a km pv Own Ss L w){c:List (ByteArray×Value)}(l:w.grownBy w' (some km))(f:Mp w' km A8G c)(m:c.length<=100)(g:∀k v,A6 c k=some v->∃s∈Ss,v=A16 s.b/\k=A2y s.fs):R5 p a km pv Own Ss c w':=by
 have i:=A8x h l
 have d:some a≠some km:=λe=>by
  obtain⟨r,j,n,_⟩:=h.kn;cases e;have:=h.ba;unfold J0 at this;rw[n] at this;cases this
 refine⟨h.ba.fm h.oa i d,h.oa,h.ok,λk g=>Nat.lt_of_lt_of_le (h.lt k g) l.size,A0H h.pr h.po i (A1J h.kn _),h.po,f,m,g,h.nb,h.nm,h.nk,λs hs=>?_⟩;refine(h.st s hs).fm i (λe=>?_) (λe=>h.nk s hs (by simpa using e)) (A1J h.kn _) (A1J h.kn _);obtain⟨o,q,N,f⟩:=(h.st s hs).mem;exact A1J h.kn _ _ _ _ e.symm f.blk
theorem R5.more(h:R5 p a km pv Own Ss L w)(s:R9)(J:¬Own s.b)(G:¬Own s.m)(F:s.b<w.heap.size)(D:s.m<w.heap.size)(o:V_)(q:∃A cap,o=.slice A s.fs.length cap)(l:w.ownsRow 0 3 1 o s.fs.length (D0 s.fs))
 (hup:s.fs.Pairwise (·<·)) (hlt:∀j∈s.fs,j<p.length) (hblk:J0 w s.b 274 #[o,.map (some s.m),.pointer none]) (hmap:Mp w s.m A3m []):
 R5 p a km pv (λk=>Own k\/k=s.b\/k=s.m\/o.ownBlock=some k) (s::Ss) L w:=by
 have B:∀k,Own k->(Own k\/k=s.b\/k=s.m\/o.ownBlock=some k):=λk z=>.inl z
 have H:∀t∈Ss,t∈s::Ss:=λt n=>List.mem_cons_of_mem _ n
 have i:∀t∈Ss,s.b≠t.b/\s.m≠t.m:=λt n=>⟨λe=>J (by rw[e];exact(h.st t n).ob),λe=>G (by rw[e];exact(h.st t n).om)⟩
 refine⟨h.ba,.inl h.oa,.inl h.ok,?_,h.pr,λg E=>.inl (h.po g E),h.kn,h.ln,λk v C=>?_,?_,?_,?_,?_⟩
 .rintro k (z|rfl|rfl|z)
  .exact h.lt k z
  .exact F
  .exact D
  .exact(l.lt k z).2
 .obtain⟨t,n,r⟩:=h.ks k v C
  exact⟨t,H t n,r⟩
 .intro x d y f e
  rcases List.mem_cons.1 d with ex|d
  .rcases List.mem_cons.1 f with ey|f
   .rw[ex,ey]
   .exact absurd (by rw[←ex];exact e) (i y f).1
  .rcases List.mem_cons.1 f with ey|f
   .exact absurd (by rw[←ey];exact e.symm) (i x d).1
   .exact h.nb x d y f e
 .intro x d y f e
  rcases List.mem_cons.1 d with ex|d
  .rcases List.mem_cons.1 f with ey|f
   .rw[ex,ey]
   .exact absurd (by rw[←ex];exact e) (i y f).2
  .rcases List.mem_cons.1 f with ey|f
   .exact absurd (by rw[←ey];exact e.symm) (i x d).2
   .exact h.nm x d y f e
 .intro x d e
  rcases List.mem_cons.1 d with rfl|d
  .exact G (by rw[e];exact h.ok)
  .exact h.nk x d e
 .intro x d
  rcases List.mem_cons.1 d with rfl|d
  .exact⟨.inr (.inl rfl),.inr (.inr (.inl rfl)),hup,hlt,o,_,[],hblk,⟨q,l,λg E=>.inr (.inr (.inr E))⟩,hmap,λc v C=>by simp[A6] at C,.inl rfl⟩
  .exact(h.st x d).mono B H
theorem R5.front(h:R5 p a km pv Own Ss L w){s:R9}(hs:s∈Ss){o:Nat}{A:V_}{d:Bool}{G:List Nat}(y:Own o)(m:J0 w o 295 #[A,.bool d])(q:A7o Own w A G)(D:A04 p false false s.fs G d):
 R5 p a km pv Own Ss L (w.setCell ⟨s.b,2,none⟩ (A16 o)):=by
 obtain⟨P,F,N,n⟩:=(h.st s hs).mem;have j:Fm Own (some s.b) w (w.setCell ⟨s.b,2,none⟩ (A16 o)):=λk _ M=>Below.heap_setCell w _ _ k (λe=>M (by rw[e]))
 have c:∀t:TypeId,t≠274->∀g cs F,some s.b=some g->w.heap[g]?≠some (.cells cs t F):=by
  intro t H g cs F Q z;cases Q;have:=n.blk;unfold J0 at this;rw[this] at z;simp at z;exact H z.2.1.symm
 have f:∀r,∀{α:Type}{mk:α->Value} {l:List (α×Value)},Mp w r mk l->some r≠some s.b:=by
  intro r α mk l J e;cases e;exact A1J J _ _ _ _ rfl n.blk
 have B:some a≠some s.b:=λe=>c 267 (by decide) _ _ _ e.symm h.ba
 refine⟨h.ba.fm h.oa j B,h.oa,h.ok,λk O=>by have:=h.lt k O;simpa using this,A0H h.pr h.po j (c _ (by decide)),h.po,h.kn.fm h.ok j (f _ h.kn),h.ln,h.ks,h.nb,h.nm,h.nk,λx i=>?_⟩;by_cases e:x=s
 .subst e
  have E:=n.blk.set_ 2 (A16 o)
  exact⟨(h.st x i).ob,(h.st x i).om,(h.st x i).up,(h.st x i).lt,P,_,N,E,n.row.fm j (c _ (by decide)),n.map.fm (h.st x i).om j (f _ n.map),n.nxt,
   .inr ⟨o,A,d,G,rfl,y,m.fm y j (λe=>c 295 (by decide) _ _ _ e.symm m),q.fm j (c _ (by decide)),D⟩⟩
 .obtain⟨_,_,_,C⟩:=(h.st x i).mem
  exact(h.st x i).fm j (λz=>e (h.nb x i s hs (by simpa using z))) (f _ C.map) (c _ (by decide)) (c _ (by decide))
theorem R5.next_(h:R5 p a km pv Own Ss L w){s t:R9}(hs:s∈Ss)(z:t∈Ss){r y:V_}{N:List (Nat×Value)}(d:A4c p Ss Own w s r y N){c:Nat}(A:B1K p s.fs c t.fs)(q:w.grownBy w' (some s.m))(n:Mp w' s.m A3m (j8 N c (A16 t.b))):
 R5 p a km pv Own Ss L w':=by
 have g:=A8x h q;have l:some a≠some s.m:=λe=>A1J d.map _ _ _ _ e.symm h.ba
 have i:∀x∈Ss,some x.b≠some s.m:=by
  intro x f e;obtain⟨_,_,_,o⟩:=(h.st x f).mem;exact A1J d.map _ _ _ _ e.symm o.blk
 refine⟨h.ba.fm h.oa g l,h.oa,h.ok,λk B=>Nat.lt_of_lt_of_le (h.lt k B) q.size,A0H h.pr h.po g (A1J d.map _),h.po,h.kn.fm h.ok g (λe=>h.nk s hs (by simpa using e.symm)),h.ln,h.ks,h.nb,h.nm,h.nk,λx f=>?_⟩;by_cases e:x=s
 .subst e
  refine⟨(h.st x f).ob,(h.st x f).om,(h.st x f).up,(h.st x f).lt,r,y,_,d.blk.fm (h.st x f).ob g (i x f),d.row.fm g (A1J d.map _),n,λD v j=>?_,d.frn.fm g (A1J d.map _) (A1J d.map _)⟩;rw[A0D] at j
  split at j
  .rename_i e
   cases j;rw[e];exact⟨t,z,rfl,A⟩
  .exact d.nxt D v j
 .exact(h.st x f).fm g (i x f) (λC=>e (h.nm x f s hs (by simpa using C))) (A1J d.map _) (A1J d.map _)
end
structure Gr (row:Option Nat) (Own Own':Nat->Prop) (Ss Ss':List R9) (w w':W_):Prop where
 os:w'.os=w.os
 tape:w'.tape=w.tape
 output:w'.output=w.output
 size:w.heap.size<=w'.heap.size
 kept:∀k,k<w.heap.size->¬Own k->some k≠row->w'.heap[k]?=w.heap[k]?
 sub:∀k,Own k->Own' k
 new:∀k,Own' k->Own k\/row=some k\/w.heap.size<=k
 ss:∀s∈Ss,s∈Ss'
theorem Gr.trans{Own d c:Nat->Prop}{row b:Option Nat}{Ss m l:List R9}{w o n:W_}(h:Gr row Own d Ss m w o)(k:Gr b d c m l o n)(q:∀g,b=some g->row=some g\/w.heap.size<=g):Gr row Own c Ss l w n:=by
 refine⟨k.os.trans h.os,k.tape.trans h.tape,k.output.trans h.output,Nat.le_trans h.size k.size,λj i r f=>?_,λj i=>k.sub j (h.sub j i),λj i=>?_,λs hs=>k.ss s (h.ss s hs)⟩
 .rw[k.kept j (Nat.lt_of_lt_of_le i h.size) (λe=>?_) (λe=>?_),h.kept j i r f]
  .rcases h.new j e with e1|e1|e1
   .exact r e1
   .exact f e1.symm
   .omega
  .rcases q j e.symm with e1|e1
   .exact f e1.symm
   .omega
 .rcases k.new j i with e|e|e
  .exact h.new j e
  .rcases q j e with e1|e1
   .exact .inr (.inl e1)
   .exact .inr (.inr e1)
  .exact .inr (.inr (Nat.le_trans h.size e))
theorem Gr.of_below{Own:Nat->Prop}{Ss:List R9}{w w':W_}(h:Below w.heap.size w w'):Gr none Own Own Ss Ss w w' :=
 ⟨h.os,h.tape,h.output,h.size,λk b _ _=>h.block k b,λ_ h=>h,λ_ h=>.inl h,λ_ h=>h⟩
theorem Gr.of_grown{Own:Nat->Prop}{row:Option Nat}{Ss:List R9}{w w':W_}(h:w.grownBy w' row):Gr row Own Own Ss Ss w w' :=
 ⟨h.os,h.tape,h.output,h.size,λk c _ b=>h.block k c b,λ_ h=>h,λ_ h=>.inl h,λ_ h=>h⟩
theorem Gr.of_owned{Own:Nat->Prop}{g:Nat}{Ss:List R9}{w w':W_}(h:w.grownBy w' (some g))(d:Own g)(row:Option Nat):Gr row Own Own Ss Ss w w' :=
 ⟨h.os,h.tape,h.output,h.size,λk c b _=>h.block k c (λe=>b (by cases e;exact d)),λ_ h=>h,λ_ h=>.inl h,λ_ h=>h⟩
theorem Gr.below{Own Own':Nat->Prop}{Ss Ss':List R9}{w w':W_}{B:Nat}(h:Gr none Own Own' Ss Ss' w w')(d:B<=w.heap.size)(b:∀k,Own k->B<=k):Below B w w' :=
 ⟨h.os,h.tape,h.output,h.size,λk c=>h.kept k (by omega) (λe=>by have:=b k e;omega) (by simp)⟩
theorem Gr.ge{Own Own':Nat->Prop}{Ss Ss':List R9}{w w':W_}{B:Nat}(h:Gr none Own Own' Ss Ss' w w')(d:B<=w.heap.size)(b:∀k,Own k->B<=k):∀k,Own' k->B<=k:=λk c=>by
 rcases h.new k c with e|e|e
 .exact b k e
 .cases e
 .omega
theorem A2i:(prog.info? 5).map (λi=>(i.zero,i.size,i.bytes))=some (some (.int .u8 0),1,1):=by kernel_rfl
def N9(b:List Nat):List V_:=b.map λ(i:Nat)=>Value.int .u8 i
theorem A6H(L:List Nat)(i:Nat):N9 (L++[i])=N9 L++[.int .u8 i]:=by simp[N9]
theorem B3Y(b:List Nat)(f:∀i∈b,i<256)(base:Nat)(v:V_)(w:W_)(h:w.ownsRow base 5 1 v b.length (N9 b)):(convert 30 9 v).run prog w=.ok (.string (A2y b)) w:=by
 obtain⟨m,l⟩:=h;rcases l with ⟨rfl,h0⟩|⟨g,cap,cur,rfl,h3,h4,h5,h6,h7,h8⟩
 .have:b=[]:=List.eq_nil_of_length_eq_zero h0
  subst this;exact run_convert_bytes_nil w 30 5 underlying30 underlying5 0 0 _ underlying9
 .have d:=run_convert_bytes_back (P:=prog) w 30 9 5 ⟨g,0,none⟩ cap (b.map λi=>UInt8.ofNat i) underlying30 underlying5 underlying9 (by
   intro j k;have hj':j<b.length:=by simpa using k
   rw[Z5,Nat.zero_add,cell_of_row w g j cur 5 (0,0) h4];have c:(cur.toList.take (b.length*1))[j]?=(N9 b)[j]?:=by rw[h8]
   rw[List.getElem?_take,if_pos (by omega)] at c;simp only[Array.getElem?_toList] at c;rw[c];have:=f _ (List.getElem_mem hj');simp[N9,hj',Nat.mod_eq_of_lt this])
  rw[List.length_map] at d;exact d
def B9X(b:List Nat)(w:W_)(e:Ending)(w':W_):Prop:=e=.returned (.string (A2y b))/\Below w.heap.size w w'
theorem B8s(b:List Nat)(H:∀i∈b,i<256)(hl:b.length<=1000)(A:Option Addr)(cap:Nat)(w:W_)(h:Rd1 w (.slice A b.length cap) (D0 b)):
 Calls prog 187 #[.slice A b.length cap] w (B9X b w):=by
 obtain⟨R,y,t,r,q⟩:=info_parts A2i;obtain⟨A',O,J,z,N,f⟩:=Rd1.open_ h;have j:(D0 b).length=b.length:=by simp[D0]
 rw[j] at J z f;injection J with e1 _ e2
 subst e1;subst e2;have F:=hid f;have P:=hid H;clear f h H j;go_enter func187,ntmps187;go_wp2
 go_loopw [3,8] (λv3 v8 wr=>∃k:Nat,k<=b.length/\v8=.int .i64 k/\Hid (wr.ownsRow w.heap.size 5 1 v3 (b.take k).length (N9 (b.take k)))/\Hid (Below w.heap.size w wr)) (λ_ i _=>b.length - (intOf i).toNat)
 case atStart=>exact⟨0,by omega,rfl,hid (World.ownsRow_nil _ _ _ _),hid br_⟩
 case round =>
  obtain⟨k,hk,rfl,E,g⟩:=hrel;by_cases hlt:k<b.length
  .obtain⟨Y,of,rfl,B,d⟩:=F.out (by omega)
   have l:b[k]?=some (b[k]'hlt):=List.getElem?_eq_getElem hlt;generalize b[k]'hlt=i at l;have V:=P.out i (List.mem_of_getElem? l);have g0:=d wr (λo=>g.out.cell (p:=⟨Y,o,none⟩) B) k (.int .i64 i) (by simp[D0,l]);have T:(k:Int)<b.length:=by omega
   have C:Hid (b.take (k+1)=b.take k++[i]):=hid (by rw[X3 l]);have S:(b.take k).length<=1000:=by simp;omega
   have Z:=hid (List.length_take_of_le (show k<=b.length by omega));clear l d;generalize hgo:b.take k=go at *;clear hgo
   go_wp2_with (at_builtin;refine wpList_append_own _ rfl (.tmp 12) (.tmp 15) _ rfl w.heap.size 5 R _ 1 1 underlying30 y t r q rfl (by omega) _ go.length (N9 go) rfl (E.out.alloc _) ⟨wr.heap.size,0,none⟩ 1 1 [.int .u8 i] rfl rfl (L9 _ _ _ _ rfl) (by intro u M;simp at M;subst M;rfl) (by unfold maxLen;omega) (by omega) (by have:=g.out.size;simp;omega) ?_)
   intro Q w' c m _;have n:Below w.heap.size w (wr.alloc (.cells #[.int .u8 i] 5)):=g.out.alloc g.out.size _;have G:=hid (J4 n (lr_ _) (by have:=g.out.size;simp;omega) (E.out.alloc _) m);have D:Hid (w'.ownsRow w.heap.size 5 1 Q (b.take (k+1)).length (N9 (b.take (k+1)))):=hid (by rw[C.out,A6H];simpa using c);clear c m n;go_wp2;go_roundw
   case rel=>exact⟨k+1,by omega,by go_num,D,G⟩
   case measure=>simp[intOf];omega
  .obtain rfl:k=b.length:=by omega
   have X:=B3Y b P.out w.heap.size u3 wr (by have:=E.out;rw[List.take_length] at this;exact this);go_wp2;go_ret;exact⟨rfl,g.out⟩
theorem A4j:A6N prog 9 A8G:=A43 underlying9
theorem A93:A6N prog 5 A3m:=A9J underlying5
def A9w(p:List St)(a km:Nat)(pv:V_)(Own:Nat->Prop)(Ss:List R9)(row:Option Nat)(c:List Nat)(w:W_)(e:Ending)(w':W_):Prop :=
 ∃(Own':Nat->Prop)(Ss':List R9) (d:List (ByteArray×Value)) (s:R9),e=.returned (.pointer (some ⟨s.b,0,none⟩))/\s∈Ss'/\A3r c s.fs/\R5 p a km pv Own' Ss' d w'/\Gr row Own Own' Ss Ss' w w'
theorem A3r.trans{d c b:List Nat}(h:∀j,j∈c↔j∈d)(k:A3r c b):A3r d b:=⟨λj=>(k.1 j).trans (h j),k.2⟩
theorem A4t(W:W_):(zeroValue 269).run prog W=.ok (.pointer none) W:=by kernel_rfl
theorem B67(p:List St)(hp:p.length<=200)(a km:Nat)(pv:V_)(Own:Nat->Prop)(Ss:List R9)(L:List (ByteArray×Value))(R:List Nat)(v:V_)(w:W_)(he:R5 p a km pv Own Ss L w)
 (B:w.ownsRow 0 3 1 v R.length (D0 R)) (hno:∀g,v.ownBlock=some g->¬Own g) (hlt:∀j∈R,j<p.length) (hl:R.length<=1000):
 Calls prog 164 #[.pointer (some ⟨a,0,none⟩),v] w (A9w p a km pv Own Ss v.ownBlock R w):=by
 have HE:=hid he;have HV:=hid B;have aB:=hid hno;have aK:=hid hlt;obtain⟨row,F⟩:∃row,row=v.ownBlock:=⟨_,rfl⟩
 rw[←F];have r:=hid F;clear he B hno hlt F;have aS:=@run_makeMap prog;go_enter func164,ntmps164;go_wp2_with fail;refine(B6D 0 R v w HV.out hl).mono ?_;rintro e w1⟨rfl,ys,ao,al,ak,H,aw⟩;have ay:=hid al;have ax:=hid ak;have aA:Hid (w1.ownsRow 0 3 1 v ys.length (D0 ys)):=hid (by rw[ao];exact H);have aC:Hid (w.grownBy w1 row):=hid (by rw[r.out];exact aw);have am:ys.length<=1000:=by omega
 clear ao al ak H aw;go_wp2_with fail;refine(B33 0 ys v w1 aA.out ax.out am).mono ?_;rintro e w2⟨A,cap,c,rfl,aR,ah,G,T,av⟩;have D:Hid (A3r R c):=hid (A3r.trans ay.out ah);have Z:=hid G;have ad:Hid (w.grownBy w2 row):=hid (aC.out.trans (by rw[r.out];exact av));have ag:Hid ((Value.slice A c.length cap).ownBlock=row):=hid (by rw[r.out];exact T);have aj:c.length<=1000:=by omega
 have C:Hid (∀j∈c,j<p.length):=hid (λj hj=>aK.out j ((D.out.1 j).1 hj));have aD:=hid (HE.out.grown ad.out (λg hg=>aB.out g (by rw[←r.out];exact hg)));clear ah G T av HE HV aA aC ay ax;go_wp2_with fail;refine(B8s c (λi hi=>by have:=C.out i hi;omega) aj A cap w2 (Rd.of_own Z.out)).mono ?_;rintro e l⟨rfl,Q⟩;have d:=hid (aD.out.below Q);have az:=hid (o4 Z.out Q);have ac:Hid (Gr row Own Own Ss Ss w l):=hid ((Gr.of_grown ad.out).trans (Gr.of_below Q) (by simp));have c1:l.cell? ⟨a,1,none⟩=some (.map (some km)):=d.out.ba.cell 1;clear Q aD Z ad;cases n:A6 L (A2y c) with
 | some u =>
   have J:=d.out.kn.look_some A4j underlying265 n true;obtain⟨s,hs,rfl,ar⟩:=d.out.ks _ _ n;have aq:=d.out.st s hs;have ai:=B2x (λi hi=>by have:=C.out i hi;omega) (λi hi=>by have:=aq.lt i hi;omega) ar;unfold A16 A8G at J;simp only[if_true] at J;have HS:=hid hs;have HT:Hid (A3r R s.fs):=hid (by rw[←ai];exact D.out);clear n hs ar aq ai;go_wp2_with fail;go_ret;exact⟨Own,Ss,L,s,rfl,HS.out,HT.out,d.out,ac.out⟩
 | none =>
   have J:=d.out.kn.look_none A4j underlying265 (A4t l) n true;unfold A8G at J;simp only[if_true] at J;have aM:=λty=>d.out.kn.len underlying265 ty
   have aJ:=d.out.ln;have HK:=hid n;clear n;by_cases h100:L.length=100
   .have hd:((L.length:Int)==100)=true:=by simp;omega
    obtain⟨f,aW,S,P,ap⟩:=d.out.kn.clear underlying265;have m:=hid (d.out.reknown P S (by simp) (λk v B=>by simp[A6] at B))
    have Y:Hid (f.ownsRow 0 3 1 (.slice A c.length cap) c.length (D0 c)):=hid (az.out.kept P (by
     cases hb:(Value.slice A c.length cap).ownBlock with
     | none=>exact .inl rfl
     | some g =>
       refine .inr (λe=>?_);cases e;exact aB.out km (by rw[←r.out,←ag.out,hb]) d.out.ok))
    have y:Hid (Gr row Own Own Ss Ss w f):=hid (ac.out.trans (Gr.of_owned P d.out.ok none) (by simp));have c4:f.cell? ⟨a,1,none⟩=some (.map (some km)):=m.out.ba.cell 1;have aP:=hid h100;clear S P ap h100;have aH:([]:List (ByteArray×Value)).length<=99:=by simp
    have aI:a<f.heap.size:=m.out.lt a m.out.oa;have z:=hid ((m.out.alloc (.map #[] 0)).alloc (.cells #[.slice A c.length cap,.map (some f.heap.size),.pointer none] 274));have aa:=hid ((Mp.new f A3m).kept (World.grownBy_alloc (f.alloc (.map #[] 0)) (.cells #[.slice A c.length cap,.map (some f.heap.size),.pointer none] 274) none) (by simp));have af:=hid (J0.new (f.alloc (.map #[] 0)) 274 #[.slice A c.length cap,.map (some f.heap.size),.pointer none]);have X:=hid ((Y.out.alloc (.map #[] 0)).alloc (.cells #[.slice A c.length cap,.map (some f.heap.size),.pointer none] 274));have o:(f.alloc (.map #[] 0)).heap.size=f.heap.size+1:=by simp
    have O:Hid ((λb=>¬Own b) f.heap.size/\(λb=>¬Own b) (f.heap.size+1)):=hid ⟨λh=>by have:=m.out.lt _ h;omega,λh=>by have:=m.out.lt _ h;omega⟩;obtain⟨w6,V,q,t,E⟩:=z.out.kn.update A4j underlying265 (A2y c) (A16 (f.heap.size+1));have N:=hid (z.out.more ⟨f.heap.size+1,f.heap.size,c⟩ O.out.2 O.out.1 (by simp) (by simp;omega) (.slice A c.length cap) ⟨A,cap,rfl⟩ X.out D.out.2 C.out (by rw[←o];exact af.out) aa.out)
    have ae:=hid (N.out.reknown t q (by rw[put_len];split <;> omega) (λk v B=>by
     rw[A0D] at B
     split at B
     .rename_i e
      cases B;exact⟨_,List.mem_cons_self ..,rfl,e⟩
     .exact N.out.ks k v B))
    have ab:Hid (Gr row Own (λk=>Own k\/k=f.heap.size+1\/k=f.heap.size\/(Value.slice A c.length cap).ownBlock=some k) Ss (⟨f.heap.size+1,f.heap.size,c⟩::Ss) w w6):=hid (by
     have M:=(y.out.trans (Gr.of_below ((br_.alloc (lr_ _) (.map #[] 0)).alloc (by simp) (.cells #[.slice A c.length cap,.map (some f.heap.size),.pointer none] 274))) (by simp)).trans (Gr.of_owned t z.out.ok none) (by simp)
     exact⟨M.os,M.tape,M.output,M.size,M.kept,λk n=>.inl n,λk n=>by
      rcases n with n|rfl|rfl|n
      .exact .inl n
      .exact .inr (.inr (by have:=y.out.size;omega))
      .exact .inr (.inr (y.out.size))
      .exact .inr (.inl (by rw[←ag.out,n])),λs hs=>List.mem_cons_of_mem _ hs⟩)
    unfold A8G A16 at V;clear q t E o;go_wp2_with fail;go_ret;exact⟨_,_,_,⟨f.heap.size+1,f.heap.size,c⟩,rfl,List.mem_cons_self ..,D.out,ae.out,ab.out⟩
   .have hd:((L.length:Int)==100)=false:=by simp;omega
    have m:=d;have Y:=az;have y:=ac;have aH:L.length<=99:=by omega
    have aI:a<l.heap.size:=m.out.lt a m.out.oa;have z:=hid ((m.out.alloc (.map #[] 0)).alloc (.cells #[.slice A c.length cap,.map (some l.heap.size),.pointer none] 274));have aa:=hid ((Mp.new l A3m).kept (World.grownBy_alloc (l.alloc (.map #[] 0)) (.cells #[.slice A c.length cap,.map (some l.heap.size),.pointer none] 274) none) (by simp));have af:=hid (J0.new (l.alloc (.map #[] 0)) 274 #[.slice A c.length cap,.map (some l.heap.size),.pointer none]);have X:=hid ((Y.out.alloc (.map #[] 0)).alloc (.cells #[.slice A c.length cap,.map (some l.heap.size),.pointer none] 274));have o:(l.alloc (.map #[] 0)).heap.size=l.heap.size+1:=by simp
    have O:Hid ((λb=>¬Own b) l.heap.size/\(λb=>¬Own b) (l.heap.size+1)):=hid ⟨λh=>by have:=m.out.lt _ h;omega,λh=>by have:=m.out.lt _ h;omega⟩;obtain⟨w6,V,q,t,E⟩:=z.out.kn.update A4j underlying265 (A2y c) (A16 (l.heap.size+1));have N:=hid (z.out.more ⟨l.heap.size+1,l.heap.size,c⟩ O.out.2 O.out.1 (by simp) (by simp;omega) (.slice A c.length cap) ⟨A,cap,rfl⟩ X.out D.out.2 C.out (by rw[←o];exact af.out) aa.out)
    have ae:=hid (N.out.reknown t q (by rw[put_len];split <;> omega) (λk v B=>by
     rw[A0D] at B
     split at B
     .rename_i e
      cases B;exact⟨_,List.mem_cons_self ..,rfl,e⟩
     .exact N.out.ks k v B))
    have ab:Hid (Gr row Own (λk=>Own k\/k=l.heap.size+1\/k=l.heap.size\/(Value.slice A c.length cap).ownBlock=some k) Ss (⟨l.heap.size+1,l.heap.size,c⟩::Ss) w w6):=hid (by
     have M:=(y.out.trans (Gr.of_below ((br_.alloc (lr_ _) (.map #[] 0)).alloc (by simp) (.cells #[.slice A c.length cap,.map (some l.heap.size),.pointer none] 274))) (by simp)).trans (Gr.of_owned t z.out.ok none) (by simp)
     exact⟨M.os,M.tape,M.output,M.size,M.kept,λk n=>.inl n,λk n=>by
      rcases n with n|rfl|rfl|n
      .exact .inl n
      .exact .inr (.inr (by have:=y.out.size;omega))
      .exact .inr (.inr (y.out.size))
      .exact .inr (.inl (by rw[←ag.out,n])),λs hs=>List.mem_cons_of_mem _ hs⟩)
    unfold A8G A16 at V;clear q t E o;go_wp2_with fail;go_ret;exact⟨_,_,_,⟨l.heap.size+1,l.heap.size,c⟩,rfl,List.mem_cons_self ..,D.out,ae.out,ab.out⟩
def B56(p:List St)(a km:Nat)(pv:V_)(Own:Nat->Prop)(Ss:List R9)(L:List (ByteArray×Value))(s:R9)(w:W_)(e:Ending)(w':W_):Prop :=
 ∃(A:Option Addr)(cap:Nat) (b:List Nat) (d:Bool) (Own':Nat->Prop),e=.returned (.agg #[.slice A b.length cap,.bool d])/\A04 p false false s.fs b d/\w'.ownsRow 0 3 1 (.slice A b.length cap) b.length (D0 b)/\R5 p a km pv Own' Ss L w'/\Gr none Own Own' Ss Ss w w'
section
variable {p:List St} {a km:Nat} {pv:V_} {Own:Nat->Prop} {Ss:List R9} {L:List (ByteArray×Value)} {w:W_}
theorem R5.fmono{Own':Nat->Prop}(h:R5 p a km pv Own Ss L w)(hs:∀k,Own k->Own' k)(d:∀k,Own' k->k<w.heap.size):R5 p a km pv Own' Ss L w :=
 ⟨h.ba,hs _ h.oa,hs _ h.ok,d,h.pr,λg f=>hs g (h.po g f),h.kn,h.ln,h.ks,h.nb,h.nm,h.nk,λs b=>(h.st s b).mono hs λ_ c=>c⟩
theorem R5.fronted(h:R5 p a km pv Own Ss L w){s:R9}(hs:s∈Ss){l:Nat}{A:Option Addr}{cap:Nat}{d:Bool}{j:List Nat}(f:J0 w l 295 #[.slice A j.length cap,.bool d])(c:w.ownsRow 0 3 1 (.slice A j.length cap) j.length (D0 j))(m:A04 p false false s.fs j d):
 R5 p a km pv (λk=>Own k\/k=l\/(Value.slice A j.length cap).ownBlock=some k) Ss L (w.setCell ⟨s.b,2,none⟩ (.pointer (some ⟨l,0,none⟩))):=by
 have o:=h.fmono (Own':=λk=>Own k\/k=l\/(Value.slice A j.length cap).ownBlock=some k) (λk i=>.inl i) (λk i=>by
  rcases i with i|rfl|i
  .exact h.lt k i
  .exact f.lt
  .exact(c.lt k i).2)
 exact o.front hs (.inr (.inl rfl)) f ⟨⟨A,cap,rfl⟩,c,λg n=>.inr (.inr n)⟩ m
end
theorem B4A(p:List St)(hp:okP p)(a km:Nat)(pv:V_)(Own:Nat->Prop)(Ss:List R9)(L:List (ByteArray×Value))(s:R9)(hs:s∈Ss)(w:W_)(he:R5 p a km pv Own Ss L w):
 Calls prog 190 #[.pointer (some ⟨a,0,none⟩),.pointer (some ⟨s.b,0,none⟩)] w (B56 p a km pv Own Ss L s w):=by
 have HE:=hid he;have Q:=he.st s hs;obtain⟨fv,fr,N,hm⟩:=Q.mem;have c0:w.cell? ⟨a,0,none⟩=some pv:=he.ba.cell 0;have d0:w.cell? ⟨s.b,0,none⟩=some fv:=hm.blk.cell 0;have d2:w.cell? ⟨s.b,2,none⟩=some fr:=hm.blk.cell 2;have z2:w.frozen? ⟨s.b,2,none⟩=false:=hm.blk.frozen 2;have ha:a<w.heap.size:=he.lt a he.oa;have hb:s.b<w.heap.size:=he.lt _ Q.ob;have az:=hid hm.row;have aq:=hid hm.blk;have ab:=hid hs;have aJ:=hid Q.lt;rcases hm.frn with rfl|⟨o,sv,d,f,rfl,X,hblk,hrow,C⟩
 .clear he Q hm hs
  go_enter func190,ntmps190;go_wp2_with fail;obtain⟨W,hW⟩:∃W,W=w.alloc (.cells #[.slice none 0 0,.bool false] 295):=⟨_,rfl⟩
  have Z:=hid (HE.out.alloc (.cells #[.slice none 0 0,.bool false] 295));have J:=hid ((Below.refl w.heap.size w).alloc (lr_ _) (.cells #[.slice none 0 0,.bool false] 295));have ao:=hid (J0.new w 295 #[.slice none 0 0,.bool false]);rw[←hW] at Z J ao ⊢;have aw:W.heap.size=w.heap.size+1:=by rw[hW];simp
  have P:=hid aw;clear hW aw
  have hS:∀w',Below W.heap.size W w'->(w'.cell? ⟨a,0,none⟩=some pv/\w'.cell? ⟨s.b,0,none⟩=some fv/\Below W.heap.size W w'):=λw' hb=>by
   have m:=Z.out.below hb;exact⟨m.ba.cell 0,((aq.out.kept J.out).kept hb).cell 0,hb⟩
  have HS:=hid hS
  have ay:Hid (∀w',Below W.heap.size W w'->Calls prog 188 #[pv,fv,.bool false,.bool false] w' (A2L p false false s.fs w')):=hid (λw' hb=>by
   have m:=Z.out.below hb;exact A1q p hp pv fv s.fs aJ.out false false w' m.rds (Rd.of_own (o4 (o4 az.out.own J.out) hb)))
  have B0:Below W.heap.size W W.drew:=br_.drew;clear hS;have B1:Below W.heap.size W (W.alloc (.cells #[.slice none 0 0,.bool false] 295)).drew:=ba_.drew;have aI:=hid (J0.new W 295 #[.slice none 0 0,.bool false]);have aN:=hid (trivial)
  go_region_held3 (λw'=>w'.cell? ⟨a,0,none⟩=some pv/\w'.cell? ⟨s.b,0,none⟩=some fv/\Below W.heap.size W w')
   (exact HS.out _ (by first | assumption | exact Below.alloc (by assumption) (by assumption:Below W.heap.size W _).size _ | exact((by assumption:Below W.heap.size W _).setCell (lr_ _) _).setCell (lr_ _) _))
   (first
     | (go_at_call 188;(with_reducible refine(ay.out ((W.alloc (.cells #[.slice none 0 0,.bool false] 295)).drew) B1).mono ?_);rintro e B⟨j,c,f,d,rfl,C,l,O⟩;have E:=aI.out.drew.kept O;have k0:B.cell? ⟨W.heap.size,0,none⟩=some (.slice none 0 0):=E.cell 0;have k1:B.cell? ⟨W.heap.size,1,none⟩=some (.bool false):=E.cell 1;have y0:B.frozen? ⟨W.heap.size,0,none⟩=false:=E.frozen 0;have y1:B.frozen? ⟨W.heap.size,1,none⟩=false:=E.frozen 1;have F:Below W.heap.size W B:=B1.trans (O.mono B1.size))
     | (go_at_call 188;(with_reducible refine(ay.out W.drew B0).mono ?_);rintro e B⟨j,c,f,d,rfl,C,l,O⟩;have F:Below W.heap.size W B:=B0.trans (O.mono B0.size)))
  .have n:=hid (F.alloc F.size (.cells #[.slice j f.length c,.bool d] 295))
   obtain⟨i,y⟩:∃i,i=B.alloc (.cells #[.slice j f.length c,.bool d] 295):=⟨_,rfl⟩
   rw[←y] at n ⊢;have z:Hid (J0 i B.heap.size 295 #[.slice j f.length c,.bool d]):=hid (by rw[y];exact J0.new B 295 #[.slice j f.length c,.bool d]);have Y:Hid (i.ownsRow 0 3 1 (.slice j f.length c) f.length (D0 f)):=hid (by rw[y];exact(J5 l (Nat.zero_le _)).alloc _);have M:W.heap.size<=B.heap.size:=by exact F.size
   have ap:Hid (∀g,(Value.slice j f.length c).ownBlock=some g->W.heap.size<=g):=hid (λg V=>by have:=(l.lt g V).1;simp at this;omega);have H:=hid C;clear y F O l C ;have ar:=hid (Z.out.below n.out);have G:=hid ((aq.out.kept J.out).kept n.out);have t:=hid (ao.out.kept n.out);have x2:i.cell? ⟨s.b,2,none⟩=some (.pointer none):=G.out.cell 2;have x3:i.frozen? ⟨s.b,2,none⟩=false:=G.out.frozen 2;have x4:i.cell? ⟨w.heap.size,0,none⟩=some (.slice none 0 0):=t.out.cell 0;have x5:i.cell? ⟨w.heap.size,1,none⟩=some (.bool false):=t.out.cell 1;have x6:i.frozen? ⟨w.heap.size,0,none⟩=false:=t.out.frozen 0;have x7:i.frozen? ⟨w.heap.size,1,none⟩=false:=t.out.frozen 1;have x8:i.cell? ⟨B.heap.size,0,none⟩=some (.slice j f.length c):=z.out.cell 0;have x9:i.cell? ⟨B.heap.size,1,none⟩=some (.bool d):=z.out.cell 1;have n1:s.b≠B.heap.size:=by have:=P.out;omega
   have n2:w.heap.size≠B.heap.size:=by have:=P.out;omega
   have n3:w.heap.size≠s.b:=by omega
   generalize B.heap.size=o at z x8 x9 n1 n2 M ⊢;have n4:o≠s.b:=Ne.symm n1;have n5:o≠w.heap.size:=Ne.symm n2;have n6:s.b≠w.heap.size:=Ne.symm n3;have HN:=hid (And.intro n1 (And.intro n2 n3));go_wp2_with fail;have al:=ar.out.fronted ab.out z.out Y.out H.out;have aF:i.grownBy (i.setCell ⟨s.b,2,none⟩ (.pointer (some ⟨o,0,none⟩))) (some s.b):=⟨rfl,rfl,rfl,by simp,λk _ m=>Below.heap_setCell i _ _ k (λe=>m (by rw[e]))⟩
   have aj:(i.setCell ⟨s.b,2,none⟩ (.pointer (some ⟨o,0,none⟩))).ownsRow 0 3 1 (.slice j f.length c) f.length (D0 f):=A0H (Own:=λk=>(Value.slice j f.length c).ownBlock=some k) Y.out (λg V=>V) (λk m hn=>Below.heap_setCell i _ _ k (λe=>hn (by rw[e]))) (λg cs fr e hh=>by
    cases e;have:=G.out;unfold J0 at this;rw[this] at hh;simp at hh)
   have D:=ap.out;have aE:=P.out;have ai:w.heap.size<=i.heap.size:=by have:=n.out.size;omega
   have S:¬(Own w.heap.size\/w.heap.size=o\/(Value.slice j f.length c).ownBlock=some w.heap.size):=by
    rintro (h|h|h)
    .have:=HE.out.lt _ h;omega
    .exact HN.out.2.1 h
    .have:=D _ h;omega
   have m:=((t.out.far (p:=⟨s.b,2,none⟩) (λe=>HN.out.2.2 e) (.pointer (some ⟨o,0,none⟩))).set_ 0 (.slice j f.length c)).set_ 1 (.bool d)
   have T:(i.setCell ⟨s.b,2,none⟩ (.pointer (some ⟨o,0,none⟩))).grownBy (((i.setCell ⟨s.b,2,none⟩ (.pointer (some ⟨o,0,none⟩))).setCell ⟨w.heap.size,0,none⟩ (.slice j f.length c)).setCell ⟨w.heap.size,1,none⟩ (.bool d)) (some w.heap.size):=⟨rfl,rfl,rfl,by simp,λq hq R=>by
    rw[Below.heap_setCell _ _ _ q (λe=>R (by rw[e])),Below.heap_setCell _ _ _ q (λe=>R (by rw[e]))]⟩
   refine bodyPost_ret (v:=.agg #[.slice j f.length c,.bool d]) ?_ rfl ⟨j,c,f,d,_,rfl,H.out,?_,(al.set_ S _).set_ S _,?_⟩
   .have k0:=m.cell 0
    have k1:=m.cell 1;simp only[Array.getElem?_setIfInBounds] at k0 k1;simp[results,results190,go_sem,k0,k1]
   .refine aj.kept T ?_
    cases hv:(Value.slice j f.length c).ownBlock with
    | none=>exact .inl rfl
    | some q=>exact .inr (λe=>by have:=D q hv;simp at e;omega)
   .have r:Below w.heap.size w i:=J.out.trans (n.out.mono (by omega))
    have V:=(r.setCell (p:=⟨w.heap.size,0,none⟩) (lr_ _) (.slice j f.length c))
    refine⟨r.os,r.tape,r.output,by simp;exact ai,λk m hn _=>?_,λk m=>.inl m,λk m=>?_,λ_ h=>h⟩
    .rw[T.block k (by simp;omega) (λe=>by cases e;omega),Below.heap_setCell i _ _ k (λe=>hn (by rw[e];exact(HE.out.st s ab.out).ob))]
     exact r.block k m
    .rcases m with h|h|h
     .exact .inl h
     .exact .inr (.inr (by omega))
     .exact .inr (.inr (by have:=D _ h;omega))
  .have n:=hid ((F.setCell (p:=⟨W.heap.size,0,none⟩) (lr_ _) (.slice j f.length c)).setCell (p:=⟨W.heap.size,1,none⟩) (lr_ _) (.bool d))
   obtain⟨i,y⟩:∃i,i=(B.setCell ⟨W.heap.size,0,none⟩ (.slice j f.length c)).setCell ⟨W.heap.size,1,none⟩ (.bool d):=⟨_,rfl⟩
   rw[←y] at n ⊢;have z:Hid (J0 i W.heap.size 295 #[.slice j f.length c,.bool d]):=hid (by rw[y];exact(E.set_ 0 (.slice j f.length c)).set_ 1 (.bool d))
   have Y:Hid (i.ownsRow 0 3 1 (.slice j f.length c) f.length (D0 f)):=hid (by
    rw[y];refine A0H (Own:=λk=>(Value.slice j f.length c).ownBlock=some k) (row:=some W.heap.size) (J5 l (Nat.zero_le _)) (λg V=>V) (λk m hn=>?_) (λg cs fr e hh=>?_)
    .rw[Below.heap_setCell _ _ _ k (λe=>hn (by rw[e])),Below.heap_setCell _ _ _ k (λe=>hn (by rw[e]))]
    .cases e
     have:=E;unfold J0 at this;rw[this] at hh;simp at hh)
   have M:W.heap.size<=W.heap.size:=by exact lr_ _
   have ap:Hid (∀g,(Value.slice j f.length c).ownBlock=some g->W.heap.size<=g):=hid (λg V=>by have:=(l.lt g V).1;simp at this;omega);have H:=hid C;clear y F O l C E k0 k1 y0 y1;have ar:=hid (Z.out.below n.out);have G:=hid ((aq.out.kept J.out).kept n.out);have t:=hid (ao.out.kept n.out);have x2:i.cell? ⟨s.b,2,none⟩=some (.pointer none):=G.out.cell 2;have x3:i.frozen? ⟨s.b,2,none⟩=false:=G.out.frozen 2;have x4:i.cell? ⟨w.heap.size,0,none⟩=some (.slice none 0 0):=t.out.cell 0;have x5:i.cell? ⟨w.heap.size,1,none⟩=some (.bool false):=t.out.cell 1;have x6:i.frozen? ⟨w.heap.size,0,none⟩=false:=t.out.frozen 0;have x7:i.frozen? ⟨w.heap.size,1,none⟩=false:=t.out.frozen 1;have x8:i.cell? ⟨W.heap.size,0,none⟩=some (.slice j f.length c):=z.out.cell 0;have x9:i.cell? ⟨W.heap.size,1,none⟩=some (.bool d):=z.out.cell 1;have n1:s.b≠W.heap.size:=by have:=P.out;omega
   have n2:w.heap.size≠W.heap.size:=by have:=P.out;omega
   have n3:w.heap.size≠s.b:=by omega
   have ak:=M;obtain⟨o,X⟩:∃o,o=W.heap.size:=⟨_,rfl⟩
   rw[←X] at z x8 x9 n1 n2 ⊢;rw[show(W.heap.size<=W.heap.size)=(W.heap.size<=o) by rw[X]] at M;clear X ak;have n4:o≠s.b:=Ne.symm n1;have n5:o≠w.heap.size:=Ne.symm n2;have n6:s.b≠w.heap.size:=Ne.symm n3;have HN:=hid (And.intro n1 (And.intro n2 n3));go_wp2_with fail;have al:=ar.out.fronted ab.out z.out Y.out H.out;have aF:i.grownBy (i.setCell ⟨s.b,2,none⟩ (.pointer (some ⟨o,0,none⟩))) (some s.b):=⟨rfl,rfl,rfl,by simp,λk _ m=>Below.heap_setCell i _ _ k (λe=>m (by rw[e]))⟩
   have aj:(i.setCell ⟨s.b,2,none⟩ (.pointer (some ⟨o,0,none⟩))).ownsRow 0 3 1 (.slice j f.length c) f.length (D0 f):=A0H (Own:=λk=>(Value.slice j f.length c).ownBlock=some k) Y.out (λg V=>V) (λk m hn=>Below.heap_setCell i _ _ k (λe=>hn (by rw[e]))) (λg cs fr e hh=>by
    cases e;have:=G.out;unfold J0 at this;rw[this] at hh;simp at hh)
   have D:=ap.out;have aE:=P.out;have ai:w.heap.size<=i.heap.size:=by have:=n.out.size;omega
   have S:¬(Own w.heap.size\/w.heap.size=o\/(Value.slice j f.length c).ownBlock=some w.heap.size):=by
    rintro (h|h|h)
    .have:=HE.out.lt _ h;omega
    .exact HN.out.2.1 h
    .have:=D _ h;omega
   have m:=((t.out.far (p:=⟨s.b,2,none⟩) (λe=>HN.out.2.2 e) (.pointer (some ⟨o,0,none⟩))).set_ 0 (.slice j f.length c)).set_ 1 (.bool d)
   have T:(i.setCell ⟨s.b,2,none⟩ (.pointer (some ⟨o,0,none⟩))).grownBy (((i.setCell ⟨s.b,2,none⟩ (.pointer (some ⟨o,0,none⟩))).setCell ⟨w.heap.size,0,none⟩ (.slice j f.length c)).setCell ⟨w.heap.size,1,none⟩ (.bool d)) (some w.heap.size):=⟨rfl,rfl,rfl,by simp,λq hq R=>by
    rw[Below.heap_setCell _ _ _ q (λe=>R (by rw[e])),Below.heap_setCell _ _ _ q (λe=>R (by rw[e]))]⟩
   refine bodyPost_ret (v:=.agg #[.slice j f.length c,.bool d]) ?_ rfl ⟨j,c,f,d,_,rfl,H.out,?_,(al.set_ S _).set_ S _,?_⟩
   .have k0:=m.cell 0
    have k1:=m.cell 1;simp only[Array.getElem?_setIfInBounds] at k0 k1;simp[results,results190,go_sem,k0,k1]
   .refine aj.kept T ?_
    cases hv:(Value.slice j f.length c).ownBlock with
    | none=>exact .inl rfl
    | some q=>exact .inr (λe=>by have:=D q hv;simp at e;omega)
   .have r:Below w.heap.size w i:=J.out.trans (n.out.mono (by omega))
    have V:=(r.setCell (p:=⟨w.heap.size,0,none⟩) (lr_ _) (.slice j f.length c))
    refine⟨r.os,r.tape,r.output,by simp;exact ai,λk m hn _=>?_,λk m=>.inl m,λk m=>?_,λ_ h=>h⟩
    .rw[T.block k (by simp;omega) (λe=>by cases e;omega),Below.heap_setCell i _ _ k (λe=>hn (by rw[e];exact(HE.out.st s ab.out).ob))]
     exact r.block k m
    .rcases m with h|h|h
     .exact .inl h
     .exact .inr (.inr (by omega))
     .exact .inr (.inr (by have:=D _ h;omega))
 .obtain⟨A,cap,rfl⟩:=hrow.form
  have f0:w.cell? ⟨o,0,none⟩=some (.slice A f.length cap):=hblk.cell 0;have f1:w.cell? ⟨o,1,none⟩=some (.bool d):=hblk.cell 1;have a_:o<w.heap.size:=he.lt _ X;unfold A16 at d2;have aH:=hid hrow.own;have H:=hid C;clear he Q hm hs hblk hrow C;go_enter func190,ntmps190;go_wp2_with fail;refine bodyPost_ret (v:=.agg #[.slice A f.length cap,.bool d]) (by simp[results,results190,go_sem]) rfl ⟨A,cap,f,d,Own,rfl,H.out,aH.out.alloc _,HE.out.alloc _,Gr.of_below ba_⟩
def B7z(p:List St)(a km:Nat)(pv:V_)(Own:Nat->Prop)(Ss:List R9)(L:List (ByteArray×Value))(c:Bool)(s:R9)(w:W_)(e:Ending)(w':W_):Prop :=
 ∃(b:List Nat)(d:Bool),e=.returned (.tuple #[.bool d,.pointer none])/\A04 p c true s.fs b d/\R5 p a km pv Own Ss L w'/\Gr none Own Own Ss Ss w w'
def A5o(p:List St)(a km:Nat)(pv:V_)(Own:Nat->Prop)(Ss:List R9)(g:Bool)(c:Nat)(s:R9)(w:W_)(e:Ending)(w':W_):Prop :=
 ∃(Own':Nat->Prop)(Ss':List R9) (h:List (ByteArray×Value)) (t:R9) (f:List Nat) (d:Bool),e=.returned (.tuple #[.bool d,.pointer (some ⟨t.b,0,none⟩)])/\A04 p g false s.fs f d/\t∈Ss'/\A3r (Zz0 p c f) t.fs/\R5 p a km pv Own' Ss' h w'/\Gr none Own Own' Ss Ss' w w'
def T3(p:List St)(a km:Nat)(pv:V_)(Own:Nat->Prop)(Ss:List R9)(d w':W_):Prop :=
 ∃(b:Nat->Prop)(c:List R9) (f:List (ByteArray×Value)),R5 p a km pv b c f w'/\Gr none Own b Ss c d w'
theorem T3.auto{p:List St}{a km:Nat}{pv:V_}{Own:Nat->Prop}{Ss:List R9}{c w':W_}(h:T3 p a km pv Own Ss c w'):w'.cell? ⟨a,0,none⟩=some pv:=by
 obtain⟨_,_,_,b,_⟩:=h;exact b.ba.cell 0
theorem T3.blk{p:List St}{a km:Nat}{pv:V_}{Own:Nat->Prop}{Ss:List R9}{c w':W_}(h:T3 p a km pv Own Ss c w'){k:Nat}{t:TypeId}{cs:Array V_}(b:J0 c k t cs)(d:¬Own k):J0 w' k t cs:=by
 obtain⟨_,_,_,_,f⟩:=h;exact(f.kept k b.lt d (by simp)).trans b
theorem B0f{p:List St}(hp:okP p)(c:Nat)(L:List Nat):∀j∈Zz0 p c L,j<p.length:=by
 intro j d;unfold Zz0 at d;rw[List.mem_flatMap] at d;obtain⟨k,g,b⟩:=d;cases hs:p[k]? with
 | none=>rw[hs] at b;simp at b
 | some st =>
   rw[hs] at b;simp only at b
   split at b
   .rename_i h
    obtain rfl:j=st.x.toNat:=by simpa using b
    have f:=A2g (hp.2.2 st (List.mem_of_getElem? hs));by_cases h5:st.op=5
    .rw[f.2.2.2.2.2 h5];have:=hp.1;simpa using this
    .have:=f.2.1 h5;omega
   .cases b
theorem B0g{p:List St}{l L:List Nat}{d:Bool}{c:Nat}{g:List Nat}(h:A04 p false false l L d)(n:B1K p l c g):A3r (Zz0 p c L) g:=by
 obtain⟨q,r,o,m⟩:=n;have i:∀x,x∈q↔x∈L:=λx=>by rw[o.takes,h.takes]
 refine A3r.trans (λj=>?_) m;unfold Zz0;simp only[List.mem_flatMap];constructor
 .rintro⟨k,f,b⟩;exact⟨k,(i k).1 f,b⟩
 .rintro⟨k,f,b⟩;exact⟨k,(i k).2 f,b⟩
section
variable (p:List St) (hp:okP p) (a km:Nat) (pv:V_) (Own:Nat->Prop) (Ss:List R9) (L:List (ByteArray×Value)) (s:R9) (hs:s∈Ss) (w:W_) (he:R5 p a km pv Own Ss L w)
include hp hs he
theorem B4P(X:B_)(hx:X.size<=400)(b0:Bool)(aq:((X.size:Int)==0)=b0):
 Calls prog 165 #[.pointer (some ⟨a,0,none⟩),.pointer (some ⟨s.b,0,none⟩),.string X,.int .i64 X.size] w (B7z p a km pv Own Ss L b0 s w):=by
 have M:=hid he;have HP:=hid hp;have Q:=he.st s hs;obtain⟨G,fr,N,hm⟩:=Q.mem;have c0:w.cell? ⟨a,0,none⟩=some pv:=he.ba.cell 0;have d0:w.cell? ⟨s.b,0,none⟩=some G:=hm.blk.cell 0;have J:=hid hm.row;have ab:=hid hm.blk;have ar:=hid hs;have ac:=hid Q.lt;clear he Q hm hs hp;have ap:((X.size:Int)==(X.size:Int))=true:=by simp
 cases b0
 .have hS:∀w',Below w.heap.size w w'->(w'.cell? ⟨a,0,none⟩=some pv/\w'.cell? ⟨s.b,0,none⟩=some G/\Below w.heap.size w w'):=λw' D=>by
   have F:=M.out.below D;exact⟨F.ba.cell 0,(ab.out.kept D).cell 0,D⟩
  have HS:=hid hS
  have E:Hid (∀w',Below w.heap.size w w'->Calls prog 188 #[pv,G,.bool false,.bool true] w' (A2L p false true s.fs w')):=hid (λw' D=>by
   have F:=M.out.below D;exact A1q p HP.out pv G s.fs ac.out false true w' F.rds (Rd.of_own (o4 J.out.own D)))
  have V:Below w.heap.size w w.drew:=br_.drew;have T:Below w.heap.size w (w.alloc (.cells #[.slice none 0 0,.bool false] 295)).drew:=ba_.drew;have S:=hid (J0.new w 295 #[.slice none 0 0,.bool false]);clear hS;go_enter func165,ntmps165;go_wp2_with fail
  go_region_held3 (λw'=>w'.cell? ⟨a,0,none⟩=some pv/\w'.cell? ⟨s.b,0,none⟩=some G/\Below w.heap.size w w')
   (exact HS.out _ (by first | assumption | exact Below.alloc (by assumption) (by assumption:Below w.heap.size w _).size _ | exact((by assumption:Below w.heap.size w _).setCell (lr_ _) _).setCell (lr_ _) _))
   (first
     | (go_at_call 188;(with_reducible refine(E.out ((w.alloc (.cells #[.slice none 0 0,.bool false] 295)).drew) T).mono ?_);rintro e j⟨t,c,h,d,rfl,z,f,y⟩;have l:=S.out.drew.kept y;have k0:j.cell? ⟨w.heap.size,0,none⟩=some (.slice none 0 0):=l.cell 0;have k1:j.cell? ⟨w.heap.size,1,none⟩=some (.bool false):=l.cell 1;have y0:j.frozen? ⟨w.heap.size,0,none⟩=false:=l.frozen 0;have y1:j.frozen? ⟨w.heap.size,1,none⟩=false:=l.frozen 1;have m:Below w.heap.size w j:=T.trans (y.mono T.size))
     | (go_at_call 188;(with_reducible refine(E.out w.drew V).mono ?_);rintro e j⟨t,c,h,d,rfl,z,f,y⟩;have m:Below w.heap.size w j:=V.trans (y.mono V.size)))
  .have q:=hid (m.alloc m.size (.cells #[.slice t h.length c,.bool d] 295))
   obtain⟨n,i⟩:∃n,n=j.alloc (.cells #[.slice t h.length c,.bool d] 295):=⟨_,rfl⟩
   rw[←i] at q ⊢;have o:Hid (J0 n j.heap.size 295 #[.slice t h.length c,.bool d]):=hid (by rw[i];exact J0.new j 295 #[.slice t h.length c,.bool d]);have R:Hid (n.ownsRow 0 3 1 (.slice t h.length c) h.length (D0 h)):=hid (by rw[i];exact(J5 f (Nat.zero_le _)).alloc _);have r:w.heap.size<=j.heap.size:=by exact m.size
   have C:=hid z;clear i m y f z ;have A:=hid (M.out.below q.out);have x0:n.cell? ⟨a,0,none⟩=some pv:=A.out.ba.cell 0;have P:n.cell? ⟨j.heap.size,0,none⟩=some (.slice t h.length c):=o.out.cell 0;have O:n.cell? ⟨j.heap.size,1,none⟩=some (.bool d):=o.out.cell 1;generalize j.heap.size=H at o P O r ⊢;go_wp2_with fail;go_ret2;exact⟨h,d,rfl,C.out,A.out,Gr.of_below q.out⟩
  .have q:=hid ((m.setCell (p:=⟨w.heap.size,0,none⟩) (lr_ _) (.slice t h.length c)).setCell (p:=⟨w.heap.size,1,none⟩) (lr_ _) (.bool d))
   obtain⟨n,i⟩:∃n,n=(j.setCell ⟨w.heap.size,0,none⟩ (.slice t h.length c)).setCell ⟨w.heap.size,1,none⟩ (.bool d):=⟨_,rfl⟩
   rw[←i] at q ⊢;have o:Hid (J0 n w.heap.size 295 #[.slice t h.length c,.bool d]):=hid (by rw[i];exact(l.set_ 0 (.slice t h.length c)).set_ 1 (.bool d))
   have R:Hid (n.ownsRow 0 3 1 (.slice t h.length c) h.length (D0 h)):=hid (by 
    rw[i];refine A0H (Own:=λk=>(Value.slice t h.length c).ownBlock=some k) (row:=some w.heap.size) (J5 f (Nat.zero_le _)) (λg hg=>hg) (λk F Y=>?_) (λg cs fr e Z=>?_)
    .rw[Below.heap_setCell _ _ _ k (λe=>Y (by rw[e])),Below.heap_setCell _ _ _ k (λe=>Y (by rw[e]))]
    .cases e
     have:=l;unfold J0 at this;rw[this] at Z;simp at Z)
   have r:w.heap.size<=w.heap.size:=by exact lr_ _
   have C:=hid z;clear i m y f z l k0 k1 y0 y1;have A:=hid (M.out.below q.out);have x0:n.cell? ⟨a,0,none⟩=some pv:=A.out.ba.cell 0;have P:n.cell? ⟨w.heap.size,0,none⟩=some (.slice t h.length c):=o.out.cell 0;have O:n.cell? ⟨w.heap.size,1,none⟩=some (.bool d):=o.out.cell 1;obtain⟨H,B⟩:∃H,H=w.heap.size:=⟨_,rfl⟩
   rw[←B] at o P O ⊢;clear r;have r:w.heap.size<=H:=by rw[B];exact lr_ _
   clear B;go_wp2_with fail;go_ret2;exact⟨h,d,rfl,C.out,A.out,Gr.of_below q.out⟩
 .have hS:∀w',Below w.heap.size w w'->(w'.cell? ⟨a,0,none⟩=some pv/\w'.cell? ⟨s.b,0,none⟩=some G/\Below w.heap.size w w'):=λw' D=>by
   have F:=M.out.below D;exact⟨F.ba.cell 0,(ab.out.kept D).cell 0,D⟩
  have HS:=hid hS
  have E:Hid (∀w',Below w.heap.size w w'->Calls prog 188 #[pv,G,.bool true,.bool true] w' (A2L p true true s.fs w')):=hid (λw' D=>by
   have F:=M.out.below D;exact A1q p HP.out pv G s.fs ac.out true true w' F.rds (Rd.of_own (o4 J.out.own D)))
  have V:Below w.heap.size w w.drew:=br_.drew;have T:Below w.heap.size w (w.alloc (.cells #[.slice none 0 0,.bool false] 295)).drew:=ba_.drew;have S:=hid (J0.new w 295 #[.slice none 0 0,.bool false]);clear hS;go_enter func165,ntmps165;go_wp2_with fail
  go_region_held3 (λw'=>w'.cell? ⟨a,0,none⟩=some pv/\w'.cell? ⟨s.b,0,none⟩=some G/\Below w.heap.size w w')
   (exact HS.out _ (by first | assumption | exact Below.alloc (by assumption) (by assumption:Below w.heap.size w _).size _ | exact((by assumption:Below w.heap.size w _).setCell (lr_ _) _).setCell (lr_ _) _))
   (first
     | (go_at_call 188;(with_reducible refine(E.out ((w.alloc (.cells #[.slice none 0 0,.bool false] 295)).drew) T).mono ?_);rintro e j⟨t,c,h,d,rfl,z,f,y⟩;have l:=S.out.drew.kept y;have k0:j.cell? ⟨w.heap.size,0,none⟩=some (.slice none 0 0):=l.cell 0;have k1:j.cell? ⟨w.heap.size,1,none⟩=some (.bool false):=l.cell 1;have y0:j.frozen? ⟨w.heap.size,0,none⟩=false:=l.frozen 0;have y1:j.frozen? ⟨w.heap.size,1,none⟩=false:=l.frozen 1;have m:Below w.heap.size w j:=T.trans (y.mono T.size))
     | (go_at_call 188;(with_reducible refine(E.out w.drew V).mono ?_);rintro e j⟨t,c,h,d,rfl,z,f,y⟩;have m:Below w.heap.size w j:=V.trans (y.mono V.size)))
  .have q:=hid (m.alloc m.size (.cells #[.slice t h.length c,.bool d] 295))
   obtain⟨n,i⟩:∃n,n=j.alloc (.cells #[.slice t h.length c,.bool d] 295):=⟨_,rfl⟩
   rw[←i] at q ⊢;have o:Hid (J0 n j.heap.size 295 #[.slice t h.length c,.bool d]):=hid (by rw[i];exact J0.new j 295 #[.slice t h.length c,.bool d]);have R:Hid (n.ownsRow 0 3 1 (.slice t h.length c) h.length (D0 h)):=hid (by rw[i];exact(J5 f (Nat.zero_le _)).alloc _);have r:w.heap.size<=j.heap.size:=by exact m.size
   have C:=hid z;clear i m y f z ;have A:=hid (M.out.below q.out);have x0:n.cell? ⟨a,0,none⟩=some pv:=A.out.ba.cell 0;have P:n.cell? ⟨j.heap.size,0,none⟩=some (.slice t h.length c):=o.out.cell 0;have O:n.cell? ⟨j.heap.size,1,none⟩=some (.bool d):=o.out.cell 1;generalize j.heap.size=H at o P O r ⊢;go_wp2_with fail;go_ret2;exact⟨h,d,rfl,C.out,A.out,Gr.of_below q.out⟩
  .have q:=hid ((m.setCell (p:=⟨w.heap.size,0,none⟩) (lr_ _) (.slice t h.length c)).setCell (p:=⟨w.heap.size,1,none⟩) (lr_ _) (.bool d))
   obtain⟨n,i⟩:∃n,n=(j.setCell ⟨w.heap.size,0,none⟩ (.slice t h.length c)).setCell ⟨w.heap.size,1,none⟩ (.bool d):=⟨_,rfl⟩
   rw[←i] at q ⊢;have o:Hid (J0 n w.heap.size 295 #[.slice t h.length c,.bool d]):=hid (by rw[i];exact(l.set_ 0 (.slice t h.length c)).set_ 1 (.bool d))
   have R:Hid (n.ownsRow 0 3 1 (.slice t h.length c) h.length (D0 h)):=hid (by 
    rw[i];refine A0H (Own:=λk=>(Value.slice t h.length c).ownBlock=some k) (row:=some w.heap.size) (J5 f (Nat.zero_le _)) (λg hg=>hg) (λk F Y=>?_) (λg cs fr e Z=>?_)
    .rw[Below.heap_setCell _ _ _ k (λe=>Y (by rw[e])),Below.heap_setCell _ _ _ k (λe=>Y (by rw[e]))]
    .cases e
     have:=l;unfold J0 at this;rw[this] at Z;simp at Z)
   have r:w.heap.size<=w.heap.size:=by exact lr_ _
   have C:=hid z;clear i m y f z l k0 k1 y0 y1;have A:=hid (M.out.below q.out);have x0:n.cell? ⟨a,0,none⟩=some pv:=A.out.ba.cell 0;have P:n.cell? ⟨w.heap.size,0,none⟩=some (.slice t h.length c):=o.out.cell 0;have O:n.cell? ⟨w.heap.size,1,none⟩=some (.bool d):=o.out.cell 1;obtain⟨H,B⟩:∃H,H=w.heap.size:=⟨_,rfl⟩
   rw[←B] at o P O ⊢;clear r;have r:w.heap.size<=H:=by rw[B];exact lr_ _
   clear B;go_wp2_with fail;go_ret2;exact⟨h,d,rfl,C.out,A.out,Gr.of_below q.out⟩
theorem B2S(az:∀st∈p,P5 st.cls)(n:B_)(hx:n.size<=400)(i:Nat)(hi:i<n.size)(bf:((i:Int)==0)=true)(be:((i:Int)==(n.size:Int))=false):
 Calls prog 165 #[.pointer (some ⟨a,0,none⟩),.pointer (some ⟨s.b,0,none⟩),.string n,.int .i64 i] w (A5o p a km pv Own Ss true n[i].toNat s w):=by
 have HE:=hid he;have HP:=hid hp;have E:=he.st s hs;obtain⟨fv,fr,N,hm⟩:=E.mem;have c0:w.cell? ⟨a,0,none⟩=some pv:=he.ba.cell 0;have d0:w.cell? ⟨s.b,0,none⟩=some fv:=hm.blk.cell 0;have aE:=hid hm.row;have aN:=hid hm.blk;have bh:=hid hs;have aO:=hid E.lt;clear he E hm hs hp;have aF:=hid az;have bc:(i:Int)<n.size:=by omega
 have bd:(0:Int)<=i:=by omega
 have X:n[i].toNat<256:=n[i].toNat_lt;clear az
 have hS:∀w',Below w.heap.size w w'->(w'.cell? ⟨a,0,none⟩=some pv/\w'.cell? ⟨s.b,0,none⟩=some fv/\Below w.heap.size w w'):=λw' hb=>by
  have hk:=HE.out.below hb;exact⟨hk.ba.cell 0,(aN.out.kept hb).cell 0,hb⟩
 have HS:=hid hS
 have aD:Hid (∀w',Below w.heap.size w w'->Calls prog 188 #[pv,fv,.bool true,.bool false] w' (A2L p true false s.fs w')):=hid (λw' hb=>by
  have hk:=HE.out.below hb;exact A1q p HP.out pv fv s.fs aO.out true false w' hk.rds (Rd.of_own (o4 aE.out.own hb)))
 have B0:Below w.heap.size w w.drew:=br_.drew;have B1:Below w.heap.size w (w.alloc (.cells #[.slice none 0 0,.bool false] 295)).drew:=ba_.drew;have aM:=hid (J0.new w 295 #[.slice none 0 0,.bool false]);clear hS;go_enter func165,ntmps165;go_wp2_with fail
 go_region_held3 (λw'=>w'.cell? ⟨a,0,none⟩=some pv/\w'.cell? ⟨s.b,0,none⟩=some fv/\Below w.heap.size w w')
  (exact HS.out _ (by first | assumption | exact Below.alloc (by assumption) (by assumption:Below w.heap.size w _).size _ | exact((by assumption:Below w.heap.size w _).setCell (lr_ _) _).setCell (lr_ _) _))
  (first
    | (go_at_call 188;(with_reducible refine(aD.out ((w.alloc (.cells #[.slice none 0 0,.bool false] 295)).drew) B1).mono ?_);rintro e D⟨r,c,j,d,rfl,V,q,Q⟩;have F:=aM.out.drew.kept Q;have k0:D.cell? ⟨w.heap.size,0,none⟩=some (.slice none 0 0):=F.cell 0;have k1:D.cell? ⟨w.heap.size,1,none⟩=some (.bool false):=F.cell 1;have y0:D.frozen? ⟨w.heap.size,0,none⟩=false:=F.frozen 0;have y1:D.frozen? ⟨w.heap.size,1,none⟩=false:=F.frozen 1;have J:Below w.heap.size w D:=B1.trans (Q.mono B1.size))
    | (go_at_call 188;(with_reducible refine(aD.out w.drew B0).mono ?_);rintro e D⟨r,c,j,d,rfl,V,q,Q⟩;have J:Below w.heap.size w D:=B0.trans (Q.mono B0.size)))
 .have O:=hid (J.alloc J.size (.cells #[.slice r j.length c,.bool d] 295))
  obtain⟨f,y⟩:∃f,f=D.alloc (.cells #[.slice r j.length c,.bool d] 295):=⟨_,rfl⟩
  rw[←y] at O ⊢;have A:Hid (J0 f D.heap.size 295 #[.slice r j.length c,.bool d]):=hid (by rw[y];exact J0.new D 295 #[.slice r j.length c,.bool d]);have ao:Hid (f.ownsRow 0 3 1 (.slice r j.length c) j.length (D0 j)):=hid (by rw[y];exact(J5 q (Nat.zero_le _)).alloc _);have P:w.heap.size<=D.heap.size:=by exact J.size
  have ac:=hid V;clear y J Q q V ;have m:=hid (HE.out.below O.out);have x0:f.cell? ⟨a,0,none⟩=some pv:=m.out.ba.cell 0;have x8:f.cell? ⟨D.heap.size,0,none⟩=some (.slice r j.length c):=A.out.cell 0;have x9:f.cell? ⟨D.heap.size,1,none⟩=some (.bool d):=A.out.cell 1;generalize D.heap.size=C at A x8 x9 P ⊢;have ap:Hid (¬Own C):=hid (λh=>by have:=HE.out.lt C h;omega);have M:=hid (A5c HP.out ac.out)
  have Z:∀w',Hid (T3 p a km pv Own Ss f w')->(w'.cell? ⟨C,0,none⟩=some (.slice r j.length c)/\w'.cell? ⟨C,1,none⟩=some (.bool d)/\w'.cell? ⟨a,0,none⟩=some pv/\Hid (T3 p a km pv Own Ss f w')):=λw' h=>by
   have hk:=h.out.blk A.out ap.out;exact⟨hk.cell 0,hk.cell 1,h.out.auto,h⟩
  have al:=hid Z
  have aq:Hid (∀w',Below f.heap.size f w'->Calls prog 189 #[.agg #[.slice r j.length c,.bool d],pv,.int .u8 (n[i].toNat:Int)] w' (B8E p n[i].toNat j w')):=hid (λw' h =>
   B1N p aF.out (λst E=>B4i HP.out st E) pv r c j d M.out.2 M.out.1 _ X w' (m.out.below h).rds (Rd.of_own (o4 ao.out h)))
  have am:Hid (∀w' R l,Below f.heap.size f w'->w'.ownsRow (f.heap.size) 3 1 (.slice R (Zz0 p n[i].toNat j).length l) (Zz0 p n[i].toNat j).length (D0 (Zz0 p n[i].toNat j))->Calls prog 164 #[.pointer (some ⟨a,0,none⟩),.slice R (Zz0 p n[i].toNat j).length l] w' (A9w p a km pv Own Ss (Value.slice R (Zz0 p n[i].toNat j).length l).ownBlock (Zz0 p n[i].toNat j) w')):=hid (λw' R l h ho =>
   B67 p HP.out.2.1 a km pv Own Ss L _ _ w' (m.out.below h) (J5 ho (Nat.zero_le _)) (λg hg hO=>by have:=(ho.lt g hg).1;have:=m.out.lt g hO;omega) (B0f HP.out _ _) (by have:=A3d p n[i].toNat j;have:=M.out.1;omega))
  have C0:Below f.heap.size f f.drew:=br_.drew;have aR:Hid (T3 p a km pv Own Ss f f.drew):=hid ⟨Own,Ss,L,m.out.below C0,Gr.of_below C0⟩;clear Z;go_wp2_with fail
  go_region_held3 (λw'=>w'.cell? ⟨C,0,none⟩=some (.slice r j.length c)/\w'.cell? ⟨C,1,none⟩=some (.bool d)/\w'.cell? ⟨a,0,none⟩=some pv/\Hid (T3 p a km pv Own Ss f w'))
   (exact al.out _ (by assumption))
   (first
     | (go_at_call 189;refine(aq.out _ C0).mono ?_;rintro e w3⟨R,l,rfl,o,Y⟩;have z:Below f.heap.size f w3:=C0.trans (Y.mono C0.size);have aQ:Hid (T3 p a km pv Own Ss f w3):=hid ⟨Own,Ss,L,m.out.below z,Gr.of_below z⟩;have ad:=hid z;have ab:=hid (J5 o (show f.heap.size<=_ by simp));clear o Y z)
     | (go_at_call 164;refine(am.out w3 R l ad.out ab.out).mono ?_;rintro e w4⟨B,aa,L4,t,rfl,ht,S,H,T⟩;have G:=(Gr.of_below ad.out).trans T (λg hg=>.inr (ab.out.lt g hg).1);have aP:Hid (T3 p a km pv Own Ss f w4):=hid ⟨B,aa,L4,H,G⟩;have au:=hid H;have ar:=hid G;have HT:=hid ht;have ak:=hid S;clear H T G ht S))
  go_wp2_with fail;go_ret2;exact⟨B,aa,L4,t,j,d,rfl,ac.out,HT.out,ak.out,au.out,(Gr.of_below O.out).trans ar.out (by simp)⟩
 .have O:=hid ((J.setCell (p:=⟨w.heap.size,0,none⟩) (lr_ _) (.slice r j.length c)).setCell (p:=⟨w.heap.size,1,none⟩) (lr_ _) (.bool d))
  obtain⟨f,y⟩:∃f,f=(D.setCell ⟨w.heap.size,0,none⟩ (.slice r j.length c)).setCell ⟨w.heap.size,1,none⟩ (.bool d):=⟨_,rfl⟩
  rw[←y] at O ⊢;have A:Hid (J0 f w.heap.size 295 #[.slice r j.length c,.bool d]):=hid (by rw[y];exact(F.set_ 0 (.slice r j.length c)).set_ 1 (.bool d))
  have ao:Hid (f.ownsRow 0 3 1 (.slice r j.length c) j.length (D0 j)):=hid (by 
   rw[y];refine A0H (Own:=λk=>(Value.slice r j.length c).ownBlock=some k) (row:=some w.heap.size) (J5 q (Nat.zero_le _)) (λg hg=>hg) (λk hk hn=>?_) (λg cs fr e hh=>?_)
   .rw[Below.heap_setCell _ _ _ k (λe=>hn (by rw[e])),Below.heap_setCell _ _ _ k (λe=>hn (by rw[e]))]
   .cases e
    have:=F;unfold J0 at this;rw[this] at hh;simp at hh)
  have P:w.heap.size<=w.heap.size:=by exact lr_ _
  have ac:=hid V;clear y J Q q V F k0 k1 y0 y1;have m:=hid (HE.out.below O.out);have x0:f.cell? ⟨a,0,none⟩=some pv:=m.out.ba.cell 0;have x8:f.cell? ⟨w.heap.size,0,none⟩=some (.slice r j.length c):=A.out.cell 0;have x9:f.cell? ⟨w.heap.size,1,none⟩=some (.bool d):=A.out.cell 1;obtain⟨C,aj⟩:∃C,C=w.heap.size:=⟨_,rfl⟩
  rw[←aj] at A x8 x9 ⊢;clear P;have P:w.heap.size<=C:=by rw[aj];exact lr_ _
  clear aj;have ap:Hid (¬Own C):=hid (λh=>by have:=HE.out.lt C h;omega);have M:=hid (A5c HP.out ac.out)
  have Z:∀w',Hid (T3 p a km pv Own Ss f w')->(w'.cell? ⟨C,0,none⟩=some (.slice r j.length c)/\w'.cell? ⟨C,1,none⟩=some (.bool d)/\w'.cell? ⟨a,0,none⟩=some pv/\Hid (T3 p a km pv Own Ss f w')):=λw' h=>by
   have hk:=h.out.blk A.out ap.out;exact⟨hk.cell 0,hk.cell 1,h.out.auto,h⟩
  have al:=hid Z
  have aq:Hid (∀w',Below f.heap.size f w'->Calls prog 189 #[.agg #[.slice r j.length c,.bool d],pv,.int .u8 (n[i].toNat:Int)] w' (B8E p n[i].toNat j w')):=hid (λw' h =>
   B1N p aF.out (λst E=>B4i HP.out st E) pv r c j d M.out.2 M.out.1 _ X w' (m.out.below h).rds (Rd.of_own (o4 ao.out h)))
  have am:Hid (∀w' R l,Below f.heap.size f w'->w'.ownsRow (f.heap.size) 3 1 (.slice R (Zz0 p n[i].toNat j).length l) (Zz0 p n[i].toNat j).length (D0 (Zz0 p n[i].toNat j))->Calls prog 164 #[.pointer (some ⟨a,0,none⟩),.slice R (Zz0 p n[i].toNat j).length l] w' (A9w p a km pv Own Ss (Value.slice R (Zz0 p n[i].toNat j).length l).ownBlock (Zz0 p n[i].toNat j) w')):=hid (λw' R l h ho =>
   B67 p HP.out.2.1 a km pv Own Ss L _ _ w' (m.out.below h) (J5 ho (Nat.zero_le _)) (λg hg hO=>by have:=(ho.lt g hg).1;have:=m.out.lt g hO;omega) (B0f HP.out _ _) (by have:=A3d p n[i].toNat j;have:=M.out.1;omega))
  have C0:Below f.heap.size f f.drew:=br_.drew;have aR:Hid (T3 p a km pv Own Ss f f.drew):=hid ⟨Own,Ss,L,m.out.below C0,Gr.of_below C0⟩;clear Z;go_wp2_with fail
  go_region_held3 (λw'=>w'.cell? ⟨C,0,none⟩=some (.slice r j.length c)/\w'.cell? ⟨C,1,none⟩=some (.bool d)/\w'.cell? ⟨a,0,none⟩=some pv/\Hid (T3 p a km pv Own Ss f w'))
   (exact al.out _ (by assumption))
   (first
     | (go_at_call 189;refine(aq.out _ C0).mono ?_;rintro e w3⟨R,l,rfl,o,Y⟩;have z:Below f.heap.size f w3:=C0.trans (Y.mono C0.size);have aQ:Hid (T3 p a km pv Own Ss f w3):=hid ⟨Own,Ss,L,m.out.below z,Gr.of_below z⟩;have ad:=hid z;have ab:=hid (J5 o (show f.heap.size<=_ by simp));clear o Y z)
     | (go_at_call 164;refine(am.out w3 R l ad.out ab.out).mono ?_;rintro e w4⟨B,aa,L4,t,rfl,ht,S,H,T⟩;have G:=(Gr.of_below ad.out).trans T (λg hg=>.inr (ab.out.lt g hg).1);have aP:Hid (T3 p a km pv Own Ss f w4):=hid ⟨B,aa,L4,H,G⟩;have au:=hid H;have ar:=hid G;have HT:=hid ht;have ak:=hid S;clear H T G ht S))
  go_wp2_with fail;go_ret2;exact⟨B,aa,L4,t,j,d,rfl,ac.out,HT.out,ak.out,au.out,(Gr.of_below O.out).trans ar.out (by simp)⟩
theorem B4O(ao:∀st∈p,P5 st.cls)(l:B_)(hx:l.size<=400)(i:Nat)(hi:i<l.size)(bs:((i:Int)==0)=false)(br:((i:Int)==(l.size:Int))=false):
 Calls prog 165 #[.pointer (some ⟨a,0,none⟩),.pointer (some ⟨s.b,0,none⟩),.string l,.int .i64 i] w (A5o p a km pv Own Ss false l[i].toNat s w):=by
 have HE:=hid he;have HP:=hid hp;have ad:=hid hs;have bb:=hid ao;have bp:(i:Int)<l.size:=by omega
 have bq:(0:Int)<=i:=by omega
 have ac:l[i].toNat<256:=l[i].toNat_lt;clear he hp hs ao;have aD:=hid (B4A p HP.out a km pv Own Ss L s ad.out w HE.out);go_enter func165,ntmps165;go_wp2_with fail;refine aD.out.mono ?_;rintro e w1⟨G,j,n,d,f,rfl,aw,A,ab,av⟩;have F:=hid aw;have hb1':=(Below.refl w1.heap.size w1).alloc (lr_ _) (.cells #[.slice G n.length j,.bool d] 295);have k:=hid (ab.below hb1');have o:=hid (J0.new w1 295 #[.slice G n.length j,.bool d]);have E:=hid (o4 A hb1');have S:=hid (av.trans (Gr.of_below hb1') (by simp));have R:Hid (¬f w1.heap.size):=hid (λh=>by have:=ab.lt _ h;omega);clear aw A ab av hb1' aD;go_wp2_with fail;obtain⟨c,ay⟩:∃c,c=w1.alloc (.cells #[.slice G n.length j,.bool d] 295):=⟨_,rfl⟩
 rw[←ay] at k o E S ⊢;clear ay;generalize w1.heap.size=fb at o R ⊢;have x9:c.cell? ⟨fb,1,none⟩=some (.bool d):=o.out.cell 1;have x0:c.cell? ⟨a,0,none⟩=some pv:=k.out.ba.cell 0;have x8:c.cell? ⟨fb,0,none⟩=some (.slice G n.length j):=o.out.cell 0;obtain⟨fv,fr,N,hm⟩:=(k.out.st s ad.out).mem;have d1:c.cell? ⟨s.b,1,none⟩=some (.map (some s.m)):=hm.blk.cell 1;have aI:=hid hm.blk;have H:=hm.map.below br_.drew;have aG:=hid hm.nxt;clear hm;cases V:A6 N l[i].toNat with
 | some u =>
   have r:=H.look_some A93 underlying271 V true;obtain⟨t,ht,rfl,ap⟩:=aG.out _ _ V;unfold A16 A3m at r;simp only[if_true] at r;have HT:=hid ht;have HN:=hid (B0g F.out ap);clear V ht ap H
   have hS:∀w',Hid (w'=c.drew)->(w'.cell? ⟨s.b,1,none⟩=some (.map (some s.m))/\(Instr.lookup 271 (.map (some s.m)) (.int .u8 (l[i].toNat:Int)) true).run prog w'=.ok (.tuple #[.pointer (some ⟨t.b,0,none⟩),.bool true]) w'/\Hid (w'=c.drew)):=λw' h=>by
    have e:=h.out;subst e;exact⟨d1,r,h⟩
   have HS:=hid hS;have HQ:Hid (c.drew=c.drew):=hid rfl;clear hS r
   go_region_held3 (λw'=>w'.cell? ⟨s.b,1,none⟩=some (.map (some s.m))/\(Instr.lookup 271 (.map (some s.m)) (.int .u8 (l[i].toNat:Int)) true).run prog w'=.ok (.tuple #[.pointer (some ⟨t.b,0,none⟩),.bool true]) w'/\Hid (w'=c.drew))
    (exact HS.out _ (by assumption))
    (fail)
   go_wp2_with fail;go_ret2;have hb:Below c.heap.size c c.drew:=br_.drew;exact⟨f,Ss,L,t,n,d,rfl,F.out,HT.out,HN.out,k.out.below hb,S.out.trans (Gr.of_below hb) (by simp)⟩
 | none =>
   have r:=H.look_none A93 underlying271 (A4t _) V true;unfold A3m at r;simp only[if_true] at r;clear V H
   have hS:∀w',Hid (w'=c.drew)->(w'.cell? ⟨s.b,1,none⟩=some (.map (some s.m))/\(Instr.lookup 271 (.map (some s.m)) (.int .u8 (l[i].toNat:Int)) true).run prog w'=.ok (.tuple #[.pointer none,.bool false]) w'/\Hid (w'=c.drew)):=λw' h=>by
    have e:=h.out;subst e;exact⟨d1,r,h⟩
   have HS:=hid hS;have HQ:Hid (c.drew=c.drew):=hid rfl;clear hS r
   go_region_held3 (λw'=>w'.cell? ⟨s.b,1,none⟩=some (.map (some s.m))/\(Instr.lookup 271 (.map (some s.m)) (.int .u8 (l[i].toNat:Int)) true).run prog w'=.ok (.tuple #[.pointer none,.bool false]) w'/\Hid (w'=c.drew))
    (exact HS.out _ (by assumption))
    (fail)
   clear HS HQ;have y:Below c.heap.size c c.drew:=br_.drew;have aJ:=hid (k.out.below y);have af:=hid (o.out.kept y);have Q:=hid (o4 E.out y);have bg:=hid (S.out.trans (Gr.of_below y) (by simp));have bo:=hid (aI.out.kept y);clear y k o E S aI aG d1 x0 x8 x9;generalize c.drew=c at *;have x9:c.cell? ⟨fb,1,none⟩=some (.bool d):=af.out.cell 1;have x0:c.cell? ⟨a,0,none⟩=some pv:=aJ.out.ba.cell 0;have x8:c.cell? ⟨fb,0,none⟩=some (.slice G n.length j):=af.out.cell 0;have k:=aJ;have o:=af;have E:=Q;have ae:=hid (A5c HP.out F.out)
   have aA:∀w',Hid (T3 p a km pv f Ss c w')->(w'.cell? ⟨fb,0,none⟩=some (.slice G n.length j)/\w'.cell? ⟨fb,1,none⟩=some (.bool d)/\w'.cell? ⟨a,0,none⟩=some pv/\Hid (T3 p a km pv f Ss c w')):=λw' h=>by
    have V:=h.out.blk o.out R.out;exact⟨V.cell 0,V.cell 1,h.out.auto,h⟩
   have a_:=hid aA
   have be:Hid (∀w',Below c.heap.size c w'->Calls prog 189 #[.agg #[.slice G n.length j,.bool d],pv,.int .u8 (l[i].toNat:Int)] w' (B8E p l[i].toNat n w')):=hid (λw' h =>
    B1N p bb.out (λst aV=>B4i HP.out st aV) pv G j n d ae.out.2 ae.out.1 _ ac w' (k.out.below h).rds (Rd.of_own (o4 E.out h)))
   have bc:Hid (∀w' A3 q,Below c.heap.size c w'->w'.ownsRow (c.heap.size) 3 1 (.slice A3 (Zz0 p l[i].toNat n).length q) (Zz0 p l[i].toNat n).length (D0 (Zz0 p l[i].toNat n))->Calls prog 164 #[.pointer (some ⟨a,0,none⟩),.slice A3 (Zz0 p l[i].toNat n).length q] w' (A9w p a km pv f Ss (Value.slice A3 (Zz0 p l[i].toNat n).length q).ownBlock (Zz0 p l[i].toNat n) w')):=hid (λw' A3 q h ho =>
    B67 p HP.out.2.1 a km pv f Ss L _ _ w' (k.out.below h) (J5 ho (Nat.zero_le _)) (λg hg hO=>by have:=(ho.lt g hg).1;have:=k.out.lt g hO;omega) (B0f HP.out _ _) (by have:=A3d p l[i].toNat n;have:=ae.out.1;omega))
   have C0:Below c.heap.size c c.drew:=br_.drew;have bA:Hid (T3 p a km pv f Ss c c.drew):=hid ⟨f,Ss,L,k.out.below C0,Gr.of_below C0⟩;clear aA;go_wp2_with fail
   go_region_held3 (λw'=>w'.cell? ⟨fb,0,none⟩=some (.slice G n.length j)/\w'.cell? ⟨fb,1,none⟩=some (.bool d)/\w'.cell? ⟨a,0,none⟩=some pv/\Hid (T3 p a km pv f Ss c w'))
    (exact a_.out _ (by assumption))
    (first
      | (go_at_call 189;refine(be.out _ C0).mono ?_;rintro e w3⟨A3,q,rfl,z,ax⟩;have P:Below c.heap.size c w3:=C0.trans (ax.mono C0.size);have bz:Hid (T3 p a km pv f Ss c w3):=hid ⟨f,Ss,L,k.out.below P,Gr.of_below P⟩;have aK:=hid P;have Q:=hid (J5 z (show c.heap.size<=_ by simp));clear z ax P)
      | (go_at_call 164;refine(bc.out w3 A3 q aK.out Q.out).mono ?_;rintro e w4⟨C,aC,L4,t,rfl,ht,ak,aa,au⟩;have Y:=(Gr.of_below aK.out).trans au (λg hg=>.inr (Q.out.lt g hg).1);have bj:Hid (T3 p a km pv f Ss c w4):=hid ⟨C,aC,L4,aa,Y⟩;have bi:=hid aa;have ag:=hid Y;have HT:=hid ht;have aE:=hid ak;clear aa au Y ht ak))
   have bd:=hid (bj.out.blk o.out R.out)
   have aH:Hid (¬C fb):=hid (λh=>by
    rcases ag.out.new fb h with h|h|h
    .exact R.out h
    .cases h
    .have:=o.out.lt;omega)
   have D:=hid (ag.out.ss s ad.out);have O:Below w4.heap.size w4 w4.drew:=br_.drew;have B:=bi.out.below O;have X:=bd.out.kept O;obtain⟨bu,bv,N4,J⟩:=(B.st s D.out).mem;obtain⟨w6,aU,T,M,am⟩:=J.map.update A93 underlying271 l[i].toNat (A16 t.b);have Z:=B.next_ D.out HT.out J ⟨n,d,F.out,aE.out⟩ M T;have ar:J0 w6 fb 295 #[.slice G n.length j,.bool d]:=(M.block fb X.lt (λe=>aH.out (by cases e;exact(B.st s D.out).om))).trans X;have y9:w6.cell? ⟨fb,1,none⟩=some (.bool d):=ar.cell 1;have bf:=hid ((bg.out.trans (ag.out.trans (Gr.of_below O) (by simp)) (by simp)).trans (Gr.of_owned M (B.st s D.out).om none) (by simp))
   have az:∀w',(w'=w4.drew\/w'=w6)->w'.cell? ⟨s.b,1,none⟩=some (.map (some s.m)):=λw' h=>by
    rcases h with rfl|rfl
    .exact J.blk.cell 1
    .obtain⟨_,_,_,aW⟩:=(Z.st s D.out).mem
     exact aW.blk.cell 1
   have aZ:=hid az;have bh:=hid Z;unfold A3m A16 at aU;clear az Z ar T M am J B X O x0 x8 x9;go_wp2_with fail
   go_region_held3 (λw'=>w'.cell? ⟨s.b,1,none⟩=some (.map (some s.m)))
    (exact aZ.out _ (by first | exact .inl rfl | exact .inr rfl))
    (fail)
   go_wp2_with fail;go_ret2;exact⟨C,aC,L4,t,n,d,rfl,F.out,HT.out,aE.out,bh.out,bf.out⟩
end
theorem B64(W:W_)(x:Nat):(W.alloc (.cells #[.int .i64 x] 3)).ownsRow W.heap.size 3 1 (.slice (some ⟨W.heap.size,0,none⟩) 1 1) 1 (D0 [x]) :=
 ⟨rfl,.inr ⟨W.heap.size,1,#[.int .i64 x],rfl,lr_ _,heap_alloc_new W _,lr_ _,by unfold maxLen;omega,rfl,rfl⟩⟩
def A4q(p:List St)(a km:Nat)(pv:V_)(Own:Nat->Prop)(Ss:List R9)(f:B_)(g:Nat)(w:W_)(o:Option Addr)(i:Nat)(wr:W_):Prop :=
 ∃(c:Nat->Prop)(d:List R9) (h:List (ByteArray×Value)),R5 p a km pv c d h wr/\Gr none Own c Ss d w wr /\
  ((o=none/\i=f.size+1)\/∃s∈d,o=some ⟨s.b,0,none⟩/\i<=f.size/\AtL p f.data.toList g i s.fs)
def B6S(p:List St)(a km:Nat)(pv:V_)(Own:Nat->Prop)(Ss:List R9)(n:Int)(w:W_)(e:Ending)(w':W_):Prop :=
 e=.returned (.tuple #[.int .i64 n,.nilIface])/\∃(b:Nat->Prop)(c:List R9) (d:List (ByteArray×Value)),R5 p a km pv b c d w'/\Gr none Own b Ss c w w'
theorem B4Y{a b:Int}(h:a=b):Ending.returned (.tuple #[.int .i64 a,.nilIface])=.returned (.tuple #[.int .i64 b,.nilIface]):=by rw[h]
theorem A9U{p:List St}{s:List U_}{f i:Nat}{c b:List Nat}(h:AtL p s f i c)(d:A3r c b):AtL p s f i b:=λj=>(d.1 j).trans (h j)
theorem A6w{i n:Nat}(h:i=n):((i:Int)==(n:Int))=true:=by subst h;simp
theorem A2h{i n:Nat}(h:i≠n):((i:Int)==(n:Int))=false:=by simp;omega
theorem B7J(p:List St)(hp:okP p)(ae:∀st∈p,P5 st.cls)(a km:Nat)(pv:V_)(Own:Nat->Prop)(Ss:List R9)(L:List (ByteArray×Value))(w:W_)(he:R5 p a km pv Own Ss L w)(c:B_)(hx:c.size<=400)(m:Nat)(hf:m<=c.size):
 Calls prog 131 #[.pointer (some ⟨a,0,none⟩),.string c,.int .i64 m] w (B6S p a km pv Own Ss (A1t (A8O p c.data.toList m)) w):=by
 have HE:=hid he;have aJ:=hp.2.1;have S:=hid (A9s p pv c (m:Int) w he.rds (by omega));have HZ:Hid (l9 p c.size (m:Int)=0):=hid (by unfold l9;rw[if_neg (by simpa using B1w.2 hp),if_neg (by omega),if_neg (by omega)]);rw[HZ.out] at S;have c0:w.cell? ⟨a,0,none⟩=some pv:=he.ba.cell 0;have X:=hid hp;have ap:=hid ae;have H:Hid (c.data.toList.length=c.size):=hid (by simp);clear he hp ae;go_enter func131,ntmps131;go_wp2_with fail;refine S.out.mono ?_;rintro e Z⟨aB,P⟩;obtain rfl:e=.returned .nilIface:=aB;have R:=hid (HE.out.below P);have Q:=hid (Gr.of_below (Own:=Own) (Ss:=Ss) P);clear P c0 HE S HZ;have ar:=hid (R.out.alloc (.cells #[.int .i64 0] 3))
 have aq:Hid (Calls prog 164 #[.pointer (some ⟨a,0,none⟩),.slice (some ⟨Z.heap.size,0,none⟩) 1 1] (Z.alloc (.cells #[.int .i64 0] 3)) (A9w p a km pv Own Ss (some Z.heap.size) [0] (Z.alloc (.cells #[.int .i64 0] 3)))):=hid (by
  refine B67 p X.out.2.1 a km pv Own Ss L [0] _ _ ar.out (J5 (B64 Z 0) (Nat.zero_le _)) (λg hg hO=>?_) (λj hj=>?_) (by simp)
  .have:=R.out.lt g hO
   simp[Value.ownBlock] at hg;omega
  .obtain rfl:j=0:=by simpa using hj
   exact X.out.1)
 go_wp2_with fail;refine aq.out.mono ?_;rintro e w2⟨ao,aD,L2,s0,rfl,ad,ab,al,ai⟩
 have f:Hid (A4q p a km pv Own Ss c m w (some ⟨s0.b,0,none⟩) m w2):=hid ⟨ao,aD,L2,al,(Q.out.trans (Gr.of_below ba_) (by simp)).trans ai (λg hg=>.inr (by
  cases hg;have:=Q.out.size;omega)),.inr ⟨s0,ad,rfl,hf,A9U (AtL.start p c.data.toList m) ab⟩⟩
 clear ad ab al ai aq ar R Q;go_wp2_with fail
 go_loopw [9,10,11] (λv9 v10 v11 wr=>∃(i:Nat)(o:Option Addr) (n:Int),m<=i/\i<=c.size+1/\v11=.int .i64 i/\v10=.pointer o/\v9=.int .i64 n/\Hid (n=A1t (Go.Proofs.YthhcpbfgoofppaaGreatDoor.upTo_ (y8 p c.data.toList m) i))/\Hid (A4q p a km pv Own Ss c m w o i wr)) (λ_ _ i _=>c.size+1 - (intOf i).toNat)
 case atStart=>exact⟨m,_,-1,lr_ _,by omega,rfl,rfl,rfl,hid (by rw[A92];rfl),f⟩
 case round =>
  clear f;obtain⟨i,o,n,aj,aS,rfl,rfl,rfl,Y,HR⟩:=hrel;obtain⟨l,q,V,ak,ah,O⟩:=HR.out;have z:=hid ak;have J:=hid ah;clear ak ah HR;rcases O with ⟨rfl,rfl⟩|⟨s,hs,rfl,hi,hat⟩
  .have HL:Hid (n=A1t (A8O p c.data.toList m)):=hid (by rw[Y.out];unfold A8O;rw[H.out])
   clear Y;go_wp2_with fail;go_ret2;exact⟨B4Y HL.out,l,q,V,z.out,J.out⟩
  .have ac:=z.out.st s hs
   obtain⟨fv,fr,N,hm⟩:=ac.mem;obtain⟨A,cap,rfl⟩:=hm.row.form;have d0:wr.cell? ⟨s.b,0,none⟩=some (.slice A s.fs.length cap):=hm.blk.cell 0;have M:=hid hat;have HS:=hid hs;clear ac hm hat hs;by_cases hfs:s.fs.length=0
   .have az:decide (0<s.fs.length)=false:=by simp[hfs]
    have HL:Hid (n=A1t (A8O p c.data.toList m)):=hid (by
     have T:s.fs=[]:=List.length_eq_zero_iff.1 hfs;rw[Y.out,B6x (i:=i) (by rw[H.out];exact Nat.le_succ_of_le hi) λi' ay=>?_];rintro⟨j,k,h1,_⟩;exact AtL.none aj (by have:=M.out;rwa[T] at this) i' ay j h1)
    clear hfs Y;go_wp2_with fail;go_ret2;exact⟨B4Y HL.out,l,q,V,z.out,J.out⟩
   .have az:=dt_ (0<s.fs.length)
    clear hfs;by_cases hend:i=c.size
    .have y:=hid (B4P p X.out a km pv l q V s HS.out wr z.out c hx (i==0) (by rw[←hend];exact B7P i 0))
     have HI:=hid hend;rw[←hend] at y;clear hend;go_wp2_with fail;refine y.out.mono ?_;rintro e w4⟨fl,d,rfl,D,E,B⟩;have F:=AtL.done (s:=c.data.toList) M.out (by rw[show(i==c.data.toList.length)=true by rw[H.out,HI.out];simp];exact D);have f:Hid (A4q p a km pv Own Ss c m w none (i+1) w4):=hid ⟨l,q,V,E,J.out.trans B (by simp),.inl ⟨rfl,by rw[HI.out]⟩⟩;have G:=hid F;have af:i+1<=c.size+1:=by omega
     clear F D E B y;cases d with
     | true =>
       have r:Hid ((i:Int)=A1t (Go.Proofs.YthhcpbfgoofppaaGreatDoor.upTo_ (y8 p c.data.toList m) (i+1))):=hid (by rw[A3I (G.out.1 rfl),A5P]);go_wp2_with fail;go_roundw
       case rel=>exact⟨i+1,none,(i:Int),by omega,af,by go_num,rfl,rfl,r,f⟩
       case measure=>simp[intOf];omega
     | false =>
       have r:Hid (n=A1t (Go.Proofs.YthhcpbfgoofppaaGreatDoor.upTo_ (y8 p c.data.toList m) (i+1))):=hid (by rw[A2V (λh=>by have:=G.out.2 h;cases this)];exact Y.out);go_wp2_with fail;go_roundw
       case rel=>exact⟨i+1,none,n,by omega,af,by go_num,rfl,rfl,r,f⟩
       case measure=>simp[intOf];omega
    .have hlt:i<c.size:=by omega
     have ag:c.data.toList[i]?=some c[i]:=by
      have:c.data.toList[i]?=c.data[i]?:=by simp
      rw[this];exact Array.getElem?_eq_getElem _
     have aG:=hid ag
     have y:Hid (Calls prog 165 #[.pointer (some ⟨a,0,none⟩),.pointer (some ⟨s.b,0,none⟩),.string c,.int .i64 i] wr (A5o p a km pv l q (i==0) c[i].toNat s wr)):=hid (by
      by_cases T:i=0
      .rw[show(i==0)=true by simpa using T]
       exact B2S p X.out a km pv l q V s HS.out wr z.out ap.out c hx i hlt (A6w T) (A2h hend)
      .rw[show(i==0)=false by simpa using T]
       exact B4O p X.out a km pv l q V s HS.out wr z.out ap.out c hx i hlt (A2h T) (A2h hend))
     have HI:Hid ((i==c.data.toList.length)=false):=hid (by rw[H.out];simpa using hend);clear hend ag;go_wp2_with fail;refine y.out.mono ?_;rintro e w4⟨am,aC,L4,t,fl,d,rfl,D,ht,aa,E,B⟩;have C:A04 p (i==0) (i==c.data.toList.length) s.fs fl d:=by rw[HI.out];exact D
     have F:=AtL.done (s:=c.data.toList) M.out C;have f:Hid (A4q p a km pv Own Ss c m w (some ⟨t.b,0,none⟩) (i+1) w4):=hid ⟨am,aC,L4,E,J.out.trans B (by simp),.inr ⟨t,ht,rfl,by omega,A9U (AtL.next X.out aj M.out C aG.out) aa⟩⟩;have G:=hid F;clear F D C E B y ht aa;cases d with
     | true =>
       have r:Hid ((i:Int)=A1t (Go.Proofs.YthhcpbfgoofppaaGreatDoor.upTo_ (y8 p c.data.toList m) (i+1))):=hid (by rw[A3I (G.out.1 rfl),A5P]);go_wp2_with fail;go_roundw
       case rel=>exact⟨i+1,_,(i:Int),by omega,by omega,by go_num,rfl,rfl,r,f⟩
       case measure=>simp[intOf];omega
     | false =>
       have r:Hid (n=A1t (Go.Proofs.YthhcpbfgoofppaaGreatDoor.upTo_ (y8 p c.data.toList m) (i+1))):=hid (by rw[A2V (λh=>by have:=G.out.2 h;cases this)];exact Y.out);go_wp2_with fail;go_roundw
       case rel=>exact⟨i+1,_,n,by omega,by omega,by go_num,rfl,rfl,r,f⟩
       case measure=>simp[intOf];omega
theorem B5B:(prog.info? 262).map (λi=>(i.zero,i.size,i.bytes))=some (some (.agg #[.int .i64 0,.int .u64 0,.int .u64 0,.int .u64 0,.int .u64 0,.int .i64 0,.int .i64 0]),7,56):=by kernel_rfl
theorem A7I(l:List St):(l.flatMap J1).length=l.length*7:=by
 induction l with
 | nil=>rfl
 | cons x l ih=>simp only[List.flatMap_cons,List.length_append,ih,List.length_cons];simp[J1];omega
theorem B6s(l:List St):∀u∈l.flatMap J1,u.oneCell'=true:=by
 intro u b;rw[List.mem_flatMap] at b;obtain⟨n,_,c⟩:=b;simp[J1] at c;rcases c with rfl|rfl|rfl|rfl|rfl|rfl|rfl <;> rfl
def B8H(p:List St)(w:W_)(e:Ending)(w':W_):Prop :=
 ∃(A:Option Addr)(cap:Nat),e=.returned (.slice A p.length cap)/\w'.ownsRow w.heap.size 262 7 (.slice A p.length cap) p.length (p.flatMap J1)/\Below w.heap.size w w'
theorem A66(b:Addr)(j:Nat):(b.add j).block=b.block:=by
 unfold Addr.add;split <;> rfl
theorem A6Z(w:W_)(e:TypeId)(b:Nat):(w.alloc (.cells #[] e)).ownsRow w.heap.size e b (.slice (some ⟨w.heap.size,0,none⟩) 0 0) 0 [] :=
 ⟨by simp,.inr ⟨w.heap.size,0,#[],rfl,lr_ _,heap_alloc_new w _,lr_ _,by unfold maxLen;omega,by simp,by simp⟩⟩
theorem B8G(p:List St)(hp:0<p.length)(H:p.length<=200)(pv:V_)(w:W_)(z:RdS w pv p):
 Calls prog 162 #[pv] w (B8H p w):=by
 obtain⟨F,q,o,m,l⟩:=info_parts B5B;have b:=Rd.src z (by omega);obtain⟨A,n,cap,rfl,J,b⟩:=b;rw[A7I] at J;obtain rfl:n=p.length:=by omega
 obtain⟨t,rfl,r,C⟩:=b hp
 have O:Hid (∀j u,(p.flatMap J1)[j]?=some u->(w.alloc (.cells #[] 262)).cell? (t.add j)=some u):=hid (λj u G=>by
  have Q:=C j u G;rwa[World.cell?_of_block (Below.heap_alloc w _ _ (by rw[A66];exact r))])
 have B:∀W,(binOp .eql 228 (.slice (some t) p.length cap) (.slice none 0 0)).run prog W=.ok (.bool false) W:=λW=>Lib.run_eql_slice_nil W _ _ _ _ _ _ _ underlying228
 have D:=hid (A6Z w 262 7);have N:=hid (A7I p);clear z C b;go_enter func162,ntmps162
 go_wp2_with (at_builtin;refine wpList_append_own _ rfl (.tmp 5) (.tmp 6) _ rfl w.heap.size 262 F _ 7 56 underlying228 q o m l rfl (by omega) _ 0 [] rfl D.out t p.length cap (p.flatMap J1) rfl N.out O.out (B6s p) (by unfold maxLen;omega) (by omega) (by simp) ?_;intro P w' c i _)
 have d:=c;simp only[Nat.zero_add,List.nil_append] at d;have f:Below w.heap.size w w':=J4 ba_ (lr_ _) (by simp) D.out i;obtain⟨M,E,g,rfl,_,_,h,_⟩:=Rd.of_own d;rw[A7I] at h;obtain rfl:E=p.length:=by omega
 have y:=hid d;have k:=hid f;clear d f c i h;go_wp2_with fail;go_ret;exact⟨M,g,rfl,y.out,k.out⟩
def C0H(p:List St)(w:W_)(e:Ending)(w':W_):Prop :=
 ∃(a km:Nat)(pv:V_) (Own:Nat->Prop),e=.returned (.tuple #[.pointer (some ⟨a,0,none⟩),.nilIface])/\R5 p a km pv Own [] [] w'/\Below w.heap.size w w'/\∀k,Own k->w.heap.size<=k
theorem B9W(p:List St)(hp:okP p)(pv:V_)(w:W_)(r:RdS w pv p):Calls prog 130 #[pv] w (C0H p w):=by
 have z:=hp.2.1;have i:=hid (A5u p pv w r (by omega));rw[show A3l p=0 from B1w.2 hp] at i;have y:=hid (λW h=>B8G p hp.1 hp.2.1 pv W h);have G:=hid r;have D:=@run_makeMap prog;clear r hp;go_enter func130,ntmps130;go_wp2_with fail;refine i.out.mono ?_;rintro e B⟨he,n⟩;obtain rfl:e=.returned .nilIface:=he;have j:=hid n;clear n i;go_wp2_with fail;refine(y.out B (G.out.below j.out)).mono ?_;rintro e b⟨A,cap,rfl,f,m⟩;have H:=hid f;have o:=hid m;clear f m;go_wp2_with fail;go_ret2;have q:(b.alloc (.map #[] 0)).heap.size=b.heap.size+1:=by simp
 have d:=J0.new (b.alloc (.map #[] 0)) 267 #[.slice A p.length cap,.map (some b.heap.size)];rw[q] at d;have l:=(Mp.new b A8G).kept (World.grownBy_alloc (b.alloc (.map #[] 0)) (.cells #[.slice A p.length cap,.map (some b.heap.size)] 267) none) (by simp);have c:=(H.out.alloc (.map #[] 0)).alloc (.cells #[.slice A p.length cap,.map (some b.heap.size)] 267);have F:=j.out.size;have J:=o.out.size;refine⟨b.heap.size+1,b.heap.size,.slice A p.length cap,(λk=>k=b.heap.size+1\/k=b.heap.size\/(Value.slice A p.length cap).ownBlock=some k),rfl,⟨d,.inl rfl,.inr (.inl rfl),?_,J5 c (Nat.zero_le _),λg E=>.inr (.inr E),l,by simp,λk v C=>by simp[A6] at C,by simp,by simp,by simp,by simp⟩,?_,?_⟩
 .rintro k (rfl|rfl|t)
  .exact d.lt
  .simp;omega
  .exact(c.lt k t).2
 .exact((j.out.trans (o.out.mono F)).alloc (by omega) _).alloc (by simp;omega) _
 .rintro k (rfl|rfl|t)
  .omega
  .omega
  .have:=(c.lt k t).1;omega
