import Derived.Test.YthhcpbfgoofppaaGreatDoorGVals
import Derived.Test.YthhcpbfgoofppaaGreatDoorQueue
set_option linter.unusedVariables false
set_option linter.unusedSimpArgs false
open Wf
set_option maxRecDepth 100000
set_option maxHeartbeats 16000000
open Go.Lib (hid)
open Go.Proofs.Tryz hiding parts
namespace Go.Proofs.YthhcpbfgoofppaaGreatDoor
open Go.RowKit Wf
theorem B6h{β:Type}(f:Kn->β)(k:Kn)(a b:β):upd (upd f k a) k b=upd f k b:=by
 funext x
 unfold upd
 split <;> rfl
theorem A7u.few{ws:List (List U_)}{n:Nat}{u:List U_}{a:List Nat}(h:A7u ws n u a)(c:n<=ws.length):a.length<=ws.length:=by
 have:=List.Nodup.length_le_of_subset h.1 (l₂:=List.range ws.length) (λj b=>by have:=((h.2 j).1 b).1;simp;omega)
 simpa using this
theorem A1U.few{ws:List (List U_)}{u:List U_}{a:List Nat}(h:A1U ws u a):a.length<=ws.length:=by
 have:=List.Nodup.length_le_of_subset h.1 (l₂:=List.range ws.length) (λj c=>by
  obtain⟨w,b,_⟩:=(h.2 j).1 c;have:=(List.getElem?_eq_some_iff.1 b).1;simp;omega)
 simpa using this
structure R6 (w0:W_) (Nb:Nat) (wv:V_) (root:Kn) (ws:List (List U_)) (Ks:List Kn) (ch:Kn->List (Nat×Value)) (D Q:List Kn) (X:List U_->Prop) (bk ev:Kn->Value) (w:W_):Prop where
 net:Net w0 Nb wv root Ks bk ev ch w
 ord:A3E Ks D Q X
 knots:∀u,A2Q ws u↔∃k∈Ks,k.u=u
 back:∀s∈Ks,(s∈D\/s∈Q)->∃t∈Ks,(t∈D\/t∈Q)/\bk s=J7 t.b/\Bk ws s.u t.u
 rows:∀s∈Ks,∃xs,N7 w0 w (ev s) xs/\((s∈D\/s∈Q)->A1U ws s.u xs)/\(¬(s∈D\/s∈Q)->A7u ws ws.length s.u xs)
section
variable {w0 w w':W_} {Nb:Nat} {wv:V_} {root k m r:Kn} {ws:List (List U_)} {Ks D Q:List Kn} {X:List U_->Prop} {bk ev:Kn->Value} {ch:Kn->List (Nat×Value)}
theorem R6.par(h:R6 w0 Nb wv root ws Ks ch D Q X bk ev w):∀t∈Ks,t.u≠[]->∃s∈Ks,∃c,t.u=s.u++[c]:=λt b a=>by
 obtain⟨s,d,c,_,e⟩:=h.net.par t b a;exact⟨s,d,_,e⟩
theorem R6.start(h:D9 w0 Nb wv root ws ws.length 0 Ks ev ch w)(d:∀x∈ws,x≠[]):R6 w0 Nb wv root ws Ks ch [] [root] (λ_=>False) (upd (λ_=>.pointer none) root (J7 root.b)) ev (w.setCell ⟨root.b,1,none⟩ (J7 root.b)):=by
 have f:220≠3:=by decide
 refine⟨h.net.setBack h.net.rt _,A3E.start h.net.rt h.net.ru h.net.iu,λu=>by rw[←B6N,h.pre],λs g c=>?_,λs g=>?_⟩
 .obtain rfl:s=root:=by
   rcases c with c|c
   .cases c
   .exact List.mem_singleton.1 c
  refine⟨s,g,c,by rw[F5],?_⟩;rw[h.net.ru];exact Bk.root ws
 .obtain⟨i,o,n⟩:=h.rows s g
  refine⟨i,n.kept (j6 w _ _) (n.not_blk (h.net.blk root h.net.rt) f),λc=>?_,λ_=>o⟩
  obtain rfl:s=root:=by
   rcases c with c|c
   .cases c
   .exact List.mem_singleton.1 c
  have p:=A1U.root d
  have:i=[]:=by
   rw[List.eq_nil_iff_forall_not_mem];intro a q;obtain⟨_,j⟩:=(o.2 a).1 q;rw[h.net.ru] at j;exact d _ (List.mem_of_getElem? j) rfl
  rw[this,h.net.ru];exact p
theorem R6.moved(h:R6 w0 Nb wv root ws Ks ch D Q X bk ev w){row:Option Nat}(c:w.grownBy w' row)(j:∀g,row=some g->w0.heap.size<=g)(p:some Nb≠row)(o:∀k∈Ks,some k.b≠row/\some k.m≠row)(n:∀k∈Ks,(ev k).ownBlock=none\/(ev k).ownBlock≠row):
 R6 w0 Nb wv root ws Ks ch D Q X bk ev w' :=
 ⟨h.net.grown c j p o,h.ord,h.knots,h.back,λs a=>by
   obtain⟨d,i,f⟩:=h.rows s a;exact⟨d,i.kept c (n s a),f⟩⟩
theorem R6.below(h:R6 w0 Nb wv root ws Ks ch D Q X bk ev w)(a:Below w.heap.size w w'):R6 w0 Nb wv root ws Ks ch D Q X bk ev w' :=
 h.moved (row:=none) ⟨a.os,a.tape,a.output,a.size,λi b _=>a.block i b⟩ (λ_ e=>by cases e) (by simp) (λ_ _=>by simp) (λs _=>by cases(ev s).ownBlock <;> simp)
theorem R6.fresh(h:R6 w0 Nb wv root ws Ks ch D (k::Q) X bk ev w)(f:m∈Ks){c:U_}(a:m.u=k.u++[c])(i:¬X m.u):¬(m∈D\/m∈k::Q):=by
 rw[h.ord.td m f];have g:=h.ord.qk k (List.mem_cons_self ..);rintro (e|⟨s,b,x,e⟩|e)
 .rw[a] at e;simp at e
 .rw[a] at e
  have:=h.net.iu k g s (h.ord.dk s b) (A3N e).1;have d:=h.ord.nd;rw[List.nodup_append] at d;exact d.2.2 s b k (List.mem_cons_self ..) this.symm
 .exact i e
theorem R6.more(h:R6 w0 Nb wv root ws Ks ch D (k::Q) X bk ev w)(E:m∈Ks){c:U_}(i:m.u=k.u++[c])(C:¬(m∈D\/m∈k::Q))(B:r∈Ks)(y:r∈D\/r∈k::Q)(z:Bk ws m.u r.u)
 {xs ys:List Nat} {v:V_} (hx:A7u ws ws.length m.u xs) (hy:A1U ws r.u ys) (hnet:Net w0 Nb wv root Ks (upd bk m (J7 r.b)) (upd ev m v) ch w') (hv:N7 w0 w' v (xs++ys))
 (hrows:∀s∈Ks,s≠m->∀g,N7 w0 w (ev s) g->N7 w0 w' (ev s) g):R6 w0 Nb wv root ws Ks ch D (k::(Q++[m])) (λu=>X u\/u=k.u++[c]) (upd bk m (J7 r.b)) (upd ev m v) w':=by
 have d:∀t,t∈D\/t∈k::Q->t∈D\/t∈k::(Q++[m]):=λt a=>by
  rcases a with a|a
  .exact .inl a
  .refine .inr ?_
   rw[←List.cons_append];exact List.mem_append_left _ a
 have j:∀t,t∈D\/t∈k::(Q++[m])->t=m\/(t∈D\/t∈k::Q):=λt a=>by
  rw[←List.cons_append] at a;rcases a with a|a
  .exact .inr (.inl a)
  .rcases List.mem_append.1 a with a|a
   .exact .inr (.inr a)
   .exact .inl (List.mem_singleton.1 a)
 refine⟨hnet,h.ord.more E i C h.net.iu,h.knots,λs n a=>?_,λs n=>?_⟩
 .by_cases e:s=m
  .rw[e,F5]
   exact⟨r,B,d r y,rfl,z⟩
  .rw[V3 _ _ e]
   rcases j s a with e'|a
   .exact absurd e' e
   .obtain⟨t,q,p,o,A⟩:=h.back s n a
    exact⟨t,q,d t p,o,A⟩
 .by_cases e:s=m
  .rw[e,F5]
   refine⟨xs++ys,hv,λ_=>?_,λf=>?_⟩
   .refine A1U.of_back ?_ z hx hy
    rw[i];simp
   .exact absurd (.inr (by rw[←List.cons_append];exact List.mem_append_right _ (List.mem_singleton.2 rfl))) f
  .rw[V3 _ _ e]
   obtain⟨g,q,p,o⟩:=h.rows s n;refine⟨g,hrows s n e g q,λa=>?_,λf=>o (λa=>f (d s a))⟩;rcases j s a with e'|a
   .exact absurd e' e
   .exact p a
theorem R6.gone(h:R6 w0 Nb wv root ws Ks ch D (k::Q) X bk ev w)(p:∀t∈Ks,X t.u↔∃c,t.u=k.u++[c]):R6 w0 Nb wv root ws Ks ch (k::D) Q (λ_=>False) bk ev w:=by
 have a:∀t,(t∈k::D\/t∈Q)↔(t∈D\/t∈k::Q):=λt=>by
  simp only[List.mem_cons];constructor
  .rintro ((h|h)|h)
   .exact .inr (.inl h)
   .exact .inl h
   .exact .inr (.inr h)
  .rintro (h|h|h)
   .exact .inl (.inr h)
   .exact .inl (.inl h)
   .exact .inr h
 refine⟨h.net,h.ord.gone p,h.knots,λs i b=>?_,λs i=>?_⟩
 .obtain⟨t,g,f,d,n⟩:=h.back s i ((a s).1 b)
  exact⟨t,g,(a t).2 f,d,n⟩
 .obtain⟨j,g,f,d⟩:=h.rows s i
  exact⟨j,g,λb=>f ((a s).1 b),λo=>d (λb=>o ((a s).2 b))⟩
structure A2u (w0:W_) (Nb:Nat) (wv:V_) (root:Kn) (ws:List (List U_)) (Ks:List Kn) (ch:Kn->List (Nat×Value)) (bk ev:Kn->Value) (w:W_):Prop where
 net:Net w0 Nb wv root Ks bk ev ch w
 tie:Tie ws Ks bk (λ_=>True)
 rows:∀s∈Ks,∃xs,N7 w0 w (ev s) xs/\A1U ws s.u xs
theorem R6.done(h:R6 w0 Nb wv root ws Ks ch D [] (λ_=>False) bk ev w):A2u w0 Nb wv root ws Ks ch bk ev w:=by
 have a:=h.ord.done h.par;refine⟨h.net,⟨h.knots,λs b _=>?_⟩,λs b=>?_⟩
 .obtain⟨t,c,_,g,f⟩:=h.back s b (.inl (a s b))
  exact⟨t,c,trivial,g,f⟩
 .obtain⟨d,c,i,_⟩:=h.rows s b
  exact⟨d,c,i (.inl (a s b))⟩
end
theorem B5C:(prog.info? 217).map (λi=>(i.zero,i.size,i.bytes))=some (some (.pointer none),1,8):=by kernel_rfl
def A7k(ws:List (List U_)):List (List U_):=[]::ws.flatMap λx=>(List.range (x.length+1)).map x.take
theorem B05(ws:List (List U_))(h:∀x∈ws,x.length<=60):(A7k ws).length<=1+ws.length*61:=by
 unfold A7k
 induction ws with
 | nil=>simp
 | cons a r ih =>
   have d:=h a (List.mem_cons_self ..);have c:=ih (λx b=>h x (List.mem_cons_of_mem _ b));simp only[List.length_cons,List.flatMap_cons,List.length_append,List.length_map,List.length_range] at c ⊢;omega
theorem B41{ws:List (List U_)}{u:List U_}(h:A2Q ws u):u∈A7k ws:=by
 rcases h with rfl|⟨x,hx,hp⟩
 .exact List.mem_cons_self ..
 .refine List.mem_cons_of_mem _ (List.mem_flatMap.2 ⟨x,hx,List.mem_map.2 ⟨u.length,?_,?_⟩⟩)
  .have:=hp.length_le;simp;omega
  .exact(List.prefix_iff_eq_take.1 hp).symm
theorem A75{ws:List (List U_)}{Ks D Q:List Kn}{X:List U_->Prop}(h:A3E Ks D Q X)(j:∀k∈Ks,A2Q ws k.u)(f:∀s∈Ks,∀t∈Ks,s.u=t.u->s=t)(p:ws.length<=20)(n:∀x∈ws,x.length<=60):Q.length<=1221:=by
 have d:Q.Nodup:=(List.nodup_append.1 h.nd).2.1
 have i:(Q.map (·.u)).Nodup:=by
  rw[List.nodup_iff_pairwise_ne,List.pairwise_map];rw[List.nodup_iff_pairwise_ne] at d;refine d.imp_of_mem λ{a b} ha hb hne e=>hne (f a (h.qk a ha) b (h.qk b hb) e)
 have:=List.Nodup.length_le_of_subset i (l₂:=A7k ws) (λu g=>by
  obtain⟨k,c,rfl⟩:=List.mem_map.1 g;exact B41 (j k (h.qk k c)))
 have o:=B05 ws n;simp at this;omega
section
variable {w0 w w':W_} {Nb:Nat} {wv:V_} {root k m r:Kn} {ws:List (List U_)} {Ks D Q:List Kn} {X:List U_->Prop} {bk ev:Kn->Value} {ch:Kn->List (Nat×Value)} {mm it C9:Nat} {l:List (Nat×Value)} {left:Nat->Prop}
def A2O(w0:W_)(Ks:List Kn)(ev:Kn->Value)(w w':W_):Prop:=∀s∈Ks,∀a,N7 w0 w (ev s) a->N7 w0 w' (ev s) a
theorem A2O.trans{a b c:W_}(h:A2O w0 Ks ev a b)(g:A2O w0 Ks ev b c):A2O w0 Ks ev a c:=λs f d q=>g s f d (h s f d q)
theorem A2O.cell{t:TypeId}{cs:Array V_}{g:Nat}(b:J0 w g t cs)(a:t≠3)(o:Nat)(v:V_):A2O w0 Ks ev w (w.setCell ⟨g,o,none⟩ v):=λ_ _ _ q=>q.kept (j6 w ⟨g,o,none⟩ v) (q.not_blk b a)
theorem A5V{t:TypeId}{cs:Array V_}{g:Nat}(h:Rg w mm it k5 l left C9)(b:J0 w g t cs):g≠it:=by
 rintro rfl;obtain⟨_,_,_,a⟩:=h.iter;unfold J0 at b;rw[b] at a;cases a
theorem B7N{g:Nat}{b:List (Nat×Value)}(h:Rg w mm it k5 l left C9)(c:Mp w g k5 b):g≠it:=by
 rintro rfl;obtain⟨_,_,_,a⟩:=h.iter;obtain⟨_,_,d,_⟩:=c;rw[d] at a;cases a
theorem B42{v:V_}{b:List Nat}(h:Rg w mm it k5 l left C9)(c:N7 w0 w v b):v.ownBlock=none\/v.ownBlock≠some it:=c.apart λd e=>by
 obtain⟨_,_,_,a⟩:=h.iter;rw[e] at a;cases a
theorem B1j{base g o cap:Nat}{e:TypeId}{b:List V_}(h:Rg w mm it k5 l left C9)(c:Qu w base e g o cap b):g≠it:=by
 rintro rfl;obtain⟨_,_,_,a⟩:=h.iter;obtain⟨_,d,_⟩:=c.hcur;rw[d] at a;cases a
theorem B9w{base g o cap n:Nat}{e:TypeId}{b:List V_}{c:List (Nat×Value)}(h:Mp w n k5 c)(d:Qu w base e g o cap b):n≠g:=by
 rintro rfl;obtain⟨_,f,_⟩:=d.hcur;obtain⟨_,_,a,_⟩:=h;rw[f] at a;cases a
theorem B0y{base g o cap n:Nat}{e t:TypeId}{cs:Array V_}{a:List V_}(h:J0 w n t cs)(b:t≠e)(c:Qu w base e g o cap a):n≠g:=by
 rintro rfl;obtain⟨_,d,_⟩:=c.hcur;unfold J0 at h;rw[d] at h;cases h;exact b rfl
theorem R6.next(h:R6 w0 Nb wv root ws Ks ch D Q X bk ev w)(a:Rg w mm it k5 l left C9)(d:w0.heap.size<=it)(f:w.grownBy w' (some it)):R6 w0 Nb wv root ws Ks ch D Q X bk ev w' :=
 h.moved f (λg e=>by cases e;exact d) (λe=>A5V a h.net.net (Option.some.inj e)) (λk b=>⟨λe=>A5V a (h.net.blk k b) (Option.some.inj e),λe=>B7N a (h.net.mp k b) (Option.some.inj e)⟩) (λs c=>by
  obtain⟨i,q,_⟩:=h.rows s c;exact B42 a q)
theorem R6.queue(h:R6 w0 Nb wv root ws Ks ch D Q X bk ev w){g o cap:Nat}{d:List V_}(a:Qu w w0.heap.size 217 g o cap d)(i:w.grownBy w' (some g)):R6 w0 Nb wv root ws Ks ch D Q X bk ev w' :=
 h.moved i (λp e=>by cases e;exact a.hbase) (λe=>B0y h.net.net (by decide) a (Option.some.inj e)) (λk b=>⟨λe=>B0y (h.net.blk k b) (by decide) a (Option.some.inj e),λe=>B9w (h.net.mp k b) a (Option.some.inj e)⟩) (λs f=>by
  obtain⟨c,q,_⟩:=h.rows s f;refine q.apart λn e=>?_
  obtain⟨_,j,_⟩:=a.hcur;rw[j] at e;injection e with e
  injection e with _ e _
  exact absurd e (by decide))
end
theorem Rg.cell{t:TypeId}{cs:Array V_}{g:Nat}{w:W_}{mm it C9:Nat}{l:List (Nat×Value)}{left:Nat->Prop}(h:Rg w mm it k5 l left C9)(a:J0 w g t cs)(o:Nat)(v:V_):Rg (w.setCell ⟨g,o,none⟩ v) mm it k5 l left C9:=by
 refine h.kept (j6 w ⟨g,o,none⟩ v) (λe=>?_) (λe=>A5V h a (Option.some.inj e).symm);obtain⟨i,c,b,d,j,f,_⟩:=h;unfold J0 at a;rw[Option.some.inj e] at f;rw[f] at a;cases a
theorem A3R{t e:TypeId}{cs:Array V_}{n base g o cap:Nat}{w:W_}{a:List V_}(h:Qu w base e g o cap a)(c:J0 w n t cs)(b:t≠e)(p:Nat)(v:V_):Qu (w.setCell ⟨n,p,none⟩ v) base e g o cap a :=
 h.kept (j6 w ⟨n,p,none⟩ v) (λd=>B0y c b h (Option.some.inj d).symm)
theorem A3S{e:TypeId}{base g o cap:Nat}{w w':W_}{b:List V_}(h:Qu w base e g o cap b)(a:Below w.heap.size w w'):Qu w' base e g o cap b :=
 h.kept (row:=none) ⟨a.os,a.tape,a.output,a.size,λi c _=>a.block i c⟩ (by simp)
theorem B8M{w w':W_}{mm it C9 base g o cap:Nat}{e:TypeId}{j:List V_}{l:List (Nat×Value)}{left:Nat->Prop}(h:Rg w mm it k5 l left C9)(d:Qu w base e g o cap j)(n:w.grownBy w' (some g)):Rg w' mm it k5 l left C9:=by
 refine h.kept n (λe=>?_) (λe=>B1j h d (Option.some.inj e).symm);obtain⟨p,b,a,c,q,f,_⟩:=h;obtain⟨_,i,_⟩:=d.hcur;rw[Option.some.inj e] at f;rw[f] at i;cases i
theorem N7.base{a b w:W_}{v:V_}{c:List Nat}(h:N7 b w v c)(d:a.heap.size<=b.heap.size):N7 a w v c:=by
 refine⟨h.1,h.2.1,?_⟩;rcases h.2.2 with h|⟨g,cap,cur,h1,h2,h3⟩
 .exact .inl h
 .exact .inr ⟨g,cap,cur,h1,Nat.le_trans d h2,h3⟩
def A4K(k:Kn)(left:Nat->Prop)(u:List U_):Prop:=∃c,c<256/\¬left c/\u=k.u++[UInt8.ofNat c]
theorem A4K.zero(k:Kn):A4K k (λ_=>True)=λ_=>False:=by
 funext u
 simp[A4K]
theorem A4K.step{k:Kn}{left:Nat->Prop}{c:Nat}(h:c<256):A4K k (λa=>left a/\a≠c)=λu=>A4K k left u\/u=k.u++[UInt8.ofNat c]:=by
 funext u
 apply propext;constructor
 .rintro⟨a,g,f,b⟩
  by_cases e:a=c
  .rw[e] at b;exact .inr b
  .exact .inl ⟨a,g,λd=>f ⟨d,e⟩,b⟩
 .rintro (⟨a,g,f,b⟩|b)
  .exact⟨a,g,λd=>f d.1,b⟩
  .exact⟨c,h,λd=>d.2 rfl,b⟩
def X7(Q:List Kn):List V_:=Q.map λk=>J7 k.b
theorem B1X(Q:List Kn):(X7 Q).length=Q.length:=by simp[X7]
theorem B9n(w0 w:W_)(Nb:Nat)(wv:V_)(root:Kn)(ws:List (List U_))(Ks:List Kn)(ev:Kn->Value)(ch:Kn->List (Nat×Value))(h:D9 w0 Nb wv root ws ws.length 0 Ks ev ch w)(h1:ws.length<=20)(h2:∀x∈ws,x≠[]/\x.length<=60):
 Calls prog 125 #[.pointer (some ⟨Nb,0,none⟩)] w (λe w'=>e=.returned (.tuple #[])/\∃bk cH,A2u w0 Nb wv root ws Ks ch bk cH w'):=by
 obtain⟨i0,b_,bQ,ag,af⟩:=info_parts B5C;have hd:=h.below br_.drew;have n0:w.drew.cell? ⟨Nb,0,none⟩=some (.pointer (some ⟨root.b,0,none⟩)):=hd.net.net.cell 0;have r1:w.drew.cell? ⟨root.b,1,none⟩=some (.pointer none):=(hd.net.blk root hd.net.rt).cell 1;have y1:=(hd.net.blk root hd.net.rt).frozen 1;have Z:Hid (R6 w0 Nb wv root ws Ks ch [] [root] (λ_=>False) (upd (λ_=>.pointer none) root (J7 root.b)) ev ((w.setCell ⟨root.b,1,none⟩ (J7 root.b)).drew)):=hid (R6.start hd (λx hx=>(h2 x hx).1));have cf:=hid h2;clear h h2 hd;go_enter func125,ntmps125;go_wp2_with fail;go_region
 all_goals (
  unfold J7 at Z;have n1:((w.setCell ⟨root.b,1,none⟩ (.pointer (some ⟨root.b,0,none⟩))).drew).cell? ⟨Nb,0,none⟩=some (.pointer (some ⟨root.b,0,none⟩)):=Z.out.net.net.cell 0;generalize (w.setCell ⟨root.b,1,none⟩ (.pointer (some ⟨root.b,0,none⟩))).drew=W1 at *;clear n0 r1 y1;have ck:=hid (Qu.one W1 w0.heap.size 217 W1.heap.size rfl Z.out.net.keep.size (.pointer (some ⟨root.b,0,none⟩)));have ci:=hid (Z.out.below (br_.alloc (lr_ _) (.cells #[.pointer (some ⟨root.b,0,none⟩)] 217)));go_wp2_with fail
  go_loopg [2] ((Ks.filter λt=>decide (t∉([]:List Kn))).length+1) (λgk v2 wr=>∃(D Q:List Kn)(bk ev:Kn->Value) (g o cap n:Nat),v2=.slice (some ⟨g,o,none⟩) n cap/\Q.length=n/\n<=1221/\Hid (R6 w0 Nb wv root ws Ks ch D Q (λ_=>False) bk ev wr)/\Hid (Qu wr w0.heap.size 217 g o cap (X7 Q))/\Hid ((Ks.filter λt=>decide (t∉D)).length<gk))
  case atStart=>exact⟨[],[root],_,_,W1.heap.size,0,1,1,rfl,rfl,by omega,ci,ck,hid (Nat.lt_succ_self _)⟩
  case round =>
   clear Z ci ck n1;obtain⟨D,Q,bk,ev,g,o,cap,n,rfl,hn,aI,Z,HQ,HG⟩:=hrel;cases Q with
   | nil =>
     obtain rfl:n=0:=by simpa using hn.symm
     clear hn;go_wp2_with fail
     go_end0
     exact⟨rfl,bk,ev,Z.out.done⟩
   | cons k Q =>
     obtain rfl:n=Q.length+1:=by simpa using hn.symm
     clear hn
     have q0:wr.cell? ⟨g,o,none⟩=some (.pointer (some ⟨k.b,0,none⟩)):=by
      have:=HQ.out.cell 0 (J7 k.b) (by simp[X7]);rw[Nat.add_zero] at this;exact this
     have R:k∈Ks:=Z.out.ord.qk k (List.mem_cons_self ..);have k0:wr.cell? ⟨k.b,0,none⟩=some (.map (some k.m)):=(Z.out.net.blk k R).cell 0;have cl:=hid (Z.out.net.mp k R);have bc:=hid R;have F:=HQ.out.hle;rw[B1X] at F;have al:=HQ.out.hcap;have bu:0<(Q.length:Int)+1:=by omega
     clear R;simp only[List.length_cons] at F
     go_wp2_with (at_range;refine A4d _ rfl _ 218 rfl 5 217 underlying218 k5 (ch k) k.m rfl cl.out ?_;intro J Y am bp)
     go_frame
     have d:=hid (Z.out.below am);have aU:=hid (HQ.out.kept (row:=none) ⟨am.os,am.tape,am.output,am.size,λi hi _=>am.block i hi⟩ (by simp));have bB:=hid Y;have bt:w0.heap.size<=wr.heap.size:=Z.out.net.keep.size;generalize wr.heap.size=it at Y bB bt ⊢;clear Z HQ q0 k0 Y am bp
     go_loopw [2] (λv2 wx=>∃(Q:List Kn)(bk ev:Kn->Value) (g o cap n C9:Nat) (left:Nat->Prop),v2=.slice (some ⟨g,o,none⟩) n cap/\Q.length+1=n/\n<=1221/\Hid (R6 w0 Nb wv root ws Ks ch D (k::Q) (A4K k left) bk ev wx)/\Hid (Qu wx w0.heap.size 217 g o cap (X7 (k::Q)))/\Hid (Rg wx k.m it k5 (ch k) left C9)) (λ_ wx=>wx.rangeLeft k.m it)
     case atStart=>exact⟨Q,bk,ev,g,o,cap,Q.length+1,_,_,rfl,rfl,aI,by rw[A4K.zero];exact d,aU,bB⟩
     case round =>
      clear d aU bB F al bu aI;obtain⟨Q,bk,ev,g,o,cap,n,C9,left,rfl,hn,aI,Z,HQ,HR⟩:=hrel;subst hn;have Y:=HR.out
      go_wp2_with (at_next;refine A4u _ rfl _ rfl k5 (ch k) k.m it _ _ rfl Y ?_ ?_)
      .intro cA bY
       have F:=HQ.out.hle;rw[B1X,List.length_cons] at F;have al:=HQ.out.hcap;unfold maxLen at al
       have HX:Hid (∀t∈Ks,A4K k left t.u↔∃c,t.u=k.u++[c]):=hid λt ht=>by
        constructor
        .rintro⟨c,_,_,e⟩;exact⟨_,e⟩
        .rintro⟨c,e⟩
         have hc:c.toNat<256:=c.toNat_lt;have hg:=Z.out.net.all k bc.out t ht c.toNat hc (by rw[e];simp);exact⟨c.toNat,hc,bY c.toNat _ (B7F hg),by rw[e];simp⟩
       have bZ:k∉D:=λhd=>by
        have:=Z.out.ord.nd;rw[List.nodup_append] at this;exact this.2.2 k hd k (List.mem_cons_self ..) rfl
       have HL:=hid (B2H bc.out bZ);have cg:=hid (Z.out.gone HX.out);have aT:=hid (HQ.out.tail (by simp[X7]));have co:Hid ((Ks.filter λt=>decide (t∉k::D)).length<gk - 1):=hid (by have:=HL.out;have:=HG.out;omega);have db:0<gk:=by have:=HG.out;omega
       have cN:Q.length+1<=cap:=F;have bR:(X7 (k::Q)).tail=X7 Q:=rfl;rw[bR] at aT;clear cA bY Y bZ Z HQ HR HX bR HL;by_cases hc1:cap=1
       .rw[if_pos hc1] at aT
        subst hc1;have cC:Q=[]:=List.eq_nil_of_length_eq_zero (by omega);subst cC;go_wp2_with fail
        go_roundg (gk - 1)
        case rel=>exact⟨k::D,[],bk,ev,g,o,0,0,rfl,rfl,by omega,cg,aT,co⟩
        all_goals omega
       .rw[if_neg hc1] at aT
        have dd:(cap:Int)≠1:=by omega
        go_wp2_with fail
        go_roundg (gk - 1)
        case rel=>exact⟨k::D,Q,bk,ev,g,o+1,cap - 1,Q.length,rfl,rfl,by omega,cg,aT,co⟩
        all_goals omega
      .intro c pv J bi hp bX be bf bv bp ca
       obtain⟨m,hm,rfl,hc,ba⟩:=Z.out.net.kids k bc.out c pv (B7T cl.out.nodup hp);have bt:w0.heap.size<=it:=by assumption
       have d:=hid (Z.out.next Y bt bv);have aU:=hid (HQ.out.kept bv (λe=>B1j Y HQ.out (Option.some.inj e)))
       have ai:=hid (d.out.fresh hm ba (λhx=>by
        obtain⟨c',cG,cE,cd⟩:=hx;rw[ba] at cd;exact cE (by rw[←A9K hc cG (A3N cd).2];exact bX)))
       have bj:=hid be;have hlt:=bf;have cJ:Hid ((Instr.entry (.pointer (some ⟨it,0,none⟩))).run prog J=.ok (.tuple #[.int .u8 c,.pointer (some ⟨m.b,0,none⟩)]) J):=hid ca;have p:Hid (m∈Ks/\m.u=k.u++[UInt8.ofNat c]/\c<256):=hid ⟨hm,ba,hc⟩;have cc:wr.rangeLeft k.m it=C9:=Y.left_eq;have cn:=hid cc;have cL:w0.heap.size<=J.heap.size:=d.out.net.keep.size;have n0:J.cell? ⟨Nb,0,none⟩=some (.pointer (some ⟨root.b,0,none⟩)):=d.out.net.net.cell 0;have j:=d.out.net.blk m hm;have m1:J.cell? ⟨m.b,1,none⟩=some (bk m):=j.cell 1;have y1:J.frozen? ⟨m.b,1,none⟩=false:=j.frozen 1;obtain⟨q,hq⟩:∃q,q=bk m:=⟨_,rfl⟩
       rw[←hq] at m1;have hen':=cJ.out;clear hq ca Y be bf bv bp hp bX HR Z HQ cc hm ba hc j;by_cases hrt:k=root
       .have H:=hid (d.out.net.setBack p.out.1 (J7 root.b))
        have br:(binOp .neq 217 (.pointer (some ⟨k.b,0,none⟩)) (.pointer (some ⟨root.b,0,none⟩))).run prog (J.setCell ⟨m.b,1,none⟩ (.pointer (some ⟨root.b,0,none⟩)))=.ok (.bool false) (J.setCell ⟨m.b,1,none⟩ (.pointer (some ⟨root.b,0,none⟩))):=by rw[hrt];exact A6l ⟨root.b,0,none⟩ _
        have z:Hid (root∈Ks/\(root∈D\/root∈k::Q)/\Bk ws m.u root.u):=hid ⟨d.out.net.rt,.inr (by rw[hrt];exact List.mem_cons_self ..),by rw[p.out.2.1,hrt,d.out.net.ru];exact Bk.one ws _⟩;have ar:Hid (Net w0 Nb wv root Ks (upd bk m (J7 root.b)) ev ch (J.setCell ⟨m.b,1,none⟩ (.pointer (some ⟨root.b,0,none⟩)))):=H;have j:=d.out.net.blk m p.out.1;have ad:Hid (A2O w0 Ks ev J (J.setCell ⟨m.b,1,none⟩ (.pointer (some ⟨root.b,0,none⟩)))):=hid (A2O.cell j (by decide) 1 _);have aS:=hid (A3R aU.out j (by decide) 1 (.pointer (some ⟨root.b,0,none⟩)));have aR:=hid (bj.out.cell j 1 (.pointer (some ⟨root.b,0,none⟩)));clear hrt j H;go_wp2_with fail;clear br hen' n0 m1 y1;generalize J.setCell ⟨m.b,1,none⟩ (.pointer (some ⟨root.b,0,none⟩))=W3 at *;unfold J7 at *;have y:=ar.out;have j:=y.blk m p.out.1;rw[F5] at j;have E:=y.blk root z.out.1;have bq:root≠m:=λe=>ai.out (by rw[←e];exact z.out.2.1)
        rw[V3 _ _ bq] at E;obtain⟨V,ay,_,ax⟩:=d.out.rows m p.out.1;obtain⟨ys,ag,af,_⟩:=d.out.rows root z.out.1;have O:=ad.out m p.out.1 V ay;have M:=ad.out root z.out.1 ys ag;have ap:=hid (ax ai.out);have ao:=hid (af z.out.2.1);have bn:=A7u.few ap.out (lr_ _);have bm:=A1U.few ao.out;obtain⟨vm,aB⟩:∃vm,vm=ev m:=⟨_,rfl⟩
        obtain⟨vr,aA⟩:∃vr,vr=ev root:=⟨_,rfl⟩
        rw[←aB] at j O;rw[←aA] at E M;obtain⟨Am,cm,aH⟩:=O.src.form;obtain⟨Ar,cr,aG⟩:=M.src.form;rw[aH] at j O;rw[aG] at E M;clear aB aA aH aG;have ah:=hid j;have T:=hid (j.below br_.drew j.lt);have aP:=hid (E.below br_.drew E.lt);have aM:=hid O;have aL:=hid M;have m1:W3.drew.cell? ⟨m.b,1,none⟩=some (.pointer (some ⟨root.b,0,none⟩)):=T.out.cell 1;have m2:W3.drew.cell? ⟨m.b,2,none⟩=some (.slice Am V.length cm):=T.out.cell 2;have r2:W3.drew.cell? ⟨root.b,2,none⟩=some (.slice Ar ys.length cr):=aP.out.cell 2;obtain⟨N,hN⟩:∃N,N=(V++ys).length:=⟨_,rfl⟩
        have aY:Hid (Calls prog 155 #[.slice (some ⟨W3.heap.size,0,none⟩) 2 2] ((W3.alloc (.cells #[(.slice Am V.length cm),(.slice Ar ys.length cr)] 191)).drew) (λe w'=>∃A cap,e=.returned (.slice A N cap)/\N7 w0 w' (.slice A N cap) (V++ys)/\Below W3.heap.size W3 w')):=hid (by
         have S:Below W3.heap.size W3 ((W3.alloc (.cells #[(.slice Am V.length cm),(.slice Ar ys.length cr)] 191)).drew):=ba_.drew;have P:=J0.new W3 191 #[(.slice Am V.length cm),(.slice Ar ys.length cr)];refine(A9r V ys (.slice Am V.length cm) (.slice Ar ys.length cr) W3.heap.size _ (aM.out.src.below S) (aL.out.src.below S) (P.cell 0) (P.cell 1) P.lt (by omega)).mono ?_;rintro e w'⟨A,cap,rfl,aC,hb⟩;exact⟨A,cap,by rw[hN],by rw[hN];exact aC.base (Nat.le_trans y.keep.size S.size),S.trans (hb.mono S.size)⟩)
        clear y j E ay ax ag af O M hN;have y2:=T.out.frozen 2;have cy:=T.out.lt;clear bn bm
        go_region_with (go_at_call 155;refine aY.out.mono ?_;rintro e w4⟨A4,f,rfl,B,G⟩;have C:=ah.out.kept G;have m4:w4.cell? ⟨m.b,2,none⟩=some (.slice Am V.length cm):=C.cell 2;have y4:w4.frozen? ⟨m.b,2,none⟩=false:=C.frozen 2)
        all_goals (
         have aD:=p.out.1;have aV:Hid (Net w0 Nb wv root Ks (upd bk m (.pointer (some ⟨root.b,0,none⟩))) (upd ev m (.slice A4 N f)) ch (w4.setCell ⟨m.b,2,none⟩ (.slice A4 N f))):=hid ((ar.out.below G).setEnds aD _);have aN:=hid (B.kept (j6 w4 ⟨m.b,2,none⟩ (.slice A4 N f)) (B.not_blk C (by decide)))
         have aX:Hid (∀s∈Ks,s≠m->∀zs,N7 w0 J (ev s) zs->N7 w0 (w4.setCell ⟨m.b,2,none⟩ (.slice A4 N f)) (ev s) zs):=hid λs hs _ zs q=>by
          have q2:=(ad.out s hs zs q).below G;exact q2.kept (j6 w4 ⟨m.b,2,none⟩ (.slice A4 N f)) (q2.not_blk C (by decide))
         have ac:=hid (d.out.more aD p.out.2.1 ai.out z.out.1 z.out.2.1 z.out.2.2 ap.out ao.out aV.out aN.out aX.out);have bG:=hid (A3R (A3S aS.out G) C (by decide) 2 (.slice A4 N f));have bD:=hid ((aR.out.below G).cell C 2 (.slice A4 N f));have ak:=A75 ac.out.ord (λx hx=>(ac.out.knots _).2 ⟨x,hx,rfl⟩) ac.out.net.iu h1 (λx hx=>(cf.out x hx).2);simp only[List.length_cons,List.length_append,List.length_nil] at ak;generalize w4.setCell ⟨m.b,2,none⟩ (.slice A4 N f)=w5 at *;clear m1 m2 r2 y2 m4 y4 C G B aV aN aX ap ao aM aL ah T aP aY ar ad aS aR;have ab:Below w5.heap.size w5 (w5.alloc (.cells #[.pointer (some ⟨m.b,0,none⟩)] 217)):=ba_;have aq:=hid (A3S bG.out ab);have aO:=hid (ac.out.below ab);have bC:=hid (bD.out.below ab);have aW:Hid ((X7 (k::Q)).length=Q.length+1):=hid (by simp[X7]);have bA:=hid aO.out.net.keep.size;have bH:Hid ((w5.alloc (.cells #[.pointer (some ⟨m.b,0,none⟩)] 217)).cell? ⟨w5.heap.size,0,none⟩=some (.pointer (some ⟨m.b,0,none⟩))):=hid ((J0.new w5 217 #[.pointer (some ⟨m.b,0,none⟩)]).cell 0)
         go_wp2_with (at_builtin;(refine A3G rfl (.tmp 78) (.tmp 80) _ rfl i0 _ 8 underlying254 b_ bQ ag af rfl (Q.length+1) aW.out rfl aq.out bA.out (.pointer (some ⟨m.b,0,none⟩)) rfl w5.heap.size 1 rfl bH.out (by unfold maxLen;omega) (by omega) ?_);intro g' o' c' w' aJ aF hat')
         have bz:=hid (aO.out.queue aq.out aF);have aQ:=hid (B8M bC.out aq.out aF);have bF:=hid aJ;clear aJ hat' ab
         have bx:Hid (R6 w0 Nb wv root ws Ks ch D (k::(Q++[m])) (A4K k λa=>left a/\¬a=c) (upd bk m (.pointer (some ⟨root.b,0,none⟩))) (upd ev m (.slice A4 N f)) w'):=hid (by
          have:=bz.out;rw[←A4K.step p.out.2.2] at this;exact this)
         have bE:Hid (Qu w' w0.heap.size 217 g' o' c' (X7 (k::(Q++[m])))):=hid (by
          have:=bF.out;unfold X7 J7 at this ⊢
          simpa using this)
         have bs:(Q++[m]).length+1=Q.length+1+1:=by simp
         go_roundw
         case rel=>exact⟨Q++[m],_,_,g',o',c',Q.length+1+1,bi,_,rfl,bs,by omega,bx,bE,aQ⟩
         case measure=>rw[aQ.out.left_eq,cn.out];exact hlt)
       .have R:=bc.out
        have aE:k∈D\/k∈k::Q:=.inr (List.mem_cons_self ..);have bg:k≠m:=λe=>ai.out (by rw[←e];exact aE)
        have H:=hid (d.out.net.setBack p.out.1 (J7 root.b));have bh:k.b≠root.b:=λe=>hrt (d.out.net.ib k R root d.out.net.rt e)
        have br:(binOp .neq 217 (.pointer (some ⟨k.b,0,none⟩)) (.pointer (some ⟨root.b,0,none⟩))).run prog (J.setCell ⟨m.b,1,none⟩ (.pointer (some ⟨root.b,0,none⟩)))=.ok (.bool true) (J.setCell ⟨m.b,1,none⟩ (.pointer (some ⟨root.b,0,none⟩))) :=
         A5R _ (λe=>bh (congrArg Addr.block e)) (H.out.blk k R) (H.out.blk root H.out.rt)
        obtain⟨q,hq,bU,cb,hB⟩:=d.out.back k R aE;have bo:k.u≠[]:=λe=>hrt (d.out.net.iu k R root d.out.net.rt (e.trans d.out.net.ru.symm))
        have bV:=hB.lt bo
        have cj:Hid (Calls prog 126 #[.pointer (some ⟨Nb,0,none⟩),.pointer (some ⟨q.b,0,none⟩),.int .u8 c] (J.setCell ⟨m.b,1,none⟩ (.pointer (some ⟨root.b,0,none⟩))) (λe w'=>∃r:Kn,e=.returned (.pointer (some ⟨r.b,0,none⟩))/\(r∈Ks/\(r∈D\/r∈k::Q)/\Bk ws m.u r.u)/\J.setCell ⟨m.b,1,none⟩ (.pointer (some ⟨root.b,0,none⟩))=w')):=hid (by
         refine(B4Q H.out (Td:=λs=>s∈D\/s∈k::Q) ⟨d.out.knots,λs hs ht=>?_⟩ hq bU k.u.tail hB c p.out.2.2).mono ?_
         .rw[V3 _ _ (λe=>ai.out (by rw[←e];exact ht))]
          exact d.out.back s hs ht
         .rintro e w'⟨r,rfl,hr,cz,c_,rfl⟩
          refine⟨r,rfl,⟨hr,d.out.ord.all d.out.par r hr (by omega),?_⟩,rfl⟩;rw[p.out.2.1];exact Bk.snoc bo cz)
        have k1:(J.setCell ⟨m.b,1,none⟩ (.pointer (some ⟨root.b,0,none⟩))).cell? ⟨k.b,1,none⟩=some (.pointer (some ⟨q.b,0,none⟩)):=by
         have:=(H.out.blk k R).cell 1;rw[V3 _ _ bg,cb] at this;exact this
        have L:=H.out.blk m p.out.1;have y2:(J.setCell ⟨m.b,1,none⟩ (.pointer (some ⟨root.b,0,none⟩))).frozen? ⟨m.b,1,none⟩=false:=L.frozen 1
        have m3:(J.setCell ⟨m.b,1,none⟩ (.pointer (some ⟨root.b,0,none⟩))).cell? ⟨m.b,1,none⟩=some (.pointer (some ⟨root.b,0,none⟩)):=by
         have:=L.cell 1;rw[F5] at this;exact this
        have bd:=hid (⟨A2O.cell (w0:=w0) (Ks:=Ks) (ev:=ev) (d.out.net.blk m p.out.1) (by decide) 1 (.pointer (some ⟨root.b,0,none⟩)),A3R aU.out (d.out.net.blk m p.out.1) (by decide) 1 (.pointer (some ⟨root.b,0,none⟩)),bj.out.cell (d.out.net.blk m p.out.1) 1 (.pointer (some ⟨root.b,0,none⟩))⟩:_/\_/\_);clear R aE bg bh hq bU cb hB bo bV L hrt
        go_wp2_with (go_at_call 126;refine cj.out.mono ?_;rintro e w'⟨r,rfl,bT,rfl⟩;have z:=hid bT;clear bT)
        have L:=H.out.blk m p.out.1
        have ar:Hid (Net w0 Nb wv root Ks (upd bk m (J7 r.b)) ev ch ((J.setCell ⟨m.b,1,none⟩ (.pointer (some ⟨root.b,0,none⟩))).setCell ⟨m.b,1,none⟩ (.pointer (some ⟨r.b,0,none⟩)))):=hid (by
         have:=H.out.setBack p.out.1 (J7 r.b);rw[B6h] at this;exact this)
        have ad:Hid (A2O w0 Ks ev J ((J.setCell ⟨m.b,1,none⟩ (.pointer (some ⟨root.b,0,none⟩))).setCell ⟨m.b,1,none⟩ (.pointer (some ⟨r.b,0,none⟩)))):=hid (bd.out.1.trans (A2O.cell (w0:=w0) (Ks:=Ks) (ev:=ev) L (by decide) 1 (.pointer (some ⟨r.b,0,none⟩))));have aS:=hid (A3R bd.out.2.1 L (by decide) 1 (.pointer (some ⟨r.b,0,none⟩)));have aR:=hid (bd.out.2.2.cell L 1 (.pointer (some ⟨r.b,0,none⟩)));unfold J7 at H;clear br hen' n0 m1 y1 bd k1 y2 m3 L cj H;generalize (J.setCell ⟨m.b,1,none⟩ (.pointer (some ⟨root.b,0,none⟩))).setCell ⟨m.b,1,none⟩ (.pointer (some ⟨r.b,0,none⟩))=W3 at *;unfold J7 at *;have y:=ar.out;have j:=y.blk m p.out.1;rw[F5] at j;have E:=y.blk r z.out.1;have bq:r≠m:=λe=>ai.out (by rw[←e];exact z.out.2.1)
        rw[V3 _ _ bq] at E;obtain⟨V,ay,_,ax⟩:=d.out.rows m p.out.1;obtain⟨ys,ag,af,_⟩:=d.out.rows r z.out.1;have O:=ad.out m p.out.1 V ay;have M:=ad.out r z.out.1 ys ag;have ap:=hid (ax ai.out);have ao:=hid (af z.out.2.1);have bn:=A7u.few ap.out (lr_ _);have bm:=A1U.few ao.out;obtain⟨vm,aB⟩:∃vm,vm=ev m:=⟨_,rfl⟩
        obtain⟨vr,aA⟩:∃vr,vr=ev r:=⟨_,rfl⟩
        rw[←aB] at j O;rw[←aA] at E M;obtain⟨Am,cm,aH⟩:=O.src.form;obtain⟨Ar,cr,aG⟩:=M.src.form;rw[aH] at j O;rw[aG] at E M;clear aB aA aH aG;have ah:=hid j;have T:=hid (j.below br_.drew j.lt);have aP:=hid (E.below br_.drew E.lt);have aM:=hid O;have aL:=hid M;have m1:W3.drew.cell? ⟨m.b,1,none⟩=some (.pointer (some ⟨r.b,0,none⟩)):=T.out.cell 1;have m2:W3.drew.cell? ⟨m.b,2,none⟩=some (.slice Am V.length cm):=T.out.cell 2;have r2:W3.drew.cell? ⟨r.b,2,none⟩=some (.slice Ar ys.length cr):=aP.out.cell 2;obtain⟨N,hN⟩:∃N,N=(V++ys).length:=⟨_,rfl⟩
        have aY:Hid (Calls prog 155 #[.slice (some ⟨W3.heap.size,0,none⟩) 2 2] ((W3.alloc (.cells #[(.slice Am V.length cm),(.slice Ar ys.length cr)] 191)).drew) (λe w'=>∃A cap,e=.returned (.slice A N cap)/\N7 w0 w' (.slice A N cap) (V++ys)/\Below W3.heap.size W3 w')):=hid (by
         have S:Below W3.heap.size W3 ((W3.alloc (.cells #[(.slice Am V.length cm),(.slice Ar ys.length cr)] 191)).drew):=ba_.drew;have P:=J0.new W3 191 #[(.slice Am V.length cm),(.slice Ar ys.length cr)];refine(A9r V ys (.slice Am V.length cm) (.slice Ar ys.length cr) W3.heap.size _ (aM.out.src.below S) (aL.out.src.below S) (P.cell 0) (P.cell 1) P.lt (by omega)).mono ?_;rintro e w'⟨A,cap,rfl,aC,hb⟩;exact⟨A,cap,by rw[hN],by rw[hN];exact aC.base (Nat.le_trans y.keep.size S.size),S.trans (hb.mono S.size)⟩)
        clear y j E ay ax ag af O M hN;have y2:=T.out.frozen 2;have cy:=T.out.lt;clear bn bm
        go_region_with (go_at_call 155;refine aY.out.mono ?_;rintro e w4⟨A4,f,rfl,B,G⟩;have C:=ah.out.kept G;have m4:w4.cell? ⟨m.b,2,none⟩=some (.slice Am V.length cm):=C.cell 2;have y4:w4.frozen? ⟨m.b,2,none⟩=false:=C.frozen 2)
        all_goals (
         have aD:=p.out.1;have aV:Hid (Net w0 Nb wv root Ks (upd bk m (.pointer (some ⟨r.b,0,none⟩))) (upd ev m (.slice A4 N f)) ch (w4.setCell ⟨m.b,2,none⟩ (.slice A4 N f))):=hid ((ar.out.below G).setEnds aD _);have aN:=hid (B.kept (j6 w4 ⟨m.b,2,none⟩ (.slice A4 N f)) (B.not_blk C (by decide)))
         have aX:Hid (∀s∈Ks,s≠m->∀zs,N7 w0 J (ev s) zs->N7 w0 (w4.setCell ⟨m.b,2,none⟩ (.slice A4 N f)) (ev s) zs):=hid λs hs _ zs q=>by
          have q2:=(ad.out s hs zs q).below G;exact q2.kept (j6 w4 ⟨m.b,2,none⟩ (.slice A4 N f)) (q2.not_blk C (by decide))
         have ac:=hid (d.out.more aD p.out.2.1 ai.out z.out.1 z.out.2.1 z.out.2.2 ap.out ao.out aV.out aN.out aX.out);have bG:=hid (A3R (A3S aS.out G) C (by decide) 2 (.slice A4 N f));have bD:=hid ((aR.out.below G).cell C 2 (.slice A4 N f));have ak:=A75 ac.out.ord (λx hx=>(ac.out.knots _).2 ⟨x,hx,rfl⟩) ac.out.net.iu h1 (λx hx=>(cf.out x hx).2);simp only[List.length_cons,List.length_append,List.length_nil] at ak;generalize w4.setCell ⟨m.b,2,none⟩ (.slice A4 N f)=w5 at *;clear m1 m2 r2 y2 m4 y4 C G B aV aN aX ap ao aM aL ah T aP aY ar ad aS aR;have ab:Below w5.heap.size w5 (w5.alloc (.cells #[.pointer (some ⟨m.b,0,none⟩)] 217)):=ba_;have aq:=hid (A3S bG.out ab);have aO:=hid (ac.out.below ab);have bC:=hid (bD.out.below ab);have aW:Hid ((X7 (k::Q)).length=Q.length+1):=hid (by simp[X7]);have bA:=hid aO.out.net.keep.size;have bH:Hid ((w5.alloc (.cells #[.pointer (some ⟨m.b,0,none⟩)] 217)).cell? ⟨w5.heap.size,0,none⟩=some (.pointer (some ⟨m.b,0,none⟩))):=hid ((J0.new w5 217 #[.pointer (some ⟨m.b,0,none⟩)]).cell 0)
         go_wp2_with (at_builtin;(refine A3G rfl (.tmp 78) (.tmp 80) _ rfl i0 _ 8 underlying254 b_ bQ ag af rfl (Q.length+1) aW.out rfl aq.out bA.out (.pointer (some ⟨m.b,0,none⟩)) rfl w5.heap.size 1 rfl bH.out (by unfold maxLen;omega) (by omega) ?_);intro g' o' c' w' aJ aF hat')
         have bz:=hid (aO.out.queue aq.out aF);have aQ:=hid (B8M bC.out aq.out aF);have bF:=hid aJ;clear aJ hat' ab
         have bx:Hid (R6 w0 Nb wv root ws Ks ch D (k::(Q++[m])) (A4K k λa=>left a/\¬a=c) (upd bk m (.pointer (some ⟨r.b,0,none⟩))) (upd ev m (.slice A4 N f)) w'):=hid (by
          have:=bz.out;rw[←A4K.step p.out.2.2] at this;exact this)
         have bE:Hid (Qu w' w0.heap.size 217 g' o' c' (X7 (k::(Q++[m])))):=hid (by
          have:=bF.out;unfold X7 J7 at this ⊢
          simpa using this)
         have bs:(Q++[m]).length+1=Q.length+1+1:=by simp
         go_roundw
         case rel=>exact⟨Q++[m],_,_,g',o',c',Q.length+1+1,bi,_,rfl,bs,by omega,bx,bE,aQ⟩
         case measure=>rw[aQ.out.left_eq,cn.out];exact hlt))
