import Derived.Test.YthhcpbfgoofppaaGreatDoorGStep
import Derived.Test.YthhcpbfgoofppaaGreatDoorHSpot
import Derived.RangeFuncNested
import Derived.RangeFuncBound
import Derived.RangeFuncCalls
import Derived.RangeFuncLeaves
import Derived.Shelf.Abstract
import Derived.Shelf.RegionOpen
import Derived.OwnWalkIn
import Derived.TacticsInMore
import Derived.LoopNIn
import Derived.LoopIn
set_option linter.unusedVariables false
set_option linter.unusedSimpArgs false
open Wf
set_option maxRecDepth 100000
set_option maxHeartbeats 8000000
open Go.Lib (hid)
open Go.Proofs.Tryz hiding parts
namespace Go.Proofs.YthhcpbfgoofppaaGreatDoor
open Go.RowKit Wf
def A14(n:Nat)(S:Nat->Bool):Array V_:=⟨(List.range n).map λj=>Value.bool (S j)⟩
theorem A25(n:Nat)(S:Nat->Bool):(A14 n S).size=n:=by simp[A14]
theorem A1C(n:Nat)(S:Nat->Bool)(j:Nat)(h:j<n):(A14 n S)[j]?=some (.bool (S j)):=by simp[A14,h]
theorem B2Z(n:Nat)(S:Nat->Bool)(i:Nat)(h:i<n):(A14 n S).setIfInBounds i (.bool true)=A14 n (Wf.mark S i):=by
 apply Array.ext_getElem?;intro j;rw[Array.getElem?_setIfInBounds];by_cases hj:j<n
 .rw[A1C n (Wf.mark S i) j hj]
  by_cases e:i=j
  .subst e
   rw[if_pos rfl,if_pos (by rw[A25];exact h)];simp[Wf.mark]
  .rw[if_neg e,A1C n S j hj]
   have:(j==i)=false:=by simp;omega
   simp[Wf.mark,this]
 .have a:(A14 n (Wf.mark S i))[j]?=none:=Array.getElem?_eq_none (by rw[A25];omega)
  have b:(A14 n S)[j]?=none:=Array.getElem?_eq_none (by rw[A25];omega);rw[a,b,if_neg (by omega)]
theorem B5i{S S':Nat->Bool}(h:∀j,S j=true->S' j=true):∀n,C9 S' n<=C9 S n:=by
 have key:∀j,(if S' j=true then 0 else 1)<=(if S j=true then 0 else 1):=by
  intro j;by_cases hj:S j=true
  .rw[if_pos hj,if_pos (h j hj)];omega
  .rw[if_neg hj];split <;> omega
 intro n
 induction n with
 | zero=>exact key 0
 | succ n ih=>simp only[C9];have:=key (n+1);omega
structure Fk (B:Nat) (w w':W_):Prop where
 size:w.heap.size<=w'.heap.size
 kept:∀k,k<w.heap.size->k≠B+4->k≠B+5->(∀cs fr,w.heap[k]?≠some (.cells cs 3 fr))->w'.heap[k]?=w.heap[k]?
theorem Fk.refl(B:Nat)(w:W_):Fk B w w:=⟨lr_ _,λ_ _ _ _ _=>rfl⟩
theorem Fk.trans{B:Nat}{a b c:W_}(h:Fk B a b)(k:Fk B b c):Fk B a c :=
 ⟨Nat.le_trans h.size k.size,λj o m i g=>by
   have e:=h.kept j o m i g;rw[k.kept j (Nat.lt_of_lt_of_le o h.size) m i (by rw[e];exact g),e]⟩
theorem Fk.alloc{B:Nat}{a w:W_}(h:Fk B a w)(o:Obj):Fk B a (w.alloc o) :=
 h.trans ⟨by simp,λk b _ _ _=>Below.heap_alloc w o k b⟩
theorem Fk.set4{B:Nat}{a w:W_}(h:Fk B a w)(j:Nat)(v:V_):Fk B a (w.setCell ⟨B+4,j,none⟩ v) :=
 h.trans ⟨by simp,λk c b _ _=>Below.heap_setCell w _ v k b⟩
theorem Fk.set5{B:Nat}{a w:W_}(h:Fk B a w)(j:Nat)(v:V_):Fk B a (w.setCell ⟨B+5,j,none⟩ v) :=
 h.trans ⟨by simp,λk c _ b _=>Below.heap_setCell w _ v k b⟩
theorem Fk.grown{B:Nat}{a w w':W_}{base n:Nat}{v:V_}{c:List V_}(h:Fk B a w)(i:w.ownsRow base 3 1 v n c)(b:w.grownBy w' v.ownBlock):Fk B a w' :=
 h.trans ⟨b.size,λk j _ _ m=>b.block k j (λe=>by
  rcases i.2 with ⟨rfl,_⟩|⟨g,cap,cur,rfl,_,hgg,_⟩
  .simp[Value.ownBlock] at e
  .simp only[Value.ownBlock,Option.some.injEq] at e
   subst e;exact m _ _ hgg)⟩
theorem J0.fk{B:Nat}{w w':W_}{k:Nat}{t:TypeId}{cs:Array V_}(h:J0 w k t cs)(b:Fk B w w')(a:t≠3)(g:k≠B+4)(c:k≠B+5):J0 w' k t cs :=
 (b.kept k h.lt g c (λi j e=>by
   unfold J0 at h;rw[h] at e;simp at e;exact a e.2.1)).trans h
def A3H(B:Nat):V_:=.func (.func 209) #[] #[.pointer (some ⟨B+6,0,none⟩),.pointer (some ⟨B,0,none⟩),.pointer (some ⟨B+4,0,none⟩),.pointer (some ⟨B+7,0,none⟩),.pointer (some ⟨B+1,0,none⟩),.pointer (some ⟨B+2,0,none⟩)]
structure A1r (w0:W_) (n:Nat) (pv:V_) (f l:Bool) (S:Nat->Bool) (L:List Nat) (d:Bool) (v:V_) (w:W_):Prop where
 bp:J0 w w0.heap.size 228 #[pv]
 bf:J0 w (w0.heap.size+1) 4 #[.bool f]
 bl:J0 w (w0.heap.size+2) 4 #[.bool l]
 fr:J0 w (w0.heap.size+4) 295 #[v,.bool d]
 own:w.ownsRow (w0.heap.size+8) 3 1 v L.length (D0 L)
 seen:J0 w (w0.heap.size+5) 4 (A14 n S)
 sb:J0 w (w0.heap.size+6) 278 #[.slice (some ⟨w0.heap.size+5,0,none⟩) n n]
 wb:J0 w (w0.heap.size+7) 127 #[A3H w0.heap.size]
 bel:Below w0.heap.size w0 w
section
variable {w0 w:W_} {n:Nat} {pv:V_} {f l:Bool} {S:Nat->Bool} {L:List Nat} {d:Bool} {v:V_}
theorem A1r.alloc(h:A1r w0 n pv f l S L d v w)(o:Obj):A1r w0 n pv f l S L d v (w.alloc o) :=
 ⟨h.bp.alloc o,h.bf.alloc o,h.bl.alloc o,h.fr.alloc o,h.own.alloc o,h.seen.alloc o,h.sb.alloc o,h.wb.alloc o,h.bel.alloc h.bel.size o⟩
theorem A1r.mark(h:A1r w0 n pv f l S L d v w)(i:Nat)(c:i<n):A1r w0 n pv f l (Wf.mark S i) L d v (w.setCell ⟨w0.heap.size+5,i,none⟩ (.bool true)):=by
 have a:=λk b=>h.own.lt k b
 refine⟨h.bp.far (by show w0.heap.size≠w0.heap.size+5;omega) _,h.bf.far (by show w0.heap.size+1≠w0.heap.size+5;omega) _,h.bl.far (by show w0.heap.size+2≠w0.heap.size+5;omega) _,h.fr.far (by show w0.heap.size+4≠w0.heap.size+5;omega) _,?_,?_,h.sb.far (by show w0.heap.size+6≠w0.heap.size+5;omega) _,h.wb.far (by show w0.heap.size+7≠w0.heap.size+5;omega) _,h.bel.setCell (by show w0.heap.size<=w0.heap.size+5;omega) _⟩
 .refine h.own.kept (row:=some (w0.heap.size+5)) ⟨rfl,rfl,rfl,by simp,λk _ b=>Below.heap_setCell w _ _ k (λe=>b (by rw[e]))⟩ ?_
  cases hv:v.ownBlock with
  | none=>exact .inl rfl
  | some k=>exact .inr (λe=>by have:=(a k hv).1;simp at e;omega)
 .have:=h.seen.set_ i (.bool true)
  rw[B2Z n S i c] at this;exact this
theorem A1r.end_(h:A1r w0 n pv f l S L d v w):A1r w0 n pv f l S L true v (w.setCell ⟨w0.heap.size+4,1,none⟩ (.bool true)):=by
 have a:=λk b=>h.own.lt k b
 refine⟨h.bp.far (by show w0.heap.size≠w0.heap.size+4;omega) _,h.bf.far (by show w0.heap.size+1≠w0.heap.size+4;omega) _,h.bl.far (by show w0.heap.size+2≠w0.heap.size+4;omega) _,?_,?_,h.seen.far (by show w0.heap.size+5≠w0.heap.size+4;omega) _,h.sb.far (by show w0.heap.size+6≠w0.heap.size+4;omega) _,h.wb.far (by show w0.heap.size+7≠w0.heap.size+4;omega) _,h.bel.setCell (by show w0.heap.size<=w0.heap.size+4;omega) _⟩
 .have:=h.fr.set_ 1 (.bool true)
  exact this
 .refine h.own.kept (row:=some (w0.heap.size+4)) ⟨rfl,rfl,rfl,by simp,λk _ b=>Below.heap_setCell w _ _ k (λe=>b (by rw[e]))⟩ ?_
  cases hv:v.ownBlock with
  | none=>exact .inl rfl
  | some k=>exact .inr (λe=>by have:=(a k hv).1;simp at e;omega)
theorem A1r.take(h:A1r w0 n pv f l S L d v w){w':W_}{m:V_}{i:Nat}(a:w'.ownsRow (w0.heap.size+8) 3 1 m (L.length+1) (D0 L++[.int .i64 i]))(j:w.grownBy w' v.ownBlock):
 J0 w' (w0.heap.size+4) 295 #[v,.bool d]/\A1r w0 n pv f l S (L++[i]) d m (w'.setCell ⟨w0.heap.size+4,0,none⟩ m):=by
 have b:=λk g=>h.own.lt k g
 have c:∀{k:Nat}{t:TypeId} {cs:Array V_},J0 w k t cs->k<w0.heap.size+8->J0 w' k t cs:=λq g=>(j.block _ q.lt (λe=>by have:=(b _ e.symm).1;omega)).trans q
 have o:=c h.fr (by omega)
 have p:Below w0.heap.size w0 w':=h.bel.trans ⟨j.os,j.tape,j.output,j.size,λk g=>by
  have hk':k<w.heap.size:=by have:=h.bp.lt;omega
  exact j.block k hk' (λe=>by have:=(b _ e.symm).1;omega)⟩
 refine⟨o,?_,?_,?_,?_,?_,?_,?_,?_,?_⟩
 .exact(c h.bp (by omega)).far (by show w0.heap.size≠w0.heap.size+4;omega) _
 .exact(c h.bf (by omega)).far (by show w0.heap.size+1≠w0.heap.size+4;omega) _
 .exact(c h.bl (by omega)).far (by show w0.heap.size+2≠w0.heap.size+4;omega) _
 .exact o.set_ 0 m
 .have hlt':=λk g=>a.lt k g
  have r:D0 (L++[i])=D0 L++[.int .i64 i]:=by simp[D0]
  rw[r,List.length_append];refine a.kept (row:=some (w0.heap.size+4)) ⟨rfl,rfl,rfl,by simp,λk _ g=>Below.heap_setCell w' _ _ k (λe=>g (by rw[e]))⟩ ?_;cases hv:m.ownBlock with
  | none=>exact .inl rfl
  | some k=>exact .inr (λe=>by have:=(hlt' k hv).1;simp at e;omega)
 .exact(c h.seen (by omega)).far (by show w0.heap.size+5≠w0.heap.size+4;omega) _
 .exact(c h.sb (by omega)).far (by show w0.heap.size+6≠w0.heap.size+4;omega) _
 .exact(c h.wb (by omega)).far (by show w0.heap.size+7≠w0.heap.size+4;omega) _
 .exact p.setCell (by show w0.heap.size<=w0.heap.size+4;omega) _
end
theorem B4f{w:W_}{base a n:Nat}{e:TypeId}{v:V_}{b:List V_}(h:w.ownsRow base e a v (n+1) b):∃g cap,v=.slice (some ⟨g,0,none⟩) (n+1) cap:=by
 rcases h.2 with ⟨_,h0⟩|⟨g,cap,cur,hv,_⟩
 .omega
 .exact⟨g,cap,hv⟩
theorem A1g(S:Nat->Bool)(i:Nat):(λj=>S j=true\/j=i)=(λj=>Wf.mark S i j=true):=by
 funext j
 simp[Wf.mark];constructor
 .rintro (h|h)
  .exact .inr h
  .exact .inl h
 .rintro (h|h)
  .exact .inr h
  .exact .inl h
theorem L9(W:W_)(t:TypeId)(x:V_)(g:Nat)(b:g=W.heap.size):∀(j:Nat)(u:V_),[x][j]?=some u->(W.alloc (.cells #[x] t)).cell? ((⟨g,0,none⟩:Addr).add j)=some u:=by
 intro j u a;subst b;rw[Z5,Nat.zero_add,(J0.new W t #[x]).cell]
 simpa using a
def B9P(w0:W_)(p:List St)(pv:V_)(f l:Bool)(S:Nat->Bool)(L:List Nat)(d:Bool)(i:Nat)(w:W_)(e:Ending)(w':W_):Prop :=
 e=.returned (.tuple #[])/\∃(S':Nat->Bool)(a:List Nat) (b:Bool) (D:Prop) (c:V_),O5 p f l (λj=>S j=true) (λj=>S' j=true) i a D/\(b=true↔d=true\/D) /\
  A1r w0 p.length pv f l S' (L++a) b c w'/\Fk w0.heap.size w w'/\(L++a).length+C9 S' p.length<=1000
theorem B4D(w0:W_)(p:List St)(hp:okP p)(b A cap:Nat)(bn:p.length<=cap)(bc:cap<=9223372036854775807)(f l:Bool)
 (hcell:∀(w':W_),Below w0.heap.size w0 w'->∀k n,p[k]?=some n ->
   w'.cell? ⟨b,A+k*7,none⟩=some (.int .i64 n.op)/\w'.cell? ⟨b,A+k*7+1,none⟩=some (.int .u64 (n.cls.1:Int))/\w'.cell? ⟨b,A+k*7+2,none⟩=some (.int .u64 (n.cls.2.1:Int)) /\
   w'.cell? ⟨b,A+k*7+3,none⟩=some (.int .u64 (n.cls.2.2.1:Int))/\w'.cell? ⟨b,A+k*7+4,none⟩=some (.int .u64 (n.cls.2.2.2:Int)) /\
   w'.cell? ⟨b,A+k*7+5,none⟩=some (.int .i64 n.x)/\w'.cell? ⟨b,A+k*7+6,none⟩=some (.int .i64 n.y)):
 ∀(m:Nat)(S:Nat->Bool) (L:List Nat) (d:Bool) (v:V_) (w:W_) (i:Nat),C9 S p.length<=m->i<p.length->L.length+C9 S p.length<=1000 ->
  A1r w0 p.length (.slice (some ⟨b,A,none⟩) p.length cap) f l S L d v w ->
  Calls prog 209 #[.int .i64 i,.pointer (some ⟨w0.heap.size+6,0,none⟩),.pointer (some ⟨w0.heap.size,0,none⟩),.pointer (some ⟨w0.heap.size+4,0,none⟩),.pointer (some ⟨w0.heap.size+7,0,none⟩),.pointer (some ⟨w0.heap.size+1,0,none⟩),.pointer (some ⟨w0.heap.size+2,0,none⟩)] w (B9P w0 p (.slice (some ⟨b,A,none⟩) p.length cap) f l S L d i w):=by
 obtain⟨i0,bb,aV,aU,aT⟩:=info_parts A0B;have HP:=hid hp;have ap:=hid hcell;clear hp hcell;have aZ:p.length<=200:=HP.out.2.1;intro m
 induction m with
 | zero =>
   intro S L d v w i hm hi hL h;have c0:=h.sb.cell 0
   have q:S i=true:=by
    cases hS:S i with
    | true=>rfl
    | false=>have:=A9F S i hS p.length (by omega);omega
   have c1:w.cell? ⟨w0.heap.size+5,i,none⟩=some (.bool true):=by rw[h.seen.cell,A1C _ _ _ hi,q]
   have ba:(i:Int)<p.length:=by omega
   have H:=hid h;have am:=hid q;clear h hm q;go_enter func209,ntmps209;go_wp2;refine bodyPost_ret (results_none rfl _ _ _) rfl ⟨rfl,S,[],d,False,v,O5.seen am.out,by simp,by rw[List.append_nil];exact H.out,Fk.refl _ _,by rw[List.append_nil];exact hL⟩
 | succ m ih =>
   intro S L d v w i hm hi hL h;have c0:=h.sb.cell 0;have ba:(i:Int)<p.length:=by omega
   by_cases q:S i=true
   .have c1:w.cell? ⟨w0.heap.size+5,i,none⟩=some (.bool true):=by rw[h.seen.cell,A1C _ _ _ hi,q]
    have H:=hid h;have am:=hid q;clear h hm q ih;go_enter func209,ntmps209;go_wp2;refine bodyPost_ret (results_none rfl _ _ _) rfl ⟨rfl,S,[],d,False,v,O5.seen am.out,by simp,by rw[List.append_nil];exact H.out,Fk.refl _ _,by rw[List.append_nil];exact hL⟩
   .have Z:S i=false:=by simpa using q
    have c1:w.cell? ⟨w0.heap.size+5,i,none⟩=some (.bool false):=by rw[h.seen.cell,A1C _ _ _ hi,Z]
    have z1:=h.seen.frozen i;have bC:=A9F S i Z p.length (by omega);have HM:=hid (h.mark i hi);have g:Hid (∀o,A1r w0 p.length (.slice (some ⟨b,A,none⟩) p.length cap) f l (Wf.mark S i) L d v ((w.setCell ⟨w0.heap.size+5,i,none⟩ (.bool true)).alloc o)):=hid λo=>HM.out.alloc o
    have X:p[i]?=some (p[i]'hi):=List.getElem?_eq_getElem hi;generalize p[i]'hi=s at X;have m0:=HM.out.bp.cell 0;have m4:=λo=>(g.out o).fr.cell 0
    obtain⟨q0,q1,q2,q3,q4,q5,q6⟩:=ap.out _ HM.out.bel i s X;have ad:=A2g (HP.out.2.2 s (List.mem_of_getElem? X));obtain⟨op,⟨k0,k1,k2,k3⟩,x,y⟩:=s;dsimp only at q0 q1 q2 q3 q4 q5 q6 ad;have c:=hid X;have M:=hid q;have bG:=hid Z;have aa:=hid ih;obtain⟨⟨o1,o5⟩,ox,oy,_,_,_⟩:=ad;clear h ih X q Z;have aY:op=1\/op=2\/op=3\/op=4\/op=5:=by omega
    rcases aY with rfl|rfl|rfl|rfl|rfl
    .have E:=O5.leaf (p:=p) (f:=f) (l:=l) (S:=λj=>S j=true) c.out M.out (by
      rintro k⟨s,q,O⟩;rw[c.out] at q;cases q;simp at O)
     rw[A1g] at E;have Q:Hid (O5 p f l (λj=>S j=true) (λj=>Wf.mark S i j=true) i [i] False):=hid (by simpa using E);have bD:L.length<=1000:=by omega
     clear E ox oy o1 o5;go_enter func209,ntmps209
     go_wp2_with (at_builtin;refine wpList_append_own _ rfl (.tmp 25) (.tmp 27) _ rfl (w0.heap.size+8) 3 i0 _ 1 8 underlying191 bb aV aU aT rfl (by omega) _ L.length (D0 L) rfl ((g.out _).own.alloc _) ⟨w.heap.size+1,0,none⟩ 1 1 [.int .i64 i] rfl rfl (L9 _ _ _ _ (by simp)) (by intro u hu;simp at hu;subst hu;rfl) (by unfold maxLen;omega) (by omega) (by have:=HM.out.wb.lt;simp at this ⊢;omega) ?_)
     intro v' w' F aj _;obtain⟨g',bq,rfl⟩:=B4f F;obtain⟨ak,ag⟩:=((g.out _).alloc _).take F aj;have g4:=ak.cell 0;have z4:=ak.frozen 0;have z:=hid ag;have N:=hid (((((Fk.refl w0.heap.size w).set5 i (.bool true)).alloc _).alloc _).grown ((g.out _).own.alloc _) aj);clear ag F aj ak m4 m0 q0 q1 q2 q3 q4 q5 q6 c0 c1 z1;go_wp2
     go_end0
     refine⟨rfl,Wf.mark S i,[i],d,False,_,Q.out,by simp,z.out,N.out.set4 _ _,?_⟩;simp;omega
    .have ⟨hx0,hx1⟩:=ox (by omega)
     have ⟨hy0,hy1⟩:=oy rfl;obtain⟨R,rfl⟩:∃n:Nat,x=(n:Int):=⟨x.toNat,by omega⟩
     obtain⟨yn,rfl⟩:∃n:Nat,y=(n:Int):=⟨y.toNat,by omega⟩
     have V:R<p.length:=by omega
     have aW:yn<p.length:=by omega
     have P:C9 (Wf.mark S i) p.length<=m:=by omega
     have Y:L.length+C9 (Wf.mark S i) p.length<=1000:=by omega
     have D:Hid (∀k,Eps p f l i k↔k=R\/k=yn):=hid (by
      intro k;constructor
      .rintro⟨s,q,O⟩
       rw[c.out] at q;cases q;simp at O;omega
      .intro h
       exact⟨_,c.out,.inl ⟨rfl,by simp;omega⟩⟩)
     have T:=λo=>(g.out o).wb.cell 0
     unfold A3H at T;simp only[List.getElem?_toArray,List.getElem?_cons_zero] at T;clear ox oy o1 o5 hx0 hx1 hy0 hy1;go_enter func209,ntmps209;have bk:w0.heap.size+7<w.heap.size:=by have:=HM.out.wb.lt;simpa using this
     go_wp2_with fail;refine(aa.out _ _ _ _ _ R P V Y (g.out _)).mono ?_;rintro e w1⟨rfl,S1,L1,d1,D1,v1,t,C,a,r,J⟩;have ai:=J0.new (w.setCell ⟨w0.heap.size+5,i,none⟩ (.bool true)) 262 #[.int .i64 2,.int .u64 k0,.int .u64 k1,.int .u64 k2,.int .u64 k3,.int .i64 R,.int .i64 yn];have aX:(w.setCell ⟨w0.heap.size+5,i,none⟩ (.bool true)).heap.size=w.heap.size:=by simp
     rw[aX] at ai;have ac:=(J0.fk (B:=w0.heap.size) (show J0 _ _ _ _ from ai) r (by decide) (by omega) (by omega)).cell 6;simp only[List.getElem?_toArray,List.getElem?_cons_succ,List.getElem?_cons_zero] at ac;have ah:=a.wb.cell 0;unfold A3H at ah;simp only[List.getElem?_toArray,List.getElem?_cons_zero] at ah;have be:C9 S1 p.length<=m:=Nat.le_trans (B5i (λj hj=>t.mono j hj) _) P;rw[←A1g] at t;have bg:=hid t;have bh:=hid C;have ao:=hid a;have aK:=hid ((((Fk.refl w0.heap.size w).set5 i (.bool true)).alloc _).trans r);clear t C a r ai m4 m0 q0 q1 q2 q3 q4 q5 q6 c0 c1 z1 T;go_wp2_with fail;refine(aa.out _ _ _ _ _ yn be aW J ao.out).mono ?_;rintro e w2⟨rfl,S2,L2,d2,D2,v2,aE,aF,G,af,al⟩;have Q:=hid (O5.two c.out M.out (by simp) (by simp) D.out bg.out aE);have HD:Hid (d2=true↔d=true\/(D1\/D2)):=hid (by rw[aF,bh.out,or_assoc]);rw[List.append_assoc] at G al;have z:=hid G;have N:=hid (aK.out.trans af);have HB:=hid al;clear aE aF G af al ah ac;go_wp2
     go_end0
     exact⟨rfl,S2,L1++L2,d2,D1\/D2,v2,Q.out,HD.out,z.out,N.out,HB.out⟩
    .have ⟨hx0,hx1⟩:=ox (by omega)
     obtain⟨R,rfl⟩:∃n:Nat,x=(n:Int):=⟨x.toNat,by omega⟩
     have V:R<p.length:=by omega
     have P:C9 (Wf.mark S i) p.length<=m:=by omega
     have Y:L.length+C9 (Wf.mark S i) p.length<=1000:=by omega
     have T:=λo=>(g.out o).wb.cell 0
     unfold A3H at T;simp only[List.getElem?_toArray,List.getElem?_cons_zero] at T;have mf:=λo=>(g.out o).bf.cell 0
     clear ox oy o1 o5 hx0 hx1;cases f with
     | true =>
       have D:Hid (∀k,Eps p true l i k↔k=R):=hid (by
        intro k;constructor
        .rintro⟨s,q,O⟩
         rw[c.out] at q;cases q;simp at O;omega
        .intro h
         exact⟨_,c.out,.inr (.inl ⟨rfl,rfl,by simp;omega⟩)⟩)
       go_enter func209,ntmps209;go_wp2_with fail;refine(aa.out _ _ _ _ _ R P V Y (g.out _)).mono ?_;rintro e w1⟨rfl,S1,L1,d1,D1,v1,t,C,a,r,J⟩;rw[←A1g] at t;have Q:=hid (O5.one c.out M.out (by simp) (by simp) D.out t);have HD:=hid C;have z:=hid a;have N:=hid (((Fk.refl w0.heap.size w).set5 i (.bool true)).alloc _ |>.trans r);have HB:=hid J;clear t C a r J m4 m0 q0 q1 q2 q3 q4 q5 q6 c0 c1 z1 T mf;go_wp2
       go_end0
       exact⟨rfl,S1,L1,d1,D1,v1,Q.out,HD.out,z.out,N.out,HB.out⟩
     | false =>
       have E:=O5.leaf (p:=p) (f:=false) (l:=l) (S:=λj=>S j=true) c.out M.out (by
        rintro k⟨s,q,O⟩;rw[c.out] at q;cases q;simp at O)
       rw[A1g] at E;have Q:=hid E;clear E;go_enter func209,ntmps209;go_wp2
       go_end0
       refine⟨rfl,Wf.mark S i,[],d,False,v,by simpa using Q.out,by simp,by rw[List.append_nil];exact g.out _,((Fk.refl w0.heap.size w).set5 i (.bool true)).alloc _,?_⟩;simp;omega
    .have ⟨hx0,hx1⟩:=ox (by omega)
     obtain⟨R,rfl⟩:∃n:Nat,x=(n:Int):=⟨x.toNat,by omega⟩
     have V:R<p.length:=by omega
     have P:C9 (Wf.mark S i) p.length<=m:=by omega
     have Y:L.length+C9 (Wf.mark S i) p.length<=1000:=by omega
     have T:=λo=>(g.out o).wb.cell 0
     unfold A3H at T;simp only[List.getElem?_toArray,List.getElem?_cons_zero] at T;have mf:=λo=>(g.out o).bl.cell 0
     clear ox oy o1 o5 hx0 hx1;cases l with
     | true =>
       have D:Hid (∀k,Eps p f true i k↔k=R):=hid (by
        intro k;constructor
        .rintro⟨s,q,O⟩
         rw[c.out] at q;cases q;simp at O;omega
        .intro h
         exact⟨_,c.out,.inr (.inr ⟨rfl,rfl,by simp;omega⟩)⟩)
       go_enter func209,ntmps209;go_wp2_with fail;refine(aa.out _ _ _ _ _ R P V Y (g.out _)).mono ?_;rintro e w1⟨rfl,S1,L1,d1,D1,v1,t,C,a,r,J⟩;rw[←A1g] at t;have Q:=hid (O5.one c.out M.out (by simp) (by simp) D.out t);have HD:=hid C;have z:=hid a;have N:=hid (((Fk.refl w0.heap.size w).set5 i (.bool true)).alloc _ |>.trans r);have HB:=hid J;clear t C a r J m4 m0 q0 q1 q2 q3 q4 q5 q6 c0 c1 z1 T mf;go_wp2
       go_end0
       exact⟨rfl,S1,L1,d1,D1,v1,Q.out,HD.out,z.out,N.out,HB.out⟩
     | false =>
       have E:=O5.leaf (p:=p) (f:=f) (l:=false) (S:=λj=>S j=true) c.out M.out (by
        rintro k⟨s,q,O⟩;rw[c.out] at q;cases q;simp at O)
       rw[A1g] at E;have Q:=hid E;clear E;go_enter func209,ntmps209;go_wp2
       go_end0
       refine⟨rfl,Wf.mark S i,[],d,False,v,by simpa using Q.out,by simp,by rw[List.append_nil];exact g.out _,((Fk.refl w0.heap.size w).set5 i (.bool true)).alloc _,?_⟩;simp;omega
    .have E:=O5.leaf (p:=p) (f:=f) (l:=l) (S:=λj=>S j=true) c.out M.out (by
      rintro k⟨s,q,O⟩;rw[c.out] at q;cases q;simp at O)
     rw[A1g] at E;have Q:=hid E;have bu:=λo=>(g.out o).fr.cell 1
     have bt:=λo=>(g.out o).fr.frozen 1
     clear ox oy o1 o5 E;go_enter func209,ntmps209;go_wp2
     go_end0
     refine⟨rfl,Wf.mark S i,[],true,True,v,by simpa using Q.out,by simp,by rw[List.append_nil];exact(g.out _).end_,(((Fk.refl w0.heap.size w).set5 i (.bool true)).alloc _).set4 _ _,?_⟩;simp;omega
@[go_sem] theorem B6u {P:Program}(w:W_)(a:Addr)(c:Fn)(b g:Array V_)(m:Mode):(store a (.func c b g) m).run P w=stored P w a (.func c b g) m:=run_store P w a _ m rfl
theorem Q8(W:W_)(k:Nat)(a:W.heap.size=k)(t:TypeId)(cs:Array V_):J0 (W.alloc (.cells cs t)) k t cs:=by subst a;exact J0.new _ _ _
theorem A99(n:Nat):A0r n (.bool false)=A14 n (λ_=>false):=by
 unfold A0r A14
 congr 1
 rw[List.map_const'];simp
theorem A1r.new(w:W_)(n:Nat)(pv:V_)(f l:Bool):
 A1r w n pv f l (λ_=>false) [] false (.slice none 0 0) ((((((((w.alloc (.cells #[pv] 228)).alloc (.cells #[.bool f] 4)).alloc (.cells #[.bool l] 4)).alloc (.cells #[.slice none 0 0,.bool false] 295)).alloc (.cells #[.slice none 0 0,.bool false] 295)).alloc (.cells (A0r n (.bool false)) 4)).alloc (.cells #[.slice (some ⟨w.heap.size+5,0,none⟩) n n] 278)).alloc (.cells #[A3H w.heap.size] 127)) /\
 J0 ((((((((w.alloc (.cells #[pv] 228)).alloc (.cells #[.bool f] 4)).alloc (.cells #[.bool l] 4)).alloc (.cells #[.slice none 0 0,.bool false] 295)).alloc (.cells #[.slice none 0 0,.bool false] 295)).alloc (.cells (A0r n (.bool false)) 4)).alloc (.cells #[.slice (some ⟨w.heap.size+5,0,none⟩) n n] 278)).alloc (.cells #[A3H w.heap.size] 127)) (w.heap.size+3) 295 #[.slice none 0 0,.bool false]:=by
 refine⟨⟨?_,?_,?_,?_,World.ownsRow_nil _ _ _ _,?_,?_,?_,?_⟩,?_⟩
 .exact(((((((Q8 _ _ (by simp) _ _).alloc _).alloc _).alloc _).alloc _).alloc _).alloc _).alloc _
 .exact((((((Q8 _ _ (by simp) _ _).alloc _).alloc _).alloc _).alloc _).alloc _).alloc _
 .exact(((((Q8 _ _ (by simp) _ _).alloc _).alloc _).alloc _).alloc _).alloc _
 .exact(((Q8 _ _ (by simp) _ _).alloc _).alloc _).alloc _
 .rw[←A99];exact((Q8 _ _ (by simp) _ _).alloc _).alloc _
 .exact(Q8 _ _ (by simp) _ _).alloc _
 .exact Q8 _ _ (by simp) _ _
 .exact(((((((ba_.alloc (by simp) _).alloc (by simp;omega) _).alloc (by simp;omega) _).alloc (by simp;omega) _).alloc (by simp;omega) _).alloc (by simp;omega) _).alloc (by simp;omega) _)
 .exact((((Q8 _ _ (by simp) _ _).alloc _).alloc _).alloc _).alloc _
theorem J5{w:W_}{base a b n:Nat}{e:TypeId}{v:V_}{c:List V_}(h:w.ownsRow base e b v n c)(i:a<=base):w.ownsRow a e b v n c:=by
 refine⟨h.1,?_⟩;rcases h.2 with hn|⟨g,cap,cur,hv,h1,rest⟩
 .exact .inl hn
 .exact .inr ⟨g,cap,cur,hv,Nat.le_trans i h1,rest⟩
def A2L(p:List St)(f l:Bool)(a:List Nat)(w:W_)(e:Ending)(w':W_):Prop :=
 ∃(A:Option Addr)(cap:Nat) (L:List Nat) (d:Bool),e=.returned (.agg #[.slice A L.length cap,.bool d])/\A04 p f l a L d/\w'.ownsRow w.heap.size 3 1 (.slice A L.length cap) L.length (D0 L)/\Below w.heap.size w w'
theorem A1q(p:List St)(Z:okP p)(pv fv:V_)(h:List Nat)(N:∀i∈h,i<p.length)(f l:Bool)(w:W_)(hr:RdS w pv p)(hf:Rd1 w fv (D0 h)):
 Calls prog 188 #[pv,fv,.bool f,.bool l] w (A2L p f l h w):=by
 have af:p.length<=200:=Z.2.1;have Y:0<p.length:=Z.1;obtain⟨A,cap,rfl,ad,P,C⟩:=hr.open_;obtain⟨b,H,rfl,al,m⟩:=C Y;rw[show Rd1 w fv (D0 h)=RdI w fv (A0X h) by rw[A7V];rfl] at hf;obtain⟨F,aA,rfl,ak,ay,M⟩:=hf.open_;have HW:=hid (B4D w p Z b H cap ad P f l (λw' hb k n hk=>m w' (λo=>hb.cell (p:=⟨b,o,none⟩) al) k n hk));have aq:=hid M;have s:=hid (A1r.new w p.length (.slice (some ⟨b,H,none⟩) p.length cap) f l);have ag:=λW=>B8 p.length (by omega) W
 have O:(A0X h).length=h.length:=A95 h;have aG:(A0X h).length<=9223372036854775807:=by omega
 rw[O] at ak M;have aR:=hid N
 have HZ:Hid (∀k x,(A0X h)[k]?=some x->∃i:Nat,h[k]?=some i/\x=(i:Int)/\i<p.length):=hid (by
  intro k x y;rw[A96] at y;cases J:h[k]? with
  | none=>rw[J] at y;cases y
  | some i=>rw[J] at y;simp at y;exact⟨i,J,y.symm,N i (List.mem_of_getElem? J)⟩)
 have ar:=hid O;have HP:=hid Z;clear m C M hr hf N Z O;generalize hzs:A0X h=zs at *;clear hzs;go_enter func188,ntmps188;go_wp2_with fail
 go_loopw [20] (λv20 wr=>∃(k:Nat)(S:Nat->Bool) (L:List Nat) (d:Bool) (D:Prop) (v:V_),k<=zs.length/\v20=.int .i64 k/\Hid (Acc p f l (h.take k) (λj=>S j=true) L D)/\Hid (d=true↔D)/\Hid (A1r w p.length (.slice (some ⟨b,H,none⟩) p.length cap) f l S L d v wr)/\L.length+C9 S p.length<=1000/\Hid (J0 wr (w.heap.size+3) 295 #[.slice none 0 0,.bool false])) (λi _=>zs.length - (intOf i).toNat)
 case atStart=>exact⟨0,λ_=>false,[],false,False,.slice none 0 0,by omega,rfl,hid (by simpa using Acc.start p f l),hid (by simp),hid s.out.1,by have:=B9C (λ_=>false) p.length;simp;omega,hid s.out.2⟩
 case round =>
  clear s ag;obtain⟨k,S,L,d,D,v,hk,rfl,t,HD,a,aj,g⟩:=hrel;by_cases hlt:k<zs.length
  .obtain⟨bf,of,rfl,am,G⟩:=aq.out (by omega)
   obtain⟨x,y⟩:=A1N hlt;obtain⟨i,hi,rfl,ah⟩:=HZ.out k x y;have g0:=G wr (λo=>a.out.bel.cell (p:=⟨bf,o,none⟩) am) k (i:Int) y;have w0:wr.cell? ⟨w.heap.size+1+1+1+1+1+1+1,0,none⟩=some (A3H w.heap.size):=a.out.wb.cell 0;unfold A3H at w0;have aH:(k:Int)<zs.length:=by omega
   have HI:=hid hi;clear y hi G;go_wp2_with fail;refine(HW.out (C9 S p.length) S L d v wr i (lr_ _) ah aj a.out).mono ?_;rintro e w1⟨rfl,S1,L1,d1,D1,v1,V,ac,r,E,ao⟩;have ap:=hid V;have au:Hid (d1=true↔D\/D1):=hid (by rw[ac,HD.out]);have R:=hid r;have av:=a.out.wb.lt;have Q:=hid (J0.fk (B:=w.heap.size) g.out E (by decide) (by omega) (by omega));clear V ac r E w0 g0;go_wp2_with fail;go_roundw
   case rel=>exact⟨k+1,S1,L++L1,d1,D\/D1,v1,by omega,by go_num,hid (by rw[X3 HI.out];exact t.out.step ap.out),au,R,ao,Q⟩
   case measure=>simp[intOf];omega
  .obtain rfl:k=zs.length:=by omega
   have T:Hid (Acc p f l h (λj=>S j=true) L D):=hid (by have:=t.out;rw[ar.out,List.take_length] at this;exact this);obtain⟨z,vn,c,rfl,_,_,X,_⟩:=Rd.of_own a.out.own;obtain rfl:vn=L.length:=by simp[D0] at X;omega
   have f0:wr.cell? ⟨w.heap.size+1+1+1+1,0,none⟩=some (.slice z L.length c):=a.out.fr.cell 0;have f1:wr.cell? ⟨w.heap.size+1+1+1+1,1,none⟩=some (.bool d):=a.out.fr.cell 1;have r0:wr.cell? ⟨w.heap.size+1+1+1,0,none⟩=some (.slice none 0 0):=g.out.cell 0;have r1:wr.cell? ⟨w.heap.size+1+1+1,1,none⟩=some (.bool false):=g.out.cell 1;have z0:wr.frozen? ⟨w.heap.size+1+1+1,0,none⟩=false:=g.out.frozen 0;have z1:wr.frozen? ⟨w.heap.size+1+1+1,1,none⟩=false:=g.out.frozen 1;clear t X;go_wp2;have hk:=(g.out.set_ 0 (.slice z L.length c)).set_ 1 (.bool d);refine bodyPost_ret (v:=.agg #[.slice z L.length c,.bool d]) ?_ rfl ⟨z,c,L,d,rfl,T.out.front HD.out,?_,?_⟩
   .have k0:(((wr.setCell ⟨w.heap.size+1+1+1,0,none⟩ (.slice z L.length c)).setCell ⟨w.heap.size+1+1+1,1,none⟩ (.bool d))).cell? ⟨w.heap.size+1+1+1,0,none⟩=some (.slice z L.length c):=hk.cell 0
    have k1:(((wr.setCell ⟨w.heap.size+1+1+1,0,none⟩ (.slice z L.length c)).setCell ⟨w.heap.size+1+1+1,1,none⟩ (.bool d))).cell? ⟨w.heap.size+1+1+1,1,none⟩=some (.bool d):=hk.cell 1;simp[results,results188,go_sem,k0,k1]
   .have hlt:=λq J=>a.out.own.lt q J
    have hg:wr.grownBy ((wr.setCell ⟨w.heap.size+1+1+1,0,none⟩ (.slice z L.length c)).setCell ⟨w.heap.size+1+1+1,1,none⟩ (.bool d)) (some (w.heap.size+3)):=⟨rfl,rfl,rfl,by simp,λq J aa=>by
     rw[Below.heap_setCell _ _ _ q (λe=>aa (by rw[e])),Below.heap_setCell _ _ _ q (λe=>aa (by rw[e]))]⟩
    refine J5 (a.out.own.kept hg ?_) (Nat.le_add_right _ _);cases hv:(Value.slice z L.length c).ownBlock with
    | none=>exact .inl rfl
    | some q=>exact .inr (λe=>by have:=(hlt q hv).1;simp at e;omega)
   .exact(a.out.bel.setCell (by show w.heap.size<=w.heap.size+3;omega) _).setCell (by show w.heap.size<=w.heap.size+3;omega) _
end Go.Proofs.YthhcpbfgoofppaaGreatDoor
namespace Go.Proofs.YthhcpbfgoofppaaGreatDoor
open Go.RowKit Wf
open Go.Sort
def A3r(b a:List Nat):Prop:=(∀j,j∈a↔j∈b)/\a.Pairwise (·<·)
def ints(a:List Nat):List Int:=a.map λ(i:Nat)=>(i:Int)
theorem N8(a:List Nat):(ints a).length=a.length:=by simp[ints]
theorem A7T(l:List Int)(h:∀x∈l,0<=x):∃a:List Nat,l=ints a:=by
 induction l with
 | nil=>exact⟨[],rfl⟩
 | cons x l ih =>
   obtain⟨a,c⟩:=ih λy b=>h y (by simp[b])
   have:=h x (by simp);exact⟨x.toNat::a,by rw[c];simp[ints];omega⟩
theorem A4W(a:List Nat):D0 a=(ints a).map (Value.int .i64):=by simp[D0,ints]
theorem k9(a:List Nat)(j:Nat)(h:j<a.length):(ints a).toArray[j]! = (a[j]:Int):=by
 rw[getElem!_pos _ j (by simpa[ints] using h)];simp[ints]
theorem B2W(i:List Nat):∃g:List Nat,((ints i).mergeSort λx y=>decide (x<=y))=ints g/\g.length=i.length/\(∀j,j∈g↔j∈i)/\g.Pairwise (·<=·):=by
 have k:=List.mergeSort_perm (ints i) (λx y=>decide (x<=y));have p:=List.pairwise_mergeSort (le:=λx y:Int=>decide (x<=y)) (by intro a b c s r;simp at s r ⊢;omega) (by intro a b;simp;omega) (ints i)
 obtain⟨g,o⟩:=A7T _ (λx q=>by
  have:=k.mem_iff.1 q;simp[ints] at this;obtain⟨a,_,rfl⟩:=this;omega:∀x∈(ints i).mergeSort λx y=>decide (x<=y),0<=x)
 rw[o] at k p;refine⟨g,o,?_,λj=>?_,?_⟩
 .have:=k.length_eq;simpa[ints] using this
 .have:=k.mem_iff (a:=(j:Int))
  simp only[ints,List.mem_map] at this;constructor
  .intro h
   obtain⟨a,m,e⟩:=this.1 ⟨j,h,rfl⟩;have:a=j:=by omega
   subst this;exact m
  .intro h
   obtain⟨a,m,e⟩:=this.2 ⟨j,h,rfl⟩;have:a=j:=by omega
   subst this;exact m
 .have:(ints g).Pairwise (λx y=>x<=y):=p.imp λh=>by simpa using h
  rw[ints,List.pairwise_map] at this;exact this.imp λh=>by omega
theorem A7g(c:List Nat)(D:c.Pairwise (·<=·)):∃o:List Nat,Lib.compact (ints c)=ints o/\o.length<=c.length/\A3r c o:=by
 have y:∀j,j<c.length->∃h:j<c.length,(ints c).toArray[j]! = (c[j]:Int):=λj h=>⟨h,k9 c j h⟩
 have k:(ints c).length=c.length:=N8 c;have g:=List.pairwise_iff_getElem.1 D;refine⟨((List.range c.length).filter (Lib.keeps (ints c).toArray)).map λj=>c.getD j 0,?_,?_,?_,?_⟩
 .unfold Lib.compact Lib.compactUpTo
  rw[k];show _=List.map (λi:Nat=>(i:Int)) _;rw[List.map_map];refine List.map_congr_left λj s=>?_
  have hj':j<c.length:=List.mem_range.1 ((List.mem_filter.1 s).1);show(ints c).toArray[j]! = _;rw[k9 c j hj'];simp[hj']
 .have:=List.length_filter_le (Lib.keeps (ints c).toArray) (List.range c.length)
  simpa using this
 .intro x
  constructor
  .intro q
   obtain⟨j,s,rfl⟩:=List.mem_map.1 q;have hj':j<c.length:=List.mem_range.1 ((List.mem_filter.1 s).1);simp[hj']
  .intro q
   obtain⟨C,r,p⟩:=List.mem_iff_getElem.1 q
   have key:∀j,(h:j<c.length)->c[j]=x->x∈((List.range c.length).filter (Lib.keeps (ints c).toArray)).map λj=>c.getD j 0:=by
    intro j
    induction j with
    | zero =>
      intro h e;refine List.mem_map.2 ⟨0,List.mem_filter.2 ⟨by simpa using h,Lib.keeps_lt_one _ 0 (by omega)⟩,?_⟩;simp[h];exact e
    | succ j ih =>
      intro h e;by_cases hk:Lib.keeps (ints c).toArray (j+1)=true
      .refine List.mem_map.2 ⟨j+1,List.mem_filter.2 ⟨by simpa using h,hk⟩,?_⟩
       simp[h];exact e
      .refine ih (by omega) ?_
       have B:¬((ints c).toArray[j+1]!≠(ints c).toArray[j+1 - 1]!):=λh=>hk (Lib.keeps_pos h)
       have t:(ints c).toArray[j+1]! = (ints c).toArray[j]!:=Classical.byContradiction λh=>B h
       rw[k9 c (j+1) h,k9 c j (by omega)] at t;have A:c[j+1]=c[j]:=by exact_mod_cast t
       rw[←A];exact e
   exact key C r p
 .rw[List.pairwise_map]
  have E:(List.range c.length).Pairwise (·<·):=List.pairwise_lt_range;refine(E.filter _).imp_of_mem λ{a b} F z hab=>?_
  have hb':b<c.length:=List.mem_range.1 ((List.mem_filter.1 z).1);have m:=(List.mem_filter.1 z).2;have ha':a<c.length:=by omega
  simp only[Lib.keeps,decide_eq_true_eq] at m;rcases m with h0|hne
  .omega
  .rw[k9 c b hb',k9 c (b - 1) (by omega)] at hne
   have B:c[b]≠c[b - 1]:=λh=>hne (by rw[h])
   have t:c[a]<=c[b - 1]:=by
    rcases Nat.lt_or_ge a (b - 1) with h|h
    .exact g a (b - 1) ha' (by omega) h
    .have e:a=b - 1:=by omega
     subst e;exact lr_ _
   have A:c[b - 1]<=c[b]:=g (b - 1) b (by omega) hb' (by omega);simp[ha',hb'];omega
theorem A6Y{w:W_}{base g cap n:Nat}{a:Array V_}{b:List Nat}(h:w.heap[g]?=some (.cells a 3 (0,0)))(i:a.toList.take n=D0 b)(m:n=b.length):Holds (Value.int .i64) w g 0 (ints b).toArray:=λj k=>by
 have hj':j<b.length:=by simpa[ints] using k
 rw[Nat.zero_add];refine⟨?_,frozen_of_row w g j a 3 h⟩;rw[cell_of_row w g j a 3 (0,0) h,k9 b j hj'];have c:(a.toList.take n)[j]?=(D0 b)[j]?:=by rw[i]
 rw[List.getElem?_take,if_pos (by omega)] at c;simp only[Array.getElem?_toList] at c;rw[c];simp[D0,hj']
theorem A8Z{w:W_}{g:Nat}{a:Array V_}{b:List Int}(c:w.heap[g]?=some (.cells a 3 (0,0))):(putRow (Value.int .i64) w g 0 b.toArray).heap[g]?=some (.cells (putCells (Value.int .i64) 0 b.toArray a) 3 (0,0)):=by
 simp[putRow,mapBlock,Array.getElem?_modify,c,onCells]
theorem A6W{w:W_}{g k:Nat}{a:List Int}(h:k≠g):(putRow (Value.int .i64) w g 0 a.toArray).heap[k]?=w.heap[k]?:=by
 simp[putRow,mapBlock,Array.getElem?_modify,Ne.symm h]
theorem A8Y{a:Array V_}{b:List Int}{m:Nat}(h:m<=b.length)(i:b.length<=a.size):(putCells (Value.int .i64) 0 b.toArray a).toList.take m=(b.take m).map (Value.int .i64):=by
 apply List.ext_getElem?;intro j;rw[List.getElem?_take,List.getElem?_map,List.getElem?_take];by_cases hj:j<m
 .rw[if_pos hj,if_pos hj]
  simp only[Array.getElem?_toList,putCells,Array.getElem?_mapIdx];have g:j<a.size:=by omega
  have c:j<b.length:=by omega
  rw[Array.getElem?_eq_getElem g,List.getElem?_eq_getElem c];simp only[Option.map_some];rw[if_pos ⟨by omega,by simpa using c⟩,Nat.sub_zero,getElem!_pos _ j (by simpa using c)];simp
 .rw[if_neg hj,if_neg hj];rfl
def B6E(base:Nat)(b:List Nat)(v:V_)(w:W_)(e:Ending)(w':W_):Prop :=
 e=.returned (.tuple #[])/\∃a:List Nat,a.length=b.length/\(∀j,j∈a↔j∈b)/\a.Pairwise (·<=·)/\w'.ownsRow base 3 1 v b.length (D0 a)/\w.grownBy w' v.ownBlock
theorem B6D(base:Nat)(a:List Nat)(v:V_)(w:W_)(h:w.ownsRow base 3 1 v a.length (D0 a))(A:a.length<=1000):
 Calls prog 157 #[v] w (B6E base a v w):=by
 obtain⟨B,z⟩:=h;rcases z with ⟨rfl,h0⟩|⟨g,cap,cur,rfl,h3,p,h5,h6,h7,h8⟩
 .have s:a=[]:=List.eq_nil_of_length_eq_zero h0
  subst s;refine(Any.slices_Sort_int_none B1f none 0 w).mono ?_;rintro e w'⟨rfl,rfl⟩;exact⟨rfl,[],rfl,by simp,by simp,⟨rfl,.inl ⟨rfl,rfl⟩⟩,World.grownBy.refl _ _⟩
 .have hlt:g<w.heap.size:=(Array.getElem?_eq_some_iff.1 p).1
  rw[Nat.mul_one] at h7 h8;have y:=A6Y (base:=0) (cap:=cap) p h8 rfl;have q:=Any.slices_Sort_int B1f g 0 cap (ints a) w y hlt (by rw[N8];omega);rw[N8] at q;refine q.mono ?_;rintro e w'⟨rfl,n,os,rfl⟩;obtain⟨c,r,b,j,i⟩:=B2W a;rw[r];have h4':(Go.Sort.ahead w n).heap[g]?=some (.cells cur 3 (0,0)):=p;have o:g<(putRow (Value.int .i64) (Go.Sort.ahead w n) g 0 (ints c).toArray).heap.size:=by simp[putRow,mapBlock,Go.Sort.ahead];exact hlt
  refine⟨rfl,c,b,j,i,⟨by simp[D0,b],.inr ⟨g,cap,_,rfl,h3,by rw[heap_grow_old _ _ o];exact A8Z h4',h5,h6,by simp[putCells];omega,?_⟩⟩,?_⟩
  .rw[Nat.mul_one,A8Y (by rw[N8];omega) (by rw[N8];omega),A4W,←b,←N8 c,List.take_length]
  .refine⟨rfl,rfl,rfl,by simp[grow,putRow,mapBlock,Go.Sort.ahead],λk t m=>?_⟩
   have hk':k<(putRow (Value.int .i64) (Go.Sort.ahead w n) g 0 (ints c).toArray).heap.size:=by simp[putRow,mapBlock,Go.Sort.ahead];exact t
   rw[heap_grow_old _ _ hk',A6W (λe=>m (by rw[e];rfl))]
   rfl
def B9e(base:Nat)(b:List Nat)(v:V_)(w:W_)(e:Ending)(w':W_):Prop :=
 ∃(A:Option Addr)(cap:Nat) (a:List Nat),e=.returned (.slice A a.length cap)/\a.length<=b.length/\A3r b a/\w'.ownsRow base 3 1 (.slice A a.length cap) a.length (D0 a)/\(Value.slice A a.length cap).ownBlock=v.ownBlock/\w.grownBy w' v.ownBlock
theorem B33(base:Nat)(a:List Nat)(v:V_)(w:W_)(h:w.ownsRow base 3 1 v a.length (D0 a))(s:a.Pairwise (·<=·))(z:a.length<=1000):
 Calls prog 186 #[v] w (B9e base a v w):=by
 obtain⟨B,y⟩:=h;rcases y with ⟨rfl,h0⟩|⟨g,cap,cur,rfl,h3,o,h5,h6,h7,h8⟩
 .have r:a=[]:=List.eq_nil_of_length_eq_zero h0
  subst r;refine(Any.slices_Compact_int_empty A5O none 0 w).mono ?_;rintro e w'⟨rfl,rfl⟩;exact⟨none,0,[],rfl,by simp,⟨by simp,by simp⟩,⟨rfl,.inl ⟨rfl,rfl⟩⟩,rfl,World.grownBy.refl _ _⟩
 .have hlt:g<w.heap.size:=(Array.getElem?_eq_some_iff.1 o).1
  rw[Nat.mul_one] at h7 h8;have t:=A6Y (base:=0) (cap:=cap) o h8 rfl;have p:=Any.slices_Compact_int A5O g 0 cap (ints a) w t (by rw[N8];omega) (by rw[N8];exact h5);rw[N8] at p;refine p.mono ?_;obtain⟨c,q,j,i⟩:=A7g a s;rw[q];rintro e w'⟨rfl,n,rfl⟩;have h4':(Go.Sort.ahead w n).heap[g]?=some (.cells cur 3 (0,0)):=o;generalize hrest:List.replicate (a.length - (ints c).length) (0:Int)=rest;have b:(ints c++rest).length=a.length:=by rw[←hrest];simp[ints];omega
  refine⟨some ⟨g,0,none⟩,cap,c,by rw[N8],j,i,⟨by simp[D0],.inr ⟨g,cap,_,rfl,h3,A8Z h4',by omega,h6,by simp[putCells];omega,?_⟩⟩,rfl,?_⟩
  .rw[Nat.mul_one,A8Y (by rw[b];omega) (by rw[b];omega),A4W,←N8 c,List.take_left]
  .refine⟨rfl,rfl,rfl,by simp[putRow,mapBlock,Go.Sort.ahead],λk A m=>?_⟩
   rw[A6W (λe=>m (by rw[e];rfl))]
   rfl
end Go.Proofs.YthhcpbfgoofppaaGreatDoor
namespace Go.Proofs.YthhcpbfgoofppaaGreatDoor
open Go.RowKit Wf
theorem o4{w w':W_}{base a n:Nat}{e:TypeId}{v:V_}{c:List V_}(h:w.ownsRow base e a v n c)(b:Below w.heap.size w w'):w'.ownsRow base e a v n c :=
 h.kept (row:=none) ⟨b.os,b.tape,b.output,b.size,λq g _=>b.block q g⟩ (by cases v.ownBlock <;> simp)
theorem J4{B base n b:Nat}{a w w':W_}{e:TypeId}{v:V_}{g:List V_}(h:Below B a w)(o:B<=base)(m:B<=w.heap.size)(j:w.ownsRow base e b v n g)(c:w.grownBy w' v.ownBlock):Below B a w' :=
 ⟨c.os.trans h.os,c.tape.trans h.tape,c.output.trans h.output,Nat.le_trans h.size c.size,λi k =>
   (c.block i (by omega) (λe=>by have:=(j.lt i e.symm).1;omega)).trans (h.block i k)⟩
def B8E(p:List St)(b:Nat)(L:List Nat)(w:W_)(e:Ending)(w':W_):Prop :=
 ∃(A:Option Addr)(cap:Nat),e=.returned (.slice A (Zz0 p b L).length cap)/\w'.ownsRow (w.heap.size+1) 3 1 (.slice A (Zz0 p b L).length cap) (Zz0 p b L).length (D0 (Zz0 p b L))/\Below w.heap.size w w'
theorem A59(L:List Nat)(i:Nat):D0 (L++[i])=D0 L++[.int .i64 i]:=by simp[D0]
theorem B1N(p:List St)(T:∀s∈p,P5 s.cls)(hx:∀s∈p,0<=s.x)(pv:V_)(A:Option Addr)(cap:Nat)(L:List Nat)(d:Bool)(hL:∀i∈L,i<p.length)(aX:L.length<=200)(b:Nat)(hb:b<256)(w:W_)(hr:RdS w pv p)
 (hf:Rd1 w (.slice A L.length cap) (D0 L)):
 Calls prog 189 #[.agg #[.slice A L.length cap,.bool d],pv,.int .u8 b] w (B8E p b L w):=by
 obtain⟨i0,am,ak,aj,ai⟩:=info_parts A0B;obtain⟨P,az,rfl,aT,aE,Q⟩:=hr.open_;obtain⟨A',aI,hv,ao,aG,F⟩:=Rd1.open_ hf;have V:(D0 L).length=L.length:=by simp[D0]
 rw[V] at hv ao F;injection hv with e1 _ e2
 subst e1;subst e2;have ar:=hid Q;have aw:=hid F;have av:=hid T;have HX:=hid hx;have HL:=hid hL;clear Q F hr hf T hL hx V;go_enter func189,ntmps189;go_wp2
 go_loopw [7,13] (λv7 v13 wr=>∃k:Nat,k<=L.length/\v13=.int .i64 k/\Hid (wr.ownsRow (w.heap.size+1) 3 1 v7 (Zz0 p b (L.take k)).length (D0 (Zz0 p b (L.take k))))/\Hid (Below w.heap.size w wr)/\Hid (w.heap.size+1<=wr.heap.size)) (λ_ i _=>L.length - (intOf i).toNat)
 case atStart=>exact⟨0,by omega,rfl,hid (World.ownsRow_nil _ _ _ _),hid ba_,hid (by simp)⟩
 case round =>
  obtain⟨k,hk,rfl,HO,r,J⟩:=hrel;by_cases hlt:k<L.length
  .obtain⟨bf,of,rfl,ap,B⟩:=aw.out (by omega)
   have X:L[k]?=some (L[k]'hlt):=List.getElem?_eq_getElem hlt;generalize L[k]'hlt=i at X;have G:=HL.out i (List.mem_of_getElem? X);have g0:=B wr (λo=>r.out.cell (p:=⟨bf,o,none⟩) ap) k (.int .i64 i) (by simp[D0,X]);obtain⟨pb,po,rfl,R,a⟩:=ar.out (by omega);have D:p[i]?=some (p[i]'G):=List.getElem?_eq_getElem G;generalize p[i]'G=s at D;obtain⟨_,q1,q2,q3,q4,q5,_⟩:=a wr (λo=>r.out.cell (p:=⟨pb,o,none⟩) R) i s D;have O:Hid (∀w',Below wr.heap.size wr w'->w'.cell? ⟨pb,po+i*7+5,none⟩=some (.int .i64 s.x)):=hid λw' h=>(a w' (λo=>(r.out.trans (h.mono r.out.size)).cell (p:=⟨pb,o,none⟩) R) i s D).2.2.2.2.2.1
   have al:=HX.out s (List.mem_of_getElem? D);have C:=av.out s (List.mem_of_getElem? D);have aa:Hid (Zz0 p b (L.take (k+1))=Zz0 p b (L.take k)++(if has s.cls b then [s.x.toNat] else [])):=hid (by rw[X3 X,B5K p b _ i s D]);have ax:=hid (Nat.le_trans (A3d p b (L.take k)) (by simp;omega:(L.take k).length<=200));obtain⟨op,⟨c0,c1,c2,c3⟩,x,y⟩:=s;dsimp only at q1 q2 q3 q4 q5 O al C;obtain⟨xn,rfl⟩:∃n:Nat,x=(n:Int):=⟨x.toNat,by omega⟩
   have HH:=hid λW=>A7x c0 c1 c2 c3 b W C hb
   have aU:(k:Int)<L.length:=by omega
   have aV:(i:Int)<p.length:=by omega
   clear D X B a C;cases hh:has (c0,c1,c2,c3) b with
   | true =>
     have q:=hid hh;clear hh;have t:=A3d p b (L.take k);have aF:(Zz0 p b (L.take k)).length<=200:=ax.out;generalize hgo:Zz0 p b (L.take k)=go at *;clear hgo t
     go_wp2_with (first
      | (go_at_call 140;refine(HH.out _).mono ?_;rw[show A3y (c0,c1,c2,c3) b wr=λe w'=>e=.returned (.bool true)/\Below wr.heap.size wr w' from by unfold A3y;rw[q.out]];rintro e w2⟨rfl,g⟩;have q5':=O.out w2 g;have c:=hid g;have m:=hid (o4 HO.out g);clear g)
      | (at_builtin;refine wpList_append_own _ rfl (.tmp 24) (.tmp 30) _ rfl (w.heap.size+1) 3 i0 _ 1 8 underlying191 am ak aj ai rfl (by omega) _ go.length (D0 go) rfl (m.out.alloc _) ⟨w2.heap.size,0,none⟩ 1 1 [.int .i64 xn] rfl rfl (L9 _ _ _ _ rfl) (by intro u hu;simp at hu;subst hu;rfl) (by unfold maxLen;omega) (by omega) (by have:=J.out;have:=c.out.size;simp;omega) ?_))
     intro v' w' j H _;have Y:Below w.heap.size w (w2.alloc (.cells #[.int .i64 xn] 3)):=(r.out.trans (c.out.mono r.out.size)).alloc (Nat.le_trans r.out.size c.out.size) _;have ay:=hid (J4 Y (Nat.le_succ _) (by have:=r.out.size;have:=c.out.size;simp;omega) (m.out.alloc _) H);have z:Zz0 p b (L.take (k+1))=go++[xn]:=by rw[aa.out];simp[q.out]
     have au:Hid (w'.ownsRow (w.heap.size+1) 3 1 v' (Zz0 p b (L.take (k+1))).length (D0 (Zz0 p b (L.take (k+1))))):=hid (by rw[z,A59];simpa using j);have Z:Hid (w.heap.size+1<=w'.heap.size):=hid (by have:=J.out;have:=c.out.size;have:=H.size;simp at this;omega);clear j H Y z;go_wp2;go_roundw
     case rel=>exact⟨k+1,by omega,by go_num,au,ay,Z⟩
     case measure=>simp[intOf];omega
   | false =>
     have q:=hid hh;clear hh
     go_wp2_with (go_at_call 140;refine(HH.out _).mono ?_;rw[show A3y (c0,c1,c2,c3) b wr=λe w'=>e=.returned (.bool false)/\Below wr.heap.size wr w' from by unfold A3y;rw[q.out]];rintro e w2⟨rfl,g⟩;have c:=hid g;clear g)
     have HE:Hid (Zz0 p b (L.take (k+1))=Zz0 p b (L.take k)):=hid (by rw[aa.out];simp[q.out]);go_roundw
     case rel =>
      refine⟨k+1,by omega,by go_num,?_,hid (r.out.trans (c.out.mono r.out.size)),hid (Nat.le_trans J.out c.out.size)⟩;rw[HE.out];exact hid (o4 HO.out c.out)
     case measure=>simp[intOf];omega
  .obtain rfl:k=L.length:=by omega
   have m:Hid (wr.ownsRow (w.heap.size+1) 3 1 u7 (Zz0 p b L).length (D0 (Zz0 p b L))):=hid (by have:=HO.out;rw[List.take_length] at this;exact this);have E:=m.out;obtain⟨VA,vn,M,rfl,_,_,N,_⟩:=Rd.of_own E;obtain rfl:vn=(Zz0 p b L).length:=by simp[D0] at N;omega
   have aq:=hid E;clear E N HO m;generalize t:Zz0 p b L=gl at *;go_wp2;go_ret;refine⟨VA,M,?_,?_,r.out⟩
   .rw[t];rfl
   .rw[t];exact aq.out
end Go.Proofs.YthhcpbfgoofppaaGreatDoor
namespace Go.Proofs.YthhcpbfgoofppaaGreatDoor
open Go.RowKit Go.Shelf Wf
attribute [local go_sem] Oper.semAt_some
theorem A5c{p:List St}(g:okP p){f l:Bool}{i L:List Nat}{d:Bool}(h:A04 p f l i L d):L.length<=200/\∀j∈L,j<p.length:=by
 have b:∀j∈L,j<p.length:=λj a=>by
  obtain⟨_,s,c,_⟩:=(h.takes j).1 a;exact(List.getElem?_eq_some_iff.1 c).1
 refine⟨?_,b⟩;have:=List.Nodup.length_le_of_subset h.nodup (l₂:=List.range p.length) (λj a=>by simpa using b j a);have k:=g.2.1;simp at this;omega
theorem B4i{p:List St}(b:okP p)(s:St)(h:s∈p):0<=s.x:=by
 have a:=A2g (b.2.2 s h);by_cases h5:s.op=5
 .rw[a.2.2.2.2.2 h5];exact Int.le_refl _
 .exact(a.2.1 h5).1
theorem B7P(i n:Nat):((i:Int)==(n:Int))=(i==n):=by
 by_cases h:i=n
 .subst h;simp
 .have b:(i==n)=false:=by simpa using h
  have a:((i:Int)==(n:Int))=false:=by simp;omega
  rw[b,a]
