import Derived.Test.YthhcpbfgoofppaaGreatDoorGPrt
import Derived.Test.YthhcpbfgoofppaaGreatDoorRefU
set_option linter.unusedVariables false
set_option linter.unusedSimpArgs false
open Wf
set_option maxRecDepth 100000
set_option maxHeartbeats 8000000
open Go.Lib (hid)
open Go.Proofs.Tryz hiding parts
namespace Go.Proofs.YthhcpbfgoofppaaGreatDoor
open Go.RowKit Wf
theorem A5m{l:List Nd}{i:Nat}{u:Rx}(h:At l i u):∃c,l[i]?=some ⟨opT u,c⟩:=by
 cases u with
 | byte c=>exact⟨_,h.byte⟩
 | empty=>exact⟨_,h.empty⟩
 | bgn=>exact⟨_,h.bgn⟩
 | fin=>exact⟨_,h.fin⟩
 | cat a b=>exact⟨_,h.cat.1⟩
 | alt a b=>exact⟨_,h.alt.1⟩
 | star a=>exact⟨_,h.star.1⟩
 | plus a=>exact⟨_,h.plus.1⟩
 | opt a=>exact⟨_,h.opt.1⟩
theorem B8o(u:Rx):1<=opT u/\opT u<=9:=by cases u <;> simp[opT]
theorem A44{s:B_}{x:List U_}(h:s.data.toList=x):((⟨#[40]⟩:B_)++s++⟨#[41]⟩).data.toList=C1 true x:=by
 rw[L0,L0,h];simp[C1]
theorem J9{s:B_}{x:List U_}{n:Nat}(h:s.data.toList=x)(a:x.length<=n):s.size<=n:=by
 have:s.data.toList.length=s.size:=by simp
 rw[h] at this;omega
theorem B6y(o q:Nat)(g:Bool)(X:List U_)(y:X.length<=200000)(C:1<=o/\o<=9)(A:3<=q/\q<=7)(i n b j cap:Nat)(H:i<n)(w:W_)
 (hT:Calls prog 32 #[.slice (some ⟨b,j,none⟩) n cap,.int .i64 i] w (L5 X w)) (hb:b<w.heap.size) (hc:w.cell? ⟨b,j+i*5,none⟩=some (.int .i64 o)):
 Calls prog 59 #[.slice (some ⟨b,j,none⟩) n cap,.int .i64 q,.int .i64 i,.bool g] w (L5 (C1 (A9N q o g) X) w):=by
 have t:=hid hT;have z:Hid (∀f,Below w.heap.size w f->f.cell? ⟨b,j+i*5,none⟩=some (.int .i64 o)):=hid λf h=>(h.cell (p:=⟨b,j+i*5,none⟩) hb).trans hc
 have G:(0:Int)<=i:=by omega
 have F:(i:Int)<n:=by omega
 unfold L5 at t;clear hT hc;obtain⟨B,D⟩:∃B,B=A9N q o g:=⟨_,rfl⟩
 rw[←D];have r:=hid D;clear D;unfold L5;by_cases h2:o=2
 .subst h2
  have hq':q=3\/q=4\/q=5\/q=6\/q=7:=by omega
  clear C A;rcases hq' with rfl|rfl|rfl|rfl|rfl <;>
  (go_enter func59,ntmps59
   go_wp2_with fail;refine t.out.mono ?_;rintro e f⟨s,rfl,d,a⟩;have m:=z.out f a;have c:=hid a;have k:=hid d;have l:=J9 d y;clear a d;go_wp2_with fail;go_ret
   first
    | exact⟨_,rfl,by rw[r.out,A44 k.out];rfl,c.out⟩
    | exact⟨_,rfl,by rw[r.out,k.out];rfl,c.out⟩)
 .by_cases h4:o=4
  .subst h4
   have hq':q=3\/q=4\/q=5\/q=6\/q=7:=by omega
   clear C A h2;cases g <;> rcases hq' with rfl | rfl | rfl | rfl | rfl <;>
   (go_enter func59,ntmps59
    go_wp2_with fail;refine t.out.mono ?_;rintro e f⟨s,rfl,d,a⟩;have m:=z.out f a;have c:=hid a;have k:=hid d;have l:=J9 d y;clear a d;go_wp2_with fail;go_ret
    first
     | exact⟨_,rfl,by rw[r.out,A44 k.out];rfl,c.out⟩
     | exact⟨_,rfl,by rw[r.out,k.out];rfl,c.out⟩)
  .by_cases h3:o=3
   .subst h3
    have hq':q=3\/q=4\/q=5\/q=6\/q=7:=by omega
    clear C A h2 h4;cases g <;> rcases hq' with rfl | rfl | rfl | rfl | rfl <;>
    (go_enter func59,ntmps59
     go_wp2_with fail;refine t.out.mono ?_;rintro e f⟨s,rfl,d,a⟩;have m:=z.out f a;have c:=hid a;have k:=hid d;have l:=J9 d y;clear a d;go_wp2_with fail;go_ret
     first
      | exact⟨_,rfl,by rw[r.out,A44 k.out];rfl,c.out⟩
      | exact⟨_,rfl,by rw[r.out,k.out];rfl,c.out⟩)
   .have M:((o:Int)==2)=false:=by simp;omega
    have L:((o:Int)==3)=false:=by simp;omega
    have J:((o:Int)==4)=false:=by simp;omega
    have E:Hid (B=false):=hid (by rw[r.out];unfold A9N;rw[if_neg h2,if_neg h4,if_neg h3]);clear h2 h3 h4;go_enter func59,ntmps59;go_wp2_with fail;refine t.out.mono ?_;rintro e f⟨s,rfl,d,a⟩;have m:=z.out f a;have c:=hid a;have k:=hid d;have l:=J9 d y;clear a d;go_wp2_with fail;go_ret;exact⟨_,rfl,by rw[E.out,k.out];rfl,c.out⟩
theorem A0W(B:Bool){x:List U_}{n:Nat}(h:x.length<=n):(C1 B x).length<=n+2:=by have:=T6 B x;omega
theorem B3t(l:List Nd)(hg:∀n∈l,m6 n)(ah:∀n∈l,P5 n.cls)(aj:l.length<=60)(b f cap:Nat):∀(u:Rx)(i:Nat) (w:W_),At l i u->q7 w (.slice (some ⟨b,f,none⟩) l.length cap) l ->
 Calls prog 32 #[.slice (some ⟨b,f,none⟩) l.length cap,.int .i64 i] w (L5 (F0 u) w):=by
 have T:Hid (∀(w:W_),q7 w (.slice (some ⟨b,f,none⟩) l.length cap) l->∀k n,l[k]?=some n ->
  w.cell? ⟨b,f+k*5,none⟩=some (.int .i64 n.op)/\w.cell? ⟨b,f+k*5+1,none⟩=some (.int .u64 (n.cls.1:Int))/\w.cell? ⟨b,f+k*5+2,none⟩=some (.int .u64 (n.cls.2.1:Int)) /\
  w.cell? ⟨b,f+k*5+3,none⟩=some (.int .u64 (n.cls.2.2.1:Int))/\w.cell? ⟨b,f+k*5+4,none⟩=some (.int .u64 (n.cls.2.2.2:Int))):=hid (λw g k n hk=>by
  obtain⟨A',aC,hv,aB,aw,ai⟩:=g.open_;injection hv with e1 _ e2
  obtain⟨b',ay,hA,_,hc⟩:=ai (by have:=(List.getElem?_eq_some_iff.1 hk).1;omega);rw[hA] at e1;cases e1;exact hc w (λ_=>rfl) k n hk)
 have M:Hid (∀(u:Rx)(q:Nat) (V:Bool) (i:Nat) (W:W_),q7 W (.slice (some ⟨b,f,none⟩) l.length cap) l->At l i u->(3<=q/\q<=7)->(∀H,q7 H (.slice (some ⟨b,f,none⟩) l.length cap) l->Calls prog 32 #[.slice (some ⟨b,f,none⟩) l.length cap,.int .i64 i] H (L5 (F0 u) H)) ->
  Calls prog 59 #[.slice (some ⟨b,f,none⟩) l.length cap,.int .i64 q,.int .i64 i,.bool V] W (L5 (C1 (T7 q V u) (F0 u)) W)):=hid λu q V i W J hat hq ht=>by
  obtain⟨c,hc⟩:=A5m hat;have hlt:=hat.lt;have j:=G0 u;have hl:=P4 u;obtain⟨t,_⟩:=T.out W J i _ hc;rw[B5r];exact B6y (opT u) q V (F0 u) (by omega) (B8o u) hq i l.length b f cap (by omega) W (ht W J) (World.block_lt_of_cell? W _ t) t
 have aa:=hid (λ(i:Nat)(hi:i<=l.length) (w:W_) (g:q7 w (.slice (some ⟨b,f,none⟩) l.length cap) l)=>C8 l hg aj (some ⟨b,f,none⟩) cap l.length i w (by omega) hi g);have ak:=hid ah;clear hg ah;unfold L5;intro u
 induction u with
 | byte c =>
   obtain⟨c0,c1,c2,c3⟩:=c;intro i w hat g;obtain⟨t,E,D,C,B⟩:=T.out w g i _ hat.byte;have hlt:=hat.lt;have G:(0:Int)<=i:=by omega
   have j:=G0 (.byte (c0,c1,c2,c3));have F:(i:Int)<l.length:=by omega
   dsimp only at t E D C B;have am:=hid λW=>A5s c0 c1 c2 c3 W (ak.out _ (List.mem_of_getElem? hat.byte))
   unfold L5 at am;rw[show F0 (.byte (c0,c1,c2,c3))=F6 (c0,c1,c2,c3) from rfl];clear hat g;go_enter func32,ntmps32;go_wp2_with fail;refine(am.out _).mono ?_;rintro e w1⟨s,rfl,r,y⟩;have Q:=hid r;have N:=hid y;clear r y;go_wp2_with fail;go_ret;exact⟨_,rfl,Q.out,N.out⟩
 | empty =>
   intro i w hat g;obtain⟨t,E,D,C,B⟩:=T.out w g i _ hat.empty;have hlt:=hat.lt;have G:(0:Int)<=i:=by omega
   have j:=G0 .empty;have F:(i:Int)<l.length:=by omega
   dsimp only[zc] at t E D C B;clear hat g;go_enter func32,ntmps32;go_wp2_with fail;go_ret;exact⟨_,rfl,rfl,br_⟩
 | bgn =>
   intro i w hat g;obtain⟨t,E,D,C,B⟩:=T.out w g i _ hat.bgn;have hlt:=hat.lt;have G:(0:Int)<=i:=by omega
   have j:=G0 .bgn;have F:(i:Int)<l.length:=by omega
   dsimp only[zc] at t E D C B;clear hat g;go_enter func32,ntmps32;go_wp2_with fail;go_ret;exact⟨_,rfl,rfl,br_⟩
 | fin =>
   intro i w hat g;obtain⟨t,E,D,C,B⟩:=T.out w g i _ hat.fin;have hlt:=hat.lt;have G:(0:Int)<=i:=by omega
   have j:=G0 .fin;have F:(i:Int)<l.length:=by omega
   dsimp only[zc] at t E D C B;clear hat g;go_enter func32,ntmps32;go_wp2_with fail;go_ret;exact⟨_,rfl,rfl,br_⟩
 | star a iha =>
   intro i w hat g;obtain⟨t,E,D,C,B⟩:=T.out w g i _ hat.star.1;have hlt:=hat.lt;have G:(0:Int)<=i:=by omega
   have j:=G0 (.star a);have F:(i:Int)<l.length:=by omega
   dsimp only[zc] at t E D C B;have d:=hat.star.2;have A:Hid (∀W,q7 W (.slice (some ⟨b,f,none⟩) l.length cap) l->Calls prog 59 #[.slice (some ⟨b,f,none⟩) l.length cap,.int .i64 5,.int .i64 (((i+1:Nat):Int)),.bool false] W (L5 (C1 (T7 5 false a) (F0 a)) W)):=hid λW J=>M.out a 5 false _ W J d (by omega) (λH p=>iha _ H d p)
   have m:=A0W (T7 5 false a) (x:=F0 a) (n:=190000) (by have:=P4 a;have:=d.lt;omega);have z:=hid m;rw[show F0 (.star a)=C1 (T7 5 false a) (F0 a)++[42] from rfl];generalize C1 (T7 5 false a) (F0 a)=X at *;unfold L5 at A;have S:=hid g
   push_cast at A
   clear hat g d iha m;go_enter func32,ntmps32;go_wp2_with fail;refine(A.out _ S.out).mono ?_;rintro e w1⟨s,rfl,r,y⟩;have Q:=hid r;have N:=hid y;have Z:=J9 r z.out;clear r y;go_wp2_with fail;go_ret;exact⟨_,rfl,by rw[L0,Q.out],N.out⟩
 | plus a iha =>
   intro i w hat g;obtain⟨t,E,D,C,B⟩:=T.out w g i _ hat.plus.1;have hlt:=hat.lt;have G:(0:Int)<=i:=by omega
   have j:=G0 (.plus a);have F:(i:Int)<l.length:=by omega
   dsimp only[zc] at t E D C B;have d:=hat.plus.2;have A:Hid (∀W,q7 W (.slice (some ⟨b,f,none⟩) l.length cap) l->Calls prog 59 #[.slice (some ⟨b,f,none⟩) l.length cap,.int .i64 6,.int .i64 (((i+1:Nat):Int)),.bool false] W (L5 (C1 (T7 6 false a) (F0 a)) W)):=hid λW J=>M.out a 6 false _ W J d (by omega) (λH p=>iha _ H d p)
   have m:=A0W (T7 6 false a) (x:=F0 a) (n:=190000) (by have:=P4 a;have:=d.lt;omega);have z:=hid m;rw[show F0 (.plus a)=C1 (T7 6 false a) (F0 a)++[43] from rfl];generalize C1 (T7 6 false a) (F0 a)=X at *;unfold L5 at A;have S:=hid g
   push_cast at A
   clear hat g d iha m;go_enter func32,ntmps32;go_wp2_with fail;refine(A.out _ S.out).mono ?_;rintro e w1⟨s,rfl,r,y⟩;have Q:=hid r;have N:=hid y;have Z:=J9 r z.out;clear r y;go_wp2_with fail;go_ret;exact⟨_,rfl,by rw[L0,Q.out],N.out⟩
 | opt a iha =>
   intro i w hat g;obtain⟨t,E,D,C,B⟩:=T.out w g i _ hat.opt.1;have hlt:=hat.lt;have G:(0:Int)<=i:=by omega
   have j:=G0 (.opt a);have F:(i:Int)<l.length:=by omega
   dsimp only[zc] at t E D C B;have d:=hat.opt.2;have A:Hid (∀W,q7 W (.slice (some ⟨b,f,none⟩) l.length cap) l->Calls prog 59 #[.slice (some ⟨b,f,none⟩) l.length cap,.int .i64 7,.int .i64 (((i+1:Nat):Int)),.bool false] W (L5 (C1 (T7 7 false a) (F0 a)) W)):=hid λW J=>M.out a 7 false _ W J d (by omega) (λH p=>iha _ H d p)
   have m:=A0W (T7 7 false a) (x:=F0 a) (n:=190000) (by have:=P4 a;have:=d.lt;omega);have z:=hid m;rw[show F0 (.opt a)=C1 (T7 7 false a) (F0 a)++[63] from rfl];generalize C1 (T7 7 false a) (F0 a)=X at *;unfold L5 at A;have S:=hid g
   push_cast at A
   clear hat g d iha m;go_enter func32,ntmps32;go_wp2_with fail;refine(A.out _ S.out).mono ?_;rintro e w1⟨s,rfl,r,y⟩;have Q:=hid r;have N:=hid y;have Z:=J9 r z.out;clear r y;go_wp2_with fail;go_ret;exact⟨_,rfl,by rw[L0,Q.out],N.out⟩
 | cat a c iha ihc =>
   intro i w hat g;obtain⟨t,E,D,C,B⟩:=T.out w g i _ hat.cat.1;have hlt:=hat.lt;have G:(0:Int)<=i:=by omega
   have j:=G0 (.cat a c);have F:(i:Int)<l.length:=by omega
   dsimp only[zc] at t E D C B;obtain⟨_,d,o⟩:=hat.cat;have A:Hid (∀W,q7 W (.slice (some ⟨b,f,none⟩) l.length cap) l->Calls prog 59 #[.slice (some ⟨b,f,none⟩) l.length cap,.int .i64 3,.int .i64 (((i+1:Nat):Int)),.bool false] W (L5 (C1 (T7 3 false a) (F0 a)) W)):=hid λW J=>M.out a 3 false _ W J d (by omega) (λH p=>iha _ H d p)
   have HC:Hid (∀W,q7 W (.slice (some ⟨b,f,none⟩) l.length cap) l->Calls prog 59 #[.slice (some ⟨b,f,none⟩) l.length cap,.int .i64 3,.int .i64 (((i+1+(A0 a).length:Nat):Int)),.bool true] W (L5 (C1 (T7 3 true c) (F0 c)) W)):=hid λW J=>M.out c 3 true _ W J o (by omega) (λH p=>ihc _ H o p)
   have m:=A0W (T7 3 false a) (x:=F0 a) (n:=190000) (by have:=P4 a;have:=d.lt;omega);have O:=A0W (T7 3 true c) (x:=F0 c) (n:=190000) (by have:=P4 c;have:=o.lt;omega);have z:=hid m;have ad:=hid O;have ab:=d.lt;have HE:=hid (λW h=>aa.out (i+1) (by omega) W h);rw[A0z d] at HE;rw[show F0 (.cat a c)=C1 (T7 3 false a) (F0 a)++C1 (T7 3 true c) (F0 c) from rfl];generalize C1 (T7 3 false a) (F0 a)=X at *;generalize C1 (T7 3 true c) (F0 c)=Y at *;generalize i+1+(A0 a).length=i2 at *;unfold L5 at A HC;have S:=hid g
   push_cast at A
   clear hat g d o iha ihc m O ab;go_enter func32,ntmps32;go_wp2_with fail;refine(A.out _ S.out).mono ?_;rintro e w1⟨s,rfl,r,y⟩;have Q:=hid r;have N:=hid y;have Z:=J9 r z.out;have R:=hid (S.out.below y);clear r y;go_wp2_with fail;refine(HE.out _ R.out).mono ?_;rintro e av⟨rfl,rfl⟩;go_wp2_with fail;refine(HC.out _ R.out).mono ?_;rintro e w2⟨s2,rfl,L,P⟩;have ac:=hid L;have ae:=hid (N.out.trans (P.mono N.out.size));have ag:=J9 L ad.out;clear L P;go_wp2_with fail;go_ret;exact⟨_,rfl,by rw[L0,Q.out,ac.out],ae.out⟩
 | alt a c iha ihc =>
   intro i w hat g;obtain⟨t,E,D,C,B⟩:=T.out w g i _ hat.alt.1;have hlt:=hat.lt;have G:(0:Int)<=i:=by omega
   have j:=G0 (.alt a c);have F:(i:Int)<l.length:=by omega
   dsimp only[zc] at t E D C B;obtain⟨_,d,o⟩:=hat.alt;have A:Hid (∀W,q7 W (.slice (some ⟨b,f,none⟩) l.length cap) l->Calls prog 59 #[.slice (some ⟨b,f,none⟩) l.length cap,.int .i64 4,.int .i64 (((i+1:Nat):Int)),.bool false] W (L5 (C1 (T7 4 false a) (F0 a)) W)):=hid λW J=>M.out a 4 false _ W J d (by omega) (λH p=>iha _ H d p)
   have HC:Hid (∀W,q7 W (.slice (some ⟨b,f,none⟩) l.length cap) l->Calls prog 59 #[.slice (some ⟨b,f,none⟩) l.length cap,.int .i64 4,.int .i64 (((i+1+(A0 a).length:Nat):Int)),.bool true] W (L5 (C1 (T7 4 true c) (F0 c)) W)):=hid λW J=>M.out c 4 true _ W J o (by omega) (λH p=>ihc _ H o p)
   have m:=A0W (T7 4 false a) (x:=F0 a) (n:=190000) (by have:=P4 a;have:=d.lt;omega);have O:=A0W (T7 4 true c) (x:=F0 c) (n:=190000) (by have:=P4 c;have:=o.lt;omega);have z:=hid m;have ad:=hid O;have ab:=d.lt;have HE:=hid (λW h=>aa.out (i+1) (by omega) W h);rw[A0z d] at HE;rw[show F0 (.alt a c)=C1 (T7 4 false a) (F0 a)++124::C1 (T7 4 true c) (F0 c) from rfl];generalize C1 (T7 4 false a) (F0 a)=X at *;generalize C1 (T7 4 true c) (F0 c)=Y at *;generalize i+1+(A0 a).length=i2 at *;unfold L5 at A HC;have S:=hid g
   push_cast at A
   clear hat g d o iha ihc m O ab;go_enter func32,ntmps32;go_wp2_with fail;refine(A.out _ S.out).mono ?_;rintro e w1⟨s,rfl,r,y⟩;have Q:=hid r;have N:=hid y;have Z:=J9 r z.out;have R:=hid (S.out.below y);clear r y;go_wp2_with fail;refine(HE.out _ R.out).mono ?_;rintro e av⟨rfl,rfl⟩;go_wp2_with fail;refine(HC.out _ R.out).mono ?_;rintro e w2⟨s2,rfl,L,P⟩;have ac:=hid L;have ae:=hid (N.out.trans (P.mono N.out.size));have ag:=J9 L ad.out;clear L P;go_wp2_with fail;go_ret;exact⟨_,rfl,by rw[L0,L0,Q.out,ac.out];simp,ae.out⟩
