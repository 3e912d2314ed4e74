import Derived.Test.YthhcpbfgoofppaaGreatDoorGAuto
import Derived.Test.YthhcpbfgoofppaaGreatDoorGEach
import Derived.Test.YthhcpbfgoofppaaGreatDoorGMake
set_option linter.unusedVariables false
set_option linter.unusedSimpArgs false
open Wf
set_option maxRecDepth 100000
set_option maxHeartbeats 8000000
open Go.Lib (hid)
open Go.Proofs.Tryz hiding parts
namespace Go.Proofs.YthhcpbfgoofppaaGreatDoor
open Go.RowKit Wf
def B8q:Option Nat->Int
 | some j=>(j:Int)
 | none=>-1
theorem B7K(t:Rx)(s:List U_)(i:Nat):A1t (A8O (Q7 t) s i)=B8q (X9 s t i):=by
 unfold A8O X9 A1t;rw[A76 (λk _=>B3O t s i k)];cases(Go.Proofs.YthhcpbfgoofppaaGreatDoor.upTo_ (M4 s t i) (s.length+1)).getLast? <;> rfl
def A1o(l:List Nd)(n:Nat):Int:=if chk l≠0 then chk l else if 400<n then 3 else 0
def C0N(t:Rx)(w:W_)(e:Ending)(w':W_):Prop :=
 ∃(a c:Nat)(b:V_) (Own:Nat->Prop),e=.returned (.tuple #[.agg #[.pointer (some ⟨a,0,none⟩)],.nilIface])/\R5 (Q7 t) a c b Own [] [] w'/\Below w.heap.size w w'/\∀k,Own k->w.heap.size<=k
def C0M(n:Int)(w:W_)(e:Ending)(w':W_):Prop:=e=.returned (.tuple #[.agg #[.pointer none],m7 n])/\Below w.heap.size w w'
theorem B89(l:List Nd)(t:Rx)(n:l=A0 t)(B:l.length<=60)(s:B_)(hx:s.size<=400)(v:V_)(w:W_)(R:q7 w v l):
 Calls prog 89 #[v,.string s] w (C0N t w):=by
 have f:chk l=0:=by rw[n];exact A0k t (by rw[←n];exact B)
 have M:=hid f;have H:=hid λW h=>C0E l t n v W B h
 have J:=hid λy W h=>B9W (Q7 t) (A8a t (by rw[←n];exact B)) y W h
 have T:=hid R;have z:¬(400<s.size):=by omega
 have Y:=df_ ((400:Int)<s.size);clear R f n z;go_enter func89,ntmps89;go_wp2_with fail;have S:=hid ((Below.refl w.heap.size w).alloc (lr_ _) (.cells #[.pointer none] 162));have HB:=hid (J0.new w 162 #[.pointer none]);refine(A0U l v _ (T.out.below S.out)).mono ?_;rintro e Q⟨rfl,d⟩;rw[M.out,j5];have i:(w.alloc (.cells #[.pointer none] 162)).heap.size=w.heap.size+1:=by simp
 have O:=hid (HB.out.kept d);have p:=hid (S.out.trans (d.mono (by omega)));have ab:w.heap.size+1<=Q.heap.size:=by have:=d.size;omega
 clear d i;go_wp2_with fail;refine(H.out Q (T.out.below p.out)).mono ?_;rintro e P⟨A,cap,rfl,j,_,c⟩;have G:=hid j;have N:=hid (O.out.kept c);have F:=hid (p.out.trans (c.mono (by omega)));have aa:w.heap.size+1<=P.heap.size:=by have:=c.size;omega
 clear c j;go_wp2_with fail;refine(J.out _ P G.out).mono ?_;rintro e r⟨a,V,y,Own,rfl,o,b,m⟩;have L:=hid o;have g:=hid (N.out.kept b);have E:=hid (F.out.trans (b.mono (by omega)));have q:=hid m;have Z:w.heap.size+1<=r.heap.size:=by have:=b.size;omega
 have f0:r.cell? ⟨w.heap.size,0,none⟩=some (.pointer none):=g.out.cell 0;have z0:r.frozen? ⟨w.heap.size,0,none⟩=false:=g.out.frozen 0;clear o b m;go_wp2_with fail;have D:=g.out.set_ 0 (.pointer (some ⟨a,0,none⟩));have C:¬Own w.heap.size:=λh=>by have:=q.out _ h;omega
 refine bodyPost_ret (v:=.tuple #[.agg #[.pointer (some ⟨a,0,none⟩)],.nilIface]) ?_ rfl ⟨a,V,y,Own,rfl,L.out.set_ C _,E.out.setCell (lr_ _) _,λk D=>by have:=q.out k D;omega⟩;have X:(r.setCell ⟨w.heap.size,0,none⟩ (.pointer (some ⟨a,0,none⟩))).cell? ⟨w.heap.size,0,none⟩=some (.pointer (some ⟨a,0,none⟩)):=D.cell 0;simp[results,results89,go_sem,X]
theorem B9A(l:List Nd)(d:B_)(z:d.size<=9223372036854775807)(v:V_)(w:W_)(o:q7 w v l)(c:A1o l d.size≠0):
 Calls prog 89 #[v,.string d] w (C0M (A1o l d.size) w):=by
 have p:=hid o;have j:=hid ((Below.refl w.heap.size w).alloc (lr_ _) (.cells #[.pointer none] 162));have r:=hid (J0.new w 162 #[.pointer none]);have f:(w.alloc (.cells #[.pointer none] 162)).heap.size=w.heap.size+1:=by simp
 have i:=hid f;clear o f;by_cases hc:chk l=0
 .have hlt:400<d.size:=by
   unfold A1o at c;rw[if_neg (by simp[hc])] at c
   split at c
   .assumption
   .exact absurd rfl c
  have n:Hid (A1o l d.size=3):=hid (by unfold A1o;rw[if_neg (by simp[hc]),if_pos hlt]);have A:=dt_ ((400:Int)<d.size);have y:=hid hc;clear c hc hlt;go_enter func89,ntmps89;go_wp2_with fail;refine(A0U l v _ (p.out.below j.out)).mono ?_;rintro e g⟨rfl,a⟩;rw[y.out,j5];have b:=hid (r.out.kept a);have h:=hid (j.out.trans (a.mono (by have:=i.out;omega)));have t:g.cell? ⟨w.heap.size,0,none⟩=some (.pointer none):=b.out.cell 0;have s:g.frozen? ⟨w.heap.size,0,none⟩=false:=b.out.frozen 0;clear a;go_wp2_with fail;have m:=b.out.set_ 0 (.pointer none);refine bodyPost_ret (v:=.tuple #[.agg #[.pointer none],m7 3]) ?_ rfl ⟨by rw[n.out],h.out.setCell (lr_ _) _⟩;have k:(g.setCell ⟨w.heap.size,0,none⟩ (.pointer none)).cell? ⟨w.heap.size,0,none⟩=some (.pointer none):=m.cell 0;simp[results,results89,go_sem,k,m7]
 .have n:Hid (A1o l d.size=chk l):=hid (by unfold A1o;rw[if_pos hc])
  have q:=hid (L8 hc);clear c hc;go_enter func89,ntmps89;go_wp2_with fail;refine(A0U l v _ (p.out.below j.out)).mono ?_;rintro e g⟨rfl,a⟩;rw[q.out];have b:=hid (r.out.kept a);have h:=hid (j.out.trans (a.mono (by have:=i.out;omega)));have t:g.cell? ⟨w.heap.size,0,none⟩=some (.pointer none):=b.out.cell 0;have s:g.frozen? ⟨w.heap.size,0,none⟩=false:=b.out.frozen 0;clear a;go_wp2_with fail;have m:=b.out.set_ 0 (.pointer none);refine bodyPost_ret (v:=.tuple #[.agg #[.pointer none],.iface 81 (.int .i64 (chk l))]) ?_ rfl ⟨by rw[n.out,q.out],h.out.setCell (lr_ _) _⟩;have k:(g.setCell ⟨w.heap.size,0,none⟩ (.pointer none)).cell? ⟨w.heap.size,0,none⟩=some (.pointer none):=m.cell 0;simp[results,results89,go_sem,k]
def C0F(p:List St)(a c:Nat)(b:V_)(Own:Nat->Prop)(Ss:List R9)(r:Option (Nat×Nat))(w:W_)(e:Ending)(w':W_):Prop :=
 (∃x y:Nat,r=some (x,y)/\e=.returned (.tuple #[.agg #[.int .i64 x,.int .i64 y],.bool true])/\T3 p a c b Own Ss w w') \/
 (r=none/\e=.returned (.tuple #[.agg #[.int .i64 0,.int .i64 0],.bool false])/\T3 p a c b Own Ss w w')
theorem T3.of_below{p:List St}{a c:Nat}{b:V_}{Own:Nat->Prop}{Ss:List R9}{L:List (ByteArray×Value)}{w w':W_}(h:R5 p a c b Own Ss L w)(d:Below w.heap.size w w'):T3 p a c b Own Ss w w':=⟨Own,Ss,L,h.below d,Gr.of_below d⟩
theorem T3.put{p:List St}{a d:Nat}{c:V_}{Own:Nat->Prop}{Ss:List R9}{L:List (ByteArray×Value)}{w W wr w':W_}(n:R5 p a d c Own Ss L w)(m:Below w.heap.size w W)(h:T3 p a d c Own Ss W wr){g:Nat}(o:w.heap.size<=g)(r:g<W.heap.size)(i:wr.grownBy w' (some g)):
 T3 p a d c Own Ss w w':=by
 obtain⟨O,S,q,l,b⟩:=h
 have f:¬O g:=λj=>by
  rcases b.new g j with e|e|e
  .have:=n.lt g e;omega
  .cases e
  .omega
 exact⟨O,S,q,l.grown i (λk e=>by cases e;exact f),((Gr.of_below m).trans b (by simp)).trans (Gr.of_grown i) (λk e=>by cases e;exact .inr o)⟩
theorem A1k(W:W_)(g i:Nat)(u:V_):W.grownBy (W.setCell ⟨g,i,none⟩ u) (some g):=⟨rfl,rfl,rfl,by simp,λk _ a=>Below.heap_setCell W _ _ k (λe=>a (by rw[e]))⟩
theorem B7C(t:Rx)(ht:(A0 t).length<=60)(J:∀n∈A0 t,P5 n.cls)(a A:Nat)(z:V_)(Own:Nat->Prop)(Ss:List R9)(L:List (ByteArray×Value))(w:W_)(he:R5 (Q7 t) a A z Own Ss L w)(c:B_)(hx:c.size<=400)(q:Nat)(hf:q<=c.size):
 Calls prog 90 #[.agg #[.pointer (some ⟨a,0,none⟩)],.string c,.int .i64 q] w (C0F (Q7 t) a A z Own Ss (O8 c.data.toList t q) w):=by
 have S:=hid he;have HP:=hid (A8a t ht);have aa:=hid (B2i P5 N6 t J);have r:Hid (c.data.toList.length=c.size):=hid (by simp);have p:Below w.heap.size w ((w.alloc (.cells #[.pointer (some ⟨a,0,none⟩)] 162)).alloc (.cells #[.int .i64 0,.int .i64 0] 68)):=ba_.alloc (by simp) _;have B:((w.alloc (.cells #[.pointer (some ⟨a,0,none⟩)] 162)).alloc (.cells #[.int .i64 0,.int .i64 0] 68)).heap.size=w.heap.size+2:=by simp
 have H:(w.alloc (.cells #[.pointer (some ⟨a,0,none⟩)] 162)).heap.size=w.heap.size+1:=by simp
 have d:=(J0.new w 162 #[.pointer (some ⟨a,0,none⟩)]).alloc (.cells #[.int .i64 0,.int .i64 0] 68);have b:=J0.new (w.alloc (.cells #[.pointer (some ⟨a,0,none⟩)] 162)) 68 #[.int .i64 0,.int .i64 0];rw[H] at b;go_enter func90,ntmps90;clear he J ht;obtain⟨W,X⟩:∃W,W=(w.alloc (.cells #[.pointer (some ⟨a,0,none⟩)] 162)).alloc (.cells #[.int .i64 0,.int .i64 0] 68):=⟨_,rfl⟩
 rw[←X] at p B d b;have HB:=hid p;have HS:=hid B;have ac:=hid d;have Q:=hid b;have HW:=hid X;have ad:=hid (S.out.below p);have C:Hid (¬Own w.heap.size/\¬Own (w.heap.size+1)):=hid ⟨λh=>by have:=S.out.lt _ h;omega,λh=>by have:=S.out.lt _ h;omega⟩;clear p B d b H X;go_wp2_with fail;rw[←HW.out];clear HW;have T:Hid (T3 (Q7 t) a A z Own Ss W W):=hid (T3.of_below ad.out br_)
 go_loopw [8] (λv8 wr=>∃(i:Nat),q<=i/\i<=c.size+1/\v8=.int .i64 i/\Hid (O8 c.data.toList t q=O8 c.data.toList t i)/\Hid (T3 (Q7 t) a A z Own Ss W wr)) (λi _=>c.size+1 - (intOf i).toNat)
 case atStart=>exact⟨q,lr_ _,by omega,rfl,hid rfl,T⟩
 case round =>
  clear T;obtain⟨i,au,ar,rfl,E,V⟩:=hrel;have d:=V.out.blk ac.out C.out.1;have b:=V.out.blk Q.out C.out.2;have c0:wr.cell? ⟨w.heap.size,0,none⟩=some (.pointer (some ⟨a,0,none⟩)):=d.cell 0;have s0:wr.cell? ⟨w.heap.size+1,0,none⟩=some (.int .i64 0):=b.cell 0;have s1:wr.cell? ⟨w.heap.size+1,1,none⟩=some (.int .i64 0):=b.cell 1;have z0:wr.frozen? ⟨w.heap.size+1,0,none⟩=false:=b.frozen 0;have z1:wr.frozen? ⟨w.heap.size+1,1,none⟩=false:=b.frozen 1;have HK:=hid b;clear d b;by_cases hlt:i<=c.size
  .have hd:decide (i<=c.size)=true:=by simpa using hlt
   obtain⟨P,Y,L2,O,N⟩:=V.out;have m:=hid (B7J (Q7 t) HP.out aa.out a A z P Y L2 wr O c hx i hlt);rw[B7K] at m;have R:=hid N;clear O N;cases hl:X9 c.data.toList t i with
   | some j =>
     have o:Hid (O8 c.data.toList t q=some (i,j)):=hid (by rw[E.out];exact A1l (by rw[r.out];exact hlt) hl);rw[hl] at m;have aq:(0:Int)<=j:=by omega
     have ap:j<=c.size:=by have:=(A5K hl).2;rw[r.out] at this;exact this
     clear hl E;go_wp2_with fail;refine m.out.mono ?_;rintro e y⟨rfl,l,D,Z,k,f⟩;have s:Hid (T3 (Q7 t) a A z Own Ss W y):=hid ⟨l,D,Z,k,R.out.trans f (by simp)⟩;have b:=s.out.blk Q.out C.out.2;have s0:y.cell? ⟨w.heap.size+1,0,none⟩=some (.int .i64 0):=b.cell 0;have s1:y.cell? ⟨w.heap.size+1,1,none⟩=some (.int .i64 0):=b.cell 1;have z0:y.frozen? ⟨w.heap.size+1,0,none⟩=false:=b.frozen 0;have z1:y.frozen? ⟨w.heap.size+1,1,none⟩=false:=b.frozen 1;have ab:=hid b;unfold B8q;clear k f b;go_wp2_with fail;have M:=(ab.out.set_ 0 (.int .i64 i)).set_ 1 (.int .i64 j);refine bodyPost_ret (v:=.tuple #[.agg #[.int .i64 i,.int .i64 j],.bool true]) ?_ rfl (.inl ⟨i,j,o.out,rfl,?_⟩)
     .have G:=M.cell 0
      have F:=M.cell 1;simp only[Array.getElem?_setIfInBounds] at G F;simp[results,results90,go_sem,G,F]
     .exact T3.put S.out HB.out s.out (g:=w.heap.size+1) (by omega) (by have:=HS.out;omega) ((A1k _ _ _ _).trans (A1k _ _ _ _))
   | none =>
     have o:Hid (O8 c.data.toList t q=O8 c.data.toList t (i+1)):=hid (by rw[E.out];exact A1m (by rw[r.out];exact hlt) hl);rw[hl] at m;clear hl E;go_wp2_with fail;refine m.out.mono ?_;rintro e y⟨rfl,l,D,Z,k,f⟩;have s:Hid (T3 (Q7 t) a A z Own Ss W y):=hid ⟨l,D,Z,k,R.out.trans f (by simp)⟩;unfold B8q;clear k f;go_wp2_with fail;go_roundw
     case rel=>exact⟨i+1,by omega,by omega,by go_num,o,s⟩
     case measure=>simp[intOf];omega
  .have hd:decide (i<=c.size)=false:=by simpa using hlt
   have o:Hid (O8 c.data.toList t q=none):=hid (by rw[E.out];exact A4F (by rw[r.out];omega));clear hlt E;go_wp2_with fail;have M:=(HK.out.set_ 0 (.int .i64 0)).set_ 1 (.int .i64 0);refine bodyPost_ret (v:=.tuple #[.agg #[.int .i64 0,.int .i64 0],.bool false]) ?_ rfl (.inr ⟨o.out,rfl,?_⟩)
   .have G:=M.cell 0
    have F:=M.cell 1;simp only[Array.getElem?_setIfInBounds] at G F;simp[results,results90,go_sem,G,F]
   .exact T3.put S.out HB.out V.out (g:=w.heap.size+1) (by omega) (by have:=HS.out;omega) ((A1k _ _ _ _).trans (A1k _ _ _ _))
def A9v(t:Rx)(s:List U_)(w:W_)(e:Ending)(w':W_):Prop :=
 ∃(A:Option Addr)(cap:Nat),e=.returned (.tuple #[.slice A (Y0 s t 0).length cap,.nilIface])/\w'.ownsRow w.heap.size 68 2 (.slice A (Y0 s t 0).length cap) (Y0 s t 0).length (Z3 (Y0 s t 0))/\Below w.heap.size w w'
def C0R(n:Int)(w:W_)(e:Ending)(w':W_):Prop:=e=.returned (.tuple #[.slice none 0 0,m7 n])/\Below w.heap.size w w'
structure A2T (p:List St) (a km:Nat) (pv:V_) (B b:Nat) (v:V_) (l:List (Nat×Nat)) (Own:Nat->Prop) (Ss:List R9) (L:List (ByteArray×Value)) (wr:W_):Prop where
 env:R5 p a km pv Own Ss L wr
 ge:∀k,Own k->B<=k
 box:J0 wr b 162 #[.pointer (some ⟨a,0,none⟩)]
 nb:¬Own b
 row:wr.ownsRow B 68 2 v l.length (Z3 l)
 nr:∀g,v.ownBlock=some g->¬Own g
theorem A2T.next_{p:List St}{a j:Nat}{i:V_}{B b:Nat}{v:V_}{l:List (Nat×Nat)}{Own Own':Nat->Prop}{Ss c:List R9}{L o:List (ByteArray×Value)}{wr w':W_}(h:A2T p a j i B b v l Own Ss L wr)(t:B<=wr.heap.size)(s:R5 p a j i Own' c o w')(d:Gr none Own Own' Ss c wr w'):
 A2T p a j i B b v l Own' c o w':=by
 have f:∀k,k<wr.heap.size->¬Own k->¬Own' k:=λk m r q=>by
  rcases d.new k q with e|e|e
  .exact r e
  .cases e
  .omega
 refine⟨s,d.ge t h.ge,(d.kept b h.box.lt h.nb (by simp)).trans h.box,f b h.box.lt h.nb,?_,λg n=>f g (h.row.lt g n).2 (h.nr g n)⟩;exact A0H (Own:=λk=>v.ownBlock=some k) (row:=none) h.row (λg d=>d) (λk m _=>d.kept k (h.row.lt k m).2 (h.nr k m) (by simp)) (by simp)
theorem A2T.alloc{p:List St}{a d:Nat}{c:V_}{B b:Nat}{v:V_}{l:List (Nat×Nat)}{Own:Nat->Prop}{Ss:List R9}{L:List (ByteArray×Value)}{wr:W_}(h:A2T p a d c B b v l Own Ss L wr)(o:Obj):A2T p a d c B b v l Own Ss L (wr.alloc o) :=
 ⟨h.env.alloc o,h.ge,h.box.alloc o,h.nb,h.row.alloc o,h.nr⟩
theorem A2T.more{p:List St}{a i:Nat}{f:V_}{B b:Nat}{v d:V_}{l:List (Nat×Nat)}{Own:Nat->Prop}{Ss:List R9}{L:List (ByteArray×Value)}{wr w':W_}(h:A2T p a i f B b v l Own Ss L wr)(x y:Nat)(c:w'.ownsRow B 68 2 d (l.length+1) (Z3 l++[.int .i64 x,.int .i64 y]))(k:wr.grownBy w' v.ownBlock)
 (hat:d.ownBlock=v.ownBlock\/d.ownBlock=some wr.heap.size):A2T p a i f B b d (l++[(x,y)]) Own Ss L w':=by
 refine⟨h.env.grown k h.nr,h.ge,(k.block b h.box.lt (λe=>?_)).trans h.box,h.nb,by rw[List.length_append,A2v];exact c,λg j=>?_⟩
 .rcases h.row.2 with ⟨rfl,_⟩|⟨g,cap,cur,rfl,_,hgg,_⟩
  .simp[Value.ownBlock] at e
  .simp only[Value.ownBlock,Option.some.injEq] at e
   subst e;have:=h.box;unfold J0 at this;rw[this] at hgg;simp at hgg
 .rcases hat with e|e
  .exact h.nr g (by rw[←e,j])
  .rw[j] at e
   cases e;exact λm=>by have:=h.env.lt _ m;omega
theorem B55(l:List Nd)(t:Rx)(hl:l=A0 t)(ht:l.length<=60)(aa:∀n∈l,P5 n.cls)(f:B_)(hx:f.size<=400)(v:V_)(w:W_)(hr:q7 w v l):
 Calls prog 55 #[v,.string f] w (A9v t f.data.toList w):=by
 obtain⟨i0,ay,aw,av,au⟩:=info_parts A6x;have ah:=hid (B89 l t hl ht f hx v w hr);have aG:=hid λa Z Y Own Ss L W he f0 hf=>B7C t (by rw[←hl];exact ht) (by rw[←hl];exact aa) a Z Y Own Ss L W he f hx f0 hf
 have af:Hid (f.data.toList.length=f.size):=hid (by simp);clear hl ht aa hr;go_enter func55,ntmps55;go_wp2_with fail;refine ah.out.mono ?_;rintro e X⟨a,Z,Y,Own,rfl,M,p,ab⟩
 have ac:A2T (Q7 t) a Z Y w.heap.size X.heap.size (.slice none 0 0) [] Own [] [] (X.alloc (.cells #[.pointer (some ⟨a,0,none⟩)] 162)) :=
  ⟨M.alloc _,ab,J0.new X _ _,λh=>by have:=M.lt _ h;omega,World.ownsRow_nil _ _ _ _,λg hg=>by simp[Value.ownBlock] at hg⟩
 have aj:=hid ac;have am:=hid (p.alloc p.size (.cells #[.pointer (some ⟨a,0,none⟩)] 162));clear M p ab ac ah;go_wp2_with fail
 go_loopw [8,9] (λv8 v9 wr=>∃(at_:Nat)(m:List (Nat×Nat)),at_<=f.size+1/\m.length<=at_/\v9=.int .i64 at_/\Hid (A20 (X9 f.data.toList t) f.data.toList.length 0 m at_)/\Hid (Below w.heap.size w wr)/\Hid (∃Own Ss L,A2T (Q7 t) a Z Y w.heap.size X.heap.size v8 m Own Ss L wr)) (λ_ i _=>f.size+1 - (intOf i).toNat)
 case atStart=>exact⟨0,[],by omega,by simp,rfl,hid (.nil 0),am,hid ⟨_,_,_,aj.out⟩⟩
 case round =>
  clear aj am;obtain⟨at_,m,hat,aP,rfl,HC,HB,HA⟩:=hrel;obtain⟨ae,aF,L2,P⟩:=HA.out;have r:=hid P;have c0:wr.cell? ⟨X.heap.size,0,none⟩=some (.pointer (some ⟨a,0,none⟩)):=P.box.cell 0;have J:=V5 f.data.toList t;have S:=hid J;clear P HA J;by_cases hlt:at_<=f.size
  .have hd:decide (at_<=f.size)=true:=by simpa using hlt
   have R:=hid (aG.out a Z Y ae aF L2 wr r.out.env at_ hlt);go_wp2_with fail;refine R.out.mono ?_;rintro e E (⟨x,y,o,rfl,ad,aE,L3,B,j⟩|⟨o,rfl,ad,aE,L3,B,j⟩)
   .have c:=HB.out.size
    have q:=r.out.next_ c B j;have H:=hid (q.alloc (.cells #[.int .i64 x,.int .i64 y] 68));have V:Hid (Below w.heap.size w (E.alloc (.cells #[.int .i64 x,.int .i64 y] 68))):=hid ((HB.out.trans (j.below c r.out.ge)).alloc (by have:=j.size;omega) _);have ak:=hid (HC.out.snoc o);have C:=n9 S.out o;rw[af.out] at C;have ai:=hid ((J0.new E 68 #[.int .i64 x,.int .i64 y]).alloc (.cells #[.int .i64 x,.int .i64 y] 68));have aJ:w.heap.size<=E.heap.size:=by have:=j.size;omega
    have aC:=H.out.row.lt;have ag:Hid (∀g,u8.ownBlock=some g->g<E.heap.size):=hid (λg hg=>(q.row.lt g hg).2);have aQ:=hid (S8 m);clear o B j q R aC c0;have p:at_<X5 x y:=C.1;have G:X5 x y<=f.size+1:=C.2.1;have aO:y<=f.size:=C.2.2.2;clear C
    go_wp2_with (at_builtin;refine wpList_append_own_at _ rfl (.tmp 34) (.tmp 36) _ rfl w.heap.size 68 i0 _ 2 16 underlying106 ay aw av au rfl (by omega) _ m.length (Z3 m) rfl (H.out.row.alloc _) ⟨E.heap.size+1,0,none⟩ 1 1 [.int .i64 x,.int .i64 y] rfl rfl (A7S _ _ _ _ _ (by simp)) (by intro u hu;simp at hu;rcases hu with rfl | rfl <;> rfl) (by unfold maxLen;omega) (by omega) (by simp;omega) ?_)
    intro v' w' A F _ hat';have O:=(F.block E.heap.size (by simp;omega) (λe=>by have:=ag.out _ e.symm;omega)).trans ai.out;have ap:=hid ((H.out.alloc _).more x y A F (by simpa using hat'));have al:=hid (J4 (V.out.alloc (by simp;omega) _) (lr_ _) (by simp;omega) (H.out.row.alloc _) F);have b0:w'.cell? ⟨E.heap.size,0,none⟩=some (.int .i64 x):=J0.cell O 0;have b1:w'.cell? ⟨E.heap.size,1,none⟩=some (.int .i64 y):=J0.cell O 1;clear A F hat' O ai ag;by_cases exy:y=x
    .have aB:decide (y=x)=true:=by simpa using exy
     have aA:((y:Int)==(x:Int))=true:=A6w exy;have k:X5 x y=y+1:=by unfold X5;rw[if_pos exy]
     have T:=hid k;rw[k] at p G;clear exy k;go_wp2_with fail;go_roundw
     case rel=>exact⟨y+1,m++[(x,y)],G,by simp;omega,by go_num,hid (by have:=ak.out;rw[T.out] at this;exact this),al,hid ⟨_,_,_,ap.out⟩⟩
     case measure=>simp[intOf];omega
    .have aB:decide (y=x)=false:=by simpa using exy
     have aA:((y:Int)==(x:Int))=false:=A2h exy;have k:X5 x y=y:=by unfold X5;rw[if_neg exy]
     have T:=hid k;rw[k] at p G;clear exy k;go_wp2_with fail;go_roundw
     case rel=>exact⟨y,m++[(x,y)],G,by simp;omega,by go_num,hid (by have:=ak.out;rw[T.out] at this;exact this),al,hid ⟨_,_,_,ap.out⟩⟩
     case measure=>simp[intOf];omega
   .have c:=HB.out.size
    have q:=r.out.next_ c B j
    have b:Y0 f.data.toList t 0=m:=by
     have:=HC.out.all S.out;rw[A0S o,List.append_nil] at this;exact this
    have Q:=hid b;have V:Hid (Below w.heap.size w (E.alloc (.cells #[.int .i64 0,.int .i64 0] 68))):=hid ((HB.out.trans (j.below c r.out.ge)).alloc (by have:=j.size;omega) _);have d:=q.row.alloc (.cells #[.int .i64 0,.int .i64 0] 68);obtain⟨VA,vn,s,rfl,_,_,z,_⟩:=Rd.of_own d;rw[S8] at z;obtain rfl:vn=m.length:=by omega
    have D:=hid d;clear o B j q R b d z;go_wp2_with fail;go_ret2;unfold A9v;rw[Q.out];exact⟨VA,s,rfl,D.out,V.out⟩
  .have hd:decide (at_<=f.size)=false:=by simpa using hlt
   have b:Y0 f.data.toList t 0=m:=by
    have:=HC.out.all S.out;rw[A2I (L:=X9 f.data.toList t) (N:=f.data.toList.length) (at_:=at_) (by rw[af.out];omega),List.append_nil] at this;exact this
   have Q:=hid b;have d:=r.out.row;obtain⟨VA,vn,s,rfl,_,_,z,_⟩:=Rd.of_own d;rw[S8] at z;obtain rfl:vn=m.length:=by omega
   have D:=hid d;clear b d z hlt;go_wp2_with fail;go_ret2;unfold A9v;rw[Q.out];exact⟨VA,s,rfl,D.out,HB.out⟩
theorem B9N(l:List Nd)(b:B_)(i:b.size<=9223372036854775807)(v:V_)(w:W_)(g:q7 w v l)(a:A1o l b.size≠0):
 Calls prog 55 #[v,.string b] w (C0R (A1o l b.size) w):=by
 have f:=hid (B9A l b i v w g a);have d:=hid (L8 a);clear g a;go_enter func55,ntmps55;go_wp2_with fail;refine f.out.mono ?_;rintro e j⟨h,c⟩;rw[d.out] at h;subst h;go_wp2_with fail;go_ret2;exact⟨by rw[d.out];rfl,c.alloc c.size _⟩
def B70(a:List B_)(w:W_)(e:Ending)(w':W_):Prop :=
 ∃(g cap:Nat),e=.returned (.tuple #[.slice (some ⟨g,0,none⟩) a.length cap,.nilIface])/\w'.ownsRow w.heap.size 9 1 (.slice (some ⟨g,0,none⟩) a.length cap) a.length (T0 a)/\Below w.heap.size w w'
def B1y(n:Int)(w:W_)(e:Ending)(w':W_):Prop:=e=.returned (.tuple #[.slice none 0 0,m7 n])/\Below w.heap.size w w'
theorem B4R(l:List Nd)(t:Rx)(hl:l=A0 t)(ht:l.length<=60)(Q:∀n∈l,P5 n.cls)(c:B_)(hx:c.size<=400)(v:V_)(w:W_)(hr:q7 w v l):
 Calls prog 57 #[v,.string c] w (B70 (J8 c (Y0 c.data.toList t 0)) w):=by
 obtain⟨i0,S,M,L,J⟩:=info_parts A1L;have h:=hid (B55 l t hl ht Q c hx v w hr);have C:c.data.toList.length=c.size:=by simp
 have B:=A68 (V5 c.data.toList t) 0;have y:=A1R (V5 c.data.toList t) 0;rw[C] at B y;unfold A9v at h;unfold Y0 at h ⊢;rw[C] at h ⊢;generalize A1w (X9 c.data.toList t) c.size 0=sp at *;have ah:=hid B;have ay:sp.length<=401:=by omega
 clear hl ht Q hr B C y;go_enter func57,ntmps57;go_wp2_with fail;refine h.out.mono ?_;rintro e m⟨A,cap,rfl,r,Y⟩;have G:=hid Y;obtain⟨A',z,hv,aB,aq,R⟩:=Y9 (Rd.of_own r);injection hv with e1 _ e2
 subst e1;subst e2;have ai:=hid R;clear r Y R h;go_wp2_with fail
 go_loopw [8,9,23] (λv8 v9 v23 wr=>∃(k f:Nat),k<=sp.length/\v23=.int .i64 k/\v9=.int .i64 f/\f<=c.size/\Hid (f=A3Z 0 (sp.take k))/\Hid (wr.ownsRow m.heap.size 9 1 v8 k (T0 (A0j c 0 (sp.take k))))/\Hid (Below m.heap.size m wr)) (λ_ _ i _=>sp.length - (intOf i).toNat)
 case atStart=>exact⟨0,0,by omega,rfl,rfl,by omega,hid rfl,hid (World.ownsRow_nil _ _ _ _),hid br_⟩
 case round =>
  obtain⟨k,f,hk,rfl,rfl,hf,HF,H,HB⟩:=hrel;have P:=HB.out.size;by_cases hlt:k<sp.length
  .obtain⟨bs,os,rfl,ag,V⟩:=ai.out (by omega)
   have T:sp[k]?=some (sp[k]'hlt):=List.getElem?_eq_getElem hlt;generalize sp[k]'hlt=q at T;obtain⟨a,b⟩:=q;obtain⟨g0,g1⟩:=V wr (λo=>HB.out.cell (p:=⟨bs,o,none⟩) ag) k a b T
   have ae:f<=a/\a<=b/\b<=c.size:=by
    have Z:=ah.out;have h2:=A8J T;rw[h2] at Z;rw[HF.out];exact Z.at_
   obtain⟨ap,aC,af⟩:=ae;have az:(k:Int)<sp.length:=by omega
   have HT:Hid (sp.take (k+1)=sp.take k++[(a,b)]):=hid (X3 T);have aj:Hid (b=A3Z 0 (sp.take (k+1))):=hid (by rw[HT.out,A5Q]);have HX:Hid (T0 (A0j c 0 (sp.take (k+1)))=T0 (A0j c 0 (sp.take k))++[.string (c.extract f a)]):=hid (by rw[HT.out,A61,R8,←HF.out]);have i1:(f:Int)<=a:=by omega
   have i2:(a:Int)<=c.size:=by omega
   clear T V;generalize T0 (A0j c 0 (sp.take k))=xs at H HX
   go_wp2_with (at_builtin;refine wpList_append_own _ rfl (.tmp 27) (.tmp 33) _ rfl m.heap.size 9 i0 _ 1 16 underlying94 S M L J rfl (by omega) _ k xs rfl ((H.out.alloc _).alloc _) ⟨wr.heap.size+1,0,none⟩ 1 1 [.string (c.extract f a)] rfl rfl (L9 _ _ _ _ (by simp)) (by intro u O;simp at O;subst O;rfl) (by unfold maxLen;omega) (by omega) (by simp;omega) ?_)
   intro v' w' d j _;have N:∀g,u8.ownBlock=some g->g<wr.heap.size:=λg hg=>(H.out.lt g hg).2
   have X:J0 w' wr.heap.size 68 #[.int .i64 a,.int .i64 b]:=(j.block wr.heap.size (by simp;omega) (λe=>by have:=N _ e.symm;omega)).trans ((J0.new wr _ _).alloc _);have s:Below m.heap.size m ((wr.alloc (.cells #[.int .i64 a,.int .i64 b] 68)).alloc (.cells #[.string (c.extract f a)] 9)):=(HB.out.alloc P _).alloc (by simp;omega) _;have F:=hid (J4 s (lr_ _) (by simp;omega) ((H.out.alloc _).alloc _) j);have D:Hid (w'.ownsRow m.heap.size 9 1 v' (k+1) (T0 (A0j c 0 (sp.take (k+1))))):=hid (by rw[HX.out];exact d);have b1:w'.cell? ⟨wr.heap.size,1,none⟩=some (.int .i64 b):=X.cell 1;clear d j N X s;go_wp2_with fail;go_roundw
   case rel=>exact⟨k+1,b,by omega,by go_num,rfl,af,aj,D,F⟩
   case measure=>simp[intOf];omega
  .obtain rfl:k=sp.length:=by omega
   have HX:Hid (T0 (J8 c sp)=T0 (A0j c 0 sp)++[.string (c.extract f c.size)]):=hid (by
    have Z:=HF.out;rw[List.take_length] at Z;rw[J8,R8,←Z])
   have E:Hid (wr.ownsRow m.heap.size 9 1 u8 sp.length (T0 (A0j c 0 sp))):=hid (by have:=H.out;rwa[List.take_length] at this);have ab:=hid (A0t c sp);have i1:(f:Int)<=c.size:=by omega
   clear H HF;generalize T0 (A0j c 0 sp)=xs at E HX
   go_wp2_with (at_builtin;refine wpList_append_lies _ rfl (.tmp 38) (.tmp 42) _ rfl m.heap.size 9 i0 _ 1 16 underlying94 S M L J rfl (by omega) _ sp.length xs rfl (E.out.alloc _) ⟨wr.heap.size,0,none⟩ 1 1 [.string (c.extract f c.size)] rfl rfl (L9 _ _ _ _ rfl) (by intro u O;simp at O;subst O;rfl) (by omega) (by unfold maxLen;omega) (by omega) (by simp;omega) (wr.heap.size+1) (by simp) ?_)
   intro g z w' d j hat' hlt';have s:Below m.heap.size m (wr.alloc (.cells #[.string (c.extract f c.size)] 9)):=HB.out.alloc P _;have F:=hid (G.out.trans ((J4 s (lr_ _) (by simp;omega) (E.out.alloc _) j).mono G.out.size));have D:=hid (J5 d G.out.size);clear d j hat' hlt' s;go_wp2_with fail;go_ret2;refine⟨g,z,by rw[ab.out];rfl,?_,F.out⟩;rw[ab.out,HX.out];exact D.out
theorem B4S(l:List Nd)(b:B_)(i:b.size<=9223372036854775807)(v:V_)(w:W_)(g:q7 w v l)(a:A1o l b.size≠0):
 Calls prog 57 #[v,.string b] w (B1y (A1o l b.size) w):=by
 have d:=hid (B9N l b i v w g a);have c:=hid (L8 a);clear g a;go_enter func57,ntmps57;go_wp2_with fail;refine d.out.mono ?_;rintro e j⟨h,f⟩;rw[c.out] at h;subst h;go_wp2_with fail;go_ret2;exact⟨by rw[c.out];rfl,f⟩
def A3K(a bx:B_)(b:List (Nat×Nat)):List U_:=Go.Lib.join ((J8 a b).map (·.data.toList)) bx.data.toList
def A2z(l:List Nd)(a bx:B_)(b:List (Nat×Nat)):Int:=if A1o l a.size≠0 then A1o l a.size else if 400<bx.size then 3 else if 400<(A3K a bx b).length then 3 else 0
def B9R(r:List U_)(w:W_)(e:Ending)(w':W_):Prop:=e=.returned (.tuple #[.string ⟨r.toArray⟩,.nilIface])/\Below w.heap.size w w'
def B08(n:Int)(w:W_)(e:Ending)(w':W_):Prop:=e=.returned (.tuple #[.string ⟨#[]⟩,m7 n])/\Below w.heap.size w w'
theorem A8U(l:List Nd)(t:Rx)(M:l=A0 t)(O:l.length<=60)(y:∀n∈l,P5 n.cls)(a bx:B_)(hx:a.size<=400)(ak:bx.size<=9223372036854775807)(v:V_)(w:W_)(o:q7 w v l):
 Calls prog 30 #[v,.string a,.string bx] w (λe w'=>(A2z l a bx (Y0 a.data.toList t 0)=0/\B9R (A3K a bx (Y0 a.data.toList t 0)) w e w')\/(A2z l a bx (Y0 a.data.toList t 0)=3/\B08 3 w e w')):=by
 have F:=hid (B4R l t M O y a hx v w o)
 have ab:(Y0 a.data.toList t 0).length<=401:=by
  have:=A1R (V5 a.data.toList t) 0;have D:a.data.toList.length=a.size:=by simp
  rw[D] at this;unfold Y0;rw[D];omega
 have h:A1o l a.size=0:=by
  unfold A1o;rw[if_neg (by rw[M,A0k t (by rw[←M];exact O)];simp),if_neg (by omega)]
 have m:=hid h;generalize Y0 a.data.toList t 0=sp at *;have i:=A3U a sp;have k:=A0t a sp;clear M O y o h;by_cases hb:400<bx.size
 .have E:Hid (A2z l a bx sp=3):=hid (by unfold A2z;rw[if_neg (by simp[m.out]),if_pos hb])
  have d1:=dt_ ((400:Int)<bx.size);clear hb i;go_enter func30,ntmps30;go_wp2_with fail;refine F.out.mono ?_;rintro e L⟨g,cap,rfl,b,d⟩;have f:=hid d;clear b d;go_wp2_with fail;go_ret2;exact .inr ⟨E.out,rfl,f.out⟩
 .have d1:=df_ ((400:Int)<bx.size)
  have B:(A3K a bx sp).length<=400000:=by
   have V:=A4m bx.data.toList 400 ((J8 a sp).map (·.data.toList)) (λx N=>by
    obtain⟨s,hs,rfl⟩:=List.mem_map.1 N;have:=i s hs;simp;omega)
   rw[List.length_map,k,show bx.data.toList.length=bx.size by simp] at V;unfold A3K;have h2:(sp.length+1)*(400+bx.size)<=402*800:=Nat.mul_le_mul (by omega) (by omega);omega
  have Y:=hid B;have ap:=hid k;have H:=hid hb;generalize hpc:J8 a sp=pc at *;have G:=hid hpc;have aa:pc.length<=402:=by omega
  clear i k B hpc hb;go_enter func30,ntmps30;go_wp2_with fail;refine F.out.mono ?_;rintro e L⟨g,cap,rfl,b,d⟩;have f:=hid d;have P:=Rd.of_own b;obtain⟨A',n',ae,hv,A,R,Q,z⟩:=P;injection hv with e1 e2 e3
  subst e1;subst e2;subst e3
  have c:∀(j:Nat) x,pc[j]?=some x->L.cell? ⟨g,0+j,none⟩=some (.string x):=λj x hj=>by
   have hj':=(List.getElem?_eq_some_iff.1 hj).1;obtain⟨b',Z,T,hc⟩:=z (by omega);injection T with T
   injection T with V h2
   subst V;subst h2;exact hc j (.string x) (by simp[T0,hj])
  have S:g<L.heap.size:=(b.lt g rfl).2;have HJ:=hid (B1L g 0 cap pc bx L c S (by omega) A (by have:=Y.out;unfold A3K at this;rw[G.out] at this;omega));clear b d c A R Q z;go_wp2_with fail;refine HJ.out.mono ?_;rintro e w2⟨rfl,C⟩;have J:=hid (f.out.trans (C.mono f.out.size));obtain⟨r,o⟩:∃r,r=A3K a bx sp:=⟨_,rfl⟩
  have q:Go.Lib.join (pc.map (·.data.toList)) bx.data.toList=r:=by rw[o];unfold A3K;rw[G.out]
  rw[q];have X:=hid o;have p:(ByteArray.mk r.toArray).size=r.length:=by show r.toArray.size=_;simp
  clear C HJ o q;by_cases h4:400<r.length
  .have E:Hid (A2z l a bx sp=3):=hid (by unfold A2z;rw[if_neg (by simp[m.out]),if_neg H.out,if_pos (by rw[←X.out];exact h4)])
   have d2:decide ((400:Int)<((ByteArray.mk r.toArray).size:Int))=true:=by rw[p];simp;omega
   have d3:=dt_ ((400:Int)<r.length);clear h4;go_wp2_with fail;go_ret2;exact .inr ⟨E.out,rfl,J.out⟩
  .have E:Hid (A2z l a bx sp=0):=hid (by unfold A2z;rw[if_neg (by simp[m.out]),if_neg H.out,if_neg (by rw[←X.out];exact h4)])
   have d2:decide ((400:Int)<((ByteArray.mk r.toArray).size:Int))=false:=by rw[p];simp;omega
   have d3:=df_ ((400:Int)<r.length);clear h4;go_wp2_with fail;go_ret2;exact .inl ⟨E.out,by rw[←X.out];rfl,J.out⟩
