import Derived.Test.YthhcpbfgoofppaaGreatDoorGKd
import Derived.Test.YthhcpbfgoofppaaGreatDoorGSim
import Derived.Test.YthhcpbfgoofppaaGreatDoorGWd
import Derived.Laws.AppendOwnNone
import Derived.RangeFuncBox
import Derived.Maps.AppendAt
set_option linter.unusedVariables false
set_option linter.unusedSimpArgs false
open Wf
set_option maxRecDepth 100000
set_option maxHeartbeats 8000000
open Go.Lib (hid)
open Go.Proofs.Tryz hiding parts
namespace Go.Proofs.YthhcpbfgoofppaaGreatDoor
open Go.RowKit Wf
theorem A3Y(l:List Nat):(D0 l).length=l.length:=by simp[D0]
def B9c(n:Nat)(w:W_)(e:Ending)(w':W_):Prop :=
 ∃A cap,e=.returned (.slice A 0 cap)/\(n=0->A=none/\cap=0)/\w'.ownsRow w.heap.size 3 1 (.slice A 0 cap) 0 []/\Below w.heap.size w w'
theorem B32(n:Nat)(w:W_)(t:n<=10000):Calls prog 180 #[.slice none 0 0,.int .i64 n] w (B9c n w):=by
 by_cases l:n=0
 .subst l
  go_enter func180,ntmps180;go_wp2_with fail;go_ret;exact⟨none,0,rfl,λ_=>⟨rfl,rfl⟩,World.ownsRow_nil _ _ _ _,br_⟩
 .have l:0<n:=by omega
  obtain⟨o,j,f,d,c⟩:=info_parts A0B;have k:=λW=>A2n (P:=prog) W 191 3 191 3 o _ .i64 underlying191 underlying3 j f n l (by omega) (by rw[c];omega) (by rw[d];omega)
  have a:∀W:W_,∃cap:Nat,cap=grownCap W n 0 3/\n<=cap/\cap<=maxLen:=λW=>⟨_,rfl,grownCap_ge W n 0 _,grownCap_le_maxLen W n 0 _ (by unfold maxLen;omega)⟩
  obtain⟨cap,b,r,i⟩:=a w;have hle':cap<=9223372036854775807:=by unfold maxLen at i;omega
  have hap':=k w;rw[←b] at hap'
  have g:∀z:Array V_,z.size=1->(Builtin.zeroCells z n++Builtin.zeroCells z (cap - n)).size=cap*1:=λz p=>by
   rw[Array.size_append,size_zeroCells,size_zeroCells,p];omega
  have s:=hid g;have hge':(n:Int)<=cap:=by omega
  have q:(0:Int)<n:=by omega
  have m:=hid hap';clear a b k g j f d c hap';go_enter func180,ntmps180
  go_wp2_with (at_builtin;refine A21 _ rfl (.tmp 20) (.tmp 21) _ _ rfl _ _ rfl rfl _ _ m.out ?_)
  go_ret;refine⟨_,cap,rfl,λh=>absurd h (by omega),?_,?_⟩
  .exact World.ownsRow_made w.drew _ cap (lr_ _) i (s.out _ rfl)
  .exact(br_.drew).alloc (lr_ _) _
def A5p(w:W_)(v:V_)(a:List Nat):Prop:=(v=.slice none 0 0/\a=[])\/0<a.length/\Rd1 w v (D0 a)
theorem N7.src{w0 w:W_}{v:V_}{a:List Nat}(h:N7 w0 w v a):A5p w v a:=by
 by_cases e:a=[]
 .exact .inl ⟨h.1.2 e,e⟩
 .exact .inr ⟨List.length_pos_iff.2 e,Rd.of_own h.2⟩
theorem A5p.below{w w':W_}{v:V_}{a:List Nat}(h:A5p w v a)(b:Below w.heap.size w w'):A5p w' v a:=by
 rcases h with h|⟨h0,h⟩
 .exact .inl h
 .exact .inr ⟨h0,h.below b⟩
theorem A5p.form{w:W_}{v:V_}{a:List Nat}(h:A5p w v a):∃A cap,v=.slice A a.length cap:=by
 rcases h with ⟨rfl,rfl⟩|⟨_,h⟩
 .exact⟨none,0,rfl⟩
 .obtain⟨A,n,cap,rfl,_,_,b,_⟩:=h
  have:n=a.length:=by simpa[D0] using b.symm
  subst this;exact⟨A,cap,rfl⟩
def A9q(l:List Nat)(w:W_)(e:Ending)(w':W_):Prop :=
 ∃A cap,e=.returned (.slice A l.length cap)/\N7 w w' (.slice A l.length cap) l/\Below w.heap.size w w'
theorem A9p(d:List (List Nat))(g:List V_)(b D:Nat)(w:W_)(z:g.length=d.length)(aw:g.length<=D)(ak:D<=9223372036854775807)(av:d.length<=100)
 (hc:∀(j:Nat)(u:V_),g[j]?=some u->w.cell? ⟨b,j,none⟩=some u) (hbl:b<w.heap.size)
 (hr:∀(j:Nat)(u:V_) (l:List Nat),g[j]?=some u->d[j]?=some l->A5p w u l) (h1:d.flatten.length<=10000):
 Calls prog 155 #[.slice (some ⟨b,0,none⟩) g.length D] w (A9q d.flatten w):=by
 obtain⟨i0,Y,ah,ag,af⟩:=info_parts A0B;have HC:=hid hc;have HR:=hid hr;have HL:=hid z;have hfew':g.length<=100:=by omega
 have X:∀k,(d.take k).flatten.length<=d.flatten.length:=A4g d;have R:=hid X;have O:(d.take g.length).flatten=d.flatten:=by rw[z,List.take_length]
 have E:=hid O;clear hc hr z X O;go_enter func155,ntmps155;go_wp2
 go_loop [3,11] (λv3 v11=>∃k n:Nat,k<=g.length/\v11=.int .i64 k/\v3=.int .i64 n/\Hid (n=(d.take k).flatten.length)) (λ_ i=>g.length - (intOf i).toNat)
 case atStart=>exact⟨0,0,by omega,rfl,rfl,hid rfl⟩
 case round =>
  obtain⟨k,n,hk,rfl,rfl,hn⟩:=hrel;by_cases hlt:k<g.length
  .obtain⟨u,F⟩:=A1N hlt
   obtain⟨l,N⟩:=A1N (show k<d.length by rw[←HL.out];exact hlt);have t:=HR.out k u l F N;obtain⟨A,cap,rfl⟩:=t.form;have P:=HC.out k _ F;have a:(d.take (k+1)).flatten.length=n+l.length:=by rw[A0y N,List.length_append,hn.out]
   have o:=R.out (k+1);have J:n+l.length<=10000:=by omega
   have Q:=hid a;clear a o F N t;go_wp2
   go_round
   case rel=>exact⟨k+1,n+l.length,by omega,by go_num,by go_num,hid Q.out.symm⟩
   case measure=>simp[intOf];omega
  .obtain rfl:k=g.length:=by omega
   have S:n=d.flatten.length:=by rw[hn.out,E.out]
   have ai:n<=10000:=by omega
   have al:=hid S;clear S hn;go_wp2_with fail;refine(B32 n _ ai).mono ?_;rintro e w1⟨A,cap,rfl,f,c,o⟩;have hown':Hid (w1.ownsRow w.heap.size 3 1 (.slice A 0 cap) 0 (D0 ((d.take 0).flatten))):=hid c;have ac:=hid f;clear c f;go_wp2_with fail
   go_loopw [6,27] (λv6 v27 wr=>∃(k m cap:Nat)(A:Option Addr),k<=g.length/\v27=.int .i64 k/\v6=.slice A m cap/\Hid (m=(d.take k).flatten.length)/\Hid (d.flatten=[]->A=none/\cap=0)/\Hid (wr.ownsRow w.heap.size 3 1 (.slice A m cap) m (D0 (d.take k).flatten))/\Below w.heap.size w wr) (λ_ i _=>g.length - (intOf i).toNat)
   case atStart=>exact⟨0,0,cap,A,by omega,rfl,rfl,hid rfl,hid (λh=>ac.out (by rw[al.out,h];rfl)),hown',o⟩
   case round =>
    obtain⟨k,m,cap,A,hk,rfl,rfl,G,f,c,s⟩:=hrel;by_cases hlt:k<g.length
    .obtain⟨u,F⟩:=A1N hlt
     obtain⟨l,N⟩:=A1N (show k<d.length by rw[←HL.out];exact hlt);have a:(d.take (k+1)).flatten=(d.take k).flatten++l:=A0y N;have P:=(s.cell (p:=⟨b,k,none⟩) hbl).trans (HC.out k _ F);have o:=R.out (k+1);have J:m+l.length<=10000:=by rw[a,List.length_append,←G.out] at o;omega
     rcases(HR.out k u l F N).below s with ⟨rfl,rfl⟩|⟨hpos,t⟩
     .have Q:=hid a
      clear a o F N
      go_wp2_with (at_builtin;refine wpList_append_own_none rfl (.tmp 31) (.tmp 32) _ rfl w.heap.size 3 i0 1 underlying191 Y _ m _ rfl c.out rfl ?_)
      go_roundw
      case rel=>exact⟨k+1,m,cap,A,by omega,by go_num,rfl,hid (by rw[Q.out,List.append_nil];exact G.out),f,hid (by rw[Q.out,List.append_nil];exact c.out),s⟩
      case measure=>simp[intOf];omega
     .obtain⟨B,q,az,rfl,hm,L⟩:=t.src (by omega)
      rw[A3Y] at hm;obtain rfl:q=l.length:=by omega
      obtain⟨ad,rfl,ay,r⟩:=L hpos
      have M:∀u∈D0 l,u.oneCell'=true:=λu F=>by
       obtain⟨x,_,rfl⟩:=List.mem_map.1 F
       rfl
      have T:(D0 l).length=l.length*1:=by rw[A3Y];omega
      have V:d.flatten≠[]:=λe=>by
       have Z:=R.out (k+1);rw[a,List.length_append] at Z;have h3:d.flatten.length=0:=by rw[e];rfl
       omega
      have ao:=hid V;have Q:=hid a;have ap:=hid r;have ab:=hid M;have am:=hid T;have C:=s.size;clear a o F N t r M T hm L V
      go_wp2_with (at_builtin;refine wpList_append_lies _ rfl (.tmp 31) (.tmp 32) _ rfl w.heap.size 3 i0 _ 1 8 underlying191 Y ah ag af rfl (by omega) _ _ _ rfl c.out _ l.length _ (D0 l) rfl am.out ap.out ab.out hpos (by unfold maxLen;omega) (by omega) C _ rfl ?_;intro g2 aa w2 y H ax au)
      go_roundw
      case rel =>
       refine⟨k+1,m+l.length,aa,some ⟨g2,0,none⟩,by omega,by go_num,rfl,hid (by rw[Q.out,List.length_append,←G.out]),hid (λe=>absurd e ao.out),hid (by rw[Q.out];unfold D0 at y ⊢;rw[List.map_append];exact y),?_⟩;exact s.grown H C λq hq=>(c.out.lt q hq).1
      case measure=>simp[intOf];omega
    .obtain rfl:k=g.length:=by omega
     have h1:m=d.flatten.length:=by rw[G.out,E.out]
     have Z:=c.out;rw[E.out,h1] at Z;have H1:=hid h1;have H2:=hid Z;clear h1 Z;go_wp2;go_ret;refine⟨A,cap,by rw[H1.out];rfl,⟨⟨λe=>?_,λe=>?_⟩,H2.out⟩,s⟩
     .injection e with _ e2 _
      exact List.eq_nil_of_length_eq_zero e2
     .obtain⟨rfl,rfl⟩:=f.out e
      rw[e]
      rfl
theorem A9r(f d:List Nat)(v1 v2:V_)(b:Nat)(w:W_)(k:A5p w v1 f)(i:A5p w v2 d)(n:w.cell? ⟨b,0,none⟩=some v1)(m:w.cell? ⟨b,1,none⟩=some v2)(g:b<w.heap.size)(c:f.length+d.length<=10000):
 Calls prog 155 #[.slice (some ⟨b,0,none⟩) 2 2] w (A9q (f++d) w):=by
 have h:=A9p [f,d] [v1,v2] b 2 w rfl (by simp) (by omega) (by simp) (λj u a=>by
  match j,a with
  | 0,a=>simp at a;subst a;exact n
  | 1,a=>simp at a;subst a;exact m) g (λj u l a c=>by
  match j,a,c with
  | 0,a,c=>simp at a c;subst a;subst c;exact k
  | 1,a,c=>simp at a c;subst a;subst c;exact i) (by simpa using c)
 simpa using h
end Go.Proofs.YthhcpbfgoofppaaGreatDoor
namespace Go.Proofs.YthhcpbfgoofppaaGreatDoor
open Go.RowKit Go.Shelf Wf
attribute [local go_sem] Oper.semAt_some
theorem A4v{F:Fence}{n:Nat}{P:Program}(w:W_){d:Array Oper}{b:List Oper}{o:Oper}{a:Act}{Q:Exit->Act->World->Prop}
 (hg:o.guard=none) (s x:Operand) (t:TypeId) (hop:o.op=Op.call { callee:=Callee.builtin Builtin.append,args:=#[s,x],argTypes:=#[t,t] })
 (base:Nat) (e:TypeId) (i:TypeInfo) (z:V_) (size bytes:Nat) (h1:P.underlying t=some (.slice e)) (h2:P.info? e=some i) (h3:i.zero=some z) (h4:i.size=size) (h5:i.bytes=bytes) (h6:z.cells.size=size) (h7:0<size)
 (v:V_) (k:Nat) (xs:List V_) (hs:a.eval s=v) (hown:w.ownsRow base e size v k xs) (ad:Addr) (m c:Nat) (news:List V_) (hx:a.eval x=.slice (some ad) m c) (hn:news.length=m*size)
 (hc:∀j u,news[j]?=some u->w.cell? (ad.add j)=some u) (h1c:∀u∈news,u.oneCell'=true) (hm:0<m) (b1:k+m<=maxLen) (b2:(k+m)*bytes<=140737488355328) (b3:base<=w.heap.size)
 (hK:∀g cap w',w'.ownsRow base e size (.slice (some ⟨g,0,none⟩) (k+m) cap) (k+m) (xs++news)->w.grownBy w' v.ownBlock->(v.ownBlock=some g\/g=w.heap.size)->g<w'.heap.size->wpListIn F n P d Q b (a.put o.dst (.slice (some ⟨g,0,none⟩) (k+m) cap)) w'):
 wpListIn F n P d Q (o::b) a w:=by
 refine wpListIn_plain hg λK l=>?_
 obtain⟨g,cap,w',f,y,r,q,p⟩:=run_append_lies (P:=P) w t o.type base e i z size bytes h1 h2 h3 h4 h5 h6 h7 v k xs hown ad m c news hn hc h1c hm b1 b2 b3 _ rfl;unfold Oper.wpIn;refine⟨?_,?_⟩
 .simp[Oper.about,hop,resolve,Target.leads,Sem.run_pure]
 .rw[Oper.semAt_plain F _ _ (by rw[hop];intro c h;cases h)]
  simp[execOp,hop,resolve,invoke,builtin,hs,hx,f,Result.andThen];exact l _ _ (hK g cap w' y r q p)
def upV(a:List Nat)(k:Nat):List Nat:=(List.range k).map λj=>a.getD j 0
theorem B4F(a:List Nat)(k:Nat):upV a (k+1)=upV a k++[a.getD k 0]:=by simp[upV,List.range_succ]
theorem B6i(a:List Nat)(k:Nat):(upV a k).length=k:=by simp[upV]
theorem B6j(a:List Nat):upV a a.length=a:=by
 apply List.ext_getElem
 .simp[upV]
 .intro i c b
  simp[upV,List.getD,b]
theorem B4E(n:Nat)(N:1<=n)(l F d b f a cap:Nat)(g:List Nat)(C:a<=10000)(G:b<d)(J E:List Nat->World->Prop)
 (hY:∀c x W,J c W->c.length<a->YieldAt Fence.wide (n - 1) prog l #[.int .i64 ((x:Nat):Int)] W λe m =>
   (e=.returned (.bool true)/\J (c++[x]) m/\Below d W m)\/(e=.returned (.bool false)/\E (c++[x]) m))
 (W:W_) (hBs:W.cell? ⟨F,0,none⟩=some (.slice (some ⟨b,f,none⟩) a cap)) (hc:∀j,j<a->W.cell? ⟨b,f+j,none⟩=some (.int .i64 ((g.getD j 0:Nat):Int))) (h0:J [] W):
 CallsIn Fence.wide n prog 158 #[.func (.yield l) #[] #[],.pointer (some ⟨F,0,none⟩)] W λe m=>(∃v,e=.returned v) /\
  ((∃B,B=upV g a/\J B m)\/(∃c,True/\E c m)):=by
 refine callsIn_of_wp func158 rfl trivial ?_ rfl;simp only[ntmps158,List.size_toArray,List.length_cons,List.length_nil,Nat.reduceAdd,Nat.reduceSub,Array.replicate_succ,Array.replicate_zero,List.push_toArray,List.append_toArray,List.nil_append,List.cons_append]
 gi_wp2
 gi_loopw [7] (λi wr=>∃k:Nat,k<=a/\i=.int .i64 k/\J (upV g k) wr/\Below d W wr)
  (λi _=>a - (intOf i).toNat)
 case atStart=>exact⟨0,Nat.zero_le _,rfl,h0,br_⟩
 case round =>
  obtain⟨k,O,rfl,r,o⟩:=hrel;have y:k<a->wr.cell? ⟨b,f+k,none⟩=some (.int .i64 ((g.getD k 0:Nat):Int)):=λh=>(o.cell (p:=⟨b,f+k,none⟩) G).trans (hc k h)
  by_cases hlt:k<a
  .obtain⟨P,tmps,s,D,M,H⟩:=hY _ (g.getD k 0) wr r (by rw[B6i];exact hlt)
   have hcx':=y hlt;have L:=hid (B4F g k);generalize g.getD k 0=z at *
   gi_wp2
   refine H.mono ?_;rintro e Q (⟨rfl,A,t⟩|⟨rfl,q⟩)
   .gi_wp2
    go_roundw
    case rel=>exact⟨k+1,by omega,by simp,by rw[L.out];exact A,o.trans t⟩
    case measure=>simp[intOf];omega
   .gi_wp2
    refine bodyPost_ret (results_none rfl _ _ _) rfl ?_;exact⟨⟨_,rfl⟩,.inr ⟨_,trivial,q⟩⟩
  .obtain rfl:k=a:=by omega
   gi_wp2
   go_end0
   exact⟨⟨_,rfl⟩,.inl ⟨_,rfl,r⟩⟩
theorem B2I(n l b:Nat)(J:List Nat->World->Prop)(W:W_)(c:W.cell? ⟨b,0,none⟩=some (.slice none 0 0))(d:J [] W):
 CallsIn Fence.wide n prog 158 #[.func (.yield l) #[] #[],.pointer (some ⟨b,0,none⟩)] W λe f=>(∃v,e=.returned v)/\J [] f:=by
 refine callsIn_of_wp func158 rfl trivial ?_ rfl;simp only[ntmps158,List.size_toArray,List.length_cons,List.length_nil,Nat.reduceAdd,Nat.reduceSub,Array.replicate_succ,Array.replicate_zero,List.push_toArray,List.append_toArray,List.nil_append,List.cons_append]
 gi_wp2
 gi_loopw [7] (λi wr=>i=.int .i64 0/\J [] wr) (λ_ _=>0)
 case atStart=>exact⟨rfl,d⟩
 case round =>
  obtain⟨rfl,a⟩:=hrel
  gi_wp2
  go_end0
  exact⟨⟨_,rfl⟩,a⟩
def A4b(c:Nat)(W:W_)(f:V_)(d:List Nat):Prop :=
 (f=.slice none 0 0/\d=[])\/∃b a cap,f=.slice (some ⟨b,a,none⟩) d.length cap/\b<c/\∀j,j<d.length->W.cell? ⟨b,a+j,none⟩=some (.int .i64 ((d.getD j 0:Nat):Int))
theorem A4b.below{a:Nat}{A B:W_}(h:Below a A B){d:V_}{c:List Nat}:A4b a A d c->A4b a B d c
 | .inl e=>.inl e
 | .inr ⟨b,off,cap,e,hb,hc⟩=>.inr ⟨b,off,cap,e,hb,λj f=>(h.cell (p:=⟨b,off+j,none⟩) hb).trans (hc j f)⟩
theorem A5p.vints{w:W_}{v:V_}{c:List Nat}(h:A5p w v c):A4b w.heap.size w v c:=by
 rcases h with h|⟨h0,A,n,cap,hv,h1,h2,h3,h4⟩
 .exact .inl h
 .have f:n=c.length:=by simpa[D0] using h3.symm
  subst f;obtain⟨b,d,rfl,i⟩:=h4 h0;have a:∀j,j<c.length->w.cell? ⟨b,d+j,none⟩=some (.int .i64 ((c.getD j 0:Nat):Int)):=λj g=>i j _ (by simp[D0,List.getD,List.getElem?_eq_getElem g])
  have hlt:=World.block_lt_of_cell? w _ (a 0 h0);exact .inr ⟨b,d,cap,hv,hlt,a⟩
theorem A91(n:Nat)(s:1<=n)(f a:Nat)(m:V_)(c:List Nat)(g:c.length<=10000)(w:W_)(j:f<w.heap.size)(d:a<=w.heap.size)
 (t:w.cell? ⟨f,0,none⟩=some m) (hI:A4b a w m c):
 SeqStopsK Fence.wide n prog 158 #[.pointer (some ⟨f,0,none⟩)] (λx:Nat=>#[Value.int .i64 x]) (Below a) (λk=>k=c) (λ_=>True) c.length w:=λl J A W o _ _ y q=>by
 have hc':=(o.cell (p:=⟨f,0,none⟩) j).trans t;rcases hI.below (o.mono d) with ⟨rfl,rfl⟩|⟨b,off,cap,rfl,hb,hcs⟩
 .exact(B2I n l f J W hc' q).mono λe z ⟨i,h⟩=>⟨i,.inl ⟨_,rfl,h⟩⟩
 .refine(B4E n s l f a b off c.length cap c g hb J A y W hc' hcs q).mono ?_
  rintro e z⟨i,⟨k,rfl,h⟩|⟨r,_,h⟩⟩
  .exact⟨i,.inl ⟨_,B6j c,h⟩⟩
  .exact⟨i,.inr ⟨_,trivial,h⟩⟩
theorem A9u(j:Nat)(C:V_)(k:List Nat)(s:k.length<=10000)(w:W_)(B:w.cell? ⟨j,0,none⟩=some C)(hI:A4b w.heap.size w C k):
 Calls prog 181 #[.slice none 0 0,.func (.func 158) #[] #[.pointer (some ⟨j,0,none⟩)]] w (λe w'=>∃A cap,e=.returned (.slice A k.length cap)/\N7 w w' (.slice A k.length cap) k/\Below w.heap.size w w'):=by
 obtain⟨S,Y,G,F,E⟩:=info_parts A0B;have N:=World.block_lt_of_cell? w _ B;refine(callsIn_wide (n:=5)).1 ?_;refine callsIn_of_wp_marks func181 rfl trivial ?_ rfl;simp only[ntmps181,List.size_toArray,List.length_cons,List.length_nil,Nat.reduceAdd,Nat.reduceSub,Array.replicate_succ,Array.replicate_zero,List.push_toArray,List.append_toArray,List.nil_append,List.cons_append]
 gi_wp2_with fail
 have bO:=Boxed.new w 191 (.slice none 0 0);have i:Below w.heap.size w (w.alloc (.cells #[.slice none 0 0] 191)):=(Below.refl _ w).alloc (lr_ _) _
 refine wpIn_rangeFunc_ownF rfl (by omega) (gf:=158) (lb:=#[.pointer (some ⟨j,0,none⟩)]) rfl trivial (enters_of func158 (by kernel_rfl) rfl)
  (A91 4 (by omega) j w.heap.size C k s _ (by simp;omega) (by simp) ((i.cell (p:=⟨j,0,none⟩) N).trans B) (hI.below i)) belowK_t (belowK_b (by simp)) br_ (λ_=>rfl)
  (λa W=>(∃v,Boxed W w.heap.size 191 v/\W.ownsRow w.heap.size 3 1 v a.length (D0 a)/\(v=.slice none 0 0↔a=[]))/\Below w.heap.size w W)
  (λ_ _ _=>False)
  (OwnFrom.and (Own.from (holdsRow_own w.heap.size w.heap.size 191 3 1 (λa:List Nat=>a.length) (λa=>D0 a) (λa v=>v=.slice none 0 0↔a=[])) _) (ownFrom_below (lr_ _) (by simp)))
  (λ_ _ _ _ _ T _ _=>T)
  ⟨⟨_,bO,World.ownsRow_nil _ _ _ _,by simp⟩,i⟩
  (λx=>{ tmps:=#[.slice none 0 0,.func (.func 158) #[] #[.pointer (some ⟨j,0,none⟩)],.pointer (some ⟨w.heap.size,0,none⟩),undef,.slice none 0 0,.int .i64 x,.func (.func 158) #[] #[.pointer (some ⟨j,0,none⟩)],.int .i64 x,undef,undef,undef,undef,undef],defers:=[] }) ?assign ?body ?done ?stop
 case assign =>
  intro l x W K y
  gi_wp2
  exact y
 case body =>
  rintro l a x W⟨⟨v,q,b,_⟩,z⟩ hlt;have B:=q.cell;have V:=z.size;have X:=q.lt
  gi_wp2_with (first
   | (gi_at_builtin;refine A4v _ rfl (.tmp 8) (.tmp 10) 191 rfl w.heap.size 3 S _ 1 8 underlying191 Y G F E rfl (by decide) _ a.length (D0 a) rfl (b.alloc _) ⟨W.heap.size,0,none⟩ 1 1 [.int .i64 x] rfl rfl (cell_one_new _ _ _) (by simp[Value.oneCell']) (by omega) (by unfold maxLen;omega) (by omega) (by simp;omega) ?_;intro g P w4 d f hat O;obtain⟨o,J,L,M,t⟩:=q.appended (by decide) b z.size (by omega) d f;have aa:=o.cell;have Z:=o.frozen))
  exact⟨M,t,⟨_,J,by unfold D0 at *;simpa using L,by simp⟩,z.trans t⟩
 case done =>
  rintro D Q W hD rfl⟨⟨v,q,b,r⟩,z⟩ y;have B:=q.cell;obtain⟨VA,R,m,rfl,_,_,H,_⟩:=Rd.of_own b;obtain rfl:R=Q.length:=by simp[D0] at H;omega
  gi_wp2
  refine⟨by simp,.inl ⟨_,_,rfl,run_takeDeferred y,?_⟩⟩;exact⟨_,results_tmp rfl _ _ _,VA,m,rfl,⟨r,ownsRow_putObj b _ y rfl⟩,z.trans (belowK_b (w:=w) (lr_ _) W D _ _ (by simp at hD;omega) y rfl rfl)⟩
 case stop =>
  rintro D c a W _ _ h _;exact h.elim
end Go.Proofs.YthhcpbfgoofppaaGreatDoor
namespace Wf
theorem A8i:∀(c b:List Nat),b.Nodup->(∀j∈b,j∈c)->c.length<=b.length->c.Nodup
 | [],_,_,_,_=>List.nodup_nil
 | y::r,b,hn,h,hl=>by
   have d:y∉r:=λi=>by
    have:=List.Nodup.length_le_of_subset hn (l₂:=r) (λj f=>by
     rcases List.mem_cons.1 (h j f) with rfl|h
     .exact i
     .exact h)
    simp at hl;omega
   refine List.nodup_cons.2 ⟨d,A8i r (b.erase y) (hn.erase y) (λj f=>?_) ?_⟩
   .have g:=(hn.mem_erase_iff).1 f
    rcases List.mem_cons.1 (h j g.2) with rfl|h
    .exact absurd rfl g.1
    .exact h
   .have:=List.le_length_erase (a:=y) (l:=b)
    simp at hl;omega
theorem A82{ws:List (List U_)}{t:List U_}{l a:List Nat}(h:A1U ws t l)(b:∀j,j∈a↔j∈l)(f:a.length=l.length)(c:a.Pairwise (·<=·)):a=A3g ws t:=by
 have d:=A8i a l h.1 (λj g=>(b j).2 g) (Nat.le_of_eq f);refine A8K a _ ?_ (B5W ws t) λj=>by rw[b,h.2,A2k]
 have i:a.Pairwise λx y=>x<=y/\x≠y:=List.pairwise_and_iff.2 ⟨c,d⟩
 exact i.imp λh=>by omega
def A30(ws:List (List U_))(t:List U_)(e:Nat):List (Nat×Nat):=(A3g ws (t.take e)).map λi=>(i,e)
def G8(ws:List (List U_))(t:List U_)(n:Nat):List (Nat×Nat):=(List.range n).flatMap λi=>A30 ws t (i+1)
theorem A4P(ws:List (List U_))(t:List U_)(n:Nat):G8 ws t (n+1)=G8 ws t n++A30 ws t (n+1):=by
 simp[G8,List.range_succ,List.flatMap_append]
end Wf
namespace Go.Proofs.YthhcpbfgoofppaaGreatDoor
open Go.RowKit Wf
theorem B57(A:Option Addr)(n cap:Nat)(w:W_):Calls prog 128 #[.slice A n cap] w (λe w'=>e=.returned (.func (.func 158) #[] #[.pointer (some ⟨w.heap.size,0,none⟩)])/\w'=w.alloc (.cells #[.slice A n cap] 191)):=by
 have b:∀(a:Fn)(first cap:Array V_) (w:W_),(Instr.makeFunc a first cap).run prog w=.ok (.func a first cap) w:=λ_ _ _ _=>rfl
 go_enter func128,ntmps128;go_wp2_with fail;go_ret;exact⟨rfl,rfl⟩
theorem B34(c:Nat)(d:V_)(a:List Nat)(b:a.length<=10000)(w:W_)(g:w.cell? ⟨c,0,none⟩=some d)(h:A4b w.heap.size w d a):
 Calls prog 156 #[.func (.func 158) #[] #[.pointer (some ⟨c,0,none⟩)]] w (λe w'=>∃A cap,e=.returned (.slice A a.length cap)/\N7 w w' (.slice A a.length cap) a/\Below w.heap.size w w'):=by
 obtain⟨N,f⟩:∃N,N=a.length:=⟨_,rfl⟩
 have k:Hid (Calls prog 181 #[.slice none 0 0,.func (.func 158) #[] #[.pointer (some ⟨c,0,none⟩)]] w (λe w'=>∃A cap,e=.returned (.slice A N cap)/\N7 w w' (.slice A N cap) a/\Below w.heap.size w w')):=hid (by rw[f];exact A9u c d a b w g h);rw[←f];clear g h f;go_enter func156,ntmps156
 go_wp2_with (go_at_call 181;refine k.out.mono ?_;rintro e w'⟨A,cap,rfl,j,i⟩)
 go_ret;exact⟨A,cap,rfl,j,i⟩
def A9Y(b:List Nat)(N:Nat)(w:W_)(e:Ending)(w':W_):Prop:=∃A cap a,e=.returned (.slice A N cap)/\a.length=b.length/\(∀j,j∈a↔j∈b)/\a.Pairwise (·<=·)/\w'.ownsRow w.heap.size 3 1 (.slice A N cap) N (D0 a)/\Below w.heap.size w w'
theorem B6C(k:Nat)(l:V_)(b:List Nat)(d:b.length<=1000)(N:Nat)(j:N=b.length)(w:W_)(m:w.cell? ⟨k,0,none⟩=some l)(n:A4b w.heap.size w l b):
 Calls prog 127 #[.func (.func 158) #[] #[.pointer (some ⟨k,0,none⟩)]] w (A9Y b N w):=by
 have C:Hid (Calls prog 156 #[.func (.func 158) #[] #[.pointer (some ⟨k,0,none⟩)]] w (λe w'=>∃A cap,e=.returned (.slice A N cap)/\N7 w w' (.slice A N cap) b/\Below w.heap.size w w')):=hid (by rw[j];exact B34 k l b (by omega) w m n);have B:Hid (∀(v:V_)(c:W_),c.ownsRow w.heap.size 3 1 v N (D0 b)->Calls prog 157 #[v] c (B6E w.heap.size b v c)):=hid (λv c h=>B6D w.heap.size b v c (by rw[←j];exact h) d);have p:=hid j;clear m n j;unfold A9Y;go_enter func127,ntmps127
 go_wp2_with (first
  | (go_at_call 156;refine C.out.mono ?_;rintro e c⟨A,cap,rfl,a,f⟩;have i:=hid a;clear a)
  | (go_at_call 157;refine(B.out _ c (by have:=i.out.2;rw[←p.out] at this;exact this)).mono ?_;rintro e D⟨rfl,q,z,y,t,o,s⟩))
 go_ret;refine⟨A,cap,q,rfl,z,y,t,by rw[p.out] at o ⊢;exact o,f.grown s f.size (λg r=>(i.out.2.lt g r).1)⟩
