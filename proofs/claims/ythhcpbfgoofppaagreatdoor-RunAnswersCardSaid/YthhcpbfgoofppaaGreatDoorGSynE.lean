import Derived.Test.YthhcpbfgoofppaaGreatDoorGSynA
set_option linter.unusedVariables false
set_option linter.unusedSimpArgs false
open Wf
set_option maxRecDepth 100000
set_option maxHeartbeats 8000000
open Go.Lib (hid)
open Go.Proofs.Tryz hiding parts
namespace Go.Proofs.YthhcpbfgoofppaaGreatDoor
open Go.RowKit Wf
theorem A8R(a b:Nat)(h:a<=b):A8T a (b+1 - a)=V9 a b:=by
 have d:∀k,k<=a->A1B (λx=>decide (a<=x)) k=zc:=by
  intro k
  induction k with
  | zero=>intro _;rfl
  | succ k ih =>
    intro f;unfold A1B;rw[if_neg (by simp;omega),ih (by omega)]
 have c:∀k,A8T a k=A1B (λx=>decide (a<=x)) (a+k):=by
  intro k
  induction k with
  | zero=>rw[Nat.add_zero,d a (lr_ _)];rfl
  | succ k ih =>
    rw[←Nat.add_assoc];unfold A1B;rw[if_pos (by simp)];simp only[A8T];rw[ih]
 rw[c,show a+(b+1 - a)=b+1 by omega]
 rfl
structure RBn (w:W_) (pb:Nat) (s:B_) (i:Nat) (W:W_):Prop where
 pw:PW w pb s i W
 blk:J0 W w.heap.size 112 #[.int .u64 0,.int .u64 0,.int .u64 0,.int .u64 0]
theorem RBn.start{w:W_}{pb i:Nat}{s:B_}(h:PW w pb s i w)(t:TypeId)(a:t=112:=by rfl):RBn w pb s i (w.alloc (.cells #[.int .u64 0,.int .u64 0,.int .u64 0,.int .u64 0] t)):=by
 subst a;exact⟨h.below ba_,J0.new w _ _⟩
theorem RBn.step{w W b:W_}{pb i j:Nat}{s:B_}(h:RBn w pb s i W)(a:PW W pb s j b):RBn w pb s j b :=
 ⟨h.pw.trans a,(a.grow.block _ h.blk.lt (λe=>by have:=h.pw.lt;rw[←Option.some.inj e] at this;omega)).trans h.blk⟩
theorem RBn.below{w W b:W_}{pb i:Nat}{s:B_}(h:RBn w pb s i W)(a:Below W.heap.size W b):RBn w pb s i b:=⟨h.pw.below a,h.blk.kept a⟩
def RdC(r:PR (Nat×Nat))(pb:Nat)(s:B_)(w:W_)(e:Ending)(w':W_):Prop :=
 (∃d c b a:Nat,∃p j,r=.ok p j/\e=.returned (.agg #[.int .u64 d,.int .u64 c,.int .u64 b,.int .u64 a])/\(d,c,b,a)=V9 p.1 p.2/\PW w pb s j w')\/(∃k,r=.bad k/\PS w pb k e w')
def A0p(pb:Nat)(s:B_)(j:Nat)(c:X4)(w:W_)(e:Ending)(w':W_):Prop :=
 ∃f d b a:Nat,e=.returned (.agg #[.int .u64 f,.int .u64 d,.int .u64 b,.int .u64 a])/\(f,d,b,a)=c/\PW w pb s j w'
theorem A8M{W:W_}{g k:Nat}{t:TypeId}{cs:Array V_}(h:J0 W k t cs)(f:k≠g)(a b c d:V_):J0 ((((W.setCell ⟨g,0,none⟩ a).setCell ⟨g,1,none⟩ b).setCell ⟨g,2,none⟩ c).setCell ⟨g,3,none⟩ d) k t cs :=
 (((h.far f _).far f _).far f _).far f _
theorem PW.set4{w W:W_}{pb i g:Nat}{s:B_}(h:PW w pb s i W)(m:w.heap.size<=g)(a b c d:V_):PW w pb s i ((((W.setCell ⟨g,0,none⟩ a).setCell ⟨g,1,none⟩ b).setCell ⟨g,2,none⟩ c).setCell ⟨g,3,none⟩ d):=by
 have hlt:=h.lt;refine⟨A8M h.par (by omega) _ _ _ _,?_,h.lt⟩;have j:=h.grow;refine⟨j.os,j.tape,j.output,by have:=j.size;simpa using this,λq k l=>?_⟩;have f:q≠g:=by omega
 rw[Below.heap_setCell _ _ _ q f,Below.heap_setCell _ _ _ q f,Below.heap_setCell _ _ _ q f,Below.heap_setCell _ _ _ q f];exact j.block q k l
theorem B28{ev:V_}{pb:Nat}{s:B_}{i:Nat}(w:W_)(h:T9 ev pb s i w){k:Nat}(d:D4 s.data.toList i=.bad k):
 Calls prog 219 #[.pointer (some ⟨pb,0,none⟩)] w (PS w pb k):=by
 have j:=h.pw;have m:(w.alloc (.cells #[.int .u64 0,.int .u64 0,.int .u64 0,.int .u64 0] 112)).cell? ⟨pb,1,none⟩=some (.int .i64 i):=(h.pw.below ba_).c1;have b:Hid (∀W,Below w.heap.size w W->Calls prog 211 #[.pointer (some ⟨pb,0,none⟩)] W (PS W pb k)):=hid λW g=>(A2w W (h.below g)).mono λe w' f=>f.bad d
 clear h d;unfold PS at *;go_enter func219,ntmps219
 go_wp2_with (first
  | (go_at_call 211;refine(b.out _ ba_).mono ?_;rintro e l⟨rfl,a⟩;have c:=hid ((RBn.start j _).pw.grow.trans a)))
 exact⟨rfl,rfl,c.out⟩
theorem B45{ev:V_}{pb:Nat}{s:B_}{i:Nat}(w:W_)(h:T9 ev pb s i w){b j:Nat}(r:D4 s.data.toList i=.ok b j)(A:s.data.toList[j]?≠some 45):
 Calls prog 219 #[.pointer (some ⟨pb,0,none⟩)] w (A0p pb s j (V9 b b) w):=by
 have t:=h.pw;have c1:(w.alloc (.cells #[.int .u64 0,.int .u64 0,.int .u64 0,.int .u64 0] 112)).cell? ⟨pb,1,none⟩=some (.int .i64 i):=(h.pw.below ba_).c1;have y:Hid (∀W,Below w.heap.size w W->Calls prog 211 #[.pointer (some ⟨pb,0,none⟩)] W (z8 pb s j b W)):=hid λW H=>(A2w W (h.below H)).mono λe w' G=>G.ok r
 obtain⟨F,d,p⟩:=T8 r;rw[O7] at d;have P:Hid (∀W,PW w pb s j W->Calls prog 149 #[.pointer (some ⟨pb,0,none⟩),.int .u8 45] W (t8 W)):=hid λW D=>A5Y (c:=45) W D.here h.sz d A
 have O:=hid λW=>A9b b b W (lr_ _) p
 have N:=hid (A8R b b (lr_ _));clear h r A;unfold A0p;go_enter func219,ntmps219
 go_wp2_with (first
  | (go_at_call 211;refine(y.out _ ba_).mono ?_;rintro e C⟨rfl,o⟩;have g:=hid ((RBn.start t _).step o))
  | (go_at_call 149;refine(P.out C g.out.pw).mono ?_;rintro e w2⟨rfl,q⟩;have z:=hid (g.out.below q))
  | (go_at_call 224;refine(O.out _).mono ?_;rintro e w4⟨n,m,l,k,rfl,B,f⟩;have a:=hid (z.out.below f);have Q:=hid B;clear B f;obtain⟨⟨x0,Z,Y,X⟩,V,T,S,R⟩:=V1 a.out.blk;have E:=a.out.blk.lt))
 refine bodyPost_ret (v:=C6 (n,m,l,k)) ?_ rfl ⟨n,m,l,k,rfl,by rw[Q.out,N.out],?_⟩
 .obtain⟨t,M,L,J⟩:=(V1 ((N3 a.out.blk (.int .u64 n) (.int .u64 m) (.int .u64 l) (.int .u64 k)).alloc (.cells #[.int .u64 n,.int .u64 m,.int .u64 l,.int .u64 k] 112))).1
  simp[results,results219,go_sem,C6,t,M,L,J]
 .exact(a.out.pw.set4 (lr_ _) _ _ _ _).below ba_
theorem B27{ev:V_}{pb:Nat}{s:B_}{i:Nat}(w:W_)(h:T9 ev pb s i w){A j k:Nat}(r:D4 s.data.toList i=.ok A j)(n:s.data.toList[j]?=some 45)(a:D4 s.data.toList (j+1)=.bad k):
 Calls prog 219 #[.pointer (some ⟨pb,0,none⟩)] w (PS w pb k):=by
 have G:=h.pw;have L:(w.alloc (.cells #[.int .u64 0,.int .u64 0,.int .u64 0,.int .u64 0] 112)).cell? ⟨pb,1,none⟩=some (.int .i64 i):=(h.pw.below ba_).c1;have y:Hid (∀W,Below w.heap.size w W->Calls prog 211 #[.pointer (some ⟨pb,0,none⟩)] W (z8 pb s j A W)):=hid λW F=>(A2w W (h.below F)).mono λe w' q=>q.ok r
 obtain⟨E,o,D⟩:=T8 r;rw[O7] at o;have H:Hid (∀W,PW w pb s j W->Calls prog 149 #[.pointer (some ⟨pb,0,none⟩),.int .u8 45] W (E9 pb s j W)):=hid λW f=>A07 (c:=45) W f.here h.sz n
 have p:=V0 n;rw[O7] at p;have t:Hid (∀W,PW w pb s (j+1) W->Calls prog 211 #[.pointer (some ⟨pb,0,none⟩)] W (PS W pb k)):=hid λW f=>(A2w W (h.next f (by omega))).mono λe w' q=>q.bad a
 clear h r n a;unfold PS at *;go_enter func219,ntmps219
 go_wp2_with (first
  | (go_at_call 211;refine(y.out _ ba_).mono ?_;rintro e C⟨rfl,m⟩;have d:=hid ((RBn.start G _).step m))
  | (go_at_call 149;refine(H.out C d.out.pw).mono ?_;rintro e B⟨rfl,l⟩;have b:=hid (d.out.step l))
  | (go_at_call 211;refine(t.out B b.out.pw).mono ?_;rintro e J⟨rfl,g⟩;have z:=hid (b.out.pw.grow.trans g)))
 exact⟨rfl,rfl,z.out⟩
theorem B26{ev:V_}{pb:Nat}{s:B_}{i:Nat}(w:W_)(h:T9 ev pb s i w){g j k E:Nat}(y:D4 s.data.toList i=.ok g j)(p:s.data.toList[j]?=some 45)(b:D4 s.data.toList (j+1)=.ok k E)(hlt:k<g):
 Calls prog 219 #[.pointer (some ⟨pb,0,none⟩)] w (PS w pb i):=by
 have M:=h.pw;have Q:(w.alloc (.cells #[.int .u64 0,.int .u64 0,.int .u64 0,.int .u64 0] 112)).cell? ⟨pb,1,none⟩=some (.int .i64 i):=(h.pw.below ba_).c1;have B:Hid (∀W,Below w.heap.size w W->Calls prog 211 #[.pointer (some ⟨pb,0,none⟩)] W (z8 pb s j g W)):=hid λW L=>(A2w W (h.below L)).mono λe w' t=>t.ok y
 obtain⟨J,q,H⟩:=T8 y;rw[O7] at q;have N:Hid (∀W,PW w pb s j W->Calls prog 149 #[.pointer (some ⟨pb,0,none⟩),.int .u8 45] W (E9 pb s j W)):=hid λW l=>A07 (c:=45) W l.here h.sz p
 have r:=V0 p;rw[O7] at r;have A:Hid (∀W,PW w pb s (j+1) W->Calls prog 211 #[.pointer (some ⟨pb,0,none⟩)] W (z8 pb s E k W)):=hid λW l=>(A2w W (h.next l (by omega))).mono λe w' t=>t.ok b
 have z:=hid λW=>B6F g k W hlt
 clear h y p b;unfold B13 m7 at z;simp only[show ¬((1:Int)=0) by decide,if_false] at z;unfold PS A1A;go_enter func219,ntmps219
 go_wp2_with (first
  | (go_at_call 211;refine(B.out _ ba_).mono ?_;rintro e G⟨rfl,o⟩;have f:=hid ((RBn.start M _).step o))
  | (go_at_call 149;refine(N.out G f.out.pw).mono ?_;rintro e F⟨rfl,n⟩;have d:=hid (f.out.step n))
  | (go_at_call 211;refine(A.out F d.out.pw).mono ?_;rintro e P⟨rfl,m⟩;have D:=hid (d.out.step m))
  | (go_at_call 224;refine(z.out _).mono ?_;rintro e O⟨rfl,a⟩;have C:=hid (D.out.below a);clear a))
 exact⟨rfl,rfl,(C.out.pw.below ba_).grow⟩
theorem B44{ev:V_}{pb:Nat}{s:B_}{i:Nat}(w:W_)(h:T9 ev pb s i w){d j f r:Nat}(G:D4 s.data.toList i=.ok d j)(B:s.data.toList[j]?=some 45)(b:D4 s.data.toList (j+1)=.ok f r)(g:d<=f):
 Calls prog 219 #[.pointer (some ⟨pb,0,none⟩)] w (A0p pb s r (V9 d f) w):=by
 have H:=h.pw;have c1:(w.alloc (.cells #[.int .u64 0,.int .u64 0,.int .u64 0,.int .u64 0] 112)).cell? ⟨pb,1,none⟩=some (.int .i64 i):=(h.pw.below ba_).c1;have L:Hid (∀W,Below w.heap.size w W->Calls prog 211 #[.pointer (some ⟨pb,0,none⟩)] W (z8 pb s j d W)):=hid λW T=>(A2w W (h.below T)).mono λe w' F=>F.ok G
 obtain⟨S,C,R⟩:=T8 G;rw[O7] at C;have HI:Hid (∀W,PW w pb s j W->Calls prog 149 #[.pointer (some ⟨pb,0,none⟩),.int .u8 45] W (E9 pb s j W)):=hid λW t=>A07 (c:=45) W t.here h.sz B
 have D:=V0 B;rw[O7] at D;have J:Hid (∀W,PW w pb s (j+1) W->Calls prog 211 #[.pointer (some ⟨pb,0,none⟩)] W (z8 pb s r f W)):=hid λW t=>(A2w W (h.next t (by omega))).mono λe w' F=>F.ok b
 obtain⟨_,_,E⟩:=T8 b;have HR:=hid λW=>A9b d f W g E
 have Z:=hid (A8R d f g);clear h G B b;unfold A0p;go_enter func219,ntmps219
 go_wp2_with (first
  | (go_at_call 211;refine(L.out _ ba_).mono ?_;rintro e P⟨rfl,A⟩;have m:=hid ((RBn.start H _).step A))
  | (go_at_call 149;refine(HI.out P m.out.pw).mono ?_;rintro e O⟨rfl,z⟩;have l:=hid (m.out.step z))
  | (go_at_call 211;refine(J.out O l.out.pw).mono ?_;rintro e w3⟨rfl,y⟩;have M:=hid (l.out.step y))
  | (go_at_call 224;refine(HR.out _).mono ?_;rintro e w4⟨q,p,o,n,rfl,N,k⟩;have a:=hid (M.out.below k);have HD:=hid N;clear N k;obtain⟨⟨x0,x1,x2,x3⟩,y0,y1,y2,y3⟩:=V1 a.out.blk;have Q:=a.out.blk.lt))
 refine bodyPost_ret (v:=C6 (q,p,o,n)) ?_ rfl ⟨q,p,o,n,rfl,by rw[HD.out,Z.out],?_⟩
 .obtain⟨H,Y,X,V⟩:=(V1 ((N3 a.out.blk (.int .u64 q) (.int .u64 p) (.int .u64 o) (.int .u64 n)).alloc (.cells #[.int .u64 q,.int .u64 p,.int .u64 o,.int .u64 n] 112))).1
  simp[results,results219,go_sem,C6,H,Y,X,V]
 .exact(a.out.pw.set4 (lr_ _) _ _ _ _).below ba_
theorem A4A{ev:V_}{pb:Nat}{s:B_}{i:Nat}(w:W_)(h:T9 ev pb s i w):
 Calls prog 219 #[.pointer (some ⟨pb,0,none⟩)] w (RdC (W5 s.data.toList i) pb s w):=by
 have m6:∀p j,W5 s.data.toList i=.ok p j->Calls prog 219 #[.pointer (some ⟨pb,0,none⟩)] w (A0p pb s j (V9 p.1 p.2) w)->Calls prog 219 #[.pointer (some ⟨pb,0,none⟩)] w (RdC (W5 s.data.toList i) pb s w):=λp j b a=>a.mono λe w' ⟨d0,d1,d2,d3,q1,q2,q3⟩=>.inl ⟨d0,d1,d2,d3,p,j,b,q1,q2,q3⟩
 have bad:∀k,W5 s.data.toList i=.bad k->Calls prog 219 #[.pointer (some ⟨pb,0,none⟩)] w (PS w pb k)->Calls prog 219 #[.pointer (some ⟨pb,0,none⟩)] w (RdC (W5 s.data.toList i) pb s w):=λk b a=>a.mono λe w' c=>.inr ⟨k,b,c⟩
 cases hO:D4 s.data.toList i with
 | bad k=>exact bad k (by unfold W5;rw[hO]) (B28 w h hO)
 | ok lo j =>
   by_cases hm:s.data.toList[j]?=some 45
   .cases hO2:D4 s.data.toList (j+1) with
    | bad k=>exact bad k (by unfold W5;rw[hO];simp only[if_pos hm];rw[hO2]) (B27 w h hO hm hO2)
    | ok hi j' =>
      by_cases hlt:hi<lo
      .exact bad i (by unfold W5;rw[hO];simp only[if_pos hm];rw[hO2];simp only[if_pos hlt]) (B26 w h hO hm hO2 hlt)
      .exact m6 (lo,hi) j' (by unfold W5;rw[hO];simp only[if_pos hm];rw[hO2];simp only[if_neg hlt]) (B44 w h hO hm hO2 (by omega))
   .exact m6 (lo,lo) j (by unfold W5;rw[hO];simp only[if_neg hm]) (B45 w h hO hm)
theorem A6d{d:X4}{p:Nat×Nat}(h:d=V9 p.1 p.2):P5 d:=by rw[h];exact A17 _ _
structure IB (w:W_) (pb:Nat) (s:B_) (i B:Nat) (c0 c1 c2 c3:Nat) (W:W_):Prop where
 rb:RBn w pb s i W
 blk:J0 W B 112 #[.int .u64 c0,.int .u64 c1,.int .u64 c2,.int .u64 c3]
 hB:w.heap.size<B
theorem IB.start{w W:W_}{pb i:Nat}{s:B_}(h:RBn w pb s i W):IB w pb s i W.heap.size 0 0 0 0 (W.alloc (.cells #[.int .u64 0,.int .u64 0,.int .u64 0,.int .u64 0] 112)) :=
 ⟨h.below ba_,J0.new W _ _,h.blk.lt⟩
theorem IB.step{w W g:W_}{pb i j B f d c b:Nat}{s:B_}(h:IB w pb s i B f d c b W)(a:PW W pb s j g):IB w pb s j B f d c b g :=
 ⟨h.rb.step a,(a.grow.block _ h.blk.lt (λe=>by have l:=h.rb.pw.lt;have k:=h.hB;rw[Option.some.inj e] at k;omega)).trans h.blk,h.hB⟩
theorem IB.below{w W g:W_}{pb i B f d c b:Nat}{s:B_}(h:IB w pb s i B f d c b W)(a:Below W.heap.size W g):IB w pb s i B f d c b g:=⟨h.rb.below a,h.blk.kept a,h.hB⟩
theorem IB.put{w W:W_}{pb i B k j g f:Nat}{s:B_}(h:IB w pb s i B k j g f W)(d c b a:Nat):
 IB w pb s i B d c b a ((((W.setCell ⟨B,0,none⟩ (.int .u64 d)).setCell ⟨B,1,none⟩ (.int .u64 c)).setCell ⟨B,2,none⟩ (.int .u64 b)).setCell ⟨B,3,none⟩ (.int .u64 a)) :=
 ⟨⟨h.rb.pw.set4 (Nat.le_of_lt h.hB) _ _ _ _,A8M h.rb.blk (by have:=h.hB;omega) _ _ _ _⟩,N3 h.blk _ _ _ _,h.hB⟩
def RdK(r:PR X4)(pb:Nat)(s:B_)(w:W_)(e:Ending)(w':W_):Prop :=
 (∃c j,r=.ok c j/\A0p pb s j c w e w')\/(∃k,r=.bad k/\PS w pb k e w')
def A2x(b:Bool)(r:PR X4):PR X4:=match r with
 | .bad k=>.bad k
 | .ok c j=>.ok (if b then p8 c else c) j
theorem B25{ev:V_}{pb:Nat}{s:B_}{r:Nat}(w:W_)(h:T9 ev pb s r w)(hm:s.data.toList[r]?=some 94):
 Calls prog 210 #[.pointer (some ⟨pb,0,none⟩)] w (RdK (A2x true (J3 s.data.toList (r+1) zc)) pb s w):=by
 have X:=h.pw;have HI:Hid (∀W,PW w pb s r W->Calls prog 149 #[.pointer (some ⟨pb,0,none⟩),.int .u8 94] W (E9 pb s r W)):=hid λW C=>A07 (c:=94) W C.here h.sz hm
 have Z:=hid h;have Q:=h.sz;have J:Hid ((r+1)<=s.size):=hid (by first | (have:=V0 hm;rw[O7] at this;omega) | exact h.le);clear h hm;unfold RdK A0p;go_enter func210,ntmps210
 go_wp2_with (go_at_call 149;refine(HI.out _ (RBn.start X _).pw).mono ?_;rintro e w1⟨rfl,S⟩;have O:=hid ((RBn.start X _).step S);clear S)
 have hB:=O.out.blk.lt;have Y:=hid (IB.start O.out);generalize w1.heap.size=B at *
 go_loopg [7] (s.size+1) (λgk _ wr=>∃(i H G F E:Nat),i<=s.size/\P5 (H,G,F,E)/\Hid (IB w pb s i B H G F E wr)/\Hid (J3 s.data.toList (r+1) zc=J3 s.data.toList i (H,G,F,E))/\Hid (s.size - i<gk))
 case atStart=>exact⟨_,0,0,0,0,J.out,N6,Y,hid rfl,hid (by omega)⟩
 case round =>
  clear Y O X;obtain⟨i,H,G,F,E,hi,n,g,l,HG⟩:=hrel;by_cases hend:s.data.toList[i]?=some 93
  .have L:Hid (∀W,PW w pb s i W->Calls prog 149 #[.pointer (some ⟨pb,0,none⟩),.int .u8 93] W (E9 pb s i W)):=hid λW C=>A07 (c:=93) W C.here Q hend
   have M:Hid (A2x true (J3 s.data.toList (r+1) zc)=.ok (if true then p8 (H,G,F,E) else (H,G,F,E)) (i+1)):=hid (by rw[l.out,j9 _ hend];rfl);simp only[Bool.false_eq_true,if_true,if_false] at M;clear hend l HG;have am:=hid λW=>B18 H G F E W n
   clear n
   go_wp2_with (first
    | (go_at_call 149;refine(L.out wr g.out.rb.pw).mono ?_;rintro e w2⟨rfl,R⟩;have b:=hid (g.out.step R);clear R;obtain⟨⟨x0,x1,x2,x3⟩,y0,y1,y2,y3⟩:=V1 b.out.blk)
    | (go_at_call 171;refine(am.out _).mono ?_;rintro e w3⟨A,z,y,t,rfl,N,V⟩;have m:=hid (b.out.below V);have HD:=hid N;clear N V;obtain⟨⟨p0,p1,p2,p3⟩,q0,q1,q2,q3⟩:=V1 m.out.rb.blk))
   refine bodyPost_ret (v:=C6 (A,z,y,t)) ?_ rfl (.inl ⟨_,_,M.out,A,z,y,t,rfl,HD.out,?_⟩)
   .obtain⟨X,f,P,h3⟩:=(V1 (N3 m.out.rb.blk (.int .u64 A) (.int .u64 z) (.int .u64 y) (.int .u64 t))).1
    simp[results,results210,go_sem,C6,X,f,P,h3]
   .exact m.out.rb.pw.set4 (lr_ _) _ _ _ _
  .have L:Hid (∀W,PW w pb s i W->Calls prog 149 #[.pointer (some ⟨pb,0,none⟩),.int .u8 93] W (t8 W)):=hid λW C=>A5Y (c:=93) W C.here Q hi hend
   cases hit:W5 s.data.toList i with
   | bad k =>
     have q:Hid (∀W,PW w pb s i W->Calls prog 219 #[.pointer (some ⟨pb,0,none⟩)] W (PS W pb k)):=hid λW C=>(A4A W (Z.out.next C hi)).mono λe w' hh=>by
      rcases hh with ⟨_,_,_,_,p,j,f,_⟩|⟨k',f,P⟩
      .rw[hit] at f;cases f
      .rw[hit] at f;cases f;exact P
     have M:Hid (A2x true (J3 s.data.toList (r+1) zc)=.bad k):=hid (by rw[l.out,q8 _ hend hit];rfl);clear hend l HG hit;unfold PS at *
     go_wp2_with (go_at_call 149;refine(L.out wr g.out.rb.pw).mono ?_;rintro e w2⟨rfl,o⟩;have b:=hid (g.out.below o);clear o;obtain⟨⟨x0,x1,x2,x3⟩,y0,y1,y2,y3⟩:=V1 b.out.blk)
     have a:=hid (b.out.below (br_.drew));obtain⟨⟨z0,z1,z2,z3⟩,_⟩:=V1 a.out.blk;refine wp_region_any (by kernel_rfl) ?_;change wpAny _ _ _ _ _ _ _ (World.drew _);refine wpAny_take (i:=1) (v:=.pointer (some ⟨pb,0,none⟩)) rfl (by kernel_rfl) (by kernel_rfl) (by kernel_rfl) (λ_ _ _ h=>h) (Or.inl ⟨by rfl,by intro w;go_simp⟩) ?_;refine wpAny_ready (rs:=[0,2]) (by kernel_rfl) (by simp) ?_;refine AllReady.cons rfl (λK hK=>?_) (AllReady.cons rfl (λK hK=>?_) AllReady.nil)
     .go_simp
      refine hK _ _ ?_;clear hK K;refine wpAny_ready (rs:=[2]) (by kernel_rfl) (by simp) ?_;refine AllReady.cons rfl (λK hK=>?_) AllReady.nil
      go_simp
      go_wp2_with (go_at_call 219;refine(q.out _ a.out.rb.pw).mono ?_;rintro e w3⟨rfl,d⟩)
      exact⟨rfl,.inr ⟨k,M.out,rfl,a.out.rb.pw.grow.trans d⟩⟩
     .go_simp
      go_wp2_with (go_at_call 219;refine(q.out _ a.out.rb.pw).mono ?_;rintro e w3⟨rfl,d⟩)
      exact⟨rfl,.inr ⟨k,M.out,rfl,a.out.rb.pw.grow.trans d⟩⟩
   | ok p j =>
     have q:Hid (∀W,PW w pb s i W->Calls prog 219 #[.pointer (some ⟨pb,0,none⟩)] W (A0p pb s j (V9 p.1 p.2) W)):=hid λW C=>(A4A W (Z.out.next C hi)).mono λe w' hh=>by
      rcases hh with ⟨A,z,y,t,p',j',f,P,h3,h4⟩|⟨k',f,P⟩
      .rw[hit] at f;cases f;exact⟨A,z,y,t,P,h3,h4⟩
      .rw[hit] at f;cases f
     have D:=A0A hit;rw[O7] at D;have aL:=D.1;have ah:=D.2.1;have ab:Hid (J3 s.data.toList (r+1) zc=J3 s.data.toList j (M9 (H,G,F,E) (V9 p.1 p.2))):=hid (by rw[l.out,s9 _ hend hit]);have ap:=hid λ(A z y t:Nat)(N:(A,z,y,t)=V9 p.1 p.2) W=>A50 H G F E A z y t W n (A6d N)
     have al:=hid (A1e n (A17 p.1 p.2));have ao:Hid (s.size - j<gk - 1):=hid (by have:=HG.out;omega);have aM:0<gk:=by have:=HG.out;omega
     clear hend l HG hit D n;unfold A0p at q
     go_wp2_with (go_at_call 149;refine(L.out wr g.out.rb.pw).mono ?_;rintro e w2⟨rfl,o⟩;have b:=hid (g.out.below o);clear o;obtain⟨⟨x0,x1,x2,x3⟩,y0,y1,y2,y3⟩:=V1 b.out.blk)
     have a:=hid (b.out.below (br_.drew))
     go_region_with (first
      | (go_at_call 219;refine(q.out _ a.out.rb.pw).mono ?_;rintro e w3⟨A,z,y,t,rfl,N,d⟩;have HD:=hid N;have m:=hid (a.out.step d);clear N d;obtain⟨⟨z0,z1,z2,z3⟩,v0,v1,v2,v3⟩:=V1 m.out.blk)
      | (go_at_call 218;refine(ap.out A z y t HD.out _).mono ?_;rintro e w4⟨f0,f1,f2,f3,rfl,hf,T⟩;have M:=hid hf;have ad:=hid (m.out.below T);clear hf T;obtain⟨⟨t0,t1,t2,t3⟩,u0,u1,u2,u3⟩:=V1 ad.out.blk))
     all_goals (
      go_wp2
      go_roundg (gk - 1)
      case rel=>exact⟨j,f0,f1,f2,f3,ah,by rw[M.out,HD.out];exact al.out,hid (ad.out.put f0 f1 f2 f3),hid (by rw[ab.out,M.out,HD.out]),ao⟩
      all_goals omega)
theorem B43{ev:V_}{pb:Nat}{s:B_}{y:Nat}(w:W_)(h:T9 ev pb s y w)(hm:s.data.toList[y]?≠some 94):
 Calls prog 210 #[.pointer (some ⟨pb,0,none⟩)] w (RdK (A2x false (J3 s.data.toList (y) zc)) pb s w):=by
 have S:=h.pw;have HI:Hid (∀W,PW w pb s y W->Calls prog 149 #[.pointer (some ⟨pb,0,none⟩),.int .u8 94] W (t8 W)):=hid λW z=>A5Y (c:=94) W z.here h.sz h.le hm
 have V:=hid h;have O:=h.sz;have D:Hid ((y)<=s.size):=hid (by first | (have:=V0 hm;rw[O7] at this;omega) | exact h.le);clear h hm;unfold RdK A0p;go_enter func210,ntmps210
 go_wp2_with (go_at_call 149;refine(HI.out _ (RBn.start S _).pw).mono ?_;rintro e w1⟨rfl,R⟩;have G:=hid ((RBn.start S _).below R);clear R)
 have hB:=G.out.blk.lt;have T:=hid (IB.start G.out);generalize w1.heap.size=B at *
 go_loopg [7] (s.size+1) (λgk _ wr=>∃(i r q o n:Nat),i<=s.size/\P5 (r,q,o,n)/\Hid (IB w pb s i B r q o n wr)/\Hid (J3 s.data.toList (y) zc=J3 s.data.toList i (r,q,o,n))/\Hid (s.size - i<gk))
 case atStart=>exact⟨_,0,0,0,0,D.out,N6,T,hid rfl,hid (by omega)⟩
 case round =>
  clear T G S;obtain⟨i,r,q,o,n,hi,A,g,l,X⟩:=hrel;by_cases hend:s.data.toList[i]?=some 93
  .have E:Hid (∀W,PW w pb s i W->Calls prog 149 #[.pointer (some ⟨pb,0,none⟩),.int .u8 93] W (E9 pb s i W)):=hid λW z=>A07 (c:=93) W z.here O hend
   have F:Hid (A2x false (J3 s.data.toList (y) zc)=.ok (if false then p8 (r,q,o,n) else (r,q,o,n)) (i+1)):=hid (by rw[l.out,j9 _ hend];rfl);simp only[Bool.false_eq_true,if_true,if_false] at F;clear hend l X;clear A
   go_wp2_with (go_at_call 149;refine(E.out wr g.out.rb.pw).mono ?_;rintro e w2⟨rfl,P⟩;have b:=hid (g.out.step P);clear P;obtain⟨⟨x0,x1,x2,x3⟩,y0,y1,y2,y3⟩:=V1 b.out.blk;obtain⟨⟨p0,p1,p2,p3⟩,q0,q1,q2,q3⟩:=V1 b.out.rb.blk)
   refine bodyPost_ret (v:=C6 (r,q,o,n)) ?_ rfl (.inl ⟨_,_,F.out,r,q,o,n,rfl,rfl,?_⟩)
   .obtain⟨S,f,H,h3⟩:=(V1 (N3 b.out.rb.blk (.int .u64 r) (.int .u64 q) (.int .u64 o) (.int .u64 n))).1
    simp[results,results210,go_sem,C6,S,f,H,h3]
   .exact b.out.rb.pw.set4 (lr_ _) _ _ _ _
  .have E:Hid (∀W,PW w pb s i W->Calls prog 149 #[.pointer (some ⟨pb,0,none⟩),.int .u8 93] W (t8 W)):=hid λW z=>A5Y (c:=93) W z.here O hi hend
   cases hit:W5 s.data.toList i with
   | bad k =>
     have t:Hid (∀W,PW w pb s i W->Calls prog 219 #[.pointer (some ⟨pb,0,none⟩)] W (PS W pb k)):=hid λW z=>(A4A W (V.out.next z hi)).mono λe w' hh=>by
      rcases hh with ⟨_,_,_,_,p,j,f,_⟩|⟨k',f,H⟩
      .rw[hit] at f;cases f
      .rw[hit] at f;cases f;exact H
     have F:Hid (A2x false (J3 s.data.toList (y) zc)=.bad k):=hid (by rw[l.out,q8 _ hend hit];rfl);clear hend l X hit;unfold PS at *
     go_wp2_with (go_at_call 149;refine(E.out wr g.out.rb.pw).mono ?_;rintro e w2⟨rfl,m⟩;have b:=hid (g.out.below m);clear m;obtain⟨⟨x0,x1,x2,x3⟩,y0,y1,y2,y3⟩:=V1 b.out.blk)
     have a:=hid (b.out.below (br_.drew));obtain⟨⟨z0,z1,z2,z3⟩,_⟩:=V1 a.out.blk;refine wp_region_any (by kernel_rfl) ?_;change wpAny _ _ _ _ _ _ _ (World.drew _);refine wpAny_take (i:=1) (v:=.pointer (some ⟨pb,0,none⟩)) rfl (by kernel_rfl) (by kernel_rfl) (by kernel_rfl) (λ_ _ _ h=>h) (Or.inl ⟨by rfl,by intro w;go_simp⟩) ?_;refine wpAny_ready (rs:=[0,2]) (by kernel_rfl) (by simp) ?_;refine AllReady.cons rfl (λK hK=>?_) (AllReady.cons rfl (λK hK=>?_) AllReady.nil)
     .go_simp
      refine hK _ _ ?_;clear hK K;refine wpAny_ready (rs:=[2]) (by kernel_rfl) (by simp) ?_;refine AllReady.cons rfl (λK hK=>?_) AllReady.nil
      go_simp
      go_wp2_with (go_at_call 219;refine(t.out _ a.out.rb.pw).mono ?_;rintro e w3⟨rfl,d⟩)
      exact⟨rfl,.inr ⟨k,F.out,rfl,a.out.rb.pw.grow.trans d⟩⟩
     .go_simp
      go_wp2_with (go_at_call 219;refine(t.out _ a.out.rb.pw).mono ?_;rintro e w3⟨rfl,d⟩)
      exact⟨rfl,.inr ⟨k,F.out,rfl,a.out.rb.pw.grow.trans d⟩⟩
   | ok p j =>
     have t:Hid (∀W,PW w pb s i W->Calls prog 219 #[.pointer (some ⟨pb,0,none⟩)] W (A0p pb s j (V9 p.1 p.2) W)):=hid λW z=>(A4A W (V.out.next z hi)).mono λe w' hh=>by
      rcases hh with ⟨N,M,L,J,p',j',f,H,h3,h4⟩|⟨k',f,H⟩
      .rw[hit] at f;cases f;exact⟨N,M,L,J,H,h3,h4⟩
      .rw[hit] at f;cases f
     have C:=A0A hit;rw[O7] at C;have aJ:=C.1;have ae:=C.2.1;have Y:Hid (J3 s.data.toList (y) zc=J3 s.data.toList j (M9 (r,q,o,n) (V9 p.1 p.2))):=hid (by rw[l.out,s9 _ hend hit]);have ak:=hid λ(N M L J:Nat)(hd:(N,M,L,J)=V9 p.1 p.2) W=>A50 r q o n N M L J W A (A6d hd)
     have ai:=hid (A1e A (A17 p.1 p.2));have aj:Hid (s.size - j<gk - 1):=hid (by have:=X.out;omega);have aK:0<gk:=by have:=X.out;omega
     clear hend l X hit C A;unfold A0p at t
     go_wp2_with (go_at_call 149;refine(E.out wr g.out.rb.pw).mono ?_;rintro e w2⟨rfl,m⟩;have b:=hid (g.out.below m);clear m;obtain⟨⟨x0,x1,x2,x3⟩,y0,y1,y2,y3⟩:=V1 b.out.blk)
     have a:=hid (b.out.below (br_.drew))
     go_region_with (first
      | (go_at_call 219;refine(t.out _ a.out.rb.pw).mono ?_;rintro e w3⟨N,M,L,J,rfl,hd,d⟩;have HD:=hid hd;have aa:=hid (a.out.step d);clear hd d;obtain⟨⟨z0,z1,z2,z3⟩,v0,v1,v2,v3⟩:=V1 aa.out.blk)
      | (go_at_call 218;refine(ak.out N M L J HD.out _).mono ?_;rintro e w4⟨f0,f1,f2,f3,rfl,hf,Q⟩;have F:=hid hf;have Z:=hid (aa.out.below Q);clear hf Q;obtain⟨⟨t0,t1,t2,t3⟩,u0,u1,u2,u3⟩:=V1 Z.out.blk))
     all_goals (
      go_wp2
      go_roundg (gk - 1)
      case rel=>exact⟨j,f0,f1,f2,f3,ae,by rw[F.out,HD.out];exact ai.out,hid (Z.out.put f0 f1 f2 f3),hid (by rw[Y.out,F.out,HD.out]),aj⟩
      all_goals omega)
theorem B1k{ev:V_}{pb:Nat}{s:B_}{i:Nat}(w:W_)(h:T9 ev pb s i w):
 Calls prog 210 #[.pointer (some ⟨pb,0,none⟩)] w (RdK (P2 s.data.toList i) pb s w):=by
 by_cases hm:s.data.toList[i]?=some 94
 .have e:P2 s.data.toList i=A2x true (J3 s.data.toList (i+1) zc):=by unfold P2 A2x;rw[if_pos hm];cases J3 s.data.toList (i+1) zc <;> rfl
  rw[e];exact B25 w h hm
 .have e:P2 s.data.toList i=A2x false (J3 s.data.toList i zc):=by unfold P2 A2x;rw[if_neg hm];cases J3 s.data.toList i zc <;> rfl
  rw[e];exact B43 w h hm
def P6(w:W_)(base:Nat)(v:V_)(l:List Nd):Prop:=w.ownsRow base 114 5 v l.length (l.flatMap P0)
theorem P6.grown{w w':W_}{base pb:Nat}{v:V_}{l:List Nd}(h:P6 w base v l)(a:w.grownBy w' (some pb))(b:pb<base):P6 w' base v l :=
 World.ownsRow.kept h a (.inr (λe=>by have:=(h.lt pb e).1;omega))
theorem P6.below{w w':W_}{base:Nat}{v:V_}{l:List Nd}(h:P6 w base v l)(a:Below w.heap.size w w'):P6 w' base v l :=
 World.ownsRow.kept (row:=none) h ⟨a.os,a.tape,a.output,a.size,λq b _=>a.block q b⟩ (by cases v.ownBlock <;> simp)
theorem P6.base{w:W_}{base a:Nat}{v:V_}{l:List Nd}(h:P6 w base v l)(b:a<=base):P6 w a v l:=by
 refine⟨h.1,?_⟩;rcases h.2 with hn|⟨g,cap,cur,hv,h1,rest⟩
 .exact .inl hn
 .exact .inr ⟨g,cap,cur,hv,Nat.le_trans b h1,rest⟩
theorem A3V(w:W_)(B:Nat)(g:w.heap.size=B)(base:Nat)(f:base<=w.heap.size)(op:Int)(d c b a:Nat):P6 (w.alloc (.cells #[.int .i64 op,.int .u64 d,.int .u64 c,.int .u64 b,.int .u64 a] 114)) base (.slice (some ⟨B,0,none⟩) 1 1) [⟨op,d,c,b,a⟩]:=by
 subst g;exact World.ownsRow_lit w _ 1 f (by unfold maxLen;omega) rfl
def T1(pb:Nat)(s:B_)(t:Rx)(j:Nat)(w:W_)(e:Ending)(w':W_):Prop :=
 ∃g cap,e=.returned (.slice (some ⟨g,0,none⟩) (A0 t).length cap)/\P6 w' w.heap.size (.slice (some ⟨g,0,none⟩) (A0 t).length cap) (A0 t)/\PW w pb s j w'
def RdT(r:PR Rx)(pb:Nat)(s:B_)(w:W_)(e:Ending)(w':W_):Prop :=
 (∃t j,r=.ok t j/\T1 pb s t j w e w')\/(∃k,r=.bad k/\PS w pb k e w')
theorem RdT.ok{r:PR Rx}{pb:Nat}{s:B_}{w w':W_}{e:Ending}{t:Rx}{j:Nat}(a:r=.ok t j)(h:RdT r pb s w e w'):T1 pb s t j w e w':=by
 rcases h with ⟨t',j',h1,h2⟩|⟨k,h1,_⟩
 .rw[a] at h1;cases h1;exact h2
 .rw[a] at h1;cases h1
theorem RdT.bad{r:PR Rx}{pb:Nat}{s:B_}{w w':W_}{e:Ending}{k:Nat}(a:r=.bad k)(h:RdT r pb s w e w'):PS w pb k e w':=by
 rcases h with ⟨t',j',h1,h2⟩|⟨k',h1,h2⟩
 .rw[a] at h1;cases h1
 .rw[a] at h1;cases h1;exact h2
theorem RdK.ok{r:PR X4}{pb:Nat}{s:B_}{w w':W_}{e:Ending}{c:X4}{j:Nat}(a:r=.ok c j)(h:RdK r pb s w e w'):A0p pb s j c w e w':=by
 rcases h with ⟨t',j',h1,h2⟩|⟨k,h1,_⟩
 .rw[a] at h1;cases h1;exact h2
 .rw[a] at h1;cases h1
theorem RdK.bad{r:PR X4}{pb:Nat}{s:B_}{w w':W_}{e:Ending}{k:Nat}(a:r=.bad k)(h:RdK r pb s w e w'):PS w pb k e w':=by
 rcases h with ⟨t',j',h1,h2⟩|⟨k',h1,h2⟩
 .rw[a] at h1;cases h1
 .rw[a] at h1;cases h1;exact h2
def A7v(op:Int)(w:W_)(e:Ending)(w':W_):Prop:=e=.returned (.slice (some ⟨w.heap.size,0,none⟩) 1 1)/\P6 w' w.heap.size (.slice (some ⟨w.heap.size,0,none⟩) 1 1) [⟨op,zc⟩]/\Below w.heap.size w w'
theorem B0R(op:Int)(w:W_):Calls prog 150 #[.int .i64 op] w (A7v op w):=by
 unfold A7v;go_enter func150,ntmps150;go_wp2;go_ret;exact⟨rfl,A3V w _ rfl _ (lr_ _) op 0 0 0 0,ba_⟩
theorem O9{s:List U_}{i:Nat}{c:U_}(h:s[i]?=some c):P3 s i =
 if c=40 then
  match W9 s (i+1) with
  | .bad k=>.bad k
  | .ok t j=>if s[j]?=some 41 then .ok t (j+1) else .bad j
 else if c=91 then
  match P2 s (i+1) with
  | .bad k=>.bad k
  | .ok c j=>.ok (.byte c) j
 else if c=46 then .ok (.byte A2r) (i+1)
 else if c=94 then .ok .bgn (i+1)
 else if c=36 then .ok .fin (i+1)
 else match D4 s i with
  | .bad k=>.bad k
  | .ok b j=>.ok (.byte (o2 zc b)) j:=by
 obtain⟨a,d⟩:=List.getElem?_eq_some_iff.1 h;rw[P3,dif_pos a,d]
 rfl
theorem B02{s:List U_}{i:Nat}(h:s[i]?=none):P3 s i=.bad s.length:=by
 have:=List.getElem?_eq_none_iff.1 h;rw[P3,dif_neg (by omega)]
theorem B2p{s:List U_}{i:Nat}(h:s[i]?=none):D4 s i=.bad s.length:=by unfold D4;rw[h]
theorem A67{s:List U_}{i:Nat}(l:s[i]?≠some 40)(g:s[i]?≠some 91)(f:s[i]?≠some 46)(d:s[i]?≠some 94)(a:s[i]?≠some 36):P3 s i=match D4 s i with
 | .bad k=>.bad k
 | .ok b j=>.ok (.byte (o2 zc b)) j:=by
 cases h:s[i]? with
 | none=>rw[B02 h,B2p h]
 | some c =>
   rw[h] at l g f d a;rw[O9 h,if_neg (λe=>l (by rw[e])),if_neg (λe=>g (by rw[e])),if_neg (λe=>f (by rw[e])),if_neg (λe=>d (by rw[e])),if_neg (λe=>a (by rw[e]))]
theorem B0q(a:Nat)(c:a<256)(w:W_):(convert 30 9 (.slice (some ⟨w.heap.size,0,none⟩) 1 1)).run prog (w.alloc (.cells #[.int .u8 a] 5))=.ok (.string ⟨#[UInt8.ofNat a]⟩) (w.alloc (.cells #[.int .u8 a] 5)):=by
 have h:=run_convert_bytes_back (P:=prog) (w.alloc (.cells #[.int .u8 a] 5)) 30 9 5 ⟨w.heap.size,0,none⟩ 1 [UInt8.ofNat a] underlying30 underlying5 underlying9 (by
  intro j b;have:j=0:=by simpa using b
  subst this;have e:(UInt8.ofNat a).toNat=a:=by simp;omega
  rw[Z5,Nat.add_zero,(J0.new w 5 #[.int .u8 a]).cell 0];simp[Nat.mod_eq_of_lt c])
 exact h
section
variable {ev:V_} {pb:Nat} {s:B_} {i:Nat} {w:W_}
theorem T9.no(h:T9 ev pb s i w){c:U_}(b:s.data.toList[i]?≠some c):Hid (∀W,PW w pb s i W->Calls prog 149 #[.pointer (some ⟨pb,0,none⟩),.int .u8 c.toNat] W (t8 W)):=hid λW a=>A5Y W a.here h.sz h.le b
theorem T9.yes(h:T9 ev pb s i w){c:U_}(b:s.data.toList[i]?=some c):Hid (∀W,PW w pb s i W->Calls prog 149 #[.pointer (some ⟨pb,0,none⟩),.int .u8 c.toNat] W (E9 pb s i W)):=hid λW a=>A07 W a.here h.sz b
end
theorem B5x{ev:V_}{pb:Nat}{s:B_}{i:Nat}(w:W_)(h:T9 ev pb s i w)(b:s.data.toList[i]?=some 94):
 Calls prog 197 #[.pointer (some ⟨pb,0,none⟩)] w (T1 pb s .bgn (i+1) w):=by
 have n:Hid (∀W,PW w pb s i W->Calls prog 149 #[.pointer (some ⟨pb,0,none⟩),.int .u8 40] W (t8 W)):=h.no (c:=40) (by rw[b];decide);have m:Hid (∀W,PW w pb s i W->Calls prog 149 #[.pointer (some ⟨pb,0,none⟩),.int .u8 91] W (t8 W)):=h.no (c:=91) (by rw[b];decide);have l:Hid (∀W,PW w pb s i W->Calls prog 149 #[.pointer (some ⟨pb,0,none⟩),.int .u8 46] W (t8 W)):=h.no (c:=46) (by rw[b];decide);have k:Hid (∀W,PW w pb s i W->Calls prog 149 #[.pointer (some ⟨pb,0,none⟩),.int .u8 94] W (E9 pb s i W)):=h.yes (c:=94) b;have r:=hid λW=>B0R 8 W
 unfold A7v at r;have j:=hid h.pw;clear h b;unfold T1;go_enter func197,ntmps197;go_wp2_with fail;refine(n.out _ j.out).mono ?_;rintro e D⟨rfl,a⟩;have g:=hid (j.out.below a);clear a;go_wp2_with fail;refine(m.out _ g.out).mono ?_;rintro e C⟨rfl,a⟩;have f:=hid (g.out.below a);clear a;go_wp2_with fail;refine(l.out _ f.out).mono ?_;rintro e B⟨rfl,a⟩;have d:=hid (f.out.below a);clear a;go_wp2_with fail;refine(k.out _ d.out).mono ?_;rintro e y⟨rfl,o⟩;have q:=hid (d.out.trans o);clear o;go_wp2_with fail;refine(r.out _).mono ?_;rintro e z⟨rfl,p,a⟩;have t:=hid (q.out.below a);have A:=hid p;clear p a;go_wp2_with fail;go_ret;exact⟨_,_,rfl,A.out.base q.out.grow.size,t.out⟩
theorem B5u{ev:V_}{pb:Nat}{s:B_}{i:Nat}(w:W_)(h:T9 ev pb s i w)(b:s.data.toList[i]?=some 36):
 Calls prog 197 #[.pointer (some ⟨pb,0,none⟩)] w (T1 pb s .fin (i+1) w):=by
 have p:Hid (∀W,PW w pb s i W->Calls prog 149 #[.pointer (some ⟨pb,0,none⟩),.int .u8 40] W (t8 W)):=h.no (c:=40) (by rw[b];decide);have o:Hid (∀W,PW w pb s i W->Calls prog 149 #[.pointer (some ⟨pb,0,none⟩),.int .u8 91] W (t8 W)):=h.no (c:=91) (by rw[b];decide);have n:Hid (∀W,PW w pb s i W->Calls prog 149 #[.pointer (some ⟨pb,0,none⟩),.int .u8 46] W (t8 W)):=h.no (c:=46) (by rw[b];decide);have m:Hid (∀W,PW w pb s i W->Calls prog 149 #[.pointer (some ⟨pb,0,none⟩),.int .u8 94] W (t8 W)):=h.no (c:=94) (by rw[b];decide);have l:Hid (∀W,PW w pb s i W->Calls prog 149 #[.pointer (some ⟨pb,0,none⟩),.int .u8 36] W (E9 pb s i W)):=h.yes (c:=36) b;have A:=hid λW=>B0R 9 W
 unfold A7v at A;have k:=hid h.pw;clear h b;unfold T1;go_enter func197,ntmps197;go_wp2_with fail;refine(p.out _ k.out).mono ?_;rintro e G⟨rfl,a⟩;have j:=hid (k.out.below a);clear a;go_wp2_with fail;refine(o.out _ j.out).mono ?_;rintro e F⟨rfl,a⟩;have g:=hid (j.out.below a);clear a;go_wp2_with fail;refine(n.out _ g.out).mono ?_;rintro e E⟨rfl,a⟩;have f:=hid (g.out.below a);clear a;go_wp2_with fail;refine(m.out _ f.out).mono ?_;rintro e D⟨rfl,a⟩;have d:=hid (f.out.below a);clear a;go_wp2_with fail;refine(l.out _ d.out).mono ?_;rintro e y⟨rfl,q⟩;have t:=hid (d.out.trans q);clear q;go_wp2_with fail;refine(A.out _).mono ?_;rintro e z⟨rfl,r,a⟩;have B:=hid (t.out.below a);have C:=hid r;clear r a;go_wp2_with fail;go_ret;exact⟨_,_,rfl,C.out.base t.out.grow.size,B.out⟩
theorem B5v{ev:V_}{pb:Nat}{s:B_}{i:Nat}(w:W_)(h:T9 ev pb s i w)(g:s.data.toList[i]?=some 46):
 Calls prog 197 #[.pointer (some ⟨pb,0,none⟩)] w (T1 pb s (.byte A2r) (i+1) w):=by
 have l:Hid (∀W,PW w pb s i W->Calls prog 149 #[.pointer (some ⟨pb,0,none⟩),.int .u8 40] W (t8 W)):=h.no (c:=40) (by rw[g];decide);have k:Hid (∀W,PW w pb s i W->Calls prog 149 #[.pointer (some ⟨pb,0,none⟩),.int .u8 91] W (t8 W)):=h.no (c:=91) (by rw[g];decide);have j:Hid (∀W,PW w pb s i W->Calls prog 149 #[.pointer (some ⟨pb,0,none⟩),.int .u8 46] W (E9 pb s i W)):=h.yes (c:=46) g;have p:=hid λW=>B2B W
 unfold M5 at p;have f:=hid h.pw;clear h g;unfold T1;go_enter func197,ntmps197;go_wp2_with fail;refine(l.out _ f.out).mono ?_;rintro e E⟨rfl,a⟩;have d:=hid (f.out.below a);clear a;go_wp2_with fail;refine(k.out _ d.out).mono ?_;rintro e D⟨rfl,a⟩;have b:=hid (d.out.below a);clear a;go_wp2_with fail;refine(j.out _ b.out).mono ?_;rintro e y⟨rfl,m⟩;have B:=hid (b.out.trans m);clear m;go_wp2_with fail;refine(p.out _).mono ?_;rintro e z⟨A,t,r,q,rfl,n,a⟩;have o:=hid (B.out.below a);have C:=hid n;clear n a;go_wp2_with fail;go_ret;refine⟨z.heap.size,1,rfl,?_,o.out.below ba_⟩;have:=A3V z _ rfl w.heap.size o.out.grow.size 1 A t r q;rw[C.out] at this;exact this
theorem B5w{ev:V_}{pb:Nat}{s:B_}{i:Nat}(w:W_)(h:T9 ev pb s i w)(f:s.data.toList[i]?=some 91){c:X4}{j:Nat}(m:P2 s.data.toList (i+1)=.ok c j):
 Calls prog 197 #[.pointer (some ⟨pb,0,none⟩)] w (T1 pb s (.byte c) j w):=by
 have l:Hid (∀W,PW w pb s i W->Calls prog 149 #[.pointer (some ⟨pb,0,none⟩),.int .u8 40] W (t8 W)):=h.no (c:=40) (by rw[f];decide);have k:Hid (∀W,PW w pb s i W->Calls prog 149 #[.pointer (some ⟨pb,0,none⟩),.int .u8 91] W (E9 pb s i W)):=h.yes (c:=91) f;have g:=V0 f;rw[O7] at g;have r:Hid (∀W,PW w pb s (i+1) W->Calls prog 210 #[.pointer (some ⟨pb,0,none⟩)] W (A0p pb s j c W)):=hid λW t=>(B1k W (h.next t (by omega))).mono λe w' A=>A.ok m
 have d:=hid h.pw;unfold A0p at r;clear h f m;unfold T1;go_enter func197,ntmps197;go_wp2_with fail;refine(l.out _ d.out).mono ?_;rintro e G⟨rfl,o⟩;have b:=hid (d.out.below o);clear o;go_wp2_with fail;refine(k.out _ b.out).mono ?_;rintro e y⟨rfl,a⟩;have q:=hid (b.out.trans a);clear a;go_wp2_with fail;refine(r.out _ q.out).mono ?_;rintro e z⟨E,D,C,B,rfl,n,a⟩;have p:=hid (q.out.trans a);have F:=hid n;clear n a;go_wp2_with fail;go_ret;refine⟨z.heap.size,1,rfl,?_,p.out.below ba_⟩;have:=A3V z _ rfl w.heap.size p.out.grow.size 1 E D C B;rw[F.out] at this;exact this
theorem A9T{ev:V_}{pb:Nat}{s:B_}{i:Nat}(w:W_)(h:T9 ev pb s i w)(f:s.data.toList[i]?=some 91){k:Nat}(m:P2 s.data.toList (i+1)=.bad k):
 Calls prog 197 #[.pointer (some ⟨pb,0,none⟩)] w (PS w pb k):=by
 have l:Hid (∀W,PW w pb s i W->Calls prog 149 #[.pointer (some ⟨pb,0,none⟩),.int .u8 40] W (t8 W)):=h.no (c:=40) (by rw[f];decide);have j:Hid (∀W,PW w pb s i W->Calls prog 149 #[.pointer (some ⟨pb,0,none⟩),.int .u8 91] W (E9 pb s i W)):=h.yes (c:=91) f;have g:=V0 f;rw[O7] at g;have r:Hid (∀W,PW w pb s (i+1) W->Calls prog 210 #[.pointer (some ⟨pb,0,none⟩)] W (PS W pb k)):=hid λW p=>(B1k W (h.next p (by omega))).mono λe w' q=>q.bad m
 have b:=hid h.pw;clear h f m;unfold PS at *;go_enter func197,ntmps197;go_wp2_with fail;refine(l.out _ b.out).mono ?_;rintro e t⟨rfl,n⟩;have a:=hid (b.out.below n);clear n;go_wp2_with fail;refine(j.out _ a.out).mono ?_;rintro e y⟨rfl,d⟩;have o:=hid (a.out.trans d);clear d;go_wp2_with fail;refine(r.out _ o.out).mono ?_;rintro e z⟨rfl,d⟩;exact⟨rfl,rfl,o.out.grow.trans d⟩
theorem A9S{ev:V_}{pb:Nat}{s:B_}{i:Nat}(w:W_)(h:T9 ev pb s i w)(C:s.data.toList[i]?≠some 40)(B:s.data.toList[i]?≠some 91)(A:s.data.toList[i]?≠some 46)(y:s.data.toList[i]?≠some 94)(t:s.data.toList[i]?≠some 36){k:Nat}(r:D4 s.data.toList i=.bad k):
 Calls prog 197 #[.pointer (some ⟨pb,0,none⟩)] w (PS w pb k):=by
 have q:Hid (∀W,PW w pb s i W->Calls prog 149 #[.pointer (some ⟨pb,0,none⟩),.int .u8 40] W (t8 W)):=h.no (c:=40) C;have p:Hid (∀W,PW w pb s i W->Calls prog 149 #[.pointer (some ⟨pb,0,none⟩),.int .u8 91] W (t8 W)):=h.no (c:=91) B;have o:Hid (∀W,PW w pb s i W->Calls prog 149 #[.pointer (some ⟨pb,0,none⟩),.int .u8 46] W (t8 W)):=h.no (c:=46) A;have n:Hid (∀W,PW w pb s i W->Calls prog 149 #[.pointer (some ⟨pb,0,none⟩),.int .u8 94] W (t8 W)):=h.no (c:=94) y;have m:Hid (∀W,PW w pb s i W->Calls prog 149 #[.pointer (some ⟨pb,0,none⟩),.int .u8 36] W (t8 W)):=h.no (c:=36) t;have G:Hid (∀W,PW w pb s i W->Calls prog 211 #[.pointer (some ⟨pb,0,none⟩)] W (PS W pb k)):=hid λW D=>(A2w W (h.next D h.le)).mono λe w' F=>F.bad r
 have l:=hid h.pw;clear h C B A y t r;unfold PS at *;go_enter func197,ntmps197;go_wp2_with fail;refine(q.out _ l.out).mono ?_;rintro e N⟨rfl,a⟩;have j:=hid (l.out.below a);clear a;go_wp2_with fail;refine(p.out _ j.out).mono ?_;rintro e M⟨rfl,a⟩;have g:=hid (j.out.below a);clear a;go_wp2_with fail;refine(o.out _ g.out).mono ?_;rintro e L⟨rfl,a⟩;have f:=hid (g.out.below a);clear a;go_wp2_with fail;refine(n.out _ f.out).mono ?_;rintro e J⟨rfl,a⟩;have d:=hid (f.out.below a);clear a;go_wp2_with fail;refine(m.out _ d.out).mono ?_;rintro e H⟨rfl,a⟩;have b:=hid (d.out.below a);clear a;go_wp2_with fail;refine(G.out _ b.out).mono ?_;rintro e z⟨rfl,E⟩;exact⟨rfl,rfl,b.out.grow.trans E⟩
theorem B5t{ev:V_}{pb:Nat}{s:B_}{i:Nat}(w:W_)(h:T9 ev pb s i w)(M:s.data.toList[i]?≠some 40)(L:s.data.toList[i]?≠some 91)(J:s.data.toList[i]?≠some 46)(H:s.data.toList[i]?≠some 94)(G:s.data.toList[i]?≠some 36){b j:Nat}(q:D4 s.data.toList i=.ok b j):
 Calls prog 197 #[.pointer (some ⟨pb,0,none⟩)] w (T1 pb s (.byte (o2 zc b)) j w):=by
 have B:Hid (∀W,PW w pb s i W->Calls prog 149 #[.pointer (some ⟨pb,0,none⟩),.int .u8 40] W (t8 W)):=h.no (c:=40) M;have A:Hid (∀W,PW w pb s i W->Calls prog 149 #[.pointer (some ⟨pb,0,none⟩),.int .u8 91] W (t8 W)):=h.no (c:=91) L;have y:Hid (∀W,PW w pb s i W->Calls prog 149 #[.pointer (some ⟨pb,0,none⟩),.int .u8 46] W (t8 W)):=h.no (c:=46) J;have t:Hid (∀W,PW w pb s i W->Calls prog 149 #[.pointer (some ⟨pb,0,none⟩),.int .u8 94] W (t8 W)):=h.no (c:=94) H;have r:Hid (∀W,PW w pb s i W->Calls prog 149 #[.pointer (some ⟨pb,0,none⟩),.int .u8 36] W (t8 W)):=h.no (c:=36) G;have N:Hid (∀W,PW w pb s i W->Calls prog 211 #[.pointer (some ⟨pb,0,none⟩)] W (z8 pb s j b W)):=hid λW O=>(A2w W (h.next O h.le)).mono λe w' P=>P.ok q
 have d:=(T8 q).2.2
 have f:ofL (ByteArray.mk #[UInt8.ofNat b]).data.toList zc=o2 zc b:=by
  simp[ofL,Nat.mod_eq_of_lt d]
 have C:=hid λW=>B6O ⟨#[UInt8.ofNat b]⟩ W (by show 1<=_;decide)
 rw[f] at C;unfold M5 at C;unfold z8 at N;have Q:=λW=>B0q b d W
 have p:=hid h.pw;clear h M L J H G q f;unfold T1;go_enter func197,ntmps197;go_wp2_with fail;refine(B.out _ p.out).mono ?_;rintro e x1⟨rfl,a⟩;have o:=hid (p.out.below a);clear a;go_wp2_with fail;refine(A.out _ o.out).mono ?_;rintro e x2⟨rfl,a⟩;have n:=hid (o.out.below a);clear a;go_wp2_with fail;refine(y.out _ n.out).mono ?_;rintro e x3⟨rfl,a⟩;have m:=hid (n.out.below a);clear a;go_wp2_with fail;refine(t.out _ m.out).mono ?_;rintro e x4⟨rfl,a⟩;have l:=hid (m.out.below a);clear a;go_wp2_with fail;refine(r.out _ l.out).mono ?_;rintro e Z⟨rfl,a⟩;have k:=hid (l.out.below a);clear a;go_wp2_with fail;refine(N.out _ k.out).mono ?_;rintro e z⟨rfl,E⟩;have X:=hid (k.out.trans E);clear E;go_wp2_with fail;refine(C.out _).mono ?_;rintro e D⟨V,T,S,R,rfl,F,a⟩;have g:=hid ((X.out.below ba_).below a);have Y:=hid F;clear F a;go_wp2_with fail;go_ret;refine⟨D.heap.size,1,rfl,?_,g.out.below ba_⟩;have:=A3V D _ rfl w.heap.size g.out.grow.size 1 V T S R;rw[Y.out] at this;exact this
theorem B7Q:(prog.info? 114).map (λi=>(i.zero,i.size,i.bytes))=some (some (.agg #[.int .i64 0,.int .u64 0,.int .u64 0,.int .u64 0,.int .u64 0]),5,40):=by kernel_rfl
theorem A19:∃i:TypeInfo,prog.info? 114=some i/\i.zero=some (.agg #[.int .i64 0,.int .u64 0,.int .u64 0,.int .u64 0,.int .u64 0])/\i.size=5/\i.bytes=40:=by
 have h:=B7Q;cases hi:prog.info? 114 with
 | none=>rw[hi] at h;cases h
 | some i =>
   rw[hi] at h;simp only[Option.map_some,Option.some.injEq,Prod.mk.injEq] at h;exact⟨i,rfl,h.1,h.2.1,h.2.2⟩
theorem PW.app{w0 w w':W_}{pb i g:Nat}{s:B_}(h:PW w0 pb s i w)(a:w.grownBy w' (some g))(d:w0.heap.size<=g):PW w0 pb s i w' :=
 ⟨(a.block pb h.par.lt (λe=>by have:=h.lt;have f:=Option.some.inj e;omega)).trans h.par,⟨a.os.trans h.grow.os,a.tape.trans h.grow.tape,a.output.trans h.grow.output,Nat.le_trans h.grow.size a.size,λq c b=>(a.block q (Nat.lt_of_lt_of_le c h.grow.size) (λe=>by have f:=Option.some.inj e;omega)).trans (h.grow.block q c b)⟩,h.lt⟩
theorem P6.cells{w:W_}{base g n cap:Nat}{l:List Nd}(h:P6 w base (.slice (some ⟨g,0,none⟩) n cap) l)(m:0<n):∀(j:Nat)(u:V_),(l.flatMap P0)[j]?=some u->w.cell? ((⟨g,0,none⟩:Addr).add j)=some u:=by
 obtain⟨A,r,c,f,_,_,_,o⟩:=Rd.of_own h;injection f with e1 e2 _
 subst e2;obtain⟨b,d,p,a⟩:=o m;rw[p] at e1;have q:=Option.some.inj e1;injection q with e4 e5 _
 intro j u k;rw[Z5,e4,e5];exact a j u k
theorem A1f(l:List Nd):∀u∈l.flatMap P0,u.oneCell'=true:=by
 intro u b;obtain⟨n,_,a⟩:=List.mem_flatMap.1 b;simp only[P0,List.mem_cons,List.not_mem_nil,or_false] at a;rcases a with rfl|rfl|rfl|rfl|rfl <;> rfl
theorem B8g:∀b:Fin 256,Lib.indexByte [42,43,63] b.val.toUInt8=if b.val=42 then 0 else if b.val=43 then 1 else if b.val=63 then 2 else -1:=by decide +kernel
theorem A5q(n:Nat)(b:n<256)(q:Int)(a:(if n=42 then 0 else if n=43 then 1 else if n=63 then 2 else -1)=q):Hid (∀W,Calls prog 170 #[.string ⟨#[42,43,63]⟩,.int .u8 n] W (λe w'=>e=.returned (.int .i64 q)/\W=w')):=hid λW=>(A9n _ _ W).mono (by
 rintro e w'⟨rfl,rfl⟩;refine⟨?_,rfl⟩;have h:=B8g ⟨n,b⟩;dsimp only at h;rw[a] at h;rw[←h]
 rfl)
theorem A0u(op:Int)(W:W_)(B:Nat)(a:W.heap.size=B):Calls prog 150 #[.int .i64 op] W (λe w'=>e=.returned (.slice (some ⟨B,0,none⟩) 1 1)/\P6 w' B (.slice (some ⟨B,0,none⟩) 1 1) [⟨op,zc⟩]/\Below W.heap.size W w'):=by
 subst a;exact B0R op W
theorem B4h{s:B_}{i j:Nat}{t:Rx}(h:W9 s.data.toList i=.ok t j)(a:i<=s.size):j<=s.size:=by
 have:=((M6 _ i (lr_ _) (by rw[O7];exact a)).2.2 t j h).2.1;rwa[O7] at this
theorem B5s{ev:V_}{pb:Nat}{s:B_}{i:Nat}(w:W_)(h:T9 ev pb s i w)(q:s.data.toList[i]?=some 40){t:Rx}{j:Nat}(b:(∀W,PW w pb s (i+1) W->Calls prog 112 #[.pointer (some ⟨pb,0,none⟩)] W (T1 pb s t j W)))(p:s.data.toList[j]?=some 41):
 Calls prog 197 #[.pointer (some ⟨pb,0,none⟩)] w (T1 pb s t (j+1) w):=by
 have m:Hid (∀W,PW w pb s i W->Calls prog 149 #[.pointer (some ⟨pb,0,none⟩),.int .u8 40] W (E9 pb s i W)):=h.yes (c:=40) q;have k:=hid b;have l:=h.sz;have B:Hid (∀W,PW w pb s j W->Calls prog 149 #[.pointer (some ⟨pb,0,none⟩),.int .u8 41] W (E9 pb s j W)):=hid λW A=>A07 (c:=41) W A.here l p
 have f:=hid h.pw;unfold T1 at k;clear h q b p;unfold T1;go_enter func197,ntmps197;go_wp2_with fail;refine(m.out _ f.out).mono ?_;rintro e y⟨rfl,a⟩;have d:=hid (f.out.trans a);clear a;go_wp2_with fail;refine(k.out _ d.out).mono ?_;rintro e z⟨g,cap,rfl,o,a⟩;have r:=hid (d.out.trans a);have D:=hid o;clear o a;go_wp2_with fail;refine(B.out _ r.out).mono ?_;rintro e u⟨rfl,a⟩;have C:=hid (r.out.trans a);have n:=hid (D.out.grown a.grow (by have:=d.out.lt;have:=d.out.grow.size;omega));clear a;go_wp2_with fail;go_ret;exact⟨g,cap,rfl,n.out.base d.out.grow.size,C.out⟩
theorem B00{ev:V_}{pb:Nat}{s:B_}{i:Nat}(w:W_)(h:T9 ev pb s i w)(o:s.data.toList[i]?=some 40){t:Rx}{j:Nat}(b:(∀W,PW w pb s (i+1) W->Calls prog 112 #[.pointer (some ⟨pb,0,none⟩)] W (T1 pb s t j W)))(l:j<=s.size)(n:s.data.toList[j]?≠some 41):
 Calls prog 197 #[.pointer (some ⟨pb,0,none⟩)] w (PS w pb j):=by
 have m:Hid (∀W,PW w pb s i W->Calls prog 149 #[.pointer (some ⟨pb,0,none⟩),.int .u8 40] W (E9 pb s i W)):=h.yes (c:=40) o;have f:=hid b;have k:=h.sz;have D:Hid (∀W,PW w pb s j W->Calls prog 149 #[.pointer (some ⟨pb,0,none⟩),.int .u8 41] W (t8 W)):=hid λW B=>A5Y (c:=41) W B.here k l n
 have d:=hid h.pw;unfold T1 at f;clear h o b n;unfold PS A1A;go_enter func197,ntmps197;go_wp2_with fail;refine(m.out _ d.out).mono ?_;rintro e y⟨rfl,a⟩;have r:=hid (d.out.trans a);clear a;go_wp2_with fail;refine(f.out _ r.out).mono ?_;rintro e z⟨g,cap,rfl,C,a⟩;have q:=hid (r.out.trans a);clear C a;go_wp2_with fail;refine(D.out _ q.out).mono ?_;rintro e u⟨rfl,p⟩;have A:=hid (q.out.below p);have E:=A.out.c1;clear p;go_wp2_with fail;exact⟨rfl,rfl,A.out.grow⟩
theorem A9R{ev:V_}{pb:Nat}{s:B_}{i:Nat}(w:W_)(h:T9 ev pb s i w)(j:s.data.toList[i]?=some 40){k:Nat}(a:(∀W,PW w pb s (i+1) W->Calls prog 112 #[.pointer (some ⟨pb,0,none⟩)] W (PS W pb k))):
 Calls prog 197 #[.pointer (some ⟨pb,0,none⟩)] w (PS w pb k):=by
 have f:Hid (∀W,PW w pb s i W->Calls prog 149 #[.pointer (some ⟨pb,0,none⟩),.int .u8 40] W (E9 pb s i W)):=h.yes (c:=40) j;have g:=hid a;have b:=hid h.pw;clear h j a;unfold PS at *;go_enter func197,ntmps197;go_wp2_with fail;refine(f.out _ b.out).mono ?_;rintro e y⟨rfl,d⟩;have l:=hid (b.out.trans d);clear d;go_wp2_with fail;refine(g.out _ l.out).mono ?_;rintro e z⟨rfl,d⟩;exact⟨rfl,rfl,l.out.grow.trans d⟩
theorem B9G{ev:V_}{pb:Nat}{s:B_}{i:Nat}(w:W_)(h:T9 ev pb s i w)(l:s.data.toList[i]?=some 40->∀W,PW w pb s (i+1) W->Calls prog 112 #[.pointer (some ⟨pb,0,none⟩)] W (RdT (W9 s.data.toList (i+1)) pb s W)):
 Calls prog 197 #[.pointer (some ⟨pb,0,none⟩)] w (RdT (P3 s.data.toList i) pb s w):=by
 have m6:∀t j,P3 s.data.toList i=.ok t j->Calls prog 197 #[.pointer (some ⟨pb,0,none⟩)] w (T1 pb s t j w)->Calls prog 197 #[.pointer (some ⟨pb,0,none⟩)] w (RdT (P3 s.data.toList i) pb s w):=λt j a d=>d.mono λe w' f=>.inl ⟨t,j,a,f⟩
 have bad:∀k,P3 s.data.toList i=.bad k->Calls prog 197 #[.pointer (some ⟨pb,0,none⟩)] w (PS w pb k)->Calls prog 197 #[.pointer (some ⟨pb,0,none⟩)] w (RdT (P3 s.data.toList i) pb s w):=λk a d=>d.mono λe w' f=>.inr ⟨k,a,f⟩
 by_cases a:s.data.toList[i]?=some 40
 .have o:=V0 a
  rw[O7] at o;have m:=l a;cases hO:W9 s.data.toList (i+1) with
  | bad k=>exact bad k (by rw[O9 a,if_pos rfl,hO]) (A9R w h a (λW g=>(m W g).mono λe w' f=>f.bad hO))
  | ok t j =>
    have n:=B4h hO (by omega);by_cases hj:s.data.toList[j]?=some 41
    .exact m6 t (j+1) (by rw[O9 a,if_pos rfl,hO];simp only[if_pos hj]) (B5s w h a (λW g=>(m W g).mono λe w' f=>f.ok hO) hj)
    .exact bad j (by rw[O9 a,if_pos rfl,hO];simp only[if_neg hj]) (B00 w h a (λW g=>(m W g).mono λe w' f=>f.ok hO) n hj)
 .by_cases d:s.data.toList[i]?=some 91
  .cases hB:P2 s.data.toList (i+1) with
   | bad k=>exact bad k (by rw[O9 d,if_neg (by decide),if_pos rfl,hB]) (A9T w h d hB)
   | ok c j=>exact m6 (.byte c) j (by rw[O9 d,if_neg (by decide),if_pos rfl,hB]) (B5w w h d hB)
  .by_cases h3:s.data.toList[i]?=some 46
   .exact m6 (.byte A2r) (i+1) (by rw[O9 h3,if_neg (by decide),if_neg (by decide),if_pos rfl]) (B5v w h h3)
   .by_cases h4:s.data.toList[i]?=some 94
    .exact m6 .bgn (i+1) (by rw[O9 h4,if_neg (by decide),if_neg (by decide),if_neg (by decide),if_pos rfl]) (B5x w h h4)
    .by_cases h5:s.data.toList[i]?=some 36
     .exact m6 .fin (i+1) (by rw[O9 h5,if_neg (by decide),if_neg (by decide),if_neg (by decide),if_neg (by decide),if_pos rfl]) (B5u w h h5)
     .cases hO:D4 s.data.toList i with
      | bad k=>exact bad k (by rw[A67 a d h3 h4 h5,hO]) (A9S w h a d h3 h4 h5 hO)
      | ok b j=>exact m6 (.byte (o2 zc b)) j (by rw[A67 a d h3 h4 h5,hO]) (B5t w h a d h3 h4 h5 hO)
theorem B2r{ev:V_}{pb:Nat}{s:B_}{i:Nat}(w:W_)(h:T9 ev pb s i w){k:Nat}(hat:Calls prog 197 #[.pointer (some ⟨pb,0,none⟩)] w (PS w pb k)):
 Calls prog 176 #[.pointer (some ⟨pb,0,none⟩)] w (PS w pb k):=by
 have a:=hid hat;clear h hat;unfold PS at *;go_enter func176,ntmps176;go_wp2_with fail;refine a.out.mono ?_;rintro e z⟨rfl,b⟩;exact⟨rfl,rfl,b⟩
theorem B4n{ev:V_}{pb:Nat}{s:B_}{i:Nat}(w:W_)(h:T9 ev pb s i w){t:Rx}{j:Nat}(aA:j<=s.size)(au:(A0 t).length<=2*j)(hat:Calls prog 197 #[.pointer (some ⟨pb,0,none⟩)] w (T1 pb s t j w)):
 Calls prog 176 #[.pointer (some ⟨pb,0,none⟩)] w (λe w'=>∃f m,R0 s.data.toList j t=(f,m)/\T1 pb s f m w e w'):=by
 obtain⟨i0,ak,ai,ah,ag⟩:=A19;have ao:=hid hat;have M:=h.sz;have aj:=h.pw.lt;have O:=G0 t;unfold T1 at *;obtain⟨N0,al⟩:∃N0,N0=(A0 t).length:=⟨_,rfl⟩
 rw[←al] at ao au O;have ax:=hid al;clear h hat al;go_enter func176,ntmps176;go_wp2_with fail;refine ao.out.mono ?_;rintro e w1⟨g1,aw,rfl,ar,aq⟩;have p:=hid ar;have a:=hid aq;clear ar aq ao;go_wp2_with fail
 go_loopg [3] (s.size+1) (λgk v3 wr=>∃(f:Rx)(m g cap N:Nat),m<=s.size/\v3=.slice (some ⟨g,0,none⟩) N cap/\N<=2*m/\0<N/\Hid (N=(A0 f).length)/\Hid (P6 wr w.heap.size (.slice (some ⟨g,0,none⟩) N cap) (A0 f))/\Hid (PW w pb s m wr)/\Hid (R0 s.data.toList j t=R0 s.data.toList m f)/\Hid (s.size - m<gk))
 case atStart=>exact⟨t,j,g1,aw,N0,aA,rfl,au,O,ax,p,a,hid rfl,hid (by omega)⟩
 case round =>
  clear p a ax;obtain⟨f,m,g,cap,N,aB,rfl,aM,A,J,S,y,z,HG⟩:=hrel;have aL:0<gk:=by have:=HG.out;omega
  cases hg:s.data.toList[m]? with
  | none =>
    have n:Hid (∀W,PW w pb s m W->Calls prog 175 #[.pointer (some ⟨pb,0,none⟩)] W (M3 0 false W)):=hid λW hw=>A1F W hw.here M aB hg
    have D:=A5q 0 (by decide) (-1) (by decide);have C:Hid (R0 s.data.toList j t=(f,m)):=hid (by rw[z.out,A0Z f (λc hc=>by rw[hg] at hc;cases hc)]);unfold M3 at n;clear hg z;go_wp2_with fail;refine(n.out _ y.out).mono ?_;rintro e H⟨rfl,k⟩;have a:=hid (y.out.below k);have p:=hid (S.out.below k);clear k;go_wp2_with fail;refine(D.out _).mono ?_;rintro e x2⟨rfl,rfl⟩;go_wp2_with fail;go_ret;refine⟨f,m,C.out,g,cap,by rw[←J.out];rfl,?_,a.out⟩;rw[←J.out];exact p.out
  | some c =>
    by_cases h42:c=42
    .subst h42
     have n:Hid (∀W,PW w pb s m W->Calls prog 175 #[.pointer (some ⟨pb,0,none⟩)] W (M3 42 true W)):=hid λW hw=>Q4 W hw.here M hg
     have D:=A5q 42 (by decide) 0 (by decide);have aa:=hid λW B hB=>A0u 5 W B hB
     have P:=V0 hg;rw[O7] at P;have C:Hid (R0 s.data.toList j t=R0 s.data.toList (m+1) (.star f)):=hid (by rw[z.out,A11 _ hg]);unfold M3 at n;clear hg z;go_wp2_with fail;refine(n.out _ y.out).mono ?_;rintro e H⟨rfl,k⟩;have a:=hid (y.out.below k);have p:=hid (S.out.below k);clear k;have c1:=a.out.c1;have f1:=a.out.f1;go_wp2_with fail;refine(D.out _).mono ?_;rintro e x2⟨rfl,rfl⟩;have q:PW H pb s (m+1) (H.setCell ⟨pb,1,none⟩ (.int .i64 ((m:Int)+1))):=by have:=a.out.here.one (m+1);push_cast at this;exact this
     have R:=hid q;have Y:=hid (p.out.grown q.grow aj);clear q;go_wp2_with fail;refine(aa.out _ H.heap.size (by simp)).mono ?_;rintro e x3⟨rfl,F,r⟩;have G:=hid ((a.out.trans R.out).below r);have X:=hid (Y.out.below r);have E:=a.out.grow.size;have ac:=hid (F.base E);have L:=G.out.grow.size;have ad:=hid (X.out.cells A);have Z:Hid (((A0 f).flatMap P0).length=N*5):=hid (by rw[N1,J.out]);have T:=hid (A1f (A0 f));clear F r
     go_wp2_with (at_builtin;refine wpList_append_lies _ rfl (.tmp 32) (.tmp 33) _ rfl w.heap.size 114 i0 _ 5 40 underlying73 ak ai ah ag rfl (by omega) _ 1 _ rfl ac.out ⟨g,0,none⟩ N _ ((A0 f).flatMap P0) rfl Z.out ad.out T.out A (by unfold maxLen;omega) (by omega) L _ rfl ?_)
     intro g4 o x4 l b _ _;have Q:=hid (G.out.app b E)
     have V:Hid (P6 x4 w.heap.size (.slice (some ⟨g4,0,none⟩) (1+N) o) (A0 (.star f))):=hid (by
      unfold P6;have e:(A0 (.star f)).length=1+N:=by show(A0 f).length+1=_;rw[←J.out];omega
      rw[e];exact l)
     have ab:Hid (1+N=(A0 (.star f)).length):=hid (by show _=(A0 f).length+1;rw[←J.out];omega);clear l b;go_wp2_with fail
     go_roundg (gk - 1)
     case rel=>exact⟨.star f,m+1,g4,o,1+N,by omega,rfl,by omega,by omega,ab,V,Q,C,hid (by have:=HG.out;omega)⟩
     all_goals (first | (have:=HG.out;omega) | omega)
    .by_cases h43:c=43
     .subst h43
      have n:Hid (∀W,PW w pb s m W->Calls prog 175 #[.pointer (some ⟨pb,0,none⟩)] W (M3 43 true W)):=hid λW hw=>Q4 W hw.here M hg
      have D:=A5q 43 (by decide) 1 (by decide);have aa:=hid λW B hB=>A0u 6 W B hB
      have P:=V0 hg;rw[O7] at P;have C:Hid (R0 s.data.toList j t=R0 s.data.toList (m+1) (.plus f)):=hid (by rw[z.out,A12 _ hg]);unfold M3 at n;clear hg z;go_wp2_with fail;refine(n.out _ y.out).mono ?_;rintro e H⟨rfl,k⟩;have a:=hid (y.out.below k);have p:=hid (S.out.below k);clear k;have c1:=a.out.c1;have f1:=a.out.f1;go_wp2_with fail;refine(D.out _).mono ?_;rintro e x2⟨rfl,rfl⟩;have q:PW H pb s (m+1) (H.setCell ⟨pb,1,none⟩ (.int .i64 ((m:Int)+1))):=by have:=a.out.here.one (m+1);push_cast at this;exact this
      have R:=hid q;have Y:=hid (p.out.grown q.grow aj);clear q;go_wp2_with fail;refine(aa.out _ H.heap.size (by simp)).mono ?_;rintro e x3⟨rfl,F,r⟩;have G:=hid ((a.out.trans R.out).below r);have X:=hid (Y.out.below r);have E:=a.out.grow.size;have ac:=hid (F.base E);have L:=G.out.grow.size;have ad:=hid (X.out.cells A);have Z:Hid (((A0 f).flatMap P0).length=N*5):=hid (by rw[N1,J.out]);have T:=hid (A1f (A0 f));clear F r
      go_wp2_with (at_builtin;refine wpList_append_lies _ rfl (.tmp 32) (.tmp 33) _ rfl w.heap.size 114 i0 _ 5 40 underlying73 ak ai ah ag rfl (by omega) _ 1 _ rfl ac.out ⟨g,0,none⟩ N _ ((A0 f).flatMap P0) rfl Z.out ad.out T.out A (by unfold maxLen;omega) (by omega) L _ rfl ?_)
      intro g4 o x4 l b _ _;have Q:=hid (G.out.app b E)
      have V:Hid (P6 x4 w.heap.size (.slice (some ⟨g4,0,none⟩) (1+N) o) (A0 (.plus f))):=hid (by
       unfold P6;have e:(A0 (.plus f)).length=1+N:=by show(A0 f).length+1=_;rw[←J.out];omega
       rw[e];exact l)
      have ab:Hid (1+N=(A0 (.plus f)).length):=hid (by show _=(A0 f).length+1;rw[←J.out];omega);clear l b;go_wp2_with fail
      go_roundg (gk - 1)
      case rel=>exact⟨.plus f,m+1,g4,o,1+N,by omega,rfl,by omega,by omega,ab,V,Q,C,hid (by have:=HG.out;omega)⟩
      all_goals (first | (have:=HG.out;omega) | omega)
     .by_cases h63:c=63
      .subst h63
       have n:Hid (∀W,PW w pb s m W->Calls prog 175 #[.pointer (some ⟨pb,0,none⟩)] W (M3 63 true W)):=hid λW hw=>Q4 W hw.here M hg
       have D:=A5q 63 (by decide) 2 (by decide);have aa:=hid λW B hB=>A0u 7 W B hB
       have P:=V0 hg;rw[O7] at P;have C:Hid (R0 s.data.toList j t=R0 s.data.toList (m+1) (.opt f)):=hid (by rw[z.out,A24 _ hg]);unfold M3 at n;clear hg z;go_wp2_with fail;refine(n.out _ y.out).mono ?_;rintro e H⟨rfl,k⟩;have a:=hid (y.out.below k);have p:=hid (S.out.below k);clear k;have c1:=a.out.c1;have f1:=a.out.f1;go_wp2_with fail;refine(D.out _).mono ?_;rintro e x2⟨rfl,rfl⟩;have q:PW H pb s (m+1) (H.setCell ⟨pb,1,none⟩ (.int .i64 ((m:Int)+1))):=by have:=a.out.here.one (m+1);push_cast at this;exact this
       have R:=hid q;have Y:=hid (p.out.grown q.grow aj);clear q;go_wp2_with fail;refine(aa.out _ H.heap.size (by simp)).mono ?_;rintro e x3⟨rfl,F,r⟩;have G:=hid ((a.out.trans R.out).below r);have X:=hid (Y.out.below r);have E:=a.out.grow.size;have ac:=hid (F.base E);have L:=G.out.grow.size;have ad:=hid (X.out.cells A);have Z:Hid (((A0 f).flatMap P0).length=N*5):=hid (by rw[N1,J.out]);have T:=hid (A1f (A0 f));clear F r
       go_wp2_with (at_builtin;refine wpList_append_lies _ rfl (.tmp 32) (.tmp 33) _ rfl w.heap.size 114 i0 _ 5 40 underlying73 ak ai ah ag rfl (by omega) _ 1 _ rfl ac.out ⟨g,0,none⟩ N _ ((A0 f).flatMap P0) rfl Z.out ad.out T.out A (by unfold maxLen;omega) (by omega) L _ rfl ?_)
       intro g4 o x4 l b _ _;have Q:=hid (G.out.app b E)
       have V:Hid (P6 x4 w.heap.size (.slice (some ⟨g4,0,none⟩) (1+N) o) (A0 (.opt f))):=hid (by
        unfold P6;have e:(A0 (.opt f)).length=1+N:=by show(A0 f).length+1=_;rw[←J.out];omega
        rw[e];exact l)
       have ab:Hid (1+N=(A0 (.opt f)).length):=hid (by show _=(A0 f).length+1;rw[←J.out];omega);clear l b;go_wp2_with fail
       go_roundg (gk - 1)
       case rel=>exact⟨.opt f,m+1,g4,o,1+N,by omega,rfl,by omega,by omega,ab,V,Q,C,hid (by have:=HG.out;omega)⟩
       all_goals (first | (have:=HG.out;omega) | omega)
      .have n1:c.toNat≠42:=λe=>h42 (UInt8.toNat_inj.1 e)
       have n2:c.toNat≠43:=λe=>h43 (UInt8.toNat_inj.1 e)
       have n3:c.toNat≠63:=λe=>h63 (UInt8.toNat_inj.1 e)
       have n:Hid (∀W,PW w pb s m W->Calls prog 175 #[.pointer (some ⟨pb,0,none⟩)] W (M3 c.toNat true W)):=hid λW hw=>Q4 W hw.here M hg
       have D:=A5q c.toNat c.toNat_lt (-1) (by rw[if_neg n1,if_neg n2,if_neg n3]);have C:Hid (R0 s.data.toList j t=(f,m)):=hid (by rw[z.out,A0Z f (λd hd=>by rw[hg] at hd;cases hd;exact⟨h42,h43,h63⟩)]);unfold M3 at n;clear hg z;go_wp2_with fail;refine(n.out _ y.out).mono ?_;rintro e H⟨rfl,k⟩;have a:=hid (y.out.below k);have p:=hid (S.out.below k);clear k;go_wp2_with fail;refine(D.out _).mono ?_;rintro e x2⟨rfl,rfl⟩;go_wp2_with fail;go_ret;refine⟨f,m,C.out,g,cap,by rw[←J.out];rfl,?_,a.out⟩;rw[←J.out];exact p.out
theorem A0I{a b:Int}(h:a≠b):(a==b)=false:=by simpa using h
theorem A8H{s:List U_}{j:Nat}(h:O3 s j=true):s[j]?=none\/s[j]?=some 124\/s[j]?=some 41:=by
 unfold O3 at h;cases hc:s[j]? with
 | none=>exact .inl rfl
 | some c =>
   rw[hc] at h;simp only[Bool.or_eq_true,beq_iff_eq] at h;rcases h with rfl|rfl
   .exact .inr (.inl rfl)
   .exact .inr (.inr rfl)
theorem A2X{s:List U_}{j:Nat}(h:¬O3 s j=true):∃c,s[j]?=some c/\c.toNat≠124/\c.toNat≠41:=by
 unfold O3 at h;cases hc:s[j]? with
 | none=>rw[hc] at h;exact absurd rfl h
 | some c =>
   rw[hc] at h;simp only[Bool.or_eq_true,beq_iff_eq,not_or] at h;exact⟨c,rfl,λe=>h.1 (UInt8.toNat_inj.1 e),λe=>h.2 (UInt8.toNat_inj.1 e)⟩
theorem B5m{ev:V_}{pb:Nat}{s:B_}{i:Nat}(w:W_)(h:T9 ev pb s i w)(g:O3 s.data.toList i=true):
 Calls prog 148 #[.pointer (some ⟨pb,0,none⟩)] w (T1 pb s .empty i w):=by
 have d:=hid h.pw;have l:=h.sz;have q:=h.le;have m:=hid λW B t=>A0u 2 W B t
 unfold T1;rcases A8H g with hg|hg|hg
 .have b:Hid (∀W,PW w pb s i W->Calls prog 175 #[.pointer (some ⟨pb,0,none⟩)] W (M3 0 false W)):=hid λW o=>A1F W o.here l q hg
  unfold M3 at b;clear h g hg;go_enter func148,ntmps148;go_wp2_with fail;refine(b.out _ d.out).mono ?_;rintro e n⟨rfl,a⟩;have c:=hid (d.out.below a);clear a;go_wp2_with fail;refine(m.out _ n.heap.size rfl).mono ?_;rintro e r⟨rfl,j,k⟩;have f:=hid (c.out.below k);have p:=hid j;clear j k;go_wp2_with fail;go_ret;exact⟨_,_,rfl,p.out.base c.out.grow.size,f.out⟩
 .have b:Hid (∀W,PW w pb s i W->Calls prog 175 #[.pointer (some ⟨pb,0,none⟩)] W (M3 124 true W)):=hid λW o=>Q4 W o.here l hg
  unfold M3 at b;clear h g hg;go_enter func148,ntmps148;go_wp2_with fail;refine(b.out _ d.out).mono ?_;rintro e n⟨rfl,a⟩;have c:=hid (d.out.below a);clear a;go_wp2_with fail;refine(m.out _ n.heap.size rfl).mono ?_;rintro e r⟨rfl,j,k⟩;have f:=hid (c.out.below k);have p:=hid j;clear j k;go_wp2_with fail;go_ret;exact⟨_,_,rfl,p.out.base c.out.grow.size,f.out⟩
 .have b:Hid (∀W,PW w pb s i W->Calls prog 175 #[.pointer (some ⟨pb,0,none⟩)] W (M3 41 true W)):=hid λW o=>Q4 W o.here l hg
  unfold M3 at b;clear h g hg;go_enter func148,ntmps148;go_wp2_with fail;refine(b.out _ d.out).mono ?_;rintro e n⟨rfl,a⟩;have c:=hid (d.out.below a);clear a;go_wp2_with fail;refine(m.out _ n.heap.size rfl).mono ?_;rintro e r⟨rfl,j,k⟩;have f:=hid (c.out.below k);have p:=hid j;clear j k;go_wp2_with fail;go_ret;exact⟨_,_,rfl,p.out.base c.out.grow.size,f.out⟩
theorem B7l{ev:V_}{pb:Nat}{s:B_}{i:Nat}(w:W_)(h:T9 ev pb s i w)(a:¬O3 s.data.toList i=true){k:Nat}(b:∀W,PW w pb s i W->Calls prog 176 #[.pointer (some ⟨pb,0,none⟩)] W (PS W pb k)):
 Calls prog 148 #[.pointer (some ⟨pb,0,none⟩)] w (PS w pb k):=by
 obtain⟨c,d,z,y⟩:=A2X a;have g:Hid (∀W,PW w pb s i W->Calls prog 175 #[.pointer (some ⟨pb,0,none⟩)] W (M3 c.toNat true W)):=hid λW n=>Q4 W n.here h.sz d
 have t:((c.toNat:Int)==124)=false:=A0I (by omega);have r:((c.toNat:Int)==41)=false:=A0I (by omega);have l:=hid h.pw;unfold M3 at g;have m:=hid b;clear h a d b;unfold PS at *;go_enter func148,ntmps148;go_wp2_with fail;refine(g.out _ l.out).mono ?_;rintro e q⟨rfl,f⟩;have j:=hid (l.out.below f);clear f;go_wp2_with fail;refine(m.out _ j.out).mono ?_;rintro e p⟨rfl,o⟩;exact⟨rfl,rfl,j.out.grow.trans o⟩
theorem B7k{ev:V_}{pb:Nat}{s:B_}{i:Nat}(w:W_)(h:T9 ev pb s i w)(q:¬O3 s.data.toList i=true){t:Rx}{j:Nat}(F:j<=s.size)(l:O3 s.data.toList j=true)(r:∀W,PW w pb s i W->Calls prog 176 #[.pointer (some ⟨pb,0,none⟩)] W (T1 pb s t j W)):
 Calls prog 148 #[.pointer (some ⟨pb,0,none⟩)] w (T1 pb s t j w):=by
 obtain⟨c,y,O,N⟩:=A2X q;have z:Hid (∀W,PW w pb s i W->Calls prog 175 #[.pointer (some ⟨pb,0,none⟩)] W (M3 c.toNat true W)):=hid λW C=>Q4 W C.here h.sz y
 have M:((c.toNat:Int)==124)=false:=A0I (by omega);have L:((c.toNat:Int)==41)=false:=A0I (by omega);have m:=hid h.pw;unfold M3 at z;have E:=hid r;have D:=h.sz;unfold T1 at *;rcases A8H l with hg|hg|hg
 .have f:Hid (∀W,PW w pb s j W->Calls prog 175 #[.pointer (some ⟨pb,0,none⟩)] W (M3 0 false W)):=hid λW C=>A1F W C.here D F hg
  unfold M3 at f;clear h q l y r hg;go_enter func148,ntmps148;go_wp2_with fail;refine(z.out _ m.out).mono ?_;rintro e J⟨rfl,d⟩;have b:=hid (m.out.below d);clear d;go_wp2_with fail;refine(E.out _ b.out).mono ?_;rintro e H⟨g,cap,rfl,B,A⟩;have k:=hid (b.out.trans A);have p:=hid (B.base b.out.grow.size);clear B A;go_wp2_with fail;refine(f.out _ k.out).mono ?_;rintro e G⟨rfl,a⟩;have n:=hid (k.out.below a);have o:=hid (p.out.below a);clear a;go_wp2_with fail;go_ret;exact⟨g,cap,rfl,o.out,n.out⟩
 .have f:Hid (∀W,PW w pb s j W->Calls prog 175 #[.pointer (some ⟨pb,0,none⟩)] W (M3 124 true W)):=hid λW C=>Q4 W C.here D hg
  unfold M3 at f;clear h q l y r hg;go_enter func148,ntmps148;go_wp2_with fail;refine(z.out _ m.out).mono ?_;rintro e J⟨rfl,d⟩;have b:=hid (m.out.below d);clear d;go_wp2_with fail;refine(E.out _ b.out).mono ?_;rintro e H⟨g,cap,rfl,B,A⟩;have k:=hid (b.out.trans A);have p:=hid (B.base b.out.grow.size);clear B A;go_wp2_with fail;refine(f.out _ k.out).mono ?_;rintro e G⟨rfl,a⟩;have n:=hid (k.out.below a);have o:=hid (p.out.below a);clear a;go_wp2_with fail;go_ret;exact⟨g,cap,rfl,o.out,n.out⟩
 .have f:Hid (∀W,PW w pb s j W->Calls prog 175 #[.pointer (some ⟨pb,0,none⟩)] W (M3 41 true W)):=hid λW C=>Q4 W C.here D hg
  unfold M3 at f;clear h q l y r hg;go_enter func148,ntmps148;go_wp2_with fail;refine(z.out _ m.out).mono ?_;rintro e J⟨rfl,d⟩;have b:=hid (m.out.below d);clear d;go_wp2_with fail;refine(E.out _ b.out).mono ?_;rintro e H⟨g,cap,rfl,B,A⟩;have k:=hid (b.out.trans A);have p:=hid (B.base b.out.grow.size);clear B A;go_wp2_with fail;refine(f.out _ k.out).mono ?_;rintro e G⟨rfl,a⟩;have n:=hid (k.out.below a);have o:=hid (p.out.below a);clear a;go_wp2_with fail;go_ret;exact⟨g,cap,rfl,o.out,n.out⟩
theorem B7j{ev:V_}{pb:Nat}{s:B_}{i:Nat}(w:W_)(h:T9 ev pb s i w)(G:¬O3 s.data.toList i=true){t u:Rx}{j k:Nat}(o:¬O3 s.data.toList j=true)(ap:(A0 t).length<=400)(Q:(A0 u).length<=1000)(H:∀W,PW w pb s i W->Calls prog 176 #[.pointer (some ⟨pb,0,none⟩)] W (T1 pb s t j W))(R:∀W,PW w pb s j W->Calls prog 148 #[.pointer (some ⟨pb,0,none⟩)] W (T1 pb s u k W)):
 Calls prog 148 #[.pointer (some ⟨pb,0,none⟩)] w (T1 pb s (.cat t u) k w):=by
 obtain⟨c,P,c1,c2⟩:=A2X G;have X:Hid (∀W,PW w pb s i W->Calls prog 175 #[.pointer (some ⟨pb,0,none⟩)] W (M3 c.toNat true W)):=hid λW hw=>Q4 W hw.here h.sz P
 have d1:((c.toNat:Int)==124)=false:=A0I (by omega);have d2:((c.toNat:Int)==41)=false:=A0I (by omega);have ad:=hid h.pw;unfold M3 at X;have al:=h.sz;obtain⟨c',p,a_,aZ⟩:=A2X o;have V:Hid (∀W,PW w pb s j W->Calls prog 175 #[.pointer (some ⟨pb,0,none⟩)] W (M3 c'.toNat true W)):=hid λW hw=>Q4 W hw.here al p
 have d3:((c'.toNat:Int)==124)=false:=A0I (by omega);have d4:((c'.toNat:Int)==41)=false:=A0I (by omega);unfold M3 at V;obtain⟨i0,O,E,D,C⟩:=A19;have am:=h.pw.lt;have l:=G0 t;obtain⟨N,hN⟩:∃N,N=(A0 t).length:=⟨_,rfl⟩
 have HN:=hid hN;have a:=G0 u;obtain⟨M,hM⟩:∃M,M=(A0 u).length:=⟨_,rfl⟩
 have HM:=hid hM;have aH:=hid λW B hB=>A0u 3 W B hB
 have ae:=hid H;have ah:=hid R;unfold T1 at *;rw[←hN] at ae ap l;rw[←hM] at ah Q a;clear h G o P p H R hN hM;go_enter func148,ntmps148;go_wp2_with fail;refine(X.out _ ad.out).mono ?_;rintro e x1⟨rfl,S⟩;have A:=hid (ad.out.below S);clear S;go_wp2_with fail;refine(ae.out _ A.out).mono ?_;rintro e x2⟨g,cap,rfl,ho,hp⟩;have ac:=hid (A.out.trans hp);have aE:=hid (ho.base A.out.grow.size);clear ho hp;go_wp2_with fail;refine(V.out _ ac.out).mono ?_;rintro e x3⟨rfl,z⟩;have ab:=hid (ac.out.below z);have aD:=hid (aE.out.below z);clear z;go_wp2_with fail;refine(aH.out _ x3.heap.size rfl).mono ?_;rintro e x4⟨rfl,L,y⟩;have aa:=hid (ab.out.below y);have aC:=hid (aD.out.below y);have F:=ab.out.grow.size;have aI:=hid (L.base F);have aj:=aa.out.grow.size;have aK:=hid (aC.out.cells l);have aG:Hid (((A0 t).flatMap P0).length=N*5):=hid (by rw[N1,HN.out]);have aA:=hid (A1f (A0 t));clear L y
 go_wp2_with (at_builtin;refine wpList_append_lies _ rfl (.tmp 42) (.tmp 43) _ rfl w.heap.size 114 i0 _ 5 40 underlying73 O E D C rfl (by omega) _ 1 _ rfl aI.out ⟨g,0,none⟩ N _ ((A0 t).flatMap P0) rfl aG.out aK.out aA.out l (by unfold maxLen;omega) (by omega) aj _ rfl ?_)
 intro g5 T x5 b f _ _;have Z:=hid (aa.out.app f F);have ao:=(b.lt g5 rfl).1
 have ay:Hid (P6 x5 w.heap.size (.slice (some ⟨g5,0,none⟩) (1+N) T) (⟨3,zc⟩::A0 t)):=hid (by
  unfold P6;have e:(⟨3,zc⟩::A0 t:List Nd).length=1+N:=by rw[List.length_cons,←HN.out];omega
  rw[e];exact b)
 clear b f;go_wp2_with fail;refine(ah.out _ Z.out).mono ?_;rintro e x6⟨g6,aS,rfl,J,r⟩;have Y:=hid (Z.out.trans r);have ax:=hid (ay.out.grown r.grow am);have ai:=Y.out.grow.size;have aL:=hid (J.cells a);have aF:Hid (((A0 u).flatMap P0).length=M*5):=hid (by rw[N1,HM.out]);have aB:=hid (A1f (A0 u));have n:=ax.out;unfold P6 at n;have e6:(⟨3,zc⟩::A0 t:List Nd).length=1+N:=by rw[List.length_cons,←HN.out];omega
 rw[e6] at n;have aw:=hid n;clear J r n e6
 go_wp2_with (at_builtin;refine wpList_append_lies _ rfl (.tmp 44) (.tmp 46) _ rfl w.heap.size 114 i0 _ 5 40 underlying73 O E D C rfl (by omega) _ (1+N) _ rfl aw.out ⟨g6,0,none⟩ M _ ((A0 u).flatMap P0) rfl aF.out aL.out aB.out a (by unfold maxLen;omega) (by omega) ai _ rfl ?_)
 intro g7 q x7 m d _ _;have az:=hid (Y.out.app d ao)
 have av:Hid (P6 x7 w.heap.size (.slice (some ⟨g7,0,none⟩) (1+N+M) q) (A0 (.cat t u))):=hid (by
  unfold P6;have e:(A0 (.cat t u)).length=1+N+M:=by show((⟨3,zc⟩:Nd)::(A0 t++A0 u)).length=_;rw[List.length_cons,List.length_append,←HN.out,←HM.out];omega
  have e2:(A0 (.cat t u)).flatMap P0=(⟨3,zc⟩::A0 t:List Nd).flatMap P0++(A0 u).flatMap P0:=by show((⟨3,zc⟩:Nd)::(A0 t++A0 u)).flatMap P0=_;simp[List.flatMap_append]
  rw[e,e2];exact m)
 have ag:Hid ((A0 (.cat t u)).length=1+N+M):=hid (by show((⟨3,zc⟩:Nd)::(A0 t++A0 u)).length=_;rw[List.length_cons,List.length_append,←HN.out,←HM.out];omega);clear m d;go_wp2_with fail;go_ret;refine⟨g7,q,by rw[ag.out];rfl,?_,az.out⟩;rw[ag.out];exact av.out
theorem B0u{ev:V_}{pb:Nat}{s:B_}{i:Nat}(w:W_)(h:T9 ev pb s i w)(q:¬O3 s.data.toList i=true){t:Rx}{j k:Nat}(f:¬O3 s.data.toList j=true)(Z:(A0 t).length<=400)(r:∀W,PW w pb s i W->Calls prog 176 #[.pointer (some ⟨pb,0,none⟩)] W (T1 pb s t j W))(A:∀W,PW w pb s j W->Calls prog 148 #[.pointer (some ⟨pb,0,none⟩)] W (PS W pb k)):
 Calls prog 148 #[.pointer (some ⟨pb,0,none⟩)] w (PS w pb k):=by
 obtain⟨c,z,c1,c2⟩:=A2X q;have F:Hid (∀W,PW w pb s i W->Calls prog 175 #[.pointer (some ⟨pb,0,none⟩)] W (M3 c.toNat true W)):=hid λW V=>Q4 W V.here h.sz z
 have d1:((c.toNat:Int)==124)=false:=A0I (by omega);have d2:((c.toNat:Int)==41)=false:=A0I (by omega);have M:=hid h.pw;unfold M3 at F;have X:=h.sz;obtain⟨c',l,ay,ax⟩:=A2X f;have E:Hid (∀W,PW w pb s j W->Calls prog 175 #[.pointer (some ⟨pb,0,none⟩)] W (M3 c'.toNat true W)):=hid λW V=>Q4 W V.here X l
 have d3:((c'.toNat:Int)==124)=false:=A0I (by omega);have d4:((c'.toNat:Int)==41)=false:=A0I (by omega);unfold M3 at E;obtain⟨i0,Y,S,R,Q⟩:=A19;have au:=h.pw.lt;have d:=G0 t;obtain⟨N,hN⟩:∃N,N=(A0 t).length:=⟨_,rfl⟩
 have HN:=hid hN;have ah:=hid λW B hB=>A0u 3 W B hB
 have O:=hid r;have aj:=hid A;unfold T1 at *;unfold PS at *;rw[←hN] at O Z d;clear h q f z l r A hN;go_enter func148,ntmps148;go_wp2_with fail;refine(F.out _ M.out).mono ?_;rintro e x1⟨rfl,C⟩;have o:=hid (M.out.below C);clear C;go_wp2_with fail;refine(O.out _ o.out).mono ?_;rintro e x2⟨g,cap,rfl,ho,P⟩;have L:=hid (o.out.trans P);have af:=hid (ho.base o.out.grow.size);clear ho P;go_wp2_with fail;refine(E.out _ L.out).mono ?_;rintro e x3⟨rfl,n⟩;have J:=hid (L.out.below n);have ae:=hid (af.out.below n);clear n;go_wp2_with fail;refine(ah.out _ x3.heap.size rfl).mono ?_;rintro e x4⟨rfl,y,m⟩;have H:=hid (J.out.below m);have ad:=hid (ae.out.below m);have p:=J.out.grow.size;have ai:=hid (y.base p);have T:=H.out.grow.size;have ak:=hid (ad.out.cells d);have ag:Hid (((A0 t).flatMap P0).length=N*5):=hid (by rw[N1,HN.out]);have ac:=hid (A1f (A0 t));clear y m
 go_wp2_with (at_builtin;refine wpList_append_lies _ rfl (.tmp 42) (.tmp 43) _ rfl w.heap.size 114 i0 _ 5 40 underlying73 Y S R Q rfl (by omega) _ 1 _ rfl ai.out ⟨g,0,none⟩ N _ ((A0 t).flatMap P0) rfl ag.out ak.out ac.out d (by unfold maxLen;omega) (by omega) T _ rfl ?_)
 intro g5 D x5 a b _ _;have G:=hid (H.out.app b p);have av:=(a.lt g5 rfl).1
 have az:Hid (P6 x5 w.heap.size (.slice (some ⟨g5,0,none⟩) (1+N) D) (⟨3,zc⟩::A0 t)):=hid (by
  unfold P6;have e:(⟨3,zc⟩::A0 t:List Nd).length=1+N:=by rw[List.length_cons,←HN.out];omega
  rw[e];exact a)
 clear a b;go_wp2_with fail;refine(aj.out _ G.out).mono ?_;rintro e x6⟨rfl,P⟩;exact⟨rfl,rfl,G.out.grow.trans P⟩
theorem B8n{ev:V_}{pb:Nat}{s:B_}{i:Nat}(w:W_)(h:T9 ev pb s i w){k:Nat}(a:∀W,PW w pb s i W->Calls prog 148 #[.pointer (some ⟨pb,0,none⟩)] W (PS W pb k)):
 Calls prog 112 #[.pointer (some ⟨pb,0,none⟩)] w (PS w pb k):=by
 have c:=hid a;have b:=hid h.pw;clear h a;unfold PS at *;go_enter func112,ntmps112;go_wp2_with fail;refine(c.out _ b.out).mono ?_;rintro e f⟨rfl,d⟩;exact⟨rfl,rfl,b.out.grow.trans d⟩
theorem B8m{ev:V_}{pb:Nat}{s:B_}{i:Nat}(w:W_)(h:T9 ev pb s i w){t:Rx}{j:Nat}(l:j<=s.size)(y:s.data.toList[j]?≠some 124)(d:∀W,PW w pb s i W->Calls prog 148 #[.pointer (some ⟨pb,0,none⟩)] W (T1 pb s t j W)):
 Calls prog 112 #[.pointer (some ⟨pb,0,none⟩)] w (T1 pb s t j w):=by
 have p:=hid d;have b:=hid h.pw;have k:=h.sz;have A:Hid (∀W,PW w pb s j W->Calls prog 149 #[.pointer (some ⟨pb,0,none⟩),.int .u8 124] W (t8 W)):=hid λW z=>A5Y (c:=124) W z.here k l y
 unfold T1 at *;clear h d y;go_enter func112,ntmps112;go_wp2_with fail;refine(p.out _ b.out).mono ?_;rintro e C⟨g,cap,rfl,r,q⟩;have f:=hid (b.out.trans q);have o:=hid (r.base b.out.grow.size);clear r q;go_wp2_with fail;refine(A.out _ f.out).mono ?_;rintro e B⟨rfl,a⟩;have m:=hid (f.out.below a);have n:=hid (o.out.below a);clear a;go_wp2_with fail;go_ret;exact⟨g,cap,rfl,n.out,m.out⟩
theorem B8l{ev:V_}{pb:Nat}{s:B_}{i:Nat}(w:W_)(h:T9 ev pb s i w){t u:Rx}{j k:Nat}(hj:s.data.toList[j]?=some 124)(af:(A0 t).length<=1000)(L:(A0 u).length<=1000)(O:∀W,PW w pb s i W->Calls prog 148 #[.pointer (some ⟨pb,0,none⟩)] W (T1 pb s t j W))(F:∀W,PW w pb s (j+1) W->Calls prog 112 #[.pointer (some ⟨pb,0,none⟩)] W (T1 pb s u k W)):
 Calls prog 112 #[.pointer (some ⟨pb,0,none⟩)] w (T1 pb s (.alt t u) k w):=by
 have aa:=hid O;have X:=hid F;have y:=hid h.pw;have ad:=h.sz;have YS:Hid (∀W,PW w pb s j W->Calls prog 149 #[.pointer (some ⟨pb,0,none⟩),.int .u8 124] W (E9 pb s j W)):=hid λW hw=>A07 (c:=124) W hw.here ad hj
 have ax:=hid λW B hB=>A0u 4 W B hB
 obtain⟨i0,J,C,A,z⟩:=A19;have E:=h.pw.lt;have l:=G0 t;obtain⟨N,hN⟩:∃N,N=(A0 t).length:=⟨_,rfl⟩
 have Y:=hid hN;have a:=G0 u;obtain⟨M,hM⟩:∃M,M=(A0 u).length:=⟨_,rfl⟩
 have HM:=hid hM;unfold T1 at *;rw[←hN] at aa af l;rw[←hM] at X L a;clear h O F hj hN hM;go_enter func112,ntmps112;go_wp2_with fail;refine(aa.out _ y.out).mono ?_;rintro e x2⟨g,cap,rfl,ho,hp⟩;have V:=hid (y.out.trans hp);have au:=hid (ho.base y.out.grow.size);clear ho hp;go_wp2_with fail;refine(YS.out _ V.out).mono ?_;rintro e x3⟨rfl,q⟩;have T:=hid (V.out.trans q);have ar:=hid (au.out.grown q.grow E);clear q;go_wp2_with fail;refine(ax.out _ x3.heap.size rfl).mono ?_;rintro e x4⟨rfl,H,r⟩;have S:=hid (T.out.below r);have aq:=hid (ar.out.below r);have D:=T.out.grow.size;have ay:=hid (H.base D);have ac:=S.out.grow.size;have aA:=hid (aq.out.cells l);have aw:Hid (((A0 t).flatMap P0).length=N*5):=hid (by rw[N1,Y.out]);have ao:=hid (A1f (A0 t));clear H r
 go_wp2_with (at_builtin;refine wpList_append_lies _ rfl (.tmp 10) (.tmp 11) _ rfl w.heap.size 114 i0 _ 5 40 underlying73 J C A z rfl (by omega) _ 1 _ rfl ay.out ⟨g,0,none⟩ N _ ((A0 t).flatMap P0) rfl aw.out aA.out ao.out l (by unfold maxLen;omega) (by omega) ac _ rfl ?_)
 intro g5 P x5 b f _ _;have R:=hid (S.out.app f D);have ae:=(b.lt g5 rfl).1
 have al:Hid (P6 x5 w.heap.size (.slice (some ⟨g5,0,none⟩) (1+N) P) (⟨4,zc⟩::A0 t)):=hid (by
  unfold P6;have e:(⟨4,zc⟩::A0 t:List Nd).length=1+N:=by rw[List.length_cons,←Y.out];omega
  rw[e];exact b)
 clear b f;go_wp2_with fail;refine(X.out _ R.out).mono ?_;rintro e x6⟨g6,aJ,rfl,G,p⟩;have Q:=hid (R.out.trans p);have ak:=hid (al.out.grown p.grow E);have ab:=Q.out.grow.size;have aB:=hid (G.cells a);have av:Hid (((A0 u).flatMap P0).length=M*5):=hid (by rw[N1,HM.out]);have ap:=hid (A1f (A0 u));have n:=ak.out;unfold P6 at n;have e6:(⟨4,zc⟩::A0 t:List Nd).length=1+N:=by rw[List.length_cons,←Y.out];omega
 rw[e6] at n;have aj:=hid n;clear G p n e6
 go_wp2_with (at_builtin;refine wpList_append_lies _ rfl (.tmp 12) (.tmp 14) _ rfl w.heap.size 114 i0 _ 5 40 underlying73 J C A z rfl (by omega) _ (1+N) _ rfl aj.out ⟨g6,0,none⟩ M _ ((A0 u).flatMap P0) rfl av.out aB.out ap.out a (by unfold maxLen;omega) (by omega) ab _ rfl ?_)
 intro g7 o x7 m d _ _;have am:=hid (Q.out.app d ae)
 have ai:Hid (P6 x7 w.heap.size (.slice (some ⟨g7,0,none⟩) (1+N+M) o) (A0 (.alt t u))):=hid (by
  unfold P6;have e:(A0 (.alt t u)).length=1+N+M:=by show((⟨4,zc⟩:Nd)::(A0 t++A0 u)).length=_;rw[List.length_cons,List.length_append,←Y.out,←HM.out];omega
  have e2:(A0 (.alt t u)).flatMap P0=(⟨4,zc⟩::A0 t:List Nd).flatMap P0++(A0 u).flatMap P0:=by show((⟨4,zc⟩:Nd)::(A0 t++A0 u)).flatMap P0=_;simp[List.flatMap_append]
  rw[e,e2];exact m)
 have Z:Hid ((A0 (.alt t u)).length=1+N+M):=hid (by show((⟨4,zc⟩:Nd)::(A0 t++A0 u)).length=_;rw[List.length_cons,List.length_append,←Y.out,←HM.out];omega);clear m d;go_wp2_with fail;go_ret;refine⟨g7,o,by rw[Z.out];rfl,?_,am.out⟩;rw[Z.out];exact ai.out
theorem B2m{ev:V_}{pb:Nat}{s:B_}{i:Nat}(w:W_)(h:T9 ev pb s i w){t:Rx}{j k:Nat}(hj:s.data.toList[j]?=some 124)(P:(A0 t).length<=1000)(q:∀W,PW w pb s i W->Calls prog 148 #[.pointer (some ⟨pb,0,none⟩)] W (T1 pb s t j W))(o:∀W,PW w pb s (j+1) W->Calls prog 112 #[.pointer (some ⟨pb,0,none⟩)] W (PS W pb k)):
 Calls prog 112 #[.pointer (some ⟨pb,0,none⟩)] w (PS w pb k):=by
 have D:=hid q;have R:=hid o;have m:=hid h.pw;have L:=h.sz;have YS:Hid (∀W,PW w pb s j W->Calls prog 149 #[.pointer (some ⟨pb,0,none⟩),.int .u8 124] W (E9 pb s j W)):=hid λW hw=>A07 (c:=124) W hw.here L hj
 have Z:=hid λW B hB=>A0u 4 W B hB
 obtain⟨i0,O,H,G,F⟩:=A19;have M:=h.pw.lt;have d:=G0 t;obtain⟨N,Q⟩:∃N,N=(A0 t).length:=⟨_,rfl⟩
 have HN:=hid Q;unfold T1 at *;unfold PS at *;rw[←Q] at D P d;clear h q o hj Q;go_enter func112,ntmps112;go_wp2_with fail;refine(D.out _ m.out).mono ?_;rintro e x2⟨g,cap,rfl,ho,E⟩;have C:=hid (m.out.trans E);have X:=hid (ho.base m.out.grow.size);clear ho E;go_wp2_with fail;refine(YS.out _ C.out).mono ?_;rintro e x3⟨rfl,f⟩;have A:=hid (C.out.trans f);have V:=hid (X.out.grown f.grow M);clear f;go_wp2_with fail;refine(Z.out _ x3.heap.size rfl).mono ?_;rintro e x4⟨rfl,p,l⟩;have z:=hid (A.out.below l);have T:=hid (V.out.below l);have n:=A.out.grow.size;have aa:=hid (p.base n);have J:=z.out.grow.size;have ab:=hid (T.out.cells d);have Y:Hid (((A0 t).flatMap P0).length=N*5):=hid (by rw[N1,HN.out]);have S:=hid (A1f (A0 t));clear p l
 go_wp2_with (at_builtin;refine wpList_append_lies _ rfl (.tmp 10) (.tmp 11) _ rfl w.heap.size 114 i0 _ 5 40 underlying73 O H G F rfl (by omega) _ 1 _ rfl aa.out ⟨g,0,none⟩ N _ ((A0 t).flatMap P0) rfl Y.out ab.out S.out d (by unfold maxLen;omega) (by omega) J _ rfl ?_)
 intro g5 r x5 a b _ _;have y:=hid (z.out.app b n);have ak:=(a.lt g5 rfl).1
 have ao:Hid (P6 x5 w.heap.size (.slice (some ⟨g5,0,none⟩) (1+N) r) (⟨4,zc⟩::A0 t)):=hid (by
  unfold P6;have e:(⟨4,zc⟩::A0 t:List Nd).length=1+N:=by rw[List.length_cons,←HN.out];omega
  rw[e];exact a)
 clear a b;go_wp2_with fail;refine(R.out _ y.out).mono ?_;rintro e x6⟨rfl,E⟩;exact⟨rfl,rfl,y.out.grow.trans E⟩
theorem B4Z{ev:V_}{pb:Nat}{s:B_}:∀(n i:Nat)(W:W_),s.size - i<n->T9 ev pb s i W ->
 Calls prog 148 #[.pointer (some ⟨pb,0,none⟩)] W (RdT (V6 s.data.toList i) pb s W)/\Calls prog 112 #[.pointer (some ⟨pb,0,none⟩)] W (RdT (W9 s.data.toList i) pb s W):=by
 intro n
 induction n with
 | zero=>intro i W P;omega
 | succ n ih =>
   intro i W P h;have o:=h.le;have z:=O7 s
   have hat:∀d,PW W pb s i d->Calls prog 197 #[.pointer (some ⟨pb,0,none⟩)] d (RdT (P3 s.data.toList i) pb s d):=λd m =>
    B9G d (h.next m o) (λM a b=>by
     have:=V0 M;rw[z] at this;exact(ih (i+1) a (by omega) ((h.next m o).next b (by omega))).2)
   have C:=M6 (s:=s.data.toList) _ i (lr_ _) (by rw[z];exact o)
   have l:∀d,PW W pb s i d->Calls prog 148 #[.pointer (some ⟨pb,0,none⟩)] d (RdT (V6 s.data.toList i) pb s d):=by
    intro d m;have h':=h.next m o;by_cases f:O3 s.data.toList i=true
    .exact(B5m d h' f).mono λe w' c=>.inl ⟨.empty,i,by rw[V6,if_pos f],c⟩
    .cases hA:P3 s.data.toList i with
     | bad k =>
       exact(B7l d h' f (λa b=>B2r a (h'.next b o) ((hat a (m.trans b)).mono λe w' c=>c.bad hA))).mono λe w' c=>.inr ⟨k,by rw[V6,if_neg f,hA],c⟩
     | ok t j =>
       obtain⟨D,p,y,L⟩:=C.1 t j hA;obtain⟨S,F,R,Q,_⟩:=Z9 _ j t (lr_ _) p y
       have A:∀a,PW d pb s i a->Calls prog 176 #[.pointer (some ⟨pb,0,none⟩)] a (T1 pb s (R0 s.data.toList j t).1 (R0 s.data.toList j t).2 a):=λa b =>
        (B4n a (h'.next b o) (by rw[z] at p;exact p) (by omega) ((hat a (m.trans b)).mono λe w' c=>c.ok hA)).mono (by
          rintro e w'⟨G,r,O,N⟩;rw[O];exact N)
       have q:V6 s.data.toList i=if O3 s.data.toList (R0 s.data.toList j t).2=true then .ok (R0 s.data.toList j t).1 (R0 s.data.toList j t).2
        else match V6 s.data.toList (R0 s.data.toList j t).2 with
         | .bad k=>.bad k
         | .ok u k=>.ok (.cat (R0 s.data.toList j t).1 u) k:=by
        rw[V6,if_neg f,hA];dsimp only;rw[if_pos (show i<(R0 s.data.toList j t).2/\i<=s.data.toList.length from⟨by omega,by omega⟩)]
        rfl
       generalize (R0 s.data.toList j t).1=G at *;generalize (R0 s.data.toList j t).2=r at *;rw[z] at F;by_cases hst2:O3 s.data.toList r=true
       .exact(B7k d h' f F hst2 A).mono λe w' c=>.inl ⟨G,r,by rw[q,if_pos hst2],c⟩
       .rw[if_neg hst2] at q
        have H:=h.sz;have g:∀a,PW d pb s r a->Calls prog 148 #[.pointer (some ⟨pb,0,none⟩)] a (RdT (V6 s.data.toList r) pb s a):=λa b=>(ih r a (by omega) (h'.next b F)).1
        cases hC:V6 s.data.toList r with
        | bad k=>exact(B0u d h' f hst2 (by omega) A (λa b=>(g a b).mono λe w' c=>c.bad hC)).mono λe w' c=>.inr ⟨k,by rw[q,hC],c⟩
        | ok u k =>
          have B:=(M6 (s:=s.data.toList) _ r (lr_ _) (by rw[z];exact F)).2.1 u k hC;exact(B7j d h' f hst2 (by omega) (by have:=B.2.1;have:=B.2.2.2.1;omega) A (λa b=>(g a b).mono λe w' c=>c.ok hC)).mono λe w' c=>.inl ⟨.cat G u,k,by rw[q,hC],c⟩
   refine⟨l W h.pw,?_⟩;cases hA:V6 s.data.toList i with
   | bad k=>exact(B8n W h (λd m=>(l d m).mono λe w' c=>c.bad hA)).mono λe w' c=>.inr ⟨k,by rw[W9,hA],c⟩
   | ok t j =>
     obtain⟨D,p,y,L,f⟩:=C.2.1 t j hA;have H:=h.sz;have hjs':=p;rw[z] at hjs';by_cases hj:s.data.toList[j]?=some 124
     .have J:=V0 hj
      rw[z] at J
      have E:W9 s.data.toList i=match W9 s.data.toList (j+1) with
       | .bad k=>.bad k
       | .ok u k=>.ok (.alt t u) k:=by
       rw[W9,hA];dsimp only;rw[if_pos hj,if_pos (show i<=j/\i<=s.data.toList.length from⟨D,by omega⟩)]
       rfl
      have g:∀a,PW W pb s (j+1) a->Calls prog 112 #[.pointer (some ⟨pb,0,none⟩)] a (RdT (W9 s.data.toList (j+1)) pb s a):=λa b=>(ih (j+1) a (by omega) (h.next b (by omega))).2
      cases hC:W9 s.data.toList (j+1) with
      | bad k=>exact(B2m W h hj (by omega) (λd m=>(l d m).mono λe w' c=>c.ok hA) (λa b=>(g a b).mono λe w' c=>c.bad hC)).mono λe w' c=>.inr ⟨k,by rw[E,hC],c⟩
      | ok u k =>
        have B:=(M6 (s:=s.data.toList) _ (j+1) (lr_ _) (by rw[z];omega)).2.2 u k hC;exact(B8l W h hj (by omega) (by have:=B.2.1;have:=B.2.2.2.1;omega) (λd m=>(l d m).mono λe w' c=>c.ok hA) (λa b=>(g a b).mono λe w' c=>c.ok hC)).mono λe w' c=>.inl ⟨.alt t u,k,by rw[E,hC],c⟩
     .exact(B8m W h hjs' hj (λd m=>(l d m).mono λe w' c=>c.ok hA)).mono λe w' c=>.inl ⟨t,j,by rw[W9,hA];dsimp only;rw[if_neg hj],c⟩
